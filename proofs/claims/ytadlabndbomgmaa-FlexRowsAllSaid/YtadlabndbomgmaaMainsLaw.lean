/- Plain facts on how long flexible items become, behind all turns. No program in sight. -/
import Derived.Test.YtadlabndbomgmaaMainsPlain
namespace Go.Proofs.Ytadlabndbomgmaa
/-- Which items are settled ahead of all turns. -/
def setO (grows : Bool) (x : Fx) : Bool := ((facO grows x == 0) || (grows && decide (x.lng < x.b))) || (!grows && decide (x.b < x.lng))
def its1 (grows : Bool) (xs : List Fx) : Its := ⟨fun i => setO grows (fxAt xs i), fun i => if setO grows (fxAt xs i) then (fxAt xs i).lng else 0⟩
def roomO (room gap : Int) (n : Nat) : Int := cut room - max 0 (cut gap) * max 0 ((n : Int) - 1)
def growsO (R : Int) (xs : List Fx) : Bool := decide (0 < nowTo R xs (fun i => (fxAt xs i).lng) xs.length)
def runO (R : Int) (grows : Bool) (xs : List Fx) (first : Int) : Nat → Its → Its
  | 0, st => st
  | k + 1, st => if 0 < openC st.set xs.length then runO R grows xs first k (turnO R grows xs first st) else st
def firstO (R : Int) (grows : Bool) (xs : List Fx) : Int := nowTo R xs (valO xs (its1 grows xs)) xs.length
def endR (R : Int) (grows : Bool) (xs : List Fx) : Its := runO R grows xs (firstO R grows xs) xs.length (its1 grows xs)
def endO (room gap : Int) (xs : List Fx) : Its := endR (roomO room gap xs.length) (growsO (roomO room gap xs.length) xs) xs
def mainsTo (st : Its) (k : Nat) : List Int := (List.range k).map fun i => max 0 (st.is i)
def mainsO (room gap : Int) (xs : List Fx) : List Int := mainsTo (endO room gap xs) xs.length
theorem mainsTo_succ (st : Its) (k : Nat) : mainsTo st (k + 1) = mainsTo st k ++ [max 0 (st.is k)] := by
  unfold mainsTo; rw [List.range_succ, List.map_append]; rfl
theorem mainsTo_length (st : Its) (k : Nat) : (mainsTo st k).length = k := by simp [mainsTo]
theorem mainsTo_at (st : Its) (n k : Nat) (h : k < n) : at0 (mainsTo st n) k = max 0 (st.is k) := by
  rw [at0_of _ k (by rw [mainsTo_length]; exact h)]; simp [mainsTo]
theorem openC_len (f : Nat → Bool) (k : Nat) : openC f k ≤ k := by
  induction k with
  | zero => exact Nat.le_refl _
  | succ k ih => simp only [openC]; split <;> omega
theorem turnO_less (R first : Int) (grows : Bool) (xs : List Fx) (st : Its) (h : 0 < openC st.set xs.length) : openC (turnO R grows xs first st).set xs.length < openC st.set xs.length := turn_less xs st _ h
theorem run_all (R first : Int) (grows : Bool) (xs : List Fx) : ∀ (k : Nat) (st : Its), openC st.set xs.length ≤ k → openC (runO R grows xs first k st).set xs.length = 0
  | 0, st, h => Nat.le_zero.1 h
  | k + 1, st, h => by
    simp only [runO]
    split
    · rename_i hp
      exact run_all R first grows xs k _ (by have := turnO_less R first grows xs st hp; omega)
    · omega
theorem run_ok {xs : List Fx} (hok : ∀ x ∈ xs, x.ok) (R first : Int) (grows : Bool) : ∀ (k : Nat) (st : Its), itsOk xs st → itsOk xs (runO R grows xs first k st)
  | 0, _, h => h
  | k + 1, st, h => by
    simp only [runO]
    split
    · exact run_ok hok R first grows k _ (turn_ok hok h _)
    · exact h
theorem its1_ok {xs : List Fx} (hok : ∀ x ∈ xs, x.ok) (grows : Bool) : itsOk xs (its1 grows xs) := by
  intro i _ hs
  have hs' : setO grows (fxAt xs i) = true := hs
  simp only [its1, hs', if_true]
  exact betw_ok (fxAt_ok hok i) _
theorem run_stop (R first : Int) (grows : Bool) (xs : List Fx) (st : Its) (h : openC st.set xs.length = 0) : ∀ k, runO R grows xs first k st = st
  | 0 => rfl
  | k + 1 => by simp [runO, h]
theorem val_bd {xs : List Fx} (hok : ∀ x ∈ xs, x.ok) {st : Its} (h : itsOk xs st) (k : Nat) (hk : k < xs.length) : -16777216 ≤ valO xs st k ∧ valO xs st k ≤ 16777216 := by
  have h1 := fxAt_ok hok k
  unfold Fx.ok at h1
  unfold valO
  split
  · rename_i hs
    have h2 := h k hk hs
    unfold okIs at h2
    omega
  · omega
theorem roomO_bd (room gap : Int) (n : Nat) (h : n ≤ 20) : -1000000000 ≤ roomO room gap n ∧ roomO room gap n ≤ 1000000000 := by
  have h1 := cut_lo room
  have h2 := cut_hi room
  have h3 := cut_hi gap
  have h4 : 0 ≤ max 0 (cut gap) * max 0 ((n : Int) - 1) := Int.mul_nonneg (by omega) (by omega)
  have h5 : max 0 (cut gap) * max 0 ((n : Int) - 1) ≤ 16777216 * 20 := Int.mul_le_mul (by omega) (by omega) (by omega) (by omega)
  unfold roomO
  omega
/-- No item is below its least, nor above its most. -/
theorem bounds_law (room gap : Int) {xs : List Fx} (hok : ∀ x ∈ xs, x.ok) (i : Nat) (hi : i < xs.length) :
    (fxAt xs i).le ≤ at0 (mainsO room gap xs) i ∧ (0 ≤ (fxAt xs i).mo → at0 (mainsO room gap xs) i ≤ max (fxAt xs i).mo (fxAt xs i).le) := by
  have h1 := fxAt_ok hok i
  have h2 : itsOk xs (endO room gap xs) := run_ok hok _ _ _ _ _ (its1_ok hok _)
  have h3 : openC (endO room gap xs).set xs.length = 0 := run_all _ _ _ _ _ _ (openC_len _ _)
  have h4 := h2 i hi (openC_zero h3 i hi)
  unfold Fx.ok at h1
  unfold okIs at h4
  unfold mainsO
  rw [mainsTo_at _ _ _ hi]
  omega
theorem run_fill {R first : Int} {xs : List Fx} (h : ∀ x ∈ xs, x.ok) (hg : growers xs) (hl : xs.length ≤ 12) (hr : R ≤ 8388608) (hlt : sumLen xs (fun i => (fxAt xs i).lng) < R) :
    ∀ (k : Nat) (st : Its), openC st.set xs.length ≤ k → fillI R xs st → sumLen xs (runO R true xs first k st).is = R
  | 0, st, hk, hI => by
    rcases hI with ⟨⟨i, hi, hs⟩, _⟩ | ⟨_, h2⟩
    · have := openC_zero (Nat.le_zero.1 hk) i hi
      rw [hs] at this; cases this
    · exact h2
  | k + 1, st, hk, hI => by
    simp only [runO]
    split
    · rename_i hp
      refine run_fill h hg hl hr hlt k _ (by have := turnO_less R first true xs st hp; omega) ?_
      rcases hI with hI | ⟨h1, _⟩
      · exact turn_fill h hg hl hr hlt hI
      · obtain ⟨i, hi, hs⟩ := openC_pos hp
        rw [h1 i hi] at hs; cases hs
    · rename_i hp
      rcases hI with ⟨⟨i, hi, hs⟩, _⟩ | ⟨_, h2⟩
      · have := openC_zero (show openC st.set xs.length = 0 by omega) i hi
        rw [hs] at this; cases this
      · exact h2
/-- Where all may grow the room is filled. -/
theorem fill_law (room gap : Int) {xs : List Fx} (h : ∀ x ∈ xs, x.ok) (hg : growers xs) (h0 : 0 < xs.length) (hl : xs.length ≤ 12) (hr : -8388608 ≤ room ∧ room ≤ 8388607) (hgap : 0 ≤ gap ∧ gap ≤ 255)
    (hlong : gap * ((xs.length : Int) - 1) + fsum (fun i => max (fxAt xs i).b (fxAt xs i).le + (fxAt xs i).e) xs.length < room) :
    gap * ((xs.length : Int) - 1) + fsum (fun i => at0 (mainsO room gap xs) i + (fxAt xs i).e) xs.length = room := by
  have hR : roomO room gap xs.length = room - gap * ((xs.length : Int) - 1) := by
    unfold roomO
    rw [cut_of (by omega) (by omega), cut_of (by omega) (by omega), show max 0 gap = gap by omega, show max 0 ((xs.length : Int) - 1) = (xs.length : Int) - 1 by omega]
  have hg0 : 0 ≤ gap * ((xs.length : Int) - 1) := Int.mul_nonneg (by omega) (by omega)
  have hs : sumLen xs (fun i => (fxAt xs i).lng) = fsum (fun i => max (fxAt xs i).b (fxAt xs i).le + (fxAt xs i).e) xs.length := fsum_congr fun i hi => by
    show (fxAt xs i).lng + (fxAt xs i).e = _
    rw [lng_grow h hg hi]
  have hlt : sumLen xs (fun i => (fxAt xs i).lng) < roomO room gap xs.length := by rw [hs, hR]; omega
  have hgr : growsO (roomO room gap xs.length) xs = true := by
    unfold growsO
    refine decide_eq_true ?_
    have : nowTo (roomO room gap xs.length) xs (fun i => (fxAt xs i).lng) xs.length = roomO room gap xs.length - sumLen xs (fun i => (fxAt xs i).lng) := rfl
    omega
  have hno : ∀ i, i < xs.length → setO true (fxAt xs i) = false := fun i hi => by
    have h1 := lng_grow h hg hi
    have h2 := (hg i hi).2
    unfold setO facO
    simp
    omega
  have hI : fillI (roomO room gap xs.length) xs (its1 true xs) := .inl ⟨⟨0, h0, hno 0 h0⟩, fun i hi hs => by
    have h1 : setO true (fxAt xs i) = true := hs
    rw [hno i hi] at h1; cases h1⟩
  have hfin := run_fill (first := firstO (roomO room gap xs.length) true xs) h hg hl (by omega) hlt xs.length (its1 true xs) (openC_len _ _) hI
  have hend : endO room gap xs = runO (roomO room gap xs.length) true xs (firstO (roomO room gap xs.length) true xs) xs.length (its1 true xs) := by
    unfold endO endR; rw [hgr]
  have hsum : fsum (fun i => at0 (mainsO room gap xs) i + (fxAt xs i).e) xs.length = sumLen xs (endO room gap xs).is := fsum_congr fun i hi => by
    have h2 : itsOk xs (endO room gap xs) := run_ok h _ _ _ _ _ (its1_ok h _)
    have h3 : openC (endO room gap xs).set xs.length = 0 := run_all _ _ _ _ _ _ (openC_len _ _)
    have h4 := h2 i hi (openC_zero h3 i hi)
    have h1 := fxAt_ok h i
    unfold Fx.ok at h1
    unfold okIs at h4
    unfold mainsO
    show _ = (endO room gap xs).is i + (fxAt xs i).e
    rw [mainsTo_at _ _ _ hi]
    omega
  rw [hsum, hend, hfin, hR]
  omega
/-- Two items, as the fact that is held against them says. -/
def flexedXs : List Fx := [⟨20, 0, -1, 1000, 0, 0⟩, ⟨20, 0, -1, 2000, 0, 0⟩]
theorem flexed_is : mainsO 100 10 flexedXs = [36, 54] := by decide +kernel
end Go.Proofs.Ytadlabndbomgmaa
