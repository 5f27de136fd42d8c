/- Plain facts on the turns in which flexible items are settled. No program in sight. -/
import Derived.Test.YtadlabndbomgmaaFlexPlain
namespace Go.Proofs.Ytadlabndbomgmaa
def fsum (f : Nat → Int) : Nat → Int
  | 0 => 0
  | k + 1 => fsum f k + f k
theorem fsum_congr {f g : Nat → Int} {k : Nat} (h : ∀ i, i < k → f i = g i) : fsum f k = fsum g k := by
  induction k with
  | zero => rfl
  | succ k ih => simp only [fsum]; rw [ih fun i hi => h i (by omega), h k (by omega)]
theorem fsum_add (f g : Nat → Int) (k : Nat) : fsum (fun i => f i + g i) k = fsum f k + fsum g k := by
  induction k with
  | zero => rfl
  | succ k ih => simp only [fsum]; rw [ih]; omega
theorem fsum_le {f g : Nat → Int} {k : Nat} (h : ∀ i, i < k → f i ≤ g i) : fsum f k ≤ fsum g k := by
  induction k with
  | zero => exact Int.le_refl _
  | succ k ih => simp only [fsum]; have := ih fun i hi => h i (by omega); have := h k (by omega); omega
theorem fsum_bd {f : Nat → Int} {lo hi : Int} {k : Nat} (h : ∀ i, i < k → lo ≤ f i ∧ f i ≤ hi) : lo * k ≤ fsum f k ∧ fsum f k ≤ hi * k := by
  induction k with
  | zero => simp [fsum]
  | succ k ih =>
    have h1 := ih fun i hi => h i (by omega)
    have h2 := h k (by omega)
    have e1 : lo * ((k + 1 : Nat) : Int) = lo * k + lo := by rw [Int.natCast_add, Int.mul_add]; simp
    have e2 : hi * ((k + 1 : Nat) : Int) = hi * k + hi := by rw [Int.natCast_add, Int.mul_add]; simp
    simp only [fsum]; omega
theorem fsum_nonneg {f : Nat → Int} {k : Nat} (h : ∀ i, i < k → 0 ≤ f i) : 0 ≤ fsum f k := by
  induction k with
  | zero => exact Int.le_refl _
  | succ k ih => simp only [fsum]; have := ih fun i hi => h i (by omega); have := h k (by omega); omega
theorem fsum_pos {f : Nat → Int} {k : Nat} (h : 0 < fsum f k) : ∃ i, i < k ∧ 0 < f i := by
  induction k with
  | zero => simp [fsum] at h
  | succ k ih =>
    simp only [fsum] at h
    by_cases hk : 0 < f k
    · exact ⟨k, by omega, hk⟩
    · obtain ⟨i, h1, h2⟩ := ih (by omega); exact ⟨i, by omega, h2⟩
theorem fsum_neg {f : Nat → Int} {k : Nat} (h : fsum f k < 0) : ∃ i, i < k ∧ f i < 0 := by
  induction k with
  | zero => simp [fsum] at h
  | succ k ih =>
    simp only [fsum] at h
    by_cases hk : f k < 0
    · exact ⟨k, by omega, hk⟩
    · obtain ⟨i, h1, h2⟩ := ih (by omega); exact ⟨i, by omega, h2⟩
theorem fsum_one {f : Nat → Int} {k i : Nat} (h : ∀ j, j < k → 0 ≤ f j) (hi : i < k) : f i ≤ fsum f k := by
  induction k with
  | zero => omega
  | succ k ih =>
    simp only [fsum]
    by_cases e : i = k
    · subst e; have := fsum_nonneg (f := f) (k := i) fun j hj => h j (by omega); omega
    · have := ih (fun j hj => h j (by omega)) (by omega); have := h k (by omega); omega
theorem fsum_zero {f : Nat → Int} {k : Nat} (h : ∀ j, j < k → 0 ≤ f j) (hz : fsum f k = 0) : ∀ i, i < k → f i = 0 := fun i hi => by
  have := fsum_one h hi; have := h i hi; omega
theorem psum_fsum (l : List Int) (k : Nat) (h : k ≤ l.length) : psum l k = fsum (at0 l) k := by
  induction k with
  | zero => rfl
  | succ k ih => rw [psum_succ l k (by omega), ih (by omega)]; rfl
/-- How many of the first k are not settled. -/
def openC (f : Nat → Bool) : Nat → Nat
  | 0 => 0
  | k + 1 => openC f k + if f k then 0 else 1
theorem openC_le {f g : Nat → Bool} {k : Nat} (h : ∀ i, i < k → f i = true → g i = true) : openC g k ≤ openC f k := by
  induction k with
  | zero => exact Nat.le_refl _
  | succ k ih =>
    simp only [openC]
    have h1 := ih fun i hi => h i (by omega)
    have h2 := h k (by omega)
    cases hf : f k <;> cases hg : g k <;> simp_all <;> omega
theorem openC_lt {f g : Nat → Bool} {k i : Nat} (h : ∀ i, i < k → f i = true → g i = true) (hi : i < k) (hf : f i = false) (hg : g i = true) : openC g k < openC f k := by
  induction k with
  | zero => omega
  | succ k ih =>
    simp only [openC]
    by_cases e : i = k
    · subst e
      have := openC_le (f := f) (g := g) (k := i) fun j hj => h j (by omega)
      simp [hf, hg]; omega
    · have h1 := ih (fun j hj => h j (by omega)) (by omega)
      have h2 := h k (by omega)
      cases hfk : f k <;> cases hgk : g k <;> simp_all <;> omega
theorem openC_pos {f : Nat → Bool} {k : Nat} (h : 0 < openC f k) : ∃ i, i < k ∧ f i = false := by
  induction k with
  | zero => simp [openC] at h
  | succ k ih =>
    simp only [openC] at h
    by_cases hk : f k = true
    · rw [if_pos hk] at h; obtain ⟨i, h1, h2⟩ := ih (by omega); exact ⟨i, by omega, h2⟩
    · exact ⟨k, by omega, by simpa using hk⟩
theorem openC_zero {f : Nat → Bool} {k : Nat} (h : openC f k = 0) : ∀ i, i < k → f i = true := by
  induction k with
  | zero => intro i hi; omega
  | succ k ih =>
    simp only [openC] at h
    intro i hi
    by_cases e : i = k
    · subst e; cases hf : f i <;> simp_all
    · exact ih (by omega) i (by omega)
/-- The state of items: is it settled, and where. -/
structure Its where
  set : Nat → Bool
  is : Nat → Int
def valO (xs : List Fx) (st : Its) (i : Nat) : Int := if st.set i then st.is i else (fxAt xs i).b
def nowTo (room : Int) (xs : List Fx) (v : Nat → Int) (k : Nat) : Int := room - fsum (fun i => v i + (fxAt xs i).e) k
def facO (grows : Bool) (x : Fx) : Int := if grows then x.g else x.s
def facTo (grows : Bool) (xs : List Fx) (st : Its) (k : Nat) : Int := fsum (fun i => if st.set i then 0 else facO grows (fxAt xs i)) k
def wtO (grows : Bool) (xs : List Fx) (st : Its) (i : Nat) : Int := if st.set i then 0 else if grows then (fxAt xs i).g else partOf (fxAt xs i).s (max 0 (fxAt xs i).b) 64
def wtsO (grows : Bool) (xs : List Fx) (st : Its) : List Int := (List.range xs.length).map (wtO grows xs st)
def partsO (grows : Bool) (free : Int) (ws : List Int) : List Int := if grows then shared (max 0 free) ws else (shared (max 0 (-free)) ws).map fun x => -x
def nearO (a b : Int) : Int := if max b (-b) < max a (-a) then b else a
def freeO (room : Int) (grows : Bool) (xs : List Fx) (st : Its) (first : Int) : Int :=
  if facTo grows xs st xs.length < 1000 then nearO (nowTo room xs (valO xs st) xs.length) (partOf first (facTo grows xs st xs.length) 1000) else nowTo room xs (valO xs st) xs.length
def wouldO (xs : List Fx) (ps : List Int) (i : Nat) : Int := (fxAt xs i).b + at0 ps i
def isO (xs : List Fx) (ps : List Int) (i : Nat) : Int := betw (wouldO xs ps i) (fxAt xs i).le (fxAt xs i).mo
def byO (xs : List Fx) (st : Its) (ps : List Int) (i : Nat) : Int := if st.set i then 0 else isO xs ps i - cut (wouldO xs ps i)
def settleO (ch : Int) (b : Int) : Bool := ((ch == 0) || (decide (0 < ch) && decide (0 < b))) || (decide (ch < 0) && decide (b < 0))
/-- A turn, behind which parts. -/
def turnP (xs : List Fx) (st : Its) (ps : List Int) : Its :=
  { set := fun i => st.set i || settleO (fsum (byO xs st ps) xs.length) (byO xs st ps i), is := fun i => if st.set i then st.is i else isO xs ps i }
def turnO (room : Int) (grows : Bool) (xs : List Fx) (first : Int) (st : Its) : Its := turnP xs st (partsO grows (freeO room grows xs st first) (wtsO grows xs st))
theorem turn_less (xs : List Fx) (st : Its) (ps : List Int) (h : 0 < openC st.set xs.length) : openC (turnP xs st ps).set xs.length < openC st.set xs.length := by
  have hmono : ∀ i, i < xs.length → st.set i = true → (turnP xs st ps).set i = true := fun i _ hi => by simp [turnP, hi]
  have one : ∀ i, i < xs.length → st.set i = false → settleO (fsum (byO xs st ps) xs.length) (byO xs st ps i) = true → openC (turnP xs st ps).set xs.length < openC st.set xs.length :=
    fun i hi h1 h2 => openC_lt hmono hi h1 (by simp [turnP, h2])
  have unset : ∀ i, byO xs st ps i ≠ 0 → st.set i = false := fun i hb => by
    cases hs : st.set i
    · rfl
    · simp [byO, hs] at hb
  rcases Int.lt_trichotomy (fsum (byO xs st ps) xs.length) 0 with hc | hc | hc
  · obtain ⟨i, hi, hb⟩ := fsum_neg hc
    exact one i hi (unset i (by omega)) (by simp [settleO, hc, hb])
  · obtain ⟨i, hi, hs⟩ := openC_pos h
    exact one i hi hs (by simp [settleO, hc])
  · obtain ⟨i, hi, hb⟩ := fsum_pos hc
    exact one i hi (unset i (by omega)) (by simp [settleO, hc, hb])
/-- A length that may be. -/
def okIs (x : Fx) (v : Int) : Prop := x.le ≤ v ∧ (0 ≤ x.mo → v ≤ max x.mo x.le) ∧ v ≤ 16777216
theorem betw_ok {x : Fx} (h : x.ok) (n : Int) : okIs x (betw n x.le x.mo) := by
  unfold Fx.ok at h
  unfold okIs betw cut
  split <;> omega
def itsOk (xs : List Fx) (st : Its) : Prop := ∀ i, i < xs.length → st.set i = true → okIs (fxAt xs i) (st.is i)
theorem turn_ok {xs : List Fx} (h : ∀ x ∈ xs, x.ok) {st : Its} (hs : itsOk xs st) (ps : List Int) : itsOk xs (turnP xs st ps) := by
  intro i hi _
  simp only [turnP]
  cases hc : st.set i
  · simp only [Bool.false_eq_true, if_false]; exact betw_ok (fxAt_ok h i) _
  · simp only [if_true]; exact hs i hi hc
theorem shared_le {n : Int} (ws : List Int) (h : 0 ≤ n) (k : Nat) : at0 (shared n ws) k ≤ 16777216 := by
  by_cases hk : k < ws.length
  · have h1 := psum_fsum (shared n ws) ws.length (by rw [shared_length]; exact Nat.le_refl _)
    have h2 := fsum_one (f := at0 (shared n ws)) (k := ws.length) (fun j _ => shared_nonneg ws h j) hk
    have h3 := psum_all (shared n ws)
    rw [shared_length] at h3
    have h4 := shared_sum n ws
    have h5 := cut_hi n
    split at h4 <;> omega
  · simp [at0, List.getD, List.getElem?_eq_none (show (shared n ws).length ≤ k by rw [shared_length]; omega)]
theorem at0_neg (l : List Int) (k : Nat) : at0 (l.map fun x => -x) k = -at0 l k := by
  by_cases hk : k < l.length
  · rw [at0_of _ k (by simpa using hk), at0_of l k hk]; simp
  · simp [at0, List.getElem?_eq_none (show l.length ≤ k by omega)]
theorem parts_bd (grows : Bool) (free : Int) (ws : List Int) (k : Nat) : -16777216 ≤ at0 (partsO grows free ws) k ∧ at0 (partsO grows free ws) k ≤ 16777216 := by
  unfold partsO
  split
  · have := shared_nonneg ws (show 0 ≤ max 0 free by omega) k
    have := shared_le ws (show 0 ≤ max 0 free by omega) k
    omega
  · rw [at0_neg]
    have := shared_nonneg ws (show 0 ≤ max 0 (-free) by omega) k
    have := shared_le ws (show 0 ≤ max 0 (-free) by omega) k
    omega
/-! Where all may grow. -/
def growers (xs : List Fx) : Prop := ∀ i, i < xs.length → (fxAt xs i).mo = -1 ∧ 1000 ≤ (fxAt xs i).g
theorem lng_grow {xs : List Fx} (h : ∀ x ∈ xs, x.ok) (hg : growers xs) {i : Nat} (hi : i < xs.length) : (fxAt xs i).lng = max (fxAt xs i).b (fxAt xs i).le := by
  rw [lng_eq (fxAt_ok h i), (hg i hi).1]; rfl
def sumLen (xs : List Fx) (v : Nat → Int) : Int := fsum (fun i => v i + (fxAt xs i).e) xs.length
/-- What holds while the room is not filled, and when it is. -/
def fillI (room : Int) (xs : List Fx) (st : Its) : Prop :=
  ((∃ i, i < xs.length ∧ st.set i = false) ∧ ∀ i, i < xs.length → st.set i = true → st.is i = (fxAt xs i).le) ∨ ((∀ i, i < xs.length → st.set i = true) ∧ sumLen xs st.is = room)
theorem fsum_sub (f g : Nat → Int) (k : Nat) : fsum (fun i => f i - g i) k = fsum f k - fsum g k := by
  induction k with
  | zero => rfl
  | succ k ih => simp only [fsum]; rw [ih]; omega
theorem at0_wts (grows : Bool) (xs : List Fx) (st : Its) {i : Nat} (hi : i < xs.length) : at0 (wtsO grows xs st) i = wtO grows xs st i := by
  unfold wtsO; rw [at0_of _ i (by simpa using hi)]; simp
theorem wts_length (grows : Bool) (xs : List Fx) (st : Its) : (wtsO grows xs st).length = xs.length := by simp [wtsO]
theorem turn_fill {room first : Int} {xs : List Fx} (h : ∀ x ∈ xs, x.ok) (hg : growers xs) (hl : xs.length ≤ 12) (hr : room ≤ 8388608) (hlt : sumLen xs (fun i => (fxAt xs i).lng) < room)
    {st : Its} (hI : (∃ i, i < xs.length ∧ st.set i = false) ∧ ∀ i, i < xs.length → st.set i = true → st.is i = (fxAt xs i).le) : fillI room xs (turnO room true xs first st) := by
  obtain ⟨⟨i0, hi0, hs0⟩, hset⟩ := hI
  -- what is free
  have hv : ∀ i, i < xs.length → 0 ≤ valO xs st i ∧ valO xs st i ≤ (fxAt xs i).lng := fun i hi => by
    have h1 := fxAt_ok h i
    unfold Fx.ok at h1
    rw [lng_grow h hg hi]
    unfold valO
    split
    · rename_i hs; rw [hset i hi hs]; omega
    · omega
  have hnow : nowTo room xs (valO xs st) xs.length = room - sumLen xs (valO xs st) := rfl
  have hle : sumLen xs (valO xs st) ≤ sumLen xs (fun i => (fxAt xs i).lng) := fsum_le fun i hi => by have := (hv i hi).2; show valO xs st i + (fxAt xs i).e ≤ (fxAt xs i).lng + (fxAt xs i).e; omega
  have hlo : -128 * (xs.length : Int) ≤ sumLen xs (valO xs st) := by
    have := (fsum_bd (f := fun i => valO xs st i + (fxAt xs i).e) (lo := -128) (hi := 1000000000) (k := xs.length) fun i hi => by
      have h1 := fxAt_ok h i
      have h2 := hv i hi
      have h3 := lng_bd h1
      unfold Fx.ok at h1
      omega).1
    exact this
  have hfac : 1000 ≤ facTo true xs st xs.length := by
    have h1 := fsum_one (f := fun i => if st.set i then 0 else facO true (fxAt xs i)) (k := xs.length) (fun j _ => by
      have h1 := fxAt_ok h j
      unfold Fx.ok at h1
      simp only [facO]
      split <;> simp <;> omega) hi0
    simp only [hs0] at h1
    have h2 := (hg i0 hi0).2
    unfold facTo
    simp only [facO, Bool.false_eq_true, if_false, if_true] at h1 ⊢
    omega
  have hfree : freeO room true xs st first = room - sumLen xs (valO xs st) := by unfold freeO; rw [if_neg (by omega), hnow]
  have hpos : 0 < room - sumLen xs (valO xs st) := by omega
  unfold turnO
  rw [hfree]
  generalize hF : room - sumLen xs (valO xs st) = F at *
  have hFb : F ≤ 8390144 := by omega
  have hps : partsO true F (wtsO true xs st) = shared F (wtsO true xs st) := by
    unfold partsO; rw [if_pos rfl, show max 0 F = F by omega]
  rw [hps]
  have hsum : (shared F (wtsO true xs st)).sum = F := by
    rw [shared_sum]
    have h1 : 0 < wsum (wtsO true xs st) xs.length := wsum_pos _ i0 xs.length hi0 (by
      rw [at0_wts true xs st hi0]
      have := (hg i0 hi0).2
      simp only [wtO, hs0, Bool.false_eq_true, if_false, if_true]
      exact wt_pos (by omega) (by omega))
    rw [wts_length, if_neg (by omega), cut_of (by omega) (by omega)]
  have hfs : fsum (at0 (shared F (wtsO true xs st))) xs.length = F := by
    have h1 := psum_fsum (shared F (wtsO true xs st)) xs.length (by rw [shared_length, wts_length]; exact Nat.le_refl _)
    have h2 := psum_all (shared F (wtsO true xs st))
    rw [shared_length, wts_length] at h2
    omega
  have hp0 : ∀ i, 0 ≤ at0 (shared F (wtsO true xs st)) i := fun i => shared_nonneg _ (by omega) i
  have hpF : ∀ i, i < xs.length → at0 (shared F (wtsO true xs st)) i ≤ F := fun i hi => by
    have := fsum_one (f := at0 (shared F (wtsO true xs st))) (fun j _ => hp0 j) hi; omega
  have hpset : ∀ i, i < xs.length → st.set i = true → at0 (shared F (wtsO true xs st)) i = 0 := fun i hi hs =>
    shared_idle F _ i (by rw [wts_length]; exact hi) (by rw [at0_wts true xs st hi]; exact wt_idle i (by simp [wtO, hs]))
  generalize shared F (wtsO true xs st) = ps at *
  have hw : ∀ i, i < xs.length → 0 ≤ wouldO xs ps i ∧ wouldO xs ps i ≤ 9000000 := fun i hi => by
    have h1 := fxAt_ok h i
    have h2 := hp0 i
    have h3 := hpF i hi
    unfold Fx.ok at h1
    unfold wouldO; omega
  have his : ∀ i, i < xs.length → isO xs ps i = max (wouldO xs ps i) (fxAt xs i).le := fun i hi => by
    have h1 := fxAt_ok h i
    have h2 := hw i hi
    unfold Fx.ok at h1
    unfold isO betw
    rw [(hg i hi).1, cut_of (n := wouldO xs ps i) (by omega) (by omega), cut_of (n := (fxAt xs i).le) (by omega) (by omega)]
    rfl
  have hby : ∀ i, i < xs.length → byO xs st ps i = if st.set i then 0 else max 0 ((fxAt xs i).le - wouldO xs ps i) := fun i hi => by
    have h2 := hw i hi
    unfold byO
    rw [his i hi, cut_of (n := wouldO xs ps i) (by omega) (by omega)]
    split <;> omega
  have hby0 : ∀ i, i < xs.length → 0 ≤ byO xs st ps i := fun i hi => by rw [hby i hi]; split <;> omega
  have hch := fsum_nonneg hby0
  -- the sum of all, were it so
  have htot : fsum (fun i => (valO xs st i + (fxAt xs i).e) + at0 ps i) xs.length = room := by
    rw [fsum_add, hfs]
    have : fsum (fun i => valO xs st i + (fxAt xs i).e) xs.length = sumLen xs (valO xs st) := rfl
    omega
  by_cases hz : fsum (byO xs st ps) xs.length = 0
  · right
    refine ⟨fun i hi => by simp [turnP, settleO, hz], ?_⟩
    rw [← htot]
    refine fsum_congr fun i hi => ?_
    simp only [turnP, valO]
    cases hs : st.set i
    · have h1 := fsum_zero hby0 hz i hi
      rw [hby i hi, hs] at h1
      simp only [Bool.false_eq_true, if_false] at h1 ⊢
      rw [his i hi]
      unfold wouldO at *
      omega
    · simp only [if_true]
      rw [hpset i hi hs]; omega
  · left
    have hsettle : ∀ i, i < xs.length → (turnP xs st ps).set i = true → st.set i = true ∨ 0 < byO xs st ps i := fun i hi hs => by
      simp only [turnP, Bool.or_eq_true] at hs
      rcases hs with hs | hs
      · exact .inl hs
      · right
        simp only [settleO, Bool.or_eq_true, Bool.and_eq_true, beq_iff_eq, decide_eq_true_eq] at hs
        omega
    have hle2 : ∀ i, i < xs.length → (turnP xs st ps).set i = true → (turnP xs st ps).is i = (fxAt xs i).le := fun i hi hs => by
      cases hs1 : st.set i
      · rcases hsettle i hi hs with h1 | h1
        · rw [hs1] at h1; cases h1
        · rw [hby i hi, hs1] at h1
          simp only [Bool.false_eq_true, if_false] at h1
          simp only [turnP, hs1, Bool.false_eq_true, if_false]
          rw [his i hi]; omega
      · simp only [turnP, hs1, if_true]; exact hset i hi hs1
    refine ⟨?_, hle2⟩
    -- were all settled, the least lengths would be more than there is room
    by_cases hall : ∃ i, i < xs.length ∧ (turnP xs st ps).set i = false
    · exact hall
    · exfalso
      have hall' : ∀ i, i < xs.length → (turnP xs st ps).set i = true := fun i hi => by
        cases hc : (turnP xs st ps).set i
        · exact absurd ⟨i, hi, hc⟩ hall
        · rfl
      have h1 : fsum (fun i => (valO xs st i + (fxAt xs i).e) + at0 ps i) xs.length ≤ sumLen xs (fun i => (fxAt xs i).lng) := fsum_le fun i hi => by
        have hlg := lng_grow h hg hi
        simp only [valO]
        cases hs1 : st.set i
        · rcases hsettle i hi (hall' i hi) with h2 | h2
          · rw [hs1] at h2; cases h2
          · rw [hby i hi, hs1] at h2
            simp only [Bool.false_eq_true, if_false] at h2 ⊢
            unfold wouldO at h2
            omega
        · simp only [if_true]
          rw [hset i hi hs1, hpset i hi hs1]; omega
      omega
end Go.Proofs.Ytadlabndbomgmaa
