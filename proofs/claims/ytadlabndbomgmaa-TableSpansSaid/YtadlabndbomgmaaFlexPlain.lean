/- Plain facts on the rows and the lengths of flexible items. No program in sight. -/
import Derived.Test.YtadlabndbomgmaaSpreadPlain
namespace Go.Proofs.Ytadlabndbomgmaa
/-- An item, tame. -/
structure Fx where
  b : Int
  le : Int
  mo : Int
  g : Int
  s : Int
  e : Int
def Fx.ok (x : Fx) : Prop := (0 ≤ x.b ∧ x.b ≤ 65535) ∧ (0 ≤ x.le ∧ x.le ≤ 8191) ∧ (-32768 ≤ x.mo ∧ x.mo ≤ 32767) ∧ (0 ≤ x.g ∧ x.g ≤ 66535) ∧ (0 ≤ x.s ∧ x.s ≤ 65535) ∧ -128 ≤ x.e ∧ x.e ≤ 127
def fx0 : Fx := ⟨0, 0, 0, 0, 0, 0⟩
theorem fx0_ok : fx0.ok := by simp [Fx.ok, fx0]
def fxAt (xs : List Fx) (k : Nat) : Fx := xs.getD k fx0
theorem fxAt_of (xs : List Fx) (k : Nat) (h : k < xs.length) : fxAt xs k = xs[k] := by simp [fxAt, List.getD, List.getElem?_eq_getElem h]
theorem fxAt_ok {xs : List Fx} (h : ∀ x ∈ xs, x.ok) (k : Nat) : (fxAt xs k).ok := by
  by_cases hk : k < xs.length
  · rw [fxAt_of xs k hk]; exact h _ (List.getElem_mem hk)
  · have : fxAt xs k = fx0 := by simp [fxAt, List.getElem?_eq_none (show xs.length ≤ k by omega)]
    rw [this]; exact fx0_ok
/-- A number, no less than the least, no more than the greatest. -/
def betw (n le mo : Int) : Int := max (if 0 ≤ mo then min (cut n) (cut mo) else cut n) (cut le)
def Fx.lng (x : Fx) : Int := betw x.b x.le x.mo
theorem lng_bd {x : Fx} (h : x.ok) : 0 ≤ x.lng ∧ x.lng ≤ 65535 := by
  unfold Fx.ok at h
  unfold Fx.lng betw cut
  split <;> omega
theorem lng_eq {x : Fx} (h : x.ok) : x.lng = max (if 0 ≤ x.mo then min x.b x.mo else x.b) x.le := by
  unfold Fx.ok at h
  unfold Fx.lng betw
  rw [cut_of (n := x.b) (by omega) (by omega), cut_of (n := x.mo) (by omega) (by omega), cut_of (n := x.le) (by omega) (by omega)]
/-! Rows. -/
def rowsTo (room gap : Int) (wraps : Bool) (xs : List Fx) : Nat → List Int × Int
  | 0 => ([], 0)
  | k + 1 =>
    if (k == 0) || (wraps && decide (room < (rowsTo room gap wraps xs k).2 + gap + (fxAt xs k).lng + (fxAt xs k).e)) then ((rowsTo room gap wraps xs k).1 ++ [1], (fxAt xs k).lng + (fxAt xs k).e)
    else (addAt (rowsTo room gap wraps xs k).1 ((rowsTo room gap wraps xs k).1.length - 1) 1, (rowsTo room gap wraps xs k).2 + gap + (fxAt xs k).lng + (fxAt xs k).e)
theorem rowsTo_bd (room gap : Int) (wraps : Bool) {xs : List Fx} (h : ∀ x ∈ xs, x.ok) (hg : 0 ≤ gap ∧ gap ≤ 16777216) (k : Nat) : -16908288 * (k : Int) ≤ (rowsTo room gap wraps xs k).2 ∧ (rowsTo room gap wraps xs k).2 ≤ 16908288 * (k : Int) := by
  induction k with
  | zero => simp [rowsTo]
  | succ k ih =>
    have h1 := fxAt_ok h k
    have h2 := lng_bd h1
    unfold Fx.ok at h1
    simp only [rowsTo]
    split
    · simp only; omega
    · simp only; omega
/-- The length of the first k items, without gaps. -/
def plen (xs : List Fx) : Nat → Int
  | 0 => 0
  | k + 1 => plen xs k + ((fxAt xs k).lng + (fxAt xs k).e)
/-- What is wanted of rows from place a on. -/
def rowsOk (room gap : Int) (wraps : Bool) (xs : List Fx) : Nat → List Int → Prop
  | _, [] => True
  | a, n :: r => (1 ≤ n ∧ (wraps = true → 1 < n → gap * (n - 1) + (plen xs (a + n.toNat) - plen xs a) ≤ room)) ∧ rowsOk room gap wraps xs (a + n.toNat) r
theorem rowsOk_append (room gap : Int) (wraps : Bool) (xs : List Fx) : ∀ (l m : List Int) (a : Nat), (∀ n ∈ l, 1 ≤ n) → (rowsOk room gap wraps xs a (l ++ m) ↔ rowsOk room gap wraps xs a l ∧ rowsOk room gap wraps xs (a + l.sum.toNat) m)
  | [], m, a, _ => by simp [rowsOk]
  | n :: l, m, a, h => by
    have h1 := h n (by simp)
    have ih := rowsOk_append room gap wraps xs l m (a + n.toNat) (fun x hx => h x (by simp [hx]))
    have hs : 0 ≤ l.sum := by
      have : ∀ q : List Int, (∀ x ∈ q, 1 ≤ x) → 0 ≤ q.sum := by
        intro q
        induction q with
        | nil => intro _; simp
        | cons y q ihq => intro hq; have := ihq (fun x hx => hq x (by simp [hx])); have := hq y (by simp); simp; omega
      exact this l (fun x hx => h x (by simp [hx]))
    simp only [List.cons_append, rowsOk, ih, List.sum_cons]
    rw [show a + n.toNat + l.sum.toNat = a + (n + l.sum).toNat by omega]
    exact ⟨fun ⟨p, q, r⟩ => ⟨⟨p, q⟩, r⟩, fun ⟨⟨p, q⟩, r⟩ => ⟨p, q, r⟩⟩
theorem addAt_last (l : List Int) (n : Int) (x : Int) : addAt (l ++ [n]) ((l ++ [n]).length - 1) x = l ++ [n + x] := by
  have e : (l ++ [n]).length - 1 = l.length := by simp
  rw [e]
  unfold addAt
  have h1 : at0 (l ++ [n]) l.length = n := by simp [at0]
  rw [h1, List.set_append_right _ _ (Nat.le_refl _), Nat.sub_self]
  rfl
theorem rows_inv (room gap : Int) (wraps : Bool) (xs : List Fx) (k : Nat) (hk : 0 < k) :
    ∃ (l : List Int) (n : Int), (rowsTo room gap wraps xs k).1 = l ++ [n] ∧ (∀ x ∈ l, 1 ≤ x) ∧ 1 ≤ n ∧ l.sum + n = k ∧ 0 ≤ l.sum ∧ rowsOk room gap wraps xs 0 l ∧ (wraps = false → l = []) ∧
      (rowsTo room gap wraps xs k).2 = gap * (n - 1) + (plen xs k - plen xs l.sum.toNat) ∧ (wraps = true → 1 < n → (rowsTo room gap wraps xs k).2 ≤ room) := by
  induction k with
  | zero => omega
  | succ k ih =>
    by_cases h0 : k = 0
    · subst h0
      refine ⟨[], 1, by simp [rowsTo], by simp, by omega, by simp, by simp, trivial, fun _ => rfl, ?_, fun _ h => by omega⟩
      simp [rowsTo, plen]
    · obtain ⟨l, n, h1, h2, h3, h4, h5, h6, h7, h8, h9⟩ := ih (by omega)
      have hk0 : (k == 0) = false := by simpa using h0
      simp only [rowsTo, hk0, Bool.false_or]
      cases hb : (wraps && decide (room < (rowsTo room gap wraps xs k).2 + gap + (fxAt xs k).lng + (fxAt xs k).e))
      · simp only [Bool.false_eq_true, if_false]
        refine ⟨l, n + 1, by rw [h1]; exact addAt_last l n 1, h2, by omega, by omega, h5, h6, h7, ?_, ?_⟩
        · rw [h8]
          simp only [plen]
          have : gap * (n + 1 - 1) = gap * (n - 1) + gap := by rw [show n + 1 - 1 = (n - 1) + 1 by omega, Int.mul_add, Int.mul_one]
          omega
        · intro hw _
          subst hw
          simp at hb
          exact hb
      · simp only [if_true]
        have hw : wraps = true := by cases wraps; simp at hb; rfl
        have hsum : (l ++ [n]).sum = (k : Int) := by simp; omega
        refine ⟨l ++ [n], 1, by rw [h1], ?_, by omega, by rw [hsum]; omega, by rw [hsum]; omega, ?_, ?_, ?_, fun _ h => by omega⟩
        · intro x hx
          rcases List.mem_append.1 hx with hx | hx
          · exact h2 x hx
          · simp at hx; omega
        · rw [rowsOk_append _ _ _ _ _ _ _ h2]
          refine ⟨h6, ⟨h3, fun hw' hn => ?_⟩, trivial⟩
          have := h9 hw' hn
          rw [h8] at this
          rw [show 0 + l.sum.toNat + n.toNat = k by omega, Nat.zero_add]
          exact this
        · intro hf; rw [hw] at hf; cases hf
        · rw [hsum]
          simp only [plen, Int.toNat_natCast]
          omega
def rowsF (room gap : Int) (wraps : Bool) (xs : List Fx) : List Int := (rowsTo room gap wraps xs xs.length).1
theorem rows_law (room gap : Int) (wraps : Bool) (xs : List Fx) : (rowsF room gap wraps xs).sum = xs.length ∧ (∀ n ∈ rowsF room gap wraps xs, 1 ≤ n) ∧ rowsOk room gap wraps xs 0 (rowsF room gap wraps xs) ∧ (wraps = false → (rowsF room gap wraps xs).length ≤ 1) := by
  unfold rowsF
  by_cases h0 : xs.length = 0
  · rw [h0]; simp [rowsTo, rowsOk]
  · obtain ⟨l, n, h1, h2, h3, h4, h5, h6, h7, h8, h9⟩ := rows_inv room gap wraps xs xs.length (by omega)
    rw [h1]
    refine ⟨by simp; omega, ?_, ?_, fun hw => by rw [h7 hw]; simp⟩
    · intro x hx
      rcases List.mem_append.1 hx with hx | hx
      · exact h2 x hx
      · simp at hx; omega
    · rw [rowsOk_append _ _ _ _ _ _ _ h2]
      refine ⟨h6, ⟨h3, fun hw' hn => ?_⟩, trivial⟩
      have := h9 hw' hn
      rw [h8] at this
      rw [show 0 + l.sum.toNat + n.toNat = xs.length by omega, Nat.zero_add]
      exact this
end Go.Proofs.Ytadlabndbomgmaa
