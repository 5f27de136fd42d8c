/- Plain facts on columns that are widened. No program in sight. -/
import Derived.Test.YtadlabndbomgmaaSums
namespace Go.Proofs.Ytadlabndbomgmaa
/-- What n places from a on have together. -/
def segs (L : List Int) (a : Nat) : Nat → Int
  | 0 => 0
  | n + 1 => segs L a n + at0 L (a + n)
theorem segs_mono {L L' : List Int} (h : ∀ k, at0 L k ≤ at0 L' k) (a n : Nat) : segs L a n ≤ segs L' a n := by
  induction n with
  | zero => exact Int.le_refl _
  | succ n ih => have := h (a + n); simp only [segs]; omega
theorem segs_congr {L L' : List Int} {a b : Nat} (n : Nat) (h : ∀ k, k < n → at0 L (a + k) = at0 L' (b + k)) : segs L a n = segs L' b n := by
  induction n with
  | zero => rfl
  | succ n ih => simp only [segs]; rw [ih fun k hk => h k (by omega), h n (by omega)]
theorem segs_psum (L : List Int) (n : Nat) (h : n ≤ L.length) : segs L 0 n = psum L n := by
  induction n with
  | zero => rfl
  | succ n ih => simp only [segs]; rw [ih (by omega), psum_succ L n (by omega), Nat.zero_add]
theorem segs_all (L : List Int) : segs L 0 L.length = L.sum := by rw [segs_psum L _ (Nat.le_refl _), psum_all]
/-- The places themselves. -/
def seg (L : List Int) (a n : Nat) : List Int := (L.drop a).take n
theorem seg_len {L : List Int} {a n : Nat} (h : a + n ≤ L.length) : (seg L a n).length = n := by simp [seg]; omega
theorem at0_seg {L : List Int} {a n k : Nat} (hk : k < n) : at0 (seg L a n) k = at0 L (a + k) := by
  simp only [at0, seg, List.getD_eq_getElem?_getD, List.getElem?_take, List.getElem?_drop, hk, if_true]
theorem seg_sum {L : List Int} {a n : Nat} (h : a + n ≤ L.length) : (seg L a n).sum = segs L a n := by
  rw [← segs_all, seg_len h]
  exact segs_congr n fun k hk => by rw [Nat.zero_add, at0_seg hk]
theorem segs_nonneg {L : List Int} (h : ∀ k, 0 ≤ at0 L k) (a n : Nat) : 0 ≤ segs L a n := by
  induction n with
  | zero => exact Int.le_refl _
  | succ n ih => have := h (a + n); simp only [segs]; omega
theorem segs_one_le {L : List Int} (h : ∀ k, 0 ≤ at0 L k) (a n k : Nat) (hk : k < n) : at0 L (a + k) ≤ segs L a n := by
  induction n with
  | zero => omega
  | succ n ih =>
    have h1 := h (a + n)
    have h2 := segs_nonneg h a n
    simp only [segs]
    by_cases e : k = n
    · subst e; omega
    · have := ih (by omega); omega
theorem segs_bd {L : List Int} {B : Int} (h : ∀ k, at0 L k ≤ B) (a n : Nat) : segs L a n ≤ n * B := by
  induction n with
  | zero => simp [segs]
  | succ n ih => have := h (a + n); simp only [segs, Int.natCast_add, Int.add_mul]; omega
/-- Raised, and so much together from a on. -/
structure Wider (L L' : List Int) (a n : Nat) (to : Int) : Prop where
  len : L'.length = L.length
  le : ∀ k, at0 L k ≤ at0 L' k
  sum : to ≤ segs L' a n
  bd : ∀ k, at0 L' k ≤ max (at0 L k) to
/-- A stretch of a list, raised by so much each. -/
def raise (L : List Int) (a : Nat) (xs : List Int) : List Int := (List.range L.length).map fun k => at0 L k + if a ≤ k then at0 xs (k - a) else 0
theorem raise_len (L : List Int) (a : Nat) (xs : List Int) : (raise L a xs).length = L.length := by simp [raise]
theorem at0_raise (L : List Int) (a : Nat) (xs : List Int) (k : Nat) (hk : k < L.length) : at0 (raise L a xs) k = at0 L k + if a ≤ k then at0 xs (k - a) else 0 := by
  rw [at0_of _ k (by rw [raise_len]; exact hk)]; simp [raise]
theorem at0_past (L : List Int) (k : Nat) (hk : L.length ≤ k) : at0 L k = 0 := by simp [at0, List.getD, List.getElem?_eq_none hk]
theorem segs_raise (L : List Int) (a : Nat) (xs : List Int) (n : Nat) (h : a + n ≤ L.length) : segs (raise L a xs) a n = segs L a n + segs xs 0 n := by
  induction n with
  | zero => rfl
  | succ n ih =>
    simp only [segs]
    rw [ih (by omega), at0_raise L a xs (a + n) (by omega), if_pos (by omega), Nat.add_sub_cancel_left, Nat.zero_add]; omega
theorem wider_share (L b : List Int) (a n : Nat) (to : Int) (hn : n ≤ 1000) (hL : ∀ k, 0 ≤ at0 L k) (hto : to ≤ 16777216) (ha : a + n ≤ L.length) (hb : b.length = n) (hpos : ∃ k, k < n ∧ 0 < at0 b k) (hlack : 0 < to - segs L a n) :
    Wider L (raise L a (shared (to - segs L a n) b)) a n to := by
  obtain ⟨k0, hk0, hx0⟩ := hpos
  have h0 := segs_nonneg hL a n
  have hw := wsum_pos b k0 b.length (by omega) (wt_pos (by omega) hx0)
  have hs : (shared (to - segs L a n) b).sum = to - segs L a n := by
    rw [shared_sum, if_neg (by omega)]; unfold cut; omega
  have hnn := shared_nonneg (n := to - segs L a n) b (by omega)
  have hl := shared_length (to - segs L a n) b
  generalize shared (to - segs L a n) b = sh at *
  have hss : segs sh 0 n = to - segs L a n := by rw [← hs, ← segs_all, hl, hb]
  refine ⟨raise_len _ _ _, fun k => ?_, ?_, fun k => ?_⟩
  · by_cases hk : k < L.length
    · rw [at0_raise L a sh k hk]
      have := hnn (k - a)
      split <;> omega
    · rw [at0_past L k (by omega), at0_past _ k (by rw [raise_len]; omega)]; exact Int.le_refl _
  · rw [segs_raise L a sh n ha, hss]; omega
  · by_cases hk : k < L.length
    · rw [at0_raise L a sh k hk]
      by_cases hak : a ≤ k
      · rw [if_pos hak]
        by_cases hkn : k - a < n
        · have h1 := segs_one_le hL a n (k - a) hkn
          have h2 := segs_one_le hnn 0 n (k - a) hkn
          rw [show a + (k - a) = k by omega] at h1
          rw [Nat.zero_add] at h2
          omega
        · rw [at0_past sh (k - a) (by omega)]; omega
      · rw [if_neg hak]; omega
    · rw [at0_past _ k (by rw [raise_len]; omega), at0_past L k (by omega)]; omega
theorem wider_none (L : List Int) (a n : Nat) (to : Int) (h : to - segs L a n ≤ 0) : Wider L L a n to :=
  ⟨rfl, fun _ => Int.le_refl _, by omega, fun k => by omega⟩
theorem raise_none (L : List Int) (a : Nat) (xs : List Int) : raise L a (xs.take 0) = L := by
  apply List.ext_getElem
  · exact raise_len _ _ _
  · intro k h1 h2
    have e : at0 ([] : List Int) (k - a) = 0 := rfl
    simp [raise, e, at0_of L k h2]
theorem at0_take (xs : List Int) (j k : Nat) : at0 (xs.take j) k = if k < j then at0 xs k else 0 := by
  simp only [at0, List.getD_eq_getElem?_getD, List.getElem?_take]
  split <;> rfl
theorem raise_at (L : List Int) (a : Nat) (xs : List Int) (j : Nat) (h : a + j < L.length) : at0 (raise L a (xs.take j)) (a + j) = at0 L (a + j) := by
  rw [at0_raise _ _ _ _ h, if_pos (by omega), Nat.add_sub_cancel_left, at0_take, if_neg (Nat.lt_irrefl _)]; omega
theorem raise_next (L : List Int) (a : Nat) (xs : List Int) (j : Nat) : (raise L a (xs.take j)).set (a + j) (at0 L (a + j) + at0 xs j) = raise L a (xs.take (j + 1)) := by
  apply List.ext_getElem
  · simp [raise]
  · intro k h1 h2
    simp only [raise, List.getElem_set, List.getElem_map, List.getElem_range, at0_take]
    by_cases e : a + j = k
    · subst e
      rw [if_pos rfl, if_pos (by omega), Nat.add_sub_cancel_left, if_pos (by omega)]
    · rw [if_neg e]
      by_cases hk : a ≤ k
      · rw [if_pos hk, if_pos hk]
        by_cases h3 : k - a < j
        · rw [if_pos h3, if_pos (by omega)]
        · rw [if_neg h3, if_neg (by omega)]
      · rw [if_neg hk, if_neg hk]
theorem raise_all (L : List Int) (a : Nat) (xs : List Int) (n : Nat) (h : xs.length = n) : raise L a (xs.take n) = raise L a xs := by rw [List.take_of_length_le (by omega)]
theorem pos_of_sum (b : List Int) (h : ∀ k, 0 ≤ at0 b k) (hs : b.sum ≠ 0) : ∃ k, k < b.length ∧ 0 < at0 b k := by
  rw [← segs_all] at hs
  have : ∀ n, segs b 0 n ≠ 0 → ∃ k, k < n ∧ 0 < at0 b k := by
    intro n
    induction n with
    | zero => intro h; exact absurd rfl h
    | succ n ih =>
      intro hn
      have h0 := h (0 + n)
      simp only [segs] at hn
      by_cases e : segs b 0 n = 0
      · exact ⟨n, by omega, by rw [Nat.zero_add] at h0 hn; omega⟩
      · obtain ⟨k, hk, hx⟩ := ih e; exact ⟨k, by omega, hx⟩
  exact this _ hs
end Go.Proofs.Ytadlabndbomgmaa
