/- Plain facts on numbers and lists: cutting a number, parts of a number, margins that meet. No program in sight. -/
import Derived.WalkKit
namespace Go.Proofs.YtdnnodpkgncegaaDoor

/-- A number between -2^24 and 2^24. -/
def cut (n : Int) : Int := min (max n (-16777216)) 16777216
theorem cut_lo (n : Int) : -16777216 ≤ cut n := by unfold cut; omega
theorem cut_hi (n : Int) : cut n ≤ 16777216 := by unfold cut; omega
theorem cut_mono {a b : Int} (h : a ≤ b) : cut a ≤ cut b := by unfold cut; omega
theorem cut_of {n : Int} (h : -16777216 ≤ n) (h' : n ≤ 16777216) : cut n = n := by unfold cut; omega
theorem cut_cut (n : Int) : cut (cut n) = cut n := cut_of (cut_lo n) (cut_hi n)
theorem cut_nonneg {n : Int} (h : 0 ≤ n) : 0 ≤ cut n := by unfold cut; omega

/-- A part of a number, down above 0. -/
def partOf (n up down : Int) : Int := cut (cut n * cut up / cut down)
theorem mul_bound {a b : Int} (ha : -16777216 ≤ a) (ha' : a ≤ 16777216) (hb : -16777216 ≤ b) (hb' : b ≤ 16777216) : -281474976710656 ≤ a * b ∧ a * b ≤ 281474976710656 := by
  have h1 : 0 ≤ (16777216 - a) * (16777216 + b) := Int.mul_nonneg (by omega) (by omega)
  have h2 : 0 ≤ (16777216 + a) * (16777216 - b) := Int.mul_nonneg (by omega) (by omega)
  have h3 : 0 ≤ (16777216 - a) * (16777216 - b) := Int.mul_nonneg (by omega) (by omega)
  have h4 : 0 ≤ (16777216 + a) * (16777216 + b) := Int.mul_nonneg (by omega) (by omega)
  have e1 : (16777216 - a) * (16777216 + b) = 281474976710656 + 16777216 * b - 16777216 * a - a * b := by
    simp only [Int.sub_mul, Int.mul_add]; omega
  have e2 : (16777216 + a) * (16777216 - b) = 281474976710656 - 16777216 * b + 16777216 * a - a * b := by
    simp only [Int.add_mul, Int.mul_sub]; omega
  have e3 : (16777216 - a) * (16777216 - b) = 281474976710656 - 16777216 * b - 16777216 * a + a * b := by
    simp only [Int.sub_mul, Int.mul_sub]; omega
  have e4 : (16777216 + a) * (16777216 + b) = 281474976710656 + 16777216 * b + 16777216 * a + a * b := by
    simp only [Int.add_mul, Int.mul_add]; omega
  omega
theorem cut_mul_bound (a b : Int) : -281474976710656 ≤ cut a * cut b ∧ cut a * cut b ≤ 281474976710656 :=
  mul_bound (cut_lo a) (cut_hi a) (cut_lo b) (cut_hi b)
theorem part_mono {a b u d : Int} (h : a ≤ b) (hu : 0 ≤ u) (hd : 1 ≤ d) : partOf a u d ≤ partOf b u d := by
  unfold partOf
  refine cut_mono (Int.ediv_le_ediv (by unfold cut; omega) ?_)
  exact Int.mul_le_mul_of_nonneg_right (cut_mono h) (cut_nonneg hu)
theorem part_self {n d : Int} (hd : 1 ≤ d) : partOf n d d = cut n := by
  unfold partOf
  rw [Int.mul_ediv_cancel _ (by unfold cut; omega), cut_cut]

/-! Margins that meet. -/
def most (l : List Int) : Int := l.foldl (fun a n => max a (cut n)) 0
def least (l : List Int) : Int := l.foldl (fun a n => min a (cut n)) 0
def meet (l : List Int) : Int := cut (most l + least l)
theorem foldl_max_eq (l : List Int) : ∀ a : Int, a ≤ l.foldl (fun a n => max a (cut n)) a ∧ (∀ n ∈ l, cut n ≤ l.foldl (fun a n => max a (cut n)) a) ∧
    (l.foldl (fun a n => max a (cut n)) a = a ∨ ∃ n ∈ l, l.foldl (fun a n => max a (cut n)) a = cut n) := by
  induction l with
  | nil => intro a; simp
  | cons x l ih =>
    intro a
    obtain ⟨h1, h2, h3⟩ := ih (max a (cut x))
    simp only [List.foldl_cons]
    refine ⟨by omega, ?_, ?_⟩
    · intro n hn
      rcases List.mem_cons.1 hn with rfl | hn
      · omega
      · exact h2 n hn
    · rcases h3 with h3 | ⟨n, hn, h3⟩
      · by_cases hx : cut x ≤ a
        · left; rw [h3]; omega
        · right; exact ⟨x, by simp, by rw [h3]; omega⟩
      · right; exact ⟨n, by simp [hn], h3⟩
theorem foldl_min_eq (l : List Int) : ∀ a : Int, l.foldl (fun a n => min a (cut n)) a ≤ a ∧ (∀ n ∈ l, l.foldl (fun a n => min a (cut n)) a ≤ cut n) ∧
    (l.foldl (fun a n => min a (cut n)) a = a ∨ ∃ n ∈ l, l.foldl (fun a n => min a (cut n)) a = cut n) := by
  induction l with
  | nil => intro a; simp
  | cons x l ih =>
    intro a
    obtain ⟨h1, h2, h3⟩ := ih (min a (cut x))
    simp only [List.foldl_cons]
    refine ⟨by omega, ?_, ?_⟩
    · intro n hn
      rcases List.mem_cons.1 hn with rfl | hn
      · omega
      · exact h2 n hn
    · rcases h3 with h3 | ⟨n, hn, h3⟩
      · by_cases hx : a ≤ cut x
        · left; rw [h3]; omega
        · right; exact ⟨x, by simp, by rw [h3]; omega⟩
      · right; exact ⟨n, by simp [hn], h3⟩
theorem most_le {l m : List Int} (h : ∀ n ∈ l, n ∈ m) : most l ≤ most m := by
  obtain ⟨h1, h2, h3⟩ := foldl_max_eq l 0
  obtain ⟨k1, k2, k3⟩ := foldl_max_eq m 0
  unfold most
  rcases h3 with h3 | ⟨n, hn, h3⟩
  · rw [h3]; exact k1
  · rw [h3]; exact k2 n (h n hn)
theorem least_le {l m : List Int} (h : ∀ n ∈ l, n ∈ m) : least m ≤ least l := by
  obtain ⟨h1, h2, h3⟩ := foldl_min_eq l 0
  obtain ⟨k1, k2, k3⟩ := foldl_min_eq m 0
  unfold least
  rcases h3 with h3 | ⟨n, hn, h3⟩
  · rw [h3]; exact k1
  · rw [h3]; exact k2 n (h n hn)
theorem meet_same {l m : List Int} (h : ∀ n, n ∈ l ↔ n ∈ m) : meet l = meet m := by
  have a1 := most_le fun n hn => (h n).1 hn
  have a2 := most_le fun n hn => (h n).2 hn
  have b1 := least_le fun n hn => (h n).1 hn
  have b2 := least_le fun n hn => (h n).2 hn
  unfold meet
  rw [show most l = most m by omega, show least l = least m by omega]
theorem meet_order (a b : List Int) : meet (a ++ b) = meet ((b ++ a) ++ b) := meet_same fun n => by
  simp only [List.mem_append]
  exact ⟨fun h => h.elim (fun h => .inl (.inr h)) (fun h => .inr h), fun h => h.elim (fun h => h.elim .inr .inl) .inr⟩
theorem most_bound (l : List Int) : 0 ≤ most l ∧ most l ≤ 16777216 := by
  obtain ⟨h1, h2, h3⟩ := foldl_max_eq l 0
  unfold most
  refine ⟨h1, ?_⟩
  rcases h3 with h3 | ⟨n, _, h3⟩
  · rw [h3]; omega
  · rw [h3]; exact cut_hi n
theorem least_bound (l : List Int) : -16777216 ≤ least l ∧ least l ≤ 0 := by
  obtain ⟨h1, h2, h3⟩ := foldl_min_eq l 0
  unfold least
  refine ⟨?_, h1⟩
  rcases h3 with h3 | ⟨n, _, h3⟩
  · rw [h3]; omega
  · rw [h3]; exact cut_lo n
/-- The number at place k (0 behind the end). A plain definition, so that the walk leaves it alone. -/
def at0 (l : List Int) (k : Nat) : Int := l.getD k 0
theorem at0_of (l : List Int) (k : Nat) (h : k < l.length) : at0 l k = l[k] := by simp [at0, List.getD, List.getElem?_eq_getElem h]
theorem most_take (l : List Int) (k : Nat) (h : k < l.length) : most (l.take (k + 1)) = max (most (l.take k)) (cut (at0 l k)) := by
  unfold most; rw [List.take_succ_eq_append_getElem h, List.foldl_append, at0_of l k h]; rfl
theorem least_take (l : List Int) (k : Nat) (h : k < l.length) : least (l.take (k + 1)) = min (least (l.take k)) (cut (at0 l k)) := by
  unfold least; rw [List.take_succ_eq_append_getElem h, List.foldl_append, at0_of l k h]; rfl
/-! Go's division, rounded down. -/
theorem tdiv_exact {n d : Int} (hd : 1 ≤ d) (h : n.tmod d = 0) : n.tdiv d = n / d := by
  have e := Int.mul_tdiv_add_tmod n d
  rw [h, Int.add_zero] at e
  exact ((Int.ediv_eq_of_eq_mul_right (by omega) e.symm)).symm
theorem tdiv_down {n d : Int} (hd : 1 ≤ d) (hn : n < 0) (h : n.tmod d ≠ 0) : n.tdiv d - 1 = n / d := by
  have e := Int.mul_tdiv_add_tmod n d
  have h1 : n.tmod d ≤ 0 := by
    have := Int.tmod_nonneg d (show 0 ≤ -n by omega)
    rw [Int.neg_tmod] at this; omega
  have h2 : -d < n.tmod d := by
    have := Int.tmod_lt_of_pos (-n) (show 0 < d by omega)
    rw [Int.neg_tmod] at this; omega
  have e2 : n = (d + n.tmod d) + d * (n.tdiv d - 1) := by rw [Int.mul_sub, Int.mul_one]; omega
  rw [e2, Int.add_mul_ediv_left _ _ (by omega), Int.ediv_eq_zero_of_lt (by omega) (by omega)]
  rw [← e2]; omega
theorem tdiv_bd {n d : Int} (hd : 1 ≤ d) (h1 : -9223372036854775808 < n) (h2 : n ≤ 9223372036854775807) : -9223372036854775808 < n / d ∧ n / d ≤ 9223372036854775807 := by
  have a1 : n / d ≤ 9223372036854775807 := Int.ediv_le_of_le_mul (by omega) (by have := Int.mul_le_mul_of_nonneg_left hd (show (0 : Int) ≤ 9223372036854775807 by omega); omega)
  have a2 : -9223372036854775807 ≤ n / d := Int.le_ediv_of_mul_le (by omega) (by have := Int.mul_le_mul_of_nonneg_left hd (show (0 : Int) ≤ 9223372036854775807 by omega); omega)
  omega
end Go.Proofs.YtdnnodpkgncegaaDoor
