/- Plain facts on sharing a number out by weights. No program in sight. -/
import Derived.Test.YtadlabndbomgmaaPlain
namespace Go.Proofs.Ytadlabndbomgmaa

/-- The weight at place k. -/
def wt (k : Nat) (x : Int) : Int := if 1000 ≤ k then 0 else max 0 (cut x)
/-- The sum of the first k weights. -/
def wsum (ws : List Int) : Nat → Int
  | 0 => 0
  | k + 1 => wsum ws k + wt k (at0 ws k)
theorem wt_bd (k : Nat) (x : Int) : 0 ≤ wt k x ∧ wt k x ≤ 16777216 := by unfold wt cut; split <;> omega
theorem wsum_nonneg (ws : List Int) (k : Nat) : 0 ≤ wsum ws k := by
  induction k with
  | zero => simp [wsum]
  | succ k ih => have := wt_bd k (at0 ws k); simp only [wsum]; omega
theorem wsum_le (ws : List Int) (k : Nat) : wsum ws k ≤ 16777216000 := by
  suffices h : wsum ws k ≤ 16777216 * (min k 1000 : Nat) by omega
  induction k with
  | zero => simp [wsum]
  | succ k ih =>
    simp only [wsum]
    by_cases hk : 1000 ≤ k
    · have : wt k (at0 ws k) = 0 := by unfold wt; rw [if_pos hk]
      omega
    · have := wt_bd k (at0 ws k); omega
theorem wsum_mono (ws : List Int) {j k : Nat} (h : j ≤ k) : wsum ws j ≤ wsum ws k := by
  induction h with
  | refl => exact Int.le_refl _
  | step _ ih => rename_i m _; have := wt_bd m (at0 ws m); simp only [wsum]; omega
/-- What the first k places have together. -/
def upTo (n : Int) (ws : List Int) (k : Nat) : Int := cut n * wsum ws k / wsum ws ws.length
/-- A number, shared out. -/
def shared (n : Int) (ws : List Int) : List Int :=
  if wsum ws ws.length = 0 then List.replicate ws.length 0 else (List.range ws.length).map fun k => upTo n ws (k + 1) - upTo n ws k
theorem shared_length (n : Int) (ws : List Int) : (shared n ws).length = ws.length := by unfold shared; split <;> simp
theorem mul_wsum_bound (n : Int) (ws : List Int) (k : Nat) : -281474976710656000 ≤ cut n * wsum ws k ∧ cut n * wsum ws k ≤ 281474976710656000 := by
  have h0 := wsum_nonneg ws k
  have h1 := wsum_le ws k
  have l := cut_lo n
  have u := cut_hi n
  have a1 : cut n * wsum ws k ≤ 16777216 * wsum ws k := Int.mul_le_mul_of_nonneg_right u h0
  have a2 : (-16777216) * wsum ws k ≤ cut n * wsum ws k := Int.mul_le_mul_of_nonneg_right l h0
  omega
theorem upTo_zero (n : Int) (ws : List Int) : upTo n ws 0 = 0 := by simp [upTo, wsum]
theorem upTo_all (n : Int) (ws : List Int) (h : wsum ws ws.length ≠ 0) : upTo n ws ws.length = cut n := by
  unfold upTo; exact Int.mul_ediv_cancel _ h
theorem upTo_bound (n : Int) (ws : List Int) (k : Nat) : -281474976710656000 ≤ upTo n ws k ∧ upTo n ws k ≤ 281474976710656000 := by
  have h := mul_wsum_bound n ws k
  have h0 := wsum_nonneg ws ws.length
  unfold upTo
  by_cases hz : wsum ws ws.length = 0
  · rw [hz]; simp
  · refine ⟨Int.le_ediv_of_mul_le (by omega) ?_, Int.ediv_le_of_le_mul (by omega) ?_⟩
    · have : -281474976710656000 * wsum ws ws.length ≤ -281474976710656000 * 1 := by
        have := Int.mul_le_mul_of_nonneg_left (show (1 : Int) ≤ wsum ws ws.length by omega) (show (0 : Int) ≤ 281474976710656000 by omega)
        omega
      omega
    · have := Int.mul_le_mul_of_nonneg_left (show (1 : Int) ≤ wsum ws ws.length by omega) (show (0 : Int) ≤ 281474976710656000 by omega)
      omega
theorem upTo_step_nonneg {n : Int} (ws : List Int) (h : 0 ≤ n) (k : Nat) : upTo n ws k ≤ upTo n ws (k + 1) := by
  unfold upTo
  have h0 := wsum_nonneg ws ws.length
  by_cases hz : wsum ws ws.length = 0
  · rw [hz]; simp
  · exact Int.ediv_le_ediv (by omega) (Int.mul_le_mul_of_nonneg_left (wsum_mono ws (Nat.le_succ k)) (cut_nonneg h))
theorem upTo_step_nonpos {n : Int} (ws : List Int) (h : n ≤ 0) (k : Nat) : upTo n ws (k + 1) ≤ upTo n ws k := by
  unfold upTo
  have h0 := wsum_nonneg ws ws.length
  by_cases hz : wsum ws ws.length = 0
  · rw [hz]; simp
  · refine Int.ediv_le_ediv (by omega) ?_
    have := Int.mul_le_mul_of_nonneg_left (wsum_mono ws (show k ≤ k + 1 by omega)) (show 0 ≤ -(cut n) by unfold cut; omega)
    rw [Int.neg_mul, Int.neg_mul] at this
    omega
theorem upTo_step_same (n : Int) (ws : List Int) (k : Nat) (h : wt k (at0 ws k) = 0) : upTo n ws (k + 1) = upTo n ws k := by
  unfold upTo; simp only [wsum]; rw [h, Int.add_zero]
/-- At each place. -/
theorem shared_at (n : Int) (ws : List Int) (k : Nat) (hk : k < ws.length) :
    (shared n ws)[k]? = some (if wsum ws ws.length = 0 then 0 else upTo n ws (k + 1) - upTo n ws k) := by
  unfold shared; split
  · simp [hk]
  · simp [hk]
theorem shared_getD (n : Int) (ws : List Int) (k : Nat) (hk : k < ws.length) :
    at0 (shared n ws) k = (if wsum ws ws.length = 0 then 0 else upTo n ws (k + 1) - upTo n ws k) := by
  simp [at0, List.getD, shared_at n ws k hk]
theorem shared_nonneg {n : Int} (ws : List Int) (h : 0 ≤ n) (k : Nat) : 0 ≤ at0 (shared n ws) k := by
  by_cases hk : k < ws.length
  · rw [shared_getD n ws k hk]; split
    · omega
    · have := upTo_step_nonneg ws h k; omega
  · simp [at0, List.getD, List.getElem?_eq_none (show (shared n ws).length ≤ k by rw [shared_length]; omega)]
theorem shared_nonpos {n : Int} (ws : List Int) (h : n ≤ 0) (k : Nat) : at0 (shared n ws) k ≤ 0 := by
  by_cases hk : k < ws.length
  · rw [shared_getD n ws k hk]; split
    · omega
    · have := upTo_step_nonpos ws h k; omega
  · simp [at0, List.getD, List.getElem?_eq_none (show (shared n ws).length ≤ k by rw [shared_length]; omega)]
theorem shared_idle (n : Int) (ws : List Int) (k : Nat) (hk : k < ws.length) (h : wt k (at0 ws k) = 0) : at0 (shared n ws) k = 0 := by
  rw [shared_getD n ws k hk]; split
  · rfl
  · have := upTo_step_same n ws k h; omega
theorem sum_map_steps (f : Nat → Int) (m : Nat) : ((List.range m).map fun k => f (k + 1) - f k).sum = f m - f 0 := by
  induction m with
  | zero => simp
  | succ m ih => rw [List.range_succ, List.map_append, List.sum_append, ih]; simp; omega
theorem shared_sum (n : Int) (ws : List Int) : (shared n ws).sum = if wsum ws ws.length = 0 then 0 else cut n := by
  unfold shared; split
  · have : ∀ m : Nat, (List.replicate m (0 : Int)).sum = 0 := fun m => by induction m <;> simp_all [List.replicate_succ]
    exact this _
  · rename_i h
    rw [sum_map_steps, upTo_all n ws h, upTo_zero]; omega
/-- There is some weight, if one of the first places has one. -/
theorem wsum_pos (ws : List Int) (k m : Nat) (hk : k < m) (h : 0 < wt k (at0 ws k)) : 0 < wsum ws m := by
  have h1 := wsum_mono ws (show k + 1 ≤ m by omega)
  have h2 := wsum_nonneg ws k
  simp only [wsum] at h1
  omega
theorem wsum_zero (ws : List Int) (m : Nat) (h : ∀ k, k < m → wt k (at0 ws k) = 0) : wsum ws m = 0 := by
  induction m with
  | zero => rfl
  | succ m ih => simp only [wsum]; rw [ih fun k hk => h k (by omega), h m (by omega)]; rfl
end Go.Proofs.Ytadlabndbomgmaa
