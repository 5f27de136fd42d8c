/- Plain facts on the widths of a table's columns. No program in sight. -/
import Derived.Test.YtadlabndbomgmaaMainsPlain
namespace Go.Proofs.Ytadlabndbomgmaa
/-- Who shares no more than all weights together gets no more than its own. -/
theorem upTo_step_le (n : Int) (ws : List Int) (k : Nat) (h : cut n ≤ wsum ws ws.length) (hp : 0 < wsum ws ws.length) : upTo n ws (k + 1) - upTo n ws k ≤ wt k (at0 ws k) := by
  unfold upTo
  simp only [wsum]
  have hw := wt_bd k (at0 ws k)
  generalize wt k (at0 ws k) = x at *
  generalize wsum ws ws.length = W at *
  generalize wsum ws k = S at *
  generalize hN : cut n = N at *
  have h1 : N * x ≤ W * x := Int.mul_le_mul_of_nonneg_right h (by omega)
  have h2 : N * (S + x) ≤ N * S + W * x := by rw [Int.mul_add]; omega
  have h3 : N * (S + x) / W ≤ (N * S + W * x) / W := Int.ediv_le_ediv hp h2
  rw [Int.add_mul_ediv_left _ _ (by omega)] at h3
  omega
theorem shared_le_own {n : Int} (ws : List Int) (h : cut n ≤ wsum ws ws.length) (k : Nat) (hk : k < ws.length) (hx : 0 ≤ at0 ws k) : at0 (shared n ws) k ≤ at0 ws k := by
  have hw : wt k (at0 ws k) ≤ at0 ws k := by unfold wt cut; split <;> omega
  rw [shared_getD n ws k hk]
  have h1 := wsum_nonneg ws ws.length
  split
  · exact hx
  · have := upTo_step_le n ws k h (by omega); omega
/-- Lists, one number at a time. -/
def addL (l m : List Int) : List Int := (List.range l.length).map fun k => at0 l k + at0 m k
def maxL (l m : List Int) : List Int := (List.range l.length).map fun k => max (at0 l k) (at0 m k)
theorem addL_length (l m : List Int) : (addL l m).length = l.length := by simp [addL]
theorem maxL_length (l m : List Int) : (maxL l m).length = l.length := by simp [maxL]
theorem addL_at (l m : List Int) (k : Nat) (hk : k < l.length) : at0 (addL l m) k = at0 l k + at0 m k := by
  rw [at0_of _ k (by simpa [addL] using hk)]; simp [addL]
theorem maxL_at (l m : List Int) (k : Nat) (hk : k < l.length) : at0 (maxL l m) k = max (at0 l k) (at0 m k) := by
  rw [at0_of _ k (by simpa [maxL] using hk)]; simp [maxL]
theorem sum_fsum (l : List Int) : l.sum = fsum (at0 l) l.length := by rw [← psum_all, psum_fsum l _ (Nat.le_refl _)]
theorem addL_sum (l m : List Int) (h : m.length = l.length) : (addL l m).sum = l.sum + m.sum := by
  rw [sum_fsum (addL l m), sum_fsum l, sum_fsum m, addL_length, h, ← fsum_add]
  exact fsum_congr fun i hi => addL_at l m i hi
/-- The widths of columns, of the least ones and of what is more. -/
def tableF (free : Int) (low more : List Int) (fixed : Bool) : List Int :=
  if fixed then maxL low (onesF free low.length) else if free ≤ low.sum then low else addL low (shared (min (free - low.sum) more.sum) more)
theorem wsum_psum (ws : List Int) (h : ∀ x ∈ ws, 0 ≤ x ∧ x ≤ 16777216) (k : Nat) (hk : k ≤ ws.length) (h1 : ws.length ≤ 1000) : wsum ws k = psum ws k := by
  induction k with
  | zero => rfl
  | succ k ih =>
    simp only [wsum]
    rw [psum_succ ws k (by omega), ih (by omega)]
    have := h _ (List.getElem_mem (show k < ws.length by omega))
    rw [at0_of ws k (by omega)]
    unfold wt cut
    rw [if_neg (by omega)]
    omega
theorem table_law (free : Int) (low more : List Int) (fixed : Bool) (hl : more.length = low.length) (hn : low.length ≤ 20) (h1 : ∀ k, k < low.length → 0 ≤ at0 low k ∧ at0 low k ≤ 65535) (h2 : ∀ k, k < low.length → 0 ≤ at0 more k ∧ at0 more k ≤ 65535) (hf : 0 ≤ free) (hf2 : free ≤ 16777216) :
    (tableF free low more fixed).length = low.length ∧ (∀ k, k < low.length → at0 low k ≤ at0 (tableF free low more fixed) k ∧ (fixed = false → at0 (tableF free low more fixed) k ≤ at0 low k + at0 more k)) ∧
      (fixed = false → low.sum ≤ free → free ≤ low.sum + more.sum → (tableF free low more fixed).sum = free) := by
  have m0 : ∀ x ∈ more, 0 ≤ x ∧ x ≤ 16777216 := fun x hx => by
    obtain ⟨k, hk, rfl⟩ := List.getElem_of_mem hx
    have := h2 k (by omega)
    rw [at0_of more k hk] at this
    omega
  have hW : wsum more more.length = more.sum := by rw [wsum_psum more m0 _ (Nat.le_refl _) (by omega), psum_all]
  have hms : 0 ≤ more.sum := by rw [← hW]; exact wsum_nonneg _ _
  unfold tableF
  cases fixed
  · simp only [Bool.false_eq_true, if_false]
    by_cases hc : free ≤ low.sum
    · simp only [if_pos hc]
      exact ⟨trivial, fun k hk => ⟨Int.le_refl _, fun _ => by have := h2 k hk; omega⟩, fun _ h _ => by omega⟩
    · simp only [if_neg hc]
      generalize hN : min (free - low.sum) more.sum = N
      have hl0 : 0 ≤ low.sum := by rw [sum_fsum]; exact fsum_nonneg fun i hi => (h1 i hi).1
      have hN0 : 0 ≤ N := by omega
      have hNc : cut N = N := cut_of (by omega) (by omega)
      refine ⟨addL_length _ _, fun k hk => ?_, fun _ _ h => ?_⟩
      · rw [addL_at low _ k hk]
        have a1 := shared_nonneg more hN0 k
        have a2 := shared_le_own more (by rw [hNc, hW]; omega) k (by omega) (h2 k hk).1
        exact ⟨by omega, fun _ => by omega⟩
      · rw [addL_sum low _ (by rw [shared_length, hl]), shared_sum, hW, hNc]
        split <;> omega
  · simp only [if_true]
    refine ⟨maxL_length _ _, fun k hk => ⟨by rw [maxL_at low _ k hk]; omega, fun h => by cases h⟩, fun h => by cases h⟩
end Go.Proofs.Ytadlabndbomgmaa
