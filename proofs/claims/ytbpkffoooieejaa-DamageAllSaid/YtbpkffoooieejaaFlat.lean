/- Plain facts on rows of records: reading one, setting one. No program in sight. -/
import Derived.WalkKit
namespace Go.Proofs.Ytbpkffoooieejaa
section
variable {α : Type}
theorem flat_len (f : Nat → List α) (d : Nat) : ∀ n, (∀ i, i < n → (f i).length = d) → ((List.range n).flatMap f).length = n * d
  | 0, _ => by simp
  | n + 1, h => by
    rw [List.range_succ, List.flatMap_append, List.length_append, flat_len f d n fun i hi => h i (by omega)]
    simp [h n (by omega), Nat.succ_mul]
theorem flat_get (f : Nat → List α) (d : Nat) : ∀ n, (∀ i, i < n → (f i).length = d) → ∀ i j, i < n → j < d → ((List.range n).flatMap f)[i * d + j]? = (f i)[j]?
  | 0, _, i, _, hi, _ => by omega
  | n + 1, h, i, j, hi, hj => by
    rw [List.range_succ, List.flatMap_append]
    have hl := flat_len f d n fun i hi => h i (by omega)
    by_cases e : i = n
    · subst e
      rw [List.getElem?_append_right (by rw [hl]; omega), hl, Nat.add_sub_cancel_left]
      simp
    · have hlt : i * d + j < n * d := by
        have : (i + 1) * d ≤ n * d := Nat.mul_le_mul_right _ (by omega)
        rw [Nat.succ_mul] at this
        omega
      rw [List.getElem?_append_left (by rw [hl]; exact hlt)]
      exact flat_get f d n (fun i hi => h i (by omega)) i j (by omega) hj
theorem flat_congr {f g : Nat → List α} {n : Nat} (h : ∀ i, i < n → f i = g i) : (List.range n).flatMap f = (List.range n).flatMap g := by
  induction n with
  | zero => rfl
  | succ n ih => rw [List.range_succ, List.flatMap_append, List.flatMap_append, ih fun i hi => h i (by omega)]; simp [h n (by omega)]
theorem flat_set (f g : Nat → List α) (d : Nat) : ∀ n, (∀ i, i < n → (f i).length = d) → (∀ i, i < n → (g i).length = d) → ∀ k, k < n → (∀ i, i < n → i ≠ k → f i = g i) →
    ((List.range n).flatMap f).take (k * d) ++ g k ++ ((List.range n).flatMap f).drop (k * d + (g k).length) = (List.range n).flatMap g
  | 0, _, _, k, hk, _ => by omega
  | n + 1, hf, hg, k, hk, he => by
    have hl := flat_len f d n fun i hi => hf i (by omega)
    rw [List.range_succ, List.flatMap_append, List.flatMap_append]
    simp only [List.flatMap_cons, List.flatMap_nil, List.append_nil]
    by_cases e : k = n
    · subst e
      have e1 : (List.range k).flatMap f = (List.range k).flatMap g := flat_congr fun i hi => he i (by omega) (by omega)
      rw [List.take_left' hl, List.drop_of_length_le (by rw [List.length_append, hl, hf k (by omega), hg k (by omega)]; exact Nat.le_refl _), List.append_nil, e1]
    · have ih := flat_set f g d n (fun i hi => hf i (by omega)) (fun i hi => hg i (by omega)) k (by omega) (fun i hi hne => he i (by omega) hne)
      have hkd : k * d + d ≤ n * d := by
        have : (k + 1) * d ≤ n * d := Nat.mul_le_mul_right _ (by omega)
        rwa [Nat.succ_mul] at this
      rw [List.take_append_of_le_length (by rw [hl]; omega), List.drop_append_of_le_length (by rw [hl, hg k (by omega)]; exact hkd), ← List.append_assoc, ih, he n (by omega) (fun h => e h.symm)]
end
end Go.Proofs.Ytbpkffoooieejaa
