/- What belongs to a frag: how much it is. No program in sight. -/
import Derived.Test.YtbpkffoooieejaaDoorStackPlain
namespace Go.Proofs.YtbpkffoooieejaaDoor
theorem nodup_len : ∀ (n : Nat) (l : List Nat), l.Nodup → (∀ x ∈ l, x < n) → l.length ≤ n
  | 0, l, _, h => by
    cases l with
    | nil => simp
    | cons a l => exact absurd (h a (by simp)) (Nat.not_lt_zero _)
  | n + 1, l, hn, h => by
    have h1 := nodup_len n (l.erase n) (hn.erase n) fun x hx => by
      have h2 := h x (List.mem_of_mem_erase hx)
      have h3 : x ≠ n := (hn.mem_erase_iff.1 hx).1
      omega
    rw [List.length_erase] at h1
    split at h1 <;> omega
theorem bel_sub (kids : Nat → List Nat) (own : Nat → Bool) (d : Nat) : ∀ f, (belF kids own d f).Sublist (descF kids d f) := by
  induction d with
  | zero => intro f; exact List.Sublist.refl _
  | succ d ih =>
    intro f
    rw [belF, descF]
    induction kids f with
    | nil => exact List.Sublist.refl _
    | cons k l ihl =>
      rw [List.flatMap_cons, List.flatMap_cons]
      refine List.Sublist.append (List.Sublist.cons_cons k ?_) ihl
      split
      · exact List.nil_sublist _
      · exact ih k
theorem desc_len (n : Nat) (par : Nat → Nat) (hp : ∀ i, 0 < i → i < n → par i < i) (e f : Nat) : (descF (kidsF n par) e f).length ≤ n :=
  nodup_len n _ (desc_nodup n par hp e f) fun i hi => (desc_lt n par hp e f i hi).2
theorem bel_len (n : Nat) (par : Nat → Nat) (hp : ∀ i, 0 < i → i < n → par i < i) (own : Nat → Bool) (d f : Nat) : (belF (kidsF n par) own d f).length ≤ n :=
  Nat.le_trans (bel_sub _ own d f).length_le (desc_len n par hp d f)
/-- What the first kids bring. -/
def belP (kids : Nat → List Nat) (own : Nat → Bool) (d f j : Nat) : List Nat := ((kids f).take j).flatMap fun k => k :: (if own k then [] else belF kids own d k)
theorem belP_zero (kids : Nat → List Nat) (own : Nat → Bool) (d f : Nat) : belP kids own d f 0 = [] := by simp [belP]
theorem belP_all (kids : Nat → List Nat) (own : Nat → Bool) (d f : Nat) : belP kids own d f (kids f).length = belF kids own (d + 1) f := by rw [belP, List.take_length, belF]
theorem belP_succ (kids : Nat → List Nat) (own : Nat → Bool) (d f j k : Nat) (hj : (kids f)[j]? = some k) : belP kids own d f (j + 1) = belP kids own d f j ++ k :: (if own k then [] else belF kids own d k) := by
  rw [belP, belP, List.take_add_one, hj, List.flatMap_append]
  simp
theorem belP_len (kids : Nat → List Nat) (own : Nat → Bool) (d f j : Nat) : (belP kids own d f j).length ≤ (belF kids own (d + 1) f).length := by
  rw [belF, belP]
  conv => rhs; rw [← List.take_append_drop j (kids f), List.flatMap_append, List.length_append]
  exact Nat.le_add_right _ _
end Go.Proofs.YtbpkffoooieejaaDoor
