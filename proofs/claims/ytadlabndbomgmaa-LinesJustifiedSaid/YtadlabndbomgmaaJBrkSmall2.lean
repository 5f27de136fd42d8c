/- How many lines there are of one text. No program in sight. -/
import Derived.Test.YtadlabndbomgmaaJ2
set_option linter.unusedVariables false
set_option linter.unusedSimpArgs false
namespace Go.Proofs.Ytadlabndbomgmaa
section
variable (s : ByteArray) (z : Int)
theorem flatten_ge : ∀ (l : List (List Pt)), (∀ x ∈ l, x ≠ []) → l.length ≤ l.flatten.length
  | [], _ => Nat.le_refl _
  | x :: l, h => by
    have h1 := flatten_ge l fun y hy => h y (by simp [hy])
    have h2 : 0 < x.length := List.length_pos_iff.2 (h x (by simp))
    rw [List.flatten_cons, List.length_append, List.length_cons]
    omega
theorem out_small (hs : s.size ≤ 200) (hz : 0 ≤ z ∧ z ≤ 255) (ht : Tidy true s.data.toList) (sz ht2 al y W : Int) (out : List Ln) (hout : breakF [oneIt s z] sz ht2 al W y = out) : out.length ≤ 200 := by
  have H := lines_text s z hs hz ht sz ht2 al y W
  rw [hout] at H
  have h1 := flatten_ge _ H.some
  rw [H.flat] at h1
  have h6 := (psOf_len s z)
  have h7 := pieces_count s true false
  have hl := H.len
  unfold pcsOf at h6
  omega
end
end Go.Proofs.Ytadlabndbomgmaa
