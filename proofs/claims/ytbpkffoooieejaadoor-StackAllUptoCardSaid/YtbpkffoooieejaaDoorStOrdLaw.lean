/- Laws for the walk of stack.Order. No program in sight. -/
import Derived.Test.YtbpkffoooieejaaDoorStOrdMem
import Derived.Test.YtbpkffoooieejaaDoorSteps3
namespace Go.Proofs.YtbpkffoooieejaaDoor
open Go.RowKit Go.Instr
theorem bsz {B : Nat} {w w' : World} (h : Below B w w') (hB : B ≤ w.heap.size) : B ≤ w'.heap.size := Nat.le_trans hB h.size
theorem below_alloc2 {B : Nat} {w : World} (h : Below B w w) (a b : Obj) (hB : B ≤ w.heap.size := by exact Nat.le_refl _) : Below B w ((w.alloc a).alloc b) := by
  have h1 := h.alloc hB a
  exact h1.alloc (Nat.le_trans hB h1.size) b
theorem styCells_row (Rs : List (Nat → Int)) (q : Nat) (R : Nat → Int) (h : Rs[q]? = some R) (j : Nat) (hj : j < 118) : (styCells Rs)[q * 118 + j]? = some (.int .i64 (R j)) := by
  induction Rs generalizing q with
  | nil => simp at h
  | cons A Rs ih =>
    have hl : (styA A).toList.length = 118 := by simpa using styA_size A
    have he : styCells (A :: Rs) = (styA A).toList ++ styCells Rs := by simp [styCells]
    rw [he]
    cases q with
    | zero =>
      obtain rfl : A = R := by simpa using h
      rw [List.getElem?_append_left (by omega), Array.getElem?_toList, Nat.zero_mul, Nat.zero_add, styA_at _ hj]
    | succ q =>
      rw [List.getElem?_append_right (by omega), hl, show (q + 1) * 118 + j - 118 = q * 118 + j by omega]
      exact ih q (by simpa using h)
theorem kidsF_len (k : Nat) (par : Nat → Nat) (f : Nat) : (kidsF k par f).length ≤ k := by
  unfold kidsF
  exact Nat.le_trans (List.length_filter_le _ _) (by simp)
theorem yieldsIf_loadMidA {P : Program} {ops : Array Oper} {S : World → Prop} {a : Act} {op : Oper} (hw : Region.wanted op (yielded ops a.tmps) = true) (ty : TypeId) (x : Operand) (ho : op.op = .load ty x) (g off : Nat) (hx : a.eval x = .pointer (some ⟨g, off, none⟩)) (cs : Array Value) (d : TypeDesc)
    (hS : ∀ w, S w → ∀ j u, cs[j]? = some u → w.cell? ⟨g, off + j, none⟩ = some u) (hu : P.underlying ty = some d) (hd : (match d with | .struct _ | .array _ _ => true | _ => false) = true) (hi : (P.info? ty).map (·.size) = some cs.size) : YieldsIf P ops S op (.agg cs) a := by
  have := yieldsIf_loadMid (S := S) hw ty x ho g off hx cs.toList d (fun w h j u hj => hS w h j u (by rw [← Array.getElem?_toList]; exact hj)) hu hd (by rw [hi]; simp)
  rwa [Array.toArray_toList] at this
end Go.Proofs.YtbpkffoooieejaaDoor
