/- Words for the walk of raster.Flat: layers in memory; rows that lie apart. -/
import Derived.Test.YtbpkffoooieejaaPixel
namespace Go.Proofs.Ytbpkffoooieejaa
open Go.RowKit
def layC (a : Rc × Int) : List Value := [.int .i64 a.1.x, .int .i64 a.1.y, .int .i64 a.1.w, .int .i64 a.1.h, .int .i64 a.2]
def layCells (ar : Lay) : List Value := ar.reverse.flatMap layC
theorem layCells_cons (a : Rc × Int) (ar : Lay) : layCells (a :: ar) = layCells ar ++ layC a := by simp [layCells]
theorem layCells_len (ar : Lay) : (layCells ar).length = ar.length * 5 := by
  induction ar with
  | nil => rfl
  | cons a ar ih => rw [layCells_cons, List.length_append, ih]; simp [layC]; omega
theorem layCells_top (a : Rc × Int) (ar : Lay) (j : Nat) (hj : j < 5) : (layCells (a :: ar))[ar.length * 5 + j]? = (layC a)[j]? := by
  rw [layCells_cons, List.getElem?_append_right (by rw [layCells_len]; omega), layCells_len]
  congr 1; omega
theorem layCells_pop (a : Rc × Int) (ar : Lay) : (layCells (a :: ar)).take (ar.length * 5) = layCells ar := by
  rw [layCells_cons, List.take_append_of_le_length (by rw [layCells_len]; exact Nat.le_refl _), List.take_of_length_le (by rw [layCells_len]; exact Nat.le_refl _)]
/-- A row of the call's own, cut. -/
theorem own_pop {w : World} {base size n m c : Nat} {e : TypeId} {A : Option Addr} {xs : List Value} (h : w.ownsRow base e size (.slice A n c) n xs) (hm : m ≤ n) (hn : 0 < n) : w.ownsRow base e size (.slice A m c) m (xs.take (m * size)) := by
  obtain ⟨hl, h1 | ⟨g, cap, cur, hv, hg, hh, hc, hcm, hcs, ht⟩⟩ := h
  · omega
  · injection hv with hA hn2 hc2
    subst hA
    subst hc2
    refine ⟨?_, .inr ⟨g, c, cur, rfl, hg, hh, by omega, hcm, hcs, ?_⟩⟩
    · rw [List.length_take, hl]; exact Nat.min_eq_left (Nat.mul_le_mul_right _ hm)
    · rw [← ht, List.take_take, Nat.min_eq_left (Nat.mul_le_mul_right _ hm)]
/-- Two rows of other types lie apart. -/
theorem own_apart {w : World} {base base' size size' n n' : Nat} {e e' : TypeId} {v v' : Value} {xs xs' : List Value} (h : w.ownsRow base e size v n xs) (h' : w.ownsRow base' e' size' v' n' xs') (hne : e ≠ e') : v.ownBlock = none ∨ v.ownBlock ≠ v'.ownBlock := by
  obtain ⟨_, ⟨rfl, _⟩ | ⟨g, cap, cur, rfl, _, hh, _⟩⟩ := h
  · exact .inl rfl
  · right
    intro e9
    have h9 := own_blk_ne h' (g := g) (t := e) (cs := cur) hh (fun q => hne q.symm)
    exact h9 e9.symm
def layOk (ar : Lay) : Prop := ∀ a ∈ ar, a.1.clip ∧ 0 ≤ a.2 ∧ a.2 ≤ 1000
end Go.Proofs.Ytbpkffoooieejaa
