/- Plain facts on the parts of a text. No program in sight. -/
import Derived.Test.YtadlabndbomgmaaLinesMem
namespace Go.Proofs.Ytadlabndbomgmaa
open Go.RowKit
def pieceAt (l : List ByteArray) (q : Nat) : ByteArray := l.getD q ByteArray.empty
theorem pieceAt_of (l : List ByteArray) (q : Nat) (h : q < l.length) : pieceAt l q = l[q] := by simp [pieceAt, List.getD, List.getElem?_eq_getElem h]
def textPt (i : Nat) (x : It) (l : List ByteArray) (q : Nat) : Pt := ⟨i, pieceAt l q, txW x (pieceAt l q), l.length - q == 1⟩
def textTo (i : Nat) (x : It) (l : List ByteArray) (k : Nat) : List Pt := (List.range k).map (textPt i x l)
theorem textTo_next (i : Nat) (x : It) (l : List ByteArray) (k : Nat) : textTo i x l (k + 1) = textTo i x l k ++ [textPt i x l k] := by simp [textTo, List.range_succ]
theorem textParts_map (i : Nat) (x : It) : ∀ (l : List ByteArray) (n : Nat), textParts i x n l = (List.range l.length).map fun q => ⟨i, pieceAt l q, txW x (pieceAt l q), n - q == 1⟩
  | [], n => rfl
  | t :: r, n => by
    simp only [textParts]
    rw [textParts_map i x r (n - 1), List.length_cons, List.range_succ_eq_map, List.map_cons, List.map_map]
    congr 1
    refine List.map_congr_left fun q _ => ?_
    simp only [Function.comp]
    have e : n - 1 - q = n - (q + 1) := by omega
    rw [e]; rfl
theorem textTo_all (i : Nat) (x : It) (l : List ByteArray) : textTo i x l l.length = textParts i x l.length l := (textParts_map i x l l.length).symm
end Go.Proofs.Ytadlabndbomgmaa
