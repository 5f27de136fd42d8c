/- The closed facts of a row, with what is said of the head of the dump proved apart (the kernel takes too much room for a long string's letters). -/
import Derived.Test.YtdnnodpkgncegaaDoorRows
import Derived.JoinedOf
import Derived.KernelRfl
namespace Go.Proofs.YtdnnodpkgncegaaDoor
open Go

/-- The letters of the dump's head. -/
def headCodes : List Nat := [104, 97, 114, 110, 101, 115, 115, 32, 98, 99, 56, 55, 98, 49, 56, 53, 50, 49, 100, 101, 50, 97, 98, 98, 54, 53, 48, 55, 54, 54, 101, 52, 48, 56, 53, 50, 53, 50, 50, 48, 54, 101, 100, 102, 99, 101, 49, 99, 56, 100, 53, 53, 54, 98, 101, 97, 49, 99, 98, 101, 54, 55, 98, 98, 101, 48, 57, 56, 99, 57, 102, 102, 32, 99, 117, 116, 32, 97, 116, 32, 99, 108, 101, 114, 101, 115, 116, 111, 114, 121, 47, 99, 108, 101, 114, 101, 115, 116, 111, 114, 121, 107, 101, 101, 112, 51, 46, 73, 116, 101, 109, 115, 80, 97, 105, 114, 115]
theorem head_bytes : Tryd.prog.initOrder.toByteArray = (headCodes.map Char.ofNat).utf8Encode := by kernel_rfl
theorem head_is : Tryd.prog.initOrder = String.ofList (headCodes.map Char.ofNat) := String.toByteArray_inj.1 (head_bytes.trans (String.toByteArray_ofList).symm)
theorem head_list : Tryd.prog.initOrder.toList = headCodes.map Char.ofNat := by rw [head_is, String.toList_ofList]
def headWords : List (List Char) := behindMainWord (wordsSigns (headCodes.map Char.ofNat))
theorem head_words : behindMainWord (wordsSigns Tryd.prog.initOrder.toList) = headWords := by rw [head_list]; rfl
section
variable {P : Program} {c : List Char} {rest : List (List Char)}
theorem make_of (h : behindMainWord (wordsSigns P.initOrder.toList) = c :: rest) (h1 : (c == "gc".toList || c == "spec".toList) = false) (h2 : (c == "cut".toList) = true) : P.make = some .cut := by
  unfold Program.make
  rw [h]
  simp only [h1, h2, Bool.true_or, if_true, Bool.false_eq_true, if_false]
theorem lifts_empty_of (h : behindMainWord (wordsSigns P.initOrder.toList) = c :: rest) (h1 : (stripLifts liftWords (c :: rest)).1 = []) : P.headLifts = [] := by
  unfold Program.headLifts
  rw [h]
  simp only [h1, ite_self]
theorem lifts_of (h : behindMainWord (wordsSigns P.initOrder.toList) = c :: rest) (h0 : P.headLifts = []) (h1 : ((c :: rest).head? == some "carried".toList) = false) : P.liftsFinal = false := by
  unfold Program.liftsFinal
  rw [h, h0]
  simp only [h1, Bool.false_and, List.contains_nil, Bool.or_false]
theorem may_of (h : behindMainWord (wordsSigns P.initOrder.toList) = c :: rest)
    (h3 : ((stripLifts liftWords (c :: rest)).2.head? == some "cut".toList &&
      ((stripLifts liftWords (c :: rest)).1.contains "finals" || !P.laysLater) && ((stripLifts liftWords (c :: rest)).1.contains "reflectrows" || !P.bearsReflect) &&
      ((stripLifts liftWords (c :: rest)).1.contains "reflectrows" || !(stripLifts liftWords (c :: rest)).1.contains "leanrows") &&
      P.doorFits (stripLifts liftWords (c :: rest)).1) = true) : P.mayEnter = true := by
  unfold Program.mayEnter
  rw [h]
  simp only [h3, Bool.or_true]
end
theorem words_are : behindMainWord (wordsSigns Tryd.prog.initOrder.toList) = headWords.headD [] :: headWords.tail := by rw [head_words]; kernel_rfl
theorem make_is : Tryd.prog.make = some .cut := make_of words_are (by kernel_rfl) (by kernel_rfl)
theorem lifts_empty : Tryd.prog.headLifts = [] := lifts_empty_of words_are (by kernel_rfl)
theorem lifts_is : Tryd.prog.liftsFinal = false := lifts_of words_are lifts_empty (by kernel_rfl)
theorem may_enter : Tryd.prog.mayEnter = true := may_of words_are (by kernel_rfl)

end Go.Proofs.YtdnnodpkgncegaaDoor
