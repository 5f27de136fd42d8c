/- The closed facts of a row, with what is said of the head of the dump proved apart (the kernel takes too much room for a long string's letters). -/
import Derived.Test.YtadlabndbomgmaaRows
import Derived.JoinedOf
import Derived.KernelRfl
namespace Go.Proofs.Ytadlabndbomgmaa
open Go

/-- The letters of the dump's head. -/
def headCodes : List Nat := [104, 97, 114, 110, 101, 115, 115, 32, 54, 48, 48, 49, 55, 55, 101, 50, 101, 48, 98, 50, 97, 102, 99, 98, 100, 51, 99, 48, 49, 97, 57, 55, 48, 97, 100, 97, 49, 54, 98, 102, 49, 97, 97, 56, 102, 100, 50, 57, 101, 101, 101, 101, 53, 55, 55, 48, 54, 52, 57, 101, 55, 53, 57, 57, 56, 50, 57, 102, 52, 98, 102, 98, 32, 99, 117, 116, 32, 97, 116, 32, 99, 108, 101, 114, 101, 115, 116, 111, 114, 121, 47, 99, 108, 101, 114, 101, 115, 116, 111, 114, 121, 107, 101, 101, 112, 51, 46, 77, 97, 114, 103, 105, 110, 115, 79, 114, 100, 101, 114, 32, 99, 108, 101, 114, 101, 115, 116, 111, 114, 121, 47, 99, 108, 101, 114, 101, 115, 116, 111, 114, 121, 107, 101, 101, 112, 51, 46, 70, 105, 120, 77, 111, 110, 111, 116, 111, 110, 101, 32, 99, 108, 101, 114, 101, 115, 116, 111, 114, 121, 47, 99, 108, 101, 114, 101, 115, 116, 111, 114, 121, 107, 101, 101, 112, 51, 46, 87, 104, 105, 116, 101, 74, 111, 105, 110, 101, 100, 32, 99, 108, 101, 114, 101, 115, 116, 111, 114, 121, 47, 99, 108, 101, 114, 101, 115, 116, 111, 114, 121, 107, 101, 101, 112, 51, 46, 70, 105, 120, 87, 104, 111, 108, 101, 32, 99, 108, 101, 114, 101, 115, 116, 111, 114, 121, 47, 99, 108, 101, 114, 101, 115, 116, 111, 114, 121, 107, 101, 101, 112, 51, 46, 70, 108, 111, 97, 116, 115, 65, 112, 97, 114, 116, 32, 99, 108, 101, 114, 101, 115, 116, 111, 114, 121, 47, 99, 108, 101, 114, 101, 115, 116, 111, 114, 121, 107, 101, 101, 112, 51, 46, 70, 108, 111, 97, 116, 115, 82, 111, 111, 109, 32, 99, 108, 101, 114, 101, 115, 116, 111, 114, 121, 47, 99, 108, 101, 114, 101, 115, 116, 111, 114, 121, 107, 101, 101, 112, 51, 46, 87, 105, 100, 116, 104, 115, 65, 100, 100, 32, 99, 108, 101, 114, 101, 115, 116, 111, 114, 121, 47, 99, 108, 101, 114, 101, 115, 116, 111, 114, 121, 107, 101, 101, 112, 51, 46, 87, 105, 100, 116, 104, 115, 66, 111, 117, 110, 100, 32, 99, 108, 101, 114, 101, 115, 116, 111, 114, 121, 47, 99, 108, 101, 114, 101, 115, 116, 111, 114, 121, 107, 101, 101, 112, 51, 46, 66, 114, 101, 97, 107, 115, 87, 104, 111, 108, 101, 32, 99, 108, 101, 114, 101, 115, 116, 111, 114, 121, 47, 99, 108, 101, 114, 101, 115, 116, 111, 114, 121, 107, 101, 101, 112, 51, 46, 87, 104, 105, 116, 101, 84, 119, 105, 99, 101, 32, 99, 108, 101, 114, 101, 115, 116, 111, 114, 121, 47, 99, 108, 101, 114, 101, 115, 116, 111, 114, 121, 107, 101, 101, 112, 51, 46, 70, 108, 101, 120, 66, 111, 117, 110, 100, 115, 32, 99, 108, 101, 114, 101, 115, 116, 111, 114, 121, 47, 99, 108, 101, 114, 101, 115, 116, 111, 114, 121, 107, 101, 101, 112, 51, 46, 70, 108, 101, 120, 70, 105, 108, 108, 101, 100, 32, 99, 108, 101, 114, 101, 115, 116, 111, 114, 121, 47, 99, 108, 101, 114, 101, 115, 116, 111, 114, 121, 107, 101, 101, 112, 51, 46, 66, 114, 101, 97, 107, 115, 77, 117, 115, 116, 32, 99, 108, 101, 114, 101, 115, 116, 111, 114, 121, 47, 99, 108, 101, 114, 101, 115, 116, 111, 114, 121, 107, 101, 101, 112, 51, 46, 70, 108, 101, 120, 82, 111, 119, 115, 65, 108, 108, 32, 99, 108, 101, 114, 101, 115, 116, 111, 114, 121, 47, 99, 108, 101, 114, 101, 115, 116, 111, 114, 121, 107, 101, 101, 112, 51, 46, 70, 108, 101, 120, 83, 112, 114, 101, 97, 100, 65, 108, 108, 32, 99, 108, 101, 114, 101, 115, 116, 111, 114, 121, 47, 99, 108, 101, 114, 101, 115, 116, 111, 114, 121, 107, 101, 101, 112, 51, 46, 84, 97, 98, 108, 101, 83, 112, 97, 110, 115, 32, 99, 108, 101, 114, 101, 115, 116, 111, 114, 121, 47, 99, 108, 101, 114, 101, 115, 116, 111, 114, 121, 107, 101, 101, 112, 51, 46, 83, 105, 122, 101, 115, 79, 114, 100, 101, 114, 32, 99, 108, 101, 114, 101, 115, 116, 111, 114, 121, 47, 99, 108, 101, 114, 101, 115, 116, 111, 114, 121, 107, 101, 101, 112, 51, 46, 84, 97, 98, 108, 101, 70, 117, 108, 108, 32, 99, 108, 101, 114, 101, 115, 116, 111, 114, 121, 47, 99, 108, 101, 114, 101, 115, 116, 111, 114, 121, 107, 101, 101, 112, 51, 46, 76, 105, 110, 101, 115, 74, 117, 115, 116, 105, 102, 105, 101, 100, 32, 99, 108, 101, 114, 101, 115, 116, 111, 114, 121, 47, 99, 108, 101, 114, 101, 115, 116, 111, 114, 121, 107, 101, 101, 112, 51, 46, 76, 105, 110, 101, 115, 79, 110, 101, 32, 99, 108, 101, 114, 101, 115, 116, 111, 114, 121, 47, 99, 108, 101, 114, 101, 115, 116, 111, 114, 121, 107, 101, 101, 112, 51, 46, 76, 105, 110, 101, 115, 70, 105, 116]
theorem head_bytes : Try.prog.initOrder.toByteArray = (headCodes.map Char.ofNat).utf8Encode := by kernel_rfl
theorem head_is : Try.prog.initOrder = String.ofList (headCodes.map Char.ofNat) := String.toByteArray_inj.1 (head_bytes.trans (String.toByteArray_ofList).symm)
theorem head_list : Try.prog.initOrder.toList = headCodes.map Char.ofNat := by rw [head_is, String.toList_ofList]
def headWords : List (List Char) := behindMainWord (wordsSigns (headCodes.map Char.ofNat))
theorem head_words : behindMainWord (wordsSigns Try.prog.initOrder.toList) = headWords := by rw [head_list]; rfl
section
variable {P : Program} {c : List Char} {rest : List (List Char)}
theorem make_of (h : behindMainWord (wordsSigns P.initOrder.toList) = c :: rest) (h1 : (c == "gc".toList || c == "spec".toList) = false) (h2 : (c == "cut".toList) = true) : P.make = some .cut := by
  unfold Program.make
  rw [h]
  simp only [h1, h2, Bool.true_or, if_true, Bool.false_eq_true, if_false]
theorem lifts_empty_of (h : behindMainWord (wordsSigns P.initOrder.toList) = c :: rest) (h1 : (stripLifts liftWords (c :: rest)).1 = []) : P.headLifts = [] := by
  unfold Program.headLifts
  rw [h]
  simp only [h1, ite_self]
theorem lifts_of (h : behindMainWord (wordsSigns P.initOrder.toList) = c :: rest) (h0 : P.headLifts = []) (h1 : ((c :: rest).head? == some "carried".toList) = false) : P.liftsFinal = false := by
  unfold Program.liftsFinal
  rw [h, h0]
  simp only [h1, Bool.false_and, List.contains_nil, Bool.or_false]
theorem may_of (h : behindMainWord (wordsSigns P.initOrder.toList) = c :: rest)
    (h3 : ((stripLifts liftWords (c :: rest)).2.head? == some "cut".toList &&
      ((stripLifts liftWords (c :: rest)).1.contains "finals" || !P.laysLater) && ((stripLifts liftWords (c :: rest)).1.contains "reflectrows" || !P.bearsReflect) &&
      ((stripLifts liftWords (c :: rest)).1.contains "reflectrows" || !(stripLifts liftWords (c :: rest)).1.contains "leanrows") &&
      P.doorFits (stripLifts liftWords (c :: rest)).1) = true) : P.mayEnter = true := by
  unfold Program.mayEnter
  rw [h]
  simp only [h3, Bool.or_true]
end
theorem words_are : behindMainWord (wordsSigns Try.prog.initOrder.toList) = headWords.headD [] :: headWords.tail := by rw [head_words]; kernel_rfl
theorem make_is : Try.prog.make = some .cut := make_of words_are (by kernel_rfl) (by kernel_rfl)
theorem lifts_empty : Try.prog.headLifts = [] := lifts_empty_of words_are (by kernel_rfl)
theorem lifts_is : Try.prog.liftsFinal = false := lifts_of words_are lifts_empty (by kernel_rfl)
theorem may_enter : Try.prog.mayEnter = true := may_of words_are (by kernel_rfl)

end Go.Proofs.Ytadlabndbomgmaa
