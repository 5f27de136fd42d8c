/- The walk of the statement FontJoined: it returns true. -/
import Derived.BigQuiet
import Derived.Handy
import Derived.IntWalk
import Derived.RegionTactic
import Derived.Deep.QuietTactic
import Derived.Test.YtadlabndbomgmaaDoorShelfB
import Derived.Test.YtadlabndbomgmaaDoorWidth
namespace Go.Proofs.YtadlabndbomgmaaDoor
open Go.ChangeShapes Go.WideShapes Go.ChangeAt Go.RowKit
theorem wi16f (n : Int) : -32768 ≤ IntKind.i16.wrap n ∧ IntKind.i16.wrap n ≤ 32767 := by simp only [IntKind.wrap, IntKind.bits, IntKind.signed]; simp; omega
theorem wi8f (n : Int) : -128 ≤ IntKind.i8.wrap n ∧ IntKind.i8.wrap n ≤ 127 := by simp only [IntKind.wrap, IntKind.bits, IntKind.signed]; simp; omega
theorem cut_min (s : ByteArray) (m : Nat) : (s.extract 0 (min (s.size : Int) m).toNat).size ≤ m := by
  rw [ByteArray.size_extract]; omega
theorem size_int {s : Int} (h : -32768 ≤ s ∧ s ≤ 32767) : sizeF s = max 0 s ∧ sizeF s ≤ 32767 := by
  unfold sizeF
  rw [cut_of (by omega) (by omega)]; omega
theorem cut_bd (n : Int) : -16777216 ≤ cut n ∧ cut n ≤ 16777216 := ⟨cut_lo n, cut_hi n⟩
set_option maxRecDepth 100000 in
set_option maxHeartbeats 2000000 in
theorem fontJoined_any (a b : ByteArray) (size sp : Int) (w : World) (ha : a.size ≤ maxLen) (hb : b.size ≤ maxLen) (hT : Lib.Utf8Tabs 0 1 w) :
    Calls Tryd.prog 3 #[.string a, .string b, .int .i64 size, .int .i64 sp] w fun e w' => e = .returned (.bool true) ∧ Below w.heap.size w w' := by
  unfold maxLen at ha hb
  have HT := hide hT
  clear hT
  go_enter Tryd.func3, Tryd.ntmps3
  go_wp2_with fail
  go_region
  have hs1 : (a.extract 0 (min (a.size : Int) 100).toNat).size ≤ 100 := cut_min a 100
  have hs2 : (b.extract 0 (min (b.size : Int) 100).toNat).size ≤ 100 := cut_min b 100
  generalize a.extract 0 (min (a.size : Int) 100).toNat = a1 at *
  generalize b.extract 0 (min (b.size : Int) 100).toNat = b1 at *
  have L0 := (Below.refl w.heap.size w).drew
  have T0 := hide (show Lib.Utf8Tabs 0 1 w.drew from HT.out)
  clear HT
  generalize w.drew = w0 at *
  go_wp2_with fail
  refine (Tryd.utf8_ValidString a1 w0 (by omega) T0.out).mono ?_
  rintro e w1 ⟨rfl, hb1⟩
  have T1 := hide (Utf8Tabs_below T0.out hb1)
  have L1 := below_then L0 (Nat.le_refl _) hb1
  clear hb1 L0 T0
  cases hva : Lib.validD a1.data.toList
  · clear hva
    go_wp2_with (first | (go_at_call 8; refine (fonted_any _).mono ?_; rintro e w9 ⟨rfl, hb9⟩; have L9 := below_then L1 (Nat.le_refl _) hb9) | fail)
    go_ret
    exact ⟨rfl, L9⟩
  · have HVA := hide hva
    clear hva
    go_wp2_with fail
    refine (Tryd.utf8_ValidString b1 w1 (by omega) T1.out).mono ?_
    rintro e w2 ⟨rfl, hb2⟩
    have L2 := below_then L1 (Nat.le_refl _) hb2
    clear hb2 L1 T1
    cases hvb : Lib.validD b1.data.toList
    · clear hvb
      go_wp2_with (first | (go_at_call 8; refine (fonted_any _).mono ?_; rintro e w9 ⟨rfl, hb9⟩; have L9 := below_then L2 (Nat.le_refl _) hb9) | fail)
      go_ret
      exact ⟨rfl, L9⟩
    · clear hvb
      have hsz := wi16f size
      have hspb := wi8f sp
      go_wp2_with fail
      refine (fonted_any w2).mono ?_
      rintro e w3 ⟨rfl, hb3⟩
      have L3 := below_then L2 (Nat.le_refl _) hb3
      clear hb3 L2
      generalize IntKind.i16.wrap size = S at *
      generalize IntKind.i8.wrap sp = P at *
      have hz := size_int hsz
      have las : (runesL a1.data.toList).length ≤ 100 := runesL_len 100 _ (by rw [bytes_len]; exact hs1)
      have lbs : (runesL b1.data.toList).length ≤ 100 := runesL_len 100 _ (by rw [bytes_len]; exact hs2)
      have hj := width_joined S P hz.2 hspb _ _ las lbs
      rw [← runes_append _ _ _ (Nat.le_refl _) HVA.out, ← append_toList] at hj
      have HJ := hide hj
      have W1 := hide (Width_any (a1 ++ b1) S P w3 (by rw [ByteArray.size_append]; omega))
      have bx := cut_bd (wideS S (cut P) (runesL a1.data.toList))
      have by_ := cut_bd (wideS S (cut P) (runesL b1.data.toList))
      rw [show cut (wideS S (cut P) (runesL a1.data.toList)) = widthF S P (runesL a1.data.toList) from rfl] at bx
      rw [show cut (wideS S (cut P) (runesL b1.data.toList)) = widthF S P (runesL b1.data.toList) from rfl] at by_
      have hasc := asc_bd S
      have hzz := sizeF_bd S
      clear hj las lbs
      go_wp2_with fail
      refine W1.out.mono ?_
      rintro e w4 ⟨rfl, hb4⟩
      rw [HJ.out]
      have L4 := below_then L3 (Nat.le_refl _) hb4
      clear hb4 L3 W1
      go_wp2_with fail
      refine (Width_any a1 S P w4 (by omega)).mono ?_
      rintro e w5 ⟨rfl, hb5⟩
      have L5 := below_then L4 (Nat.le_refl _) hb5
      clear hb5 L4
      go_wp2_with fail
      refine (Width_any b1 S P w5 (by omega)).mono ?_
      rintro e w6 ⟨rfl, hb6⟩
      have L6 := below_then L5 (Nat.le_refl _) hb6
      clear hb6 L5 HJ
      generalize widthF S P (runesL a1.data.toList) = x at *
      generalize widthF S P (runesL b1.data.toList) = y at *
      have z1 : (x + y == x + y) = true := by simp
      have z2 : (ascF S + (sizeF S - ascF S) == max 0 S) = true := by rw [hz.1]; simp; try omega
      have z3 : (sizeF S == max 0 S) = true := by rw [hz.1]; simp; try omega
      clear hz
      go_wp2_with (first | (go_at_call 10; refine (Ascent_any _ _).mono ?_; rintro e w' ⟨rfl, rfl⟩) | (go_at_call 11; refine (Descent_any _ _).mono ?_; rintro e w' ⟨rfl, rfl⟩) | fail)
      go_ret
      exact ⟨rfl, L6⟩
end Go.Proofs.YtadlabndbomgmaaDoor
