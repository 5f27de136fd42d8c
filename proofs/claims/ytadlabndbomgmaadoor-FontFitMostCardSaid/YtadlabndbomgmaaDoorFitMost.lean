/- The walk of the statement FontFitMost: it returns true. -/
import Derived.BigQuiet
import Derived.Handy
import Derived.IntWalk
import Derived.RegionTactic
import Derived.Deep.QuietTactic
import Derived.Test.YtadlabndbomgmaaDoorShelfB
import Derived.Test.YtadlabndbomgmaaDoorWidth
import Derived.Test.YtadlabndbomgmaaDoorJoinedT
namespace Go.Proofs.YtadlabndbomgmaaDoor
open Go.ChangeShapes Go.WideShapes Go.ChangeAt Go.RowKit
theorem w32_bd (n : Int) : -2147483648 ≤ wrap32 n ∧ wrap32 n ≤ 2147483647 := by unfold wrap32; omega
theorem take_str (s : ByteArray) (k : Nat) : (s.extract 0 k).data.toList = s.data.toList.take k := by simp
theorem drop_str (s : ByteArray) (k : Nat) : (s.extract k s.size).data.toList = s.data.toList.drop k := by
  simp
  apply List.take_of_length_le
  rw [List.length_drop, bytes_len]; exact Nat.le_refl _
theorem dec_drop (s : ByteArray) (k : Nat) (h : k < s.size) : Lib.decodeGo (s.extract k s.size) = Utf8.decode s k := by
  have h1 : (s.extract k s.size).size ≠ 0 := by rw [ByteArray.size_extract]; omega
  unfold Lib.decodeGo
  rw [if_neg h1, ← Lib.decodeL_drop (s.extract k s.size) 0, List.drop_zero, drop_str, Lib.decodeL_drop]
/-- What does not fit, out of a room below 0. -/
theorem Fit_none (s : ByteArray) (size sp0 room0 : Int) (w : World) (hroom : cut room0 < 0) :
    Calls Tryd.prog 12 #[.string s, .int .i64 size, .int .i64 sp0, .int .i64 room0] w fun e w' => e = .returned (.int .i64 0) ∧ w = w' := by
  generalize hrm : cut room0 = room at *
  have HRM := hide hrm
  clear hrm
  have z : decide (room < 0) = true := decide_eq_true hroom
  go_enter Tryd.func12, Tryd.ntmps12
  go_wp2_with (first | (go_at_call 13; refine (cut_any _ _).mono ?_; rintro e w' ⟨rfl, rfl⟩; rw [HRM.out]) | fail)
  go_ret
  exact ⟨rfl, rfl⟩
set_option maxRecDepth 100000 in
set_option maxHeartbeats 2000000 in
theorem fitMost_any (a : ByteArray) (size sp room0 : Int) (w : World) (ha : a.size ≤ maxLen) (hT : Lib.Utf8Tabs 0 1 w) :
    Calls Tryd.prog 4 #[.string a, .int .i64 size, .int .i64 sp, .int .i64 room0] w fun e w' => e = .returned (.bool true) ∧ Below w.heap.size w w' := by
  unfold maxLen at ha
  have HT := hide hT
  have hsz := wi16f size
  have hspb : 0 ≤ sp % 256 ∧ sp % 256 ≤ 255 := by omega
  have hrm := w32_bd room0
  clear hT
  go_enter Tryd.func4, Tryd.ntmps4
  go_wp2_with fail
  have hs1 : (a.extract 0 (min (a.size : Int) 200).toNat).size ≤ 200 := cut_min a 200
  generalize a.extract 0 (min (a.size : Int) 200).toNat = s at *
  generalize IntKind.i16.wrap size = S at *
  generalize sp % 256 = P at *
  generalize wrap32 room0 = room at *
  refine (fonted_any w).mono ?_
  rintro e w1 ⟨rfl, L1⟩
  have T1 := hide (Utf8Tabs_below HT.out L1)
  clear HT
  go_wp2_with fail
  refine (Tryd.utf8_ValidString s w1 (by omega) T1.out).mono ?_
  rintro e w2 ⟨rfl, hb2⟩
  have L2 := below_then L1 (Nat.le_refl _) hb2
  have T2 := hide (Utf8Tabs_below T1.out hb2)
  clear hb2 L1 T1
  cases hv : Lib.validD s.data.toList
  · clear hv
    go_wp2_with (first | (go_at_call 8; refine (fonted_any _).mono ?_; rintro e w9 ⟨rfl, hb9⟩; have L9 := below_then L2 (Nat.le_refl _) hb9) | fail)
    go_ret
    exact ⟨rfl, L9⟩
  · have HV := hide hv
    clear hv
    have hc : cut P = P := cut_of (by omega) (by omega)
    by_cases h0 : room < 0
    · have hcr : cut room < 0 := by unfold cut; omega
      have z0 : decide (room < 0) = true := decide_eq_true h0
      clear h0 hc
      go_wp2_with fail
      refine (Fit_none s S P room w2 hcr).mono ?_
      rintro e w3 ⟨rfl, rfl⟩
      clear hcr
      go_wp2_with fail
      go_ret
      exact ⟨rfl, L2⟩
    · have hcr : 0 ≤ cut room := by unfold cut; omega
      have z0 : decide (room < 0) = false := decide_eq_false h0
      clear h0
      go_wp2_with fail
      refine (Fit_any s S P room w2 (by omega) hcr).mono ?_
      rintro e w3 ⟨rfl, hb3⟩
      have L3 := below_then L2 (Nat.le_refl _) hb3
      have T3 := hide (Utf8Tabs_below T2.out hb3)
      clear hb3 L2 T2
      have hfl := fit_law S (cut P) (cut room) s hcr HV.out
      generalize fitF S (cut P) (cut room) s = k at *
      obtain ⟨hk, hin, hout⟩ := hfl
      generalize hR : cut room = R at *
      have HR := hide hR
      clear hR
      have hk0 : (0 : Int) ≤ (k : Int) := by omega
      have hk1 : (k : Int) ≤ (s.size : Int) := by omega
      have zk : decide ((k : Int) < 0) = false := decide_eq_false (by omega)
      have zk2 : decide ((s.size : Int) < (k : Int)) = false := decide_eq_false (by omega)
      have zk3 : decide (s.size < k) = false := decide_eq_false (by omega)
      have HIN := hide (show decide (R < widthF S P (runesL (s.extract 0 k).data.toList)) = false from decide_eq_false (by rw [take_str]; unfold widthF; omega))
      go_wp2_with (first | (go_at_call 13; refine (cut_any _ _).mono ?_; rintro e w' ⟨rfl, rfl⟩; rw [HR.out]) | fail)
      refine (Width_any (s.extract 0 k) S P w3 (by rw [ByteArray.size_extract]; omega)).mono ?_
      rintro e w4 ⟨rfl, hb4⟩
      have L4 := below_then L3 (Nat.le_refl _) hb4
      have T4 := hide (Utf8Tabs_below T3.out hb4)
      have z1 := HIN.out
      clear hb4 L3 T3 HIN hin
      generalize widthF S P (runesL (s.extract 0 k).data.toList) = x1 at *
      by_cases hks : k = s.size
      · have zk4 : ((k : Int) == (s.size : Int)) = true := by rw [hks]; simp
        have zk5 : (k == s.size) = true := by rw [hks]; simp
        clear hks hout
        go_wp2_with fail
        go_ret
        exact ⟨rfl, L4⟩
      · have zk4 : ((k : Int) == (s.size : Int)) = false := by simp; omega
        have zk5 : (k == s.size) = false := by simp [hks]
        have hlt : k < s.size := by omega
        have HW := hide (hout hlt)
        have hdw := decode_wd s k hlt
        have HDD := hide (dec_drop s k hlt)
        clear hks hout
        go_wp2_with fail
        refine (Tryd.utf8_DecodeRuneInString (s.extract k s.size) w4 T4.out).mono ?_
        rintro e w5 ⟨rfl, hb5⟩
        rw [HDD.out]
        have L5 := below_then L4 (Nat.le_refl _) hb5
        clear hb5 L4 T4 HDD
        generalize Utf8.decode s k = d at *
        obtain ⟨dr, dw⟩ := d
        dsimp only at *
        have hw1 : (0 : Int) ≤ (k : Int) + (dw : Int) := by omega
        have hw2 : (k : Int) + (dw : Int) ≤ (s.size : Int) := by omega
        have hw3 : ((k : Int) + (dw : Int)).toNat = k + dw := by omega
        go_wp2_with fail
        have HWD := hide (show decide (R < widthF S P (runesL (s.extract 0 (k + dw)).data.toList)) = true from decide_eq_true (by rw [take_str]; unfold widthF; exact HW.out))
        refine (Width_any (s.extract 0 (k + dw)) S P w5 (by rw [ByteArray.size_extract]; omega)).mono ?_
        rintro e w6 ⟨rfl, hb6⟩
        have L6 := below_then L5 (Nat.le_refl _) hb6
        have z9 := HWD.out
        clear HWD HW
        generalize widthF S P (runesL (s.extract 0 (k + dw)).data.toList) = x2 at *
        go_wp2_with fail
        go_ret
        exact ⟨rfl, L6⟩
end Go.Proofs.YtadlabndbomgmaaDoor
