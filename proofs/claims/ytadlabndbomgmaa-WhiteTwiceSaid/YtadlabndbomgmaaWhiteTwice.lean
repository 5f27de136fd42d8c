/- The walk of the statement WhiteTwice: it returns true. -/
import Derived.BigQuiet
import Derived.Handy
import Derived.Test.YtadlabndbomgmaaShelfB
import Derived.Test.YtadlabndbomgmaaWhiteTwicePlain
import Derived.Test.YtadlabndbomgmaaWhiteJoined
namespace Go.Proofs.Ytadlabndbomgmaa
open Go.ChangeShapes Go.WideShapes Go.ChangeAt Go.RowKit
set_option maxRecDepth 100000 in
theorem whiteTwice_any (s : ByteArray) (m : Int) (b : Bool) (w : World) (hs : s.size ≤ maxLen) (mv : Int) (hmv : w.cell? ⟨0, 0, none⟩ = some (.int .i64 mv)) (h0 : 0 < w.heap.size) :
    Calls Try.prog 12 #[.string s, .int .i64 m, .bool b] w fun e w' => e = .returned (.bool true) ∧ Below w.heap.size w w' := by
  unfold maxLen at hs
  have Hmv := hide hmv
  clear hmv
  go_enter Try.func12, Try.ntmps12
  go_wp2_with fail
  have hs1 : (s.extract 0 (min (s.size : Int) 400).toNat).size ≤ 400 := by rw [ByteArray.size_extract]; omega
  generalize s.extract 0 (min (s.size : Int) 400).toNat = s1 at *
  refine (collapse_any s1 m b _ (by omega)).mono ?_
  rintro e w1 ⟨rfl, hb1⟩
  have hl := colS_len m s1.data.toList b
  rw [size_eq] at hl
  obtain ⟨t1, t2⟩ := col_twice m s1.data.toList b
  have T1 := hide t1
  have T2 := hide t2
  have T3 := hide (fun hk => col_none (m := m) hk s1.data.toList b)
  clear t1 t2
  generalize colS m s1.data.toList b = o at *
  generalize colB m s1.data.toList b = ob at *
  go_wp2_with fail
  refine (collapse_any (bytesStr o) m b _ (by rw [bytesStr_size]; omega)).mono ?_
  rintro e w2 ⟨rfl, hb2⟩
  rw [bytesStr_data, T1.out, T2.out]
  have hbel := below_on hb1 hb2
  have hos : (bytesStr o).size ≤ 400 := by rw [bytesStr_size]; omega
  clear hb1 hb2 hl
  cases hkm : keepsM m
  · obtain ⟨n1, n2⟩ := T3.out hkm
    have N1 := hide n1
    cases b
    · clear n2 n1
      go_wp2_with (first
        | (go_at_call 30; refine (whited_any _).mono ?_; rintro e w4 ⟨rfl, hb4⟩; have hbel4 := below_on hbel hb4)
        | (go_at_call 31; refine (refKeeps_any _ _).mono ?_; rintro e w' ⟨rfl, rfl⟩; rw [hkm])
        | (go_at_call 51; refine (Try.strings_Contains _ _ mv _ (by omega) ((hbel4.cell (p := ⟨0, 0, none⟩) h0).trans Hmv.out)).mono ?_; rintro e w' ⟨rfl, rfl⟩; rw [bytesStr_data, N1.out]))
      go_ret
      exact ⟨rfl, hbel4⟩
    · have N2 := hide (n2 rfl)
      clear n2 n1
      go_wp2_with (first
        | (go_at_call 30; refine (whited_any _).mono ?_; rintro e w4 ⟨rfl, hb4⟩; have hbel4 := below_on hbel hb4)
        | (go_at_call 31; refine (refKeeps_any _ _).mono ?_; rintro e w' ⟨rfl, rfl⟩; rw [hkm])
        | (go_at_call 51; refine (Try.strings_Contains _ _ mv _ (by omega) ((hbel4.cell (p := ⟨0, 0, none⟩) h0).trans Hmv.out)).mono ?_; rintro e w' ⟨rfl, rfl⟩; rw [bytesStr_data, N1.out])
        | (go_at_call 52; refine (Try.strings_HasPrefix _ _ _).mono ?_; rintro e w' ⟨rfl, rfl⟩; rw [bytesStr_data, N2.out]))
      go_ret
      exact ⟨rfl, hbel4⟩
  · clear T3
    go_wp2_with (first
      | (go_at_call 30; refine (whited_any _).mono ?_; rintro e w4 ⟨rfl, hb4⟩; have hbel4 := below_on hbel hb4)
      | (go_at_call 31; refine (refKeeps_any _ _).mono ?_; rintro e w' ⟨rfl, rfl⟩; rw [hkm]))
    go_ret
    exact ⟨rfl, hbel4⟩
end Go.Proofs.Ytadlabndbomgmaa
