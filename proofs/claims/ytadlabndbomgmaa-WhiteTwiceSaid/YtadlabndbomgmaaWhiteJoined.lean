/- Walks: the closed fact whited; the statement WhiteJoined: it returns true. -/
import Derived.BigQuiet
import Derived.Handy
import Derived.Test.YtadlabndbomgmaaWhite
namespace Go.Proofs.Ytadlabndbomgmaa
open Go.ChangeShapes Go.WideShapes Go.ChangeAt Go.RowKit
theorem whited_fact : colS 2 [97, 32, 32, 98, 32] false = [97, 32, 98, 32] ∧ colB 2 [97, 32, 32, 98, 32] false = true := by decide +kernel
theorem whited_any (w : World) : Calls Try.prog 30 #[] w fun e w' => e = .returned (.bool true) ∧ Below w.heap.size w w' := by
  have e1 := hide whited_fact.1
  have e2 := hide whited_fact.2
  have e3 : ((bytesStr [97, 32, 98, 32]).toList == [97, 32, 98, 32]) = true := by decide +kernel
  go_enter Try.func30, Try.ntmps30
  go_wp2_with fail
  refine (collapse_any _ _ _ _ (by decide)).mono ?_
  rintro e w1 ⟨rfl, hb⟩
  rw [e1.out, e2.out]
  go_wp2
  go_ret
  exact ⟨rfl, hb⟩
set_option maxRecDepth 100000 in
theorem whiteJoined_any (s t : ByteArray) (m : Int) (b : Bool) (w : World) (hs : s.size ≤ maxLen) (ht : t.size ≤ maxLen) :
    Calls Try.prog 5 #[.string s, .string t, .int .i64 m, .bool b] w fun e w' => e = .returned (.bool true) ∧ Below w.heap.size w w' := by
  unfold maxLen at hs ht
  go_enter Try.func5, Try.ntmps5
  go_wp2_with fail
  go_quiet (fail)
  go_wp2_with fail
  have hs1 : (s.extract 0 (min (s.size : Int) 200).toNat).size ≤ 200 := by rw [ByteArray.size_extract]; omega
  have ht1 : (t.extract 0 (min (t.size : Int) 200).toNat).size ≤ 200 := by rw [ByteArray.size_extract]; omega
  generalize s.extract 0 (min (s.size : Int) 200).toNat = s1 at *
  generalize t.extract 0 (min (t.size : Int) 200).toNat = t1 at *
  have k1 := hide (colS_len m s1.data.toList b)
  refine (collapse_any s1 m b _ (by omega)).mono ?_
  rintro e w1 ⟨rfl, hb1⟩
  go_wp2_with fail
  refine (collapse_any t1 m _ _ (by omega)).mono ?_
  rintro e w2 ⟨rfl, hb2⟩
  go_wp2_with fail
  refine (collapse_any (s1 ++ t1) m b _ (by rw [ByteArray.size_append]; omega)).mono ?_
  rintro e w3 ⟨rfl, hb3⟩
  have j1 : bytesStr (colS m (s1 ++ t1).data.toList b) = bytesStr (colS m s1.data.toList b) ++ bytesStr (colS m t1.data.toList (colB m s1.data.toList b)) := by
    rw [append_toList, colS_append, bytesStr_append]
  have j2 : colB m (s1 ++ t1).data.toList b = colB m t1.data.toList (colB m s1.data.toList b) := by
    rw [append_toList, colB_append]
  rw [j1, j2]
  have q1 : (bytesStr (colS m s1.data.toList b)).size ≤ 200 := by rw [bytesStr_size]; have := colS_len m s1.data.toList b; rw [size_eq] at this; omega
  have q2 : (bytesStr (colS m t1.data.toList (colB m s1.data.toList b))).size ≤ 200 := by rw [bytesStr_size]; have := colS_len m t1.data.toList (colB m s1.data.toList b); rw [size_eq] at this; omega
  clear j1 j2 k1
  generalize bytesStr (colS m s1.data.toList b) = u1 at *
  generalize bytesStr (colS m t1.data.toList (colB m s1.data.toList b)) = u2 at *
  generalize colB m t1.data.toList (colB m s1.data.toList b) = c2 at *
  generalize colB m s1.data.toList b = c1 at *
  go_wp2_with (first
    | (go_at_call 30; refine (whited_any _).mono ?_; rintro e w4 ⟨rfl, hb4⟩)
    | (go_at_call 31; refine (refKeeps_any _ _).mono ?_; rintro e w' ⟨rfl, rfl⟩))
  go_ret
  have h1 : Below w.heap.size w w1 := (below_drewN (Below.refl _ _) nq).trans hb1
  exact ⟨rfl, below_on (below_on (below_on h1 hb2) hb3) hb4⟩
end Go.Proofs.Ytadlabndbomgmaa
