/- The walk of Rest: what remains, never below 0. -/
import Derived.BigQuiet
import Derived.Handy
import Derived.Test.YtbpkffoooieejaaFix
namespace Go.Proofs.Ytbpkffoooieejaa
open Go.ChangeShapes Go.WideShapes Go.ChangeAt Go.RowKit
theorem tmod_bd {n m : Int} (hm : 1 ≤ m) : -m < n.tmod m ∧ n.tmod m < m := by
  have h1 := Int.tmod_lt_of_pos n (show 0 < m by omega)
  have h2 := Int.tmod_lt_of_pos (-n) (show 0 < m by omega)
  rw [Int.neg_tmod] at h2; omega
theorem tmod_rest {n m : Int} (hm : 1 ≤ m) : n % m = if n.tmod m < 0 then n.tmod m + m else n.tmod m := by
  have h := tmod_bd (n := n) hm
  have e := Int.mul_tdiv_add_tmod n m
  have e2 : n = n.tmod m + m * n.tdiv m := by omega
  have e3 : n % m = n.tmod m % m := by
    have := Int.add_mul_emod_self_left (n.tmod m) m (n.tdiv m)
    rwa [← e2] at this
  rw [e3]
  split
  · have := Int.add_mul_emod_self_left (n.tmod m) m 1
    rw [Int.mul_one] at this
    rw [← this, Int.emod_eq_of_lt (by omega) (by omega)]
  · exact Int.emod_eq_of_lt (by omega) (by omega)
theorem Rest_any (n m : Int) (hm : 1 ≤ m) (hm2 : m ≤ 4611686018427387904) (w : World) :
    Calls Try.prog 11 #[.int .i64 n, .int .i64 m] w fun e w' => e = .returned (.int .i64 (n % m)) ∧ w = w' := by
  have hb := tmod_bd (n := n) hm
  have hr := tmod_rest (n := n) hm
  by_cases h : n.tmod m < 0
  · rw [if_pos h] at hr
    have HR := hide hr
    have z : decide (n.tmod m < 0) = true := decide_eq_true h
    clear hr
    go_enter Try.func11, Try.ntmps11
    go_wp2_with fail
    go_ret
    exact ⟨ret_int HR.out.symm, rfl⟩
  · rw [if_neg h] at hr
    have HR := hide hr
    have z : decide (n.tmod m < 0) = false := decide_eq_false h
    clear hr
    go_enter Try.func11, Try.ntmps11
    go_wp2_with fail
    go_ret
    exact ⟨ret_int HR.out.symm, rfl⟩
end Go.Proofs.Ytbpkffoooieejaa
