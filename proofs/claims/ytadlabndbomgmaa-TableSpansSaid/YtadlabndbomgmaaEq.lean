/- The walk of Eq at ints: are two lists one? -/
import Derived.BigQuiet
import Derived.Handy
import Derived.Test.YtadlabndbomgmaaKitT
import Derived.Test.YtadlabndbomgmaaFix
namespace Go.Proofs.Ytadlabndbomgmaa
open Go.ChangeShapes Go.WideShapes Go.ChangeAt Go.RowKit
theorem Eq_any (A A2 : Option Addr) (n m c c2 B B2 : Nat) (xs ys : List Int) (w : World) (hr : Reads w B 1 A n (xs.map (Value.int .i64))) (hr2 : Reads w B2 1 A2 m (ys.map (Value.int .i64))) (hn : n ≤ 1000000) (hm : m ≤ 1000000) :
    Calls Try.prog 96 #[.slice A n c, .slice A2 m c2] w fun e w' => e = .returned (.bool (decide (xs = ys))) ∧ w = w' := by
  have hl : xs.length = n := by have := hr.1; simpa using this
  have hl2 : ys.length = m := by have := hr2.1; simpa using this
  have HR := hide hr
  have HR2 := hide hr2
  clear hr hr2
  by_cases hnm : n = m
  · subst hnm
    have HL := hide hl
    have HL2 := hide hl2
    clear hl hl2
    have hz : ((n : Int) != (n : Int)) = false := by simp
    go_enter Try.func96, Try.ntmps96
    go_wp2_with fail
    clear hz
    go_loop [5, 6, 14] (fun a b i => ∃ k : Nat, k ≤ n ∧ i = .int .i64 k ∧ Hid (∀ j, j < k → at0 xs j = at0 ys j)) (fun _ _ i => n - (intOf i).toNat)
    case atStart => exact ⟨0, Nat.zero_le _, rfl, hide (fun j hj => absurd hj (Nat.not_lt_zero _))⟩
    case round =>
      obtain ⟨k, hk, rfl, hall⟩ := hrel
      by_cases hlt : k < n
      · obtain ⟨ad, rfl, _, hc⟩ := HR.out.int_at hlt
        obtain ⟨ad2, rfl, _, hc2⟩ := HR2.out.int_at hlt
        have hk1 : (0 : Int) ≤ (k : Int) := by omega
        have hk2 : (k : Int) < (n : Int) := by omega
        by_cases he : at0 xs k = at0 ys k
        · have hz : (at0 xs k != at0 ys k) = false := by simp [he]
          have HN := hide (show ∀ j, j < k + 1 → at0 xs j = at0 ys j from fun j hj => by
            by_cases e : j = k
            · subst e; exact he
            · exact hall.out j (by omega))
          clear he
          generalize at0 xs k = x at *
          generalize at0 ys k = y at *
          go_wp2
          go_round
          case rel => exact ⟨k + 1, by omega, by go_num, HN⟩
          case measure => simp [intOf]; omega
        · have hz : (at0 xs k != at0 ys k) = true := by simp [he]
          have hf := hide (show decide (xs = ys) = false from decide_eq_false fun h => he (by rw [h]))
          clear he
          generalize at0 xs k = x at *
          generalize at0 ys k = y at *
          go_wp2
          go_ret
          exact ⟨ret_bool hf.out.symm, rfl⟩
      · obtain rfl : k = n := by omega
        have hf := hide (show decide (xs = ys) = true from decide_eq_true (List.ext_getElem (by rw [HL.out, HL2.out]) fun j h1 h2 => by
          have := hall.out j (by rw [← HL.out]; exact h1)
          rw [at0_of xs j h1, at0_of ys j h2] at this
          exact this))
        go_wp2
        go_ret
        exact ⟨ret_bool hf.out.symm, rfl⟩
  · have hz : ((n : Int) != (m : Int)) = true := by simp; omega
    have hf := hide (show decide (xs = ys) = false from decide_eq_false fun h => hnm (by rw [← hl, ← hl2, h]))
    clear hl hl2 hnm
    go_enter Try.func96, Try.ntmps96
    go_wp2_with fail
    go_ret
    exact ⟨ret_bool hf.out.symm, rfl⟩
end Go.Proofs.Ytadlabndbomgmaa
