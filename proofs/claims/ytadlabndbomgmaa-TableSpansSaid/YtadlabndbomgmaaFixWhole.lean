/- Walks: the sum of a slice; the statement FixWhole: it returns true. -/
import Derived.BigQuiet
import Derived.Handy
import Derived.Test.YtadlabndbomgmaaSums
import Derived.Test.YtadlabndbomgmaaShareWalk
import Derived.Test.YtadlabndbomgmaaFixMono
namespace Go.Proofs.Ytadlabndbomgmaa
open Go.ChangeShapes Go.WideShapes Go.ChangeAt Go.RowKit
theorem sum_any (A : Option Addr) (n c : Nat) (xs : List Int) (B : Nat) (w : World) (hr : Reads w B 1 A n (xs.map (Value.int .i64))) (hn : n ≤ 1000000)
    (hb : ∀ k, k ≤ n → -1000000000000000000 ≤ psum xs k ∧ psum xs k ≤ 1000000000000000000) :
    Calls Try.prog 33 #[.slice A n c] w fun e w' => e = .returned (.int .i64 xs.sum) ∧ w = w' := by
  have hl : xs.length = n := by have := hr.1; simpa using this
  have HL := hide hl
  have HR := hide hr
  have HB := hide hb
  clear hr hl hb
  go_enter Try.func33, Try.ntmps33
  go_wp2_with fail
  go_loop [2, 4, 7] (fun s x i => ∃ k : Nat, k ≤ n ∧ i = .int .i64 k ∧ s = .int .i64 (psum xs k)) (fun _ _ i => n - (intOf i).toNat)
  case atStart => exact ⟨0, Nat.zero_le _, rfl, rfl⟩
  case round =>
    obtain ⟨k, hk, rfl, rfl⟩ := hrel
    by_cases hlt : k < n
    · obtain ⟨ad, rfl, _, hc⟩ := HR.out.int_at hlt
      have h1 := Lib.hid (psum_succ xs k (by have := HL.out; omega))
      have h2 := HB.out (k + 1) (by omega)
      rw [h1.out] at h2
      go_wp2
      go_round
      case rel => exact ⟨k + 1, by omega, by go_num, by rw [h1.out]⟩
      case measure => simp [intOf]; omega
    · have hk2 : k = n := by omega
      subst hk2
      have ht := Lib.hid (show psum xs k = xs.sum from by have := psum_all xs; rw [HL.out] at this; exact this)
      go_wp2
      go_ret
      exact ⟨ret_int ht.out, rfl⟩
set_option maxRecDepth 100000 in
theorem fixWhole_any (n : Int) (A : Option Addr) (m c : Nat) (xs : List Int) (w : World) (hr : Reads w w.heap.size 1 A m (xs.map (Value.int .i64))) (hmc : m ≤ c) (hc : c ≤ maxLen) :
    Calls Try.prog 6 #[.int .i64 n, .slice A m c] w fun e w' => e = .returned (.bool true) ∧ Below w.heap.size w w' := by
  unfold maxLen at hc
  have hr1 := hr.take1 (k := min m 900) (by omega)
  have hm1 : min m 900 ≤ 900 := by omega
  have hl1 : (xs.take (min m 900)).length = min m 900 := by have := hr1.1; simpa using this
  have HR := hide hr1
  have HL := hide hl1
  clear hr hr1 hl1
  go_enter Try.func6, Try.ntmps6
  go_wp2_with fail
  have En : (min (m : Int) 900).toNat = min m 900 := by omega
  rw [En]
  clear En
  generalize min m 900 = k at *
  generalize xs.take k = ws at *
  refine (Share_any n A k c ws w HR.out (by omega)).mono ?_
  rintro e w1 ⟨v, rfl, hown, hb1⟩
  obtain ⟨X, cx, hv, hcx, hx⟩ := own_reads hown
  rw [hv]
  clear hv hown hcx
  have HX := hide hx
  have HR1 := hide (HR.out.below hb1)
  clear hx HR
  have hkk : ((k : Int) != (k : Int)) = false := by simp
  go_wp2_with (go_at_call 26; refine (fixed_any _).mono ?_; rintro e w' ⟨rfl, rfl⟩)
  clear hkk
  go_loop [6, 7, 8, 28] (fun s j x i => ∃ q : Nat, q ≤ k ∧ i = .int .i64 q ∧ s = .bool (somePos ws q)) (fun _ _ _ i => k - (intOf i).toNat)
  case atStart => exact ⟨0, Nat.zero_le _, rfl, rfl⟩
  case round =>
    obtain ⟨q, hq, rfl, rfl⟩ := hrel
    by_cases hlt : q < k
    · obtain ⟨ad, rfl, _, hc1⟩ := HR1.out.int_at hlt
      obtain ⟨ax, rfl, _, hc2⟩ := HX.out.int_at hlt
      have e1 := Lib.hid (show somePos ws (q + 1) = (somePos ws q || decide (0 < at0 ws q)) from rfl)
      have p1 : 0 ≤ n → decide (at0 (shared n ws) q < 0) = false := fun h => by have := shared_nonneg ws h q; simp; omega
      have p2 : n ≤ 0 → decide (0 < at0 (shared n ws) q) = false := fun h => by have := shared_nonpos ws h q; simp; omega
      have p3 : at0 ws q ≤ 0 → (at0 (shared n ws) q != 0) = false := fun h => by
        have := shared_idle n ws q (by rw [HL.out]; exact hlt) (wt_idle q h); simp [this]
      generalize at0 (shared n ws) q = y at *
      generalize at0 ws q = x at *
      generalize somePos ws q = sp at *
      cases sp <;> (by_cases hx0 : x ≤ 0) <;> (by_cases hn0 : 0 ≤ n) <;> (by_cases hn1 : n ≤ 0)
      all_goals try (exfalso; omega)
      all_goals
        first | have a1 := p1 hn0 | skip
        first | have a2 := p2 hn1 | skip
        first | have a3 := p3 hx0 | skip
        first | have d1 := decide_eq_true hx0 | have d1 := decide_eq_false hx0
        first | have d2 := decide_eq_true hn0 | have d2 := decide_eq_false hn0
        first | have d3 := decide_eq_true hn1 | have d3 := decide_eq_false hn1
        first | have d4 : decide (0 < x) = true := decide_eq_true (by omega) | have d4 : decide (0 < x) = false := decide_eq_false (by omega)
        clear p1 p2 p3
        go_wp2
        go_round
        case rel => exact ⟨q + 1, by omega, by go_num, by rw [e1.out, d4]; rfl⟩
        case measure => simp [intOf]; omega
    · have hk2 : q = k := by omega
      subst hk2
      have hb : ∀ j, j ≤ q → -1000000000000000000 ≤ psum (shared n ws) j ∧ psum (shared n ws) j ≤ 1000000000000000000 := fun j hj => by
        have := psum_shared_bound n ws j (by rw [HL.out]; exact hj); omega
      have HB := hide hb
      clear hb
      cases hsp : somePos ws q
      · have hs := hide (shared_sum_none n ws (by rw [HL.out]; exact hsp))
        clear hsp
        go_wp2_with (go_at_call 33; refine (sum_any _ _ _ _ _ _ HX.out (by omega) HB.out).mono ?_; rintro e w' ⟨rfl, rfl⟩; rw [hs.out])
        go_ret
        exact ⟨rfl, hb1⟩
      · have hs := hide (shared_sum_some n ws (by rw [HL.out]; omega) (by rw [HL.out]; exact hsp))
        clear hsp
        go_wp2_with (first | (go_at_call 33; refine (sum_any _ _ _ _ _ _ HX.out (by omega) HB.out).mono ?_; rintro e w' ⟨rfl, rfl⟩; rw [hs.out]) | (go_at_call 28; refine (cut_any _ _).mono ?_; rintro e w' ⟨rfl, rfl⟩))
        go_ret
        exact ⟨rfl, hb1⟩
end Go.Proofs.Ytadlabndbomgmaa
