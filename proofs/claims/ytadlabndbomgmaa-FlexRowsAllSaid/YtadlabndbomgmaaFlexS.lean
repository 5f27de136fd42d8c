/- The walk of the statement FlexSpreadAll: it returns true. -/
import Derived.BigQuiet
import Derived.Handy
import Derived.IntWalk
import Derived.Test.YtadlabndbomgmaaFlexE
import Derived.Test.YtadlabndbomgmaaSpread
import Derived.Test.YtadlabndbomgmaaFixWhole
namespace Go.Proofs.Ytadlabndbomgmaa
open Go.ChangeShapes Go.WideShapes Go.ChangeAt Go.RowKit
theorem sum_nonneg (l : List Int) (h : ∀ x ∈ l, 0 ≤ x) : 0 ≤ l.sum := by
  induction l with
  | nil => simp
  | cons x l ih => have := ih (fun y hy => h y (by simp [hy])); have := h x (by simp); simp; omega
theorem psum_between (l : List Int) (h : ∀ x ∈ l, 0 ≤ x) (k : Nat) : 0 ≤ psum l k ∧ psum l k ≤ l.sum := by
  have h1 := sum_nonneg (l.take k) fun x hx => h x (List.mem_of_mem_take hx)
  have h2 := sum_nonneg (l.drop k) fun x hx => h x (List.mem_of_mem_drop hx)
  have h3 : l.sum = (l.take k).sum + (l.drop k).sum := by rw [← List.sum_append, List.take_append_drop]
  unfold psum
  omega
theorem wu8 (n : Int) : 0 ≤ IntKind.u8.wrap n ∧ IntKind.u8.wrap n ≤ 255 := by rw [IntKind.wrap_u8]; omega
set_option maxRecDepth 100000 in
set_option maxHeartbeats 1000000 in
theorem flexSpreadAll_any (mode free n : Int) (w : World) : Calls Try.prog 17 #[.int .i64 mode, .int .i64 free, .int .i64 n] w fun e w' => e = .returned (.bool true) ∧ Below w.heap.size w w' := by
  have hf := wu16 free
  obtain ⟨m, hm⟩ : ∃ m : Nat, n % 256 % 50 = (m : Int) := ⟨(n % 256 % 50).toNat, by omega⟩
  have hm2 : m ≤ 50 := by omega
  have HM := hide hm
  clear hm
  go_enter Try.func17, Try.ntmps17
  go_wp2_with fail
  rw [HM.out]
  generalize IntKind.u16.wrap free = fr at *
  clear HM
  refine (Spread_any mode fr m w hf hm2).mono ?_
  rintro e w1 ⟨v, rfl, hown, hb1⟩
  obtain ⟨X, cx, rfl, _, hx⟩ := own_reads hown
  have hlaw := spread_law mode fr m hf.1 hf.2 hm2
  obtain ⟨l1, l2, l3, l4⟩ := hlaw
  have HP := hide (psum_between _ l2)
  have HNN := hide (show ∀ k, k < m → 0 ≤ at0 (spreadF mode fr m) k from fun k hk => by
    rw [at0_of _ k (by rw [l1]; exact hk)]; exact l2 _ (List.getElem_mem _))
  have L4 := hide l4
  have HX := hide hx
  clear hown hx l2 l4 l1
  generalize spreadF mode fr m = xs at *
  have hzm : ((m : Int) != (m : Int)) = false := by simp
  go_wp2_with (go_at_call 55; refine (flexed_any _).mono ?_; rintro e w2 ⟨rfl, hb2⟩; have HX2 := hide (HX.out.below hb2))
  clear hzm
  refine (sum_any X m cx xs _ w2 HX2.out (by omega) (fun k _ => by have := HP.out k; omega)).mono ?_
  rintro e w' ⟨rfl, rfl⟩
  have hbb := below_then hb1 (Nat.le_refl _) hb2
  have hs0 := (HP.out 0).1
  clear HX hb1 hb2
  generalize hsm : xs.sum = sm at *
  have HSM := hide hsm
  clear hsm
  go_wp2_with fail
  go_loop [9, 37] (fun _ i => ∃ k : Nat, k ≤ m ∧ i = .int .i64 k) (fun _ i => m - (intOf i).toNat)
  case atStart => exact ⟨0, Nat.zero_le _, rfl⟩
  case round =>
    obtain ⟨k, hk, rfl⟩ := hrel
    by_cases hlt : k < m
    · obtain ⟨ad, rfl, _, hc⟩ := HX2.out.int_at hlt
      have h0 := HNN.out k hlt
      generalize at0 xs k = x at *
      go_wp2
      go_round
      case rel => exact ⟨k + 1, by omega, by go_num⟩
      case measure => simp [intOf]; omega
    · obtain rfl : k = m := by omega
      by_cases h4 : mode = 4
      · subst h4
        by_cases h2 : k < 2
        · go_wp2_with fail
          go_ret
          exact ⟨rfl, hbb⟩
        · have he := L4.out rfl (by omega)
          have hz : (sm == fr) = true := by simpa using he
          clear he
          go_wp2_with (refine (sum_any _ k cx xs _ _ HX2.out (by omega) (fun j _ => by have := HP.out j; omega)).mono ?_; rintro e w' ⟨rfl, rfl⟩; rw [HSM.out])
          go_ret
          exact ⟨ret_bool (by first | rfl | exact hz), hbb⟩
      · have hz : (mode != 4) = true := by simpa using h4
        go_wp2_with fail
        go_ret
        exact ⟨rfl, hbb⟩
end Go.Proofs.Ytadlabndbomgmaa
