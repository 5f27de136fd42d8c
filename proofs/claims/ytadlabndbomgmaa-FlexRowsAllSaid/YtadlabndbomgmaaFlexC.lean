/- Walks: is some item not settled; what is free, in parts. -/
import Derived.BigQuiet
import Derived.Handy
import Derived.IntWalk
import Derived.Deep.MidRow
import Derived.Deep.RegionHeld3
import Derived.Test.YtadlabndbomgmaaFlexB
import Derived.Test.YtadlabndbomgmaaShareWalk
namespace Go.Proofs.Ytadlabndbomgmaa
open Go.ChangeShapes Go.WideShapes Go.ChangeAt Go.RowKit
theorem openC_all {f : Nat → Bool} : ∀ {k : Nat}, (∀ i, i < k → f i = true) → openC f k = 0
  | 0, _ => rfl
  | k + 1, h => by
    have ih := openC_all (f := f) (k := k) fun i hi => h i (by omega)
    simp [openC, ih, h k (by omega)]
theorem openC_some {f : Nat → Bool} {k i : Nat} (hi : i < k) (h : f i = false) : 0 < openC f k := by
  rcases Nat.eq_zero_or_pos (openC f k) with h0 | h0
  · have := openC_zero h0 i hi
    rw [h] at this; cases this
  · exact h0
set_option maxRecDepth 100000 in
set_option maxHeartbeats 1000000 in
theorem index_any (g : Nat) (xs : List Fx) (st : Its) (w : World) (hb : Blk w g 149 (itV xs st).toArray) (hn : xs.length ≤ 1000) :
    Calls Try.prog 127 #[.slice (some ⟨g, 0, none⟩) xs.length xs.length, .func (.func 94) #[] #[]] w fun e w' => ∃ i : Int, e = .returned (.int .i64 i) ∧ decide (0 ≤ i) = decide (0 < openC st.set xs.length) ∧ Below w.heap.size w w' := by
  have HB := hide hb
  clear hb
  go_enter Try.func127, Try.ntmps127
  go_wp2_with fail
  go_loopw [8] (fun i wr => ∃ k : Nat, k ≤ xs.length ∧ i = .int .i64 k ∧ Hid (∀ i, i < k → st.set i = true) ∧ Below w.heap.size w wr) (fun i _ => xs.length - (intOf i).toNat)
  case atStart => exact ⟨0, Nat.zero_le _, rfl, hide (fun i hi => absurd hi (Nat.not_lt_zero _)), Below.refl _ _⟩
  case round =>
    obtain ⟨k, hk, rfl, hall, hbel⟩ := hrel
    by_cases hlt : k < xs.length
    · have cc := itCell (HB.out.below hbel HB.out.lt) hlt
      cases hs : st.set k
      all_goals
        rw [hs] at cc
        have HS := hide hs
        clear hs
        generalize st.is k = ik at *
        generalize fxAt xs k = x at *
        have d0 : wr.cell? ⟨g, k * 9, none⟩ = some (.int .i64 x.b) := cc 0 (by omega)
        have d1 : wr.cell? ⟨g, k * 9 + 1, none⟩ = some (.int .i64 x.le) := cc 1 (by omega)
        have d2 : wr.cell? ⟨g, k * 9 + 2, none⟩ = some (.int .i64 x.mo) := cc 2 (by omega)
        have d3 : wr.cell? ⟨g, k * 9 + 3, none⟩ = some (.int .i64 x.g) := cc 3 (by omega)
        have d4 : wr.cell? ⟨g, k * 9 + 4, none⟩ = some (.int .i64 x.s) := cc 4 (by omega)
        have d5 : wr.cell? ⟨g, k * 9 + 5, none⟩ = some (.int .i64 x.e) := cc 5 (by omega)
        have d6 : wr.cell? ⟨g, k * 9 + 6, none⟩ = some (.int .i64 x.lng) := cc 6 (by omega)
        have d7 : wr.cell? ⟨g, k * 9 + 7, none⟩ = some (.bool _) := cc 7 (by omega)
        have d8 : wr.cell? ⟨g, k * 9 + 8, none⟩ = some (.int .i64 ik) := cc 8 (by omega)
        clear cc
        go_wp2_with (go_at_call 94; refine (mains2_any x _ ik _).mono ?_; rintro e w5 ⟨rfl, hb5⟩)
      · go_ret
        exact ⟨k, rfl, by rw [decide_eq_true (by omega), decide_eq_true (openC_some hlt HS.out)], below_then hbel (Nat.le_refl _) hb5⟩
      · go_roundw
        case rel => exact ⟨k + 1, by omega, by go_num, hide (fun i hi => by
          by_cases e : i = k
          · subst e; exact HS.out
          · exact hall.out i (by omega)), below_then hbel (Nat.le_refl _) hb5⟩
        case measure => simp [intOf]; omega
    · obtain rfl : k = xs.length := by omega
      go_wp2_with fail
      go_ret
      exact ⟨-1, rfl, by rw [openC_all hall.out]; rfl, hbel⟩
theorem contains_any (g : Nat) (xs : List Fx) (st : Its) (w : World) (hb : Blk w g 149 (itV xs st).toArray) (hn : xs.length ≤ 1000) :
    Calls Try.prog 93 #[.slice (some ⟨g, 0, none⟩) xs.length xs.length, .func (.func 94) #[] #[]] w fun e w' => e = .returned (.bool (decide (0 < openC st.set xs.length))) ∧ Below w.heap.size w w' := by
  have HB := hide hb
  clear hb
  go_enter Try.func93, Try.ntmps93
  go_wp2_with (go_at_call 127; refine (index_any g xs st _ HB.out hn).mono ?_; rintro e w5 ⟨i, rfl, hi, hb5⟩; have HI := hide hi; clear hi)
  go_ret
  exact ⟨ret_bool HI.out, hb5⟩
theorem now_any (rb g : Nat) (room : Int) (grows : Bool) (xs : List Fx) (st : Its) (w : World) (hr : -1000000000 ≤ room ∧ room ≤ 1000000000) (hok : ∀ x ∈ xs, x.ok) (hn : xs.length ≤ 1000) (hv : ∀ k, k < xs.length → -16777216 ≤ valO xs st k ∧ valO xs st k ≤ 16777216) (h : RowAt w rb g room grows xs st) :
    Calls Try.prog 92 #[.pointer (some ⟨rb, 0, none⟩)] w fun e w' => e = .returned (.int .i64 (nowTo room xs (valO xs st) xs.length)) ∧ Below w.heap.size w w' := by
  have HK := hide hok
  have HV := hide hv
  have HR := hide h
  clear hok hv h
  go_enter Try.func92, Try.ntmps92
  go_wp2_with (go_at_call 89; refine (freeNow_any rb g room grows xs st _ hr HK.out hn HV.out HR.out).mono ?_; rintro e w5 ⟨rfl, hb5⟩)
  go_ret
  exact ⟨rfl, hb5⟩
end Go.Proofs.Ytadlabndbomgmaa
