/- The walk of the statement FlexBounds: it returns true. -/
import Derived.BigQuiet
import Derived.Handy
import Derived.IntWalk
import Derived.Deep.QuietTactic
import Derived.Test.YtadlabndbomgmaaFlexE
import Derived.Test.YtadlabndbomgmaaOpen
namespace Go.Proofs.Ytadlabndbomgmaa
open Go.ChangeShapes Go.WideShapes Go.ChangeAt Go.RowKit
/-- An item of a row of the call's own, by its cells. -/
theorem fxRow {w : World} {B c : Nat} {A : Option Addr} {xs : List Fx} (h : w.ownsRow B 81 6 (.slice A xs.length c) xs.length (fxCells xs)) {k : Nat} (hk : k < xs.length) :
    ∃ g, A = some ⟨g, 0, none⟩ ∧ g < w.heap.size ∧ w.cell? ⟨g, k * 6, none⟩ = some (.int .i64 (fxAt xs k).b) ∧ w.cell? ⟨g, k * 6 + 1, none⟩ = some (.int .i64 (fxAt xs k).le) ∧ w.cell? ⟨g, k * 6 + 2, none⟩ = some (.int .i64 (fxAt xs k).mo) ∧
      w.cell? ⟨g, k * 6 + 3, none⟩ = some (.int .i64 (fxAt xs k).g) ∧ w.cell? ⟨g, k * 6 + 4, none⟩ = some (.int .i64 (fxAt xs k).s) ∧ w.cell? ⟨g, k * 6 + 5, none⟩ = some (.int .i64 (fxAt xs k).e) := by
  obtain ⟨g, hA, _, hg, hc⟩ := fxCell h hk
  exact ⟨g, hA, hg, hc 0 (by omega), hc 1 (by omega), hc 2 (by omega), hc 3 (by omega), hc 4 (by omega), hc 5 (by omega)⟩
set_option maxRecDepth 100000 in
set_option maxHeartbeats 2000000 in
theorem flexBounds_any (room gap : Int) (A : Option Addr) (n c : Nat) (R : Nat → Nat → Int) (w : World) (hr : Recs w w.heap.size 6 A n R) (hn : n ≤ c) (hc : c ≤ maxLen) :
    Calls Try.prog 13 #[.int .i64 room, .int .i64 gap, .slice A n c] w fun e w' => e = .returned (.bool true) ∧ Below w.heap.size w w' := by
  have Hr := hide hr
  clear hr
  go_enter Try.func13, Try.ntmps13
  go_wp2_with fail
  refine (mild_any A n c R w Hr.out hn hc).mono ?_
  rintro e w1 ⟨v, rfl, hown, hb1⟩
  have hl := mild_length R (min n 12)
  have hok := mild_ok R (min n 12)
  have hn2 : min n 12 ≤ 12 := by omega
  generalize mildF R (min n 12) = xs at *
  rw [← hl] at hown hn2
  clear hl Hr hn hc
  obtain ⟨X, cx, rfl, _, _⟩ := own_reads hown
  have HO := hide hown
  have HK := hide hok
  clear hown hok
  go_wp2_with fail
  refine (Mains_any room gap xs HK.out (by omega) w.heap.size cx X w1 HO.out).mono ?_
  rintro e w2 ⟨v2, rfl, hown2, hb2⟩
  have hbb := below_then hb1 (Nat.le_refl _) hb2
  have HO2 := hide (own_keep HO.out hb2 (own_lt HO.out))
  obtain ⟨Y, cy, rfl, _, hy⟩ := own_reads hown2
  have HL := hide (show ∀ k, k < xs.length → (fxAt xs k).le ≤ at0 (mainsO room gap xs) k ∧ (0 ≤ (fxAt xs k).mo → at0 (mainsO room gap xs) k ≤ max (fxAt xs k).mo (fxAt xs k).le) from fun k hk => bounds_law room gap HK.out k hk)
  have HY := hide hy
  clear hown2 hy HO hb1 hb2
  generalize mainsO room gap xs = ys at *
  have hz : ((xs.length : Int) != (xs.length : Int)) = false := by simp
  go_wp2_with (go_at_call 55; refine (flexed_any _).mono ?_; rintro e w3 ⟨rfl, hb3⟩)
  clear hz
  have HY3 := hide ((HY.out.below hb3).more hb3.size)
  have HO3 := hide (own_keep HO2.out hb3 (own_lt HO2.out))
  have hb4 := below_then hbb (Nat.le_refl _) hb3
  clear HY HO2 hbb hb3
  go_loopw [27] (fun i wr => ∃ k : Nat, k ≤ xs.length ∧ i = .int .i64 k ∧ Below w3.heap.size w3 wr) (fun i _ => xs.length - (intOf i).toNat)
  case atStart => exact ⟨0, Nat.zero_le _, rfl, Below.refl _ _⟩
  case round =>
    obtain ⟨k, hk, rfl, hbel⟩ := hrel
    have hszr := hbel.size
    by_cases hlt : k < xs.length
    · obtain ⟨g, rfl, hg, d0, d1, d2, d3, d4, d5⟩ := fxRow (own_keep HO3.out hbel (own_lt HO3.out)) hlt
      obtain ⟨ad, rfl, _, hcy⟩ := (HY3.out.below hbel).int_at hlt
      have hcA : ∀ o, (wr.alloc o).cell? (ad.add k) = some (.int .i64 (at0 ys k)) := fun o => (World.cell?_alloc_lt wr _ _ (cell_lt hcy)).trans hcy
      have hc2 := hcA (.cells #[.int .i64 (fxAt xs k).b, .int .i64 (fxAt xs k).le, .int .i64 (fxAt xs k).mo, .int .i64 (fxAt xs k).g, .int .i64 (fxAt xs k).s, .int .i64 (fxAt xs k).e] 81)
      have hl := HL.out k hlt
      have hk1 : (0 : Int) ≤ (k : Int) := by omega
      have hk2 : (k : Int) < (xs.length : Int) := by omega
      clear hcA hcy
      generalize fxAt xs k = x at *
      generalize at0 ys k = y at *
      obtain ⟨l1, l2⟩ := hl
      have z1 : decide (y < x.le) = false := decide_eq_false (by omega)
      have hbA := hbel.alloc hszr (.cells #[.int .i64 x.b, .int .i64 x.le, .int .i64 x.mo, .int .i64 x.g, .int .i64 x.s, .int .i64 x.e] 81)
      by_cases hm : 0 ≤ x.mo
      · have z2 : decide (0 ≤ x.mo) = true := decide_eq_true hm
        have hl2 := l2 hm
        have z3 : decide (max x.mo x.le < y) = false := decide_eq_false (by omega)
        clear l2
        go_wp2_with fail
        go_quiet (fail)
        go_wp2_with fail
        go_roundw
        case rel => exact ⟨k + 1, by omega, by go_num, below_drewN hbA _⟩
        case measure => simp [intOf]; omega
      · have z2 : decide (0 ≤ x.mo) = false := decide_eq_false hm
        clear l2
        go_wp2_with fail
        go_quiet (fail)
        go_wp2_with fail
        go_roundw
        case rel => exact ⟨k + 1, by omega, by go_num, below_drewN hbA _⟩
        case measure => simp [intOf]; omega
    · obtain rfl : k = xs.length := by omega
      go_wp2_with fail
      go_ret
      exact ⟨rfl, below_then hb4 (Nat.le_refl _) hbel⟩
end Go.Proofs.Ytadlabndbomgmaa
