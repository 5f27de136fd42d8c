/- The closed fact on tables: columns of one row of two cells. -/
import Derived.BigQuiet
import Derived.Handy
import Derived.IntWalk
import Derived.RegionTactic
import Derived.Deep.QuietTactic
import Derived.Deep.MidRow
import Derived.Deep.RegionHeld3
import Derived.Test.YtadlabndbomgmaaKitT
import Derived.Test.YtadlabndbomgmaaFix
import Derived.Test.YtadlabndbomgmaaEq
import Derived.Test.YtadlabndbomgmaaOpen
namespace Go.Proofs.Ytadlabndbomgmaa
open Go.ChangeShapes Go.WideShapes Go.ChangeAt Go.RowKit
theorem ccmp_any (a0 a1 a2 a3 b0 b1 b2 b3 : Int) (w : World) (ha : -1000 ≤ a3 ∧ a3 ≤ 1000) (hb : -1000 ≤ b3 ∧ b3 ≤ 1000) :
    Calls Try.prog 103 #[.agg #[.int .i64 a0, .int .i64 a1, .int .i64 a2, .int .i64 a3], .agg #[.int .i64 b0, .int .i64 b1, .int .i64 b2, .int .i64 b3]] w fun e w' => e = .returned (.int .i64 (a3 - b3)) ∧ Below w.heap.size w w' := by
  go_enter Try.func103, Try.ntmps103
  go_wp2_with fail
  go_ret
  exact ⟨rfl, by go_grown⟩
def twoV : List Value := [.int .i64 5, .int .i64 9, .int .i64 0, .int .i64 1, .int .i64 2, .int .i64 3, .int .i64 1, .int .i64 1]
def TwoS (g : Nat) (W : World) : Prop := W.cell? ⟨g, 0, none⟩ = some (.int .i64 5) ∧ W.cell? ⟨g, 1, none⟩ = some (.int .i64 9) ∧ W.cell? ⟨g, 2, none⟩ = some (.int .i64 0) ∧ W.cell? ⟨g, 3, none⟩ = some (.int .i64 1) ∧ W.cell? ⟨g, 4, none⟩ = some (.int .i64 2) ∧ W.cell? ⟨g, 5, none⟩ = some (.int .i64 3) ∧ W.cell? ⟨g, 6, none⟩ = some (.int .i64 1) ∧ W.cell? ⟨g, 7, none⟩ = some (.int .i64 1)
theorem TwoS.below {g : Nat} {W W' : World} (h : TwoS g W) (hb : Below W.heap.size W W') : TwoS g W' := by
  have hg := cell_lt h.1
  exact ⟨(hb.cell (p := ⟨g, 0, none⟩) hg).trans h.1, (hb.cell (p := ⟨g, 1, none⟩) hg).trans h.2.1, (hb.cell (p := ⟨g, 2, none⟩) hg).trans h.2.2.1, (hb.cell (p := ⟨g, 3, none⟩) hg).trans h.2.2.2.1, (hb.cell (p := ⟨g, 4, none⟩) hg).trans h.2.2.2.2.1, (hb.cell (p := ⟨g, 5, none⟩) hg).trans h.2.2.2.2.2.1, (hb.cell (p := ⟨g, 6, none⟩) hg).trans h.2.2.2.2.2.2.1, (hb.cell (p := ⟨g, 7, none⟩) hg).trans h.2.2.2.2.2.2.2⟩
set_option maxRecDepth 100000 in
set_option maxHeartbeats 2000000 in
theorem insTwo_any (g c : Nat) (w : World) (hs : TwoS g w) :
    Calls Try.prog 154 #[.slice (some ⟨g, 0, none⟩) 2 c, .int .i64 0, .int .i64 2, .func (.func 103) #[] #[]] w fun e w' => e = .returned (.tuple #[]) ∧ Below w.heap.size w w' := by
  have HS := hide hs
  clear hs
  go_enter Try.func154, Try.ntmps154
  go_wp2_with fail
  go_loopw [8] (fun i wr => (i = .int .i64 1 ∨ i = .int .i64 2) ∧ Below w.heap.size w wr) (fun i _ => 2 - (intOf i).toNat)
  case atStart => exact ⟨.inl rfl, Below.refl _ _⟩
  case round =>
    obtain ⟨hi, hbel⟩ := hrel
    rcases hi with rfl | rfl
    · go_wp2_with fail
      go_loopw [9] (fun j wr => j = .int .i64 1 ∧ Below w.heap.size w wr) (fun _ _ => 0)
      case atStart => exact ⟨rfl, hbel⟩
      case round =>
        obtain ⟨rfl, hbe⟩ := hrel
        have ps : TwoS g wr := HS.out.below hbe
        have hl := hbe
        go_wp2_with fail
        have ps2 : TwoS g wr.drew := ps
        unfold TwoS at ps ps2
        have y0 : IntKind.i64.wrap (0 : Int) = 0 := rfl
        go_region_held3 (fun W => W.cell? ⟨g, 0, none⟩ = some (.int .i64 5) ∧ W.cell? ⟨g, 1, none⟩ = some (.int .i64 9) ∧ W.cell? ⟨g, 2, none⟩ = some (.int .i64 0) ∧ W.cell? ⟨g, 3, none⟩ = some (.int .i64 1) ∧ W.cell? ⟨g, 4, none⟩ = some (.int .i64 2) ∧ W.cell? ⟨g, 5, none⟩ = some (.int .i64 3) ∧ W.cell? ⟨g, 6, none⟩ = some (.int .i64 1) ∧ W.cell? ⟨g, 7, none⟩ = some (.int .i64 1)) (first | exact ps | exact ps2 | exact ps5) (first | (go_at_call 103; refine (ccmp_any _ _ _ _ _ _ _ _ _ (by omega) (by omega)).mono ?_; rintro e w5 ⟨rfl, hb5⟩; have ps5 := TwoS.below ps2 hb5; unfold TwoS at ps5) | fail)
        all_goals
          have L5 := below_then hbe.drew (Nat.le_refl _) hb5
          clear ps ps2 ps5 y0
          go_wp2_with fail
          go_roundw
          case rel => exact ⟨.inr rfl, L5⟩
          case measure => simp [intOf]
    · go_wp2_with fail
      go_end0
      exact ⟨rfl, hbel⟩
theorem stableTwo_any (g c : Nat) (w : World) (hs : TwoS g w) :
    Calls Try.prog 131 #[.slice (some ⟨g, 0, none⟩) 2 c, .int .i64 2, .func (.func 103) #[] #[]] w fun e w' => e = .returned (.tuple #[]) ∧ Below w.heap.size w w' := by
  have HS := hide hs
  clear hs
  go_enter Try.func131, Try.ntmps131
  go_wp2_with fail
  go_loop [7, 8] (fun a b => a = .int .i64 0 ∧ b = .int .i64 20) (fun _ _ => 0)
  case atStart => exact ⟨rfl, rfl⟩
  case round =>
    obtain ⟨rfl, rfl⟩ := hrel
    go_wp2_with (first | (go_at_call 154; refine (insTwo_any g c w HS.out).mono ?_; rintro e w1 ⟨rfl, hb1⟩) | fail)
    go_loop [6] (fun a => a = .int .i64 20) (fun _ => 0)
    case atStart => rfl
    case round =>
      subst hrel
      go_wp2_with fail
      go_end0
      exact ⟨rfl, hb1⟩
theorem sortTwo_any (g c : Nat) (w : World) (hs : TwoS g w) :
    Calls Try.prog 102 #[.slice (some ⟨g, 0, none⟩) 2 c, .func (.func 103) #[] #[]] w fun e w' => e = .returned (.tuple #[]) ∧ Below w.heap.size w w' := by
  have HS := hide hs
  clear hs
  go_enter Try.func102, Try.ntmps102
  go_wp2_with (first | (go_at_call 131; refine (stableTwo_any g c w HS.out).mono ?_; rintro e w1 ⟨rfl, hb1⟩) | fail)
  go_end0
  exact ⟨rfl, hb1⟩
end Go.Proofs.Ytadlabndbomgmaa
