/- The walk of the statement RasterBetween: it returns true. -/
import Derived.BigQuiet
import Derived.Handy
import Derived.IntWalk
import Derived.Deep.QuietTactic
import Derived.Test.YtbpkffoooieejaaDrawn
import Derived.Test.YtbpkffoooieejaaOver
import Derived.Test.YtbpkffoooieejaaRest
namespace Go.Proofs.Ytbpkffoooieejaa
open Go.ChangeShapes Go.WideShapes Go.ChangeAt Go.RowKit
theorem bet1 (t u : Int) : (overF (t / 256 * 256 + 255) u 1000 != (t / 256 * 256 + 255) % 4294967296) = false := by
  have h : alphaF (t / 256 * 256 + 255) 1000 = 255 := by unfold alphaF; rw [partN_1]; omega
  rw [over_255 h, show (t / 256 * 256 + 255) / 256 * 256 + 255 = t / 256 * 256 + 255 by omega]; simp
theorem bet2 (t u : Int) : (overF t (u / 256 * 256 + 255) 0 != (u / 256 * 256 + 255) % 4294967296) = false := by
  have h : alphaF t 0 = 0 := by unfold alphaF; rw [partN_0]; omega
  rw [over_0 h, show (u / 256 * 256 + 255) / 256 * 256 + 255 = u / 256 * 256 + 255 by omega]; simp
theorem bet3 (t u n : Int) : (overF (t / 256 * 256) (u / 256 * 256 + 255) n != (u / 256 * 256 + 255) % 4294967296) = false := by
  have h : alphaF (t / 256 * 256) n = 0 := by unfold alphaF; rw [show t / 256 * 256 % 256 = 0 by omega]; simp
  rw [over_0 h, show (u / 256 * 256 + 255) / 256 * 256 + 255 = u / 256 * 256 + 255 by omega]; simp
theorem bet4 (t u n : Int) : (min (chan t 256) (chan u 256) ≤ chan (overF t u n) 256 ∧ chan (overF t u n) 256 ≤ max (chan t 256) (chan u 256)) ∧ (min (chan t 65536) (chan u 65536) ≤ chan (overF t u n) 65536 ∧ chan (overF t u n) 65536 ≤ max (chan t 65536) (chan u 65536)) ∧
    min (chan t 16777216) (chan u 16777216) ≤ chan (overF t u n) 16777216 ∧ chan (overF t u n) 16777216 ≤ max (chan t 16777216) (chan u 16777216) := by
  have h := over_chan t u n
  have ha := alphaF_bd t n
  rw [h.1, h.2.1, h.2.2]
  exact ⟨mix_bd ha, mix_bd ha, mix_bd ha⟩
set_option maxRecDepth 100000 in
set_option maxHeartbeats 4000000 in
theorem between_any (top under n : Int) (ht : -9223372036854775808 ≤ top ∧ top ≤ 9223372036854775807) (hu : -9223372036854775808 ≤ under ∧ under ≤ 9223372036854775807) (w : World) :
    Calls Try.prog 4 #[.int .i64 top, .int .i64 under, .int .i64 n] w fun e w' => e = .returned (.bool true) ∧ Below w.heap.size w w' := by
  have h1 := or255 under hu
  have h2 := or255 top ht
  have h3 := andNot255 top ht
  have z1 := bet1 top (under / 256 * 256 + 255)
  have z2 := bet2 top under
  have z3 := bet3 top under n
  have B4 := hide (bet4 top (under / 256 * 256 + 255) n)
  have HM := hide (show (1 : Int) ≤ 4294967296 by omega)
  have HM2 := hide (show (4294967296 : Int) ≤ 4611686018427387904 by omega)
  generalize under / 256 * 256 + 255 = U at *
  generalize top / 256 * 256 + 255 = T at *
  generalize top / 256 * 256 = Z at *
  clear ht hu
  go_enter Try.func4, Try.ntmps4
  go_wp2_with (first | (go_at_call 10; refine (Over_any _ _ _ _).mono ?_; rintro e w1 ⟨rfl, k1, rfl⟩) | (go_at_call 11; refine (Rest_any _ _ HM.out HM2.out _).mono ?_; rintro e w1 ⟨rfl, rfl⟩) | fail)
  clear h1 h2 h3 z1 z2 z3
  go_wp2_with fail
  generalize overF top U n = X at *
  go_loopw [8] (fun a wr => ∃ k : Nat, k ≤ 3 ∧ a = .int .i64 (8 * (k : Int) + 8) ∧ ∃ j, wr = w.drewN j) (fun a _ => (40 - (intOf a)).toNat)
  case atStart => exact ⟨0, Nat.zero_le _, rfl, _, rfl⟩
  case round =>
    obtain ⟨k, hk, rfl, j, rfl⟩ := hrel
    rcases (show k = 0 ∨ k = 1 ∨ k = 2 ∨ k = 3 by omega) with rfl | rfl | rfl | rfl
    · have q := B4.out.1
      have e0 := and255 (X / 256)
      have e1 := and255 (top / 256)
      have e2 := and255 (U / 256)
      rw [show X / 256 % 256 = chan X 256 from rfl] at e0
      rw [show top / 256 % 256 = chan top 256 from rfl] at e1
      rw [show U / 256 % 256 = chan U 256 from rfl] at e2
      rw [show (8 * ((0 : Nat) : Int) + 8) = 8 from rfl]
      generalize chan X 256 = c0 at *
      generalize chan top 256 = c1 at *
      generalize chan U 256 = c2 at *
      have z1 : decide (c0 < min c1 c2) = false := decide_eq_false (by omega)
      have z2 : decide (max c1 c2 < c0) = false := decide_eq_false (by omega)
      clear q
      go_wp2_with fail
      go_quiet (fail)
      go_wp2_with fail
      go_roundw
      case rel => exact ⟨1, by omega, by go_num, _, rfl⟩
      case measure => simp [intOf]
    · have q := B4.out.2.1
      have e0 := and255 (X / 65536)
      have e1 := and255 (top / 65536)
      have e2 := and255 (U / 65536)
      rw [show X / 65536 % 256 = chan X 65536 from rfl] at e0
      rw [show top / 65536 % 256 = chan top 65536 from rfl] at e1
      rw [show U / 65536 % 256 = chan U 65536 from rfl] at e2
      rw [show (8 * ((1 : Nat) : Int) + 8) = 16 from rfl]
      generalize chan X 65536 = c0 at *
      generalize chan top 65536 = c1 at *
      generalize chan U 65536 = c2 at *
      have z1 : decide (c0 < min c1 c2) = false := decide_eq_false (by omega)
      have z2 : decide (max c1 c2 < c0) = false := decide_eq_false (by omega)
      clear q
      go_wp2_with fail
      go_quiet (fail)
      go_wp2_with fail
      go_roundw
      case rel => exact ⟨2, by omega, by go_num, _, rfl⟩
      case measure => simp [intOf]
    · have q := B4.out.2.2
      have e0 := and255 (X / 16777216)
      have e1 := and255 (top / 16777216)
      have e2 := and255 (U / 16777216)
      rw [show X / 16777216 % 256 = chan X 16777216 from rfl] at e0
      rw [show top / 16777216 % 256 = chan top 16777216 from rfl] at e1
      rw [show U / 16777216 % 256 = chan U 16777216 from rfl] at e2
      rw [show (8 * ((2 : Nat) : Int) + 8) = 24 from rfl]
      generalize chan X 16777216 = c0 at *
      generalize chan top 16777216 = c1 at *
      generalize chan U 16777216 = c2 at *
      have z1 : decide (c0 < min c1 c2) = false := decide_eq_false (by omega)
      have z2 : decide (max c1 c2 < c0) = false := decide_eq_false (by omega)
      clear q
      go_wp2_with fail
      go_quiet (fail)
      go_wp2_with fail
      go_roundw
      case rel => exact ⟨3, by omega, by go_num, _, rfl⟩
      case measure => simp [intOf]
    · rw [show (8 * ((3 : Nat) : Int) + 8) = 32 from rfl]
      go_wp2_with (first | (go_at_call 12; refine (drawn_any _).mono ?_; rintro e w9 ⟨rfl, hb9⟩) | fail)
      go_ret
      exact ⟨rfl, below_then (below_drewN (Below.refl w.heap.size w) j) (Nat.le_refl _) hb9⟩
end Go.Proofs.Ytbpkffoooieejaa
