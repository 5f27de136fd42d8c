/- The walk of raster.Over: a color over another one. -/
import Derived.BigQuiet
import Derived.Handy
import Derived.IntWalk
import Derived.Deep.QuietTactic
import Derived.Test.YtbpkffoooieejaaFix
import Derived.Test.YtbpkffoooieejaaRasterPlain
import Derived.Test.YtbpkffoooieejaaBits
namespace Go.Proofs.Ytbpkffoooieejaa
open Go.ChangeShapes Go.WideShapes Go.ChangeAt Go.RowKit
theorem partN_any (n : Int) (w : World) : Calls Try.prog 27 #[.int .i64 n] w fun e w' => e = .returned (.int .i64 (partN n)) ∧ w = w' := by
  go_enter Try.func27, Try.ntmps27
  go_wp2
  go_ret
  exact ⟨rfl, rfl⟩
/-- Behind k rounds. -/
def overTo (top under al : Int) : Nat → Int
  | 0 => 255
  | 1 => 255 + mixF (chan top 256) (chan under 256) al * 256
  | 2 => 255 + mixF (chan top 256) (chan under 256) al * 256 + mixF (chan top 65536) (chan under 65536) al * 65536
  | _ => 255 + mixF (chan top 256) (chan under 256) al * 256 + mixF (chan top 65536) (chan under 65536) al * 65536 + mixF (chan top 16777216) (chan under 16777216) al * 16777216
theorem overTo_bd (top under al : Int) (h : 0 ≤ al ∧ al ≤ 255) : (0 ≤ overTo top under al 0 ∧ overTo top under al 0 < 256) ∧ (0 ≤ overTo top under al 1 ∧ overTo top under al 1 < 65536) ∧ (0 ≤ overTo top under al 2 ∧ overTo top under al 2 < 16777216) := by
  have h1 := mix_chan top under al 256 h
  have h2 := mix_chan top under al 65536 h
  simp only [overTo]
  omega
theorem or_beside' (a m : Int) (k : Nat) (ha : 0 ≤ a) (ha' : a < 2 ^ k) (hm : 0 ≤ m ∧ m ≤ 255) (hk : k ≤ 24) : bits .or .i64 a (m * 2 ^ k) = a + m * 2 ^ k := by
  obtain ⟨x, rfl⟩ := Int.eq_ofNat_of_zero_le ha
  obtain ⟨y, rfl⟩ := Int.eq_ofNat_of_zero_le hm.1
  refine or_beside x y k ?_ hk (by omega)
  have : ((x : Nat) : Int) < ((2 ^ k : Nat) : Int) := by simpa using ha'
  omega
theorem over_step0 (top under al : Int) (h : 0 ≤ al ∧ al ≤ 255) : bits .or .i64 (overTo top under al 0) (mixF (chan top 256) (chan under 256) al * 256) = overTo top under al 1 :=
  or_beside' _ _ 8 (overTo_bd top under al h).1.1 (by have := (overTo_bd top under al h).1.2; simpa using this) (mix_chan top under al 256 h) (by omega)
theorem over_step1 (top under al : Int) (h : 0 ≤ al ∧ al ≤ 255) : bits .or .i64 (overTo top under al 1) (mixF (chan top 65536) (chan under 65536) al * 65536) = overTo top under al 2 :=
  or_beside' _ _ 16 (overTo_bd top under al h).2.1.1 (by have := (overTo_bd top under al h).2.1.2; simpa using this) (mix_chan top under al 65536 h) (by omega)
theorem over_step2 (top under al : Int) (h : 0 ≤ al ∧ al ≤ 255) : bits .or .i64 (overTo top under al 2) (mixF (chan top 16777216) (chan under 16777216) al * 16777216) = overTo top under al 3 :=
  or_beside' _ _ 24 (overTo_bd top under al h).2.2.1 (by have := (overTo_bd top under al h).2.2.2; simpa using this) (mix_chan top under al 16777216 h) (by omega)
theorem mul_bd {c al : Int} (h : 0 ≤ c ∧ c ≤ 255) (h2 : 0 ≤ al ∧ al ≤ 255) : 0 ≤ c * al ∧ c * al ≤ 65025 :=
  ⟨Int.mul_nonneg h.1 h2.1, Int.le_trans (Int.mul_le_mul h.2 h2.2 h2.1 (by omega)) (by omega)⟩
set_option maxRecDepth 100000 in
set_option maxHeartbeats 2000000 in
theorem Over_any (top under n : Int) (w : World) : Calls Try.prog 10 #[.int .i64 top, .int .i64 under, .int .i64 n] w fun e w' => e = .returned (.int .i64 (overF top under n)) ∧ ∃ k, w' = w.drewN k := by
  have hal := alphaF_bd top n
  have HA := hide (show top % 256 * partN n / 1000 = alphaF top n from rfl)
  have HO := hide (show overTo top under (alphaF top n) 3 = overF top under n from rfl)
  have hp : 0 ≤ partN n ∧ partN n ≤ 1000 := by unfold partN; omega
  have hm : 0 ≤ top % 256 * partN n := Int.mul_nonneg (by omega) (by omega)
  have hm2 : top % 256 * partN n ≤ 255 * 1000 := Int.mul_le_mul (by omega) (by omega) (by omega) (by omega)
  have ha := and255 top
  go_enter Try.func10, Try.ntmps10
  go_wp2_with (go_at_call 27; refine (partN_any _ _).mono ?_; rintro e w' ⟨rfl, rfl⟩)
  rw [HA.out]
  clear HA hp hm hm2 ha
  generalize alphaF top n = al at *
  go_loopw [8, 9] (fun o a wr => ∃ k : Nat, k ≤ 3 ∧ a = .int .i64 (8 * (k : Int) + 8) ∧ o = .int .i64 (overTo top under al k) ∧ ∃ j, wr = w.drewN j) (fun _ a _ => (40 - (intOf a)).toNat)
  case atStart => exact ⟨0, Nat.zero_le _, rfl, rfl, 0, rfl⟩
  case round =>
    obtain ⟨k, hk, rfl, rfl, j, rfl⟩ := hrel
    have hbd := overTo_bd top under al hal
    rcases (show k = 0 ∨ k = 1 ∨ k = 2 ∨ k = 3 by omega) with rfl | rfl | rfl | rfl
    · have e1 := and255 (top / 256)
      have e2 := and255 (under / 256)
      have b1 := chan_bd top 256
      have b2 := chan_bd under 256
      have hst := over_step0 top under al hal
      rw [show top / 256 % 256 = chan top 256 from rfl] at e1
      rw [show under / 256 % 256 = chan under 256 from rfl] at e2
      have m1 := mul_bd b1 hal
      have m2 := mul_bd b2 (show 0 ≤ 255 - al ∧ 255 - al ≤ 255 by omega)
      rw [show mixF (chan top 256) (chan under 256) al = (chan top 256 * al + chan under 256 * (255 - al) + 127) / 255 from rfl] at hst
      have HS := hide hst
      rw [show (8 * ((0 : Nat) : Int) + 8) = 8 from rfl]
      clear hst hbd
      generalize overTo top under al 0 = ov at *
      generalize chan top 256 = c1 at *
      generalize chan under 256 = c2 at *
      go_wp2_with fail
      go_quiet (fail)
      go_wp2_with fail
      go_roundw
      case rel => exact ⟨1, by omega, by go_num, by rw [HS.out], _, rfl⟩
      case measure => simp [intOf]
    · have e1 := and255 (top / 65536)
      have e2 := and255 (under / 65536)
      have b1 := chan_bd top 65536
      have b2 := chan_bd under 65536
      have hst := over_step1 top under al hal
      rw [show top / 65536 % 256 = chan top 65536 from rfl] at e1
      rw [show under / 65536 % 256 = chan under 65536 from rfl] at e2
      have m1 := mul_bd b1 hal
      have m2 := mul_bd b2 (show 0 ≤ 255 - al ∧ 255 - al ≤ 255 by omega)
      rw [show mixF (chan top 65536) (chan under 65536) al = (chan top 65536 * al + chan under 65536 * (255 - al) + 127) / 255 from rfl] at hst
      have HS := hide hst
      rw [show (8 * ((1 : Nat) : Int) + 8) = 16 from rfl]
      clear hst hbd
      generalize overTo top under al 1 = ov at *
      generalize chan top 65536 = c1 at *
      generalize chan under 65536 = c2 at *
      go_wp2_with fail
      go_quiet (fail)
      go_wp2_with fail
      go_roundw
      case rel => exact ⟨2, by omega, by go_num, by rw [HS.out], _, rfl⟩
      case measure => simp [intOf]
    · have e1 := and255 (top / 16777216)
      have e2 := and255 (under / 16777216)
      have b1 := chan_bd top 16777216
      have b2 := chan_bd under 16777216
      have hst := over_step2 top under al hal
      rw [show top / 16777216 % 256 = chan top 16777216 from rfl] at e1
      rw [show under / 16777216 % 256 = chan under 16777216 from rfl] at e2
      have m1 := mul_bd b1 hal
      have m2 := mul_bd b2 (show 0 ≤ 255 - al ∧ 255 - al ≤ 255 by omega)
      rw [show mixF (chan top 16777216) (chan under 16777216) al = (chan top 16777216 * al + chan under 16777216 * (255 - al) + 127) / 255 from rfl] at hst
      have HS := hide hst
      rw [show (8 * ((2 : Nat) : Int) + 8) = 24 from rfl]
      clear hst hbd
      generalize overTo top under al 2 = ov at *
      generalize chan top 16777216 = c1 at *
      generalize chan under 16777216 = c2 at *
      go_wp2_with fail
      go_quiet (fail)
      go_wp2_with fail
      go_roundw
      case rel => exact ⟨3, by omega, by go_num, by rw [HS.out], _, rfl⟩
      case measure => simp [intOf]
    · rw [show (8 * ((3 : Nat) : Int) + 8) = 32 from rfl, HO.out]
      go_wp2_with fail
      go_ret
      exact ⟨rfl, j, rfl⟩
end Go.Proofs.Ytbpkffoooieejaa
