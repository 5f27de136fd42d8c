/- The walk of slices.rotate over cells of tables. -/
import Derived.BigQuiet
import Derived.Handy
import Derived.IntWalk
import Derived.RegionTactic
import Derived.Deep.QuietTactic
import Derived.Deep.MidRow
import Derived.Deep.RegionHeld3
import Derived.Test.YtadlabndbomgmaaSwap
namespace Go.Proofs.Ytadlabndbomgmaa
open Go.ChangeShapes Go.WideShapes Go.ChangeAt Go.RowKit
set_option maxRecDepth 100000 in
set_option maxHeartbeats 2000000 in
theorem rotate_any (l : List Ce) (a m b : Nat) (g cap : Nat) (f : Value) {rs : List Value} (w : World) (ha : a < m) (hb : m < b) (hbl : b ≤ l.length) (hl : l.length ≤ 1000000) (hB : Blk w g 162 (ceArr l rs)) :
    Calls Try.prog 167 #[.slice (some ⟨g, 0, none⟩) l.length cap, .int .i64 a, .int .i64 m, .int .i64 b, f] w fun e w' => e = .returned (.tuple #[]) ∧ ∃ l' : List Ce, l'.Perm l ∧ Blk w' g 162 (ceArr l' rs) ∧ w.grownBy w' (some g) := by
  have HB := hide hB
  clear hB
  obtain ⟨n1, h1⟩ : ∃ n1 : Nat, (m : Int) - a = n1 := ⟨m - a, by omega⟩
  obtain ⟨n2, h2⟩ : ∃ n2 : Nat, (b : Int) - m = n2 := ⟨b - m, by omega⟩
  have s1 : IntKind.i64.wrap (n1 : Int) = n1 := IntWalk.i64_in _ (by omega)
  have s2 : IntKind.i64.wrap (n2 : Int) = n2 := IntWalk.i64_in _ (by omega)
  go_enter Try.func167, Try.ntmps167
  go_wp2_with fail
  go_loopw [10, 11] (fun i j wr => ∃ p q : Nat, 0 < p ∧ 0 < q ∧ p ≤ n1 ∧ q ≤ n2 ∧ i = .int .i64 p ∧ j = .int .i64 q ∧ ∃ l' : List Ce, l'.Perm l ∧ Hid (Blk wr g 162 (ceArr l' rs)) ∧ w.grownBy wr (some g)) (fun i j _ => (intOf i).toNat + (intOf j).toNat)
  case atStart => exact ⟨n1, n2, by omega, by omega, by omega, by omega, rfl, rfl, l, .refl _, HB, .refl _ _⟩
  case round =>
    obtain ⟨p, q, hp0, hq0, hp, hq, rfl, rfl, l', hpe, HR, hgr⟩ := hrel
    have hll := hpe.length_eq
    clear HB s1 s2
    obtain ⟨x, hx⟩ : ∃ x : Nat, (m : Int) - p = x := ⟨m - p, by omega⟩
    obtain ⟨y, hy⟩ : ∃ y : Nat, (m : Int) + q - p = y := ⟨m + q - p, by omega⟩
    obtain ⟨z, hz⟩ : ∃ z : Int, (p : Int) - q = z := ⟨_, rfl⟩
    obtain ⟨z', hz'⟩ : ∃ z : Int, (q : Int) - p = z := ⟨_, rfl⟩
    have s1 : IntKind.i64.wrap (x : Int) = x := IntWalk.i64_in _ (by omega)
    have s2 : IntKind.i64.wrap (y : Int) = y := IntWalk.i64_in _ (by omega)
    have s3 : IntKind.i64.wrap z = z := IntWalk.i64_in _ (by omega)
    have s4 : IntKind.i64.wrap z' = z' := IntWalk.i64_in _ (by omega)
    have s5 : IntKind.i64.wrap ((m : Int) + q) = m + q := IntWalk.i64_in _ (by omega)
    go_wp2_with fail
    · have hc := swapRange_any l' x m q g cap f wr (by omega) (by omega) (by omega) HR.out
      rw [hll] at hc
      refine hc.mono ?_
      rintro e w1 ⟨rfl, l2, hp2, hB2, hg2⟩
      have HB2 := hide hB2
      have hg3 := hgr.trans hg2
      clear hB2 HR hc hgr hg2
      go_wp2_with fail
      go_roundw
      case rel => exact ⟨p - q, q, by omega, by omega, by omega, by omega, by congr 1; omega, rfl, l2, hp2.trans hpe, HB2, hg3⟩
      case measure => simp only [intOf]; omega
    · have hpq : (p : Int) ≠ q := by
        have h : ((p : Int) != (q : Int)) = true := by assumption
        simpa using h
      have hc := swapRange_any l' x y p g cap f wr (by omega) (by omega) (by omega) HR.out
      rw [hll] at hc
      refine hc.mono ?_
      rintro e w1 ⟨rfl, l2, hp2, hB2, hg2⟩
      have HB2 := hide hB2
      have hg3 := hgr.trans hg2
      clear hB2 HR hc hgr hg2
      go_wp2_with fail
      go_roundw
      case rel => exact ⟨p, q - p, by omega, by omega, by omega, by omega, rfl, by congr 1; omega, l2, hp2.trans hpe, HB2, hg3⟩
      case measure => simp only [intOf]; omega
    · have hpq : (p : Int) = q := by
        have h : ((p : Int) != (q : Int)) = false := by assumption
        simpa using h
      have hc := swapRange_any l' x m p g cap f wr (by omega) (by omega) (by omega) HR.out
      rw [hll] at hc
      refine hc.mono ?_
      rintro e w1 ⟨rfl, l2, hp2, hB2, hg2⟩
      have HB2 := hide hB2
      have hg3 := hgr.trans hg2
      clear hB2 HR hc hgr hg2
      go_wp2_with fail
      go_end0
      exact ⟨rfl, l2, hp2.trans hpe, HB2.out, hg3⟩
end Go.Proofs.Ytadlabndbomgmaa
