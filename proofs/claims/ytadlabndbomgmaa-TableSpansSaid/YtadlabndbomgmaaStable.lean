/- The walk of slices.SortStableFunc over cells of tables: what is sorted holds the same cells. -/
import Derived.BigQuiet
import Derived.Handy
import Derived.IntWalk
import Derived.RegionTactic
import Derived.Deep.QuietTactic
import Derived.Deep.MidRow
import Derived.Deep.RegionHeld3
import Derived.Test.YtadlabndbomgmaaSym
namespace Go.Proofs.Ytadlabndbomgmaa
open Go.ChangeShapes Go.WideShapes Go.ChangeAt Go.RowKit
set_option maxRecDepth 100000 in
set_option maxHeartbeats 4000000 in
theorem stable_any (l : List Ce) (g cap : Nat) {rs : List Value} (w : World) (hl : l.length ≤ 1000000) (hs : SpanOk l) (hB : Blk w g 162 (ceArr l rs)) :
    Calls Try.prog 131 #[.slice (some ⟨g, 0, none⟩) l.length cap, .int .i64 l.length, .func (.func 103) #[] #[]] w (SortPost rs l g w) := by
  have HB := hide hB
  clear hB
  unfold SortPost
  go_enter Try.func131, Try.ntmps131
  go_wp2_with fail
  go_loopw [7, 8] (fun a b wr => ∃ p q : Nat, a = .int .i64 p ∧ b = .int .i64 q ∧ q ≤ p + 20 ∧ p + 20 ≤ q ∧ p ≤ l.length ∧ CeAt rs l g w wr) (fun a _ _ => l.length - (intOf a).toNat)
  case atStart => exact ⟨0, 20, rfl, rfl, by omega, by omega, by omega, l, .refl _, HB, .refl _ _⟩
  case round =>
    obtain ⟨p, q, rfl, rfl, h1, h2, h3, l', hp, HR, hgr⟩ := hrel
    have hll := hp.length_eq
    clear HB
    have s1 : IntKind.i64.wrap ((q : Int) + 20) = q + 20 := IntWalk.i64_in _ (by omega)
    go_wp2_with fail
    · have hc := insert_any l' p q g cap wr (by omega) (by omega) (by omega) (hs.perm hp) HR.out
      rw [hll] at hc
      refine hc.mono ?_
      rintro e w1 ⟨rfl, l2, hp2, hB2, hg2⟩
      have HB2 := hide hB2
      have hg3 := hgr.trans hg2
      clear hB2 HR hc hgr hg2
      go_wp2_with fail
      go_roundw
      case rel => exact ⟨q, q + 20, rfl, rfl, by omega, by omega, by omega, l2, hp2.trans hp, HB2, hg3⟩
      case measure => simp only [intOf]; omega
    · have hc := insert_any l' p l.length g cap wr (by omega) (by omega) (by omega) (hs.perm hp) HR.out
      rw [hll] at hc
      refine hc.mono ?_
      rintro e w1 ⟨rfl, l2, hp2, hB2, hg2⟩
      have HB2 := hide hB2
      have hg3 := hgr.trans hg2
      clear hB2 HR hc hgr hg2
      go_wp2_with fail
      go_loopw [6] (fun s wr => ∃ b : Nat, 1 ≤ b ∧ b ≤ 2000000 ∧ s = .int .i64 b ∧ CeAt rs l g w wr) (fun s _ => l.length - (intOf s).toNat)
      case atStart => exact ⟨20, by omega, by omega, rfl, l2, hp2.trans hp, HB2, hg3⟩
      case round =>
        clear HB2 hg3 hp2 hp hll
        obtain ⟨b, hb1, hb2, rfl, l', hp, HR, hgr⟩ := hrel
        have hll := hp.length_eq
        obtain ⟨t, ht⟩ : ∃ t : Nat, 2 * (b : Int) = t := ⟨2 * b, by omega⟩
        obtain ⟨t', ht'⟩ : ∃ t : Nat, (b : Int) * 2 = t := ⟨b * 2, by omega⟩
        have s2 : IntKind.i64.wrap (t : Int) = t := IntWalk.i64_in _ (by omega)
        have s3 : IntKind.i64.wrap (t' : Int) = t' := IntWalk.i64_in _ (by omega)
        go_wp2_with fail
        · rw [show decide (b < l.length) = true from decide_eq_true (by assumption)]
          go_loopw [7, 8] (fun x y wr => ∃ p q : Nat, x = .int .i64 p ∧ y = .int .i64 q ∧ q ≤ p + t ∧ p + t ≤ q ∧ p ≤ l.length ∧ CeAt rs l g w wr) (fun x _ _ => l.length - (intOf x).toNat)
          case atStart => exact ⟨0, t, rfl, rfl, by omega, by omega, by omega, l', hp, HR, hgr⟩
          case round =>
            clear HR hgr hp hll
            obtain ⟨p, q, rfl, rfl, h1, h2, h3, l', hp, HR, hgr⟩ := hrel
            have hll := hp.length_eq
            obtain ⟨m, hm⟩ : ∃ m : Nat, (p : Int) + b = m := ⟨p + b, by omega⟩
            obtain ⟨q', hq'⟩ : ∃ m : Nat, (q : Int) + t = m := ⟨q + t, by omega⟩
            obtain ⟨q2, hq2⟩ : ∃ m : Nat, (q : Int) + t' = m := ⟨q + t', by omega⟩
            have s1 : IntKind.i64.wrap (m : Int) = m := IntWalk.i64_in _ (by omega)
            have s4 : IntKind.i64.wrap (q' : Int) = q' := IntWalk.i64_in _ (by omega)
            have s5 : IntKind.i64.wrap (q2 : Int) = q2 := IntWalk.i64_in _ (by omega)
            go_wp2_with fail
            · have hc := sym_any g cap rs (q - p) l' p m q wr (by omega) (by omega) (by omega) (by omega) (by omega) (hs.perm hp) HR.out
              rw [hll] at hc
              refine hc.mono ?_
              rintro e w1 ⟨rfl, l2, hp2, hB2, hg2⟩
              have HB2 := hide hB2
              have hg3 := hgr.trans hg2
              clear hB2 HR hc hgr hg2
              go_wp2_with fail
              go_roundw
              case rel => exact ⟨q, q', rfl, rfl, by omega, by omega, by omega, l2, hp2.trans hp, HB2, hg3⟩
              case measure => simp only [intOf]; omega
            · have hc := sym_any g cap rs (l.length - p) l' p m l.length wr (by omega) (by omega) (by omega) (by omega) (by omega) (hs.perm hp) HR.out
              rw [hll] at hc
              refine hc.mono ?_
              rintro e w1 ⟨rfl, l2, hp2, hB2, hg2⟩
              have HB2 := hide hB2
              have hg3 := hgr.trans hg2
              clear hB2 HR hc hgr hg2
              go_wp2_with fail
              go_roundw
              case rel => exact ⟨t', by omega, by omega, rfl, l2, hp2.trans hp, HB2, hg3⟩
              case measure => simp only [intOf]; omega
            · go_roundw
              case rel => exact ⟨t', by omega, by omega, rfl, l', hp, HR, hgr⟩
              case measure => simp only [intOf]; omega
        · go_end0
          exact ⟨rfl, l', hp, HR.out, hgr⟩
set_option maxRecDepth 100000 in
theorem sortStable_any (l : List Ce) (g cap : Nat) {rs : List Value} (w : World) (hl : l.length ≤ 1000000) (hs : SpanOk l) (hB : Blk w g 162 (ceArr l rs)) :
    Calls Try.prog 102 #[.slice (some ⟨g, 0, none⟩) l.length cap, .func (.func 103) #[] #[]] w (SortPost rs l g w) := by
  have HB := hide hB
  clear hB
  go_enter Try.func102, Try.ntmps102
  go_wp2_with fail
  refine (stable_any l g cap w hl hs HB.out).mono ?_
  rintro e w1 ⟨rfl, h⟩
  go_wp2_with fail
  go_end0
  exact ⟨rfl, h⟩
theorem insNil_any (w : World) : Calls Try.prog 154 #[.slice none 0 0, .int .i64 0, .int .i64 0, .func (.func 103) #[] #[]] w fun e w' => e = .returned (.tuple #[]) ∧ w = w' := by
  go_enter Try.func154, Try.ntmps154
  go_wp2_with fail
  go_loopw [8] (fun i wr => i = .int .i64 1 ∧ w = wr) (fun _ _ => 0)
  case atStart => exact ⟨rfl, rfl⟩
  case round =>
    obtain ⟨rfl, rfl⟩ := hrel
    go_wp2_with fail
    go_end0
    exact ⟨rfl, rfl⟩
theorem stableNil_any (w : World) : Calls Try.prog 131 #[.slice none 0 0, .int .i64 0, .func (.func 103) #[] #[]] w fun e w' => e = .returned (.tuple #[]) ∧ w = w' := by
  go_enter Try.func131, Try.ntmps131
  go_wp2_with fail
  go_loopw [7, 8] (fun a b wr => a = .int .i64 0 ∧ b = .int .i64 20 ∧ w = wr) (fun _ _ _ => 0)
  case atStart => exact ⟨rfl, rfl, rfl⟩
  case round =>
    obtain ⟨rfl, rfl, rfl⟩ := hrel
    go_wp2_with fail
    refine (insNil_any w).mono ?_
    rintro e w1 ⟨rfl, rfl⟩
    go_wp2_with fail
    go_loopw [6] (fun s wr => s = .int .i64 20 ∧ w = wr) (fun _ _ => 0)
    case atStart => exact ⟨rfl, rfl⟩
    case round =>
      obtain ⟨rfl, rfl⟩ := hrel
      go_wp2_with fail
      go_end0
      exact ⟨rfl, rfl⟩
theorem sortStableNil_any (w : World) :
    Calls Try.prog 102 #[.slice none 0 0, .func (.func 103) #[] #[]] w fun e w' => e = .returned (.tuple #[]) ∧ w = w' := by
  go_enter Try.func102, Try.ntmps102
  go_wp2_with fail
  refine (stableNil_any w).mono ?_
  rintro e w1 ⟨rfl, rfl⟩
  go_wp2_with fail
  go_end0
  exact ⟨rfl, rfl⟩
end Go.Proofs.Ytadlabndbomgmaa
