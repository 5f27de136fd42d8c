/- Walks of parts of lines: do they end with a blank, do they collapse, how wide is the last blank; how wide a group is. -/
import Derived.BigQuiet
import Derived.Handy
import Derived.IntWalk
import Derived.RegionTactic
import Derived.Deep.QuietTactic
import Derived.Deep.MidRow
import Derived.Deep.RegionHeld3
import Derived.Test.YtadlabndbomgmaaDoorJ2
import Derived.Test.YtadlabndbomgmaaDoorJ3
import Derived.Test.YtadlabndbomgmaaDoorJ1
set_option linter.unusedVariables false
set_option linter.unusedSimpArgs false
namespace Go.Proofs.YtadlabndbomgmaaDoor
open Go.ChangeShapes Go.WideShapes Go.ChangeAt Go.RowKit
theorem ItsAt.c0 {w : World} {g : Nat} {xs : List It} (h : ItsAt w g xs) {k : Nat} (hk : k < xs.length) : w.cell? ⟨g, k * 11, none⟩ = some (.int .i64 (itAt xs k).kind) := h k hk 0 (by omega)
theorem ItsAt.c6 {w : World} {g : Nat} {xs : List It} (h : ItsAt w g xs) {k : Nat} (hk : k < xs.length) : w.cell? ⟨g, k * 11 + 6, none⟩ = some (.int .i64 (itAt xs k).mode) := h k hk 6 (by omega)
theorem ItsAt.c3 {w : World} {g : Nat} {xs : List It} (h : ItsAt w g xs) {k : Nat} (hk : k < xs.length) : w.cell? ⟨g, k * 11 + 3, none⟩ = some (.int .i64 (itAt xs k).size) := h k hk 3 (by omega)
theorem ItsAt.c4 {w : World} {g : Nat} {xs : List It} (h : ItsAt w g xs) {k : Nat} (hk : k < xs.length) : w.cell? ⟨g, k * 11 + 4, none⟩ = some (.int .i64 (itAt xs k).spacing) := h k hk 4 (by omega)
theorem suffix_any (t : ByteArray) (w : World) (hs : t.size ≤ 100000) : Calls Tryd.prog 92 #[.string t, .string ⟨#[32]⟩] w fun e w' => e = .returned (.bool (spaceEnd t)) ∧ w = w' := by
  refine (Tryd.strings_HasSuffix t ⟨#[32]⟩ w (by omega)).mono ?_
  rintro e w' ⟨rfl, rfl⟩
  rw [show (⟨#[32]⟩ : ByteArray).data.toList = [32] from rfl, suffix_space]
  exact ⟨rfl, rfl⟩
theorem ends_any (xs : List It) (g : Nat) (p : Pt) (w : World) (hI : ItsAt w g xs) (hi : p.i < xs.length) (hs : p.t.size ≤ 100000) :
    Calls Tryd.prog 65 #[.agg #[.pointer (some ⟨g, p.i * 11, none⟩), .int .i64 p.i, .string p.t, .int .i64 p.w, .bool p.last]] w fun e w' => e = .returned (.bool (endsF xs p)) ∧ Below w.heap.size w w' := by
  have hg := hI.lt (by omega)
  have HK := hide (show endsF xs p = ((itAt xs p.i).kind == 1 && spaceEnd p.t) from rfl)
  have HS := hide (fun W => suffix_any p.t W hs)
  have c0 := (hI.alloc (.cells #[.pointer (some ⟨g, p.i * 11, none⟩), .int .i64 p.i, .string p.t, .int .i64 p.w, .bool p.last] 96) hg).c0 hi
  generalize (itAt xs p.i).kind = kd at *
  clear hI
  cases hk : (kd == 1)
  · have hr := hide (show endsF xs p = false from by rw [HK.out, hk]; rfl)
    clear HK
    go_enter Tryd.func65, Tryd.ntmps65
    go_wp2_with fail
    go_ret
    exact ⟨ret_bool (by rw [hr.out]), by go_grown⟩
  · have hr := hide (show endsF xs p = spaceEnd p.t from by rw [HK.out, hk]; rfl)
    clear HK
    go_enter Tryd.func65, Tryd.ntmps65
    go_wp2_with (go_at_call 92; refine (HS.out _).mono ?_; rintro e w' ⟨rfl, rfl⟩)
    go_ret
    exact ⟨ret_bool (by rw [hr.out]), by go_grown⟩
theorem collapses_any (xs : List It) (g : Nat) (p : Pt) (w : World) (hI : ItsAt w g xs) (hi : p.i < xs.length) :
    Calls Tryd.prog 67 #[.agg #[.pointer (some ⟨g, p.i * 11, none⟩), .int .i64 p.i, .string p.t, .int .i64 p.w, .bool p.last]] w fun e w' => e = .returned (.bool (collF xs p)) ∧ Below w.heap.size w w' := by
  have hg := hI.lt (by omega)
  have HK := hide (show collF xs p = ((itAt xs p.i).kind == 1 && ((itAt xs p.i).mode == 0 || (itAt xs p.i).mode == 2)) from rfl)
  have hI2 := hI.alloc (.cells #[.pointer (some ⟨g, p.i * 11, none⟩), .int .i64 p.i, .string p.t, .int .i64 p.w, .bool p.last] 96) hg
  have c0 := hI2.c0 hi
  have c6 := hI2.c6 hi
  generalize (itAt xs p.i).kind = kd at *
  generalize (itAt xs p.i).mode = md at *
  clear hI hI2
  cases hk : (kd == 1) <;> cases hm : (md == 0)
  all_goals
    have hr := hide (HK.out.trans (by rw [hk, hm]))
    clear HK
    go_enter Tryd.func67, Tryd.ntmps67
    go_wp2_with fail
    go_ret
    exact ⟨ret_bool (by rw [hr.out]; first | rfl | simp), by go_grown⟩
set_option maxRecDepth 100000 in
set_option maxHeartbeats 2000000 in
theorem gwidth_any (g : Nat) (ps : List Pt) (h off c : Nat) (w : World) (hp : PtsAt w g h off ps) (hh : h < w.heap.size) (hl : ps.length ≤ 100000) (hw : ∀ p ∈ ps, 0 ≤ p.w ∧ p.w ≤ 16777216) :
    Calls Tryd.prog 45 #[.slice (some ⟨h, off, none⟩) ps.length c] w fun e w' => e = .returned (.int .i64 (widthG ps)) ∧ Below w.heap.size w w' := by
  have HP := hide hp
  have HW := hide hw
  clear hp hw
  go_enter Tryd.func45, Tryd.ntmps45
  go_wp2_with fail
  go_loopw [2, 7] (fun n i wr => ∃ k : Nat, k ≤ ps.length ∧ i = .int .i64 k ∧ n = .int .i64 (widthG (ps.take k)) ∧ 0 ≤ widthG (ps.take k) ∧ widthG (ps.take k) ≤ 16777216 * k ∧ Below w.heap.size w wr) (fun _ i _ => ps.length - (intOf i).toNat)
  case atStart => exact ⟨0, Nat.zero_le _, rfl, rfl, by simp [widthG], by simp [widthG], Below.refl _ _⟩
  case round =>
    obtain ⟨k, hk, rfl, rfl, h0, h1, hbel⟩ := hrel
    by_cases hlt : k < ps.length
    · have hps := HP.out.below hbel hh
      have d0 : wr.cell? ⟨h, off + k * 5, none⟩ = some (.pointer (some ⟨g, (ptAt ps k).i * 11, none⟩)) := hps k hlt 0 (by omega)
      have d1 : wr.cell? ⟨h, off + k * 5 + 1, none⟩ = some (.int .i64 (ptAt ps k).i) := hps k hlt 1 (by omega)
      have d2 : wr.cell? ⟨h, off + k * 5 + 2, none⟩ = some (.string (ptAt ps k).t) := hps k hlt 2 (by omega)
      have d3 : wr.cell? ⟨h, off + k * 5 + 3, none⟩ = some (.int .i64 (ptAt ps k).w) := hps k hlt 3 (by omega)
      have d4 : wr.cell? ⟨h, off + k * 5 + 4, none⟩ = some (.bool (ptAt ps k).last) := hps k hlt 4 (by omega)
      have hw := HW.out _ (List.getElem_mem hlt)
      have HN := hide (show widthG (ps.take (k + 1)) = widthG (ps.take k) + (ptAt ps k).w from by rw [List.take_succ_eq_append_getElem hlt, widthG_append, ptAt_of ps k hlt]; simp [widthG])
      rw [← ptAt_of ps k hlt] at hw
      clear hps
      generalize ptAt ps k = p at *
      generalize widthG (ps.take k) = s at *
      have hb2 := hbel.alloc hbel.size (.cells #[.pointer (some ⟨g, p.i * 11, none⟩), .int .i64 p.i, .string p.t, .int .i64 p.w, .bool p.last] 96)
      go_wp2_with fail
      go_roundw
      case rel => exact ⟨k + 1, by omega, by go_num, by rw [HN.out], by rw [HN.out]; omega, by rw [HN.out]; omega, hb2⟩
      case measure => simp only [intOf]; omega
    · obtain rfl : k = ps.length := by omega
      go_wp2_with fail
      go_ret
      exact ⟨ret_int (by rw [List.take_length]), hbel⟩
end Go.Proofs.YtadlabndbomgmaaDoor
