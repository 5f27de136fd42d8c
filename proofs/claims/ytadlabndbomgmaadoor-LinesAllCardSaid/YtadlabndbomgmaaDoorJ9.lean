/- Parts of the proof, joined: BrkNew. -/
import Derived.BigQuiet
import Derived.Handy
import Derived.IntWalk
import Derived.RegionTactic
import Derived.Deep.MidRow
import Derived.Test.YtadlabndbomgmaaDoorJLined
import Derived.Test.YtadlabndbomgmaaDoorJ2
set_option linter.unusedVariables false
set_option linter.unusedSimpArgs false
/- Break of one text, behind floats just made, wherever both lie. -/
namespace Go.Proofs.YtadlabndbomgmaaDoor
open Go.ChangeShapes Go.WideShapes Go.ChangeAt Go.RowKit
theorem New_blk (width : Int) (w : World) :
    Calls Tryd.prog 20 #[.int .i64 width] w fun e w' => e = .returned (.pointer (some ⟨w.heap.size, 0, none⟩)) ∧ Blk w' w.heap.size 89 #[.int .i64 (max 0 (cut width)), .slice none 0 0] ∧ Below w.heap.size w w' := by
  go_enter Tryd.func20, Tryd.ntmps20
  go_wp2_with (go_at_call 13; refine (cut_any _ _).mono ?_; rintro e w' ⟨rfl, rfl⟩)
  go_ret
  exact ⟨rfl, Blk.new w _ _, (Below.refl _ _).alloc (Nat.le_refl _) _⟩
theorem break_fp (xs : List It) (g c : Nat) (A : Option Addr) (W y size height al : Int) (w : World) (fp B : Nat) (hA : 0 < xs.length → A = some ⟨g, 0, none⟩) (hI : ItsR w g xs) (hok : ItsOk xs) (hx : ∀ x ∈ xs, x.kind ≠ 5) (hg : 0 < xs.length → g ≠ fp)
    (hf : Blk w fp 89 #[.int .i64 W, .slice none 0 0]) (hB : B ≤ fp) (hW : 0 ≤ W ∧ W ≤ 16777216) :
    Calls Tryd.prog 19 #[.slice A xs.length c, .pointer (some ⟨fp, 0, none⟩), .int .i64 y, .int .i64 size, .int .i64 height, .int .i64 0, .int .i64 al] w fun e w' => ∃ v, e = .returned v ∧ LinesAt w' 0 v (breakF xs (max 0 (cut size)) (max 0 (cut height)) al W (cut y)) ∧ Below B w w' := by
  have hfp := hf.lt
  refine (break_any xs g c A fp W y size height 0 al (.slice none 0 0) w hA hI hok (fun h0 => ⟨hg h0, fun e => by cases e⟩) hf (own_none _ _ _ _) hW).mono ?_
  rintro e w' ⟨v, out, rfl, hb, hl, hk⟩
  have e0 : cut 0 = 0 := by decide
  rw [e0] at hb
  rw [break_sim hx hb] at hl
  exact ⟨v, rfl, hl, hk.below fun k hk => ⟨by omega, by omega, fun e => by cases e⟩⟩
theorem oneIt_blk {w : World} {g : Nat} {t : TypeId} {s : ByteArray} {z : Int} (h : Blk w g t #[.int .i64 1, .int .i64 0, .string s, .int .i64 z, .int .i64 0, .int .i64 10, .int .i64 0, .int .i64 0, .int .i64 0, .int .i64 0, .int .i64 0]) : ItsR w g [oneIt s z] := by
  refine ⟨fun k hk j hj => ?_, fun _ => h.lt⟩
  have hk0 : k = 0 := by simp only [List.length_singleton] at hk; omega
  subst hk0
  rw [Nat.zero_mul, Nat.zero_add, h.cell, ← Array.getElem?_toList]
  rfl
theorem LinesAt.slice {w : World} {B : Nat} {v : Value} {out : List Ln} (h : LinesAt w B v out) : ∃ A c, v = .slice A out.length c := by
  obtain ⟨qs, e1, e2, _⟩ := h
  obtain ⟨A, c, hv, _, _⟩ := own_reads e2
  exact ⟨A, c, hv⟩
/-- Break of one text. -/
theorem break_text (s : ByteArray) (z al W : Int) (hs : s.size ≤ 200) (hz : 0 ≤ z ∧ z ≤ 255) (hW : 0 ≤ W ∧ W ≤ 65535) (g fp B c : Nat) (w : World) (hI : ItsR w g [oneIt s z]) (hg : g ≠ fp) (hf : Blk w fp 89 #[.int .i64 W, .slice none 0 0]) (hB : B ≤ fp) :
    Calls Tryd.prog 19 #[.slice (some ⟨g, 0, none⟩) 1 c, .pointer (some ⟨fp, 0, none⟩), .int .i64 0, .int .i64 z, .int .i64 10, .int .i64 0, .int .i64 al] w fun e w' => ∃ v, e = .returned v ∧ LinesAt w' 0 v (breakF [oneIt s z] z 10 al W 0) ∧ Below B w w' := by
  have h := break_fp [oneIt s z] g c (some ⟨g, 0, none⟩) W 0 z 10 al w fp B (fun _ => rfl) hI (one_ok s z hs hz) (fun x hx => by obtain rfl : x = oneIt s z := (by simpa using hx); exact (by decide : (1 : Int) ≠ 5)) (fun _ => hg) hf hB (by omega)
  have e1 : max 0 (cut z) = z := by unfold cut; omega
  have e2 : max 0 (cut 10) = 10 := by decide
  have e3 : cut 0 = 0 := by decide
  rw [e1, e2, e3] at h
  exact h
theorem cutW (W : Int) (h : 0 ≤ W ∧ W ≤ 65535) : max 0 (cut W) = W := by unfold cut; omega
end Go.Proofs.YtadlabndbomgmaaDoor
