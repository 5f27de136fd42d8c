/- Walks of the package raster: rectangles. -/
import Derived.BigQuiet
import Derived.Handy
import Derived.IntWalk
import Derived.Deep.QuietTactic
import Derived.Deep.MidRow
import Derived.Deep.RegionHeld3
import Derived.Test.YtbpkffoooieejaaFix
import Derived.Test.YtbpkffoooieejaaKitT
import Derived.Test.YtbpkffoooieejaaGlyphPlain
namespace Go.Proofs.Ytbpkffoooieejaa
open Go.ChangeShapes Go.WideShapes Go.ChangeAt Go.RowKit
/-- A rectangle's cells. -/
def rcA (r : Rc) : Array Value := #[.int .i64 r.x, .int .i64 r.y, .int .i64 r.w, .int .i64 r.h]
theorem rc_u : Try.prog.underlying 36 = some (.struct (Try.prog.fieldsOf 36)) := by kernel_rfl
theorem rc_i (r : Rc) : (Try.prog.info? 36).map (·.size) = some (rcA r).size := by kernel_rfl
def Tame (n : Int) : Prop := -1000000000000 ≤ n ∧ n ≤ 1000000000000
set_option maxHeartbeats 1000000 in
theorem within_any (r : Rc) (x y : Int) (w : World) (hx : Tame x) (hy : Tame y) (hrx : Tame r.x) (hry : Tame r.y) :
    Calls Try.prog 51 #[.agg #[.int .i64 r.x, .int .i64 r.y, .int .i64 r.w, .int .i64 r.h], .int .i64 x, .int .i64 y] w fun e w' => e = .returned (.bool (inR r x y)) ∧ Below w.heap.size w w' := by
  unfold Tame at *
  have hk := hide (show inR r x y = (((decide (r.x ≤ x) && decide (x - r.x < r.w)) && decide (r.y ≤ y)) && decide (y - r.y < r.h)) from rfl)
  obtain ⟨rx, ry, rw_, rh⟩ := r
  dsimp only at hx hy hrx hry
  generalize hres : inR ⟨rx, ry, rw_, rh⟩ x y = res at *
  have hk2 : Hid (res = (((decide (rx ≤ x) && decide (x - rx < rw_)) && decide (ry ≤ y)) && decide (y - ry < rh))) := hk
  clear hk hres
  cases h1 : decide (rx ≤ x) <;> cases h2 : decide (x - rx < rw_) <;> cases h3 : decide (ry ≤ y) <;> cases h4 : decide (y - ry < rh)
  all_goals
    have hr := hide (hk2.out.trans (by rw [h1, h2, h3, h4]))
    clear hk2
    go_enter Try.func51, Try.ntmps51
    go_wp2_with fail
    go_ret
    exact ⟨ret_bool (by rw [hr.out]; rfl), by go_grown⟩
theorem all_any (w : World) : Calls Try.prog 42 #[] w fun e w' => e = .returned (.agg (rcA allR)) ∧ Below w.heap.size w w' := by
  go_enter Try.func42, Try.ntmps42
  go_wp2_with fail
  refine bodyPost_ret (results_cell_row rfl _ _ w.heap.size 36 (rcA allR) (0, 0) _ rfl (Blk.new w _ _) rc_u rfl (rc_i _)) rfl ?_
  exact ⟨rfl, by go_grown⟩
theorem rcA_one (r : Rc) : (rcA r).all (·.oneCell') = true := by rw [← Array.all_toList]; rfl
theorem Blk4 {w : World} {g : Nat} {t : TypeId} {a b c d : Value} (h : Blk w g t #[a, b, c, d]) (a' b' c' d' : Value) : Blk ((((w.setCell ⟨g, 0, none⟩ a').setCell ⟨g, 1, none⟩ b').setCell ⟨g, 2, none⟩ c').setCell ⟨g, 3, none⟩ d') g t #[a', b', c', d'] :=
  (((h.set_ 0 a').set_ 1 b').set_ 2 c').set_ 3 d'
set_option maxRecDepth 100000 in
set_option maxHeartbeats 1000000 in
theorem rect_any (c : Cm) (w : World) : Calls Try.prog 44 #[.agg #[.int .i64 c.do_, .int .i64 c.node, .int .i64 c.x, .int .i64 c.y, .int .i64 c.w, .int .i64 c.h, .int .i64 c.c, .int .i64 c.n, .string c.t]] w fun e w' => e = .returned (.agg (rcA (rectC c))) ∧ Below w.heap.size w w' := by
  have HL := hide (show rcA (rectC c) = #[.int .i64 (cut c.x), .int .i64 (cut c.y), .int .i64 (cut c.w), .int .i64 (cut c.h)] from rfl)
  obtain ⟨m1, m2, m3, m4, m5, m6, m7, m8, m9⟩ := c
  dsimp only at HL ⊢
  go_enter Try.func44, Try.ntmps44
  go_wp2_with fail
  have q := (Blk.new w 43 #[.int .i64 m1, .int .i64 m2, .int .i64 m3, .int .i64 m4, .int .i64 m5, .int .i64 m6, .int .i64 m7, .int .i64 m8, .string m9]).alloc (.cells #[.int .i64 0, .int .i64 0, .int .i64 0, .int .i64 0] 36)
  have q2 := Blk.new (w.alloc (.cells #[.int .i64 m1, .int .i64 m2, .int .i64 m3, .int .i64 m4, .int .i64 m5, .int .i64 m6, .int .i64 m7, .int .i64 m8, .string m9] 43)) 36 #[.int .i64 0, .int .i64 0, .int .i64 0, .int .i64 0]
  rw [show (w.alloc (.cells #[.int .i64 m1, .int .i64 m2, .int .i64 m3, .int .i64 m4, .int .i64 m5, .int .i64 m6, .int .i64 m7, .int .i64 m8, .string m9] 43)).heap.size = w.heap.size + 1 by simp] at q2
  have hb : Below w.heap.size w ((w.alloc (.cells #[.int .i64 m1, .int .i64 m2, .int .i64 m3, .int .i64 m4, .int .i64 m5, .int .i64 m6, .int .i64 m7, .int .i64 m8, .string m9] 43)).alloc (.cells #[.int .i64 0, .int .i64 0, .int .i64 0, .int .i64 0] 36)) := by go_grown
  have Q := hide q
  have Q2 := hide q2
  clear q q2
  generalize (w.alloc (.cells #[.int .i64 m1, .int .i64 m2, .int .i64 m3, .int .i64 m4, .int .i64 m5, .int .i64 m6, .int .i64 m7, .int .i64 m8, .string m9] 43)).alloc (.cells #[.int .i64 0, .int .i64 0, .int .i64 0, .int .i64 0] 36) = wA at *
  have c2 : wA.cell? ⟨w.heap.size, 2, none⟩ = some (.int .i64 m3) := Q.out.cell 2
  have c3 : wA.cell? ⟨w.heap.size, 3, none⟩ = some (.int .i64 m4) := Q.out.cell 3
  have c4 : wA.cell? ⟨w.heap.size, 4, none⟩ = some (.int .i64 m5) := Q.out.cell 4
  have c5 : wA.cell? ⟨w.heap.size, 5, none⟩ = some (.int .i64 m6) := Q.out.cell 5
  have b0 : wA.cell? ⟨w.heap.size + 1, 0, none⟩ = some (.int .i64 0) := Q2.out.cell 0
  have b1 : wA.cell? ⟨w.heap.size + 1, 1, none⟩ = some (.int .i64 0) := Q2.out.cell 1
  have b2 : wA.cell? ⟨w.heap.size + 1, 2, none⟩ = some (.int .i64 0) := Q2.out.cell 2
  have b3 : wA.cell? ⟨w.heap.size + 1, 3, none⟩ = some (.int .i64 0) := Q2.out.cell 3
  have z0 : wA.frozen? ⟨w.heap.size + 1, 0, none⟩ = false := Q2.out.frozen _
  have z1 : wA.frozen? ⟨w.heap.size + 1, 1, none⟩ = false := Q2.out.frozen _
  have z2 : wA.frozen? ⟨w.heap.size + 1, 2, none⟩ = false := Q2.out.frozen _
  have z3 : wA.frozen? ⟨w.heap.size + 1, 3, none⟩ = false := Q2.out.frozen _
  go_region_held3 (fun W => W.cell? ⟨w.heap.size, 2, none⟩ = some (.int .i64 m3) ∧ W.cell? ⟨w.heap.size, 3, none⟩ = some (.int .i64 m4) ∧ W.cell? ⟨w.heap.size, 4, none⟩ = some (.int .i64 m5) ∧ W.cell? ⟨w.heap.size, 5, none⟩ = some (.int .i64 m6)) (first | exact ⟨c2, c3, c4, c5⟩ | go_keep) (first | (go_at_call 36; refine (cut_any _ _).mono ?_; rintro e w' ⟨rfl, rfl⟩))
  have hB := Blk4 Q2.out (.int .i64 (cut m3)) (.int .i64 (cut m4)) (.int .i64 (cut m5)) (.int .i64 (cut m6))
  have hb2 := below_drewN ((((hb.setCell (p := ⟨w.heap.size + 1, 0, none⟩) (by simp) (.int .i64 (cut m3))).setCell (p := ⟨w.heap.size + 1, 1, none⟩) (by simp) (.int .i64 (cut m4))).setCell (p := ⟨w.heap.size + 1, 2, none⟩) (by simp) (.int .i64 (cut m5))).setCell (p := ⟨w.heap.size + 1, 3, none⟩) (by simp) (.int .i64 (cut m6))) 1
  clear b0 b1 b2 b3 z0 z1 z2 z3 c2 c3 c4 c5 Q Q2 hb
  go_wp2_with fail
  refine bodyPost_ret (results_cell_row rfl _ _ (w.heap.size + 1) 36 (rcA (rectC ⟨m1, m2, m3, m4, m5, m6, m7, m8, m9⟩)) (0, 0) _ rfl (by rw [HL.out]; exact hB.drew) rc_u rfl (rc_i _)) rfl ?_
  exact ⟨rfl, hb2⟩
set_option maxRecDepth 100000 in
set_option maxHeartbeats 1000000 in
theorem meet_any (a b : Rc) (w : World) (h1 : Tame a.x ∧ Tame a.y ∧ Tame a.w ∧ Tame a.h) (h2 : Tame b.x ∧ Tame b.y ∧ Tame b.w ∧ Tame b.h) :
    Calls Try.prog 43 #[.agg #[.int .i64 a.x, .int .i64 a.y, .int .i64 a.w, .int .i64 a.h], .agg #[.int .i64 b.x, .int .i64 b.y, .int .i64 b.w, .int .i64 b.h]] w fun e w' => e = .returned (.agg (rcA (meetR a b))) ∧ Below w.heap.size w w' := by
  unfold Tame at *
  have HM := hide (show meetR a b = if min (a.x + a.w) (b.x + b.w) - max a.x b.x ≤ 0 ∨ min (a.y + a.h) (b.y + b.h) - max a.y b.y ≤ 0 then rc0 else ⟨max a.x b.x, max a.y b.y, min (a.x + a.w) (b.x + b.w) - max a.x b.x, min (a.y + a.h) (b.y + b.h) - max a.y b.y⟩ from rfl)
  obtain ⟨ax, ay, aw, ah⟩ := a
  obtain ⟨bx, by_, bw, bh⟩ := b
  dsimp only at h1 h2 HM ⊢
  generalize meetR ⟨ax, ay, aw, ah⟩ ⟨bx, by_, bw, bh⟩ = M at *
  go_enter Try.func43, Try.ntmps43
  go_wp2_with fail
  go_quiet (fail)
  rename Nat => nq1
  go_wp2_with fail
  go_quiet (fail)
  rename Nat => nq2
  have q0 := Blk.new ((w.alloc (.cells #[.int .i64 ax, .int .i64 ay, .int .i64 aw, .int .i64 ah] 36)).alloc (.cells #[.int .i64 bx, .int .i64 by_, .int .i64 bw, .int .i64 bh] 36)) 36 #[.int .i64 0, .int .i64 0, .int .i64 0, .int .i64 0]
  rw [show ((w.alloc (.cells #[.int .i64 ax, .int .i64 ay, .int .i64 aw, .int .i64 ah] 36)).alloc (.cells #[.int .i64 bx, .int .i64 by_, .int .i64 bw, .int .i64 bh] 36)).heap.size = w.heap.size + 1 + 1 by simp] at q0
  have Q := hide ((q0.drewN nq1).drewN nq2)
  have hb : Below w.heap.size w (((((w.alloc (.cells #[.int .i64 ax, .int .i64 ay, .int .i64 aw, .int .i64 ah] 36)).alloc (.cells #[.int .i64 bx, .int .i64 by_, .int .i64 bw, .int .i64 bh] 36)).alloc (.cells #[.int .i64 0, .int .i64 0, .int .i64 0, .int .i64 0] 36)).drewN nq1).drewN nq2) := below_drewN (below_drewN (by go_grown) _) _
  clear q0
  generalize ((((w.alloc (.cells #[.int .i64 ax, .int .i64 ay, .int .i64 aw, .int .i64 ah] 36)).alloc (.cells #[.int .i64 bx, .int .i64 by_, .int .i64 bw, .int .i64 bh] 36)).alloc (.cells #[.int .i64 0, .int .i64 0, .int .i64 0, .int .i64 0] 36)).drewN nq1).drewN nq2 = wC at *
  generalize min (ax + aw) (bx + bw) - max ax bx = mw at *
  generalize min (ay + ah) (by_ + bh) - max ay by_ = mh at *
  generalize max ax bx = mx at *
  generalize max ay by_ = my at *
  have HI := hide (rc_i rc0)
  have HI2 := hide (rc_i ⟨mx, my, mw, mh⟩)
  by_cases c1 : mw ≤ 0
  · have HR := hide (HM.out.trans (if_pos (.inl c1)))
    clear HM
    go_wp2_with (first | (refine wpList_store_blk rfl 36 _ _ rfl (w.heap.size + 1 + 1) 36 _ (rcA rc0) rfl rfl Q.out rfl HI.out (rcA_one _) ?_; intro w9 hB9 hg9; have HB9 := hide hB9; clear hB9) | fail)
    refine bodyPost_ret (results_cell_row rfl _ _ (w.heap.size + 1 + 1) 36 (rcA M) (0, 0) _ rfl (by rw [HR.out]; exact HB9.out) rc_u rfl (rc_i _)) rfl ?_
    exact ⟨rfl, below_grown hb (Nat.le_refl _) hg9 (by omega)⟩
  · by_cases c2 : mh ≤ 0
    · have HR := hide (HM.out.trans (if_pos (.inr c2)))
      clear HM
      go_wp2_with (first | (refine wpList_store_blk rfl 36 _ _ rfl (w.heap.size + 1 + 1) 36 _ (rcA rc0) rfl rfl Q.out rfl HI.out (rcA_one _) ?_; intro w9 hB9 hg9; have HB9 := hide hB9; clear hB9) | fail)
      refine bodyPost_ret (results_cell_row rfl _ _ (w.heap.size + 1 + 1) 36 (rcA M) (0, 0) _ rfl (by rw [HR.out]; exact HB9.out) rc_u rfl (rc_i _)) rfl ?_
      exact ⟨rfl, below_grown hb (Nat.le_refl _) hg9 (by omega)⟩
    · have HR := hide (HM.out.trans (if_neg (by omega)))
      clear HM
      go_wp2_with (first | (refine wpList_store_blk rfl 36 _ _ rfl (w.heap.size + 1 + 1) 36 _ (rcA ⟨mx, my, mw, mh⟩) rfl rfl Q.out rfl HI2.out (rcA_one _) ?_; intro w9 hB9 hg9; have HB9 := hide hB9; clear hB9) | fail)
      refine bodyPost_ret (results_cell_row rfl _ _ (w.heap.size + 1 + 1) 36 (rcA M) (0, 0) _ rfl (by rw [HR.out]; exact HB9.out) rc_u rfl (rc_i _)) rfl ?_
      exact ⟨rfl, below_grown hb (Nat.le_refl _) hg9 (by omega)⟩
end Go.Proofs.Ytbpkffoooieejaa
