/- The walks of breaker.float, breaker.ends, breaker.begin on the breaker's state. -/
import Derived.BigQuiet
import Derived.Handy
import Derived.IntWalk
import Derived.RegionTactic
import Derived.Deep.MidRow
import Derived.Deep.RegionHeld3
import Derived.Test.YtadlabndbomgmaaDoorJPlaceK
import Derived.Test.YtadlabndbomgmaaDoorJ2
import Derived.Test.YtadlabndbomgmaaDoorJCleanG
set_option linter.unusedVariables false
set_option linter.unusedSimpArgs false
namespace Go.Proofs.YtadlabndbomgmaaDoor
open Go.ChangeShapes Go.WideShapes Go.ChangeAt Go.RowKit
theorem placed_x {W : Int} {fs : List Fl} {side y wd h M x y' : Int} (p : Placed W fs side y wd h M x y') (hW : 0 ≤ W ∧ W ≤ 16777216) (hw : 0 ≤ wd ∧ wd ≤ 65535) (hs : side = 1 ∨ side = 2) : -16777216 ≤ x ∧ x ≤ 16777216 := by
  obtain ⟨e1, e2⟩ := edgesF_bd W y' h fs
  have ha := p.at_
  rcases p.room with hm | hr
  · obtain ⟨_, he⟩ := edgesF_not hm
    rw [he] at ha
    rcases hs with rfl | rfl <;> simp at ha <;> omega
  · rcases hs with rfl | rfl
    · simp at ha; omega
    · simp at ha; omega
theorem fsOk_snoc {W : Int} {fs : List Fl} {side y wd h M x y' : Int} (hf : FsOk fs) (hl : fs.length < 200) (p : Placed W fs side y wd h M x y') (hM : M = 16777216 + 65535 * (fs.length : Int)) (hW : 0 ≤ W ∧ W ≤ 16777216) (hy : -16777216 ≤ y) (hw : 0 ≤ wd ∧ wd ≤ 65535) (hh : 0 ≤ h ∧ h ≤ 65535) (hs : side = 1 ∨ side = 2) : FsOk (fs ++ [⟨x, y', wd, h, side⟩]) := by
  have hx := placed_x (x := x) (y' := y') p hW hw hs
  have h1 := p.low
  have h2 := p.high
  obtain ⟨_, hf2⟩ := hf
  refine ⟨by rw [List.length_append, List.length_singleton]; omega, fun f hfm => ?_⟩
  have e : ((fs ++ [(⟨x, y', wd, h, side⟩ : Fl)]).length : Int) = (fs.length : Int) + 1 := by simp
  rw [e]
  rcases List.mem_append.1 hfm with hfm | hfm
  · have := hf2 f hfm
    exact ⟨this.1, by omega⟩
  · obtain rfl : f = ⟨x, y', wd, h, side⟩ := by simpa using hfm
    unfold FlBd
    simp only
    omega
theorem PlaceR_any (b : Nat) (side y wd h W : Int) (fs : List Fl) (Fv : Value) (w : World) (hb : Blk w b 89 #[.int .i64 W, Fv]) (hown : w.ownsRow 0 153 5 Fv fs.length (flCells fs)) (hf : FsOk fs) (hW : 0 ≤ W ∧ W ≤ 16777216) (hw : 0 ≤ wd ∧ wd ≤ 65535) (hh : 0 ≤ h ∧ h ≤ 65535) :
    Calls Tryd.prog 63 #[.pointer (some ⟨b, 0, none⟩), .int .i64 side, .int .i64 y, .int .i64 wd, .int .i64 h] w fun e w' =>
      ∃ r fs' Fv', e = .returned r ∧ FsOk fs' ∧ Blk w' b 89 #[.int .i64 W, Fv'] ∧ w'.ownsRow 0 153 5 Fv' fs'.length (flCells fs') ∧ Only (fun k => k = b ∨ Fv.ownBlock = some k) w w' ∧ (∀ k, Fv'.ownBlock = some k → Fv.ownBlock = some k ∨ w.heap.size ≤ k) := by
  have hy1 := cut_lo y
  have hy2 := cut_hi y
  by_cases hs : (side = 1 ∨ side = 2) ∧ fs.length < 200
  · have e1 : max 0 (cut wd) = wd := by unfold cut; omega
    have e2 : max 0 (cut h) = h := by unfold cut; omega
    refine (PlaceK_any b side y wd h W (16777216 + 65535 * (fs.length : Int)) fs Fv w hb hown hs.2 hs.1 (by omega) (by omega) (by omega) (by omega) hf.2).mono ?_
    rintro e w' ⟨x, y', Fv', rfl, h1, h2, h3, h4, h5⟩
    rw [e1, e2] at h2 h5
    exact ⟨_, _, Fv', rfl, fsOk_snoc hf hs.2 h5 rfl hW hy1 hw hh hs.1, h1, by rw [List.length_append]; exact h2, h3, h4⟩
  · have hl := hf.1
    refine (PlaceE_any b side y wd h W fs Fv w hb hown ?_).mono ?_
    · by_cases h1 : side = 1 ∨ side = 2
      · right
        have : ¬ fs.length < 200 := fun h2 => hs ⟨h1, h2⟩
        omega
      · exact .inl h1
    · rintro e w' ⟨r, rfl, hbl⟩
      exact ⟨_, fs, Fv, rfl, hf, hb.below hbl hb.lt, own_keep hown hbl (own_lt hown), Only.of_below hbl, fun k hk => .inl hk⟩
set_option maxRecDepth 100000 in
set_option maxHeartbeats 4000000 in
theorem bfloat_any (xs : List It) (g : Nat) (p : Pt) (K : Nat → Prop) (b fp : Nat) (W sz ht al : Int) (st : BG) (Lv Tv Ov Fv : Value) (w : World) (hI : ItsR w g xs) (hi : p.i < xs.length) (hx : ∀ k, ItOk (itAt xs k)) (h : BrV w K b fp g W sz ht al st Lv Tv Ov Fv) (hf : FsOk st.fs) (hW : 0 ≤ W ∧ W ≤ 16777216) :
    Calls Tryd.prog 40 #[.pointer (some ⟨b, 0, none⟩), .agg #[.pointer (some ⟨g, p.i * 11, none⟩), .int .i64 p.i, .string p.t, .int .i64 p.w, .bool p.last]] w fun e w' =>
      e = .returned (.tuple #[]) ∧ ∃ fs' Fv', FsOk fs' ∧ BrV w' K b fp g W sz ht al { st with fs := fs' } Lv Tv Ov Fv' ∧ Kept K w w' := by
  have HI := hide hI
  have HB := hide h
  have HF := hide hf
  have hxp := hx p.i
  unfold ItOk at hxp
  have hxp2 : (0 ≤ (itAt xs p.i).w ∧ (itAt xs p.i).w ≤ 65535) ∧ (0 ≤ (itAt xs p.i).h ∧ (itAt xs p.i).h ≤ 65535) := by omega
  clear hI h hf hx hxp
  go_enter Tryd.func40, Tryd.ntmps40
  go_wp2_with fail
  have hbel := (Below.refl w.heap.size w).alloc (Nat.le_refl _) (.cells #[.pointer (some ⟨g, p.i * 11, none⟩), .int .i64 p.i, .string p.t, .int .i64 p.w, .bool p.last] 96)
  have HBA := hide (HB.out.below hbel)
  have HIA := hide (HI.out.below hbel)
  have HX := hide (Blk.new w 96 #[.pointer (some ⟨g, p.i * 11, none⟩), .int .i64 p.i, .string p.t, .int .i64 p.w, .bool p.last])
  have HS := hide (show (w.alloc (.cells #[.pointer (some ⟨g, p.i * 11, none⟩), .int .i64 p.i, .string p.t, .int .i64 p.w, .bool p.last] 96)).drew.cell? ⟨b, 0, none⟩ = some (.pointer (some ⟨fp, 0, none⟩)) ∧ (w.alloc (.cells #[.pointer (some ⟨g, p.i * 11, none⟩), .int .i64 p.i, .string p.t, .int .i64 p.w, .bool p.last] 96)).drew.cell? ⟨b, 1, none⟩ = some (.int .i64 st.y) ∧ (w.alloc (.cells #[.pointer (some ⟨g, p.i * 11, none⟩), .int .i64 p.i, .string p.t, .int .i64 p.w, .bool p.last] 96)).drew.cell? ⟨w.heap.size, 0, none⟩ = some (.pointer (some ⟨g, p.i * 11, none⟩)) ∧ (w.alloc (.cells #[.pointer (some ⟨g, p.i * 11, none⟩), .int .i64 p.i, .string p.t, .int .i64 p.w, .bool p.last] 96)).drew.cell? ⟨g, p.i * 11 + 10, none⟩ = some (.int .i64 (itAt xs p.i).side) ∧ (w.alloc (.cells #[.pointer (some ⟨g, p.i * 11, none⟩), .int .i64 p.i, .string p.t, .int .i64 p.w, .bool p.last] 96)).drew.cell? ⟨g, p.i * 11 + 8, none⟩ = some (.int .i64 (itAt xs p.i).w) ∧ (w.alloc (.cells #[.pointer (some ⟨g, p.i * 11, none⟩), .int .i64 p.i, .string p.t, .int .i64 p.w, .bool p.last] 96)).drew.cell? ⟨g, p.i * 11 + 9, none⟩ = some (.int .i64 (itAt xs p.i).h) from ⟨HBA.out.blk.cell 0, HBA.out.blk.cell 1, HX.out.cell 0, HIA.out.1 p.i hi 10 (by omega), HIA.out.1 p.i hi 8 (by omega), HIA.out.1 p.i hi 9 (by omega)⟩)
  have HBD := hide (HBA.out.below ((Below.refl _ _).drew))
  refine wp_region_KL (k := 23) 24 #[false, false, false, false, false, false, false, false, false, false, false, false, false, false, false, false, false, false, false, false, false, false, false, false] (by kernel_rfl) (by kernel_rfl) (S := fun Z => Z.cell? ⟨b, 0, none⟩ = some (.pointer (some ⟨fp, 0, none⟩)) ∧ Z.cell? ⟨b, 1, none⟩ = some (.int .i64 st.y) ∧ Z.cell? ⟨w.heap.size, 0, none⟩ = some (.pointer (some ⟨g, p.i * 11, none⟩)) ∧ Z.cell? ⟨g, p.i * 11 + 10, none⟩ = some (.int .i64 (itAt xs p.i).side) ∧ Z.cell? ⟨g, p.i * 11 + 8, none⟩ = some (.int .i64 (itAt xs p.i).w) ∧ Z.cell? ⟨g, p.i * 11 + 9, none⟩ = some (.int .i64 (itAt xs p.i).h)) (by kernel_rfl) HS.out (fun hHeld => ?_)
  have hd := hbel.drew
  generalize (w.alloc (.cells #[.pointer (some ⟨g, p.i * 11, none⟩), .int .i64 p.i, .string p.t, .int .i64 p.w, .bool p.last] 96)).drew = wB at *
  refine takeK (i := 0) (v := (Value.pointer (some ⟨b, 0, none⟩))) [1, 2, 3, 23] (some 4) rfl rfl rfl (by kernel_rfl) (by kernel_rfl) (by kernel_rfl) (by kernel_rfl) (fun _ _ _ h => h) (by rfl) (yieldsIf_move (by rfl) _ rfl _ rfl) hHeld ?_
  simp only [Act.put, List.setIfInBounds_toArray, List.set_cons_zero, List.set_cons_succ]
  refine takeK (i := 1) (v := (Value.pointer (some ⟨b, 0, none⟩))) [2, 3, 23] (some 5) rfl rfl rfl (by kernel_rfl) (by kernel_rfl) (by kernel_rfl) (by kernel_rfl) (fun _ _ _ h => h) (by rfl) (yieldsIf_nil (by rfl) _ rfl _ rfl) hHeld ?_
  simp only [Act.put, List.setIfInBounds_toArray, List.set_cons_zero, List.set_cons_succ]
  refine takeK (i := 2) (v := (Value.pointer (some ⟨b, 0, none⟩))) [3, 23] (some 6) rfl rfl rfl (by kernel_rfl) (by kernel_rfl) (by kernel_rfl) (by kernel_rfl) (fun _ _ _ h => h) (by rfl) (yieldsIf_faddr (by rfl) 81 _ 0 rfl _ _ 0 rfl (by kernel_rfl)) hHeld ?_
  simp only [Act.put, List.setIfInBounds_toArray, List.set_cons_zero, List.set_cons_succ]
  refine takeK (i := 3) (v := (Value.pointer (some ⟨fp, 0, none⟩))) [23] (some 7) rfl rfl rfl (by kernel_rfl) (by kernel_rfl) (by kernel_rfl) (by kernel_rfl) (fun _ _ _ h => h) (by rfl) (yieldsIf_load1 (by rfl) 46 _ rfl _ _ _ rfl (by kernel_rfl) (fun _ h => h.1)) hHeld ?_
  simp only [Act.put, List.setIfInBounds_toArray, List.set_cons_zero, List.set_cons_succ]
  refine takeK (i := 4) (v := (Value.pointer (some ⟨w.heap.size, 0, none⟩))) [5, 6, 7, 8, 23] (some 8) rfl rfl rfl (by kernel_rfl) (by kernel_rfl) (by kernel_rfl) (by kernel_rfl) (fun _ _ _ h => h) (by rfl) (yieldsIf_faddr (by rfl) 96 _ 0 rfl _ _ 0 rfl (by kernel_rfl)) hHeld ?_
  simp only [Act.put, List.setIfInBounds_toArray, List.set_cons_zero, List.set_cons_succ]
  refine takeK (i := 5) (v := (Value.pointer (some ⟨g, p.i * 11, none⟩))) [6, 7, 8, 23] (some 9) rfl rfl rfl (by kernel_rfl) (by kernel_rfl) (by kernel_rfl) (by kernel_rfl) (fun _ _ _ h => h) (by rfl) (yieldsIf_load1 (by rfl) 94 _ rfl _ _ _ rfl (by kernel_rfl) (fun _ h => h.2.2.1)) hHeld ?_
  simp only [Act.put, List.setIfInBounds_toArray, List.set_cons_zero, List.set_cons_succ]
  refine takeK (i := 6) (v := (Value.pointer (some ⟨g, p.i * 11, none⟩))) [7, 8, 23] (some 10) rfl rfl rfl (by kernel_rfl) (by kernel_rfl) (by kernel_rfl) (by kernel_rfl) (fun _ _ _ h => h) (by rfl) (yieldsIf_nil (by rfl) _ rfl _ rfl) hHeld ?_
  simp only [Act.put, List.setIfInBounds_toArray, List.set_cons_zero, List.set_cons_succ]
  refine takeK (i := 7) (v := (Value.pointer (some ⟨g, p.i * 11 + 10, none⟩))) [8, 23] (some 11) rfl rfl rfl (by kernel_rfl) (by kernel_rfl) (by kernel_rfl) (by kernel_rfl) (fun _ _ _ h => h) (by rfl) (yieldsIf_faddr (by rfl) 41 _ 10 rfl _ _ 10 rfl (by kernel_rfl)) hHeld ?_
  simp only [Act.put, List.setIfInBounds_toArray, List.set_cons_zero, List.set_cons_succ]
  refine takeK (i := 8) (v := (.int .i64 (itAt xs p.i).side)) [23] (some 12) rfl rfl rfl (by kernel_rfl) (by kernel_rfl) (by kernel_rfl) (by kernel_rfl) (fun _ _ _ h => h) (by rfl) (yieldsIf_load1 (by rfl) 3 _ rfl _ _ _ rfl (by kernel_rfl) (fun _ h => h.2.2.2.1)) hHeld ?_
  simp only [Act.put, List.setIfInBounds_toArray, List.set_cons_zero, List.set_cons_succ]
  refine takeK (i := 9) (v := (Value.pointer (some ⟨b, 0, none⟩))) [10, 11, 12, 23] (some 13) rfl rfl rfl (by kernel_rfl) (by kernel_rfl) (by kernel_rfl) (by kernel_rfl) (fun _ _ _ h => h) (by rfl) (yieldsIf_move (by rfl) _ rfl _ rfl) hHeld ?_
  simp only [Act.put, List.setIfInBounds_toArray, List.set_cons_zero, List.set_cons_succ]
  refine takeK (i := 10) (v := (Value.pointer (some ⟨b, 0, none⟩))) [11, 12, 23] (some 14) rfl rfl rfl (by kernel_rfl) (by kernel_rfl) (by kernel_rfl) (by kernel_rfl) (fun _ _ _ h => h) (by rfl) (yieldsIf_nil (by rfl) _ rfl _ rfl) hHeld ?_
  simp only [Act.put, List.setIfInBounds_toArray, List.set_cons_zero, List.set_cons_succ]
  refine takeK (i := 11) (v := (Value.pointer (some ⟨b, 1, none⟩))) [12, 23] (some 15) rfl rfl rfl (by kernel_rfl) (by kernel_rfl) (by kernel_rfl) (by kernel_rfl) (fun _ _ _ h => h) (by rfl) (yieldsIf_faddr (by rfl) 81 _ 1 rfl _ _ 1 rfl (by kernel_rfl)) hHeld ?_
  simp only [Act.put, List.setIfInBounds_toArray, List.set_cons_zero, List.set_cons_succ]
  refine takeK (i := 12) (v := (.int .i64 st.y)) [23] (some 16) rfl rfl rfl (by kernel_rfl) (by kernel_rfl) (by kernel_rfl) (by kernel_rfl) (fun _ _ _ h => h) (by rfl) (yieldsIf_load1 (by rfl) 3 _ rfl _ _ _ rfl (by kernel_rfl) (fun _ h => h.2.1)) hHeld ?_
  simp only [Act.put, List.setIfInBounds_toArray, List.set_cons_zero, List.set_cons_succ]
  refine takeK (i := 13) (v := (Value.pointer (some ⟨w.heap.size, 0, none⟩))) [14, 15, 16, 17, 23] (some 17) rfl rfl rfl (by kernel_rfl) (by kernel_rfl) (by kernel_rfl) (by kernel_rfl) (fun _ _ _ h => h) (by rfl) (yieldsIf_faddr (by rfl) 96 _ 0 rfl _ _ 0 rfl (by kernel_rfl)) hHeld ?_
  simp only [Act.put, List.setIfInBounds_toArray, List.set_cons_zero, List.set_cons_succ]
  refine takeK (i := 14) (v := (Value.pointer (some ⟨g, p.i * 11, none⟩))) [15, 16, 17, 23] (some 18) rfl rfl rfl (by kernel_rfl) (by kernel_rfl) (by kernel_rfl) (by kernel_rfl) (fun _ _ _ h => h) (by rfl) (yieldsIf_load1 (by rfl) 94 _ rfl _ _ _ rfl (by kernel_rfl) (fun _ h => h.2.2.1)) hHeld ?_
  simp only [Act.put, List.setIfInBounds_toArray, List.set_cons_zero, List.set_cons_succ]
  refine takeK (i := 15) (v := (Value.pointer (some ⟨g, p.i * 11, none⟩))) [16, 17, 23] (some 19) rfl rfl rfl (by kernel_rfl) (by kernel_rfl) (by kernel_rfl) (by kernel_rfl) (fun _ _ _ h => h) (by rfl) (yieldsIf_nil (by rfl) _ rfl _ rfl) hHeld ?_
  simp only [Act.put, List.setIfInBounds_toArray, List.set_cons_zero, List.set_cons_succ]
  refine takeK (i := 16) (v := (Value.pointer (some ⟨g, p.i * 11 + 8, none⟩))) [17, 23] (some 20) rfl rfl rfl (by kernel_rfl) (by kernel_rfl) (by kernel_rfl) (by kernel_rfl) (fun _ _ _ h => h) (by rfl) (yieldsIf_faddr (by rfl) 41 _ 8 rfl _ _ 8 rfl (by kernel_rfl)) hHeld ?_
  simp only [Act.put, List.setIfInBounds_toArray, List.set_cons_zero, List.set_cons_succ]
  refine takeK (i := 17) (v := (.int .i64 (itAt xs p.i).w)) [23] (some 21) rfl rfl rfl (by kernel_rfl) (by kernel_rfl) (by kernel_rfl) (by kernel_rfl) (fun _ _ _ h => h) (by rfl) (yieldsIf_load1 (by rfl) 3 _ rfl _ _ _ rfl (by kernel_rfl) (fun _ h => h.2.2.2.2.1)) hHeld ?_
  simp only [Act.put, List.setIfInBounds_toArray, List.set_cons_zero, List.set_cons_succ]
  refine takeK (i := 18) (v := (Value.pointer (some ⟨w.heap.size, 0, none⟩))) [19, 20, 21, 22, 23] (some 22) rfl rfl rfl (by kernel_rfl) (by kernel_rfl) (by kernel_rfl) (by kernel_rfl) (fun _ _ _ h => h) (by rfl) (yieldsIf_faddr (by rfl) 96 _ 0 rfl _ _ 0 rfl (by kernel_rfl)) hHeld ?_
  simp only [Act.put, List.setIfInBounds_toArray, List.set_cons_zero, List.set_cons_succ]
  refine takeK (i := 19) (v := (Value.pointer (some ⟨g, p.i * 11, none⟩))) [20, 21, 22, 23] (some 23) rfl rfl rfl (by kernel_rfl) (by kernel_rfl) (by kernel_rfl) (by kernel_rfl) (fun _ _ _ h => h) (by rfl) (yieldsIf_load1 (by rfl) 94 _ rfl _ _ _ rfl (by kernel_rfl) (fun _ h => h.2.2.1)) hHeld ?_
  simp only [Act.put, List.setIfInBounds_toArray, List.set_cons_zero, List.set_cons_succ]
  refine takeK (i := 20) (v := (Value.pointer (some ⟨g, p.i * 11, none⟩))) [21, 22, 23] (some 24) rfl rfl rfl (by kernel_rfl) (by kernel_rfl) (by kernel_rfl) (by kernel_rfl) (fun _ _ _ h => h) (by rfl) (yieldsIf_nil (by rfl) _ rfl _ rfl) hHeld ?_
  simp only [Act.put, List.setIfInBounds_toArray, List.set_cons_zero, List.set_cons_succ]
  refine takeK (i := 21) (v := (Value.pointer (some ⟨g, p.i * 11 + 9, none⟩))) [22, 23] (some 25) rfl rfl rfl (by kernel_rfl) (by kernel_rfl) (by kernel_rfl) (by kernel_rfl) (fun _ _ _ h => h) (by rfl) (yieldsIf_faddr (by rfl) 41 _ 9 rfl _ _ 9 rfl (by kernel_rfl)) hHeld ?_
  simp only [Act.put, List.setIfInBounds_toArray, List.set_cons_zero, List.set_cons_succ]
  refine takeK (i := 22) (v := (.int .i64 (itAt xs p.i).h)) [23] (some 26) rfl rfl rfl (by kernel_rfl) (by kernel_rfl) (by kernel_rfl) (by kernel_rfl) (fun _ _ _ h => h) (by rfl) (yieldsIf_load1 (by rfl) 3 _ rfl _ _ _ rfl (by kernel_rfl) (fun _ h => h.2.2.2.2.2)) hHeld ?_
  simp only [Act.put, List.setIfInBounds_toArray, List.set_cons_zero, List.set_cons_succ]
  refine exitK (by kernel_rfl) ?_
  refine callH (j := 23) (by kernel_rfl) rfl rfl (some 27) rfl 63 #[.pointer (some ⟨fp, 0, none⟩), .int .i64 (itAt xs p.i).side, .int .i64 st.y, .int .i64 (itAt xs p.i).w, .int .i64 (itAt xs p.i).h] (run_enter Tryd.func63 (by kernel_rfl) (by kernel_rfl) _ _ rfl #[.pointer (some ⟨fp, 0, none⟩), .int .i64 (itAt xs p.i).side, .int .i64 st.y, .int .i64 (itAt xs p.i).w, .int .i64 (itAt xs p.i).h] (by kernel_rfl) _) (PlaceR_any fp _ _ _ _ W st.fs Fv wB HBD.out.flo HBD.out.fls HF.out hW hxp2.1 hxp2.2) ?_
  rintro e w5 ⟨r, fs', Fv', rfl, hf', hb', ho', hon, hn⟩
  refine ⟨r, rfl, trivial, ?_⟩
  simp only [Act.put, List.setIfInBounds_toArray, List.set_cons_zero, List.set_cons_succ]
  have HB5 := hide (HBD.out.f_set hb' ho' hon hn)
  have HK5 := hide ((Kept.of_below hd HB.out.kk).trans (HBD.out.kept_f hon))
  have HF5 := hide hf'
  clear hHeld HS HBD HBA HIA HX HB HI HF hf' hb' ho' hon hn hd hbel
  refine wpAnyH_done (by kernel_rfl) ?_ _
  go_wp2_with fail
  go_end0
  exact ⟨rfl, fs', Fv', HF5.out, HB5.out, HK5.out⟩
theorem PtsAt.row0 {w : World} {g h : Nat} {ps : List Pt} (hp : PtsAt w g h 0 ps) {k : Nat} (hk : k < ps.length) : w.cell? ⟨h, k * 5, none⟩ = some (.pointer (some ⟨g, (ptAt ps k).i * 11, none⟩)) ∧ w.cell? ⟨h, k * 5 + 1, none⟩ = some (.int .i64 (ptAt ps k).i) ∧ w.cell? ⟨h, k * 5 + 2, none⟩ = some (.string (ptAt ps k).t) ∧ w.cell? ⟨h, k * 5 + 3, none⟩ = some (.int .i64 (ptAt ps k).w) ∧ w.cell? ⟨h, k * 5 + 4, none⟩ = some (.bool (ptAt ps k).last) :=
  ⟨by have := hp k hk 0 (by omega); rw [Nat.zero_add] at this; exact this, by have := hp k hk 1 (by omega); rw [Nat.zero_add] at this; exact this, by have := hp k hk 2 (by omega); rw [Nat.zero_add] at this; exact this, by have := hp k hk 3 (by omega); rw [Nat.zero_add] at this; exact this, by have := hp k hk 4 (by omega); rw [Nat.zero_add] at this; exact this⟩
theorem ItsAt.kept {K : Nat → Prop} {w w' : World} {g : Nat} {xs : List It} (h : ItsAt w g xs) (k : Kept K w w') (hg : 0 < xs.length → K g) : ItsAt w' g xs := fun i hi j hj => by
  rw [World.cell?_of_block (w := w) (k.block g (hg (Nat.lt_of_le_of_lt (Nat.zero_le _) hi)))]
  exact h i hi j hj
theorem bendsV_any (g : Nat) (K : Nat → Prop) (b fp : Nat) (W sz ht al : Int) (st : BG) (Lv Tv Ov Fv : Value) (w : World) (h : BrV w K b fp g W sz ht al st Lv Tv Ov Fv) (hf : FsOk st.fs) (hW : 0 ≤ W ∧ W ≤ 16777216) (hi : -16777216 ≤ st.ind ∧ st.ind ≤ 16777216) :
    Calls Tryd.prog 41 #[.pointer (some ⟨b, 0, none⟩)] w fun e w' => e = .returned (.tuple #[]) ∧ BrV w' K b fp g W sz ht al (endsG ht W st) Lv Tv Ov Fv ∧ Kept K w w' :=
  (bends_any fp 0 b W st.y sz ht al st.ind st.left st.right Lv st.full Tv Ov st.fs w h.floats h.blk (by omega) hf.1 (fun f hfm => (hf.2 f hfm).1) hi).mono (by
    rintro e w' ⟨rfl, h1, h2⟩
    exact ⟨rfl, h.b_set (st' := endsG ht W st) h1 h2 (.inl ⟨rfl, rfl⟩) (.inl ⟨rfl, rfl⟩) rfl rfl, h.kept_b h2⟩)
set_option maxRecDepth 100000 in
set_option maxHeartbeats 4000000 in
theorem beginV_any (xs : List It) (g : Nat) (K : Nat → Prop) (b fp : Nat) (W sz ht al : Int) (st : BG) (Lv Tv Ov Fv : Value) (w : World) (hI : ItsR w g xs) (hg : 0 < xs.length → K g) (hx : ∀ k, ItOk (itAt xs k)) (h : BrV w K b fp g W sz ht al st Lv Tv Ov Fv) (hf : FsOk st.fs) (hW : 0 ≤ W ∧ W ≤ 16777216) (hi : -16777216 ≤ st.ind ∧ st.ind ≤ 16777216)
    (hl : ∀ p ∈ st.late, p.i < xs.length) (hll : st.late.length ≤ 100000) :
    Calls Tryd.prog 30 #[.pointer (some ⟨b, 0, none⟩)] w fun e w' => e = .returned (.tuple #[]) ∧ ∃ st' Fv', BeginR ht W st st' ∧ FsOk st'.fs ∧ BrV w' K b fp g W sz ht al st' (.slice none 0 0) (.slice none 0 0) Ov Fv' ∧ Kept K w w' := by
  obtain ⟨A, c, rfl, _, _⟩ := own_reads h.late
  have HI := hide hI
  have HB := hide h
  have HF := hide hf
  have HX := hide hx
  have HL := hide hl
  have HG := hide hg
  have c10 : w.cell? ⟨b, 10, none⟩ = some (.slice A st.late.length c) := h.blk.cell 10
  clear hI h hf hx hl hg
  go_enter Tryd.func30, Tryd.ntmps30
  go_wp2_with fail
  go_loopw [3, 9] (fun _ i wr => ∃ (k : Nat) (fs : List Fl) (Fw : Value), k ≤ st.late.length ∧ i = .int .i64 k ∧ FsOk fs ∧ (k = 0 → fs = st.fs) ∧ Hid (BrV wr K b fp g W sz ht al { st with fs := fs } Lv (.slice A st.late.length c) Ov Fw) ∧ Hid (Kept K w wr)) (fun _ i _ => st.late.length - (intOf i).toNat)
  case atStart => exact ⟨0, st.fs, Fv, Nat.zero_le _, rfl, HF.out, fun _ => rfl, HB.out, Kept.refl _ _⟩
  case round =>
    obtain ⟨k, fs, Fw, hk, rfl, hfs, hfs0, hbr, hkp⟩ := hrel
    by_cases hlt : k < st.late.length
    · obtain ⟨q, rfl, _, hql, hpt⟩ := pts_of_own hbr.out.late rfl (by omega)
      obtain ⟨d0, d1, d2, d3, d4⟩ := PtsAt.row0 hpt hlt
      have hpi := HL.out _ (List.getElem_mem hlt)
      rw [← ptAt_of st.late k hlt] at hpi
      generalize ptAt st.late k = p at *
      have hIr : ItsR wr g xs := ⟨HI.out.1.kept hkp.out HG.out, fun h0 => Nat.lt_of_lt_of_le (HI.out.2 h0) hkp.out.size⟩
      have hbel := (Below.refl wr.heap.size wr).alloc (Nat.le_refl _) (.cells #[.pointer (some ⟨g, p.i * 11, none⟩), .int .i64 p.i, .string p.t, .int .i64 p.w, .bool p.last] 96)
      have HC := hide (bfloat_any xs g p K b fp W sz ht al { st with fs := fs } Lv (.slice (some ⟨q, 0, none⟩) st.late.length c) Ov Fw _ (hIr.below hbel) hpi HX.out (hbr.out.below hbel) hfs hW)
      have HK2 := hide (hkp.out.trans (Kept.of_below hbel hbr.out.kk))
      clear hbr hkp hpt hIr hbel
      go_wp2_with fail
      refine HC.out.mono ?_
      rintro e w5 ⟨rfl, fs5, Fv5, hf5, hb5, hk5⟩
      have HB5 := hide hb5
      have HK5 := hide (HK2.out.trans hk5)
      clear hb5 hk5
      go_wp2_with fail
      go_roundw
      case rel => exact ⟨k + 1, fs5, Fv5, by omega, by go_num, hf5, fun h0 => by omega, HB5.out, HK5.out⟩
      case measure => simp only [intOf]; omega
    · obtain rfl : k = st.late.length := by omega
      have HBr := hide hbr.out
      have HKr := hide hkp.out
      have HFr := hide hfs
      have HF0 := hide hfs0
      clear hbr hkp hfs hfs0
      have r10 : wr.cell? ⟨b, 10, none⟩ = some (.slice A st.late.length c) := HBr.out.blk.cell 10
      have r8 : wr.cell? ⟨b, 8, none⟩ = some Lv := HBr.out.blk.cell 8
      have r9 : wr.cell? ⟨b, 9, none⟩ = some (.bool st.full) := HBr.out.blk.cell 9
      have z10 : wr.frozen? ⟨b, 10, none⟩ = false := HBr.out.blk.frozen 10
      have z8 : wr.frozen? ⟨b, 8, none⟩ = false := HBr.out.blk.frozen 8
      have z9 : wr.frozen? ⟨b, 9, none⟩ = false := HBr.out.blk.frozen 9
      have hg9 := only_setCell (p := ⟨b, 9, none⟩) (only_setCell (p := ⟨b, 8, none⟩) (only_setCell (p := ⟨b, 10, none⟩) (World.grownBy.refl wr (some b)) (.inl rfl) (.slice none 0 0)) (.inl rfl) (.slice none 0 0)) (.inl rfl) (.bool false)
      have HB9 := hide (HBr.out.b_set (st' := { st with fs := fs, line := [], full := false, late := [] }) (Lv' := .slice none 0 0) (Tv' := .slice none 0 0) (((HBr.out.blk.set_ 10 (.slice none 0 0)).set_ 8 (.slice none 0 0)).set_ 9 (.bool false)) hg9 (.inr ⟨rfl, rfl⟩) (.inr ⟨rfl, rfl⟩) rfl rfl)
      have HK9 := hide (HKr.out.trans (HBr.out.kept_b hg9))
      have HE := hide (bendsV_any g K b fp W sz ht al _ _ _ Ov Fw _ HB9.out HFr.out hW hi)
      clear hg9
      go_wp2_with fail
      refine HE.out.mono ?_
      rintro e w5 ⟨rfl, hb5, hk5⟩
      have HB5 := hide hb5
      have HK5 := hide (HK9.out.trans hk5)
      clear hb5 hk5
      go_wp2_with fail
      go_end0
      exact ⟨rfl, _, Fw, ⟨fs, fun h0 => HF0.out (by rw [h0]; rfl), rfl⟩, HFr.out, HB5.out, HK5.out⟩
end Go.Proofs.YtadlabndbomgmaaDoor
