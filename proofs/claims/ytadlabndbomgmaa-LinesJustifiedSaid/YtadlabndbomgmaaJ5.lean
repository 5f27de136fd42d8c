/- Parts of the proof, joined: BeginW, BrkOk, EndW, Lower, PutK. -/
import Derived.BigQuiet
import Derived.Handy
import Derived.IntWalk
import Derived.RegionTactic
import Derived.Deep.MidRow
import Derived.Deep.RegionHeld3
import Derived.Deep.CutBlock
import Derived.Test.YtadlabndbomgmaaJPlaceK
import Derived.Test.YtadlabndbomgmaaJ3
import Derived.Test.YtadlabndbomgmaaJTell
import Derived.Test.YtadlabndbomgmaaJ1
set_option linter.unusedVariables false
set_option linter.unusedSimpArgs false
/- The walks of breaker.float, breaker.ends, breaker.begin on the breaker's state. -/
namespace Go.Proofs.Ytadlabndbomgmaa
open Go.ChangeShapes Go.WideShapes Go.ChangeAt Go.RowKit
theorem placed_x {W : Int} {fs : List Fl} {side y wd h M x y' : Int} (p : Placed W fs side y wd h M x y') (hW : 0 ≤ W ∧ W ≤ 16777216) (hw : 0 ≤ wd ∧ wd ≤ 65535) (hs : side = 1 ∨ side = 2) : -16777216 ≤ x ∧ x ≤ 16777216 := by
  obtain ⟨e1, e2⟩ := edgesF_bd W y' h fs
  have ha := p.at_
  rcases p.room with hm | hr
  · obtain ⟨_, he⟩ := edgesF_not hm
    rw [he] at ha
    rcases hs with rfl | rfl <;> simp at ha <;> omega
  · rcases hs with rfl | rfl
    · simp at ha; omega
    · simp at ha; omega
theorem fsOk_snoc {W : Int} {fs : List Fl} {side y wd h M x y' : Int} (hf : FsOk fs) (hl : fs.length < 200) (p : Placed W fs side y wd h M x y') (hM : M = 16777216 + 65535 * (fs.length : Int)) (hW : 0 ≤ W ∧ W ≤ 16777216) (hy : -16777216 ≤ y) (hw : 0 ≤ wd ∧ wd ≤ 65535) (hh : 0 ≤ h ∧ h ≤ 65535) (hs : side = 1 ∨ side = 2) : FsOk (fs ++ [⟨x, y', wd, h, side⟩]) := by
  have hx := placed_x (x := x) (y' := y') p hW hw hs
  have h1 := p.low
  have h2 := p.high
  obtain ⟨_, hf2⟩ := hf
  refine ⟨by rw [List.length_append, List.length_singleton]; omega, fun f hfm => ?_⟩
  have e : ((fs ++ [(⟨x, y', wd, h, side⟩ : Fl)]).length : Int) = (fs.length : Int) + 1 := by simp
  rw [e]
  rcases List.mem_append.1 hfm with hfm | hfm
  · have := hf2 f hfm
    exact ⟨this.1, by omega⟩
  · obtain rfl : f = ⟨x, y', wd, h, side⟩ := by simpa using hfm
    unfold FlBd
    simp only
    omega
theorem PlaceR_any (b : Nat) (side y wd h W : Int) (fs : List Fl) (Fv : Value) (w : World) (hb : Blk w b 118 #[.int .i64 W, Fv]) (hown : w.ownsRow 0 120 5 Fv fs.length (flCells fs)) (hf : FsOk fs) (hW : 0 ≤ W ∧ W ≤ 16777216) (hw : 0 ≤ wd ∧ wd ≤ 65535) (hh : 0 ≤ h ∧ h ≤ 65535) :
    Calls Try.prog 36 #[.pointer (some ⟨b, 0, none⟩), .int .i64 side, .int .i64 y, .int .i64 wd, .int .i64 h] w fun e w' =>
      ∃ r fs' Fv', e = .returned r ∧ FsOk fs' ∧ Blk w' b 118 #[.int .i64 W, Fv'] ∧ w'.ownsRow 0 120 5 Fv' fs'.length (flCells fs') ∧ Only (fun k => k = b ∨ Fv.ownBlock = some k) w w' ∧ (∀ k, Fv'.ownBlock = some k → Fv.ownBlock = some k ∨ w.heap.size ≤ k) := by
  have hy1 := cut_lo y
  have hy2 := cut_hi y
  by_cases hs : (side = 1 ∨ side = 2) ∧ fs.length < 200
  · have e1 : max 0 (cut wd) = wd := by unfold cut; omega
    have e2 : max 0 (cut h) = h := by unfold cut; omega
    refine (PlaceK_any b side y wd h W (16777216 + 65535 * (fs.length : Int)) fs Fv w hb hown hs.2 hs.1 (by omega) (by omega) (by omega) (by omega) hf.2).mono ?_
    rintro e w' ⟨x, y', Fv', rfl, h1, h2, h3, h4, h5⟩
    rw [e1, e2] at h2 h5
    exact ⟨_, _, Fv', rfl, fsOk_snoc hf hs.2 h5 rfl hW hy1 hw hh hs.1, h1, by rw [List.length_append]; exact h2, h3, h4⟩
  · have hl := hf.1
    refine (PlaceE_any b side y wd h W fs Fv w hb hown ?_).mono ?_
    · by_cases h1 : side = 1 ∨ side = 2
      · right
        have : ¬ fs.length < 200 := fun h2 => hs ⟨h1, h2⟩
        omega
      · exact .inl h1
    · rintro e w' ⟨r, rfl, hbl⟩
      exact ⟨_, fs, Fv, rfl, hf, hb.below hbl hb.lt, own_keep hown hbl (own_lt hown), Only.of_below hbl, fun k hk => .inl hk⟩
set_option maxRecDepth 100000 in
set_option maxHeartbeats 4000000 in
theorem bfloat_any (xs : List It) (g : Nat) (p : Pt) (K : Nat → Prop) (b fp : Nat) (W sz ht al : Int) (st : BG) (Lv Tv Ov Fv : Value) (w : World) (hI : ItsR w g xs) (hi : p.i < xs.length) (hx : ∀ k, ItOk (itAt xs k)) (h : BrV w K b fp g W sz ht al st Lv Tv Ov Fv) (hf : FsOk st.fs) (hW : 0 ≤ W ∧ W ≤ 16777216) :
    Calls Try.prog 134 #[.pointer (some ⟨b, 0, none⟩), .agg #[.pointer (some ⟨g, p.i * 11, none⟩), .int .i64 p.i, .string p.t, .int .i64 p.w, .bool p.last]] w fun e w' =>
      e = .returned (.tuple #[]) ∧ ∃ fs' Fv', FsOk fs' ∧ BrV w' K b fp g W sz ht al { st with fs := fs' } Lv Tv Ov Fv' ∧ Kept K w w' := by
  have HI := hide hI
  have HB := hide h
  have HF := hide hf
  have hxp := hx p.i
  unfold ItOk at hxp
  have hxp2 : (0 ≤ (itAt xs p.i).w ∧ (itAt xs p.i).w ≤ 65535) ∧ (0 ≤ (itAt xs p.i).h ∧ (itAt xs p.i).h ≤ 65535) := by omega
  clear hI h hf hx hxp
  go_enter Try.func134, Try.ntmps134
  go_wp2_with fail
  have hbel := (Below.refl w.heap.size w).alloc (Nat.le_refl _) (.cells #[.pointer (some ⟨g, p.i * 11, none⟩), .int .i64 p.i, .string p.t, .int .i64 p.w, .bool p.last] 192)
  have HBA := hide (HB.out.below hbel)
  have HIA := hide (HI.out.below hbel)
  have HX := hide (Blk.new w 192 #[.pointer (some ⟨g, p.i * 11, none⟩), .int .i64 p.i, .string p.t, .int .i64 p.w, .bool p.last])
  have HS := hide (show (w.alloc (.cells #[.pointer (some ⟨g, p.i * 11, none⟩), .int .i64 p.i, .string p.t, .int .i64 p.w, .bool p.last] 192)).drew.cell? ⟨b, 0, none⟩ = some (.pointer (some ⟨fp, 0, none⟩)) ∧ (w.alloc (.cells #[.pointer (some ⟨g, p.i * 11, none⟩), .int .i64 p.i, .string p.t, .int .i64 p.w, .bool p.last] 192)).drew.cell? ⟨b, 1, none⟩ = some (.int .i64 st.y) ∧ (w.alloc (.cells #[.pointer (some ⟨g, p.i * 11, none⟩), .int .i64 p.i, .string p.t, .int .i64 p.w, .bool p.last] 192)).drew.cell? ⟨w.heap.size, 0, none⟩ = some (.pointer (some ⟨g, p.i * 11, none⟩)) ∧ (w.alloc (.cells #[.pointer (some ⟨g, p.i * 11, none⟩), .int .i64 p.i, .string p.t, .int .i64 p.w, .bool p.last] 192)).drew.cell? ⟨g, p.i * 11 + 10, none⟩ = some (.int .i64 (itAt xs p.i).side) ∧ (w.alloc (.cells #[.pointer (some ⟨g, p.i * 11, none⟩), .int .i64 p.i, .string p.t, .int .i64 p.w, .bool p.last] 192)).drew.cell? ⟨g, p.i * 11 + 8, none⟩ = some (.int .i64 (itAt xs p.i).w) ∧ (w.alloc (.cells #[.pointer (some ⟨g, p.i * 11, none⟩), .int .i64 p.i, .string p.t, .int .i64 p.w, .bool p.last] 192)).drew.cell? ⟨g, p.i * 11 + 9, none⟩ = some (.int .i64 (itAt xs p.i).h) from ⟨HBA.out.blk.cell 0, HBA.out.blk.cell 1, HX.out.cell 0, HIA.out.1 p.i hi 10 (by omega), HIA.out.1 p.i hi 8 (by omega), HIA.out.1 p.i hi 9 (by omega)⟩)
  have HBD := hide (HBA.out.below ((Below.refl _ _).drew))
  refine wp_region_KL (k := 23) 24 #[false, false, false, false, false, false, false, false, false, false, false, false, false, false, false, false, false, false, false, false, false, false, false, false] (by kernel_rfl) (by kernel_rfl) (S := fun Z => Z.cell? ⟨b, 0, none⟩ = some (.pointer (some ⟨fp, 0, none⟩)) ∧ Z.cell? ⟨b, 1, none⟩ = some (.int .i64 st.y) ∧ Z.cell? ⟨w.heap.size, 0, none⟩ = some (.pointer (some ⟨g, p.i * 11, none⟩)) ∧ Z.cell? ⟨g, p.i * 11 + 10, none⟩ = some (.int .i64 (itAt xs p.i).side) ∧ Z.cell? ⟨g, p.i * 11 + 8, none⟩ = some (.int .i64 (itAt xs p.i).w) ∧ Z.cell? ⟨g, p.i * 11 + 9, none⟩ = some (.int .i64 (itAt xs p.i).h)) (by kernel_rfl) HS.out (fun hHeld => ?_)
  have hd := hbel.drew
  generalize (w.alloc (.cells #[.pointer (some ⟨g, p.i * 11, none⟩), .int .i64 p.i, .string p.t, .int .i64 p.w, .bool p.last] 192)).drew = wB at *
  refine takeK (i := 0) (v := (Value.pointer (some ⟨b, 0, none⟩))) [1, 2, 3, 23] (some 4) rfl rfl rfl (by kernel_rfl) (by kernel_rfl) (by kernel_rfl) (by kernel_rfl) (fun _ _ _ h => h) (by rfl) (yieldsIf_move (by rfl) _ rfl _ rfl) hHeld ?_
  simp only [Act.put, List.setIfInBounds_toArray, List.set_cons_zero, List.set_cons_succ]
  refine takeK (i := 1) (v := (Value.pointer (some ⟨b, 0, none⟩))) [2, 3, 23] (some 5) rfl rfl rfl (by kernel_rfl) (by kernel_rfl) (by kernel_rfl) (by kernel_rfl) (fun _ _ _ h => h) (by rfl) (yieldsIf_nil (by rfl) _ rfl _ rfl) hHeld ?_
  simp only [Act.put, List.setIfInBounds_toArray, List.set_cons_zero, List.set_cons_succ]
  refine takeK (i := 2) (v := (Value.pointer (some ⟨b, 0, none⟩))) [3, 23] (some 6) rfl rfl rfl (by kernel_rfl) (by kernel_rfl) (by kernel_rfl) (by kernel_rfl) (fun _ _ _ h => h) (by rfl) (yieldsIf_faddr (by rfl) 174 _ 0 rfl _ _ 0 rfl (by kernel_rfl)) hHeld ?_
  simp only [Act.put, List.setIfInBounds_toArray, List.set_cons_zero, List.set_cons_succ]
  refine takeK (i := 3) (v := (Value.pointer (some ⟨fp, 0, none⟩))) [23] (some 7) rfl rfl rfl (by kernel_rfl) (by kernel_rfl) (by kernel_rfl) (by kernel_rfl) (fun _ _ _ h => h) (by rfl) (yieldsIf_load1 (by rfl) 36 _ rfl _ _ _ rfl (by kernel_rfl) (fun _ h => h.1)) hHeld ?_
  simp only [Act.put, List.setIfInBounds_toArray, List.set_cons_zero, List.set_cons_succ]
  refine takeK (i := 4) (v := (Value.pointer (some ⟨w.heap.size, 0, none⟩))) [5, 6, 7, 8, 23] (some 8) rfl rfl rfl (by kernel_rfl) (by kernel_rfl) (by kernel_rfl) (by kernel_rfl) (fun _ _ _ h => h) (by rfl) (yieldsIf_faddr (by rfl) 192 _ 0 rfl _ _ 0 rfl (by kernel_rfl)) hHeld ?_
  simp only [Act.put, List.setIfInBounds_toArray, List.set_cons_zero, List.set_cons_succ]
  refine takeK (i := 5) (v := (Value.pointer (some ⟨g, p.i * 11, none⟩))) [6, 7, 8, 23] (some 9) rfl rfl rfl (by kernel_rfl) (by kernel_rfl) (by kernel_rfl) (by kernel_rfl) (fun _ _ _ h => h) (by rfl) (yieldsIf_load1 (by rfl) 190 _ rfl _ _ _ rfl (by kernel_rfl) (fun _ h => h.2.2.1)) hHeld ?_
  simp only [Act.put, List.setIfInBounds_toArray, List.set_cons_zero, List.set_cons_succ]
  refine takeK (i := 6) (v := (Value.pointer (some ⟨g, p.i * 11, none⟩))) [7, 8, 23] (some 10) rfl rfl rfl (by kernel_rfl) (by kernel_rfl) (by kernel_rfl) (by kernel_rfl) (fun _ _ _ h => h) (by rfl) (yieldsIf_nil (by rfl) _ rfl _ rfl) hHeld ?_
  simp only [Act.put, List.setIfInBounds_toArray, List.set_cons_zero, List.set_cons_succ]
  refine takeK (i := 7) (v := (Value.pointer (some ⟨g, p.i * 11 + 10, none⟩))) [8, 23] (some 11) rfl rfl rfl (by kernel_rfl) (by kernel_rfl) (by kernel_rfl) (by kernel_rfl) (fun _ _ _ h => h) (by rfl) (yieldsIf_faddr (by rfl) 100 _ 10 rfl _ _ 10 rfl (by kernel_rfl)) hHeld ?_
  simp only [Act.put, List.setIfInBounds_toArray, List.set_cons_zero, List.set_cons_succ]
  refine takeK (i := 8) (v := (.int .i64 (itAt xs p.i).side)) [23] (some 12) rfl rfl rfl (by kernel_rfl) (by kernel_rfl) (by kernel_rfl) (by kernel_rfl) (fun _ _ _ h => h) (by rfl) (yieldsIf_load1 (by rfl) 3 _ rfl _ _ _ rfl (by kernel_rfl) (fun _ h => h.2.2.2.1)) hHeld ?_
  simp only [Act.put, List.setIfInBounds_toArray, List.set_cons_zero, List.set_cons_succ]
  refine takeK (i := 9) (v := (Value.pointer (some ⟨b, 0, none⟩))) [10, 11, 12, 23] (some 13) rfl rfl rfl (by kernel_rfl) (by kernel_rfl) (by kernel_rfl) (by kernel_rfl) (fun _ _ _ h => h) (by rfl) (yieldsIf_move (by rfl) _ rfl _ rfl) hHeld ?_
  simp only [Act.put, List.setIfInBounds_toArray, List.set_cons_zero, List.set_cons_succ]
  refine takeK (i := 10) (v := (Value.pointer (some ⟨b, 0, none⟩))) [11, 12, 23] (some 14) rfl rfl rfl (by kernel_rfl) (by kernel_rfl) (by kernel_rfl) (by kernel_rfl) (fun _ _ _ h => h) (by rfl) (yieldsIf_nil (by rfl) _ rfl _ rfl) hHeld ?_
  simp only [Act.put, List.setIfInBounds_toArray, List.set_cons_zero, List.set_cons_succ]
  refine takeK (i := 11) (v := (Value.pointer (some ⟨b, 1, none⟩))) [12, 23] (some 15) rfl rfl rfl (by kernel_rfl) (by kernel_rfl) (by kernel_rfl) (by kernel_rfl) (fun _ _ _ h => h) (by rfl) (yieldsIf_faddr (by rfl) 174 _ 1 rfl _ _ 1 rfl (by kernel_rfl)) hHeld ?_
  simp only [Act.put, List.setIfInBounds_toArray, List.set_cons_zero, List.set_cons_succ]
  refine takeK (i := 12) (v := (.int .i64 st.y)) [23] (some 16) rfl rfl rfl (by kernel_rfl) (by kernel_rfl) (by kernel_rfl) (by kernel_rfl) (fun _ _ _ h => h) (by rfl) (yieldsIf_load1 (by rfl) 3 _ rfl _ _ _ rfl (by kernel_rfl) (fun _ h => h.2.1)) hHeld ?_
  simp only [Act.put, List.setIfInBounds_toArray, List.set_cons_zero, List.set_cons_succ]
  refine takeK (i := 13) (v := (Value.pointer (some ⟨w.heap.size, 0, none⟩))) [14, 15, 16, 17, 23] (some 17) rfl rfl rfl (by kernel_rfl) (by kernel_rfl) (by kernel_rfl) (by kernel_rfl) (fun _ _ _ h => h) (by rfl) (yieldsIf_faddr (by rfl) 192 _ 0 rfl _ _ 0 rfl (by kernel_rfl)) hHeld ?_
  simp only [Act.put, List.setIfInBounds_toArray, List.set_cons_zero, List.set_cons_succ]
  refine takeK (i := 14) (v := (Value.pointer (some ⟨g, p.i * 11, none⟩))) [15, 16, 17, 23] (some 18) rfl rfl rfl (by kernel_rfl) (by kernel_rfl) (by kernel_rfl) (by kernel_rfl) (fun _ _ _ h => h) (by rfl) (yieldsIf_load1 (by rfl) 190 _ rfl _ _ _ rfl (by kernel_rfl) (fun _ h => h.2.2.1)) hHeld ?_
  simp only [Act.put, List.setIfInBounds_toArray, List.set_cons_zero, List.set_cons_succ]
  refine takeK (i := 15) (v := (Value.pointer (some ⟨g, p.i * 11, none⟩))) [16, 17, 23] (some 19) rfl rfl rfl (by kernel_rfl) (by kernel_rfl) (by kernel_rfl) (by kernel_rfl) (fun _ _ _ h => h) (by rfl) (yieldsIf_nil (by rfl) _ rfl _ rfl) hHeld ?_
  simp only [Act.put, List.setIfInBounds_toArray, List.set_cons_zero, List.set_cons_succ]
  refine takeK (i := 16) (v := (Value.pointer (some ⟨g, p.i * 11 + 8, none⟩))) [17, 23] (some 20) rfl rfl rfl (by kernel_rfl) (by kernel_rfl) (by kernel_rfl) (by kernel_rfl) (fun _ _ _ h => h) (by rfl) (yieldsIf_faddr (by rfl) 100 _ 8 rfl _ _ 8 rfl (by kernel_rfl)) hHeld ?_
  simp only [Act.put, List.setIfInBounds_toArray, List.set_cons_zero, List.set_cons_succ]
  refine takeK (i := 17) (v := (.int .i64 (itAt xs p.i).w)) [23] (some 21) rfl rfl rfl (by kernel_rfl) (by kernel_rfl) (by kernel_rfl) (by kernel_rfl) (fun _ _ _ h => h) (by rfl) (yieldsIf_load1 (by rfl) 3 _ rfl _ _ _ rfl (by kernel_rfl) (fun _ h => h.2.2.2.2.1)) hHeld ?_
  simp only [Act.put, List.setIfInBounds_toArray, List.set_cons_zero, List.set_cons_succ]
  refine takeK (i := 18) (v := (Value.pointer (some ⟨w.heap.size, 0, none⟩))) [19, 20, 21, 22, 23] (some 22) rfl rfl rfl (by kernel_rfl) (by kernel_rfl) (by kernel_rfl) (by kernel_rfl) (fun _ _ _ h => h) (by rfl) (yieldsIf_faddr (by rfl) 192 _ 0 rfl _ _ 0 rfl (by kernel_rfl)) hHeld ?_
  simp only [Act.put, List.setIfInBounds_toArray, List.set_cons_zero, List.set_cons_succ]
  refine takeK (i := 19) (v := (Value.pointer (some ⟨g, p.i * 11, none⟩))) [20, 21, 22, 23] (some 23) rfl rfl rfl (by kernel_rfl) (by kernel_rfl) (by kernel_rfl) (by kernel_rfl) (fun _ _ _ h => h) (by rfl) (yieldsIf_load1 (by rfl) 190 _ rfl _ _ _ rfl (by kernel_rfl) (fun _ h => h.2.2.1)) hHeld ?_
  simp only [Act.put, List.setIfInBounds_toArray, List.set_cons_zero, List.set_cons_succ]
  refine takeK (i := 20) (v := (Value.pointer (some ⟨g, p.i * 11, none⟩))) [21, 22, 23] (some 24) rfl rfl rfl (by kernel_rfl) (by kernel_rfl) (by kernel_rfl) (by kernel_rfl) (fun _ _ _ h => h) (by rfl) (yieldsIf_nil (by rfl) _ rfl _ rfl) hHeld ?_
  simp only [Act.put, List.setIfInBounds_toArray, List.set_cons_zero, List.set_cons_succ]
  refine takeK (i := 21) (v := (Value.pointer (some ⟨g, p.i * 11 + 9, none⟩))) [22, 23] (some 25) rfl rfl rfl (by kernel_rfl) (by kernel_rfl) (by kernel_rfl) (by kernel_rfl) (fun _ _ _ h => h) (by rfl) (yieldsIf_faddr (by rfl) 100 _ 9 rfl _ _ 9 rfl (by kernel_rfl)) hHeld ?_
  simp only [Act.put, List.setIfInBounds_toArray, List.set_cons_zero, List.set_cons_succ]
  refine takeK (i := 22) (v := (.int .i64 (itAt xs p.i).h)) [23] (some 26) rfl rfl rfl (by kernel_rfl) (by kernel_rfl) (by kernel_rfl) (by kernel_rfl) (fun _ _ _ h => h) (by rfl) (yieldsIf_load1 (by rfl) 3 _ rfl _ _ _ rfl (by kernel_rfl) (fun _ h => h.2.2.2.2.2)) hHeld ?_
  simp only [Act.put, List.setIfInBounds_toArray, List.set_cons_zero, List.set_cons_succ]
  refine exitK (by kernel_rfl) ?_
  refine callH (j := 23) (by kernel_rfl) rfl rfl (some 27) rfl 36 #[.pointer (some ⟨fp, 0, none⟩), .int .i64 (itAt xs p.i).side, .int .i64 st.y, .int .i64 (itAt xs p.i).w, .int .i64 (itAt xs p.i).h] (run_enter Try.func36 (by kernel_rfl) (by kernel_rfl) _ _ rfl #[.pointer (some ⟨fp, 0, none⟩), .int .i64 (itAt xs p.i).side, .int .i64 st.y, .int .i64 (itAt xs p.i).w, .int .i64 (itAt xs p.i).h] (by kernel_rfl) _) (PlaceR_any fp _ _ _ _ W st.fs Fv wB HBD.out.flo HBD.out.fls HF.out hW hxp2.1 hxp2.2) ?_
  rintro e w5 ⟨r, fs', Fv', rfl, hf', hb', ho', hon, hn⟩
  refine ⟨r, rfl, trivial, ?_⟩
  simp only [Act.put, List.setIfInBounds_toArray, List.set_cons_zero, List.set_cons_succ]
  have HB5 := hide (HBD.out.f_set hb' ho' hon hn)
  have HK5 := hide ((Kept.of_below hd HB.out.kk).trans (HBD.out.kept_f hon))
  have HF5 := hide hf'
  clear hHeld HS HBD HBA HIA HX HB HI HF hf' hb' ho' hon hn hd hbel
  refine wpAnyH_done (by kernel_rfl) ?_ _
  go_wp2_with fail
  go_end0
  exact ⟨rfl, fs', Fv', HF5.out, HB5.out, HK5.out⟩
theorem PtsAt.row0 {w : World} {g h : Nat} {ps : List Pt} (hp : PtsAt w g h 0 ps) {k : Nat} (hk : k < ps.length) : w.cell? ⟨h, k * 5, none⟩ = some (.pointer (some ⟨g, (ptAt ps k).i * 11, none⟩)) ∧ w.cell? ⟨h, k * 5 + 1, none⟩ = some (.int .i64 (ptAt ps k).i) ∧ w.cell? ⟨h, k * 5 + 2, none⟩ = some (.string (ptAt ps k).t) ∧ w.cell? ⟨h, k * 5 + 3, none⟩ = some (.int .i64 (ptAt ps k).w) ∧ w.cell? ⟨h, k * 5 + 4, none⟩ = some (.bool (ptAt ps k).last) :=
  ⟨by have := hp k hk 0 (by omega); rw [Nat.zero_add] at this; exact this, by have := hp k hk 1 (by omega); rw [Nat.zero_add] at this; exact this, by have := hp k hk 2 (by omega); rw [Nat.zero_add] at this; exact this, by have := hp k hk 3 (by omega); rw [Nat.zero_add] at this; exact this, by have := hp k hk 4 (by omega); rw [Nat.zero_add] at this; exact this⟩
theorem ItsAt.kept {K : Nat → Prop} {w w' : World} {g : Nat} {xs : List It} (h : ItsAt w g xs) (k : Kept K w w') (hg : 0 < xs.length → K g) : ItsAt w' g xs := fun i hi j hj => by
  rw [World.cell?_of_block (w := w) (k.block g (hg (Nat.lt_of_le_of_lt (Nat.zero_le _) hi)))]
  exact h i hi j hj
theorem bendsV_any (g : Nat) (K : Nat → Prop) (b fp : Nat) (W sz ht al : Int) (st : BG) (Lv Tv Ov Fv : Value) (w : World) (h : BrV w K b fp g W sz ht al st Lv Tv Ov Fv) (hf : FsOk st.fs) (hW : 0 ≤ W ∧ W ≤ 16777216) (hi : -16777216 ≤ st.ind ∧ st.ind ≤ 16777216) :
    Calls Try.prog 135 #[.pointer (some ⟨b, 0, none⟩)] w fun e w' => e = .returned (.tuple #[]) ∧ BrV w' K b fp g W sz ht al (endsG ht W st) Lv Tv Ov Fv ∧ Kept K w w' :=
  (bends_any fp 0 b W st.y sz ht al st.ind st.left st.right Lv st.full Tv Ov st.fs w h.floats h.blk (by omega) hf.1 (fun f hfm => (hf.2 f hfm).1) hi).mono (by
    rintro e w' ⟨rfl, h1, h2⟩
    exact ⟨rfl, h.b_set (st' := endsG ht W st) h1 h2 (.inl ⟨rfl, rfl⟩) (.inl ⟨rfl, rfl⟩) rfl rfl, h.kept_b h2⟩)
set_option maxRecDepth 100000 in
set_option maxHeartbeats 4000000 in
theorem beginV_any (xs : List It) (g : Nat) (K : Nat → Prop) (b fp : Nat) (W sz ht al : Int) (st : BG) (Lv Tv Ov Fv : Value) (w : World) (hI : ItsR w g xs) (hg : 0 < xs.length → K g) (hx : ∀ k, ItOk (itAt xs k)) (h : BrV w K b fp g W sz ht al st Lv Tv Ov Fv) (hf : FsOk st.fs) (hW : 0 ≤ W ∧ W ≤ 16777216) (hi : -16777216 ≤ st.ind ∧ st.ind ≤ 16777216)
    (hl : ∀ p ∈ st.late, p.i < xs.length) (hll : st.late.length ≤ 100000) :
    Calls Try.prog 108 #[.pointer (some ⟨b, 0, none⟩)] w fun e w' => e = .returned (.tuple #[]) ∧ ∃ st' Fv', BeginR ht W st st' ∧ FsOk st'.fs ∧ BrV w' K b fp g W sz ht al st' (.slice none 0 0) (.slice none 0 0) Ov Fv' ∧ Kept K w w' := by
  obtain ⟨A, c, rfl, _, _⟩ := own_reads h.late
  have HI := hide hI
  have HB := hide h
  have HF := hide hf
  have HX := hide hx
  have HL := hide hl
  have HG := hide hg
  have c10 : w.cell? ⟨b, 10, none⟩ = some (.slice A st.late.length c) := h.blk.cell 10
  clear hI h hf hx hl hg
  go_enter Try.func108, Try.ntmps108
  go_wp2_with fail
  go_loopw [3, 9] (fun _ i wr => ∃ (k : Nat) (fs : List Fl) (Fw : Value), k ≤ st.late.length ∧ i = .int .i64 k ∧ FsOk fs ∧ (k = 0 → fs = st.fs) ∧ Hid (BrV wr K b fp g W sz ht al { st with fs := fs } Lv (.slice A st.late.length c) Ov Fw) ∧ Hid (Kept K w wr)) (fun _ i _ => st.late.length - (intOf i).toNat)
  case atStart => exact ⟨0, st.fs, Fv, Nat.zero_le _, rfl, HF.out, fun _ => rfl, HB.out, Kept.refl _ _⟩
  case round =>
    obtain ⟨k, fs, Fw, hk, rfl, hfs, hfs0, hbr, hkp⟩ := hrel
    by_cases hlt : k < st.late.length
    · obtain ⟨q, rfl, _, hql, hpt⟩ := pts_of_own hbr.out.late rfl (by omega)
      obtain ⟨d0, d1, d2, d3, d4⟩ := PtsAt.row0 hpt hlt
      have hpi := HL.out _ (List.getElem_mem hlt)
      rw [← ptAt_of st.late k hlt] at hpi
      generalize ptAt st.late k = p at *
      have hIr : ItsR wr g xs := ⟨HI.out.1.kept hkp.out HG.out, fun h0 => Nat.lt_of_lt_of_le (HI.out.2 h0) hkp.out.size⟩
      have hbel := (Below.refl wr.heap.size wr).alloc (Nat.le_refl _) (.cells #[.pointer (some ⟨g, p.i * 11, none⟩), .int .i64 p.i, .string p.t, .int .i64 p.w, .bool p.last] 192)
      have HC := hide (bfloat_any xs g p K b fp W sz ht al { st with fs := fs } Lv (.slice (some ⟨q, 0, none⟩) st.late.length c) Ov Fw _ (hIr.below hbel) hpi HX.out (hbr.out.below hbel) hfs hW)
      have HK2 := hide (hkp.out.trans (Kept.of_below hbel hbr.out.kk))
      clear hbr hkp hpt hIr hbel
      go_wp2_with fail
      refine HC.out.mono ?_
      rintro e w5 ⟨rfl, fs5, Fv5, hf5, hb5, hk5⟩
      have HB5 := hide hb5
      have HK5 := hide (HK2.out.trans hk5)
      clear hb5 hk5
      go_wp2_with fail
      go_roundw
      case rel => exact ⟨k + 1, fs5, Fv5, by omega, by go_num, hf5, fun h0 => by omega, HB5.out, HK5.out⟩
      case measure => simp only [intOf]; omega
    · obtain rfl : k = st.late.length := by omega
      have HBr := hide hbr.out
      have HKr := hide hkp.out
      have HFr := hide hfs
      have HF0 := hide hfs0
      clear hbr hkp hfs hfs0
      have r10 : wr.cell? ⟨b, 10, none⟩ = some (.slice A st.late.length c) := HBr.out.blk.cell 10
      have r8 : wr.cell? ⟨b, 8, none⟩ = some Lv := HBr.out.blk.cell 8
      have r9 : wr.cell? ⟨b, 9, none⟩ = some (.bool st.full) := HBr.out.blk.cell 9
      have z10 : wr.frozen? ⟨b, 10, none⟩ = false := HBr.out.blk.frozen 10
      have z8 : wr.frozen? ⟨b, 8, none⟩ = false := HBr.out.blk.frozen 8
      have z9 : wr.frozen? ⟨b, 9, none⟩ = false := HBr.out.blk.frozen 9
      have hg9 := only_setCell (p := ⟨b, 9, none⟩) (only_setCell (p := ⟨b, 8, none⟩) (only_setCell (p := ⟨b, 10, none⟩) (World.grownBy.refl wr (some b)) (.inl rfl) (.slice none 0 0)) (.inl rfl) (.slice none 0 0)) (.inl rfl) (.bool false)
      have HB9 := hide (HBr.out.b_set (st' := { st with fs := fs, line := [], full := false, late := [] }) (Lv' := .slice none 0 0) (Tv' := .slice none 0 0) (((HBr.out.blk.set_ 10 (.slice none 0 0)).set_ 8 (.slice none 0 0)).set_ 9 (.bool false)) hg9 (.inr ⟨rfl, rfl⟩) (.inr ⟨rfl, rfl⟩) rfl rfl)
      have HK9 := hide (HKr.out.trans (HBr.out.kept_b hg9))
      have HE := hide (bendsV_any g K b fp W sz ht al _ _ _ Ov Fw _ HB9.out HFr.out hW hi)
      clear hg9
      go_wp2_with fail
      refine HE.out.mono ?_
      rintro e w5 ⟨rfl, hb5, hk5⟩
      have HB5 := hide hb5
      have HK5 := hide (HK9.out.trans hk5)
      clear hb5 hk5
      go_wp2_with fail
      go_end0
      exact ⟨rfl, _, Fw, ⟨fs, fun h0 => HF0.out (by rw [h0]; rfl), rfl⟩, HFr.out, HB5.out, HK5.out⟩
end Go.Proofs.Ytadlabndbomgmaa
/- The bounds that the breaker's state keeps. -/
namespace Go.Proofs.Ytadlabndbomgmaa
open Go.RowKit
structure StOk (xs : List It) (st : BG) (n m : Nat) : Prop where
  fs : FsOk st.fs
  ind : -16777216 ≤ st.ind ∧ st.ind ≤ 16777216
  lf : -16777216 ≤ st.left ∧ st.left ≤ 50331648
  rt : -16777216 ≤ st.right ∧ st.right ≤ 16777216
  y : -16777216 ≤ st.y ∧ st.y ≤ 16777216 + 200000000 * (st.out.length : Int)
  line : PsOk xs st.line
  late : PsOk xs st.late
  ll : st.line.length ≤ n
  lt : st.late.length ≤ n
  out : st.out.length ≤ m
section
variable {xs : List It} {sz ht al W : Int} {st st' : BG} {n m : Nat}
theorem ends_ok (hW : 0 ≤ W ∧ W ≤ 16777216) (hf : FsOk st.fs) (hi : -16777216 ≤ st.ind ∧ st.ind ≤ 16777216) : (-16777216 ≤ (endsG ht W st).left ∧ (endsG ht W st).left ≤ 50331648) ∧ (-16777216 ≤ (endsG ht W st).right ∧ (endsG ht W st).right ≤ 16777216) := by
  have h1 := edgesF_range (width := W) (y := cut st.y) (h := cut ht) (fs := st.fs) (by omega) (fun f hfm => by have := (hf.2 f hfm).1; unfold FlBd at this; omega)
  have h2 := edgesF_bd W (cut st.y) (cut ht) st.fs
  unfold endsG
  simp only
  omega
theorem StOk.ends (hW : 0 ≤ W ∧ W ≤ 16777216) (h : StOk xs st n m) : StOk xs (endsG ht W st) n m :=
  have := ends_ok (ht := ht) hW h.fs h.ind
  ⟨h.fs, h.ind, this.1, this.2, h.y, h.line, h.late, h.ll, h.lt, h.out⟩
theorem StOk.more (h : StOk xs st n m) {n' m' : Nat} (hn : n ≤ n') (hm : m ≤ m') : StOk xs st n' m' := ⟨h.fs, h.ind, h.lf, h.rt, h.y, h.line, h.late, Nat.le_trans h.ll hn, Nat.le_trans h.lt hn, Nat.le_trans h.out hm⟩
theorem StOk.begin (hW : 0 ≤ W ∧ W ≤ 16777216) (h : StOk xs st n m) (e : BeginR ht W st st') (hf : FsOk st'.fs) : StOk xs st' n m := by
  obtain ⟨fs, _, rfl⟩ := e
  exact StOk.ends hW ⟨hf, h.ind, h.lf, h.rt, h.y, (fun p hp => by cases hp), (fun p hp => by cases hp), Nat.zero_le _, Nat.zero_le _, h.out⟩
theorem StOk.tell (hx : ∀ k, ItOk (itAt xs k)) (hh : 0 ≤ ht ∧ ht ≤ 16777216) (h : StOk xs st n m) (last : Bool) : StOk xs { tellG xs sz ht al last st with ind := 0 } n (m + 1) := by
  have hb : 0 ≤ highF xs sz ht st.line ∧ highF xs sz ht st.line ≤ 200000000 := by
    have h9 := metTo_bd hx sz ht hh st.line
    unfold MetB at h9
    unfold highF
    omega
  have hy := h.y
  have ho := h.out
  unfold tellG
  split
  · refine ⟨h.fs, ⟨by show (-16777216 : Int) ≤ 0; decide, by show (0 : Int) ≤ 16777216; decide⟩, h.lf, h.rt, ?_, h.line, h.late, h.ll, h.lt, by simp only [List.length_append, List.length_singleton]; omega⟩
    simp only [List.length_append, List.length_singleton]
    omega
  · exact ⟨h.fs, ⟨by show (-16777216 : Int) ≤ 0; decide, by show (0 : Int) ≤ 16777216; decide⟩, h.lf, h.rt, h.y, h.line, h.late, h.ll, h.lt, by show st.out.length ≤ m + 1; omega⟩
theorem StOk.end_ (hx : ∀ k, ItOk (itAt xs k)) (hh : 0 ≤ ht ∧ ht ≤ 16777216) (hW : 0 ≤ W ∧ W ≤ 16777216) (h : StOk xs st n m) {last : Bool} (e : EndR xs sz ht al W last st st') (hf : FsOk st'.fs) : StOk xs st' n (m + 1) :=
  (h.tell hx hh last).begin hW e hf
theorem end_full {last : Bool} (e : EndR xs sz ht al W last st st') : st'.full = false ∧ st'.line = [] := by
  obtain ⟨fs, _, rfl⟩ := e
  exact ⟨rfl, rfl⟩
theorem end_y {last : Bool} (hx : ∀ k, ItOk (itAt xs k)) (hh : 0 ≤ ht ∧ ht ≤ 16777216) (e : EndR xs sz ht al W last st st') : st.y ≤ st'.y := by
  obtain ⟨fs, _, rfl⟩ := e
  show st.y ≤ (tellG xs sz ht al last st).y
  unfold tellG
  split
  · show st.y ≤ st.y + highF xs sz ht st.line
    unfold highF
    omega
  · exact Int.le_refl _
theorem low_y (h : noLow W st = false) : st.y < lowF st.y st.fs ∧ lowF st.y st.fs ≤ 16777216 := by
  unfold noLow at h
  rw [Bool.or_eq_false_iff] at h
  have h1 := of_decide_eq_false h.1
  have h2 : lowF st.y st.fs = 16777217 ∨ st.y < lowF st.y st.fs := by
    unfold lowF
    suffices H : ∀ a : Int, a = 16777217 ∨ st.y < a → st.fs.foldl (lowStep st.y) a = 16777217 ∨ st.y < st.fs.foldl (lowStep st.y) a from H 16777217 (.inl rfl)
    induction st.fs with
    | nil => intro a h; exact h
    | cons f fs ih =>
      intro a h
      refine ih _ ?_
      unfold lowStep
      split
      · rcases h with h | h
        · by_cases h2 : f.y + f.h ≤ 16777217
          · right; omega
          · left; omega
        · right; omega
      · exact h
  omega
theorem StOk.low (hW : 0 ≤ W ∧ W ≤ 16777216) (h : StOk xs st n m) (hn : noLow W st = false) : StOk xs (lowG ht W st) n m := by
  have hy := low_y hn
  have h1 := h.y
  refine StOk.ends hW ⟨h.fs, h.ind, h.lf, h.rt, ?_, h.line, h.late, h.ll, h.lt, h.out⟩
  simp only
  omega
end
end Go.Proofs.Ytadlabndbomgmaa
/- The walk of breaker.end on the breaker's state. -/
namespace Go.Proofs.Ytadlabndbomgmaa
open Go.ChangeShapes Go.WideShapes Go.ChangeAt Go.RowKit
/-- Lines told: the breaker's own block and its row of lines are written. -/
theorem BrV.o_set {w w' : World} {K : Nat → Prop} {b fp g : Nat} {W sz ht al : Int} {st st' : BG} {Lv Tv Ov Fv Ov' : Value} (h : BrV w K b fp g W sz ht al st Lv Tv Ov Fv) (hb : Blk w' b 174 (brA fp st'.y sz ht al st'.ind st'.left st'.right Lv st'.full Tv Ov')) (hl : LinesAt w' 0 Ov' st'.out)
    (hg : Only (fun i => i = b ∨ Ov.ownBlock = some i) w w') (hn : ∀ k, Ov'.ownBlock = some k → Ov.ownBlock = some k ∨ w.heap.size ≤ k) (e1 : st'.line = st.line) (e2 : st'.late = st.late) (e3 : st'.fs = st.fs) : BrV w' K b fp g W sz ht al st' Lv Tv Ov' Fv := by
  obtain ⟨q, hq1, hq2, hq3⟩ := h.lines
  have hkey : ∀ i, i < w.heap.size → (i = b ∨ Ov.ownBlock = some i) → ∃ t cs, Blk w i t cs ∧ (t = 174 ∨ t = 108) := fun i _ hi => by
    rcases hi with rfl | hi
    · exact ⟨_, _, h.blk, .inl rfl⟩
    · rcases hq2.2 with ⟨h9, _⟩ | ⟨q2, cap, cur, h9, _, hqq, _⟩
      · rw [h9] at hi; cases hi
      · rw [h9] at hi
        have : q2 = i := by injection hi
        subst this
        exact ⟨_, _, hqq, .inr rfl⟩
  have row : ∀ {e : TypeId} {size n : Nat} {v : Value} {xs : List Value}, w.ownsRow 0 e size v n xs → e ≠ 174 → e ≠ 108 → w'.ownsRow 0 e size v n xs := fun ho n1 n2 => by
    refine own_only ho hg fun i hi hci => ?_
    obtain ⟨t, cs, hqq, ht⟩ := hkey i (own_lt ho i hi) hci
    refine own_blk_ne ho hqq ?_ hi
    rcases ht with rfl | rfl
    · exact n1
    · exact n2
  have hfp : ¬ (fp = b ∨ Ov.ownBlock = some fp) := fun hc => by
    obtain ⟨t, cs, hqq, ht⟩ := hkey fp h.flo.lt hc
    rcases ht with rfl | rfl
    · exact (hqq.ne_ h.flo (by decide)) rfl
    · exact (hqq.ne_ h.flo (by decide)) rfl
  refine ⟨hb, by rw [e1]; exact row h.line (by decide) (by decide), by rw [e2]; exact row h.late (by decide) (by decide), hl, blk_only h.flo hg hfp, by rw [e3]; exact row h.fls (by decide) (by decide), h.two, h.kb, h.kf, h.kL, h.kT, ?_, h.kF, fun i hi => Nat.lt_of_lt_of_le (h.kk i hi) hg.size⟩
  intro k hk
  rcases hn k hk with h9 | h9
  · exact h.kO k h9
  · exact fun hK => by have := h.kk k hK; omega
theorem BrV.kept_o {w w' : World} {K : Nat → Prop} {b fp g : Nat} {W sz ht al : Int} {st : BG} {Lv Tv Ov Fv : Value} (h : BrV w K b fp g W sz ht al st Lv Tv Ov Fv) (hg : Only (fun i => i = b ∨ Ov.ownBlock = some i) w w') : Kept K w w' := Kept.of_only hg h.kk fun k hk => by
  rcases hk with rfl | hk
  · exact h.kb
  · exact h.kO k hk
/-- What the items' side of a world holds: items in block g, which is kept. -/
structure ItK (w : World) (K : Nat → Prop) (g : Nat) (xs : List It) : Prop where
  its : ItsR w g xs
  kg : 0 < xs.length → K g
  ok : ∀ k, ItOk (itAt xs k)
theorem ItK.kept {w w' : World} {K : Nat → Prop} {g : Nat} {xs : List It} (h : ItK w K g xs) (k : Kept K w w') : ItK w' K g xs := ⟨⟨h.its.1.kept k h.kg, fun h0 => Nat.lt_of_lt_of_le (h.its.2 h0) k.size⟩, h.kg, h.ok⟩
theorem pts_own {w : World} {g : Nat} {Lv : Value} {ps : List Pt} (h : w.ownsRow 0 192 5 Lv ps.length (ptCells g ps)) : ∃ A c, Lv = .slice A ps.length c ∧ PtsR w g A ps := by
  obtain ⟨A, c, rfl, _, _⟩ := own_reads h
  exact ⟨A, c, rfl, PtsR.own h rfl⟩
theorem tellV_any (xs : List It) (g : Nat) (K : Nat → Prop) (b fp : Nat) (W sz ht al : Int) (st : BG) (Lv Tv Ov Fv : Value) (n m : Nat) (last : Bool) (w : World) (hI : ItK w K g xs) (h : BrV w K b fp g W sz ht al st Lv Tv Ov Fv) (hs : StOk xs st n m) (hn : n ≤ 5000) (hm : m ≤ 50000) (h0 : st.line.any (toldF xs) = true) (hz : 0 ≤ sz ∧ sz ≤ 16777216) (hh : 0 ≤ ht ∧ ht ≤ 16777216) :
    Calls Try.prog 142 #[.pointer (some ⟨b, 0, none⟩), .bool last] w fun e w' => e = .returned (.tuple #[]) ∧ ∃ Ov', BrV w' K b fp g W sz ht al (tellG xs sz ht al last st) Lv Tv Ov' Fv ∧ Kept K w w' := by
  obtain ⟨A, c, rfl, hp⟩ := pts_own h.line
  have hlen : 0 < st.line.length := by
    rcases Nat.eq_zero_or_pos st.line.length with h9 | h9
    · rw [List.eq_nil_of_length_eq_zero h9] at h0; cases h0
    · exact h9
  have hll := hs.ll
  have hout := hs.out
  have hy := hs.y
  have hlf := hs.lf
  have hrt := hs.rt
  have hb := h.blk
  refine (tell_any xs g st.line A c b fp 0 st.y sz ht al st.ind st.left st.right st.full last Tv Ov st.out w hI.its hp hlen (by omega) hs.line hI.ok hb hz hh (Nat.zero_le _) h.lines (by omega) (by omega) (by omega) (by omega)).mono ?_
  rintro e w' ⟨rfl, Ov', h1, h2, h3, ⟨h4, h5, h6, h7⟩, h8⟩
  have ho : Only (fun i => i = b ∨ Ov.ownBlock = some i) w w' := ⟨h4, h5, h6, h7, fun k hk hc => h3 k hk (fun e => hc (.inl e)) (fun e => hc (.inr e))⟩
  have e0 : tellG xs sz ht al last st = { st with y := st.y + highF xs sz ht st.line, out := st.out ++ [lnOf xs sz ht al st.y st.left st.right st.line last] } := by unfold tellG; rw [if_pos h0]
  refine ⟨rfl, Ov', ?_, h.kept_o ho⟩
  rw [e0]
  exact h.o_set h1 h2 ho h8 rfl rfl rfl
set_option maxRecDepth 100000 in
set_option maxHeartbeats 4000000 in
theorem endV_any (xs : List It) (g : Nat) (K : Nat → Prop) (b fp : Nat) (W sz ht al : Int) (st : BG) (Lv Tv Ov Fv : Value) (n m : Nat) (last : Bool) (w : World) (hI : ItK w K g xs) (h : BrV w K b fp g W sz ht al st Lv Tv Ov Fv) (hs : StOk xs st n m) (hn : n ≤ 5000) (hm : m ≤ 50000) (hz : 0 ≤ sz ∧ sz ≤ 16777216) (hh : 0 ≤ ht ∧ ht ≤ 16777216) (hW : 0 ≤ W ∧ W ≤ 16777216) :
    Calls Try.prog 112 #[.pointer (some ⟨b, 0, none⟩), .bool last] w fun e w' => e = .returned (.tuple #[]) ∧ ∃ st' Ov' Fv', EndR xs sz ht al W last st st' ∧ StOk xs st' n (m + 1) ∧ BrV w' K b fp g W sz ht al st' (.slice none 0 0) (.slice none 0 0) Ov' Fv' ∧ Kept K w w' := by
  obtain ⟨A, c, rfl, hp⟩ := pts_own h.line
  have hll := hs.ll
  have HC := hide (contains_told xs g st.line A c w hI.its hp (by omega) hs.line)
  have HT := hide (fun (w2 : World) (h0 : st.line.any (toldF xs) = true) (i2 : ItK w2 K g xs) (b2 : BrV w2 K b fp g W sz ht al st (.slice A st.line.length c) Tv Ov Fv) => tellV_any xs g K b fp W sz ht al st _ Tv Ov Fv n m last w2 i2 b2 hs hn hm h0 hz hh)
  have HST := hide (hs.tell (sz := sz) (al := al) hI.ok hh last)
  have HB := hide h
  have HI := hide hI
  have HN := hide (fun (h0 : ¬ st.line.any (toldF xs) = true) => (show tellG xs sz ht al last st = st from by unfold tellG; rw [if_neg h0]))
  have HBG := hide (fun (w2 : World) (Ov2 : Value) (i2 : ItK w2 K g xs) (b2 : BrV w2 K b fp g W sz ht al { tellG xs sz ht al last st with ind := 0 } (.slice A st.line.length c) Tv Ov2 Fv) => beginV_any xs g K b fp W sz ht al _ _ Tv Ov2 Fv w2 i2.its i2.kg i2.ok b2 HST.out.fs hW HST.out.ind (fun p hp => (HST.out.late p hp).1) (by have := HST.out.lt; omega))
  have HEND := hide (fun (s' : BG) (e : EndR xs sz ht al W last st s') (hf : FsOk s'.fs) => hs.end_ hI.ok hh hW e hf)
  have c8 : w.cell? ⟨b, 8, none⟩ = some (.slice A st.line.length c) := h.blk.cell 8
  clear hI h hs hp hll
  go_enter Try.func112, Try.ntmps112
  go_wp2_with fail
  refine HC.out.mono ?_
  rintro e w1 ⟨rfl, hb1⟩
  have HB1 := hide (HB.out.below hb1)
  have HK1 := hide (Kept.of_below hb1 HB.out.kk)
  have HI1 := hide (HI.out.kept HK1.out)
  clear HC hb1 c8 HB HI
  have key : ∀ (w2 : World) (Ov2 : Value), ItK w2 K g xs → Kept K w w2 → BrV w2 K b fp g W sz ht al (tellG xs sz ht al last st) (.slice A st.line.length c) Tv Ov2 Fv →
      ∃ w3, w3 = w2.setCell ⟨b, 5, none⟩ (.int .i64 0) ∧ w2.cell? ⟨b, 5, none⟩ = some (.int .i64 (tellG xs sz ht al last st).ind) ∧ w2.frozen? ⟨b, 5, none⟩ = false ∧ Hid (Calls Try.prog 108 #[.pointer (some ⟨b, 0, none⟩)] w3 fun e w' => e = .returned (.tuple #[]) ∧ ∃ st' Ov' Fv', EndR xs sz ht al W last st st' ∧ StOk xs st' n (m + 1) ∧ BrV w' K b fp g W sz ht al st' (.slice none 0 0) (.slice none 0 0) Ov' Fv' ∧ Kept K w w') := fun w2 Ov2 i2 k2 b2 => by
    have hg := only_setCell (p := ⟨b, 5, none⟩) (World.grownBy.refl w2 (some b)) (.inl rfl) (.int .i64 0)
    have hk := b2.kept_b hg
    refine ⟨_, rfl, b2.blk.cell 5, b2.blk.frozen 5, (HBG.out _ Ov2 (i2.kept hk) (b2.b_set (st' := { tellG xs sz ht al last st with ind := 0 }) (b2.blk.set_ 5 (.int .i64 0)) hg (.inl ⟨rfl, rfl⟩) (.inl ⟨rfl, rfl⟩) rfl rfl)).mono ?_⟩
    rintro e w' ⟨rfl, st', Fv', e1, e2, e3, e4⟩
    exact ⟨rfl, st', Ov2, Fv', e1, HEND.out st' e1 e2, e3, k2.trans (hk.trans e4)⟩
  have KEY := hide key
  clear key HBG HEND HST
  cases h0 : st.line.any (toldF xs)
  · have hne := HN.out (by rw [h0]; decide)
    obtain ⟨w3, e3, q5, z5, hc⟩ := KEY.out w1 Ov HI1.out HK1.out (by rw [hne]; exact HB1.out)
    have HE3 := hide e3
    clear KEY HT HN hne e3 HB1 HI1 HK1
    go_wp2_with fail
    rw [← HE3.out]
    refine hc.out.mono ?_
    rintro e w5 ⟨rfl, h5⟩
    have H5 := hide h5
    clear h5 hc
    go_wp2_with fail
    go_end0
    exact ⟨rfl, H5.out⟩
  · have HTT := hide (HT.out w1 h0 HI1.out HB1.out)
    clear HT HN
    go_wp2_with fail
    refine HTT.out.mono ?_
    rintro e w2 ⟨rfl, Ov2, hb2, hk2⟩
    obtain ⟨w3, e3, q5, z5, hc⟩ := KEY.out w2 Ov2 (HI1.out.kept hk2) (HK1.out.trans hk2) hb2
    have HE3 := hide e3
    clear KEY HTT e3 HB1 HI1 HK1 hb2 hk2
    go_wp2_with fail
    rw [← HE3.out]
    refine hc.out.mono ?_
    rintro e w5 ⟨rfl, h5⟩
    have H5 := hide h5
    clear h5 hc
    go_wp2_with fail
    go_end0
    exact ⟨rfl, H5.out⟩
end Go.Proofs.Ytadlabndbomgmaa
/- The walk of breaker.lower on the breaker's state. -/
namespace Go.Proofs.Ytadlabndbomgmaa
open Go.ChangeShapes Go.WideShapes Go.ChangeAt Go.RowKit
theorem lowF_take (y : Int) (fs : List Fl) (k : Nat) (hk : k < fs.length) : lowF y (fs.take (k + 1)) = lowStep y (lowF y (fs.take k)) fs[k] := by
  unfold lowF; rw [List.take_succ_eq_append_getElem hk, List.foldl_append]; rfl
theorem lowF_bd (y : Int) (fs : List Fl) (h : ∀ f ∈ fs, -16777216 ≤ f.y + f.h) : -16777216 ≤ lowF y fs ∧ lowF y fs ≤ 16777217 := by
  unfold lowF
  suffices H : ∀ a : Int, -16777216 ≤ a ∧ a ≤ 16777217 → -16777216 ≤ fs.foldl (lowStep y) a ∧ fs.foldl (lowStep y) a ≤ 16777217 from H 16777217 (by omega)
  induction fs with
  | nil => intro a h; exact h
  | cons f fs ih =>
    intro a ha
    refine ih (fun q hq => h q (by simp [hq])) _ ?_
    have := h f (by simp)
    unfold lowStep
    split <;> omega
def lowRes (ht W : Int) (st : BG) : BG := if noLow W st = true then st else lowG ht W st
theorem lowRes_no {ht W : Int} {st : BG} (h : noLow W st = true) : lowRes ht W st = st := if_pos h
theorem lowRes_yes {ht W : Int} {st : BG} (h : noLow W st = false) : lowRes ht W st = lowG ht W st := if_neg (by rw [h]; decide)
theorem fwidth_any (fp : Nat) (W : Int) (Fv : Value) (w : World) (hb : Blk w fp 118 #[.int .i64 W, Fv]) : Calls Try.prog 38 #[.pointer (some ⟨fp, 0, none⟩)] w fun e w' => e = .returned (.int .i64 W) ∧ w = w' := by
  have c0 : w.cell? ⟨fp, 0, none⟩ = some (.int .i64 W) := hb.cell 0
  go_enter Try.func38, Try.ntmps38
  go_wp2_with fail
  go_ret
  exact ⟨rfl, rfl⟩
set_option maxRecDepth 100000 in
set_option maxHeartbeats 4000000 in
theorem lowerV_any (g : Nat) (K : Nat → Prop) (b fp : Nat) (W sz ht al : Int) (st : BG) (Lv Tv Ov Fv : Value) (w : World) (h : BrV w K b fp g W sz ht al st Lv Tv Ov Fv) (hf : FsOk st.fs) (hW : 0 ≤ W ∧ W ≤ 16777216) (hi : -16777216 ≤ st.ind ∧ st.ind ≤ 16777216) :
    Calls Try.prog 139 #[.pointer (some ⟨b, 0, none⟩)] w fun e w' => e = .returned (.bool (!noLow W st)) ∧ BrV w' K b fp g W sz ht al (lowRes ht W st) Lv Tv Ov Fv ∧ Kept K w w' := by
  have HB := hide h
  have HF := hide hf
  have e0 : max 0 (cut 16777216) = 16777216 := by decide
  clear h hf
  go_enter Try.func139, Try.ntmps139
  go_wp2_with fail
  refine (New_any 16777216 w).mono ?_
  rintro e w1 ⟨rfl, hf1, hb1⟩
  rw [e0] at hf1
  have HF1 := hide hf1
  clear hf1 e0
  go_wp2_with fail
  refine (Edges_any _ _ 0 0 16777216 [] w1 HF1.out (by decide) (fun f hf => by cases hf)).mono ?_
  rintro e w2 ⟨rfl, hb2⟩
  have b2 := below_on hb1 hb2
  have ee : edgesF 16777216 (cut 0) (cut 0) [] = (0, 16777216, false) := by decide
  rw [ee]
  clear ee HF1 hb1 hb2
  have HB2 := hide (HB.out.below b2)
  have c0 : w2.cell? ⟨b, 0, none⟩ = some (.pointer (some ⟨fp, 0, none⟩)) := HB2.out.blk.cell 0
  go_wp2_with fail
  refine (fAll_any fp 0 W st.fs w2 HB2.out.floats HF.out.1).mono ?_
  rintro e w3 ⟨v3, rfl, own3, hb3⟩
  obtain ⟨A3, c3, rfl, _, _⟩ := own_reads own3
  have HO3 := hide own3
  have b3 := below_on b2 hb3
  have HK := hide (fun (k : Nat) (hk : k < st.fs.length) => lowF_take st.y st.fs k hk)
  have HLB := hide (fun (k : Nat) => lowF_bd st.y (st.fs.take k) (fun f hf => by have := (HF.out.2 f (List.mem_of_mem_take hf)).1; unfold FlBd at this; omega))
  clear own3 c0 b2 HB2 hb3
  go_wp2_with fail
  go_loopw [5, 7, 21] (fun lv _ i wr => ∃ k : Nat, k ≤ st.fs.length ∧ i = .int .i64 k ∧ lv = .int .i64 (lowF st.y (st.fs.take k)) ∧ Below w3.heap.size w3 wr) (fun _ _ i _ => st.fs.length - (intOf i).toNat)
  case atStart => exact ⟨0, Nat.zero_le _, rfl, rfl, Below.refl _ _⟩
  case round =>
    obtain ⟨k, hk, rfl, rfl, hbel⟩ := hrel
    by_cases hlt : k < st.fs.length
    · obtain ⟨q, rfl, _, hq, f0, f1, f2, f3⟩ := rectCell HO3.out hlt rfl
      have d0 := (hbel.cell (p := ⟨q, k * 4, none⟩) hq).trans f0
      have d1 := (hbel.cell (p := ⟨q, k * 4 + 1, none⟩) hq).trans f1
      have d2 := (hbel.cell (p := ⟨q, k * 4 + 2, none⟩) hq).trans f2
      have d3 := (hbel.cell (p := ⟨q, k * 4 + 3, none⟩) hq).trans f3
      have hfo := (HF.out.2 _ (List.getElem_mem hlt)).1
      unfold FlBd at hfo
      have e1 := hide (HK.out k hlt)
      have h200 := HF.out.1
      have hlb := HLB.out k
      generalize st.fs[k] = f at *
      obtain ⟨fx, fy, fw, fh, fsd⟩ := f
      clear f0 f1 f2 f3
      dsimp only at d0 d1 d2 d3 hfo
      generalize lowF st.y (st.fs.take k) = l at *
      have HBr := hide (HB.out.below (b3.trans (hbel.mono b3.size)))
      have c1 : (wr.alloc (.cells #[.int .i64 fx, .int .i64 fy, .int .i64 fw, .int .i64 fh] 39)).drew.cell? ⟨b, 1, none⟩ = some (.int .i64 st.y) := (HBr.out.blk.alloc _).cell 1
      have HX := hide (Blk.new wr 39 #[.int .i64 fx, .int .i64 fy, .int .i64 fw, .int .i64 fh])
      have x1 : (wr.alloc (.cells #[.int .i64 fx, .int .i64 fy, .int .i64 fw, .int .i64 fh] 39)).drew.cell? ⟨wr.heap.size, 1, none⟩ = some (.int .i64 fy) := HX.out.cell 1
      have x3 : (wr.alloc (.cells #[.int .i64 fx, .int .i64 fy, .int .i64 fw, .int .i64 fh] 39)).drew.cell? ⟨wr.heap.size, 3, none⟩ = some (.int .i64 fh) := HX.out.cell 3
      have y1 : IntKind.i64.wrap (fy + fh) = fy + fh := IntWalk.i64_in _ (by omega)
      have b5 := (hbel.alloc hbel.size (.cells #[.int .i64 fx, .int .i64 fy, .int .i64 fw, .int .i64 fh] 39)).drew
      go_wp2_with fail
      by_cases h1 : 0 < fh
      · by_cases h2 : st.y < fy + fh
        · have e2 := hide (show lowF st.y (st.fs.take (k + 1)) = min l (fy + fh) from by rw [e1.out]; exact if_pos ⟨h1, h2⟩)
          have q1 := decide_eq_true h1
          have q2 := decide_eq_true h2
          clear e1 HB HF HK HLB HO3 HBr HX d0 d1 d2 d3
          refine wp_region_HL 15 #[false, false, false, false, false, false, false, false, false, false, false, false, false, false, false] (by kernel_rfl) (by kernel_rfl) (S := fun Z => Z.cell? ⟨b, 1, none⟩ = some (.int .i64 st.y) ∧ Z.cell? ⟨wr.heap.size, 1, none⟩ = some (.int .i64 fy) ∧ Z.cell? ⟨wr.heap.size, 3, none⟩ = some (.int .i64 fh)) (by kernel_rfl) ⟨c1, x1, x3⟩ (fun hHeld => ?_)
          generalize (wr.alloc (.cells #[.int .i64 fx, .int .i64 fy, .int .i64 fw, .int .i64 fh] 39)).drew = wB at *
          refine take_at (i := 0) (v := (Value.pointer (some ⟨wr.heap.size, 3, none⟩))) (some 25) rfl rfl (by kernel_rfl) (by kernel_rfl) (by kernel_rfl) (fun _ _ _ h => h) (yieldsIf_faddr (by rfl) 39 _ 3 rfl _ _ 3 rfl (by kernel_rfl)) hHeld ?_
          simp only [Act.put, List.setIfInBounds_toArray, List.set_cons_zero, List.set_cons_succ]
          refine take_at (i := 1) (v := (.int .i64 fh)) (some 26) rfl rfl (by kernel_rfl) (by kernel_rfl) (by kernel_rfl) (fun _ _ _ h => h) (yieldsIf_load1 (by rfl) 3 _ rfl _ _ _ rfl (by kernel_rfl) (fun _ h => h.2.2)) hHeld ?_
          simp only [Act.put, List.setIfInBounds_toArray, List.set_cons_zero, List.set_cons_succ]
          refine take_at (i := 2) (v := (.bool true)) (some 27) rfl rfl (by kernel_rfl) (by kernel_rfl) (by kernel_rfl) (fun _ _ _ h => h) (Or.inl ⟨by rfl, fun W hW => ?_⟩) hHeld ?_
          · go_simp
          simp only [Act.put, List.setIfInBounds_toArray, List.set_cons_zero, List.set_cons_succ]
          refine take_at (i := 3) (v := (.bool true)) (some 28) rfl rfl (by kernel_rfl) (by kernel_rfl) (by kernel_rfl) (fun _ _ _ h => h) (yieldsIf_move (by rfl) _ rfl _ rfl) hHeld ?_
          simp only [Act.put, List.setIfInBounds_toArray, List.set_cons_zero, List.set_cons_succ]
          refine take_at (i := 4) (v := (Value.pointer (some ⟨wr.heap.size, 1, none⟩))) (some 29) rfl rfl (by kernel_rfl) (by kernel_rfl) (by kernel_rfl) (fun _ _ _ h => h) (yieldsIf_faddr (by kernel_rfl) 39 _ 1 rfl _ _ 1 rfl (by kernel_rfl)) hHeld ?_
          simp only [Act.put, List.setIfInBounds_toArray, List.set_cons_zero, List.set_cons_succ]
          refine take_at (i := 5) (v := (.int .i64 fy)) (some 30) rfl rfl (by kernel_rfl) (by kernel_rfl) (by kernel_rfl) (fun _ _ _ h => h) (yieldsIf_load1 (by kernel_rfl) 3 _ rfl _ _ _ rfl (by kernel_rfl) (fun _ h => h.2.1)) hHeld ?_
          simp only [Act.put, List.setIfInBounds_toArray, List.set_cons_zero, List.set_cons_succ]
          refine take_at (i := 6) (v := (Value.pointer (some ⟨wr.heap.size, 3, none⟩))) (some 31) rfl rfl (by kernel_rfl) (by kernel_rfl) (by kernel_rfl) (fun _ _ _ h => h) (yieldsIf_faddr (by kernel_rfl) 39 _ 3 rfl _ _ 3 rfl (by kernel_rfl)) hHeld ?_
          simp only [Act.put, List.setIfInBounds_toArray, List.set_cons_zero, List.set_cons_succ]
          refine take_at (i := 7) (v := (.int .i64 fh)) (some 32) rfl rfl (by kernel_rfl) (by kernel_rfl) (by kernel_rfl) (fun _ _ _ h => h) (yieldsIf_load1 (by kernel_rfl) 3 _ rfl _ _ _ rfl (by kernel_rfl) (fun _ h => h.2.2)) hHeld ?_
          simp only [Act.put, List.setIfInBounds_toArray, List.set_cons_zero, List.set_cons_succ]
          refine take_at (i := 8) (v := (.int .i64 (fy + fh))) (some 33) rfl rfl (by kernel_rfl) (by kernel_rfl) (by kernel_rfl) (fun _ _ _ h => h) (Or.inl ⟨by kernel_rfl, fun W hW => ?_⟩) hHeld ?_
          · go_simp
          simp only [Act.put, List.setIfInBounds_toArray, List.set_cons_zero, List.set_cons_succ]
          refine take_at (i := 9) (v := (Value.pointer (some ⟨b, 0, none⟩))) (some 34) rfl rfl (by kernel_rfl) (by kernel_rfl) (by kernel_rfl) (fun _ _ _ h => h) (yieldsIf_move (by kernel_rfl) _ rfl _ rfl) hHeld ?_
          simp only [Act.put, List.setIfInBounds_toArray, List.set_cons_zero, List.set_cons_succ]
          refine take_at (i := 10) (v := (Value.pointer (some ⟨b, 0, none⟩))) (some 35) rfl rfl (by kernel_rfl) (by kernel_rfl) (by kernel_rfl) (fun _ _ _ h => h) (yieldsIf_nil (by kernel_rfl) _ rfl _ rfl) hHeld ?_
          simp only [Act.put, List.setIfInBounds_toArray, List.set_cons_zero, List.set_cons_succ]
          refine take_at (i := 11) (v := (Value.pointer (some ⟨b, 1, none⟩))) (some 36) rfl rfl (by kernel_rfl) (by kernel_rfl) (by kernel_rfl) (fun _ _ _ h => h) (yieldsIf_faddr (by kernel_rfl) 174 _ 1 rfl _ _ 1 rfl (by kernel_rfl)) hHeld ?_
          simp only [Act.put, List.setIfInBounds_toArray, List.set_cons_zero, List.set_cons_succ]
          refine take_at (i := 12) (v := (.int .i64 st.y)) (some 37) rfl rfl (by kernel_rfl) (by kernel_rfl) (by kernel_rfl) (fun _ _ _ h => h) (yieldsIf_load1 (by kernel_rfl) 3 _ rfl _ _ _ rfl (by kernel_rfl) (fun _ h => h.1)) hHeld ?_
          simp only [Act.put, List.setIfInBounds_toArray, List.set_cons_zero, List.set_cons_succ]
          refine take_at (i := 13) (v := (.bool true)) (some 38) rfl rfl (by kernel_rfl) (by kernel_rfl) (by kernel_rfl) (fun _ _ _ h => h) (Or.inl ⟨by kernel_rfl, fun W hW => ?_⟩) hHeld ?_
          · go_simp
          simp only [Act.put, List.setIfInBounds_toArray, List.set_cons_zero, List.set_cons_succ]
          refine take_at (i := 14) (v := (.bool true)) (some 39) rfl rfl (by kernel_rfl) (by kernel_rfl) (by kernel_rfl) (fun _ _ _ h => h) (Or.inl ⟨by rfl, fun W hW => ?_⟩) hHeld ?_
          · go_simp
          simp only [Act.put, List.setIfInBounds_toArray, List.set_cons_zero, List.set_cons_succ]
          refine wpAnyH_done (by kernel_rfl) ?_ _
          have x1' := hHeld.2.1
          have x3' := hHeld.2.2
          go_wp2_with fail
          go_roundw
          case rel => exact ⟨k + 1, by omega, by go_num, by rw [e2.out], b5⟩
          case measure => simp only [intOf]; omega
        · have e2 := hide (show lowF st.y (st.fs.take (k + 1)) = l from by rw [e1.out]; exact if_neg (fun h => h2 h.2))
          have q1 := decide_eq_true h1
          have q2 := decide_eq_false h2
          clear e1 HB HF HK HLB HO3 HBr HX d0 d1 d2 d3
          refine wp_region_HL 15 #[false, false, false, false, false, false, false, false, false, false, false, false, false, false, false] (by kernel_rfl) (by kernel_rfl) (S := fun Z => Z.cell? ⟨b, 1, none⟩ = some (.int .i64 st.y) ∧ Z.cell? ⟨wr.heap.size, 1, none⟩ = some (.int .i64 fy) ∧ Z.cell? ⟨wr.heap.size, 3, none⟩ = some (.int .i64 fh)) (by kernel_rfl) ⟨c1, x1, x3⟩ (fun hHeld => ?_)
          generalize (wr.alloc (.cells #[.int .i64 fx, .int .i64 fy, .int .i64 fw, .int .i64 fh] 39)).drew = wB at *
          refine take_at (i := 0) (v := (Value.pointer (some ⟨wr.heap.size, 3, none⟩))) (some 25) rfl rfl (by kernel_rfl) (by kernel_rfl) (by kernel_rfl) (fun _ _ _ h => h) (yieldsIf_faddr (by rfl) 39 _ 3 rfl _ _ 3 rfl (by kernel_rfl)) hHeld ?_
          simp only [Act.put, List.setIfInBounds_toArray, List.set_cons_zero, List.set_cons_succ]
          refine take_at (i := 1) (v := (.int .i64 fh)) (some 26) rfl rfl (by kernel_rfl) (by kernel_rfl) (by kernel_rfl) (fun _ _ _ h => h) (yieldsIf_load1 (by rfl) 3 _ rfl _ _ _ rfl (by kernel_rfl) (fun _ h => h.2.2)) hHeld ?_
          simp only [Act.put, List.setIfInBounds_toArray, List.set_cons_zero, List.set_cons_succ]
          refine take_at (i := 2) (v := (.bool true)) (some 27) rfl rfl (by kernel_rfl) (by kernel_rfl) (by kernel_rfl) (fun _ _ _ h => h) (Or.inl ⟨by rfl, fun W hW => ?_⟩) hHeld ?_
          · go_simp
          simp only [Act.put, List.setIfInBounds_toArray, List.set_cons_zero, List.set_cons_succ]
          refine take_at (i := 3) (v := (.bool true)) (some 28) rfl rfl (by kernel_rfl) (by kernel_rfl) (by kernel_rfl) (fun _ _ _ h => h) (yieldsIf_move (by rfl) _ rfl _ rfl) hHeld ?_
          simp only [Act.put, List.setIfInBounds_toArray, List.set_cons_zero, List.set_cons_succ]
          refine take_at (i := 4) (v := (Value.pointer (some ⟨wr.heap.size, 1, none⟩))) (some 29) rfl rfl (by kernel_rfl) (by kernel_rfl) (by kernel_rfl) (fun _ _ _ h => h) (yieldsIf_faddr (by kernel_rfl) 39 _ 1 rfl _ _ 1 rfl (by kernel_rfl)) hHeld ?_
          simp only [Act.put, List.setIfInBounds_toArray, List.set_cons_zero, List.set_cons_succ]
          refine take_at (i := 5) (v := (.int .i64 fy)) (some 30) rfl rfl (by kernel_rfl) (by kernel_rfl) (by kernel_rfl) (fun _ _ _ h => h) (yieldsIf_load1 (by kernel_rfl) 3 _ rfl _ _ _ rfl (by kernel_rfl) (fun _ h => h.2.1)) hHeld ?_
          simp only [Act.put, List.setIfInBounds_toArray, List.set_cons_zero, List.set_cons_succ]
          refine take_at (i := 6) (v := (Value.pointer (some ⟨wr.heap.size, 3, none⟩))) (some 31) rfl rfl (by kernel_rfl) (by kernel_rfl) (by kernel_rfl) (fun _ _ _ h => h) (yieldsIf_faddr (by kernel_rfl) 39 _ 3 rfl _ _ 3 rfl (by kernel_rfl)) hHeld ?_
          simp only [Act.put, List.setIfInBounds_toArray, List.set_cons_zero, List.set_cons_succ]
          refine take_at (i := 7) (v := (.int .i64 fh)) (some 32) rfl rfl (by kernel_rfl) (by kernel_rfl) (by kernel_rfl) (fun _ _ _ h => h) (yieldsIf_load1 (by kernel_rfl) 3 _ rfl _ _ _ rfl (by kernel_rfl) (fun _ h => h.2.2)) hHeld ?_
          simp only [Act.put, List.setIfInBounds_toArray, List.set_cons_zero, List.set_cons_succ]
          refine take_at (i := 8) (v := (.int .i64 (fy + fh))) (some 33) rfl rfl (by kernel_rfl) (by kernel_rfl) (by kernel_rfl) (fun _ _ _ h => h) (Or.inl ⟨by kernel_rfl, fun W hW => ?_⟩) hHeld ?_
          · go_simp
          simp only [Act.put, List.setIfInBounds_toArray, List.set_cons_zero, List.set_cons_succ]
          refine take_at (i := 9) (v := (Value.pointer (some ⟨b, 0, none⟩))) (some 34) rfl rfl (by kernel_rfl) (by kernel_rfl) (by kernel_rfl) (fun _ _ _ h => h) (yieldsIf_move (by kernel_rfl) _ rfl _ rfl) hHeld ?_
          simp only [Act.put, List.setIfInBounds_toArray, List.set_cons_zero, List.set_cons_succ]
          refine take_at (i := 10) (v := (Value.pointer (some ⟨b, 0, none⟩))) (some 35) rfl rfl (by kernel_rfl) (by kernel_rfl) (by kernel_rfl) (fun _ _ _ h => h) (yieldsIf_nil (by kernel_rfl) _ rfl _ rfl) hHeld ?_
          simp only [Act.put, List.setIfInBounds_toArray, List.set_cons_zero, List.set_cons_succ]
          refine take_at (i := 11) (v := (Value.pointer (some ⟨b, 1, none⟩))) (some 36) rfl rfl (by kernel_rfl) (by kernel_rfl) (by kernel_rfl) (fun _ _ _ h => h) (yieldsIf_faddr (by kernel_rfl) 174 _ 1 rfl _ _ 1 rfl (by kernel_rfl)) hHeld ?_
          simp only [Act.put, List.setIfInBounds_toArray, List.set_cons_zero, List.set_cons_succ]
          refine take_at (i := 12) (v := (.int .i64 st.y)) (some 37) rfl rfl (by kernel_rfl) (by kernel_rfl) (by kernel_rfl) (fun _ _ _ h => h) (yieldsIf_load1 (by kernel_rfl) 3 _ rfl _ _ _ rfl (by kernel_rfl) (fun _ h => h.1)) hHeld ?_
          simp only [Act.put, List.setIfInBounds_toArray, List.set_cons_zero, List.set_cons_succ]
          refine take_at (i := 13) (v := (.bool false)) (some 38) rfl rfl (by kernel_rfl) (by kernel_rfl) (by kernel_rfl) (fun _ _ _ h => h) (Or.inl ⟨by kernel_rfl, fun W hW => ?_⟩) hHeld ?_
          · go_simp
          simp only [Act.put, List.setIfInBounds_toArray, List.set_cons_zero, List.set_cons_succ]
          refine take_at (i := 14) (v := (.bool false)) (some 39) rfl rfl (by kernel_rfl) (by kernel_rfl) (by kernel_rfl) (fun _ _ _ h => h) (Or.inl ⟨by rfl, fun W hW => ?_⟩) hHeld ?_
          · go_simp
          simp only [Act.put, List.setIfInBounds_toArray, List.set_cons_zero, List.set_cons_succ]
          refine wpAnyH_done (by kernel_rfl) ?_ _
          go_wp2_with fail
          go_roundw
          case rel => exact ⟨k + 1, by omega, by go_num, by rw [e2.out], b5⟩
          case measure => simp only [intOf]; omega
      · have e2 := hide (show lowF st.y (st.fs.take (k + 1)) = l from by rw [e1.out]; exact if_neg (fun h => h1 h.1))
        have q1 := decide_eq_false h1
        clear e1 HB HF HK HLB HO3 HBr HX d0 d1 d2 d3
        refine wp_region_HL 15 #[false, false, false, false, false, false, false, false, false, false, false, false, false, false, false] (by kernel_rfl) (by kernel_rfl) (S := fun Z => Z.cell? ⟨b, 1, none⟩ = some (.int .i64 st.y) ∧ Z.cell? ⟨wr.heap.size, 1, none⟩ = some (.int .i64 fy) ∧ Z.cell? ⟨wr.heap.size, 3, none⟩ = some (.int .i64 fh)) (by kernel_rfl) ⟨c1, x1, x3⟩ (fun hHeld => ?_)
        generalize (wr.alloc (.cells #[.int .i64 fx, .int .i64 fy, .int .i64 fw, .int .i64 fh] 39)).drew = wB at *
        refine take_at (i := 0) (v := (Value.pointer (some ⟨wr.heap.size, 3, none⟩))) (some 25) rfl rfl (by kernel_rfl) (by kernel_rfl) (by kernel_rfl) (fun _ _ _ h => h) (yieldsIf_faddr (by rfl) 39 _ 3 rfl _ _ 3 rfl (by kernel_rfl)) hHeld ?_
        simp only [Act.put, List.setIfInBounds_toArray, List.set_cons_zero, List.set_cons_succ]
        refine take_at (i := 1) (v := (.int .i64 fh)) (some 26) rfl rfl (by kernel_rfl) (by kernel_rfl) (by kernel_rfl) (fun _ _ _ h => h) (yieldsIf_load1 (by rfl) 3 _ rfl _ _ _ rfl (by kernel_rfl) (fun _ h => h.2.2)) hHeld ?_
        simp only [Act.put, List.setIfInBounds_toArray, List.set_cons_zero, List.set_cons_succ]
        refine take_at (i := 2) (v := (.bool false)) (some 27) rfl rfl (by kernel_rfl) (by kernel_rfl) (by kernel_rfl) (fun _ _ _ h => h) (Or.inl ⟨by rfl, fun W hW => ?_⟩) hHeld ?_
        · go_simp
        simp only [Act.put, List.setIfInBounds_toArray, List.set_cons_zero, List.set_cons_succ]
        refine take_at (i := 3) (v := (.bool false)) (some 28) rfl rfl (by kernel_rfl) (by kernel_rfl) (by kernel_rfl) (fun _ _ _ h => h) (yieldsIf_move (by rfl) _ rfl _ rfl) hHeld ?_
        simp only [Act.put, List.setIfInBounds_toArray, List.set_cons_zero, List.set_cons_succ]
        refine skipH (i := 4) (some 29) rfl rfl (by kernel_rfl) (by kernel_rfl) (by kernel_rfl) (fun _ _ _ h => h) (by kernel_rfl) hHeld ?_
        simp only [Act.put, List.setIfInBounds_toArray, List.set_cons_zero, List.set_cons_succ]
        refine skipH (i := 5) (some 30) rfl rfl (by kernel_rfl) (by kernel_rfl) (by kernel_rfl) (fun _ _ _ h => h) (by kernel_rfl) hHeld ?_
        simp only [Act.put, List.setIfInBounds_toArray, List.set_cons_zero, List.set_cons_succ]
        refine skipH (i := 6) (some 31) rfl rfl (by kernel_rfl) (by kernel_rfl) (by kernel_rfl) (fun _ _ _ h => h) (by kernel_rfl) hHeld ?_
        simp only [Act.put, List.setIfInBounds_toArray, List.set_cons_zero, List.set_cons_succ]
        refine skipH (i := 7) (some 32) rfl rfl (by kernel_rfl) (by kernel_rfl) (by kernel_rfl) (fun _ _ _ h => h) (by kernel_rfl) hHeld ?_
        simp only [Act.put, List.setIfInBounds_toArray, List.set_cons_zero, List.set_cons_succ]
        refine skipH (i := 8) (some 33) rfl rfl (by kernel_rfl) (by kernel_rfl) (by kernel_rfl) (fun _ _ _ h => h) (by kernel_rfl) hHeld ?_
        simp only [Act.put, List.setIfInBounds_toArray, List.set_cons_zero, List.set_cons_succ]
        refine skipH (i := 9) (some 34) rfl rfl (by kernel_rfl) (by kernel_rfl) (by kernel_rfl) (fun _ _ _ h => h) (by kernel_rfl) hHeld ?_
        simp only [Act.put, List.setIfInBounds_toArray, List.set_cons_zero, List.set_cons_succ]
        refine skipH (i := 10) (some 35) rfl rfl (by kernel_rfl) (by kernel_rfl) (by kernel_rfl) (fun _ _ _ h => h) (by kernel_rfl) hHeld ?_
        simp only [Act.put, List.setIfInBounds_toArray, List.set_cons_zero, List.set_cons_succ]
        refine skipH (i := 11) (some 36) rfl rfl (by kernel_rfl) (by kernel_rfl) (by kernel_rfl) (fun _ _ _ h => h) (by kernel_rfl) hHeld ?_
        simp only [Act.put, List.setIfInBounds_toArray, List.set_cons_zero, List.set_cons_succ]
        refine skipH (i := 12) (some 37) rfl rfl (by kernel_rfl) (by kernel_rfl) (by kernel_rfl) (fun _ _ _ h => h) (by kernel_rfl) hHeld ?_
        simp only [Act.put, List.setIfInBounds_toArray, List.set_cons_zero, List.set_cons_succ]
        refine skipH (i := 13) (some 38) rfl rfl (by kernel_rfl) (by kernel_rfl) (by kernel_rfl) (fun _ _ _ h => h) (by kernel_rfl) hHeld ?_
        simp only [Act.put, List.setIfInBounds_toArray, List.set_cons_zero, List.set_cons_succ]
        refine take_at (i := 14) (v := (.bool false)) (some 39) rfl rfl (by kernel_rfl) (by kernel_rfl) (by kernel_rfl) (fun _ _ _ h => h) (Or.inl ⟨by rfl, fun W hW => ?_⟩) hHeld ?_
        · go_simp
        simp only [Act.put, List.setIfInBounds_toArray, List.set_cons_zero, List.set_cons_succ]
        refine wpAnyH_done (by kernel_rfl) ?_ _
        go_wp2_with fail
        go_roundw
        case rel => exact ⟨k + 1, by omega, by go_num, by rw [e2.out], b5⟩
        case measure => simp only [intOf]; omega
    · obtain rfl : k = st.fs.length := by omega
      have HLL := HLB.out st.fs.length
      have b4 := b3.trans (hbel.mono b3.size)
      have HBr := hide (HB.out.below b4)
      have HN := hide (show noLow W st = (decide (16777216 < lowF st.y st.fs) || (st.left == st.ind && st.right == W)) from rfl)
      have HLG := hide (show lowG ht W st = endsG ht W { st with y := lowF st.y st.fs } from rfl)
      rw [List.take_length] at HLL ⊢
      have HFL := hide HF.out
      clear HLB HK HO3 hk hlt HF
      generalize lowF st.y st.fs = l at *
      go_wp2_with fail
      have c6 : wr.drew.cell? ⟨b, 6, none⟩ = some (.int .i64 st.left) := HBr.out.blk.cell 6
      have c5 : wr.drew.cell? ⟨b, 5, none⟩ = some (.int .i64 st.ind) := HBr.out.blk.cell 5
      have c7 : wr.drew.cell? ⟨b, 7, none⟩ = some (.int .i64 st.right) := HBr.out.blk.cell 7
      have c0 : wr.drew.cell? ⟨b, 0, none⟩ = some (.pointer (some ⟨fp, 0, none⟩)) := HBr.out.blk.cell 0
      have HKr := hide (Kept.of_below b4.drew HB.out.kk)
      replace HBr := hide (HBr.out.below ((Below.refl wr.heap.size wr).drew))
      clear b3 hbel b4 HB
      by_cases h1 : 16777216 < l
      · have q1 := decide_eq_true h1
        have e2 := hide (show noLow W st = true from by rw [HN.out, q1]; rfl)
        refine wp_region_HL 26 #[false, false, false, false, false, false, false, false, false, false, false, false, false, false, false, false, false, false, false, false, false, false, false, false, false, false] (by kernel_rfl) (by kernel_rfl) (S := fun Z => Z.cell? ⟨b, 6, none⟩ = some (.int .i64 st.left) ∧ Z.cell? ⟨b, 5, none⟩ = some (.int .i64 st.ind) ∧ Z.cell? ⟨b, 7, none⟩ = some (.int .i64 st.right) ∧ Z.cell? ⟨b, 0, none⟩ = some (.pointer (some ⟨fp, 0, none⟩)) ∧ Blk Z fp 118 #[.int .i64 W, Fv]) (by kernel_rfl) ⟨c6, c5, c7, c0, HBr.out.flo⟩ (fun hHeld => ?_)
        generalize wr.drew = wB at *
        refine take_at (i := 0) (v := (.int .i64 l)) (some 48) rfl rfl (by kernel_rfl) (by kernel_rfl) (by kernel_rfl) (fun _ _ _ h => h) (yieldsIf_move (by rfl) _ rfl _ rfl) hHeld ?_
        simp only [Act.put, List.setIfInBounds_toArray, List.set_cons_zero, List.set_cons_succ]
        refine take_at (i := 1) (v := (.int .i64 16777216)) (some 49) rfl rfl (by kernel_rfl) (by kernel_rfl) (by kernel_rfl) (fun _ _ _ h => h) (yieldsIf_move (by rfl) _ rfl _ rfl) hHeld ?_
        simp only [Act.put, List.setIfInBounds_toArray, List.set_cons_zero, List.set_cons_succ]
        refine take_at (i := 2) (v := (.bool true)) (some 50) rfl rfl (by kernel_rfl) (by kernel_rfl) (by kernel_rfl) (fun _ _ _ h => h) (Or.inl ⟨by rfl, fun W hW => ?_⟩) hHeld ?_
        · go_simp
        simp only [Act.put, List.setIfInBounds_toArray, List.set_cons_zero, List.set_cons_succ]
        refine take_at (i := 3) (v := (.bool true)) (some 51) rfl rfl (by kernel_rfl) (by kernel_rfl) (by kernel_rfl) (fun _ _ _ h => h) (yieldsIf_move (by rfl) _ rfl _ rfl) hHeld ?_
        simp only [Act.put, List.setIfInBounds_toArray, List.set_cons_zero, List.set_cons_succ]
        refine skipH (i := 4) (some 52) rfl rfl (by kernel_rfl) (by kernel_rfl) (by kernel_rfl) (fun _ _ _ h => h) (by kernel_rfl) hHeld ?_
        simp only [Act.put, List.setIfInBounds_toArray, List.set_cons_zero, List.set_cons_succ]
        refine skipH (i := 5) (some 53) rfl rfl (by kernel_rfl) (by kernel_rfl) (by kernel_rfl) (fun _ _ _ h => h) (by kernel_rfl) hHeld ?_
        simp only [Act.put, List.setIfInBounds_toArray, List.set_cons_zero, List.set_cons_succ]
        refine skipH (i := 6) (some 54) rfl rfl (by kernel_rfl) (by kernel_rfl) (by kernel_rfl) (fun _ _ _ h => h) (by kernel_rfl) hHeld ?_
        simp only [Act.put, List.setIfInBounds_toArray, List.set_cons_zero, List.set_cons_succ]
        refine skipH (i := 7) (some 55) rfl rfl (by kernel_rfl) (by kernel_rfl) (by kernel_rfl) (fun _ _ _ h => h) (by kernel_rfl) hHeld ?_
        simp only [Act.put, List.setIfInBounds_toArray, List.set_cons_zero, List.set_cons_succ]
        refine skipH (i := 8) (some 56) rfl rfl (by kernel_rfl) (by kernel_rfl) (by kernel_rfl) (fun _ _ _ h => h) (by kernel_rfl) hHeld ?_
        simp only [Act.put, List.setIfInBounds_toArray, List.set_cons_zero, List.set_cons_succ]
        refine skipH (i := 9) (some 57) rfl rfl (by kernel_rfl) (by kernel_rfl) (by kernel_rfl) (fun _ _ _ h => h) (by kernel_rfl) hHeld ?_
        simp only [Act.put, List.setIfInBounds_toArray, List.set_cons_zero, List.set_cons_succ]
        refine skipH (i := 10) (some 58) rfl rfl (by kernel_rfl) (by kernel_rfl) (by kernel_rfl) (fun _ _ _ h => h) (by kernel_rfl) hHeld ?_
        simp only [Act.put, List.setIfInBounds_toArray, List.set_cons_zero, List.set_cons_succ]
        refine skipH (i := 11) (some 59) rfl rfl (by kernel_rfl) (by kernel_rfl) (by kernel_rfl) (fun _ _ _ h => h) (by kernel_rfl) hHeld ?_
        simp only [Act.put, List.setIfInBounds_toArray, List.set_cons_zero, List.set_cons_succ]
        refine skipH (i := 12) (some 60) rfl rfl (by kernel_rfl) (by kernel_rfl) (by kernel_rfl) (fun _ _ _ h => h) (by kernel_rfl) hHeld ?_
        simp only [Act.put, List.setIfInBounds_toArray, List.set_cons_zero, List.set_cons_succ]
        refine skipH (i := 13) (some 61) rfl rfl (by kernel_rfl) (by kernel_rfl) (by kernel_rfl) (fun _ _ _ h => h) (by kernel_rfl) hHeld ?_
        simp only [Act.put, List.setIfInBounds_toArray, List.set_cons_zero, List.set_cons_succ]
        refine skipH (i := 14) (some 62) rfl rfl (by kernel_rfl) (by kernel_rfl) (by kernel_rfl) (fun _ _ _ h => h) (by kernel_rfl) hHeld ?_
        simp only [Act.put, List.setIfInBounds_toArray, List.set_cons_zero, List.set_cons_succ]
        refine skipH (i := 15) (some 63) rfl rfl (by kernel_rfl) (by kernel_rfl) (by kernel_rfl) (fun _ _ _ h => h) (by kernel_rfl) hHeld ?_
        simp only [Act.put, List.setIfInBounds_toArray, List.set_cons_zero, List.set_cons_succ]
        refine skipH (i := 16) (some 64) rfl rfl (by kernel_rfl) (by kernel_rfl) (by kernel_rfl) (fun _ _ _ h => h) (by kernel_rfl) hHeld ?_
        simp only [Act.put, List.setIfInBounds_toArray, List.set_cons_zero, List.set_cons_succ]
        refine skipH (i := 17) (some 65) rfl rfl (by kernel_rfl) (by kernel_rfl) (by kernel_rfl) (fun _ _ _ h => h) (by kernel_rfl) hHeld ?_
        simp only [Act.put, List.setIfInBounds_toArray, List.set_cons_zero, List.set_cons_succ]
        refine skipH (i := 18) (some 66) rfl rfl (by kernel_rfl) (by kernel_rfl) (by kernel_rfl) (fun _ _ _ h => h) (by kernel_rfl) hHeld ?_
        simp only [Act.put, List.setIfInBounds_toArray, List.set_cons_zero, List.set_cons_succ]
        refine skipH (i := 19) (some 67) rfl rfl (by kernel_rfl) (by kernel_rfl) (by kernel_rfl) (fun _ _ _ h => h) (by kernel_rfl) hHeld ?_
        simp only [Act.put, List.setIfInBounds_toArray, List.set_cons_zero, List.set_cons_succ]
        refine skipH (i := 20) (some 68) rfl rfl (by kernel_rfl) (by kernel_rfl) (by kernel_rfl) (fun _ _ _ h => h) (by kernel_rfl) hHeld ?_
        simp only [Act.put, List.setIfInBounds_toArray, List.set_cons_zero, List.set_cons_succ]
        refine skipH (i := 21) (some 69) rfl rfl (by kernel_rfl) (by kernel_rfl) (by kernel_rfl) (fun _ _ _ h => h) (by kernel_rfl) hHeld ?_
        simp only [Act.put, List.setIfInBounds_toArray, List.set_cons_zero, List.set_cons_succ]
        refine skipH (i := 22) (some 70) rfl rfl (by kernel_rfl) (by kernel_rfl) (by kernel_rfl) (fun _ _ _ h => h) (by kernel_rfl) hHeld ?_
        simp only [Act.put, List.setIfInBounds_toArray, List.set_cons_zero, List.set_cons_succ]
        refine skipH (i := 23) (some 71) rfl rfl (by kernel_rfl) (by kernel_rfl) (by kernel_rfl) (fun _ _ _ h => h) (by kernel_rfl) hHeld ?_
        simp only [Act.put, List.setIfInBounds_toArray, List.set_cons_zero, List.set_cons_succ]
        refine skipH (i := 24) (some 72) rfl rfl (by kernel_rfl) (by kernel_rfl) (by kernel_rfl) (fun _ _ _ h => h) (by kernel_rfl) hHeld ?_
        simp only [Act.put, List.setIfInBounds_toArray, List.set_cons_zero, List.set_cons_succ]
        refine take_at (i := 25) (v := (.bool true)) (some 73) rfl rfl (by kernel_rfl) (by kernel_rfl) (by kernel_rfl) (fun _ _ _ h => h) (Or.inl ⟨by rfl, fun W hW => ?_⟩) hHeld ?_
        · go_simp
        simp only [Act.put, List.setIfInBounds_toArray, List.set_cons_zero, List.set_cons_succ]
        refine wpAnyH_done (by kernel_rfl) ?_ _
        go_wp2_with fail
        go_ret
        refine ⟨(by first | rfl | (rw [e2.out]; rfl)), ?_, HKr.out⟩
        rw [lowRes_no e2.out]
        exact HBr.out
      · have q1 := decide_eq_false h1
        by_cases h2 : st.left = st.ind
        · have q2 : (st.left == st.ind) = true := beq_iff_eq.2 h2
          have q2' := decide_eq_true h2
          by_cases h3 : st.right = W
          · have q3 : (st.right == W) = true := beq_iff_eq.2 h3
            have e2 := hide (show noLow W st = true from by rw [HN.out, q1, q2, q3]; rfl)
            clear h1 h2 h3
            refine wp_region_HL 26 #[false, false, false, false, false, false, false, false, false, false, false, false, false, false, false, false, false, false, false, false, false, false, false, false, false, false] (by kernel_rfl) (by kernel_rfl) (S := fun Z => Z.cell? ⟨b, 6, none⟩ = some (.int .i64 st.left) ∧ Z.cell? ⟨b, 5, none⟩ = some (.int .i64 st.ind) ∧ Z.cell? ⟨b, 7, none⟩ = some (.int .i64 st.right) ∧ Z.cell? ⟨b, 0, none⟩ = some (.pointer (some ⟨fp, 0, none⟩)) ∧ Blk Z fp 118 #[.int .i64 W, Fv]) (by kernel_rfl) ⟨c6, c5, c7, c0, HBr.out.flo⟩ (fun hHeld => ?_)
            generalize wr.drew = wB at *
            refine take_at (i := 0) (v := (.int .i64 l)) (some 48) rfl rfl (by kernel_rfl) (by kernel_rfl) (by kernel_rfl) (fun _ _ _ h => h) (yieldsIf_move (by rfl) _ rfl _ rfl) hHeld ?_
            simp only [Act.put, List.setIfInBounds_toArray, List.set_cons_zero, List.set_cons_succ]
            refine take_at (i := 1) (v := (.int .i64 16777216)) (some 49) rfl rfl (by kernel_rfl) (by kernel_rfl) (by kernel_rfl) (fun _ _ _ h => h) (yieldsIf_move (by rfl) _ rfl _ rfl) hHeld ?_
            simp only [Act.put, List.setIfInBounds_toArray, List.set_cons_zero, List.set_cons_succ]
            refine take_at (i := 2) (v := (.bool false)) (some 50) rfl rfl (by kernel_rfl) (by kernel_rfl) (by kernel_rfl) (fun _ _ _ h => h) (Or.inl ⟨by rfl, fun W hW => ?_⟩) hHeld ?_
            · go_simp
            simp only [Act.put, List.setIfInBounds_toArray, List.set_cons_zero, List.set_cons_succ]
            refine take_at (i := 3) (v := (.bool false)) (some 51) rfl rfl (by kernel_rfl) (by kernel_rfl) (by kernel_rfl) (fun _ _ _ h => h) (yieldsIf_move (by rfl) _ rfl _ rfl) hHeld ?_
            simp only [Act.put, List.setIfInBounds_toArray, List.set_cons_zero, List.set_cons_succ]
            refine take_at (i := 4) (v := (Value.pointer (some ⟨b, 0, none⟩))) (some 52) rfl rfl (by kernel_rfl) (by kernel_rfl) (by kernel_rfl) (fun _ _ _ h => h) (yieldsIf_move (by kernel_rfl) _ rfl _ rfl) hHeld ?_
            simp only [Act.put, List.setIfInBounds_toArray, List.set_cons_zero, List.set_cons_succ]
            refine take_at (i := 5) (v := (Value.pointer (some ⟨b, 0, none⟩))) (some 53) rfl rfl (by kernel_rfl) (by kernel_rfl) (by kernel_rfl) (fun _ _ _ h => h) (yieldsIf_nil (by kernel_rfl) _ rfl _ rfl) hHeld ?_
            simp only [Act.put, List.setIfInBounds_toArray, List.set_cons_zero, List.set_cons_succ]
            refine take_at (i := 6) (v := (Value.pointer (some ⟨b, 6, none⟩))) (some 54) rfl rfl (by kernel_rfl) (by kernel_rfl) (by kernel_rfl) (fun _ _ _ h => h) (yieldsIf_faddr (by kernel_rfl) 174 _ 6 rfl _ _ 6 rfl (by kernel_rfl)) hHeld ?_
            simp only [Act.put, List.setIfInBounds_toArray, List.set_cons_zero, List.set_cons_succ]
            refine take_at (i := 7) (v := (.int .i64 st.left)) (some 55) rfl rfl (by kernel_rfl) (by kernel_rfl) (by kernel_rfl) (fun _ _ _ h => h) (yieldsIf_load1 (by kernel_rfl) 3 _ rfl _ _ _ rfl (by kernel_rfl) (fun _ h => h.1)) hHeld ?_
            simp only [Act.put, List.setIfInBounds_toArray, List.set_cons_zero, List.set_cons_succ]
            refine take_at (i := 8) (v := (Value.pointer (some ⟨b, 0, none⟩))) (some 56) rfl rfl (by kernel_rfl) (by kernel_rfl) (by kernel_rfl) (fun _ _ _ h => h) (yieldsIf_move (by kernel_rfl) _ rfl _ rfl) hHeld ?_
            simp only [Act.put, List.setIfInBounds_toArray, List.set_cons_zero, List.set_cons_succ]
            refine take_at (i := 9) (v := (Value.pointer (some ⟨b, 0, none⟩))) (some 57) rfl rfl (by kernel_rfl) (by kernel_rfl) (by kernel_rfl) (fun _ _ _ h => h) (yieldsIf_nil (by kernel_rfl) _ rfl _ rfl) hHeld ?_
            simp only [Act.put, List.setIfInBounds_toArray, List.set_cons_zero, List.set_cons_succ]
            refine take_at (i := 10) (v := (Value.pointer (some ⟨b, 5, none⟩))) (some 58) rfl rfl (by kernel_rfl) (by kernel_rfl) (by kernel_rfl) (fun _ _ _ h => h) (yieldsIf_faddr (by kernel_rfl) 174 _ 5 rfl _ _ 5 rfl (by kernel_rfl)) hHeld ?_
            simp only [Act.put, List.setIfInBounds_toArray, List.set_cons_zero, List.set_cons_succ]
            refine take_at (i := 11) (v := (.int .i64 st.ind)) (some 59) rfl rfl (by kernel_rfl) (by kernel_rfl) (by kernel_rfl) (fun _ _ _ h => h) (yieldsIf_load1 (by kernel_rfl) 3 _ rfl _ _ _ rfl (by kernel_rfl) (fun _ h => h.2.1)) hHeld ?_
            simp only [Act.put, List.setIfInBounds_toArray, List.set_cons_zero, List.set_cons_succ]
            refine take_at (i := 12) (v := (.bool true)) (some 60) rfl rfl (by kernel_rfl) (by kernel_rfl) (by kernel_rfl) (fun _ _ _ h => h) (Or.inl ⟨by kernel_rfl, fun W hW => ?_⟩) hHeld ?_
            · go_simp
            simp only [Act.put, List.setIfInBounds_toArray, List.set_cons_zero, List.set_cons_succ]
            refine take_at (i := 13) (v := (.bool true)) (some 61) rfl rfl (by kernel_rfl) (by kernel_rfl) (by kernel_rfl) (fun _ _ _ h => h) (yieldsIf_move (by kernel_rfl) _ rfl _ rfl) hHeld ?_
            simp only [Act.put, List.setIfInBounds_toArray, List.set_cons_zero, List.set_cons_succ]
            refine take_at (i := 14) (v := (Value.pointer (some ⟨b, 0, none⟩))) (some 62) rfl rfl (by kernel_rfl) (by kernel_rfl) (by kernel_rfl) (fun _ _ _ h => h) (yieldsIf_move (by kernel_rfl) _ rfl _ rfl) hHeld ?_
            simp only [Act.put, List.setIfInBounds_toArray, List.set_cons_zero, List.set_cons_succ]
            refine take_at (i := 15) (v := (Value.pointer (some ⟨b, 0, none⟩))) (some 63) rfl rfl (by kernel_rfl) (by kernel_rfl) (by kernel_rfl) (fun _ _ _ h => h) (yieldsIf_nil (by kernel_rfl) _ rfl _ rfl) hHeld ?_
            simp only [Act.put, List.setIfInBounds_toArray, List.set_cons_zero, List.set_cons_succ]
            refine take_at (i := 16) (v := (Value.pointer (some ⟨b, 7, none⟩))) (some 64) rfl rfl (by kernel_rfl) (by kernel_rfl) (by kernel_rfl) (fun _ _ _ h => h) (yieldsIf_faddr (by kernel_rfl) 174 _ 7 rfl _ _ 7 rfl (by kernel_rfl)) hHeld ?_
            simp only [Act.put, List.setIfInBounds_toArray, List.set_cons_zero, List.set_cons_succ]
            refine take_at (i := 17) (v := (.int .i64 st.right)) (some 65) rfl rfl (by kernel_rfl) (by kernel_rfl) (by kernel_rfl) (fun _ _ _ h => h) (yieldsIf_load1 (by kernel_rfl) 3 _ rfl _ _ _ rfl (by kernel_rfl) (fun _ h => h.2.2.1)) hHeld ?_
            simp only [Act.put, List.setIfInBounds_toArray, List.set_cons_zero, List.set_cons_succ]
            refine take_at (i := 18) (v := (Value.pointer (some ⟨b, 0, none⟩))) (some 66) rfl rfl (by kernel_rfl) (by kernel_rfl) (by kernel_rfl) (fun _ _ _ h => h) (yieldsIf_move (by kernel_rfl) _ rfl _ rfl) hHeld ?_
            simp only [Act.put, List.setIfInBounds_toArray, List.set_cons_zero, List.set_cons_succ]
            refine take_at (i := 19) (v := (Value.pointer (some ⟨b, 0, none⟩))) (some 67) rfl rfl (by kernel_rfl) (by kernel_rfl) (by kernel_rfl) (fun _ _ _ h => h) (yieldsIf_nil (by kernel_rfl) _ rfl _ rfl) hHeld ?_
            simp only [Act.put, List.setIfInBounds_toArray, List.set_cons_zero, List.set_cons_succ]
            refine take_at (i := 20) (v := (Value.pointer (some ⟨b, 0, none⟩))) (some 68) rfl rfl (by kernel_rfl) (by kernel_rfl) (by kernel_rfl) (fun _ _ _ h => h) (yieldsIf_faddr (by kernel_rfl) 174 _ 0 rfl _ _ 0 rfl (by kernel_rfl)) hHeld ?_
            simp only [Act.put, List.setIfInBounds_toArray, List.set_cons_zero, List.set_cons_succ]
            refine take_at (i := 21) (v := (Value.pointer (some ⟨fp, 0, none⟩))) (some 69) rfl rfl (by kernel_rfl) (by kernel_rfl) (by kernel_rfl) (fun _ _ _ h => h) (yieldsIf_load1 (by kernel_rfl) 36 _ rfl _ _ _ rfl (by kernel_rfl) (fun _ h => h.2.2.2.1)) hHeld ?_
            simp only [Act.put, List.setIfInBounds_toArray, List.set_cons_zero, List.set_cons_succ]
            refine call_at (i := 22) (v := .int .i64 W) (some 70) rfl rfl (by kernel_rfl) (by kernel_rfl) (by kernel_rfl) (fun _ _ _ h => h) (by kernel_rfl) 38 #[.pointer (some ⟨fp, 0, none⟩)] (fun _ _ => run_enter Try.func38 (by kernel_rfl) (by kernel_rfl) _ _ rfl #[.pointer (some ⟨fp, 0, none⟩)] (by kernel_rfl) _) (fun _ h => fwidth_any fp _ Fv _ h.2.2.2.2) hHeld ?_
            simp only [Act.put, List.setIfInBounds_toArray, List.set_cons_zero, List.set_cons_succ]
            refine take_at (i := 23) (v := (.bool true)) (some 71) rfl rfl (by kernel_rfl) (by kernel_rfl) (by kernel_rfl) (fun _ _ _ h => h) (Or.inl ⟨by kernel_rfl, fun W hW => ?_⟩) hHeld ?_
            · go_simp
            simp only [Act.put, List.setIfInBounds_toArray, List.set_cons_zero, List.set_cons_succ]
            refine take_at (i := 24) (v := (.bool true)) (some 72) rfl rfl (by kernel_rfl) (by kernel_rfl) (by kernel_rfl) (fun _ _ _ h => h) (Or.inl ⟨by kernel_rfl, fun W hW => ?_⟩) hHeld ?_
            · go_simp
            simp only [Act.put, List.setIfInBounds_toArray, List.set_cons_zero, List.set_cons_succ]
            refine take_at (i := 25) (v := (.bool true)) (some 73) rfl rfl (by kernel_rfl) (by kernel_rfl) (by kernel_rfl) (fun _ _ _ h => h) (Or.inl ⟨by rfl, fun W hW => ?_⟩) hHeld ?_
            · go_simp
            simp only [Act.put, List.setIfInBounds_toArray, List.set_cons_zero, List.set_cons_succ]
            refine wpAnyH_done (by kernel_rfl) ?_ _
            go_wp2_with fail
            go_ret
            refine ⟨(by first | rfl | (rw [e2.out]; rfl)), ?_, HKr.out⟩
            rw [lowRes_no e2.out]
            exact HBr.out
          · have q3 : (st.right == W) = false := beq_eq_false_iff_ne.2 h3
            have e2 := hide (show noLow W st = false from by rw [HN.out, q1, q2, q3]; rfl)
            clear h1 h2 h3
            refine wp_region_HL 26 #[false, false, false, false, false, false, false, false, false, false, false, false, false, false, false, false, false, false, false, false, false, false, false, false, false, false] (by kernel_rfl) (by kernel_rfl) (S := fun Z => Z.cell? ⟨b, 6, none⟩ = some (.int .i64 st.left) ∧ Z.cell? ⟨b, 5, none⟩ = some (.int .i64 st.ind) ∧ Z.cell? ⟨b, 7, none⟩ = some (.int .i64 st.right) ∧ Z.cell? ⟨b, 0, none⟩ = some (.pointer (some ⟨fp, 0, none⟩)) ∧ Blk Z fp 118 #[.int .i64 W, Fv]) (by kernel_rfl) ⟨c6, c5, c7, c0, HBr.out.flo⟩ (fun hHeld => ?_)
            generalize wr.drew = wB at *
            refine take_at (i := 0) (v := (.int .i64 l)) (some 48) rfl rfl (by kernel_rfl) (by kernel_rfl) (by kernel_rfl) (fun _ _ _ h => h) (yieldsIf_move (by rfl) _ rfl _ rfl) hHeld ?_
            simp only [Act.put, List.setIfInBounds_toArray, List.set_cons_zero, List.set_cons_succ]
            refine take_at (i := 1) (v := (.int .i64 16777216)) (some 49) rfl rfl (by kernel_rfl) (by kernel_rfl) (by kernel_rfl) (fun _ _ _ h => h) (yieldsIf_move (by rfl) _ rfl _ rfl) hHeld ?_
            simp only [Act.put, List.setIfInBounds_toArray, List.set_cons_zero, List.set_cons_succ]
            refine take_at (i := 2) (v := (.bool false)) (some 50) rfl rfl (by kernel_rfl) (by kernel_rfl) (by kernel_rfl) (fun _ _ _ h => h) (Or.inl ⟨by rfl, fun W hW => ?_⟩) hHeld ?_
            · go_simp
            simp only [Act.put, List.setIfInBounds_toArray, List.set_cons_zero, List.set_cons_succ]
            refine take_at (i := 3) (v := (.bool false)) (some 51) rfl rfl (by kernel_rfl) (by kernel_rfl) (by kernel_rfl) (fun _ _ _ h => h) (yieldsIf_move (by rfl) _ rfl _ rfl) hHeld ?_
            simp only [Act.put, List.setIfInBounds_toArray, List.set_cons_zero, List.set_cons_succ]
            refine take_at (i := 4) (v := (Value.pointer (some ⟨b, 0, none⟩))) (some 52) rfl rfl (by kernel_rfl) (by kernel_rfl) (by kernel_rfl) (fun _ _ _ h => h) (yieldsIf_move (by kernel_rfl) _ rfl _ rfl) hHeld ?_
            simp only [Act.put, List.setIfInBounds_toArray, List.set_cons_zero, List.set_cons_succ]
            refine take_at (i := 5) (v := (Value.pointer (some ⟨b, 0, none⟩))) (some 53) rfl rfl (by kernel_rfl) (by kernel_rfl) (by kernel_rfl) (fun _ _ _ h => h) (yieldsIf_nil (by kernel_rfl) _ rfl _ rfl) hHeld ?_
            simp only [Act.put, List.setIfInBounds_toArray, List.set_cons_zero, List.set_cons_succ]
            refine take_at (i := 6) (v := (Value.pointer (some ⟨b, 6, none⟩))) (some 54) rfl rfl (by kernel_rfl) (by kernel_rfl) (by kernel_rfl) (fun _ _ _ h => h) (yieldsIf_faddr (by kernel_rfl) 174 _ 6 rfl _ _ 6 rfl (by kernel_rfl)) hHeld ?_
            simp only [Act.put, List.setIfInBounds_toArray, List.set_cons_zero, List.set_cons_succ]
            refine take_at (i := 7) (v := (.int .i64 st.left)) (some 55) rfl rfl (by kernel_rfl) (by kernel_rfl) (by kernel_rfl) (fun _ _ _ h => h) (yieldsIf_load1 (by kernel_rfl) 3 _ rfl _ _ _ rfl (by kernel_rfl) (fun _ h => h.1)) hHeld ?_
            simp only [Act.put, List.setIfInBounds_toArray, List.set_cons_zero, List.set_cons_succ]
            refine take_at (i := 8) (v := (Value.pointer (some ⟨b, 0, none⟩))) (some 56) rfl rfl (by kernel_rfl) (by kernel_rfl) (by kernel_rfl) (fun _ _ _ h => h) (yieldsIf_move (by kernel_rfl) _ rfl _ rfl) hHeld ?_
            simp only [Act.put, List.setIfInBounds_toArray, List.set_cons_zero, List.set_cons_succ]
            refine take_at (i := 9) (v := (Value.pointer (some ⟨b, 0, none⟩))) (some 57) rfl rfl (by kernel_rfl) (by kernel_rfl) (by kernel_rfl) (fun _ _ _ h => h) (yieldsIf_nil (by kernel_rfl) _ rfl _ rfl) hHeld ?_
            simp only [Act.put, List.setIfInBounds_toArray, List.set_cons_zero, List.set_cons_succ]
            refine take_at (i := 10) (v := (Value.pointer (some ⟨b, 5, none⟩))) (some 58) rfl rfl (by kernel_rfl) (by kernel_rfl) (by kernel_rfl) (fun _ _ _ h => h) (yieldsIf_faddr (by kernel_rfl) 174 _ 5 rfl _ _ 5 rfl (by kernel_rfl)) hHeld ?_
            simp only [Act.put, List.setIfInBounds_toArray, List.set_cons_zero, List.set_cons_succ]
            refine take_at (i := 11) (v := (.int .i64 st.ind)) (some 59) rfl rfl (by kernel_rfl) (by kernel_rfl) (by kernel_rfl) (fun _ _ _ h => h) (yieldsIf_load1 (by kernel_rfl) 3 _ rfl _ _ _ rfl (by kernel_rfl) (fun _ h => h.2.1)) hHeld ?_
            simp only [Act.put, List.setIfInBounds_toArray, List.set_cons_zero, List.set_cons_succ]
            refine take_at (i := 12) (v := (.bool true)) (some 60) rfl rfl (by kernel_rfl) (by kernel_rfl) (by kernel_rfl) (fun _ _ _ h => h) (Or.inl ⟨by kernel_rfl, fun W hW => ?_⟩) hHeld ?_
            · go_simp
            simp only [Act.put, List.setIfInBounds_toArray, List.set_cons_zero, List.set_cons_succ]
            refine take_at (i := 13) (v := (.bool true)) (some 61) rfl rfl (by kernel_rfl) (by kernel_rfl) (by kernel_rfl) (fun _ _ _ h => h) (yieldsIf_move (by kernel_rfl) _ rfl _ rfl) hHeld ?_
            simp only [Act.put, List.setIfInBounds_toArray, List.set_cons_zero, List.set_cons_succ]
            refine take_at (i := 14) (v := (Value.pointer (some ⟨b, 0, none⟩))) (some 62) rfl rfl (by kernel_rfl) (by kernel_rfl) (by kernel_rfl) (fun _ _ _ h => h) (yieldsIf_move (by kernel_rfl) _ rfl _ rfl) hHeld ?_
            simp only [Act.put, List.setIfInBounds_toArray, List.set_cons_zero, List.set_cons_succ]
            refine take_at (i := 15) (v := (Value.pointer (some ⟨b, 0, none⟩))) (some 63) rfl rfl (by kernel_rfl) (by kernel_rfl) (by kernel_rfl) (fun _ _ _ h => h) (yieldsIf_nil (by kernel_rfl) _ rfl _ rfl) hHeld ?_
            simp only [Act.put, List.setIfInBounds_toArray, List.set_cons_zero, List.set_cons_succ]
            refine take_at (i := 16) (v := (Value.pointer (some ⟨b, 7, none⟩))) (some 64) rfl rfl (by kernel_rfl) (by kernel_rfl) (by kernel_rfl) (fun _ _ _ h => h) (yieldsIf_faddr (by kernel_rfl) 174 _ 7 rfl _ _ 7 rfl (by kernel_rfl)) hHeld ?_
            simp only [Act.put, List.setIfInBounds_toArray, List.set_cons_zero, List.set_cons_succ]
            refine take_at (i := 17) (v := (.int .i64 st.right)) (some 65) rfl rfl (by kernel_rfl) (by kernel_rfl) (by kernel_rfl) (fun _ _ _ h => h) (yieldsIf_load1 (by kernel_rfl) 3 _ rfl _ _ _ rfl (by kernel_rfl) (fun _ h => h.2.2.1)) hHeld ?_
            simp only [Act.put, List.setIfInBounds_toArray, List.set_cons_zero, List.set_cons_succ]
            refine take_at (i := 18) (v := (Value.pointer (some ⟨b, 0, none⟩))) (some 66) rfl rfl (by kernel_rfl) (by kernel_rfl) (by kernel_rfl) (fun _ _ _ h => h) (yieldsIf_move (by kernel_rfl) _ rfl _ rfl) hHeld ?_
            simp only [Act.put, List.setIfInBounds_toArray, List.set_cons_zero, List.set_cons_succ]
            refine take_at (i := 19) (v := (Value.pointer (some ⟨b, 0, none⟩))) (some 67) rfl rfl (by kernel_rfl) (by kernel_rfl) (by kernel_rfl) (fun _ _ _ h => h) (yieldsIf_nil (by kernel_rfl) _ rfl _ rfl) hHeld ?_
            simp only [Act.put, List.setIfInBounds_toArray, List.set_cons_zero, List.set_cons_succ]
            refine take_at (i := 20) (v := (Value.pointer (some ⟨b, 0, none⟩))) (some 68) rfl rfl (by kernel_rfl) (by kernel_rfl) (by kernel_rfl) (fun _ _ _ h => h) (yieldsIf_faddr (by kernel_rfl) 174 _ 0 rfl _ _ 0 rfl (by kernel_rfl)) hHeld ?_
            simp only [Act.put, List.setIfInBounds_toArray, List.set_cons_zero, List.set_cons_succ]
            refine take_at (i := 21) (v := (Value.pointer (some ⟨fp, 0, none⟩))) (some 69) rfl rfl (by kernel_rfl) (by kernel_rfl) (by kernel_rfl) (fun _ _ _ h => h) (yieldsIf_load1 (by kernel_rfl) 36 _ rfl _ _ _ rfl (by kernel_rfl) (fun _ h => h.2.2.2.1)) hHeld ?_
            simp only [Act.put, List.setIfInBounds_toArray, List.set_cons_zero, List.set_cons_succ]
            refine call_at (i := 22) (v := .int .i64 W) (some 70) rfl rfl (by kernel_rfl) (by kernel_rfl) (by kernel_rfl) (fun _ _ _ h => h) (by kernel_rfl) 38 #[.pointer (some ⟨fp, 0, none⟩)] (fun _ _ => run_enter Try.func38 (by kernel_rfl) (by kernel_rfl) _ _ rfl #[.pointer (some ⟨fp, 0, none⟩)] (by kernel_rfl) _) (fun _ h => fwidth_any fp _ Fv _ h.2.2.2.2) hHeld ?_
            simp only [Act.put, List.setIfInBounds_toArray, List.set_cons_zero, List.set_cons_succ]
            refine take_at (i := 23) (v := (.bool false)) (some 71) rfl rfl (by kernel_rfl) (by kernel_rfl) (by kernel_rfl) (fun _ _ _ h => h) (Or.inl ⟨by kernel_rfl, fun W hW => ?_⟩) hHeld ?_
            · go_simp
            simp only [Act.put, List.setIfInBounds_toArray, List.set_cons_zero, List.set_cons_succ]
            refine take_at (i := 24) (v := (.bool false)) (some 72) rfl rfl (by kernel_rfl) (by kernel_rfl) (by kernel_rfl) (fun _ _ _ h => h) (Or.inl ⟨by kernel_rfl, fun W hW => ?_⟩) hHeld ?_
            · go_simp
            simp only [Act.put, List.setIfInBounds_toArray, List.set_cons_zero, List.set_cons_succ]
            refine take_at (i := 25) (v := (.bool false)) (some 73) rfl rfl (by kernel_rfl) (by kernel_rfl) (by kernel_rfl) (fun _ _ _ h => h) (Or.inl ⟨by rfl, fun W hW => ?_⟩) hHeld ?_
            · go_simp
            simp only [Act.put, List.setIfInBounds_toArray, List.set_cons_zero, List.set_cons_succ]
            refine wpAnyH_done (by kernel_rfl) ?_ _
            have r1 : wB.cell? ⟨b, 1, none⟩ = some (.int .i64 st.y) := HBr.out.blk.cell 1
            have z1 : wB.frozen? ⟨b, 1, none⟩ = false := HBr.out.blk.frozen 1
            have hg1 := only_setCell (p := ⟨b, 1, none⟩) (World.grownBy.refl wB (some b)) (.inl rfl) (.int .i64 l)
            have HB1 := hide (HBr.out.b_set (st' := { st with y := l }) (HBr.out.blk.set_ 1 (.int .i64 l)) hg1 (.inl ⟨rfl, rfl⟩) (.inl ⟨rfl, rfl⟩) rfl rfl)
            have HK1 := hide (HKr.out.trans (HBr.out.kept_b hg1))
            have HE := hide (bendsV_any g K b fp W sz ht al _ _ _ Ov Fv _ HB1.out HFL.out hW hi)
            clear hg1 HBr HKr c6 c5 c7 c0
            go_wp2_with fail
            refine HE.out.mono ?_
            rintro e w5 ⟨rfl, hb5, hk5⟩
            have HB5 := hide hb5
            have HK5 := hide (HK1.out.trans hk5)
            clear hb5 hk5
            go_wp2_with fail
            go_ret
            refine ⟨(by first | rfl | (rw [e2.out]; rfl)), ?_, HK5.out⟩
            rw [lowRes_yes e2.out, HLG.out]
            exact HB5.out
        · have q2 : (st.left == st.ind) = false := beq_eq_false_iff_ne.2 h2
          have e2 := hide (show noLow W st = false from by rw [HN.out, q1, q2]; rfl)
          clear h1 h2
          refine wp_region_HL 26 #[false, false, false, false, false, false, false, false, false, false, false, false, false, false, false, false, false, false, false, false, false, false, false, false, false, false] (by kernel_rfl) (by kernel_rfl) (S := fun Z => Z.cell? ⟨b, 6, none⟩ = some (.int .i64 st.left) ∧ Z.cell? ⟨b, 5, none⟩ = some (.int .i64 st.ind) ∧ Z.cell? ⟨b, 7, none⟩ = some (.int .i64 st.right) ∧ Z.cell? ⟨b, 0, none⟩ = some (.pointer (some ⟨fp, 0, none⟩)) ∧ Blk Z fp 118 #[.int .i64 W, Fv]) (by kernel_rfl) ⟨c6, c5, c7, c0, HBr.out.flo⟩ (fun hHeld => ?_)
          generalize wr.drew = wB at *
          refine take_at (i := 0) (v := (.int .i64 l)) (some 48) rfl rfl (by kernel_rfl) (by kernel_rfl) (by kernel_rfl) (fun _ _ _ h => h) (yieldsIf_move (by rfl) _ rfl _ rfl) hHeld ?_
          simp only [Act.put, List.setIfInBounds_toArray, List.set_cons_zero, List.set_cons_succ]
          refine take_at (i := 1) (v := (.int .i64 16777216)) (some 49) rfl rfl (by kernel_rfl) (by kernel_rfl) (by kernel_rfl) (fun _ _ _ h => h) (yieldsIf_move (by rfl) _ rfl _ rfl) hHeld ?_
          simp only [Act.put, List.setIfInBounds_toArray, List.set_cons_zero, List.set_cons_succ]
          refine take_at (i := 2) (v := (.bool false)) (some 50) rfl rfl (by kernel_rfl) (by kernel_rfl) (by kernel_rfl) (fun _ _ _ h => h) (Or.inl ⟨by rfl, fun W hW => ?_⟩) hHeld ?_
          · go_simp
          simp only [Act.put, List.setIfInBounds_toArray, List.set_cons_zero, List.set_cons_succ]
          refine take_at (i := 3) (v := (.bool false)) (some 51) rfl rfl (by kernel_rfl) (by kernel_rfl) (by kernel_rfl) (fun _ _ _ h => h) (yieldsIf_move (by rfl) _ rfl _ rfl) hHeld ?_
          simp only [Act.put, List.setIfInBounds_toArray, List.set_cons_zero, List.set_cons_succ]
          refine take_at (i := 4) (v := (Value.pointer (some ⟨b, 0, none⟩))) (some 52) rfl rfl (by kernel_rfl) (by kernel_rfl) (by kernel_rfl) (fun _ _ _ h => h) (yieldsIf_move (by kernel_rfl) _ rfl _ rfl) hHeld ?_
          simp only [Act.put, List.setIfInBounds_toArray, List.set_cons_zero, List.set_cons_succ]
          refine take_at (i := 5) (v := (Value.pointer (some ⟨b, 0, none⟩))) (some 53) rfl rfl (by kernel_rfl) (by kernel_rfl) (by kernel_rfl) (fun _ _ _ h => h) (yieldsIf_nil (by kernel_rfl) _ rfl _ rfl) hHeld ?_
          simp only [Act.put, List.setIfInBounds_toArray, List.set_cons_zero, List.set_cons_succ]
          refine take_at (i := 6) (v := (Value.pointer (some ⟨b, 6, none⟩))) (some 54) rfl rfl (by kernel_rfl) (by kernel_rfl) (by kernel_rfl) (fun _ _ _ h => h) (yieldsIf_faddr (by kernel_rfl) 174 _ 6 rfl _ _ 6 rfl (by kernel_rfl)) hHeld ?_
          simp only [Act.put, List.setIfInBounds_toArray, List.set_cons_zero, List.set_cons_succ]
          refine take_at (i := 7) (v := (.int .i64 st.left)) (some 55) rfl rfl (by kernel_rfl) (by kernel_rfl) (by kernel_rfl) (fun _ _ _ h => h) (yieldsIf_load1 (by kernel_rfl) 3 _ rfl _ _ _ rfl (by kernel_rfl) (fun _ h => h.1)) hHeld ?_
          simp only [Act.put, List.setIfInBounds_toArray, List.set_cons_zero, List.set_cons_succ]
          refine take_at (i := 8) (v := (Value.pointer (some ⟨b, 0, none⟩))) (some 56) rfl rfl (by kernel_rfl) (by kernel_rfl) (by kernel_rfl) (fun _ _ _ h => h) (yieldsIf_move (by kernel_rfl) _ rfl _ rfl) hHeld ?_
          simp only [Act.put, List.setIfInBounds_toArray, List.set_cons_zero, List.set_cons_succ]
          refine take_at (i := 9) (v := (Value.pointer (some ⟨b, 0, none⟩))) (some 57) rfl rfl (by kernel_rfl) (by kernel_rfl) (by kernel_rfl) (fun _ _ _ h => h) (yieldsIf_nil (by kernel_rfl) _ rfl _ rfl) hHeld ?_
          simp only [Act.put, List.setIfInBounds_toArray, List.set_cons_zero, List.set_cons_succ]
          refine take_at (i := 10) (v := (Value.pointer (some ⟨b, 5, none⟩))) (some 58) rfl rfl (by kernel_rfl) (by kernel_rfl) (by kernel_rfl) (fun _ _ _ h => h) (yieldsIf_faddr (by kernel_rfl) 174 _ 5 rfl _ _ 5 rfl (by kernel_rfl)) hHeld ?_
          simp only [Act.put, List.setIfInBounds_toArray, List.set_cons_zero, List.set_cons_succ]
          refine take_at (i := 11) (v := (.int .i64 st.ind)) (some 59) rfl rfl (by kernel_rfl) (by kernel_rfl) (by kernel_rfl) (fun _ _ _ h => h) (yieldsIf_load1 (by kernel_rfl) 3 _ rfl _ _ _ rfl (by kernel_rfl) (fun _ h => h.2.1)) hHeld ?_
          simp only [Act.put, List.setIfInBounds_toArray, List.set_cons_zero, List.set_cons_succ]
          refine take_at (i := 12) (v := (.bool false)) (some 60) rfl rfl (by kernel_rfl) (by kernel_rfl) (by kernel_rfl) (fun _ _ _ h => h) (Or.inl ⟨by kernel_rfl, fun W hW => ?_⟩) hHeld ?_
          · go_simp
          simp only [Act.put, List.setIfInBounds_toArray, List.set_cons_zero, List.set_cons_succ]
          refine take_at (i := 13) (v := (.bool false)) (some 61) rfl rfl (by kernel_rfl) (by kernel_rfl) (by kernel_rfl) (fun _ _ _ h => h) (yieldsIf_move (by kernel_rfl) _ rfl _ rfl) hHeld ?_
          simp only [Act.put, List.setIfInBounds_toArray, List.set_cons_zero, List.set_cons_succ]
          refine skipH (i := 14) (some 62) rfl rfl (by kernel_rfl) (by kernel_rfl) (by kernel_rfl) (fun _ _ _ h => h) (by kernel_rfl) hHeld ?_
          simp only [Act.put, List.setIfInBounds_toArray, List.set_cons_zero, List.set_cons_succ]
          refine skipH (i := 15) (some 63) rfl rfl (by kernel_rfl) (by kernel_rfl) (by kernel_rfl) (fun _ _ _ h => h) (by kernel_rfl) hHeld ?_
          simp only [Act.put, List.setIfInBounds_toArray, List.set_cons_zero, List.set_cons_succ]
          refine skipH (i := 16) (some 64) rfl rfl (by kernel_rfl) (by kernel_rfl) (by kernel_rfl) (fun _ _ _ h => h) (by kernel_rfl) hHeld ?_
          simp only [Act.put, List.setIfInBounds_toArray, List.set_cons_zero, List.set_cons_succ]
          refine skipH (i := 17) (some 65) rfl rfl (by kernel_rfl) (by kernel_rfl) (by kernel_rfl) (fun _ _ _ h => h) (by kernel_rfl) hHeld ?_
          simp only [Act.put, List.setIfInBounds_toArray, List.set_cons_zero, List.set_cons_succ]
          refine skipH (i := 18) (some 66) rfl rfl (by kernel_rfl) (by kernel_rfl) (by kernel_rfl) (fun _ _ _ h => h) (by kernel_rfl) hHeld ?_
          simp only [Act.put, List.setIfInBounds_toArray, List.set_cons_zero, List.set_cons_succ]
          refine skipH (i := 19) (some 67) rfl rfl (by kernel_rfl) (by kernel_rfl) (by kernel_rfl) (fun _ _ _ h => h) (by kernel_rfl) hHeld ?_
          simp only [Act.put, List.setIfInBounds_toArray, List.set_cons_zero, List.set_cons_succ]
          refine skipH (i := 20) (some 68) rfl rfl (by kernel_rfl) (by kernel_rfl) (by kernel_rfl) (fun _ _ _ h => h) (by kernel_rfl) hHeld ?_
          simp only [Act.put, List.setIfInBounds_toArray, List.set_cons_zero, List.set_cons_succ]
          refine skipH (i := 21) (some 69) rfl rfl (by kernel_rfl) (by kernel_rfl) (by kernel_rfl) (fun _ _ _ h => h) (by kernel_rfl) hHeld ?_
          simp only [Act.put, List.setIfInBounds_toArray, List.set_cons_zero, List.set_cons_succ]
          refine skipH (i := 22) (some 70) rfl rfl (by kernel_rfl) (by kernel_rfl) (by kernel_rfl) (fun _ _ _ h => h) (by kernel_rfl) hHeld ?_
          simp only [Act.put, List.setIfInBounds_toArray, List.set_cons_zero, List.set_cons_succ]
          refine skipH (i := 23) (some 71) rfl rfl (by kernel_rfl) (by kernel_rfl) (by kernel_rfl) (fun _ _ _ h => h) (by kernel_rfl) hHeld ?_
          simp only [Act.put, List.setIfInBounds_toArray, List.set_cons_zero, List.set_cons_succ]
          refine take_at (i := 24) (v := (.bool false)) (some 72) rfl rfl (by kernel_rfl) (by kernel_rfl) (by kernel_rfl) (fun _ _ _ h => h) (Or.inl ⟨by kernel_rfl, fun W hW => ?_⟩) hHeld ?_
          · go_simp
          simp only [Act.put, List.setIfInBounds_toArray, List.set_cons_zero, List.set_cons_succ]
          refine take_at (i := 25) (v := (.bool false)) (some 73) rfl rfl (by kernel_rfl) (by kernel_rfl) (by kernel_rfl) (fun _ _ _ h => h) (Or.inl ⟨by rfl, fun W hW => ?_⟩) hHeld ?_
          · go_simp
          simp only [Act.put, List.setIfInBounds_toArray, List.set_cons_zero, List.set_cons_succ]
          refine wpAnyH_done (by kernel_rfl) ?_ _
          have r1 : wB.cell? ⟨b, 1, none⟩ = some (.int .i64 st.y) := HBr.out.blk.cell 1
          have z1 : wB.frozen? ⟨b, 1, none⟩ = false := HBr.out.blk.frozen 1
          have hg1 := only_setCell (p := ⟨b, 1, none⟩) (World.grownBy.refl wB (some b)) (.inl rfl) (.int .i64 l)
          have HB1 := hide (HBr.out.b_set (st' := { st with y := l }) (HBr.out.blk.set_ 1 (.int .i64 l)) hg1 (.inl ⟨rfl, rfl⟩) (.inl ⟨rfl, rfl⟩) rfl rfl)
          have HK1 := hide (HKr.out.trans (HBr.out.kept_b hg1))
          have HE := hide (bendsV_any g K b fp W sz ht al _ _ _ Ov Fv _ HB1.out HFL.out hW hi)
          clear hg1 HBr HKr c6 c5 c7 c0
          go_wp2_with fail
          refine HE.out.mono ?_
          rintro e w5 ⟨rfl, hb5, hk5⟩
          have HB5 := hide hb5
          have HK5 := hide (HK1.out.trans hk5)
          clear hb5 hk5
          go_wp2_with fail
          go_ret
          refine ⟨(by first | rfl | (rw [e2.out]; rfl)), ?_, HK5.out⟩
          rw [lowRes_yes e2.out, HLG.out]
          exact HB5.out
end Go.Proofs.Ytadlabndbomgmaa
/- The walk of breaker.put: what it leans on. -/
namespace Go.Proofs.Ytadlabndbomgmaa
open Go.RowKit Go.Instr
def PtsK (w : World) (K : Nat → Prop) (g : Nat) (A : Option Addr) (ps : List Pt) : Prop := 0 < ps.length → ∃ h off, A = some ⟨h, off, none⟩ ∧ h < w.heap.size ∧ K h ∧ PtsAt w g h off ps
theorem PtsK.reads {w : World} {K : Nat → Prop} {g : Nat} {A : Option Addr} {ps : List Pt} (h : PtsK w K g A ps) : PtsR w g A ps := fun h0 => by
  obtain ⟨q, off, h1, h2, _, h4⟩ := h h0
  exact ⟨q, off, h1, h2, h4⟩
theorem PtsK.kept {w w' : World} {K : Nat → Prop} {g : Nat} {A : Option Addr} {ps : List Pt} (h : PtsK w K g A ps) (k : Kept K w w') : PtsK w' K g A ps := fun h0 => by
  obtain ⟨q, off, h1, h2, h3, h4⟩ := h h0
  refine ⟨q, off, h1, Nat.lt_of_lt_of_le h2 k.size, h3, fun i hi j hj => ?_⟩
  rw [World.cell?_of_block (w := w) (k.block q h3)]
  exact h4 i hi j hj
/-- For the loop's measure: how far the breaker may still go down, and whether its line is full. -/
def brMeas (b : Nat) (w : World) : Nat := match w.cell? ⟨b, 1, none⟩, w.cell? ⟨b, 9, none⟩ with
  | some (.int _ y), some (.bool f) => (16777216 - y).toNat * 2 + (if f then 1 else 0)
  | _, _ => 0
theorem brMeas_of {w : World} {K : Nat → Prop} {b fp g : Nat} {W sz ht al : Int} {st : BG} {Lv Tv Ov Fv : Value} (h : BrV w K b fp g W sz ht al st Lv Tv Ov Fv) : brMeas b w = (16777216 - st.y).toNat * 2 + (if st.full then 1 else 0) := by
  have h1 : w.cell? ⟨b, 1, none⟩ = some (.int .i64 st.y) := h.blk.cell 1
  have h9 : w.cell? ⟨b, 9, none⟩ = some (.bool st.full) := h.blk.cell 9
  unfold brMeas
  rw [h1, h9]
theorem tailG_bd {xs : List It} : ∀ (l : List Pt), PsOk xs l → 0 ≤ tailG xs l ∧ tailG xs l ≤ 16777216
  | [], _ => ⟨Int.le_refl _, by show (0 : Int) ≤ 16777216; decide⟩
  | p :: r, h => by
    unfold tailG
    split
    · exact tailG_bd r fun q hq => h q (by simp [hq])
    · have := (h p (by simp)).2
      unfold PtOk at this
      omega
theorem psOk_bd {xs : List It} {l : List Pt} (h : PsOk xs l) : ∀ p ∈ l, 0 ≤ p.w ∧ p.w ≤ 16777216 := fun p hp => by
  have := (h p hp).2
  unfold PtOk at this
  omega
theorem psOk_clean {xs : List It} {l : List Pt} (h : PsOk xs l) (f : Bool) : PsOk xs (cleanF xs f l) := fun p hp => h p ((cleanF_sub xs l f).mem hp)
theorem psOk_append {xs : List It} {a b : List Pt} (ha : PsOk xs a) (hb : PsOk xs b) : PsOk xs (a ++ b) := fun p hp => (List.mem_append.1 hp).elim (ha p) (hb p)
/-- More blocks that are none of the breaker's: new ones. -/
theorem BrV.fresh {w0 w : World} {K D : Nat → Prop} {b fp g : Nat} {W sz ht al : Int} {st : BG} {Lv Tv Ov Fv : Value} (h : BrV w0 K b fp g W sz ht al st Lv Tv Ov Fv) (hb : Below w0.heap.size w0 w) (hD : ∀ k, D k → w0.heap.size ≤ k ∧ k < w.heap.size) : BrV w (fun k => K k ∨ D k) b fp g W sz ht al st Lv Tv Ov Fv := by
  have hw := h.below hb
  have key : ∀ k, k < w0.heap.size → ¬ K k → ¬ (K k ∨ D k) := fun k hk hn hc => by
    rcases hc with hc | hc
    · exact hn hc
    · have := hD k hc; omega
  exact ⟨hw.blk, hw.line, hw.late, hw.lines, hw.flo, hw.fls, hw.two, key b h.blk.lt h.kb, key fp h.flo.lt h.kf, fun k hk => key k (own_lt h.line k hk) (h.kL k hk), fun k hk => key k (own_lt h.late k hk) (h.kT k hk), fun k hk => by
    obtain ⟨q, _, h2, _⟩ := h.lines
    exact key k (own_lt h2 k hk) (h.kO k hk), fun k hk => key k (own_lt h.fls k hk) (h.kF k hk), fun k hk => hk.elim (hw.kk k) (fun hd => (hD k hd).2)⟩
theorem BrV.less {w : World} {K K' : Nat → Prop} {b fp g : Nat} {W sz ht al : Int} {st : BG} {Lv Tv Ov Fv : Value} (h : BrV w K b fp g W sz ht al st Lv Tv Ov Fv) (hk : ∀ k, K' k → K k) : BrV w K' b fp g W sz ht al st Lv Tv Ov Fv :=
  ⟨h.blk, h.line, h.late, h.lines, h.flo, h.fls, h.two, fun e => h.kb (hk _ e), fun e => h.kf (hk _ e), fun k e c => h.kL k e (hk _ c), fun k e c => h.kT k e (hk _ c), fun k e c => h.kO k e (hk _ c), fun k e c => h.kF k e (hk _ c), fun k e => h.kk k (hk _ e)⟩
theorem Kept.less {K K' : Nat → Prop} {w w' : World} (h : Kept K w w') (hk : ∀ k, K' k → K k) : Kept K' w w' := ⟨h.os, h.tape, h.output, h.size, fun k e => h.block k (hk k e)⟩
/-- A row of parts is written, and the breaker's own block: the line's. -/
theorem BrV.l_set {w w' : World} {K : Nat → Prop} {b fp g : Nat} {W sz ht al : Int} {st st' : BG} {Lv Tv Ov Fv Lv' : Value} (h : BrV w K b fp g W sz ht al st Lv Tv Ov Fv) (hb : Blk w' b 174 (brA fp st'.y sz ht al st'.ind st'.left st'.right Lv' st'.full Tv Ov)) (hl : w'.ownsRow 0 192 5 Lv' st'.line.length (ptCells g st'.line))
    (hg : Only (fun i => i = b ∨ Lv.ownBlock = some i) w w') (hn : Lv'.ownBlock = Lv.ownBlock ∨ ∀ k, Lv'.ownBlock = some k → w.heap.size ≤ k) (e1 : st'.out = st.out) (e2 : st'.late = st.late) (e3 : st'.fs = st.fs) : BrV w' K b fp g W sz ht al st' Lv' Tv Ov Fv := by
  have hkey : ∀ i, i < w.heap.size → (i = b ∨ Lv.ownBlock = some i) → ∃ t cs, Blk w i t cs ∧ (t = 174 ∨ t = 192) := fun i _ hi => by
    rcases hi with rfl | hi
    · exact ⟨_, _, h.blk, .inl rfl⟩
    · rcases h.line.2 with ⟨h9, _⟩ | ⟨q2, cap, cur, h9, _, hqq, _⟩
      · rw [h9] at hi; cases hi
      · rw [h9] at hi
        have : q2 = i := by injection hi
        subst this
        exact ⟨_, _, hqq, .inr rfl⟩
  have row : ∀ {e : TypeId} {size n : Nat} {v : Value} {xs : List Value}, w.ownsRow 0 e size v n xs → e ≠ 174 → e ≠ 192 → w'.ownsRow 0 e size v n xs := fun ho n1 n2 => by
    refine own_only ho hg fun i hi hci => ?_
    obtain ⟨t, cs, hqq, ht⟩ := hkey i (own_lt ho i hi) hci
    refine own_blk_ne ho hqq ?_ hi
    rcases ht with rfl | rfl
    · exact n1
    · exact n2
  have hfp : ¬ (fp = b ∨ Lv.ownBlock = some fp) := fun hc => by
    obtain ⟨t, cs, hqq, ht⟩ := hkey fp h.flo.lt hc
    rcases ht with rfl | rfl
    · exact (hqq.ne_ h.flo (by decide)) rfl
    · exact (hqq.ne_ h.flo (by decide)) rfl
  have hlate : w'.ownsRow 0 192 5 Tv st.late.length (ptCells g st.late) := own_only h.late hg fun i hi hci => by
    rcases hci with rfl | hci
    · exact own_blk_ne h.late h.blk (by decide) hi
    · exact h.two i hci hi
  have hlines : LinesAt w' 0 Ov st.out := by
    refine h.lines.only hg (fun i t cs hci hi hq => ?_) (fun i hci hi => by obtain ⟨t, cs, hq, _⟩ := hkey i hi hci; exact ⟨t, cs, hq⟩)
    obtain ⟨t2, cs2, hq2, ht2⟩ := hkey i hi hci
    have hcell : some (Obj.cells cs t (0, 0)) = some (Obj.cells cs2 t2 (0, 0)) := hq.symm.trans hq2
    injection hcell with hcell
    injection hcell with _ ht _
    subst ht
    rcases ht2 with rfl | rfl <;> exact ⟨by decide, by decide⟩
  refine ⟨hb, hl, by rw [e2]; exact hlate, by rw [e1]; exact hlines, blk_only h.flo hg hfp, by rw [e3]; exact row h.fls (by decide) (by decide), ?_, h.kb, h.kf, ?_, h.kT, h.kO, h.kF, fun i hi => Nat.lt_of_lt_of_le (h.kk i hi) hg.size⟩
  · intro k hk hT
    rcases hn with h9 | h9
    · exact h.two k (by rw [← h9]; exact hk) hT
    · have := h9 k hk
      have := own_lt h.late k hT
      omega
  · intro k hk
    rcases hn with h9 | h9
    · exact h.kL k (by rw [← h9]; exact hk)
    · exact fun hK => by have := h9 k hk; have := h.kk k hK; omega
/-- The same: of what floats late. -/
theorem BrV.t_set {w w' : World} {K : Nat → Prop} {b fp g : Nat} {W sz ht al : Int} {st st' : BG} {Lv Tv Ov Fv Tv' : Value} (h : BrV w K b fp g W sz ht al st Lv Tv Ov Fv) (hb : Blk w' b 174 (brA fp st'.y sz ht al st'.ind st'.left st'.right Lv st'.full Tv' Ov)) (hl : w'.ownsRow 0 192 5 Tv' st'.late.length (ptCells g st'.late))
    (hg : Only (fun i => i = b ∨ Tv.ownBlock = some i) w w') (hn : Tv'.ownBlock = Tv.ownBlock ∨ ∀ k, Tv'.ownBlock = some k → w.heap.size ≤ k) (e1 : st'.out = st.out) (e2 : st'.line = st.line) (e3 : st'.fs = st.fs) : BrV w' K b fp g W sz ht al st' Lv Tv' Ov Fv := by
  have hkey : ∀ i, i < w.heap.size → (i = b ∨ Tv.ownBlock = some i) → ∃ t cs, Blk w i t cs ∧ (t = 174 ∨ t = 192) := fun i _ hi => by
    rcases hi with rfl | hi
    · exact ⟨_, _, h.blk, .inl rfl⟩
    · rcases h.late.2 with ⟨h9, _⟩ | ⟨q2, cap, cur, h9, _, hqq, _⟩
      · rw [h9] at hi; cases hi
      · rw [h9] at hi
        have : q2 = i := by injection hi
        subst this
        exact ⟨_, _, hqq, .inr rfl⟩
  have row : ∀ {e : TypeId} {size n : Nat} {v : Value} {xs : List Value}, w.ownsRow 0 e size v n xs → e ≠ 174 → e ≠ 192 → w'.ownsRow 0 e size v n xs := fun ho n1 n2 => by
    refine own_only ho hg fun i hi hci => ?_
    obtain ⟨t, cs, hqq, ht⟩ := hkey i (own_lt ho i hi) hci
    refine own_blk_ne ho hqq ?_ hi
    rcases ht with rfl | rfl
    · exact n1
    · exact n2
  have hfp : ¬ (fp = b ∨ Tv.ownBlock = some fp) := fun hc => by
    obtain ⟨t, cs, hqq, ht⟩ := hkey fp h.flo.lt hc
    rcases ht with rfl | rfl
    · exact (hqq.ne_ h.flo (by decide)) rfl
    · exact (hqq.ne_ h.flo (by decide)) rfl
  have hline : w'.ownsRow 0 192 5 Lv st.line.length (ptCells g st.line) := own_only h.line hg fun i hi hci => by
    rcases hci with rfl | hci
    · exact own_blk_ne h.line h.blk (by decide) hi
    · exact h.two i hi hci
  have hlines : LinesAt w' 0 Ov st.out := by
    refine h.lines.only hg (fun i t cs hci hi hq => ?_) (fun i hci hi => by obtain ⟨t, cs, hq, _⟩ := hkey i hi hci; exact ⟨t, cs, hq⟩)
    obtain ⟨t2, cs2, hq2, ht2⟩ := hkey i hi hci
    have hcell : some (Obj.cells cs t (0, 0)) = some (Obj.cells cs2 t2 (0, 0)) := hq.symm.trans hq2
    injection hcell with hcell
    injection hcell with _ ht _
    subst ht
    rcases ht2 with rfl | rfl <;> exact ⟨by decide, by decide⟩
  refine ⟨hb, by rw [e2]; exact hline, hl, by rw [e1]; exact hlines, blk_only h.flo hg hfp, by rw [e3]; exact row h.fls (by decide) (by decide), ?_, h.kb, h.kf, h.kL, ?_, h.kO, h.kF, fun i hi => Nat.lt_of_lt_of_le (h.kk i hi) hg.size⟩
  · intro k hk hT
    rcases hn with h9 | h9
    · exact h.two k hk (by rw [← h9]; exact hT)
    · have := h9 k hT
      have := own_lt h.line k hk
      omega
  · intro k hk
    rcases hn with h9 | h9
    · exact h.kT k (by rw [← h9]; exact hk)
    · exact fun hK => by have := h9 k hk; have := h.kk k hK; omega
theorem addFl_nil (xs : List It) (ht W : Int) (st : BG) : addFl xs ht W st [] st := by
  cases h : st.full
  · exact .inr ⟨h, .inl ⟨rfl, rfl⟩⟩
  · exact .inl ⟨h, by simp⟩
theorem addFl_full {xs : List It} {ht W : Int} {st st' : BG} {c : List Pt} (h : addFl xs ht W st c st') : st'.full = st.full ∧ st'.line = st.line ∧ st'.out = st.out ∧ st'.ind = st.ind ∧ st'.y = st.y := by
  rcases h with ⟨_, rfl⟩ | ⟨_, ⟨_, rfl⟩ | ⟨_, fs, rfl⟩⟩ <;> exact ⟨rfl, rfl, rfl, rfl, rfl⟩
theorem addFl_pass {xs : List It} {ht W : Int} {st st' : BG} {c : List Pt} {p : Pt} (h : addFl xs ht W st c st') (hp : floatP xs p = false) : addFl xs ht W st (c ++ [p]) st' := by
  have e : (c ++ [p]).filter (floatP xs) = c.filter (floatP xs) := by rw [List.filter_append, List.filter_cons_of_neg (by rw [hp]; decide)]; simp
  unfold addFl at h ⊢
  rw [e]
  exact h
theorem addFl_late {xs : List It} {ht W : Int} {st st' : BG} {c : List Pt} {p : Pt} (h : addFl xs ht W st c st') (hp : floatP xs p = true) (hf : st.full = true) : addFl xs ht W st (c ++ [p]) { st' with late := st'.late ++ [p] } := by
  rcases h with ⟨_, rfl⟩ | ⟨h1, _⟩
  · refine .inl ⟨hf, ?_⟩
    simp [List.filter_append, hp]
  · rw [hf] at h1; cases h1
theorem addFl_put {xs : List It} {ht W : Int} {st st' : BG} {c : List Pt} {p : Pt} (h : addFl xs ht W st c st') (hp : floatP xs p = true) (hf : st.full = false) (fs : List Fl) : addFl xs ht W st (c ++ [p]) (endsG ht W { st' with fs := fs }) := by
  have hne : (c ++ [p]).filter (floatP xs) ≠ [] := by rw [List.filter_append, List.filter_cons_of_pos hp]; simp
  rcases h with ⟨h1, _⟩ | ⟨_, ⟨_, rfl⟩ | ⟨_, fs1, rfl⟩⟩
  · rw [hf] at h1; cases h1
  · exact .inr ⟨hf, .inr ⟨hne, fs, rfl⟩⟩
  · exact .inr ⟨hf, .inr ⟨hne, fs, rfl⟩⟩
theorem ptsK_own {w : World} {K : Nat → Prop} {base g n c : Nat} {A : Option Addr} {ps : List Pt} (h : w.ownsRow base 192 5 (.slice A n c) n (ptCells g ps)) (hl : ps.length = n) : PtsK w (fun k => K k ∨ (Value.slice A n c).ownBlock = some k) g A ps := fun h0 => by
  obtain ⟨q, h1, _, h2, h3⟩ := pts_of_own h hl (by omega)
  subst h1
  exact ⟨q, 0, rfl, h2, .inr rfl, h3⟩
theorem PtsAt.rowO {w : World} {g h off : Nat} {ps : List Pt} (hp : PtsAt w g h off ps) {k : Nat} (hk : k < ps.length) : w.cell? ⟨h, off + k * 5, none⟩ = some (.pointer (some ⟨g, (ptAt ps k).i * 11, none⟩)) ∧ w.cell? ⟨h, off + k * 5 + 1, none⟩ = some (.int .i64 (ptAt ps k).i) ∧ w.cell? ⟨h, off + k * 5 + 2, none⟩ = some (.string (ptAt ps k).t) ∧ w.cell? ⟨h, off + k * 5 + 3, none⟩ = some (.int .i64 (ptAt ps k).w) ∧ w.cell? ⟨h, off + k * 5 + 4, none⟩ = some (.bool (ptAt ps k).last) :=
  ⟨hp k hk 0 (by omega), hp k hk 1 (by omega), hp k hk 2 (by omega), hp k hk 3 (by omega), hp k hk 4 (by omega)⟩
theorem StOk.late_ {xs : List It} {st : BG} {n m : Nat} (h : StOk xs st n m) {p : Pt} (hp : p.i < xs.length ∧ PtOk xs p) : StOk xs { st with late := st.late ++ [p] } (n + 1) m :=
  ⟨h.fs, h.ind, h.lf, h.rt, h.y, h.line, psOk_append h.late (fun q hq => by obtain rfl : q = p := (by simpa using hq); exact hp), by have := h.ll; show st.line.length ≤ n + 1; omega, by have := h.lt; simp only [List.length_append, List.length_singleton]; omega, h.out⟩
theorem StOk.fs_ {xs : List It} {st : BG} {n m : Nat} (h : StOk xs st n m) {fs : List Fl} (hf : FsOk fs) : StOk xs { st with fs := fs } n m := ⟨hf, h.ind, h.lf, h.rt, h.y, h.line, h.late, h.ll, h.lt, h.out⟩
theorem StOk.addLn {xs : List It} {st : BG} {n n' m : Nat} (h : StOk xs st n m) {c : List Pt} (hc : PsOk xs c) (hl : st.line.length + c.length ≤ n') (hn : n ≤ n') : StOk xs (addLn xs st c) n' m :=
  ⟨h.fs, h.ind, h.lf, h.rt, h.y, psOk_append h.line hc, h.late, by show (st.line ++ c).length ≤ n'; rw [List.length_append]; exact hl, Nat.le_trans h.lt hn, h.out⟩
theorem lastMust_at {xs : List It} {cs : List Pt} {j : Nat} (h : cs.length = j + 1) : lastMust xs cs = (pKind xs (ptAt cs j) == 6) := by
  unfold lastMust
  rw [List.getLast?_eq_getElem?, h, Nat.add_sub_cancel, List.getElem?_eq_getElem (by omega), ptAt_of cs j (by omega)]
theorem ptCells_app (g : Nat) (a b : List Pt) : ptCells g (a ++ b) = ptCells g a ++ ptCells g b := by simp [ptCells]
section
variable {P : Program} {ops : Array Oper} {Q : Exit → Act → World → Prop} {md : Region.Mode} {S : World → Prop} {fuel : Nat} {l : Array Bool} {a : Act} {w : World} {j : Nat} {o : Oper}
/-- A call whose guard holds. -/
theorem callHw (hr : Region.ready md ops l = [j]) (ho : ops[j]? = some o) (hw : Region.wanted o (yielded ops a.tmps) = true) (d : Option Tmp) (hd : o.dst = d) (f : FuncId) (args : Array Value) (he : (execOp a.eval o).run P w = .ok (.enter f args) w) {R : Ending → World → Prop} (hc : Calls P f args w R)
    (h : ∀ e w', R e w' → ∃ v, e = .returned v ∧ S w' ∧ wpAnyH P md ops Q S fuel (l.setIfInBounds j true) (a.put d v) w') : wpAnyH P md ops Q S (fuel + 1) l a w :=
  wpAnyH_ready (rs := [j]) hr (by simp) (AllReadyH.cons ho (fun K' hK => by
    rw [if_pos hw]
    refine wp_callR he hc fun e w' hR => ?_
    obtain ⟨v, rfl, h1, h2⟩ := h e w' hR
    rw [hd]
    exact ⟨v, rfl, hK.out _ _ h1 fun _ => h2⟩) AllReadyH.nil)
end
end Go.Proofs.Ytadlabndbomgmaa
