/- The walk of stack.Order. -/
import Derived.BigQuiet
import Derived.Handy
import Derived.IntWalk
import Derived.RegionTactic
import Derived.Deep.MidRow
import Derived.Deep.CutBlock
import Derived.Test.YtbpkffoooieejaaDoorStOrdMem
import Derived.Test.YtbpkffoooieejaaDoorStOrdLaw
import Derived.Test.YtbpkffoooieejaaDoorStTell
import Derived.Test.YtbpkffoooieejaaDoorLooks
import Derived.Test.YtbpkffoooieejaaDoorStCheck
namespace Go.Proofs.YtbpkffoooieejaaDoor
open Go.ChangeShapes Go.WideShapes Go.ChangeAt Go.RowKit
def parF (fs : List Fr) (i : Nat) : Nat := (frAt fs i).par.toNat
theorem parF_lt {l : List Bo} {fs : List Fr} (h : FragsOk l fs) : ∀ i, 0 < i → i < fs.length → parF fs i < i := fun i h0 hi => by
  have := (h.1 i hi).2.2.2 h0
  unfold parF
  omega
def OrdPost (l : List Bo) (fs : List Fr) (w' : World) (e : Ending) : Prop := ∃ v r, e = .returned (.tuple #[v, .int .i64 r]) ∧ (r ≠ 0 → v = .slice none 0 0) ∧
  (r = 0 → FragsOk l fs ∧ ∃ M : Nat → Mk, ownM M 0 = true ∧ w'.ownsRow 0 33 2 v (ordF fs.length (parF fs) (ownM M) (srtM M)).length (lsCells (ordF fs.length (parF fs) (ownM M) (srtM M))))
theorem ord_bad {l : List Bo} {fs : List Fr} {w' : World} (r : Int) (h : r ≠ 0) : OrdPost l fs w' (.returned (.tuple #[.slice none 0 0, .int .i64 r])) := ⟨_, r, rfl, fun _ => rfl, fun e => absurd e h⟩
theorem lay_u : Tryd.prog.underlying 26 = some (.struct (Tryd.prog.fieldsOf 26)) := by kernel_rfl
theorem lay_i (a b c d : Value) : (Tryd.prog.info? 26).map (·.size) = some (#[a, b, c, d] : Array Value).size := by kernel_rfl
theorem kid_info : (Tryd.prog.info? 35).map (fun i => (i.zero, i.size, i.bytes)) = some (some (.slice none 0 0), 1, 24) := by kernel_rfl
theorem mark_info : (Tryd.prog.info? 69).map (fun i => (i.zero, i.size, i.bytes)) = some (some (.agg #[.int .i64 0, .int .i64 0, .int .i64 0]), 3, 24) := by kernel_rfl
set_option maxRecDepth 100000 in
set_option maxHeartbeats 40000000 in
theorem order_any (l : List Bo) (fs : List Fr) (AB AF As : Option Addr) (cB cF ns cs : Nat) (lw lh : Int) (R : Nat → Nat → Int) (G : Nat → Int) (w : World) (hB : BoxIn w w.heap.size AB l) (hF : FragIn w w.heap.size AF fs) (hlB : l.length ≤ 300000) (hlF : fs.length ≤ 300000)
    (hS : StyIn w w.heap.size As ns R) (hns : ns ≤ maxLen) (hG : IniAt w G) :
    Calls Tryd.prog 7 #[.slice As ns cs, .agg #[.slice AB l.length cB, .slice AF fs.length cF, .int .i64 lw, .int .i64 lh]] w fun e w' => OrdPost l fs w' e ∧ Below w.heap.size w w' := by
  have hb0 := (Below.refl w.heap.size w).alloc (Nat.le_refl _) (.cells #[.slice AB l.length cB, .slice AF fs.length cF, .int .i64 lw, .int .i64 lh] 26)
  have HX := hide (Blk.new w 26 #[.slice AB l.length cB, .slice AF fs.length cF, .int .i64 lw, .int .i64 lh])
  have HB := hide (hB.below hb0)
  have HF := hide (hF.below hb0)
  have HS := hide (hS.below hb0)
  have HG := hide (hG.below hb0)
  have HB0 := hide hb0
  have hml : (300000 : Nat) ≤ maxLen := by unfold maxLen; omega
  have HC := hide (stCheck_any l fs AB AF cB cF lw lh (w.alloc (.cells #[.slice AB l.length cB, .slice AF fs.length cF, .int .i64 lw, .int .i64 lh] 26)) (HB.out.mono hb0.size) (fun k hk => by
    obtain ⟨g, off, h1, h2, h3⟩ := HF.out k hk
    exact ⟨g, off, h1, Nat.lt_of_lt_of_le h2 hb0.size, h3⟩) (by omega) (by omega))
  clear hB hF hS hG hb0
  go_enter Tryd.func7, Tryd.ntmps7
  go_wp2_with fail
  refine HC.out.mono ?_
  rintro e w1 ⟨⟨r, rfl, hr3, hr⟩, hb1⟩
  have hlx0 := HX.out.lt
  have hb2 := HB0.out.trans (hb1.mono HB0.out.size)
  have HX1 := hide (HX.out.below hb1 hlx0)
  have hs1 := hb2.size
  have HB1 := hide ((HB.out.below (hb1.mono HB0.out.size)).mono hs1)
  have HF1 := hide (HF.out.below (hb1.mono HB0.out.size))
  have HS1 := hide (show StyIn w1 w1.heap.size As ns R from fun k hk => by
    obtain ⟨g, off, h1, h2, h3⟩ := (HS.out.below (hb1.mono HB0.out.size)) k hk
    exact ⟨g, off, h1, Nat.lt_of_lt_of_le h2 hs1, h3⟩)
  have HG1 := hide (HG.out.below hb1)
  clear HC HX HB HF HS HG HB0 hb1
  rcases hr3 with rfl | rfl
  · have hok := hr rfl
    have HL := hide (looks_any l AB As cB ns cs R G w1 HB1.out hlB HS1.out hns HG1.out)
    have x0 : w1.cell? ⟨w.heap.size, 0, none⟩ = some (.slice AB l.length cB) := HX1.out.cell 0
    clear hr
    go_wp2_with fail
    refine HL.out.mono ?_
    rintro e w2 ⟨⟨v, r2, rfl, hr2⟩, hb3⟩
    have hs12 := hb3.size
    have hxl := HX1.out.lt
    have HX2 := hide (HX1.out.below hb3 hxl)
    have hb4 := hb2.trans (hb3.mono hs1)
    have HB2 := hide (HB1.out.below hb3)
    have HF2 := hide (HF1.out.below (hb3.mono hs1))
    clear HL x0 HX1 HB1 HF1 HS1 HG1 hb2 hb3
    by_cases h2 : r2 = 0
    · subst h2
      obtain ⟨Rs, hRs, hown⟩ := hr2 rfl
      have HW2 := hide hown
      have HVB := hide (own_lt hown)
      have x1 : w2.cell? ⟨w.heap.size, 1, none⟩ = some (.slice AF fs.length cF) := HX2.out.cell 1
      have hmk : ∀ Wo : World, (Instr.makeSlice 64 (.int .i64 (fs.length : Int)) (.int .i64 (fs.length : Int))).run Tryd.prog Wo = .ok (.slice (some ⟨Wo.heap.size, 0, none⟩) fs.length fs.length) (Wo.alloc (.cells (kvA (fun _ => .slice none 0 0) fs.length) 35)) := fun Wo => by
        obtain ⟨i, hi, hz, h1, h3⟩ := info_parts kid_info
        have := run_make_rowN 64 35 i (.slice none 0 0) Tryd.underlying64 hi hz .i64 .i64 fs.length fs.length (Nat.le_refl _) (by rw [h3]; omega) (by omega) Wo
        rw [h1, Nat.mul_one] at this
        rw [← kvA_nil]
        exact this
      have HK := hide (Blk.new w2 35 (kvA (fun _ => .slice none 0 0) fs.length))
      have HO := hide (Blk.new (w2.alloc (.cells (kvA (fun _ => .slice none 0 0) fs.length) 35)) 67 #[.slice none 0 0, .slice (some ⟨w2.heap.size, 0, none⟩) fs.length fs.length, .slice none 0 0])
      have x2 : ((w2.alloc (.cells (kvA (fun _ => .slice none 0 0) fs.length) 35)).alloc (.cells #[.slice none 0 0, .slice (some ⟨w2.heap.size, 0, none⟩) fs.length fs.length, .slice none 0 0] 67)).cell? ⟨w.heap.size, 1, none⟩ = some (.slice AF fs.length cF) := ((HX2.out.alloc _).alloc _).cell 1
      have hbA : Below w2.heap.size w2 ((w2.alloc (.cells (kvA (fun _ => .slice none 0 0) fs.length) 35)).alloc (.cells #[.slice none 0 0, .slice (some ⟨w2.heap.size, 0, none⟩) fs.length fs.length, .slice none 0 0] 67)) := below_alloc2 (Below.refl w2.heap.size w2) _ _
      have HM0 := hide (show MkV ((w2.alloc (.cells (kvA (fun _ => .slice none 0 0) fs.length) 35)).alloc (.cells #[.slice none 0 0, .slice (some ⟨w2.heap.size, 0, none⟩) fs.length fs.length, .slice none 0 0] 67)) w2.heap.size (w2.heap.size + 1) fs.length w2.heap.size 0 (parF fs) [] (.slice none 0 0) (fun _ => .slice none 0 0) from
        ⟨blk_two w2 _ _ _, Nat.le_succ _, own_none _ _ _ _, HK.out.alloc _, Nat.le_refl _, fun f _ => own_none _ _ _ _, fun f g b _ _ _ h => by cases h⟩)
      have hs2 : w1.heap.size ≤ w2.heap.size := hs12
      clear hown hr2 hml HK
      go_wp2_with fail
      clear hmk x1 x2
      generalize (w2.alloc (.cells (kvA (fun _ => .slice none 0 0) fs.length) 35)).alloc (.cells #[.slice none 0 0, .slice (some ⟨w2.heap.size, 0, none⟩) fs.length fs.length, .slice none 0 0] 67) = wd at *
      obtain ⟨lx, hlx⟩ : ∃ lx, lx = w.heap.size := ⟨_, rfl⟩
      obtain ⟨B, hBe⟩ : ∃ B, B = w2.heap.size := ⟨_, rfl⟩
      rw [← hBe] at HM0 hbA hs2 ⊢
      obtain ⟨bo, hboe⟩ : ∃ bo, bo = B + 1 := ⟨_, rfl⟩
      rw [← hboe] at HM0 ⊢
      rw [← hlx] at HX2 hxl hs1 ⊢
      have HLX := hide (HX2.out.below hbA (by omega))
      have hbW := hb4.trans (hbA.mono (by rw [← hlx]; omega))
      have HBd := hide ((HB2.out.below (hbA.mono hs2)).mono hs2)
      have HFd := hide (show FragIn wd B AF fs from fun k hk => by
        obtain ⟨g, off, h1, h2, h3⟩ := (HF2.out.below (hbA.mono (by rw [← hlx]; omega))) k hk
        exact ⟨g, off, h1, by rw [← hlx] at h2; omega, h3⟩)
      have HWd := hide (own_keep HW2.out hbA (fun k hk => by rw [hBe]; exact own_lt HW2.out k hk))
      have hBB : B ≤ wd.heap.size := bsz hbA (by omega)
      have hlxB : lx < B := by omega
      have hn0 := hok.2
      clear HX2 HB2 HF2 HW2 hb4 hboe
      have hWB : ∀ k, v.ownBlock = some k → k < B := fun k hk => by rw [hBe]; exact HVB.out k hk
      have HLE := hide hlx
      have HBE := hide hBe
      have HBW := hide hbW
      clear hlx hBe HVB hbW hs12
      go_loopw [36] (fun i wr => ∃ (k : Nat) (Ms : List Mk) (V : Value) (KV : Nat → Value), k ≤ fs.length ∧ i = .int .i64 k ∧ Ms.length = k ∧ MkV wr B bo fs.length B k (parF fs) Ms V KV ∧ Below B wd wr) (fun i _ => fs.length - (intOf i).toNat)
      case atStart => exact ⟨0, [], _, _, Nat.zero_le _, rfl, rfl, HM0.out, Below.refl _ _⟩
      case round =>
        clear HM0 hbA
        obtain ⟨k, Ms, V, KV, hk, rfl, hMs, hM, hbel⟩ := hrel
        have HM := hide hM
        clear hM
        by_cases hlt : k < fs.length
        · obtain ⟨gf, of, rfl, hgf, hcf⟩ := HFd.out k hlt
          have cc : ∀ j, j < 8 → wr.cell? ⟨gf, of + k * 8 + j, none⟩ = (frA (frAt fs k))[j]? := fun j hj => (hbel.cell (p := ⟨gf, of + k * 8 + j, none⟩) hgf).trans (hcf j hj)
          obtain ⟨hq1, hq2, hq3, hq4⟩ := hok.1 k hlt
          have HPF := hide (show (frAt fs k).par.toNat = parF fs k from rfl)
          clear hcf
          generalize frAt fs k = x at *
          obtain ⟨fb, fn, fp, fx, fy, fw, fh, ft⟩ := x
          simp only at hq1 hq2 hq3 hq4
          have d0 : wr.cell? ⟨gf, of + k * 8, none⟩ = some (.int .i64 fb) := cc 0 (by omega)
          have d1 : wr.cell? ⟨gf, of + k * 8 + 1, none⟩ = some (.int .i64 fn) := cc 1 (by omega)
          have d2 : wr.cell? ⟨gf, of + k * 8 + 2, none⟩ = some (.int .i64 fp) := cc 2 (by omega)
          have d3 : wr.cell? ⟨gf, of + k * 8 + 3, none⟩ = some (.int .i64 fx) := cc 3 (by omega)
          have d4 : wr.cell? ⟨gf, of + k * 8 + 4, none⟩ = some (.int .i64 fy) := cc 4 (by omega)
          have d5 : wr.cell? ⟨gf, of + k * 8 + 5, none⟩ = some (.int .i64 fw) := cc 5 (by omega)
          have d6 : wr.cell? ⟨gf, of + k * 8 + 6, none⟩ = some (.int .i64 fh) := cc 6 (by omega)
          have d7 : wr.cell? ⟨gf, of + k * 8 + 7, none⟩ = some (.string ft) := cc 7 (by omega)
          clear cc
          obtain ⟨m, rfl⟩ : ∃ m : Nat, fb = (m : Int) := ⟨fb.toNat, by omega⟩
          have hml : m < l.length := by omega
          obtain ⟨g2, off2, Ak, ck, rfl, hg2, hbc, _⟩ := HBd.out m hml
          have HKD := hide hbc.c0
          generalize (boAt l m).kind = kd at *
          clear hbc
          obtain ⟨gl, cl, rfl, _, hgl0⟩ := HWd.out.form (by omega)
          have hgl := hWB gl rfl
          obtain ⟨Rm, hRm⟩ : ∃ Rm, Rs[m]? = some Rm := ⟨_, List.getElem?_eq_getElem (by omega)⟩
          have HST := hide (fun j u (hu : (styA Rm)[j]? = some u) => show wd.cell? ⟨gl, m * 118 + j, none⟩ = some u from by
            have hj : j < 118 := by
              have := (Array.getElem?_eq_some_iff.1 hu).1
              rwa [styA_size] at this
            have hc9 := styCells_row Rs m Rm hRm j hj
            rw [styA_at _ hj] at hu
            injection hu with hu
            subst hu
            exact (HWd.out.cellAt (m * 118 + j) (by omega)).trans hc9)
          have hbf0 := hbel.alloc (bsz hbel hBB) (.cells #[.int .i64 (m : Int), .int .i64 fn, .int .i64 fp, .int .i64 fx, .int .i64 fy, .int .i64 fw, .int .i64 fh, .string ft] 37)
          have hbr := (Below.refl wr.heap.size wr).alloc (Nat.le_refl _) (.cells #[.int .i64 (m : Int), .int .i64 fn, .int .i64 fp, .int .i64 fx, .int .i64 fy, .int .i64 fw, .int .i64 fh, .string ft] 37)
          have HXf := hide (Blk.new wr 37 #[.int .i64 (m : Int), .int .i64 fn, .int .i64 fp, .int .i64 fx, .int .i64 fy, .int .i64 fw, .int .i64 fh, .string ft])
          have HMf := hide (HM.out.old hbr)
          have HLf := hide (HLX.out.below hbf0 hlxB)
          clear HM hbr hRm
          go_wp2_with fail
          clear d0 d1 d2 d3 d4 d5 d6 d7 hbel
          have hbf := hbf0
          generalize wr.alloc (.cells #[.int .i64 (m : Int), .int .i64 fn, .int .i64 fp, .int .i64 fx, .int .i64 fy, .int .i64 fw, .int .i64 fh, .string ft] 37) = wf at *
          clear hbf0
          obtain ⟨X, hX⟩ : ∃ X, X = wr.heap.size := ⟨_, rfl⟩
          rw [← hX] at HXf ⊢
          clear hX
          have hbd0 := Below.drew (Below.refl wf.heap.size wf)
          have HXd := hide (HXf.out.below hbd0 HXf.out.lt)
          have HMd := hide (HMf.out.old hbd0)
          have HLd := hide (HLf.out.below hbd0 HLf.out.lt)
          have hbw := hbf.trans (hbd0.mono (bsz hbf hBB))
          have e0 : wf.drew.cell? ⟨bo, 0, none⟩ = some V := HMd.out.blk.cell 0
          have e1 : wf.drew.cell? ⟨lx, 0, none⟩ = some (.slice (some ⟨g2, off2, none⟩) l.length cB) := HLd.out.cell 0
          have e2 : wf.drew.cell? ⟨X, 0, none⟩ = some (.int .i64 (m : Int)) := HXd.out.cell 0
          have e3 : wf.drew.cell? ⟨g2, off2 + m * 5, none⟩ = some (.int .i64 kd) := (hbw.cell (p := ⟨g2, off2 + m * 5, none⟩) hg2).trans HKD.out
          have e4 : ∀ j u, (styA Rm)[j]? = some u → wf.drew.cell? ⟨gl, m * 118 + j, none⟩ = some u := fun j u hu => (hbw.cell (p := ⟨gl, m * 118 + j, none⟩) hgl).trans (HST.out j u hu)
          have hBw := bsz hbw hBB
          clear hbd0 HXf HMf HLf hbf
          have HSK := hide (fun (Z : World) (hz : Below wf.drew.heap.size wf.drew Z) => show Z.cell? ⟨bo, 0, none⟩ = some V ∧ Z.cell? ⟨lx, 0, none⟩ = some (.slice (some ⟨g2, off2, none⟩) l.length cB) ∧ Z.cell? ⟨X, 0, none⟩ = some (.int .i64 (m : Int)) ∧ Z.cell? ⟨g2, off2 + m * 5, none⟩ = some (.int .i64 kd) ∧ (∀ j u, (styA Rm)[j]? = some u → Z.cell? ⟨gl, m * 118 + j, none⟩ = some u) from
            ⟨(hz.cell (p := ⟨bo, 0, none⟩) (cell_lt e0)).trans e0, (hz.cell (p := ⟨lx, 0, none⟩) (cell_lt e1)).trans e1, (hz.cell (p := ⟨X, 0, none⟩) (cell_lt e2)).trans e2, (hz.cell (p := ⟨g2, off2 + m * 5, none⟩) (cell_lt e3)).trans e3, fun j u hu => (hz.cell (p := ⟨gl, m * 118 + j, none⟩) (cell_lt (e4 j u hu))).trans (e4 j u hu)⟩)
          clear e0 e1 e2 e3 e4
          refine wp_region_KL (k := 19) 23 #[false, false, false, false, false, false, false, false, false, false, false, false, false, false, false, false, false, false, false, false, false, false, false] (by kernel_rfl) (by kernel_rfl) (S := fun Z => Z.cell? ⟨bo, 0, none⟩ = some V ∧ Z.cell? ⟨lx, 0, none⟩ = some (.slice (some ⟨g2, off2, none⟩) l.length cB) ∧ Z.cell? ⟨X, 0, none⟩ = some (.int .i64 (m : Int)) ∧ Z.cell? ⟨g2, off2 + m * 5, none⟩ = some (.int .i64 kd) ∧ (∀ j u, (styA Rm)[j]? = some u → Z.cell? ⟨gl, m * 118 + j, none⟩ = some u)) (by kernel_rfl) (HSK.out _ (Below.refl _ _)) (fun hHeld => ?_)
          generalize wf.drew = wD at *
          refine takeAnyK (i := 0) (v := (Value.pointer (some ⟨bo, 0, none⟩))) (some 41) rfl rfl rfl (by kernel_rfl) (by kernel_rfl) (by kernel_rfl) (fun _ _ _ h => h) (by rfl) (yieldsIf_move (by rfl) _ rfl _ rfl) hHeld ?_
          simp only [Act.put, List.setIfInBounds_toArray, List.set_cons_zero, List.set_cons_succ]
          refine takeK (i := 1) (v := (Value.pointer (some ⟨bo, 0, none⟩))) [2, 3, 4, 19, 20, 21, 22] (some 42) rfl rfl rfl (by kernel_rfl) (by kernel_rfl) (by kernel_rfl) (by kernel_rfl) (fun _ _ _ h => h) (by rfl) (yieldsIf_move (by rfl) _ rfl _ rfl) hHeld ?_
          simp only [Act.put, List.setIfInBounds_toArray, List.set_cons_zero, List.set_cons_succ]
          refine takeK (i := 2) (v := (Value.pointer (some ⟨bo, 0, none⟩))) [3, 4, 19, 20, 21, 22] (some 43) rfl rfl rfl (by kernel_rfl) (by kernel_rfl) (by kernel_rfl) (by kernel_rfl) (fun _ _ _ h => h) (by rfl) (yieldsIf_nil (by rfl) _ rfl _ rfl) hHeld ?_
          simp only [Act.put, List.setIfInBounds_toArray, List.set_cons_zero, List.set_cons_succ]
          refine takeK (i := 3) (v := (Value.pointer (some ⟨bo, 0, none⟩))) [4, 19, 20, 21, 22] (some 44) rfl rfl rfl (by kernel_rfl) (by kernel_rfl) (by kernel_rfl) (by kernel_rfl) (fun _ _ _ h => h) (by rfl) (yieldsIf_faddr (by rfl) 67 _ 0 rfl _ _ 0 rfl (by kernel_rfl)) hHeld ?_
          simp only [Act.put, List.setIfInBounds_toArray, List.set_cons_zero, List.set_cons_succ]
          refine takeK (i := 4) (v := (V)) [19, 20, 21, 22] (some 45) rfl rfl rfl (by kernel_rfl) (by kernel_rfl) (by kernel_rfl) (by kernel_rfl) (fun _ _ _ h => h) (by rfl) (yieldsIf_load1 (by rfl) 65 _ rfl _ _ _ rfl (by kernel_rfl) (fun _ h => h.1)) hHeld ?_
          simp only [Act.put, List.setIfInBounds_toArray, List.set_cons_zero, List.set_cons_succ]
          refine takeK (i := 5) (v := (Value.pointer (some ⟨lx, 0, none⟩))) [6, 9, 10, 11, 17, 18, 19, 20, 21, 22] (some 46) rfl rfl rfl (by kernel_rfl) (by kernel_rfl) (by kernel_rfl) (by kernel_rfl) (fun _ _ _ h => h) (by rfl) (yieldsIf_faddr (by rfl) 26 _ 0 rfl _ _ 0 rfl (by kernel_rfl)) hHeld ?_
          simp only [Act.put, List.setIfInBounds_toArray, List.set_cons_zero, List.set_cons_succ]
          refine takeK (i := 6) (v := (.slice (some ⟨g2, off2, none⟩) l.length cB)) [9, 10, 11, 17, 18, 19, 20, 21, 22] (some 47) rfl rfl rfl (by kernel_rfl) (by kernel_rfl) (by kernel_rfl) (by kernel_rfl) (fun _ _ _ h => h) (by rfl) (yieldsIf_load1 (by rfl) 23 _ rfl _ _ _ rfl (by kernel_rfl) (fun _ h => h.2.1)) hHeld ?_
          simp only [Act.put, List.setIfInBounds_toArray, List.set_cons_zero, List.set_cons_succ]
          refine takeK (i := 7) (v := (Value.pointer (some ⟨X, 0, none⟩))) [8, 9, 10, 11, 17, 18, 19, 20, 21, 22] (some 48) rfl rfl rfl (by kernel_rfl) (by kernel_rfl) (by kernel_rfl) (by kernel_rfl) (fun _ _ _ h => h) (by rfl) (yieldsIf_faddr (by rfl) 37 _ 0 rfl _ _ 0 rfl (by kernel_rfl)) hHeld ?_
          simp only [Act.put, List.setIfInBounds_toArray, List.set_cons_zero, List.set_cons_succ]
          refine takeK (i := 8) (v := (.int .i64 (m : Int))) [9, 10, 11, 17, 18, 19, 20, 21, 22] (some 49) rfl rfl rfl (by kernel_rfl) (by kernel_rfl) (by kernel_rfl) (by kernel_rfl) (fun _ _ _ h => h) (by rfl) (yieldsIf_load1 (by rfl) 3 _ rfl _ _ _ rfl (by kernel_rfl) (fun _ h => h.2.2.1)) hHeld ?_
          simp only [Act.put, List.setIfInBounds_toArray, List.set_cons_zero, List.set_cons_succ]
          refine takeK (i := 9) (v := (Value.pointer (some ⟨g2, off2 + m * 5, none⟩))) [10, 11, 17, 18, 19, 20, 21, 22] (some 50) rfl rfl rfl (by kernel_rfl) (by kernel_rfl) (by kernel_rfl) (by kernel_rfl) (fun _ _ _ h => h) (by rfl) (yieldsIf_iaddr (by rfl) 23 _ _ rfl g2 off2 l.length cB rfl .i64 m rfl hml 5 (by kernel_rfl) (off2 + m * 5) rfl) hHeld ?_
          simp only [Act.put, List.setIfInBounds_toArray, List.set_cons_zero, List.set_cons_succ]
          refine takeK (i := 10) (v := (Value.pointer (some ⟨g2, off2 + m * 5, none⟩))) [11, 17, 18, 19, 20, 21, 22] (some 51) rfl rfl rfl (by kernel_rfl) (by kernel_rfl) (by kernel_rfl) (by kernel_rfl) (fun _ _ _ h => h) (by rfl) (yieldsIf_faddr (by rfl) 45 _ 0 rfl _ _ 0 rfl (by kernel_rfl)) hHeld ?_
          simp only [Act.put, List.setIfInBounds_toArray, List.set_cons_zero, List.set_cons_succ]
          refine takeK (i := 11) (v := (.int .i64 kd)) [17, 18, 19, 20, 21, 22] (some 52) rfl rfl rfl (by kernel_rfl) (by kernel_rfl) (by kernel_rfl) (by kernel_rfl) (fun _ _ _ h => h) (by rfl) (yieldsIf_load1 (by rfl) 3 _ rfl _ _ _ rfl (by kernel_rfl) (fun _ h => h.2.2.2.1)) hHeld ?_
          simp only [Act.put, List.setIfInBounds_toArray, List.set_cons_zero, List.set_cons_succ]
          refine takeK (i := 12) (v := (.slice (some ⟨gl, 0, none⟩) l.length cl)) [15, 16, 17, 18, 19, 20, 21, 22] (some 53) rfl rfl rfl (by kernel_rfl) (by kernel_rfl) (by kernel_rfl) (by kernel_rfl) (fun _ _ _ h => h) (by rfl) (yieldsIf_move (by rfl) _ rfl _ rfl) hHeld ?_
          simp only [Act.put, List.setIfInBounds_toArray, List.set_cons_zero, List.set_cons_succ]
          refine takeK (i := 13) (v := (Value.pointer (some ⟨X, 0, none⟩))) [14, 15, 16, 17, 18, 19, 20, 21, 22] (some 54) rfl rfl rfl (by kernel_rfl) (by kernel_rfl) (by kernel_rfl) (by kernel_rfl) (fun _ _ _ h => h) (by rfl) (yieldsIf_faddr (by rfl) 37 _ 0 rfl _ _ 0 rfl (by kernel_rfl)) hHeld ?_
          simp only [Act.put, List.setIfInBounds_toArray, List.set_cons_zero, List.set_cons_succ]
          refine takeK (i := 14) (v := (.int .i64 (m : Int))) [15, 16, 17, 18, 19, 20, 21, 22] (some 55) rfl rfl rfl (by kernel_rfl) (by kernel_rfl) (by kernel_rfl) (by kernel_rfl) (fun _ _ _ h => h) (by rfl) (yieldsIf_load1 (by rfl) 3 _ rfl _ _ _ rfl (by kernel_rfl) (fun _ h => h.2.2.1)) hHeld ?_
          simp only [Act.put, List.setIfInBounds_toArray, List.set_cons_zero, List.set_cons_succ]
          refine takeK (i := 15) (v := (Value.pointer (some ⟨gl, m * 118, none⟩))) [16, 17, 18, 19, 20, 21, 22] (some 56) rfl rfl rfl (by kernel_rfl) (by kernel_rfl) (by kernel_rfl) (by kernel_rfl) (fun _ _ _ h => h) (by rfl) (yieldsIf_iaddr (by rfl) 22 _ _ rfl gl 0 l.length cl rfl .i64 m rfl hml 118 (by kernel_rfl) (m * 118) (by omega)) hHeld ?_
          simp only [Act.put, List.setIfInBounds_toArray, List.set_cons_zero, List.set_cons_succ]
          refine takeK (i := 16) (v := (Value.agg (styA Rm))) [17, 18, 19, 20, 21, 22] (some 57) rfl rfl rfl (by kernel_rfl) (by kernel_rfl) (by kernel_rfl) (by kernel_rfl) (fun _ _ _ h => h) (by rfl) (yieldsIf_loadMidA (by rfl) 50 _ rfl gl (m * 118) rfl (styA Rm) _ (fun _ h => h.2.2.2.2) sty_u rfl (sty_i Rm)) hHeld ?_
          simp only [Act.put, List.setIfInBounds_toArray, List.set_cons_zero, List.set_cons_succ]
          refine callK' (j := 17) (by kernel_rfl) rfl rfl (some 58) rfl 17 #[.int .i64 kd, .agg (styA Rm)] (run_enter Tryd.func17 (by kernel_rfl) (by kernel_rfl) _ _ rfl #[.int .i64 kd, .agg (styA Rm)] (by kernel_rfl) _) (marked_any _ _ _) ?_
          rintro e w9 ⟨⟨mi, mz, mp, rfl⟩, hb9⟩
          refine ⟨_, rfl, HSK.out _ hb9, ?_⟩
          simp only [Act.put, List.setIfInBounds_toArray, List.set_cons_zero, List.set_cons_succ]
          have hba := hb9.alloc hb9.size (.cells #[.int .i64 mi, .int .i64 mz, .int .i64 mp] 69)
          have HSa := hide (HSK.out _ hba)
          have HMa := hide (HMd.out.old hba)
          have HXa := hide (HXd.out.below hba HXd.out.lt)
          have HLa := hide (HLd.out.below hba HLd.out.lt)
          have hbw2 := hbw.trans (hba.mono hBw)
          have HNa := hide (Blk.new w9 69 #[.int .i64 mi, .int .i64 mz, .int .i64 mp])
          clear hba hb9 hbw HMd HXd HLd
          refine layK (j := 18) (by kernel_rfl) rfl rfl 59 rfl 65 1 _ rfl [(0, .agg #[.int .i64 mi, .int .i64 mz, .int .i64 mp])] (by kernel_rfl) #[.int .i64 mi, .int .i64 mz, .int .i64 mp] 69 (by kernel_rfl) HSa.out ?_
          simp only [Act.put, List.setIfInBounds_toArray, List.set_cons_zero, List.set_cons_succ]
          refine exitK (by kernel_rfl) ?_
          have hsza : B ≤ (w9.alloc (.cells #[.int .i64 mi, .int .i64 mz, .int .i64 mp] 69)).heap.size := bsz hbw2 hBB
          refine app1H (j := 19) (by kernel_rfl) rfl rfl 60 rfl (.tmp 45) (.tmp 59) _ rfl B 69 _ 3 24 Tryd.underlying65 mark_info rfl (Nat.succ_pos _) (V) Ms.length _ (by kernel_rfl) HMa.out.row w9.heap.size 1 #[.int .i64 mi, .int .i64 mz, .int .i64 mp] HNa.out rfl (by kernel_rfl) rfl (by omega) (Nat.le_of_ble_eq_true rfl) hsza (fun v4 w4 hown4 hg4 hat4 => ⟨trivial, ?_⟩)
          simp only [Act.put, List.setIfInBounds_toArray, List.set_cons_zero, List.set_cons_succ]
          have HB4 := hide (HMa.out.blk.grown hg4 (Ne.symm (own_blk_ne HMa.out.row HMa.out.blk (by decide))))
          have HX4 := hide (HXa.out.grown hg4 (Ne.symm (own_blk_ne HMa.out.row HXa.out (by decide))))
          have HL4 := hide (HLa.out.grown hg4 (Ne.symm (own_blk_ne HMa.out.row HLa.out (by decide))))
          have hTT := True.intro
          refine take_at (i := 20) (v := (Value.pointer (some ⟨bo, 0, none⟩))) (some 61) rfl rfl (by kernel_rfl) (by kernel_rfl) (by kernel_rfl) (fun _ _ _ h => h) (yieldsIf_nil (by rfl) _ rfl _ rfl) hTT ?_
          simp only [Act.put, List.setIfInBounds_toArray, List.set_cons_zero, List.set_cons_succ]
          refine take_at (i := 21) (v := (Value.pointer (some ⟨bo, 0, none⟩))) (some 62) rfl rfl (by kernel_rfl) (by kernel_rfl) (by kernel_rfl) (fun _ _ _ h => h) (yieldsIf_faddr (by rfl) 67 _ 0 rfl _ _ 0 rfl (by kernel_rfl)) hTT ?_
          simp only [Act.put, List.setIfInBounds_toArray, List.set_cons_zero, List.set_cons_succ]
          refine storeH (j := 22) (by kernel_rfl) rfl rfl rfl 65 (.tmp 62) (.tmp 60) rfl bo 0 67 _ (v4) (by kernel_rfl) (by kernel_rfl) HB4.out (Nat.le_of_ble_eq_true rfl) (by kernel_rfl) (by obtain ⟨A4, c4, rfl, _, _⟩ := own_reads hown4; rfl) (by obtain ⟨A4, c4, rfl, _, _⟩ := own_reads hown4; rfl) (fun w5 hB hG => ⟨trivial, ?_⟩)
          simp only [List.setIfInBounds_toArray, List.set_cons_zero, List.set_cons_succ]
          obtain ⟨hM5, hb5⟩ := HMa.out.mark hsza (mi, mz, mp) hown4 hg4 hB hG
          have HM5 := hide hM5
          have HX5 := hide (HX4.out.grown hG (fun e => (HX4.out.ne_ HB4.out (by decide)) (by injection e)))
          have hbw5 := hbw2.trans (hb5.mono (Nat.le_refl _))
          clear hB hG hown4 hg4 hat4 hM5 hb5 HX4 HB4 HL4 HMa HXa HLa HNa HSa hsza hbw2
          refine wpAnyH_done (by kernel_rfl) ?_ _
          clear hHeld HSK hTT
          by_cases hk0 : k = 0
          · subst hk0
            have tk : decide ((0 : Nat) < 0) = false := rfl
            go_wp2_with fail
            go_roundw
            case rel => exact ⟨0 + 1, Ms ++ [(mi, mz, mp)], _, _, by omega, by go_num, by simp [hMs], HM5.out.first, hbw5⟩
            case measure => simp only [intOf]; omega
          · have hk0 : 0 < k := by omega
            have tk : decide (0 < k) = true := decide_eq_true hk0
            obtain ⟨p, rfl⟩ : ∃ p : Nat, fp = (p : Int) := ⟨fp.toNat, by have := hq4 hk0; omega⟩
            have hpk : parF fs k = p := by rw [← HPF.out]; rfl
            have hpl : p < fs.length := by have := hq4 hk0; omega
            go_wp2_with fail
            have hbd0 := Below.drew (Below.refl w5.heap.size w5)
            have HXd := hide (HX5.out.below hbd0 HX5.out.lt)
            have HMd := hide (HM5.out.old hbd0)
            have hbw6 := hbw5.trans (hbd0.mono (bsz hbw5 hBB))
            clear hbd0 HX5 HM5 hbw5
            have HKP := hide (show w5.drew.cell? ⟨B, p, none⟩ = some (KV p) by rw [HMd.out.kblk.cell p, kvA_at _ _ _ hpl])
            have hszD := bsz hbw6 hBB
            refine wp_region_KL (k := 18) 19 #[false, false, false, false, false, false, false, false, false, false, false, false, false, false, false, false, false, false, false] (by kernel_rfl) (by kernel_rfl) (S := fun Z => Z.cell? ⟨bo, 1, none⟩ = some (.slice (some ⟨B, 0, none⟩) fs.length fs.length) ∧ Z.cell? ⟨X, 2, none⟩ = some (.int .i64 (p : Int)) ∧ Z.cell? ⟨B, p, none⟩ = some (KV p)) (by kernel_rfl) ⟨HMd.out.blk.cell 1, HXd.out.cell 2, HKP.out⟩ (fun hHeld => ?_)
            generalize w5.drew = wD at *
            refine takeK (i := 0) (v := (Value.pointer (some ⟨bo, 0, none⟩))) [1, 2, 3, 17, 18] (some 65) rfl rfl rfl (by kernel_rfl) (by kernel_rfl) (by kernel_rfl) (by kernel_rfl) (fun _ _ _ h => h) (by rfl) (yieldsIf_move (by rfl) _ rfl _ rfl) hHeld ?_
            simp only [Act.put, List.setIfInBounds_toArray, List.set_cons_zero, List.set_cons_succ]
            refine takeK (i := 1) (v := (Value.pointer (some ⟨bo, 0, none⟩))) [2, 3, 17, 18] (some 66) rfl rfl rfl (by kernel_rfl) (by kernel_rfl) (by kernel_rfl) (by kernel_rfl) (fun _ _ _ h => h) (by rfl) (yieldsIf_nil (by rfl) _ rfl _ rfl) hHeld ?_
            simp only [Act.put, List.setIfInBounds_toArray, List.set_cons_zero, List.set_cons_succ]
            refine takeK (i := 2) (v := (Value.pointer (some ⟨bo, 1, none⟩))) [3, 17, 18] (some 67) rfl rfl rfl (by kernel_rfl) (by kernel_rfl) (by kernel_rfl) (by kernel_rfl) (fun _ _ _ h => h) (by rfl) (yieldsIf_faddr (by rfl) 67 _ 1 rfl _ _ 1 rfl (by kernel_rfl)) hHeld ?_
            simp only [Act.put, List.setIfInBounds_toArray, List.set_cons_zero, List.set_cons_succ]
            refine takeK (i := 3) (v := (.slice (some ⟨B, 0, none⟩) fs.length fs.length)) [17, 18] (some 68) rfl rfl rfl (by kernel_rfl) (by kernel_rfl) (by kernel_rfl) (by kernel_rfl) (fun _ _ _ h => h) (by rfl) (yieldsIf_load1 (by rfl) 64 _ rfl _ _ _ rfl (by kernel_rfl) (fun _ h => h.1)) hHeld ?_
            simp only [Act.put, List.setIfInBounds_toArray, List.set_cons_zero, List.set_cons_succ]
            refine takeK (i := 4) (v := (Value.pointer (some ⟨X, 2, none⟩))) [5, 17, 18] (some 69) rfl rfl rfl (by kernel_rfl) (by kernel_rfl) (by kernel_rfl) (by kernel_rfl) (fun _ _ _ h => h) (by rfl) (yieldsIf_faddr (by rfl) 37 _ 2 rfl _ _ 2 rfl (by kernel_rfl)) hHeld ?_
            simp only [Act.put, List.setIfInBounds_toArray, List.set_cons_zero, List.set_cons_succ]
            refine takeK (i := 5) (v := (.int .i64 (p : Int))) [17, 18] (some 70) rfl rfl rfl (by kernel_rfl) (by kernel_rfl) (by kernel_rfl) (by kernel_rfl) (fun _ _ _ h => h) (by rfl) (yieldsIf_load1 (by rfl) 3 _ rfl _ _ _ rfl (by kernel_rfl) (fun _ h => h.2.1)) hHeld ?_
            simp only [Act.put, List.setIfInBounds_toArray, List.set_cons_zero, List.set_cons_succ]
            refine takeK (i := 6) (v := (Value.pointer (some ⟨bo, 0, none⟩))) [7, 8, 9, 12, 13, 16, 17, 18] (some 71) rfl rfl rfl (by kernel_rfl) (by kernel_rfl) (by kernel_rfl) (by kernel_rfl) (fun _ _ _ h => h) (by rfl) (yieldsIf_move (by rfl) _ rfl _ rfl) hHeld ?_
            simp only [Act.put, List.setIfInBounds_toArray, List.set_cons_zero, List.set_cons_succ]
            refine takeK (i := 7) (v := (Value.pointer (some ⟨bo, 0, none⟩))) [8, 9, 12, 13, 16, 17, 18] (some 72) rfl rfl rfl (by kernel_rfl) (by kernel_rfl) (by kernel_rfl) (by kernel_rfl) (fun _ _ _ h => h) (by rfl) (yieldsIf_nil (by rfl) _ rfl _ rfl) hHeld ?_
            simp only [Act.put, List.setIfInBounds_toArray, List.set_cons_zero, List.set_cons_succ]
            refine takeK (i := 8) (v := (Value.pointer (some ⟨bo, 1, none⟩))) [9, 12, 13, 16, 17, 18] (some 73) rfl rfl rfl (by kernel_rfl) (by kernel_rfl) (by kernel_rfl) (by kernel_rfl) (fun _ _ _ h => h) (by rfl) (yieldsIf_faddr (by rfl) 67 _ 1 rfl _ _ 1 rfl (by kernel_rfl)) hHeld ?_
            simp only [Act.put, List.setIfInBounds_toArray, List.set_cons_zero, List.set_cons_succ]
            refine takeK (i := 9) (v := (.slice (some ⟨B, 0, none⟩) fs.length fs.length)) [12, 13, 16, 17, 18] (some 74) rfl rfl rfl (by kernel_rfl) (by kernel_rfl) (by kernel_rfl) (by kernel_rfl) (fun _ _ _ h => h) (by rfl) (yieldsIf_load1 (by rfl) 64 _ rfl _ _ _ rfl (by kernel_rfl) (fun _ h => h.1)) hHeld ?_
            simp only [Act.put, List.setIfInBounds_toArray, List.set_cons_zero, List.set_cons_succ]
            refine takeK (i := 10) (v := (Value.pointer (some ⟨X, 2, none⟩))) [11, 12, 13, 16, 17, 18] (some 75) rfl rfl rfl (by kernel_rfl) (by kernel_rfl) (by kernel_rfl) (by kernel_rfl) (fun _ _ _ h => h) (by rfl) (yieldsIf_faddr (by rfl) 37 _ 2 rfl _ _ 2 rfl (by kernel_rfl)) hHeld ?_
            simp only [Act.put, List.setIfInBounds_toArray, List.set_cons_zero, List.set_cons_succ]
            refine takeK (i := 11) (v := (.int .i64 (p : Int))) [12, 13, 16, 17, 18] (some 76) rfl rfl rfl (by kernel_rfl) (by kernel_rfl) (by kernel_rfl) (by kernel_rfl) (fun _ _ _ h => h) (by rfl) (yieldsIf_load1 (by rfl) 3 _ rfl _ _ _ rfl (by kernel_rfl) (fun _ h => h.2.1)) hHeld ?_
            simp only [Act.put, List.setIfInBounds_toArray, List.set_cons_zero, List.set_cons_succ]
            refine takeK (i := 12) (v := (Value.pointer (some ⟨B, p, none⟩))) [13, 16, 17, 18] (some 77) rfl rfl rfl (by kernel_rfl) (by kernel_rfl) (by kernel_rfl) (by kernel_rfl) (fun _ _ _ h => h) (by rfl) (yieldsIf_iaddr (by rfl) 64 _ _ rfl B 0 fs.length fs.length rfl .i64 p rfl hpl 1 (by kernel_rfl) p (by omega)) hHeld ?_
            simp only [Act.put, List.setIfInBounds_toArray, List.set_cons_zero, List.set_cons_succ]
            refine takeK (i := 13) (v := (KV p)) [16, 17, 18] (some 78) rfl rfl rfl (by kernel_rfl) (by kernel_rfl) (by kernel_rfl) (by kernel_rfl) (fun _ _ _ h => h) (by rfl) (yieldsIf_load1 (by rfl) 35 _ rfl _ _ _ rfl (by kernel_rfl) (fun _ h => h.2.2)) hHeld ?_
            simp only [Act.put, List.setIfInBounds_toArray, List.set_cons_zero, List.set_cons_succ]
            refine takeK (i := 14) (v := (.int .i64 (k : Int))) [15, 16, 17, 18] (some 79) rfl rfl rfl (by kernel_rfl) (by kernel_rfl) (by kernel_rfl) (by kernel_rfl) (fun _ _ _ h => h) (by rfl) (yieldsIf_move (by rfl) _ rfl _ rfl) hHeld ?_
            simp only [Act.put, List.setIfInBounds_toArray, List.set_cons_zero, List.set_cons_succ]
            have hba := (Below.refl wD.heap.size wD).alloc (Nat.le_refl _) (.cells #[.int .i64 (k : Int)] 3)
            have HMa := hide (HMd.out.old hba)
            have HXa := hide (HXd.out.below hba HXd.out.lt)
            have HKa := hide ((hba.cell (p := ⟨B, p, none⟩) (cell_lt HKP.out)).trans HKP.out)
            have hbw7 := hbw6.trans (hba.mono hszD)
            have HNa := hide (Blk.new wD 3 #[.int .i64 (k : Int)])
            have hsza : B ≤ (wD.alloc (.cells #[.int .i64 (k : Int)] 3)).heap.size := Nat.le_trans hszD hba.size
            have HR := hide (HMa.out.krow p hpl)
            clear hba HMd HXd HKP hbw6
            refine layK (j := 15) (by kernel_rfl) rfl rfl 80 rfl 35 1 _ rfl [(0, .int .i64 (k : Int))] (by kernel_rfl) #[.int .i64 (k : Int)] 3 (by kernel_rfl) ⟨HMa.out.blk.cell 1, HXa.out.cell 2, HKa.out⟩ ?_
            simp only [Act.put, List.setIfInBounds_toArray, List.set_cons_zero, List.set_cons_succ]
            have hKg := hide (fun (Z : World) (hz : (wD.alloc (.cells #[.int .i64 (k : Int)] 3)).grownBy Z (KV p).ownBlock) => show Z.cell? ⟨B, p, none⟩ = some (KV p) by rw [(HMa.out.kblk.grown hz (Ne.symm (own_blk_ne HR.out HMa.out.kblk (by decide)))).cell p, kvA_at _ _ _ hpl])
            refine app1K (j := 16) (by kernel_rfl) rfl rfl 81 rfl (.tmp 78) (.tmp 80) _ rfl B 3 _ 1 8 Tryd.underlying35 int_inf rfl (Nat.succ_pos _) (KV p) (kidsF k (parF fs) p).length _ (by kernel_rfl) HR.out wD.heap.size 1 #[.int .i64 (k : Int)] HNa.out rfl (by kernel_rfl) rfl (by have := kidsF_len k (parF fs) p; omega) (Nat.le_of_ble_eq_true rfl) hsza (fun v4 w4 hown4 hg4 hat4 => ⟨⟨(HMa.out.blk.grown hg4 (Ne.symm (own_blk_ne HR.out HMa.out.blk (by decide)))).cell 1, (HXa.out.grown hg4 (Ne.symm (own_blk_ne HR.out HXa.out (by decide)))).cell 2, hKg.out _ hg4⟩, ?_⟩)
            simp only [Act.put, List.setIfInBounds_toArray, List.set_cons_zero, List.set_cons_succ]
            have HB4 := hide (HMa.out.blk.grown hg4 (Ne.symm (own_blk_ne HR.out HMa.out.blk (by decide))))
            have HK4 := hide (HMa.out.kblk.grown hg4 (Ne.symm (own_blk_ne HR.out HMa.out.kblk (by decide))))
            have HX4 := hide (HXa.out.grown hg4 (Ne.symm (own_blk_ne HR.out HXa.out (by decide))))
            refine takeK (i := 17) (v := (Value.pointer (some ⟨B, p, none⟩))) [18] (some 82) rfl rfl rfl (by kernel_rfl) (by kernel_rfl) (by kernel_rfl) (by kernel_rfl) (fun _ _ _ h => h) (by rfl) (yieldsIf_iaddr (by rfl) 64 _ _ rfl B 0 fs.length fs.length rfl .i64 p rfl hpl 1 (by kernel_rfl) p (by omega)) ⟨HB4.out.cell 1, HX4.out.cell 2, hKg.out _ hg4⟩ ?_
            simp only [Act.put, List.setIfInBounds_toArray, List.set_cons_zero, List.set_cons_succ]
            refine exitK (by kernel_rfl) ?_
            refine storeH (j := 18) (by kernel_rfl) rfl rfl rfl 35 (.tmp 82) (.tmp 81) rfl B p 35 _ v4 (by kernel_rfl) (by kernel_rfl) HK4.out (by rw [kvA_size]; exact hpl) (by kernel_rfl) (by obtain ⟨A4, c4, rfl, _, _⟩ := own_reads hown4; rfl) (by obtain ⟨A4, c4, rfl, _, _⟩ := own_reads hown4; rfl) (fun w6 hB hG => ⟨trivial, ?_⟩)
            obtain ⟨hM6, hb6⟩ := HMa.out.kid hsza p hpl hk0 hpk hown4 hg4 hat4 hB hG
            have HM6 := hide hM6
            have hbw8 := hbw7.trans (hb6.mono (Nat.le_refl _))
            clear hB hG hown4 hg4 hat4 hM6 hb6 HX4 HB4 HK4 HMa HXa HNa HKa hsza hbw7 HR hKg
            refine wpAnyH_done (by kernel_rfl) ?_ _
            clear hHeld
            go_wp2_with fail
            go_roundw
            case rel => exact ⟨k + 1, Ms ++ [(mi, mz, mp)], _, _, by omega, by go_num, by simp [hMs], HM6.out, hbw8⟩
            case measure => simp only [intOf]; omega
        · obtain rfl : k = fs.length := by omega
          obtain ⟨mk0, Mr, rfl⟩ : ∃ a t, Ms = a :: t := by
            cases Ms with
            | nil => simp at hMs; omega
            | cons a t => exact ⟨a, t, rfl⟩
          obtain ⟨m0, mzp⟩ := mk0
          have hbd0 := Below.drew (Below.refl wr.heap.size wr)
          have HMd := hide (HM.out.old hbd0)
          have hbw := hbel.trans (hbd0.mono (bsz hbel hBB))
          have hszD := bsz hbw hBB
          obtain ⟨gm, cm, cur, rfl, _, hcb, hca, hcm, hcs, hct⟩ := own_form HMd.out.row (by simp)
          rw [hMs] at HMd hca hct
          have HCB := hide hcb
          have HC0 := hide (show wr.drew.cell? ⟨gm, 0, none⟩ = some (.int .i64 m0) by
            rw [hcb.cell 0, ← Array.getElem?_toList]
            have e : (cur.toList.take (fs.length * 3))[0]? = some (.int .i64 m0) := by rw [hct]; rfl
            rw [List.getElem?_take_of_lt (by omega)] at e
            exact e)
          clear HM hbd0 hbel hcb hct
          go_wp2_with fail
          refine wp_region_KL (k := 14) 15 #[false, false, false, false, false, false, false, false, false, false, false, false, false, false, false] (by kernel_rfl) (by kernel_rfl) (S := fun Z => Z.cell? ⟨bo, 0, none⟩ = some (.slice (some ⟨gm, 0, none⟩) fs.length cm) ∧ Z.cell? ⟨gm, 0, none⟩ = some (.int .i64 m0)) (by kernel_rfl) ⟨HMd.out.blk.cell 0, HC0.out⟩ (fun hHeld => ?_)
          refine takeK (i := 0) (v := (Value.pointer (some ⟨bo, 0, none⟩))) [1, 2, 3, 12, 13, 14] (some 84) rfl rfl rfl (by kernel_rfl) (by kernel_rfl) (by kernel_rfl) (by kernel_rfl) (fun _ _ _ h => h) (by rfl) (yieldsIf_move (by rfl) _ rfl _ rfl) hHeld ?_
          simp only [Act.put, List.setIfInBounds_toArray, List.set_cons_zero, List.set_cons_succ]
          refine takeK (i := 1) (v := (Value.pointer (some ⟨bo, 0, none⟩))) [2, 3, 12, 13, 14] (some 85) rfl rfl rfl (by kernel_rfl) (by kernel_rfl) (by kernel_rfl) (by kernel_rfl) (fun _ _ _ h => h) (by rfl) (yieldsIf_nil (by rfl) _ rfl _ rfl) hHeld ?_
          simp only [Act.put, List.setIfInBounds_toArray, List.set_cons_zero, List.set_cons_succ]
          refine takeK (i := 2) (v := (Value.pointer (some ⟨bo, 0, none⟩))) [3, 12, 13, 14] (some 86) rfl rfl rfl (by kernel_rfl) (by kernel_rfl) (by kernel_rfl) (by kernel_rfl) (fun _ _ _ h => h) (by rfl) (yieldsIf_faddr (by rfl) 67 _ 0 rfl _ _ 0 rfl (by kernel_rfl)) hHeld ?_
          simp only [Act.put, List.setIfInBounds_toArray, List.set_cons_zero, List.set_cons_succ]
          refine takeK (i := 3) (v := (.slice (some ⟨gm, 0, none⟩) fs.length cm)) [12, 13, 14] (some 87) rfl rfl rfl (by kernel_rfl) (by kernel_rfl) (by kernel_rfl) (by kernel_rfl) (fun _ _ _ h => h) (by rfl) (yieldsIf_load1 (by rfl) 65 _ rfl _ _ _ rfl (by kernel_rfl) (fun _ h => h.1)) hHeld ?_
          simp only [Act.put, List.setIfInBounds_toArray, List.set_cons_zero, List.set_cons_succ]
          refine takeK (i := 4) (v := (Value.pointer (some ⟨bo, 0, none⟩))) [5, 6, 7, 8, 9, 10, 11, 12, 13, 14] (some 88) rfl rfl rfl (by kernel_rfl) (by kernel_rfl) (by kernel_rfl) (by kernel_rfl) (fun _ _ _ h => h) (by rfl) (yieldsIf_move (by rfl) _ rfl _ rfl) hHeld ?_
          simp only [Act.put, List.setIfInBounds_toArray, List.set_cons_zero, List.set_cons_succ]
          refine takeK (i := 5) (v := (Value.pointer (some ⟨bo, 0, none⟩))) [6, 7, 8, 9, 10, 11, 12, 13, 14] (some 89) rfl rfl rfl (by kernel_rfl) (by kernel_rfl) (by kernel_rfl) (by kernel_rfl) (fun _ _ _ h => h) (by rfl) (yieldsIf_nil (by rfl) _ rfl _ rfl) hHeld ?_
          simp only [Act.put, List.setIfInBounds_toArray, List.set_cons_zero, List.set_cons_succ]
          refine takeK (i := 6) (v := (Value.pointer (some ⟨bo, 0, none⟩))) [7, 8, 9, 10, 11, 12, 13, 14] (some 90) rfl rfl rfl (by kernel_rfl) (by kernel_rfl) (by kernel_rfl) (by kernel_rfl) (fun _ _ _ h => h) (by rfl) (yieldsIf_faddr (by rfl) 67 _ 0 rfl _ _ 0 rfl (by kernel_rfl)) hHeld ?_
          simp only [Act.put, List.setIfInBounds_toArray, List.set_cons_zero, List.set_cons_succ]
          refine takeK (i := 7) (v := (.slice (some ⟨gm, 0, none⟩) fs.length cm)) [8, 9, 10, 11, 12, 13, 14] (some 91) rfl rfl rfl (by kernel_rfl) (by kernel_rfl) (by kernel_rfl) (by kernel_rfl) (fun _ _ _ h => h) (by rfl) (yieldsIf_load1 (by rfl) 65 _ rfl _ _ _ rfl (by kernel_rfl) (fun _ h => h.1)) hHeld ?_
          simp only [Act.put, List.setIfInBounds_toArray, List.set_cons_zero, List.set_cons_succ]
          refine takeK (i := 8) (v := (Value.pointer (some ⟨gm, 0, none⟩))) [9, 10, 11, 12, 13, 14] (some 92) rfl rfl rfl (by kernel_rfl) (by kernel_rfl) (by kernel_rfl) (by kernel_rfl) (fun _ _ _ h => h) (by rfl) (yieldsIf_iaddr (by rfl) 65 _ _ rfl gm 0 fs.length cm rfl .i64 0 rfl hn0 3 (by kernel_rfl) 0 (by omega)) hHeld ?_
          simp only [Act.put, List.setIfInBounds_toArray, List.set_cons_zero, List.set_cons_succ]
          refine takeK (i := 9) (v := (Value.pointer (some ⟨gm, 0, none⟩))) [10, 11, 12, 13, 14] (some 93) rfl rfl rfl (by kernel_rfl) (by kernel_rfl) (by kernel_rfl) (by kernel_rfl) (fun _ _ _ h => h) (by rfl) (yieldsIf_faddr (by rfl) 69 _ 0 rfl _ _ 0 rfl (by kernel_rfl)) hHeld ?_
          simp only [Act.put, List.setIfInBounds_toArray, List.set_cons_zero, List.set_cons_succ]
          refine takeK (i := 10) (v := (.int .i64 m0)) [11, 12, 13, 14] (some 94) rfl rfl rfl (by kernel_rfl) (by kernel_rfl) (by kernel_rfl) (by kernel_rfl) (fun _ _ _ h => h) (by rfl) (yieldsIf_load1 (by rfl) 3 _ rfl _ _ _ rfl (by kernel_rfl) (fun _ h => h.2)) hHeld ?_
          simp only [Act.put, List.setIfInBounds_toArray, List.set_cons_zero, List.set_cons_succ]
          refine takeK (i := 11) (v := (.int .i64 (max m0 1))) [12, 13, 14] (some 95) rfl rfl rfl (by kernel_rfl) (by kernel_rfl) (by kernel_rfl) (by kernel_rfl) (fun _ _ _ h => h) (by rfl) (Or.inl ⟨by rfl, fun W hW => ?_⟩) hHeld ?_
          · go_simp
          simp only [Act.put, List.setIfInBounds_toArray, List.set_cons_zero, List.set_cons_succ]
          refine takeK (i := 12) (v := (Value.pointer (some ⟨gm, 0, none⟩))) [13, 14] (some 96) rfl rfl rfl (by kernel_rfl) (by kernel_rfl) (by kernel_rfl) (by kernel_rfl) (fun _ _ _ h => h) (by rfl) (yieldsIf_iaddr (by rfl) 65 _ _ rfl gm 0 fs.length cm rfl .i64 0 rfl hn0 3 (by kernel_rfl) 0 (by omega)) hHeld ?_
          simp only [Act.put, List.setIfInBounds_toArray, List.set_cons_zero, List.set_cons_succ]
          refine takeK (i := 13) (v := (Value.pointer (some ⟨gm, 0, none⟩))) [14] (some 97) rfl rfl rfl (by kernel_rfl) (by kernel_rfl) (by kernel_rfl) (by kernel_rfl) (fun _ _ _ h => h) (by rfl) (yieldsIf_faddr (by rfl) 69 _ 0 rfl _ _ 0 rfl (by kernel_rfl)) hHeld ?_
          simp only [Act.put, List.setIfInBounds_toArray, List.set_cons_zero, List.set_cons_succ]
          refine exitK (by kernel_rfl) ?_
          refine storeH (j := 14) (by kernel_rfl) rfl rfl rfl 3 (.tmp 97) (.tmp 95) rfl gm 0 69 cur (.int .i64 (max m0 1)) rfl rfl HCB.out (by rw [hcs]; omega) (by kernel_rfl) rfl rfl (fun w6 hB hG => ⟨trivial, ?_⟩)
          refine wpAnyH_done (by kernel_rfl) ?_ _
          clear hHeld
          obtain ⟨hM6, hb6⟩ := HMd.out.top hszD hMs.symm HCB.out (max m0 1) hB hG
          have hbw6 := hbw.trans hb6
          obtain ⟨bm6, cm6, hv6, hO6⟩ := hM6.ord (by simpa using hMs) hn0
          have hown : ownM (fun f => (((max m0 1, mzp) :: Mr) : List Mk).getD f (0, 0, 0)) 0 = true := by
            have h9 : ¬ max m0 1 = 0 := by omega
            simp [ownM, h9]
          have hlen := ord_len fs.length (parF fs) (parF_lt hok) (ownM (fun f => (((max m0 1, mzp) :: Mr) : List Mk).getD f (0, 0, 0))) (srtM (fun f => (((max m0 1, mzp) :: Mr) : List Mk).getD f (0, 0, 0))) (srtM_perm _) hn0 hown
          have HT := hide (tell_any fs.length (parF fs) (parF_lt hok) (fun f => (((max m0 1, mzp) :: Mr) : List Mk).getD f (0, 0, 0)) hlF bo bm6 B cm6 fs.length _ fs.length 0 (.slice none 0 0) [] w6 hn0 (by omega) (by
            have e : (stepsF fs.length (kidsF fs.length (parF fs)) (ownM (fun f => (((max m0 1, mzp) :: Mr) : List Mk).getD f (0, 0, 0))) (srtM (fun f => (((max m0 1, mzp) :: Mr) : List Mk).getD f (0, 0, 0))) fs.length 0 0).length = fs.length := hlen
            simp only [List.length_nil]
            omega) hO6)
          generalize hMM : (fun f => (((max m0 1, mzp) :: Mr) : List Mk).getD f (0, 0, 0)) = MM at *
          have hbo6 : B ≤ bo := hM6.hbo
          have hs6 := bsz hbw6 hBB
          clear hB hG HMd HCB HC0 hM6 hv6 hO6 hMM hMs
          go_wp2_with fail
          refine HT.out.mono ?_
          rintro e w7 ⟨rfl, V7, hO7, hS7⟩
          have c2 : w7.cell? ⟨bo, 2, none⟩ = some V7 := hO7.blk.cell 2
          have hb7 : Below B w6 w7 := hS7.only.below hs6 (fun k hk => by
            rcases hk with rfl | hk
            · exact hbo6
            · cases hk)
          have hrow := hO7.row
          clear HT hO7 hS7
          have hbF := HBW.out.trans ((hbw6.trans hb7).mono (by rw [← HLE.out]; omega))
          go_wp2_with fail
          go_ret2
          exact ⟨⟨V7, 0, rfl, fun h => absurd rfl h, fun _ => ⟨hok, MM, hown, hrow⟩⟩, hbF⟩
    · have t2 : (r2 != 0) = true := by simpa using h2
      clear hr2
      go_wp2_with fail
      go_ret2
      exact ⟨ord_bad r2 h2, hb4⟩
  · clear hr
    go_wp2_with fail
    go_ret2
    exact ⟨ord_bad 3 (by decide), hb2⟩
end Go.Proofs.YtbpkffoooieejaaDoor
