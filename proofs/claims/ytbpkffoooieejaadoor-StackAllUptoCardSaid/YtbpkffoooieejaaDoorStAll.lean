/- The walk of the statement StackAll. -/
import Derived.BigQuiet
import Derived.Handy
import Derived.IntWalk
import Derived.RegionTactic
import Derived.Deep.MidRow
import Derived.Deep.CutBlock
import Derived.Test.YtbpkffoooieejaaDoorStAllLaw
namespace Go.Proofs.YtbpkffoooieejaaDoor
open Go.ChangeShapes Go.WideShapes Go.ChangeAt Go.RowKit
theorem stacked_any (w : World) : Calls Tryd.prog 8 #[] w fun e w' => e = .returned (.bool true) ∧ Below w.heap.size w w' := by
  have HC := hide (stCheck_any [] [] none none 0 0 0 0 w (fun k hk => absurd hk (Nat.not_lt_zero _)) (fun k hk => absurd hk (Nat.not_lt_zero _)) (Nat.zero_le _) (Nat.zero_le _))
  go_enter Tryd.func8, Tryd.ntmps8
  go_wp2_with fail
  refine HC.out.mono ?_
  rintro e w1 ⟨⟨r, rfl, hr3, hr⟩, hb1⟩
  obtain rfl : r = 3 := by
    rcases hr3 with rfl | h
    · exact absurd (hr rfl).2 (Nat.lt_irrefl _)
    · exact h
  go_wp2_with fail
  go_ret
  exact ⟨rfl, hb1⟩
theorem bool_info : (Tryd.prog.info? 4).map (fun i => (i.zero, i.size, i.bytes)) = some (some (.bool false), 1, 1) := by kernel_rfl
set_option maxRecDepth 100000 in
set_option maxHeartbeats 40000000 in
theorem stAll_any (l : List Bo) (fs : List Fr) (AB AF As : Option Addr) (cB cF ns cs : Nat) (lw lh : Int) (R : Nat → Nat → Int) (G : Nat → Int) (w : World) (hB : BoxIn w w.heap.size AB l) (hF : FragIn w w.heap.size AF fs) (hlB : l.length ≤ 300000) (hlF : fs.length ≤ 300000)
    (hS : StyIn w w.heap.size As ns R) (hns : ns ≤ maxLen) (hG : IniAt w G) :
    Calls Tryd.prog 3 #[.slice As ns cs, .agg #[.slice AB l.length cB, .slice AF fs.length cF, .int .i64 lw, .int .i64 lh]] w fun e w' => e = .returned (.bool true) ∧ Below w.heap.size w w' := by
  have hb0 := (Below.refl w.heap.size w).alloc (Nat.le_refl _) (.cells #[.slice AB l.length cB, .slice AF fs.length cF, .int .i64 lw, .int .i64 lh] 26)
  have HX := hide (Blk.new w 26 #[.slice AB l.length cB, .slice AF fs.length cF, .int .i64 lw, .int .i64 lh])
  have HF := hide (hF.below hb0)
  have HC := hide (order_any l fs AB AF As cB cF ns cs lw lh R G (w.alloc (.cells #[.slice AB l.length cB, .slice AF fs.length cF, .int .i64 lw, .int .i64 lh] 26)) ((hB.below hb0).mono hb0.size) (fun k hk => by
    obtain ⟨g, off, h1, h2, h3⟩ := HF.out k hk
    exact ⟨g, off, h1, Nat.lt_of_lt_of_le h2 hb0.size, h3⟩) hlB hlF (fun k hk => by
    obtain ⟨g, off, h1, h2, h3⟩ := (hS.below hb0) k hk
    exact ⟨g, off, h1, Nat.lt_of_lt_of_le h2 hb0.size, h3⟩) hns (hG.below hb0))
  have HB0 := hide hb0
  clear hB hF hS hG hb0
  go_enter Tryd.func3, Tryd.ntmps3
  go_wp2_with fail
  refine HC.out.mono ?_
  rintro e w1 ⟨⟨v, r, rfl, hv, hr⟩, hb1⟩
  have hlx0 := HX.out.lt
  have hb2 := HB0.out.trans (hb1.mono HB0.out.size)
  have HX1 := hide (HX.out.below hb1 hlx0)
  have hs1 := hb2.size
  have HF1 := hide (HF.out.below (hb1.mono HB0.out.size))
  clear HC HX HF HB0 hb1
  by_cases h0 : r = 0
  · subst h0
    obtain ⟨hok, M, hown, hrow⟩ := hr rfl
    have hOF := ord_facts fs.length (parF fs) (parF_lt hok) (ownM M) (srtM M) (srtM_perm M) hok.2 hown
    have hlen := ord_len fs.length (parF fs) (parF_lt hok) (ownM M) (srtM M) (srtM_perm M) hok.2 hown
    have hat : ∀ i, i < fs.length → (ordF fs.length (parF fs) (ownM M) (srtM M))[i]? = some ((ordF fs.length (parF fs) (ownM M) (srtM M)).getD i (0, 0)) := fun i hi => by
      rw [List.getD, List.getElem?_eq_getElem (by omega)]; rfl
    rw [hlen] at hrow
    have hn0 := hok.2
    obtain ⟨gS, cS, rfl, _, hgS⟩ := hrow.form hn0
    obtain ⟨F, hFe⟩ : ∃ F : Nat → Nat, F = fun i => ((ordF fs.length (parF fs) (ownM M) (srtM M)).getD i (0, 0)).1 := ⟨_, rfl⟩
    obtain ⟨E, hEe⟩ : ∃ E : Nat → Nat, E = fun i => ((ordF fs.length (parF fs) (ownM M) (srtM M)).getD i (0, 0)).2 := ⟨_, rfl⟩
    rw [← hFe, ← hEe] at hOF
    have hSc : ∀ i, i < fs.length → w1.cell? ⟨gS, i * 2, none⟩ = some (.int .i64 (F i : Int)) ∧ w1.cell? ⟨gS, i * 2 + 1, none⟩ = some (.int .i64 (E i : Int)) := fun i hi => by
      obtain ⟨h1, h2⟩ := lsCells_at _ i _ (hat i hi)
      have hl := lsCells_len (ordF fs.length (parF fs) (ownM M) (srtM M))
      rw [hFe, hEe]
      exact ⟨(hrow.cellAt (i * 2) (by omega)).trans h1, (hrow.cellAt (i * 2 + 1) (by omega)).trans h2⟩
    have HSC := hide hSc
    have HOF := hide hOF
    have c0 : w1.cell? ⟨gS, 0, none⟩ = some (.int .i64 0) := by have := (hSc 0 hn0).1; rw [hOF.f0] at this; simpa using this
    have c1 : w1.cell? ⟨gS, 1, none⟩ = some (.int .i64 (fs.length : Int)) := by have := (hSc 0 hn0).2; rw [hOF.e0] at this; simpa using this
    have x1 : w1.cell? ⟨w.heap.size, 1, none⟩ = some (.slice AF fs.length cF) := HX1.out.cell 1
    have hbmk : ∀ Wo : World, (Instr.makeSlice 34 (.int .i64 (fs.length : Int)) (.int .i64 (fs.length : Int))).run Tryd.prog Wo = .ok (.slice (some ⟨Wo.heap.size, 0, none⟩) fs.length fs.length) (Wo.alloc (.cells (kvA (fun f => .bool (seF F 0 f)) fs.length) 4)) := fun Wo => by
      obtain ⟨i, hi, hz, h1, h3⟩ := info_parts bool_info
      have := run_make_rowN 34 4 i (.bool false) Tryd.underlying34 hi hz .i64 .i64 fs.length fs.length (Nat.le_refl _) (by rw [h3]; omega) (by omega) Wo
      rw [h1, Nat.mul_one] at this
      rw [show (fun f => Value.bool (seF F 0 f)) = fun _ => .bool false from rfl, ← kvA_const]
      exact this
    have himk : ∀ Wo : World, (Instr.makeSlice 35 (.int .i64 (fs.length : Int)) (.int .i64 (fs.length : Int))).run Tryd.prog Wo = .ok (.slice (some ⟨Wo.heap.size, 0, none⟩) fs.length fs.length) (Wo.alloc (.cells (kvA (fun f => .int .i64 (atF F 0 f : Int)) fs.length) 3)) := fun Wo => by
      obtain ⟨i, hi, hz, h1, h3⟩ := info_parts int_inf
      have := run_make_rowN 35 3 i (.int .i64 0) Tryd.underlying35 hi hz .i64 .i64 fs.length fs.length (Nat.le_refl _) (by rw [h3]; omega) (by omega) Wo
      rw [h1, Nat.mul_one] at this
      rw [show (fun f => Value.int .i64 (atF F 0 f : Int)) = fun _ => .int .i64 0 from rfl, ← kvA_const]
      exact this
    clear hv hr hlen hat hrow hown hFe hEe hSc hOF
    have t0 : (fs.length != fs.length) = false := by simp
    go_wp2_with fail
    have HbA := hide (Blk.new w1 4 (kvA (fun f => .bool (seF F 0 f)) fs.length))
    have hbel0 : Below w1.heap.size w1 ((w1.alloc (.cells (kvA (fun f => .bool (seF F 0 f)) fs.length) 4)).alloc (.cells (kvA (fun f => .int .i64 (atF F 0 f : Int)) fs.length) 3)) := below_alloc2 (Below.refl _ _) _ _
    have HSE0 := hide (HbA.out.alloc (.cells (kvA (fun f => .int .i64 (atF F 0 f : Int)) fs.length) 3))
    have HAT0 := hide (blk_two w1 (.cells (kvA (fun f => .bool (seF F 0 f)) fs.length) 4) (kvA (fun f => .int .i64 (atF F 0 f : Int)) fs.length) 3)
    clear c0 c1 x1 hbmk himk t0 HbA
    generalize (w1.alloc (.cells (kvA (fun f => .bool (seF F 0 f)) fs.length) 4)).alloc (.cells (kvA (fun f => .int .i64 (atF F 0 f : Int)) fs.length) 3) = wd at *
    obtain ⟨B, hBe⟩ : ∃ B, B = w1.heap.size := ⟨_, rfl⟩
    rw [← hBe] at HSE0 HAT0 hbel0 hgS hs1 ⊢
    obtain ⟨gA, hgA⟩ : ∃ gA, gA = B + 1 := ⟨_, rfl⟩
    rw [← hgA] at HAT0 ⊢
    have hgAB : B ≤ gA := by omega
    have hBB : B ≤ wd.heap.size := bsz hbel0 (by omega)
    have HSD := hide (fun i (hi : i < fs.length) => show wd.cell? ⟨gS, i * 2, none⟩ = some (.int .i64 (F i : Int)) ∧ wd.cell? ⟨gS, i * 2 + 1, none⟩ = some (.int .i64 (E i : Int)) from ⟨(hbel0.cell (p := ⟨gS, i * 2, none⟩) hgS).trans (HSC.out i hi).1, (hbel0.cell (p := ⟨gS, i * 2 + 1, none⟩) hgS).trans (HSC.out i hi).2⟩)
    have hlx1 := HX1.out.lt
    rw [← hBe] at hlx1
    have HXD := hide (HX1.out.below hbel0 hlx1)
    have HFD := hide (show FragIn wd B AF fs from fun k hk => by
      obtain ⟨g, off, h1, h2, h3⟩ := (HF1.out.below (hbel0.mono (by omega))) k hk
      exact ⟨g, off, h1, by omega, h3⟩)
    have HBW := hide (hb2.trans (hbel0.mono (by omega)))
    clear hgA hBe HSC HX1 HF1 hb2 hlx0
    go_loopw [60] (fun i wr => ∃ j : Nat, j ≤ fs.length ∧ i = .int .i64 j ∧ Blk wr B 4 (kvA (fun f => .bool (seF F j f)) fs.length) ∧ Blk wr gA 3 (kvA (fun f => .int .i64 (atF F j f : Int)) fs.length) ∧ Below B wd wr) (fun i _ => fs.length - (intOf i).toNat)
    case atStart => exact ⟨0, Nat.zero_le _, rfl, HSE0.out, HAT0.out, Below.refl _ _⟩
    case round =>
      clear HSE0 HAT0 hbel0
      obtain ⟨j, hj, rfl, hSE, hAT, hbel⟩ := hrel
      by_cases hjl : j < fs.length
      · have p0 := (hbel.cell (p := ⟨gS, j * 2, none⟩) hgS).trans (HSD.out j hjl).1
        have p1 := (hbel.cell (p := ⟨gS, j * 2 + 1, none⟩) hgS).trans (HSD.out j hjl).2
        have hF := HOF.out.flt j hjl
        obtain ⟨hE1, hE2⟩ := HOF.out.end_ j hjl
        have hno := seF_no F (F j) j (fun i hi e => by have := HOF.out.inj i j (by omega) hjl e; omega)
        have HLM := hide (HOF.out.lam j)
        have HS1 := hide (seA_set F fs.length j)
        have HA1 := hide (atA_set F fs.length j)
        have hs0 : wr.cell? ⟨B, F j, none⟩ = some (.bool false) := by rw [hSE.cell (F j), kvA_at _ _ _ hF, hno]
        generalize F j = a at *
        generalize E j = b at *
        have hbr := (Below.refl wr.heap.size wr).alloc (Nat.le_refl _) (.cells #[.int .i64 (a : Int), .int .i64 (b : Int)] 33)
        have hbl := hbel.alloc (bsz hbel hBB) (.cells #[.int .i64 (a : Int), .int .i64 (b : Int)] 33)
        have hX := Blk.new wr 33 #[.int .i64 (a : Int), .int .i64 (b : Int)]
        have x0 : (wr.alloc (.cells #[.int .i64 (a : Int), .int .i64 (b : Int)] 33)).cell? ⟨wr.heap.size, 0, none⟩ = some (.int .i64 (a : Int)) := hX.cell 0
        have x1 : (wr.alloc (.cells #[.int .i64 (a : Int), .int .i64 (b : Int)] 33)).cell? ⟨wr.heap.size, 1, none⟩ = some (.int .i64 (b : Int)) := hX.cell 1
        have s0 := (hbr.cell (p := ⟨B, a, none⟩) (cell_lt hs0)).trans hs0
        have HX := hide hX
        have HSE := hide (hSE.below hbr hSE.lt)
        have HAT := hide (hAT.below hbr hAT.lt)
        have HBL := hide hbl
        clear hbr hbl hX hSE hAT hs0
        have d1 : decide ((a : Int) < 0) = false := decide_eq_false (by omega)
        have d2 : decide (fs.length ≤ a) = false := decide_eq_false (by omega)
        have d3 : decide (b ≤ j) = false := decide_eq_false (by omega)
        have d4 : decide (fs.length < b) = false := decide_eq_false (by omega)
        have HZ1 := hide (show a < (kvA (fun f => .bool (seF F j f)) fs.length).size by rw [kvA_size]; exact hF)
        have HZ2 := hide (show a < (kvA (fun f => .int .i64 (atF F j f : Int)) fs.length).size by rw [kvA_size]; exact hF)
        have HI1 := hide (show (Tryd.prog.info? 4).map (·.size) = some 1 by kernel_rfl)
        have HI2 := hide (show (Tryd.prog.info? 3).map (·.size) = some 1 by kernel_rfl)
        have HNE := hide (HAT.out.ne_ HSE.out (by decide))
        go_wp2_with (first
          | (refine wpList_store_fld rfl 4 (.tmp 98) (.const (.bool true)) rfl B a 4 _ (.bool true) rfl rfl HSE.out HZ1.out HI1.out rfl rfl ?_; intro w2 hB2 hG2; have x02 := (hG2.cell x0 (fun e => HX.out.ne_ HSE.out (by decide) (by injection e))); have HX2 := hide (HX.out.grown hG2 (fun e => HX.out.ne_ HSE.out (by decide) (by injection e))); have HA2 := hide (HAT.out.grown hG2 (fun e => HNE.out (by injection e))); have HB2 := hide hB2; have HG2 := hide hG2; clear hB2 hG2)
          | (refine wpList_store_fld rfl 3 (.tmp 103) (.tmp 102) rfl gA a 3 _ (.int .i64 (j : Int)) rfl rfl HA2.out HZ2.out HI2.out rfl rfl ?_; intro w3 hB3 hG3)
          | fail)
        have HX3 := hide (HX2.out.grown hG3 (fun e => HX2.out.ne_ HA2.out (by decide) (by injection e)))
        have HS3 := hide (show Blk w3 B 4 (kvA (fun f => .bool (seF F (j + 1) f)) fs.length) by rw [← HS1.out]; exact HB2.out.grown hG3 (fun e => HNE.out (by injection e with e; exact e.symm)))
        have HA3 := hide (show Blk w3 gA 3 (kvA (fun f => .int .i64 (atF F (j + 1) f : Int)) fs.length) by rw [← HA1.out]; exact hB3)
        have hbl3 := below_grown (below_grown HBL.out hBB HG2.out (Nat.le_refl _)) hBB hG3 hgAB
        clear hB3 HB2 HA2 HX2 HG2 hG3 HAT HSE HX HBL x0 x1 x02 s0 d1 d2 d3 d4 HZ1 HZ2 HS1 HA1 hno
        obtain ⟨X, hX⟩ : ∃ X, X = wr.heap.size := ⟨_, rfl⟩
        rw [← hX] at HX3 ⊢
        clear hX
        have y1 : w3.cell? ⟨X, 1, none⟩ = some (.int .i64 (b : Int)) := HX3.out.cell 1
        clear hbel p0 p1
        go_loopw [11] (fun i wq => ∃ q : Nat, j + 1 ≤ q ∧ q ≤ b ∧ i = .int .i64 q ∧ Below w3.heap.size w3 wq) (fun i _ => b - (intOf i).toNat)
        case atStart => exact ⟨j + 1, Nat.le_refl _, hE1, by go_num, Below.refl _ _⟩
        case round =>
          clear y1
          obtain ⟨q, hq1, hq2, rfl, hbq⟩ := hrel
          have y1 : wr.cell? ⟨X, 1, none⟩ = some (.int .i64 (b : Int)) := (hbq.cell (p := ⟨X, 1, none⟩) HX3.out.lt).trans (HX3.out.cell 1)
          by_cases hqb : q < b
          · have hbl4 := hbl3.trans (hbq.mono (bsz hbl3 hBB))
            have e1 := (hbl4.cell (p := ⟨gS, q * 2 + 1, none⟩) hgS).trans (HSD.out q (by omega)).2
            have hlm := HLM.out q hjl (by omega) hqb
            have d1 : decide (b < E q) = false := decide_eq_false (by omega)
            have hqn : ¬ fs.length ≤ q := by omega
            have hbq2 := hbq
            clear hbl4 hbq
            generalize E q = eq at *
            go_wp2_with fail
            go_quiet (fail)
            go_wp2_with fail
            go_roundw
            case rel => exact ⟨q + 1, by omega, by omega, by go_num, below_drewN hbq2 _⟩
            case measure => simp only [intOf]; omega
          · obtain rfl : q = b := by omega
            have hbl4 := hbl3.trans (hbq.mono (bsz hbl3 hBB))
            have HS4 := hide (HS3.out.below hbq HS3.out.lt)
            have HA4 := hide (HA3.out.below hbq HA3.out.lt)
            clear hbq
            go_wp2_with fail
            go_roundw
            case rel => exact ⟨j + 1, by omega, by go_num, HS4.out, HA4.out, hbl4⟩
            case measure => simp only [intOf]; omega
      · obtain rfl : j = fs.length := by omega
        have HPO := hide (fun f (hf : f < fs.length) => show atF F fs.length f < fs.length ∧ F (atF F fs.length f) = f from by
          obtain ⟨i, hi, e⟩ := HOF.out.sur f hf
          have := atF_at F i fs.length hi (fun k h1 h2 e2 => by have := HOF.out.inj k i h2 hi e2; omega)
          rw [e] at this
          rw [this]
          exact ⟨hi, e⟩)
        have HA := hide hAT
        have x1 : wr.cell? ⟨w.heap.size, 1, none⟩ = some (.slice AF fs.length cF) := (hbel.cell (p := ⟨w.heap.size, 1, none⟩) hlx1).trans (HXD.out.cell 1)
        have HBE := hide hbel
        have hwB := bsz hbel hBB
        clear hSE hAT hbel
        go_wp2_with fail
        clear x1
        generalize wr = wz at *
        go_loopw [124] (fun i wq => ∃ j : Nat, j ≤ fs.length ∧ i = .int .i64 j ∧ Below wz.heap.size wz wq) (fun i _ => fs.length - (intOf i).toNat)
        case atStart => exact ⟨0, Nat.zero_le _, rfl, Below.refl _ _⟩
        case round =>
          obtain ⟨j, hj, rfl, hbel⟩ := hrel
          have hbB := HBE.out.trans (hbel.mono hwB)
          by_cases hjl : j < fs.length
          · obtain ⟨gf, of, rfl, hgf, hcf⟩ := HFD.out j hjl
            have cc : ∀ q, q < 8 → wr.cell? ⟨gf, of + j * 8 + q, none⟩ = (frA (frAt fs j))[q]? := fun q hq => (hbB.cell (p := ⟨gf, of + j * 8 + q, none⟩) hgf).trans (hcf q hq)
            have HPF := hide (show (frAt fs j).par.toNat = parF fs j from rfl)
            obtain ⟨_, _, hq3, hq4⟩ := hok.1 j hjl
            clear hcf
            generalize frAt fs j = x at *
            obtain ⟨fb, fn, fp, fx, fy, fw, fh, ft⟩ := x
            simp only at hq3 hq4
            have d0 : wr.cell? ⟨gf, of + j * 8, none⟩ = some (.int .i64 fb) := cc 0 (by omega)
            have d1 : wr.cell? ⟨gf, of + j * 8 + 1, none⟩ = some (.int .i64 fn) := cc 1 (by omega)
            have d2 : wr.cell? ⟨gf, of + j * 8 + 2, none⟩ = some (.int .i64 fp) := cc 2 (by omega)
            have d3 : wr.cell? ⟨gf, of + j * 8 + 3, none⟩ = some (.int .i64 fx) := cc 3 (by omega)
            have d4 : wr.cell? ⟨gf, of + j * 8 + 4, none⟩ = some (.int .i64 fy) := cc 4 (by omega)
            have d5 : wr.cell? ⟨gf, of + j * 8 + 5, none⟩ = some (.int .i64 fw) := cc 5 (by omega)
            have d6 : wr.cell? ⟨gf, of + j * 8 + 6, none⟩ = some (.int .i64 fh) := cc 6 (by omega)
            have d7 : wr.cell? ⟨gf, of + j * 8 + 7, none⟩ = some (.string ft) := cc 7 (by omega)
            clear cc
            have hbA := hbel.alloc (hbel.size) (.cells #[.int .i64 fb, .int .i64 fn, .int .i64 fp, .int .i64 fx, .int .i64 fy, .int .i64 fw, .int .i64 fh, .string ft] 37)
            have u2 : (wr.alloc (.cells #[.int .i64 fb, .int .i64 fn, .int .i64 fp, .int .i64 fx, .int .i64 fy, .int .i64 fw, .int .i64 fh, .string ft] 37)).cell? ⟨wr.heap.size, 2, none⟩ = some (.int .i64 fp) := (Blk.new wr 37 #[.int .i64 fb, .int .i64 fn, .int .i64 fp, .int .i64 fx, .int .i64 fy, .int .i64 fw, .int .i64 fh, .string ft]).cell 2
            have HAN := hide (show fp = -1 ∨ ∃ q : Nat, fp = (q : Int) ∧ q < fs.length ∧ j ∈ descF (kidsF fs.length (parF fs)) fs.length q from by
              rcases Nat.eq_zero_or_pos j with h | h
              · exact .inl (hq3 h)
              · obtain ⟨h1, h2⟩ := hq4 h
                refine .inr ⟨fp.toNat, by omega, by omega, ?_⟩
                rw [HPF.out]
                exact desc_kid fs.length (parF fs) (parF_lt hok) j h hjl)
            have HBA := hide hbA
            clear hbel hbB hbA hq3 hq4
            go_wp2_with fail
            clear d0 d1 d2 d3 d4 d5 d6 d7 u2
            generalize wr.alloc (.cells #[.int .i64 fb, .int .i64 fn, .int .i64 fp, .int .i64 fx, .int .i64 fy, .int .i64 fw, .int .i64 fh, .string ft] 37) = wf at *
            go_loopw [14] (fun i wq => ∃ p : Int, i = .int .i64 p ∧ (p = -1 ∨ ∃ q : Nat, p = (q : Int) ∧ q < fs.length ∧ j ∈ descF (kidsF fs.length (parF fs)) fs.length q) ∧ Below wz.heap.size wz wq) (fun i _ => (intOf i + 1).toNat)
            case atStart => exact ⟨fp, rfl, HAN.out, HBA.out⟩
            case round =>
              clear HBA HAN HPF
              obtain ⟨p, rfl, hp, hbel⟩ := hrel
              have hbB := HBE.out.trans (hbel.mono hwB)
              rcases hp with rfl | ⟨q, rfl, hq, hd⟩
              · go_wp2_with fail
                go_roundw
                case rel => exact ⟨j + 1, by omega, by go_num, hbel⟩
                case measure => simp only [intOf]; omega
              · obtain ⟨hc1, hc2⟩ := HPO.out q hq
                obtain ⟨hi1, hi2⟩ := HPO.out j hjl
                have a1 : wr.cell? ⟨gA, q, none⟩ = some (.int .i64 (atF F fs.length q : Int)) := by
                  rw [hbel.cell (p := ⟨gA, q, none⟩) HA.out.lt, HA.out.cell q, kvA_at _ _ _ hq]
                have a2 : wr.cell? ⟨gA, j, none⟩ = some (.int .i64 (atF F fs.length j : Int)) := by
                  rw [hbel.cell (p := ⟨gA, j, none⟩) HA.out.lt, HA.out.cell j, kvA_at _ _ _ hjl]
                obtain ⟨g0, g1⟩ := HSD.out _ hc1
                have b0 := (hbB.cell (p := ⟨gS, atF F fs.length q * 2, none⟩) hgS).trans g0
                have b1 := (hbB.cell (p := ⟨gS, atF F fs.length q * 2 + 1, none⟩) hgS).trans g1
                have hbl := HOF.out.bel j q (atF F fs.length q) (atF F fs.length j) hc1 hi1 hc2 hi2 hd
                obtain ⟨he1, he2⟩ := HOF.out.end_ _ hc1
                rw [hc2] at b0
                clear g0 g1 hc2 hi2
                generalize atF F fs.length q = c at *
                generalize atF F fs.length j = t at *
                generalize E c = ec at *
                have x1 : wr.cell? ⟨w.heap.size, 1, none⟩ = some (.slice (some ⟨gf, of, none⟩) fs.length cF) := (hbB.cell (p := ⟨w.heap.size, 1, none⟩) hlx1).trans (HXD.out.cell 1)
                obtain ⟨gf2, of2, hAe, hgf2, hcf2⟩ := HFD.out q hq
                injection hAe with hAe
                injection hAe with hA1 hA2
                subst hA1 hA2
                have hpq0 := (hbB.cell (p := ⟨gf, of + q * 8 + 2, none⟩) hgf).trans (hcf2 2 (by omega))
                have hpq : wr.cell? ⟨gf, of + q * 8 + 2, none⟩ = some (.int .i64 (frAt fs q).par) := hpq0
                have HAQ := hide (show (frAt fs q).par = -1 ∨ ∃ q' : Nat, (frAt fs q).par = (q' : Int) ∧ q' < fs.length ∧ j ∈ descF (kidsF fs.length (parF fs)) fs.length q' from by
                  obtain ⟨_, _, hr3, hr4⟩ := hok.1 q hq
                  rcases Nat.eq_zero_or_pos q with h | h
                  · exact .inl (hr3 h)
                  · obtain ⟨h1, h2⟩ := hr4 h
                    exact .inr ⟨parF fs q, by unfold parF; omega, by unfold parF; omega, desc_up fs.length (parF fs) (parF_lt hok) j q hd h hq⟩)
                have HPL := hide (show (frAt fs q).par < (q : Int) from by
                  obtain ⟨_, _, hr3, hr4⟩ := hok.1 q hq
                  rcases Nat.eq_zero_or_pos q with h | h
                  · have := hr3 h; omega
                  · exact (hr4 h).2)
                clear hcf2 hpq0 hbB
                generalize (frAt fs q).par = pq at *
                obtain ⟨c1, hce⟩ : ∃ c1 : Nat, (c : Int) + 1 = (c1 : Int) := ⟨c + 1, by omega⟩
                have hw : IntKind.i64.wrap (c1 : Int) = (c1 : Int) := IntWalk.i64_in _ (by omega)
                have hbr := (Below.refl wr.heap.size wr).alloc (Nat.le_refl _) (.cells #[.int .i64 (q : Int), .int .i64 (ec : Int)] 33)
                have hbA := hbel.alloc hbel.size (.cells #[.int .i64 (q : Int), .int .i64 (ec : Int)] 33)
                have y1 : (wr.alloc (.cells #[.int .i64 (q : Int), .int .i64 (ec : Int)] 33)).cell? ⟨wr.heap.size, 1, none⟩ = some (.int .i64 (ec : Int)) := (Blk.new wr 33 #[.int .i64 (q : Int), .int .i64 (ec : Int)]).cell 1
                have z1 := (hbr.cell (p := ⟨gA, q, none⟩) (cell_lt a1)).trans a1
                have z2 := (hbr.cell (p := ⟨gA, j, none⟩) (cell_lt a2)).trans a2
                have z3 := (hbr.cell (p := ⟨w.heap.size, 1, none⟩) (cell_lt x1)).trans x1
                have z4 := (hbr.cell (p := ⟨gf, of + q * 8 + 2, none⟩) (cell_lt hpq)).trans hpq
                have hjn : ¬ fs.length ≤ j := by omega
                have hqn : ¬ fs.length ≤ q := by omega
                have hcn : ¬ fs.length ≤ c := by omega
                clear hbr hbel
                go_wp2_with fail
                clear a1 a2 b0 b1 x1 hpq
                generalize wr.alloc (.cells #[.int .i64 (q : Int), .int .i64 (ec : Int)] 33) = wy at *
                by_cases hcc : c1 < ec
                · obtain ⟨h1, h2⟩ := hbl (by omega)
                  have e1 : decide (c1 < ec) = true := decide_eq_true hcc
                  have e2 : decide (t ≤ c) = false := decide_eq_false (by omega)
                  have e3 : decide (ec ≤ t) = false := decide_eq_false (by omega)
                  go_quiet (fail)
                  go_wp2_with fail
                  go_roundw
                  case rel => exact ⟨pq, rfl, HAQ.out, below_drewN hbA _⟩
                  case measure => simp only [intOf]; have := HPL.out; omega
                · have e1 : decide (c1 < ec) = false := decide_eq_false hcc
                  go_quiet (fail)
                  go_wp2_with fail
                  go_roundw
                  case rel => exact ⟨pq, rfl, HAQ.out, below_drewN hbA _⟩
                  case measure => simp only [intOf]; have := HPL.out; omega
          · obtain rfl : j = fs.length := by omega
            have hbF := HBW.out.trans (hbB.mono (by omega))
            go_wp2_with (first | (go_at_call 8; refine (stacked_any _).mono ?_; rintro e w9 ⟨rfl, hb9⟩) | fail)
            go_ret
            exact ⟨rfl, below_then hbF (Nat.le_refl _) hb9⟩
  · have t1 : (r != 0) = true := by simpa using h0
    obtain rfl := hv h0
    clear hr hv
    go_wp2_with (first | (go_at_call 8; refine (stacked_any _).mono ?_; rintro e w9 ⟨rfl, hb9⟩) | fail)
    go_ret
    exact ⟨rfl, below_then hb2 (Nat.le_refl _) hb9⟩
end Go.Proofs.YtbpkffoooieejaaDoor
