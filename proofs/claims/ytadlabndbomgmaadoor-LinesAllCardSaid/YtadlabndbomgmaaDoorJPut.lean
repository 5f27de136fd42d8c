/- The walk of breaker.put. -/
import Derived.BigQuiet
import Derived.Handy
import Derived.IntWalk
import Derived.RegionTactic
import Derived.Deep.MidRow
import Derived.Deep.CutBlock
import Derived.Deep.RegionHeld3
import Derived.Test.YtadlabndbomgmaaDoorJ8
set_option linter.unusedVariables false
set_option linter.unusedSimpArgs false
namespace Go.Proofs.YtadlabndbomgmaaDoor
open Go.ChangeShapes Go.WideShapes Go.ChangeAt Go.RowKit
theorem cleanF_len (xs : List It) (f : Bool) (l : List Pt) : (cleanF xs f l).length ≤ l.length := (cleanF_sub xs l f).length_le
/-- The state that put's loop is left in. -/
def PutAt (xs : List It) (sz ht al W : Int) (gs : List Pt) (st : BG) (n m : Nat) (K : Nat → Prop) (b fp g : Nat) (w wx : World) (done : Bool) : Prop :=
  ∃ st1 Lv Tv Ov Fv m1, Steps xs sz ht al W gs st st1 ∧ (done = true → DoneR xs W gs st1) ∧ StOk xs st1 n m1 ∧ (st1.full = true → m1 = m) ∧ m1 ≤ m + 1 ∧ BrV wx K b fp g W sz ht al st1 Lv Tv Ov Fv ∧ Kept K w wx
set_option maxRecDepth 100000 in
set_option maxHeartbeats 8000000 in
theorem putV_any (xs : List It) (g : Nat) (gs : List Pt) (A0 : Option Addr) (c0 : Nat) (K : Nat → Prop) (b fp : Nat) (W sz ht al : Int) (st : BG) (Lv Tv Ov Fv : Value) (n m : Nat) (w : World) (hI : ItK w K g xs) (hg : PtsK w K g A0 gs) (hgo : PsOk xs gs) (h : BrV w K b fp g W sz ht al st Lv Tv Ov Fv) (hs : StOk xs st n m) (hn : n + gs.length ≤ 5000) (hm : m ≤ 20000) (hz : 0 ≤ sz ∧ sz ≤ 16777216) (hh : 0 ≤ ht ∧ ht ≤ 16777216) (hW : 0 ≤ W ∧ W ≤ 16777216) :
    Calls Tryd.prog 33 #[.pointer (some ⟨b, 0, none⟩), .slice A0 gs.length c0] w fun e w' => e = .returned (.tuple #[]) ∧ ∃ st' Lv' Tv' Ov' Fv', PutR xs sz ht al W st gs st' ∧ StOk xs st' (n + gs.length) (m + 2) ∧ BrV w' K b fp g W sz ht al st' Lv' Tv' Ov' Fv' ∧ Kept K w w' := by
  have HI := hide hI
  have HG := hide hg
  have HGO := hide hgo
  have H0 := hide (show PutAt xs sz ht al W gs st n m K b fp g w w false from ⟨st, Lv, Tv, Ov, Fv, m, Steps.refl _, (fun h => by cases h), hs, fun _ => rfl, by omega, h, Kept.refl _ _⟩)
  clear hI hg hgo h hs
  go_enter Tryd.func33, Tryd.ntmps33
  go_upto_block 0 with fail
  go_cut [] from 9 (fun wx => Hid (PutAt xs sz ht al W gs st n m K b fp g w wx true))
  case first => as_aux_lemma =>
    go_wp2_with fail
    go_loopw [4] (fun _ wr => Hid (PutAt xs sz ht al W gs st n m K b fp g w wr false)) (fun _ wr => brMeas b wr)
    case atStart => exact H0
    case round => as_aux_lemma =>
      clear H0
      obtain ⟨st1, L1, T1, O1, F1, m1, hst, _, hok, hmf, hm1, hbr, hkp⟩ := hrel.out
      have HST := hide hst
      have HOK := hide hok
      have HBR := hide hbr
      have HKP := hide hkp
      have HIR := hide (HI.out.kept hkp)
      have HGR := hide (HG.out.kept hkp)
      have HCL := hide (clean_any xs g gs A0 c0 b st1.full wr HIR.out.its HGR.out.reads (by omega) HGO.out hbr.blk.lt (hbr.blk.cell 9))
      clear hrel hst hok hbr hkp
      go_wp2_with fail
      refine HCL.out.mono ?_
      clear HCL
      rintro e w1 ⟨v1, rfl, own1, hb1⟩
      obtain ⟨Ac, cc, rfl, _, _⟩ := own_reads own1
      have HC1 := hide own1
      have HPC := hide (PtsR.own own1 rfl)
      have HB1 := hide (HBR.out.below hb1)
      have HK1 := hide (HKP.out.trans (Kept.of_below hb1 HBR.out.kk))
      have HI1 := hide (HIR.out.its.below hb1)
      clear own1 hb1
      have HFT := hide (show ∀ c, fitsG xs st1 c = (decide (widthG st1.line + widthG c - tailG xs c.reverse ≤ st1.right - st1.left) || (!c.any (solidF xs) && st1.full)) from fun c => rfl)
      have HCO := hide (psOk_clean HGO.out st1.full)
      have hcl := cleanF_len xs st1.full gs
      generalize hcs : cleanF xs st1.full gs = cs at *
      have HCS := hide hcs
      clear hcs
      obtain ⟨AL, cL, rfl, hpl⟩ := pts_own HB1.out.line
      have hb0 := (Below.refl w1.heap.size w1).drew
      have HBa := hide (HB1.out.below hb0)
      have HPLa := hide (hpl.below hb0)
      have HPCa := hide (HPC.out.below hb0)
      have HIa := hide (HI1.out.below hb0)
      have HKa := hide (HK1.out.drew)
      have hll := HOK.out.ll
      have hlf := HOK.out.lf
      have hrt := HOK.out.rt
      have hwl := widthG_bd st1.line (psOk_bd HOK.out.line)
      have hwc := widthG_bd cs (psOk_bd HCO.out)
      have htl := tailG_bd cs.reverse (fun p hp => HCO.out p (by simpa using hp))
      have HWL := hide (fun (Z : World) (hp : PtsR Z g AL st1.line) => gwidthR_any xs g st1.line AL cL Z hp (by omega) HOK.out.line)
      have HWC := hide (fun (Z : World) (hp : PtsR Z g Ac cs) => gwidthR_any xs g cs Ac cc Z hp (by omega) HCO.out)
      have HTC := hide (fun (Z : World) (hi : ItsR Z g xs) (hp : PtsR Z g Ac cs) => gtailR_any xs g cs Ac cc Z hi hp (by omega) HCO.out)
      have HFU := hide (fun (Z : World) (hi : ItsR Z g xs) (hp : PtsR Z g Ac cs) => full_any xs g cs Ac cc Z hi hp (by omega) HCO.out)
      have HFC := hide (HFT.out cs)
      have HSF := hide (fun (Z : World) (h : BrV Z K b fp g W sz ht al st1 (.slice AL st1.line.length cL) T1 O1 F1) => (⟨h.blk.cell 8, h.blk.cell 6, h.blk.cell 7, h.blk.cell 9⟩ : Z.cell? ⟨b, 8, none⟩ = some (.slice AL st1.line.length cL) ∧ Z.cell? ⟨b, 6, none⟩ = some (.int .i64 st1.left) ∧ Z.cell? ⟨b, 7, none⟩ = some (.int .i64 st1.right) ∧ Z.cell? ⟨b, 9, none⟩ = some (.bool st1.full)))
      have HMS := hide (brMeas_of HBR.out)
      have HIR2 := hide (show (0 < xs.length → K g) ∧ ∀ k, ItOk (itAt xs k) from ⟨HIR.out.kg, HIR.out.ok⟩)
      clear HFT hb0 hpl HB1 HK1 HI1 HPC HC1 HI HG HBR HKP HIR
      generalize widthG st1.line = wl at *
      generalize widthG cs = wc at *
      generalize tailG xs cs.reverse = tl at *
      generalize hfu : cs.any (solidF xs) = fu at *
      clear hfu
      have y1 : IntKind.i64.wrap (wl + wc) = wl + wc := IntWalk.i64_in _ (by omega)
      have y2 : IntKind.i64.wrap (wl + wc - tl) = wl + wc - tl := IntWalk.i64_in _ (by omega)
      have y3 : IntKind.i64.wrap (st1.right - st1.left) = st1.right - st1.left := IntWalk.i64_in _ (by omega)
      clear hwl hwc htl hlf hrt hll hcl
      go_wp2_with fail
      cases hfl : st1.full
      · rw [hfl] at HFC HSF
        by_cases h1 : wl + wc - tl ≤ st1.right - st1.left
        · have q1 := decide_eq_true h1
          clear h1
          refine wp_region_HL 32 #[false, false, false, false, false, false, false, false, false, false, false, false, false, false, false, false, false, false, false, false, false, false, false, false, false, false, false, false, false, false, false, false] (by kernel_rfl) (by kernel_rfl) (S := fun Z => Z.cell? ⟨b, 8, none⟩ = some (.slice AL st1.line.length cL) ∧ Z.cell? ⟨b, 6, none⟩ = some (.int .i64 st1.left) ∧ Z.cell? ⟨b, 7, none⟩ = some (.int .i64 st1.right) ∧ Z.cell? ⟨b, 9, none⟩ = some (.bool false)) (by kernel_rfl) (HSF.out _ HBa.out) (fun hHeld => ?_)
          generalize w1.drew = wa at *
          refine take_at (i := 0) (v := (Value.pointer (some ⟨b, 0, none⟩))) (some 12) rfl rfl (by kernel_rfl) (by kernel_rfl) (by kernel_rfl) (fun _ _ _ h => h) (yieldsIf_move (by rfl) _ rfl _ rfl) hHeld ?_
          simp only [Act.put, List.setIfInBounds_toArray, List.set_cons_zero, List.set_cons_succ]
          refine take_at (i := 1) (v := (Value.pointer (some ⟨b, 0, none⟩))) (some 13) rfl rfl (by kernel_rfl) (by kernel_rfl) (by kernel_rfl) (fun _ _ _ h => h) (yieldsIf_nil (by rfl) _ rfl _ rfl) hHeld ?_
          simp only [Act.put, List.setIfInBounds_toArray, List.set_cons_zero, List.set_cons_succ]
          refine take_at (i := 2) (v := (Value.pointer (some ⟨b, 8, none⟩))) (some 14) rfl rfl (by kernel_rfl) (by kernel_rfl) (by kernel_rfl) (fun _ _ _ h => h) (yieldsIf_faddr (by rfl) 81 _ 8 rfl _ _ 8 rfl (by kernel_rfl)) hHeld ?_
          simp only [Act.put, List.setIfInBounds_toArray, List.set_cons_zero, List.set_cons_succ]
          refine take_at (i := 3) (v := (.slice AL st1.line.length cL)) (some 15) rfl rfl (by kernel_rfl) (by kernel_rfl) (by kernel_rfl) (fun _ _ _ h => h) (yieldsIf_load1 (by rfl) 79 _ rfl _ _ _ rfl (by kernel_rfl) (fun _ h => h.1)) hHeld ?_
          simp only [Act.put, List.setIfInBounds_toArray, List.set_cons_zero, List.set_cons_succ]
          refine take_at (i := 5) (v := (.slice Ac cs.length cc)) (some 17) rfl rfl (by kernel_rfl) (by kernel_rfl) (by kernel_rfl) (fun _ _ _ h => h) (yieldsIf_move (by rfl) _ rfl _ rfl) hHeld ?_
          simp only [Act.put, List.setIfInBounds_toArray, List.set_cons_zero, List.set_cons_succ]
          refine take_at (i := 8) (v := (.slice Ac cs.length cc)) (some 20) rfl rfl (by kernel_rfl) (by kernel_rfl) (by kernel_rfl) (fun _ _ _ h => h) (yieldsIf_move (by rfl) _ rfl _ rfl) hHeld ?_
          simp only [Act.put, List.setIfInBounds_toArray, List.set_cons_zero, List.set_cons_succ]
          refine take_at (i := 11) (v := (Value.pointer (some ⟨b, 0, none⟩))) (some 23) rfl rfl (by kernel_rfl) (by kernel_rfl) (by kernel_rfl) (fun _ _ _ h => h) (yieldsIf_move (by rfl) _ rfl _ rfl) hHeld ?_
          simp only [Act.put, List.setIfInBounds_toArray, List.set_cons_zero, List.set_cons_succ]
          refine take_at (i := 12) (v := (Value.pointer (some ⟨b, 0, none⟩))) (some 24) rfl rfl (by kernel_rfl) (by kernel_rfl) (by kernel_rfl) (fun _ _ _ h => h) (yieldsIf_nil (by rfl) _ rfl _ rfl) hHeld ?_
          simp only [Act.put, List.setIfInBounds_toArray, List.set_cons_zero, List.set_cons_succ]
          refine take_at (i := 13) (v := (Value.pointer (some ⟨b, 7, none⟩))) (some 25) rfl rfl (by kernel_rfl) (by kernel_rfl) (by kernel_rfl) (fun _ _ _ h => h) (yieldsIf_faddr (by rfl) 81 _ 7 rfl _ _ 7 rfl (by kernel_rfl)) hHeld ?_
          simp only [Act.put, List.setIfInBounds_toArray, List.set_cons_zero, List.set_cons_succ]
          refine take_at (i := 14) (v := (.int .i64 st1.right)) (some 26) rfl rfl (by kernel_rfl) (by kernel_rfl) (by kernel_rfl) (fun _ _ _ h => h) (yieldsIf_load1 (by rfl) 3 _ rfl _ _ _ rfl (by kernel_rfl) (fun _ h => h.2.2.1)) hHeld ?_
          simp only [Act.put, List.setIfInBounds_toArray, List.set_cons_zero, List.set_cons_succ]
          refine take_at (i := 15) (v := (Value.pointer (some ⟨b, 0, none⟩))) (some 27) rfl rfl (by kernel_rfl) (by kernel_rfl) (by kernel_rfl) (fun _ _ _ h => h) (yieldsIf_move (by rfl) _ rfl _ rfl) hHeld ?_
          simp only [Act.put, List.setIfInBounds_toArray, List.set_cons_zero, List.set_cons_succ]
          refine take_at (i := 16) (v := (Value.pointer (some ⟨b, 0, none⟩))) (some 28) rfl rfl (by kernel_rfl) (by kernel_rfl) (by kernel_rfl) (fun _ _ _ h => h) (yieldsIf_nil (by rfl) _ rfl _ rfl) hHeld ?_
          simp only [Act.put, List.setIfInBounds_toArray, List.set_cons_zero, List.set_cons_succ]
          refine take_at (i := 17) (v := (Value.pointer (some ⟨b, 6, none⟩))) (some 29) rfl rfl (by kernel_rfl) (by kernel_rfl) (by kernel_rfl) (fun _ _ _ h => h) (yieldsIf_faddr (by rfl) 81 _ 6 rfl _ _ 6 rfl (by kernel_rfl)) hHeld ?_
          simp only [Act.put, List.setIfInBounds_toArray, List.set_cons_zero, List.set_cons_succ]
          refine take_at (i := 18) (v := (.int .i64 st1.left)) (some 30) rfl rfl (by kernel_rfl) (by kernel_rfl) (by kernel_rfl) (fun _ _ _ h => h) (yieldsIf_load1 (by rfl) 3 _ rfl _ _ _ rfl (by kernel_rfl) (fun _ h => h.2.1)) hHeld ?_
          simp only [Act.put, List.setIfInBounds_toArray, List.set_cons_zero, List.set_cons_succ]
          refine take_at (i := 19) (v := (.int .i64 (st1.right - st1.left))) (some 31) rfl rfl (by kernel_rfl) (by kernel_rfl) (by kernel_rfl) (fun _ _ _ h => h) (Or.inl ⟨by rfl, fun W hW => ?_⟩) hHeld ?_
          · go_simp
          simp only [Act.put, List.setIfInBounds_toArray, List.set_cons_zero, List.set_cons_succ]
          refine callH (j := 4) (by kernel_rfl) rfl rfl (some 16) rfl 45 #[.slice AL st1.line.length cL] (run_enter Tryd.func45 (by kernel_rfl) (by kernel_rfl) _ _ rfl #[.slice AL st1.line.length cL] (by kernel_rfl) _) (HWL.out _ HPLa.out) ?_
          rintro e5 w5 ⟨rfl, hb5⟩
          have hk5 := Kept.of_below hb5 HBa.out.kk
          replace HKa := hide (HKa.out.trans hk5)
          replace HBa := hide (HBa.out.below hb5)
          replace HPLa := hide (HPLa.out.below hb5)
          replace HPCa := hide (HPCa.out.below hb5)
          replace HIa := hide (HIa.out.below hb5)
          clear hb5 hk5
          refine ⟨_, rfl, HSF.out _ HBa.out, ?_⟩
          simp only [Act.put, List.setIfInBounds_toArray, List.set_cons_zero, List.set_cons_succ]
          refine callH (j := 6) (by kernel_rfl) rfl rfl (some 18) rfl 45 #[.slice Ac cs.length cc] (run_enter Tryd.func45 (by kernel_rfl) (by kernel_rfl) _ _ rfl #[.slice Ac cs.length cc] (by kernel_rfl) _) (HWC.out _ HPCa.out) ?_
          rintro e5 w5 ⟨rfl, hb5⟩
          have hk5 := Kept.of_below hb5 HBa.out.kk
          replace HKa := hide (HKa.out.trans hk5)
          replace HBa := hide (HBa.out.below hb5)
          replace HPLa := hide (HPLa.out.below hb5)
          replace HPCa := hide (HPCa.out.below hb5)
          replace HIa := hide (HIa.out.below hb5)
          clear hb5 hk5
          refine ⟨_, rfl, HSF.out _ HBa.out, ?_⟩
          simp only [Act.put, List.setIfInBounds_toArray, List.set_cons_zero, List.set_cons_succ]
          refine take_at (i := 7) (v := (.int .i64 (wl + wc))) (some 19) rfl rfl (by kernel_rfl) (by kernel_rfl) (by kernel_rfl) (fun _ _ _ h => h) (Or.inl ⟨by rfl, fun W hW => ?_⟩) (HSF.out _ HBa.out) ?_
          · go_simp
          simp only [Act.put, List.setIfInBounds_toArray, List.set_cons_zero, List.set_cons_succ]
          refine callH (j := 9) (by kernel_rfl) rfl rfl (some 21) rfl 46 #[.slice Ac cs.length cc] (run_enter Tryd.func46 (by kernel_rfl) (by kernel_rfl) _ _ rfl #[.slice Ac cs.length cc] (by kernel_rfl) _) (HTC.out _ HIa.out HPCa.out) ?_
          rintro e5 w5 ⟨rfl, hb5⟩
          have hk5 := Kept.of_below hb5 HBa.out.kk
          replace HKa := hide (HKa.out.trans hk5)
          replace HBa := hide (HBa.out.below hb5)
          replace HPLa := hide (HPLa.out.below hb5)
          replace HPCa := hide (HPCa.out.below hb5)
          replace HIa := hide (HIa.out.below hb5)
          clear hb5 hk5
          refine ⟨_, rfl, HSF.out _ HBa.out, ?_⟩
          simp only [Act.put, List.setIfInBounds_toArray, List.set_cons_zero, List.set_cons_succ]
          refine take_at (i := 10) (v := (.int .i64 (wl + wc - tl))) (some 22) rfl rfl (by kernel_rfl) (by kernel_rfl) (by kernel_rfl) (fun _ _ _ h => h) (Or.inl ⟨by rfl, fun W hW => ?_⟩) (HSF.out _ HBa.out) ?_
          · go_simp
          simp only [Act.put, List.setIfInBounds_toArray, List.set_cons_zero, List.set_cons_succ]
          refine take_at (i := 20) (v := (.bool true)) (some 32) rfl rfl (by kernel_rfl) (by kernel_rfl) (by kernel_rfl) (fun _ _ _ h => h) (Or.inl ⟨by rfl, fun W hW => ?_⟩) (HSF.out _ HBa.out) ?_
          · go_simp
          simp only [Act.put, List.setIfInBounds_toArray, List.set_cons_zero, List.set_cons_succ]
          refine take_at (i := 21) (v := (.bool true)) (some 33) rfl rfl (by kernel_rfl) (by kernel_rfl) (by kernel_rfl) (fun _ _ _ h => h) (yieldsIf_move (by rfl) _ rfl _ rfl) (HSF.out _ HBa.out) ?_
          simp only [Act.put, List.setIfInBounds_toArray, List.set_cons_zero, List.set_cons_succ]
          refine skipH (i := 22) (some 34) rfl rfl (by kernel_rfl) (by kernel_rfl) (by kernel_rfl) (fun _ _ _ h => h) (by kernel_rfl) (HSF.out _ HBa.out) ?_
          simp only [Act.put, List.setIfInBounds_toArray, List.set_cons_zero, List.set_cons_succ]
          refine skipH (i := 23) (some 35) rfl rfl (by kernel_rfl) (by kernel_rfl) (by kernel_rfl) (fun _ _ _ h => h) (by kernel_rfl) (HSF.out _ HBa.out) ?_
          simp only [Act.put, List.setIfInBounds_toArray, List.set_cons_zero, List.set_cons_succ]
          refine skipH (i := 24) (some 36) rfl rfl (by kernel_rfl) (by kernel_rfl) (by kernel_rfl) (fun _ _ _ h => h) (by kernel_rfl) (HSF.out _ HBa.out) ?_
          simp only [Act.put, List.setIfInBounds_toArray, List.set_cons_zero, List.set_cons_succ]
          refine skipH (i := 25) (some 37) rfl rfl (by kernel_rfl) (by kernel_rfl) (by kernel_rfl) (fun _ _ _ h => h) (by kernel_rfl) (HSF.out _ HBa.out) ?_
          simp only [Act.put, List.setIfInBounds_toArray, List.set_cons_zero, List.set_cons_succ]
          refine skipH (i := 26) (some 38) rfl rfl (by kernel_rfl) (by kernel_rfl) (by kernel_rfl) (fun _ _ _ h => h) (by kernel_rfl) (HSF.out _ HBa.out) ?_
          simp only [Act.put, List.setIfInBounds_toArray, List.set_cons_zero, List.set_cons_succ]
          refine skipH (i := 27) (some 39) rfl rfl (by kernel_rfl) (by kernel_rfl) (by kernel_rfl) (fun _ _ _ h => h) (by kernel_rfl) (HSF.out _ HBa.out) ?_
          simp only [Act.put, List.setIfInBounds_toArray, List.set_cons_zero, List.set_cons_succ]
          refine skipH (i := 28) (some 40) rfl rfl (by kernel_rfl) (by kernel_rfl) (by kernel_rfl) (fun _ _ _ h => h) (by kernel_rfl) (HSF.out _ HBa.out) ?_
          simp only [Act.put, List.setIfInBounds_toArray, List.set_cons_zero, List.set_cons_succ]
          refine skipH (i := 29) (some 41) rfl rfl (by kernel_rfl) (by kernel_rfl) (by kernel_rfl) (fun _ _ _ h => h) (by kernel_rfl) (HSF.out _ HBa.out) ?_
          simp only [Act.put, List.setIfInBounds_toArray, List.set_cons_zero, List.set_cons_succ]
          refine skipH (i := 30) (some 42) rfl rfl (by kernel_rfl) (by kernel_rfl) (by kernel_rfl) (fun _ _ _ h => h) (by kernel_rfl) (HSF.out _ HBa.out) ?_
          simp only [Act.put, List.setIfInBounds_toArray, List.set_cons_zero, List.set_cons_succ]
          refine take_at (i := 31) (v := (.bool true)) (some 43) rfl rfl (by kernel_rfl) (by kernel_rfl) (by kernel_rfl) (fun _ _ _ h => h) (Or.inl ⟨by rfl, fun W hW => ?_⟩) (HSF.out _ HBa.out) ?_
          · go_simp
          simp only [Act.put, List.setIfInBounds_toArray, List.set_cons_zero, List.set_cons_succ]
          refine wpAnyH_done (by kernel_rfl) ?_ _
          clear hHeld HSF HWL HWC HTC HFU y1 y2 y3
          go_wp2_with fail
          go_meet
          exact ⟨st1, _, T1, O1, F1, m1, HST.out, fun _ => (.inl (by rw [HCS.out, HFC.out, q1]; rfl)), HOK.out, hmf, hm1, HBa.out, HKa.out⟩
        · have q1 := decide_eq_false h1
          clear h1
          cases fu
          · as_aux_lemma =>
              refine wp_region_HL 32 #[false, false, false, false, false, false, false, false, false, false, false, false, false, false, false, false, false, false, false, false, false, false, false, false, false, false, false, false, false, false, false, false] (by kernel_rfl) (by kernel_rfl) (S := fun Z => Z.cell? ⟨b, 8, none⟩ = some (.slice AL st1.line.length cL) ∧ Z.cell? ⟨b, 6, none⟩ = some (.int .i64 st1.left) ∧ Z.cell? ⟨b, 7, none⟩ = some (.int .i64 st1.right) ∧ Z.cell? ⟨b, 9, none⟩ = some (.bool false)) (by kernel_rfl) (HSF.out _ HBa.out) (fun hHeld => ?_)
              generalize w1.drew = wa at *
              refine take_at (i := 0) (v := (Value.pointer (some ⟨b, 0, none⟩))) (some 12) rfl rfl (by kernel_rfl) (by kernel_rfl) (by kernel_rfl) (fun _ _ _ h => h) (yieldsIf_move (by rfl) _ rfl _ rfl) hHeld ?_
              simp only [Act.put, List.setIfInBounds_toArray, List.set_cons_zero, List.set_cons_succ]
              refine take_at (i := 1) (v := (Value.pointer (some ⟨b, 0, none⟩))) (some 13) rfl rfl (by kernel_rfl) (by kernel_rfl) (by kernel_rfl) (fun _ _ _ h => h) (yieldsIf_nil (by rfl) _ rfl _ rfl) hHeld ?_
              simp only [Act.put, List.setIfInBounds_toArray, List.set_cons_zero, List.set_cons_succ]
              refine take_at (i := 2) (v := (Value.pointer (some ⟨b, 8, none⟩))) (some 14) rfl rfl (by kernel_rfl) (by kernel_rfl) (by kernel_rfl) (fun _ _ _ h => h) (yieldsIf_faddr (by rfl) 81 _ 8 rfl _ _ 8 rfl (by kernel_rfl)) hHeld ?_
              simp only [Act.put, List.setIfInBounds_toArray, List.set_cons_zero, List.set_cons_succ]
              refine take_at (i := 3) (v := (.slice AL st1.line.length cL)) (some 15) rfl rfl (by kernel_rfl) (by kernel_rfl) (by kernel_rfl) (fun _ _ _ h => h) (yieldsIf_load1 (by rfl) 79 _ rfl _ _ _ rfl (by kernel_rfl) (fun _ h => h.1)) hHeld ?_
              simp only [Act.put, List.setIfInBounds_toArray, List.set_cons_zero, List.set_cons_succ]
              refine take_at (i := 5) (v := (.slice Ac cs.length cc)) (some 17) rfl rfl (by kernel_rfl) (by kernel_rfl) (by kernel_rfl) (fun _ _ _ h => h) (yieldsIf_move (by rfl) _ rfl _ rfl) hHeld ?_
              simp only [Act.put, List.setIfInBounds_toArray, List.set_cons_zero, List.set_cons_succ]
              refine take_at (i := 8) (v := (.slice Ac cs.length cc)) (some 20) rfl rfl (by kernel_rfl) (by kernel_rfl) (by kernel_rfl) (fun _ _ _ h => h) (yieldsIf_move (by rfl) _ rfl _ rfl) hHeld ?_
              simp only [Act.put, List.setIfInBounds_toArray, List.set_cons_zero, List.set_cons_succ]
              refine take_at (i := 11) (v := (Value.pointer (some ⟨b, 0, none⟩))) (some 23) rfl rfl (by kernel_rfl) (by kernel_rfl) (by kernel_rfl) (fun _ _ _ h => h) (yieldsIf_move (by rfl) _ rfl _ rfl) hHeld ?_
              simp only [Act.put, List.setIfInBounds_toArray, List.set_cons_zero, List.set_cons_succ]
              refine take_at (i := 12) (v := (Value.pointer (some ⟨b, 0, none⟩))) (some 24) rfl rfl (by kernel_rfl) (by kernel_rfl) (by kernel_rfl) (fun _ _ _ h => h) (yieldsIf_nil (by rfl) _ rfl _ rfl) hHeld ?_
              simp only [Act.put, List.setIfInBounds_toArray, List.set_cons_zero, List.set_cons_succ]
              refine take_at (i := 13) (v := (Value.pointer (some ⟨b, 7, none⟩))) (some 25) rfl rfl (by kernel_rfl) (by kernel_rfl) (by kernel_rfl) (fun _ _ _ h => h) (yieldsIf_faddr (by rfl) 81 _ 7 rfl _ _ 7 rfl (by kernel_rfl)) hHeld ?_
              simp only [Act.put, List.setIfInBounds_toArray, List.set_cons_zero, List.set_cons_succ]
              refine take_at (i := 14) (v := (.int .i64 st1.right)) (some 26) rfl rfl (by kernel_rfl) (by kernel_rfl) (by kernel_rfl) (fun _ _ _ h => h) (yieldsIf_load1 (by rfl) 3 _ rfl _ _ _ rfl (by kernel_rfl) (fun _ h => h.2.2.1)) hHeld ?_
              simp only [Act.put, List.setIfInBounds_toArray, List.set_cons_zero, List.set_cons_succ]
              refine take_at (i := 15) (v := (Value.pointer (some ⟨b, 0, none⟩))) (some 27) rfl rfl (by kernel_rfl) (by kernel_rfl) (by kernel_rfl) (fun _ _ _ h => h) (yieldsIf_move (by rfl) _ rfl _ rfl) hHeld ?_
              simp only [Act.put, List.setIfInBounds_toArray, List.set_cons_zero, List.set_cons_succ]
              refine take_at (i := 16) (v := (Value.pointer (some ⟨b, 0, none⟩))) (some 28) rfl rfl (by kernel_rfl) (by kernel_rfl) (by kernel_rfl) (fun _ _ _ h => h) (yieldsIf_nil (by rfl) _ rfl _ rfl) hHeld ?_
              simp only [Act.put, List.setIfInBounds_toArray, List.set_cons_zero, List.set_cons_succ]
              refine take_at (i := 17) (v := (Value.pointer (some ⟨b, 6, none⟩))) (some 29) rfl rfl (by kernel_rfl) (by kernel_rfl) (by kernel_rfl) (fun _ _ _ h => h) (yieldsIf_faddr (by rfl) 81 _ 6 rfl _ _ 6 rfl (by kernel_rfl)) hHeld ?_
              simp only [Act.put, List.setIfInBounds_toArray, List.set_cons_zero, List.set_cons_succ]
              refine take_at (i := 18) (v := (.int .i64 st1.left)) (some 30) rfl rfl (by kernel_rfl) (by kernel_rfl) (by kernel_rfl) (fun _ _ _ h => h) (yieldsIf_load1 (by rfl) 3 _ rfl _ _ _ rfl (by kernel_rfl) (fun _ h => h.2.1)) hHeld ?_
              simp only [Act.put, List.setIfInBounds_toArray, List.set_cons_zero, List.set_cons_succ]
              refine take_at (i := 19) (v := (.int .i64 (st1.right - st1.left))) (some 31) rfl rfl (by kernel_rfl) (by kernel_rfl) (by kernel_rfl) (fun _ _ _ h => h) (Or.inl ⟨by rfl, fun W hW => ?_⟩) hHeld ?_
              · go_simp
              simp only [Act.put, List.setIfInBounds_toArray, List.set_cons_zero, List.set_cons_succ]
              refine callH (j := 4) (by kernel_rfl) rfl rfl (some 16) rfl 45 #[.slice AL st1.line.length cL] (run_enter Tryd.func45 (by kernel_rfl) (by kernel_rfl) _ _ rfl #[.slice AL st1.line.length cL] (by kernel_rfl) _) (HWL.out _ HPLa.out) ?_
              rintro e5 w5 ⟨rfl, hb5⟩
              have hk5 := Kept.of_below hb5 HBa.out.kk
              replace HKa := hide (HKa.out.trans hk5)
              replace HBa := hide (HBa.out.below hb5)
              replace HPLa := hide (HPLa.out.below hb5)
              replace HPCa := hide (HPCa.out.below hb5)
              replace HIa := hide (HIa.out.below hb5)
              clear hb5 hk5
              refine ⟨_, rfl, HSF.out _ HBa.out, ?_⟩
              simp only [Act.put, List.setIfInBounds_toArray, List.set_cons_zero, List.set_cons_succ]
              refine callH (j := 6) (by kernel_rfl) rfl rfl (some 18) rfl 45 #[.slice Ac cs.length cc] (run_enter Tryd.func45 (by kernel_rfl) (by kernel_rfl) _ _ rfl #[.slice Ac cs.length cc] (by kernel_rfl) _) (HWC.out _ HPCa.out) ?_
              rintro e5 w5 ⟨rfl, hb5⟩
              have hk5 := Kept.of_below hb5 HBa.out.kk
              replace HKa := hide (HKa.out.trans hk5)
              replace HBa := hide (HBa.out.below hb5)
              replace HPLa := hide (HPLa.out.below hb5)
              replace HPCa := hide (HPCa.out.below hb5)
              replace HIa := hide (HIa.out.below hb5)
              clear hb5 hk5
              refine ⟨_, rfl, HSF.out _ HBa.out, ?_⟩
              simp only [Act.put, List.setIfInBounds_toArray, List.set_cons_zero, List.set_cons_succ]
              refine take_at (i := 7) (v := (.int .i64 (wl + wc))) (some 19) rfl rfl (by kernel_rfl) (by kernel_rfl) (by kernel_rfl) (fun _ _ _ h => h) (Or.inl ⟨by rfl, fun W hW => ?_⟩) (HSF.out _ HBa.out) ?_
              · go_simp
              simp only [Act.put, List.setIfInBounds_toArray, List.set_cons_zero, List.set_cons_succ]
              refine callH (j := 9) (by kernel_rfl) rfl rfl (some 21) rfl 46 #[.slice Ac cs.length cc] (run_enter Tryd.func46 (by kernel_rfl) (by kernel_rfl) _ _ rfl #[.slice Ac cs.length cc] (by kernel_rfl) _) (HTC.out _ HIa.out HPCa.out) ?_
              rintro e5 w5 ⟨rfl, hb5⟩
              have hk5 := Kept.of_below hb5 HBa.out.kk
              replace HKa := hide (HKa.out.trans hk5)
              replace HBa := hide (HBa.out.below hb5)
              replace HPLa := hide (HPLa.out.below hb5)
              replace HPCa := hide (HPCa.out.below hb5)
              replace HIa := hide (HIa.out.below hb5)
              clear hb5 hk5
              refine ⟨_, rfl, HSF.out _ HBa.out, ?_⟩
              simp only [Act.put, List.setIfInBounds_toArray, List.set_cons_zero, List.set_cons_succ]
              refine take_at (i := 10) (v := (.int .i64 (wl + wc - tl))) (some 22) rfl rfl (by kernel_rfl) (by kernel_rfl) (by kernel_rfl) (fun _ _ _ h => h) (Or.inl ⟨by rfl, fun W hW => ?_⟩) (HSF.out _ HBa.out) ?_
              · go_simp
              simp only [Act.put, List.setIfInBounds_toArray, List.set_cons_zero, List.set_cons_succ]
              refine take_at (i := 20) (v := (.bool false)) (some 32) rfl rfl (by kernel_rfl) (by kernel_rfl) (by kernel_rfl) (fun _ _ _ h => h) (Or.inl ⟨by rfl, fun W hW => ?_⟩) (HSF.out _ HBa.out) ?_
              · go_simp
              simp only [Act.put, List.setIfInBounds_toArray, List.set_cons_zero, List.set_cons_succ]
              refine take_at (i := 21) (v := (.bool false)) (some 33) rfl rfl (by kernel_rfl) (by kernel_rfl) (by kernel_rfl) (fun _ _ _ h => h) (yieldsIf_move (by rfl) _ rfl _ rfl) (HSF.out _ HBa.out) ?_
              simp only [Act.put, List.setIfInBounds_toArray, List.set_cons_zero, List.set_cons_succ]
              refine take_at (i := 22) (v := (.slice Ac cs.length cc)) (some 34) rfl rfl (by kernel_rfl) (by kernel_rfl) (by kernel_rfl) (fun _ _ _ h => h) (yieldsIf_move (by kernel_rfl) _ rfl _ rfl) (HSF.out _ HBa.out) ?_
              simp only [Act.put, List.setIfInBounds_toArray, List.set_cons_zero, List.set_cons_succ]
              refine callHw (j := 23) (by kernel_rfl) rfl (by kernel_rfl) (some 35) rfl 47 #[.slice Ac cs.length cc] (run_enter Tryd.func47 (by kernel_rfl) (by kernel_rfl) _ _ rfl #[.slice Ac cs.length cc] (by kernel_rfl) _) (HFU.out _ HIa.out HPCa.out) ?_
              rintro e5 w5 ⟨rfl, hb5⟩
              have hk5 := Kept.of_below hb5 HBa.out.kk
              replace HKa := hide (HKa.out.trans hk5)
              replace HBa := hide (HBa.out.below hb5)
              replace HPLa := hide (HPLa.out.below hb5)
              replace HPCa := hide (HPCa.out.below hb5)
              replace HIa := hide (HIa.out.below hb5)
              clear hb5 hk5
              refine ⟨_, rfl, HSF.out _ HBa.out, ?_⟩
              simp only [Act.put, List.setIfInBounds_toArray, List.set_cons_zero, List.set_cons_succ]
              refine take_at (i := 24) (v := (.bool true)) (some 36) rfl rfl (by kernel_rfl) (by kernel_rfl) (by kernel_rfl) (fun _ _ _ h => h) (Or.inl ⟨by kernel_rfl, fun W hW => ?_⟩) (HSF.out _ HBa.out) ?_
              · go_simp
              simp only [Act.put, List.setIfInBounds_toArray, List.set_cons_zero, List.set_cons_succ]
              refine take_at (i := 25) (v := (.bool true)) (some 37) rfl rfl (by kernel_rfl) (by kernel_rfl) (by kernel_rfl) (fun _ _ _ h => h) (yieldsIf_move (by kernel_rfl) _ rfl _ rfl) (HSF.out _ HBa.out) ?_
              simp only [Act.put, List.setIfInBounds_toArray, List.set_cons_zero, List.set_cons_succ]
              refine take_at (i := 26) (v := (Value.pointer (some ⟨b, 0, none⟩))) (some 38) rfl rfl (by kernel_rfl) (by kernel_rfl) (by kernel_rfl) (fun _ _ _ h => h) (yieldsIf_move (by kernel_rfl) _ rfl _ rfl) (HSF.out _ HBa.out) ?_
              simp only [Act.put, List.setIfInBounds_toArray, List.set_cons_zero, List.set_cons_succ]
              refine take_at (i := 27) (v := (Value.pointer (some ⟨b, 0, none⟩))) (some 39) rfl rfl (by kernel_rfl) (by kernel_rfl) (by kernel_rfl) (fun _ _ _ h => h) (yieldsIf_nil (by kernel_rfl) _ rfl _ rfl) (HSF.out _ HBa.out) ?_
              simp only [Act.put, List.setIfInBounds_toArray, List.set_cons_zero, List.set_cons_succ]
              refine take_at (i := 28) (v := (Value.pointer (some ⟨b, 9, none⟩))) (some 40) rfl rfl (by kernel_rfl) (by kernel_rfl) (by kernel_rfl) (fun _ _ _ h => h) (yieldsIf_faddr (by kernel_rfl) 81 _ 9 rfl _ _ 9 rfl (by kernel_rfl)) (HSF.out _ HBa.out) ?_
              simp only [Act.put, List.setIfInBounds_toArray, List.set_cons_zero, List.set_cons_succ]
              refine take_at (i := 29) (v := (.bool false)) (some 41) rfl rfl (by kernel_rfl) (by kernel_rfl) (by kernel_rfl) (fun _ _ _ h => h) (yieldsIf_load1 (by kernel_rfl) 4 _ rfl _ _ _ rfl (by kernel_rfl) (fun _ h => h.2.2.2)) (HSF.out _ HBa.out) ?_
              simp only [Act.put, List.setIfInBounds_toArray, List.set_cons_zero, List.set_cons_succ]
              refine take_at (i := 30) (v := (.bool false)) (some 42) rfl rfl (by kernel_rfl) (by kernel_rfl) (by kernel_rfl) (fun _ _ _ h => h) (Or.inl ⟨by kernel_rfl, fun W hW => ?_⟩) (HSF.out _ HBa.out) ?_
              · go_simp
              simp only [Act.put, List.setIfInBounds_toArray, List.set_cons_zero, List.set_cons_succ]
              refine take_at (i := 31) (v := (.bool false)) (some 43) rfl rfl (by kernel_rfl) (by kernel_rfl) (by kernel_rfl) (fun _ _ _ h => h) (Or.inl ⟨by rfl, fun W hW => ?_⟩) (HSF.out _ HBa.out) ?_
              · go_simp
              simp only [Act.put, List.setIfInBounds_toArray, List.set_cons_zero, List.set_cons_succ]
              refine wpAnyH_done (by kernel_rfl) ?_ _
              clear hHeld HSF HWL HWC HTC HFU y1 y2 y3
              have hfit : fitsG xs st1 (cleanF xs st1.full gs) = false := by rw [HCS.out]; exact (by rw [HFC.out, q1]; rfl)
              have c9 : w5.cell? ⟨b, 9, none⟩ = some (.bool false) := by rw [← hfl]; exact HBa.out.blk.cell 9
              have HLO := hide (lowerV_any g K b fp W sz ht al st1 _ T1 O1 F1 w5 HBa.out HOK.out.fs hW HOK.out.ind)
              clear HPLa HPCa
              cases hnl : noLow W st1
              · have hres : lowRes ht W st1 = lowG ht W st1 := lowRes_yes hnl
                rw [hnl, hres] at HLO
                go_wp2_with fail
                refine HLO.out.mono ?_
                rintro e w6 ⟨rfl, hb2, hk2⟩
                have hp : Hid (PutAt xs sz ht al W gs st n m K b fp g w w6 false) := ⟨lowG ht W st1, _, T1, O1, F1, m1, HST.out.snoc ⟨hfit, .inr ⟨hfl, hnl, rfl⟩⟩, (fun h => by cases h), HOK.out.low hW hnl, (fun h => hmf h), hm1, hb2, HKa.out.trans hk2⟩
                have hly := low_y hnl
                have hme := brMeas_of hb2
                have hms := HMS.out
                have e1 : (lowG ht W st1).y = lowF st1.y st1.fs := rfl
                have e2 : (lowG ht W st1).full = st1.full := rfl
                rw [e1, e2, hfl] at hme
                rw [hfl] at hms
                have HP := hide hp
                have HME := hide (show brMeas b w6 < brMeas b wr from by rw [hme, hms]; simp only [Bool.false_eq_true, if_false]; omega)
                clear HLO hb2 hk2 hfit hme hms hp HMS e1 e2 hly
                go_wp2_with fail
                go_roundw
                case rel => exact HP.out
                case measure => exact HME.out
              · have hres : lowRes ht W st1 = st1 := lowRes_no hnl
                rw [hnl, hres] at HLO
                go_wp2_with fail
                refine HLO.out.mono ?_
                rintro e w6 ⟨rfl, hb2, hk2⟩
                have HB2 := hide hb2
                have HK2 := hide (HKa.out.trans hk2)
                clear HLO hb2 hk2
                go_wp2_with fail
                go_meet
                exact ⟨st1, _, T1, O1, F1, m1, HST.out, fun _ => .inr ⟨hfl, hnl⟩, HOK.out, hmf, hm1, HB2.out, HK2.out⟩
          · as_aux_lemma =>
              refine wp_region_HL 32 #[false, false, false, false, false, false, false, false, false, false, false, false, false, false, false, false, false, false, false, false, false, false, false, false, false, false, false, false, false, false, false, false] (by kernel_rfl) (by kernel_rfl) (S := fun Z => Z.cell? ⟨b, 8, none⟩ = some (.slice AL st1.line.length cL) ∧ Z.cell? ⟨b, 6, none⟩ = some (.int .i64 st1.left) ∧ Z.cell? ⟨b, 7, none⟩ = some (.int .i64 st1.right) ∧ Z.cell? ⟨b, 9, none⟩ = some (.bool false)) (by kernel_rfl) (HSF.out _ HBa.out) (fun hHeld => ?_)
              generalize w1.drew = wa at *
              refine take_at (i := 0) (v := (Value.pointer (some ⟨b, 0, none⟩))) (some 12) rfl rfl (by kernel_rfl) (by kernel_rfl) (by kernel_rfl) (fun _ _ _ h => h) (yieldsIf_move (by rfl) _ rfl _ rfl) hHeld ?_
              simp only [Act.put, List.setIfInBounds_toArray, List.set_cons_zero, List.set_cons_succ]
              refine take_at (i := 1) (v := (Value.pointer (some ⟨b, 0, none⟩))) (some 13) rfl rfl (by kernel_rfl) (by kernel_rfl) (by kernel_rfl) (fun _ _ _ h => h) (yieldsIf_nil (by rfl) _ rfl _ rfl) hHeld ?_
              simp only [Act.put, List.setIfInBounds_toArray, List.set_cons_zero, List.set_cons_succ]
              refine take_at (i := 2) (v := (Value.pointer (some ⟨b, 8, none⟩))) (some 14) rfl rfl (by kernel_rfl) (by kernel_rfl) (by kernel_rfl) (fun _ _ _ h => h) (yieldsIf_faddr (by rfl) 81 _ 8 rfl _ _ 8 rfl (by kernel_rfl)) hHeld ?_
              simp only [Act.put, List.setIfInBounds_toArray, List.set_cons_zero, List.set_cons_succ]
              refine take_at (i := 3) (v := (.slice AL st1.line.length cL)) (some 15) rfl rfl (by kernel_rfl) (by kernel_rfl) (by kernel_rfl) (fun _ _ _ h => h) (yieldsIf_load1 (by rfl) 79 _ rfl _ _ _ rfl (by kernel_rfl) (fun _ h => h.1)) hHeld ?_
              simp only [Act.put, List.setIfInBounds_toArray, List.set_cons_zero, List.set_cons_succ]
              refine take_at (i := 5) (v := (.slice Ac cs.length cc)) (some 17) rfl rfl (by kernel_rfl) (by kernel_rfl) (by kernel_rfl) (fun _ _ _ h => h) (yieldsIf_move (by rfl) _ rfl _ rfl) hHeld ?_
              simp only [Act.put, List.setIfInBounds_toArray, List.set_cons_zero, List.set_cons_succ]
              refine take_at (i := 8) (v := (.slice Ac cs.length cc)) (some 20) rfl rfl (by kernel_rfl) (by kernel_rfl) (by kernel_rfl) (fun _ _ _ h => h) (yieldsIf_move (by rfl) _ rfl _ rfl) hHeld ?_
              simp only [Act.put, List.setIfInBounds_toArray, List.set_cons_zero, List.set_cons_succ]
              refine take_at (i := 11) (v := (Value.pointer (some ⟨b, 0, none⟩))) (some 23) rfl rfl (by kernel_rfl) (by kernel_rfl) (by kernel_rfl) (fun _ _ _ h => h) (yieldsIf_move (by rfl) _ rfl _ rfl) hHeld ?_
              simp only [Act.put, List.setIfInBounds_toArray, List.set_cons_zero, List.set_cons_succ]
              refine take_at (i := 12) (v := (Value.pointer (some ⟨b, 0, none⟩))) (some 24) rfl rfl (by kernel_rfl) (by kernel_rfl) (by kernel_rfl) (fun _ _ _ h => h) (yieldsIf_nil (by rfl) _ rfl _ rfl) hHeld ?_
              simp only [Act.put, List.setIfInBounds_toArray, List.set_cons_zero, List.set_cons_succ]
              refine take_at (i := 13) (v := (Value.pointer (some ⟨b, 7, none⟩))) (some 25) rfl rfl (by kernel_rfl) (by kernel_rfl) (by kernel_rfl) (fun _ _ _ h => h) (yieldsIf_faddr (by rfl) 81 _ 7 rfl _ _ 7 rfl (by kernel_rfl)) hHeld ?_
              simp only [Act.put, List.setIfInBounds_toArray, List.set_cons_zero, List.set_cons_succ]
              refine take_at (i := 14) (v := (.int .i64 st1.right)) (some 26) rfl rfl (by kernel_rfl) (by kernel_rfl) (by kernel_rfl) (fun _ _ _ h => h) (yieldsIf_load1 (by rfl) 3 _ rfl _ _ _ rfl (by kernel_rfl) (fun _ h => h.2.2.1)) hHeld ?_
              simp only [Act.put, List.setIfInBounds_toArray, List.set_cons_zero, List.set_cons_succ]
              refine take_at (i := 15) (v := (Value.pointer (some ⟨b, 0, none⟩))) (some 27) rfl rfl (by kernel_rfl) (by kernel_rfl) (by kernel_rfl) (fun _ _ _ h => h) (yieldsIf_move (by rfl) _ rfl _ rfl) hHeld ?_
              simp only [Act.put, List.setIfInBounds_toArray, List.set_cons_zero, List.set_cons_succ]
              refine take_at (i := 16) (v := (Value.pointer (some ⟨b, 0, none⟩))) (some 28) rfl rfl (by kernel_rfl) (by kernel_rfl) (by kernel_rfl) (fun _ _ _ h => h) (yieldsIf_nil (by rfl) _ rfl _ rfl) hHeld ?_
              simp only [Act.put, List.setIfInBounds_toArray, List.set_cons_zero, List.set_cons_succ]
              refine take_at (i := 17) (v := (Value.pointer (some ⟨b, 6, none⟩))) (some 29) rfl rfl (by kernel_rfl) (by kernel_rfl) (by kernel_rfl) (fun _ _ _ h => h) (yieldsIf_faddr (by rfl) 81 _ 6 rfl _ _ 6 rfl (by kernel_rfl)) hHeld ?_
              simp only [Act.put, List.setIfInBounds_toArray, List.set_cons_zero, List.set_cons_succ]
              refine take_at (i := 18) (v := (.int .i64 st1.left)) (some 30) rfl rfl (by kernel_rfl) (by kernel_rfl) (by kernel_rfl) (fun _ _ _ h => h) (yieldsIf_load1 (by rfl) 3 _ rfl _ _ _ rfl (by kernel_rfl) (fun _ h => h.2.1)) hHeld ?_
              simp only [Act.put, List.setIfInBounds_toArray, List.set_cons_zero, List.set_cons_succ]
              refine take_at (i := 19) (v := (.int .i64 (st1.right - st1.left))) (some 31) rfl rfl (by kernel_rfl) (by kernel_rfl) (by kernel_rfl) (fun _ _ _ h => h) (Or.inl ⟨by rfl, fun W hW => ?_⟩) hHeld ?_
              · go_simp
              simp only [Act.put, List.setIfInBounds_toArray, List.set_cons_zero, List.set_cons_succ]
              refine callH (j := 4) (by kernel_rfl) rfl rfl (some 16) rfl 45 #[.slice AL st1.line.length cL] (run_enter Tryd.func45 (by kernel_rfl) (by kernel_rfl) _ _ rfl #[.slice AL st1.line.length cL] (by kernel_rfl) _) (HWL.out _ HPLa.out) ?_
              rintro e5 w5 ⟨rfl, hb5⟩
              have hk5 := Kept.of_below hb5 HBa.out.kk
              replace HKa := hide (HKa.out.trans hk5)
              replace HBa := hide (HBa.out.below hb5)
              replace HPLa := hide (HPLa.out.below hb5)
              replace HPCa := hide (HPCa.out.below hb5)
              replace HIa := hide (HIa.out.below hb5)
              clear hb5 hk5
              refine ⟨_, rfl, HSF.out _ HBa.out, ?_⟩
              simp only [Act.put, List.setIfInBounds_toArray, List.set_cons_zero, List.set_cons_succ]
              refine callH (j := 6) (by kernel_rfl) rfl rfl (some 18) rfl 45 #[.slice Ac cs.length cc] (run_enter Tryd.func45 (by kernel_rfl) (by kernel_rfl) _ _ rfl #[.slice Ac cs.length cc] (by kernel_rfl) _) (HWC.out _ HPCa.out) ?_
              rintro e5 w5 ⟨rfl, hb5⟩
              have hk5 := Kept.of_below hb5 HBa.out.kk
              replace HKa := hide (HKa.out.trans hk5)
              replace HBa := hide (HBa.out.below hb5)
              replace HPLa := hide (HPLa.out.below hb5)
              replace HPCa := hide (HPCa.out.below hb5)
              replace HIa := hide (HIa.out.below hb5)
              clear hb5 hk5
              refine ⟨_, rfl, HSF.out _ HBa.out, ?_⟩
              simp only [Act.put, List.setIfInBounds_toArray, List.set_cons_zero, List.set_cons_succ]
              refine take_at (i := 7) (v := (.int .i64 (wl + wc))) (some 19) rfl rfl (by kernel_rfl) (by kernel_rfl) (by kernel_rfl) (fun _ _ _ h => h) (Or.inl ⟨by rfl, fun W hW => ?_⟩) (HSF.out _ HBa.out) ?_
              · go_simp
              simp only [Act.put, List.setIfInBounds_toArray, List.set_cons_zero, List.set_cons_succ]
              refine callH (j := 9) (by kernel_rfl) rfl rfl (some 21) rfl 46 #[.slice Ac cs.length cc] (run_enter Tryd.func46 (by kernel_rfl) (by kernel_rfl) _ _ rfl #[.slice Ac cs.length cc] (by kernel_rfl) _) (HTC.out _ HIa.out HPCa.out) ?_
              rintro e5 w5 ⟨rfl, hb5⟩
              have hk5 := Kept.of_below hb5 HBa.out.kk
              replace HKa := hide (HKa.out.trans hk5)
              replace HBa := hide (HBa.out.below hb5)
              replace HPLa := hide (HPLa.out.below hb5)
              replace HPCa := hide (HPCa.out.below hb5)
              replace HIa := hide (HIa.out.below hb5)
              clear hb5 hk5
              refine ⟨_, rfl, HSF.out _ HBa.out, ?_⟩
              simp only [Act.put, List.setIfInBounds_toArray, List.set_cons_zero, List.set_cons_succ]
              refine take_at (i := 10) (v := (.int .i64 (wl + wc - tl))) (some 22) rfl rfl (by kernel_rfl) (by kernel_rfl) (by kernel_rfl) (fun _ _ _ h => h) (Or.inl ⟨by rfl, fun W hW => ?_⟩) (HSF.out _ HBa.out) ?_
              · go_simp
              simp only [Act.put, List.setIfInBounds_toArray, List.set_cons_zero, List.set_cons_succ]
              refine take_at (i := 20) (v := (.bool false)) (some 32) rfl rfl (by kernel_rfl) (by kernel_rfl) (by kernel_rfl) (fun _ _ _ h => h) (Or.inl ⟨by rfl, fun W hW => ?_⟩) (HSF.out _ HBa.out) ?_
              · go_simp
              simp only [Act.put, List.setIfInBounds_toArray, List.set_cons_zero, List.set_cons_succ]
              refine take_at (i := 21) (v := (.bool false)) (some 33) rfl rfl (by kernel_rfl) (by kernel_rfl) (by kernel_rfl) (fun _ _ _ h => h) (yieldsIf_move (by rfl) _ rfl _ rfl) (HSF.out _ HBa.out) ?_
              simp only [Act.put, List.setIfInBounds_toArray, List.set_cons_zero, List.set_cons_succ]
              refine take_at (i := 22) (v := (.slice Ac cs.length cc)) (some 34) rfl rfl (by kernel_rfl) (by kernel_rfl) (by kernel_rfl) (fun _ _ _ h => h) (yieldsIf_move (by kernel_rfl) _ rfl _ rfl) (HSF.out _ HBa.out) ?_
              simp only [Act.put, List.setIfInBounds_toArray, List.set_cons_zero, List.set_cons_succ]
              refine callHw (j := 23) (by kernel_rfl) rfl (by kernel_rfl) (some 35) rfl 47 #[.slice Ac cs.length cc] (run_enter Tryd.func47 (by kernel_rfl) (by kernel_rfl) _ _ rfl #[.slice Ac cs.length cc] (by kernel_rfl) _) (HFU.out _ HIa.out HPCa.out) ?_
              rintro e5 w5 ⟨rfl, hb5⟩
              have hk5 := Kept.of_below hb5 HBa.out.kk
              replace HKa := hide (HKa.out.trans hk5)
              replace HBa := hide (HBa.out.below hb5)
              replace HPLa := hide (HPLa.out.below hb5)
              replace HPCa := hide (HPCa.out.below hb5)
              replace HIa := hide (HIa.out.below hb5)
              clear hb5 hk5
              refine ⟨_, rfl, HSF.out _ HBa.out, ?_⟩
              simp only [Act.put, List.setIfInBounds_toArray, List.set_cons_zero, List.set_cons_succ]
              refine take_at (i := 24) (v := (.bool false)) (some 36) rfl rfl (by kernel_rfl) (by kernel_rfl) (by kernel_rfl) (fun _ _ _ h => h) (Or.inl ⟨by kernel_rfl, fun W hW => ?_⟩) (HSF.out _ HBa.out) ?_
              · go_simp
              simp only [Act.put, List.setIfInBounds_toArray, List.set_cons_zero, List.set_cons_succ]
              refine take_at (i := 25) (v := (.bool false)) (some 37) rfl rfl (by kernel_rfl) (by kernel_rfl) (by kernel_rfl) (fun _ _ _ h => h) (yieldsIf_move (by kernel_rfl) _ rfl _ rfl) (HSF.out _ HBa.out) ?_
              simp only [Act.put, List.setIfInBounds_toArray, List.set_cons_zero, List.set_cons_succ]
              refine skipH (i := 26) (some 38) rfl rfl (by kernel_rfl) (by kernel_rfl) (by kernel_rfl) (fun _ _ _ h => h) (by kernel_rfl) (HSF.out _ HBa.out) ?_
              simp only [Act.put, List.setIfInBounds_toArray, List.set_cons_zero, List.set_cons_succ]
              refine skipH (i := 27) (some 39) rfl rfl (by kernel_rfl) (by kernel_rfl) (by kernel_rfl) (fun _ _ _ h => h) (by kernel_rfl) (HSF.out _ HBa.out) ?_
              simp only [Act.put, List.setIfInBounds_toArray, List.set_cons_zero, List.set_cons_succ]
              refine skipH (i := 28) (some 40) rfl rfl (by kernel_rfl) (by kernel_rfl) (by kernel_rfl) (fun _ _ _ h => h) (by kernel_rfl) (HSF.out _ HBa.out) ?_
              simp only [Act.put, List.setIfInBounds_toArray, List.set_cons_zero, List.set_cons_succ]
              refine skipH (i := 29) (some 41) rfl rfl (by kernel_rfl) (by kernel_rfl) (by kernel_rfl) (fun _ _ _ h => h) (by kernel_rfl) (HSF.out _ HBa.out) ?_
              simp only [Act.put, List.setIfInBounds_toArray, List.set_cons_zero, List.set_cons_succ]
              refine take_at (i := 30) (v := (.bool false)) (some 42) rfl rfl (by kernel_rfl) (by kernel_rfl) (by kernel_rfl) (fun _ _ _ h => h) (Or.inl ⟨by kernel_rfl, fun W hW => ?_⟩) (HSF.out _ HBa.out) ?_
              · go_simp
              simp only [Act.put, List.setIfInBounds_toArray, List.set_cons_zero, List.set_cons_succ]
              refine take_at (i := 31) (v := (.bool false)) (some 43) rfl rfl (by kernel_rfl) (by kernel_rfl) (by kernel_rfl) (fun _ _ _ h => h) (Or.inl ⟨by rfl, fun W hW => ?_⟩) (HSF.out _ HBa.out) ?_
              · go_simp
              simp only [Act.put, List.setIfInBounds_toArray, List.set_cons_zero, List.set_cons_succ]
              refine wpAnyH_done (by kernel_rfl) ?_ _
              clear hHeld HSF HWL HWC HTC HFU y1 y2 y3
              have hfit : fitsG xs st1 (cleanF xs st1.full gs) = false := by rw [HCS.out]; exact (by rw [HFC.out, q1]; rfl)
              have c9 : w5.cell? ⟨b, 9, none⟩ = some (.bool false) := by rw [← hfl]; exact HBa.out.blk.cell 9
              have HLO := hide (lowerV_any g K b fp W sz ht al st1 _ T1 O1 F1 w5 HBa.out HOK.out.fs hW HOK.out.ind)
              clear HPLa HPCa
              cases hnl : noLow W st1
              · have hres : lowRes ht W st1 = lowG ht W st1 := lowRes_yes hnl
                rw [hnl, hres] at HLO
                go_wp2_with fail
                refine HLO.out.mono ?_
                rintro e w6 ⟨rfl, hb2, hk2⟩
                have hp : Hid (PutAt xs sz ht al W gs st n m K b fp g w w6 false) := ⟨lowG ht W st1, _, T1, O1, F1, m1, HST.out.snoc ⟨hfit, .inr ⟨hfl, hnl, rfl⟩⟩, (fun h => by cases h), HOK.out.low hW hnl, (fun h => hmf h), hm1, hb2, HKa.out.trans hk2⟩
                have hly := low_y hnl
                have hme := brMeas_of hb2
                have hms := HMS.out
                have e1 : (lowG ht W st1).y = lowF st1.y st1.fs := rfl
                have e2 : (lowG ht W st1).full = st1.full := rfl
                rw [e1, e2, hfl] at hme
                rw [hfl] at hms
                have HP := hide hp
                have HME := hide (show brMeas b w6 < brMeas b wr from by rw [hme, hms]; simp only [Bool.false_eq_true, if_false]; omega)
                clear HLO hb2 hk2 hfit hme hms hp HMS e1 e2 hly
                go_wp2_with fail
                go_roundw
                case rel => exact HP.out
                case measure => exact HME.out
              · have hres : lowRes ht W st1 = st1 := lowRes_no hnl
                rw [hnl, hres] at HLO
                go_wp2_with fail
                refine HLO.out.mono ?_
                rintro e w6 ⟨rfl, hb2, hk2⟩
                have HB2 := hide hb2
                have HK2 := hide (HKa.out.trans hk2)
                clear HLO hb2 hk2
                go_wp2_with fail
                go_meet
                exact ⟨st1, _, T1, O1, F1, m1, HST.out, fun _ => .inr ⟨hfl, hnl⟩, HOK.out, hmf, hm1, HB2.out, HK2.out⟩
      · rw [hfl] at HFC HSF
        by_cases h1 : wl + wc - tl ≤ st1.right - st1.left
        · have q1 := decide_eq_true h1
          clear h1
          refine wp_region_HL 32 #[false, false, false, false, false, false, false, false, false, false, false, false, false, false, false, false, false, false, false, false, false, false, false, false, false, false, false, false, false, false, false, false] (by kernel_rfl) (by kernel_rfl) (S := fun Z => Z.cell? ⟨b, 8, none⟩ = some (.slice AL st1.line.length cL) ∧ Z.cell? ⟨b, 6, none⟩ = some (.int .i64 st1.left) ∧ Z.cell? ⟨b, 7, none⟩ = some (.int .i64 st1.right) ∧ Z.cell? ⟨b, 9, none⟩ = some (.bool true)) (by kernel_rfl) (HSF.out _ HBa.out) (fun hHeld => ?_)
          generalize w1.drew = wa at *
          refine take_at (i := 0) (v := (Value.pointer (some ⟨b, 0, none⟩))) (some 12) rfl rfl (by kernel_rfl) (by kernel_rfl) (by kernel_rfl) (fun _ _ _ h => h) (yieldsIf_move (by rfl) _ rfl _ rfl) hHeld ?_
          simp only [Act.put, List.setIfInBounds_toArray, List.set_cons_zero, List.set_cons_succ]
          refine take_at (i := 1) (v := (Value.pointer (some ⟨b, 0, none⟩))) (some 13) rfl rfl (by kernel_rfl) (by kernel_rfl) (by kernel_rfl) (fun _ _ _ h => h) (yieldsIf_nil (by rfl) _ rfl _ rfl) hHeld ?_
          simp only [Act.put, List.setIfInBounds_toArray, List.set_cons_zero, List.set_cons_succ]
          refine take_at (i := 2) (v := (Value.pointer (some ⟨b, 8, none⟩))) (some 14) rfl rfl (by kernel_rfl) (by kernel_rfl) (by kernel_rfl) (fun _ _ _ h => h) (yieldsIf_faddr (by rfl) 81 _ 8 rfl _ _ 8 rfl (by kernel_rfl)) hHeld ?_
          simp only [Act.put, List.setIfInBounds_toArray, List.set_cons_zero, List.set_cons_succ]
          refine take_at (i := 3) (v := (.slice AL st1.line.length cL)) (some 15) rfl rfl (by kernel_rfl) (by kernel_rfl) (by kernel_rfl) (fun _ _ _ h => h) (yieldsIf_load1 (by rfl) 79 _ rfl _ _ _ rfl (by kernel_rfl) (fun _ h => h.1)) hHeld ?_
          simp only [Act.put, List.setIfInBounds_toArray, List.set_cons_zero, List.set_cons_succ]
          refine take_at (i := 5) (v := (.slice Ac cs.length cc)) (some 17) rfl rfl (by kernel_rfl) (by kernel_rfl) (by kernel_rfl) (fun _ _ _ h => h) (yieldsIf_move (by rfl) _ rfl _ rfl) hHeld ?_
          simp only [Act.put, List.setIfInBounds_toArray, List.set_cons_zero, List.set_cons_succ]
          refine take_at (i := 8) (v := (.slice Ac cs.length cc)) (some 20) rfl rfl (by kernel_rfl) (by kernel_rfl) (by kernel_rfl) (fun _ _ _ h => h) (yieldsIf_move (by rfl) _ rfl _ rfl) hHeld ?_
          simp only [Act.put, List.setIfInBounds_toArray, List.set_cons_zero, List.set_cons_succ]
          refine take_at (i := 11) (v := (Value.pointer (some ⟨b, 0, none⟩))) (some 23) rfl rfl (by kernel_rfl) (by kernel_rfl) (by kernel_rfl) (fun _ _ _ h => h) (yieldsIf_move (by rfl) _ rfl _ rfl) hHeld ?_
          simp only [Act.put, List.setIfInBounds_toArray, List.set_cons_zero, List.set_cons_succ]
          refine take_at (i := 12) (v := (Value.pointer (some ⟨b, 0, none⟩))) (some 24) rfl rfl (by kernel_rfl) (by kernel_rfl) (by kernel_rfl) (fun _ _ _ h => h) (yieldsIf_nil (by rfl) _ rfl _ rfl) hHeld ?_
          simp only [Act.put, List.setIfInBounds_toArray, List.set_cons_zero, List.set_cons_succ]
          refine take_at (i := 13) (v := (Value.pointer (some ⟨b, 7, none⟩))) (some 25) rfl rfl (by kernel_rfl) (by kernel_rfl) (by kernel_rfl) (fun _ _ _ h => h) (yieldsIf_faddr (by rfl) 81 _ 7 rfl _ _ 7 rfl (by kernel_rfl)) hHeld ?_
          simp only [Act.put, List.setIfInBounds_toArray, List.set_cons_zero, List.set_cons_succ]
          refine take_at (i := 14) (v := (.int .i64 st1.right)) (some 26) rfl rfl (by kernel_rfl) (by kernel_rfl) (by kernel_rfl) (fun _ _ _ h => h) (yieldsIf_load1 (by rfl) 3 _ rfl _ _ _ rfl (by kernel_rfl) (fun _ h => h.2.2.1)) hHeld ?_
          simp only [Act.put, List.setIfInBounds_toArray, List.set_cons_zero, List.set_cons_succ]
          refine take_at (i := 15) (v := (Value.pointer (some ⟨b, 0, none⟩))) (some 27) rfl rfl (by kernel_rfl) (by kernel_rfl) (by kernel_rfl) (fun _ _ _ h => h) (yieldsIf_move (by rfl) _ rfl _ rfl) hHeld ?_
          simp only [Act.put, List.setIfInBounds_toArray, List.set_cons_zero, List.set_cons_succ]
          refine take_at (i := 16) (v := (Value.pointer (some ⟨b, 0, none⟩))) (some 28) rfl rfl (by kernel_rfl) (by kernel_rfl) (by kernel_rfl) (fun _ _ _ h => h) (yieldsIf_nil (by rfl) _ rfl _ rfl) hHeld ?_
          simp only [Act.put, List.setIfInBounds_toArray, List.set_cons_zero, List.set_cons_succ]
          refine take_at (i := 17) (v := (Value.pointer (some ⟨b, 6, none⟩))) (some 29) rfl rfl (by kernel_rfl) (by kernel_rfl) (by kernel_rfl) (fun _ _ _ h => h) (yieldsIf_faddr (by rfl) 81 _ 6 rfl _ _ 6 rfl (by kernel_rfl)) hHeld ?_
          simp only [Act.put, List.setIfInBounds_toArray, List.set_cons_zero, List.set_cons_succ]
          refine take_at (i := 18) (v := (.int .i64 st1.left)) (some 30) rfl rfl (by kernel_rfl) (by kernel_rfl) (by kernel_rfl) (fun _ _ _ h => h) (yieldsIf_load1 (by rfl) 3 _ rfl _ _ _ rfl (by kernel_rfl) (fun _ h => h.2.1)) hHeld ?_
          simp only [Act.put, List.setIfInBounds_toArray, List.set_cons_zero, List.set_cons_succ]
          refine take_at (i := 19) (v := (.int .i64 (st1.right - st1.left))) (some 31) rfl rfl (by kernel_rfl) (by kernel_rfl) (by kernel_rfl) (fun _ _ _ h => h) (Or.inl ⟨by rfl, fun W hW => ?_⟩) hHeld ?_
          · go_simp
          simp only [Act.put, List.setIfInBounds_toArray, List.set_cons_zero, List.set_cons_succ]
          refine callH (j := 4) (by kernel_rfl) rfl rfl (some 16) rfl 45 #[.slice AL st1.line.length cL] (run_enter Tryd.func45 (by kernel_rfl) (by kernel_rfl) _ _ rfl #[.slice AL st1.line.length cL] (by kernel_rfl) _) (HWL.out _ HPLa.out) ?_
          rintro e5 w5 ⟨rfl, hb5⟩
          have hk5 := Kept.of_below hb5 HBa.out.kk
          replace HKa := hide (HKa.out.trans hk5)
          replace HBa := hide (HBa.out.below hb5)
          replace HPLa := hide (HPLa.out.below hb5)
          replace HPCa := hide (HPCa.out.below hb5)
          replace HIa := hide (HIa.out.below hb5)
          clear hb5 hk5
          refine ⟨_, rfl, HSF.out _ HBa.out, ?_⟩
          simp only [Act.put, List.setIfInBounds_toArray, List.set_cons_zero, List.set_cons_succ]
          refine callH (j := 6) (by kernel_rfl) rfl rfl (some 18) rfl 45 #[.slice Ac cs.length cc] (run_enter Tryd.func45 (by kernel_rfl) (by kernel_rfl) _ _ rfl #[.slice Ac cs.length cc] (by kernel_rfl) _) (HWC.out _ HPCa.out) ?_
          rintro e5 w5 ⟨rfl, hb5⟩
          have hk5 := Kept.of_below hb5 HBa.out.kk
          replace HKa := hide (HKa.out.trans hk5)
          replace HBa := hide (HBa.out.below hb5)
          replace HPLa := hide (HPLa.out.below hb5)
          replace HPCa := hide (HPCa.out.below hb5)
          replace HIa := hide (HIa.out.below hb5)
          clear hb5 hk5
          refine ⟨_, rfl, HSF.out _ HBa.out, ?_⟩
          simp only [Act.put, List.setIfInBounds_toArray, List.set_cons_zero, List.set_cons_succ]
          refine take_at (i := 7) (v := (.int .i64 (wl + wc))) (some 19) rfl rfl (by kernel_rfl) (by kernel_rfl) (by kernel_rfl) (fun _ _ _ h => h) (Or.inl ⟨by rfl, fun W hW => ?_⟩) (HSF.out _ HBa.out) ?_
          · go_simp
          simp only [Act.put, List.setIfInBounds_toArray, List.set_cons_zero, List.set_cons_succ]
          refine callH (j := 9) (by kernel_rfl) rfl rfl (some 21) rfl 46 #[.slice Ac cs.length cc] (run_enter Tryd.func46 (by kernel_rfl) (by kernel_rfl) _ _ rfl #[.slice Ac cs.length cc] (by kernel_rfl) _) (HTC.out _ HIa.out HPCa.out) ?_
          rintro e5 w5 ⟨rfl, hb5⟩
          have hk5 := Kept.of_below hb5 HBa.out.kk
          replace HKa := hide (HKa.out.trans hk5)
          replace HBa := hide (HBa.out.below hb5)
          replace HPLa := hide (HPLa.out.below hb5)
          replace HPCa := hide (HPCa.out.below hb5)
          replace HIa := hide (HIa.out.below hb5)
          clear hb5 hk5
          refine ⟨_, rfl, HSF.out _ HBa.out, ?_⟩
          simp only [Act.put, List.setIfInBounds_toArray, List.set_cons_zero, List.set_cons_succ]
          refine take_at (i := 10) (v := (.int .i64 (wl + wc - tl))) (some 22) rfl rfl (by kernel_rfl) (by kernel_rfl) (by kernel_rfl) (fun _ _ _ h => h) (Or.inl ⟨by rfl, fun W hW => ?_⟩) (HSF.out _ HBa.out) ?_
          · go_simp
          simp only [Act.put, List.setIfInBounds_toArray, List.set_cons_zero, List.set_cons_succ]
          refine take_at (i := 20) (v := (.bool true)) (some 32) rfl rfl (by kernel_rfl) (by kernel_rfl) (by kernel_rfl) (fun _ _ _ h => h) (Or.inl ⟨by rfl, fun W hW => ?_⟩) (HSF.out _ HBa.out) ?_
          · go_simp
          simp only [Act.put, List.setIfInBounds_toArray, List.set_cons_zero, List.set_cons_succ]
          refine take_at (i := 21) (v := (.bool true)) (some 33) rfl rfl (by kernel_rfl) (by kernel_rfl) (by kernel_rfl) (fun _ _ _ h => h) (yieldsIf_move (by rfl) _ rfl _ rfl) (HSF.out _ HBa.out) ?_
          simp only [Act.put, List.setIfInBounds_toArray, List.set_cons_zero, List.set_cons_succ]
          refine skipH (i := 22) (some 34) rfl rfl (by kernel_rfl) (by kernel_rfl) (by kernel_rfl) (fun _ _ _ h => h) (by kernel_rfl) (HSF.out _ HBa.out) ?_
          simp only [Act.put, List.setIfInBounds_toArray, List.set_cons_zero, List.set_cons_succ]
          refine skipH (i := 23) (some 35) rfl rfl (by kernel_rfl) (by kernel_rfl) (by kernel_rfl) (fun _ _ _ h => h) (by kernel_rfl) (HSF.out _ HBa.out) ?_
          simp only [Act.put, List.setIfInBounds_toArray, List.set_cons_zero, List.set_cons_succ]
          refine skipH (i := 24) (some 36) rfl rfl (by kernel_rfl) (by kernel_rfl) (by kernel_rfl) (fun _ _ _ h => h) (by kernel_rfl) (HSF.out _ HBa.out) ?_
          simp only [Act.put, List.setIfInBounds_toArray, List.set_cons_zero, List.set_cons_succ]
          refine skipH (i := 25) (some 37) rfl rfl (by kernel_rfl) (by kernel_rfl) (by kernel_rfl) (fun _ _ _ h => h) (by kernel_rfl) (HSF.out _ HBa.out) ?_
          simp only [Act.put, List.setIfInBounds_toArray, List.set_cons_zero, List.set_cons_succ]
          refine skipH (i := 26) (some 38) rfl rfl (by kernel_rfl) (by kernel_rfl) (by kernel_rfl) (fun _ _ _ h => h) (by kernel_rfl) (HSF.out _ HBa.out) ?_
          simp only [Act.put, List.setIfInBounds_toArray, List.set_cons_zero, List.set_cons_succ]
          refine skipH (i := 27) (some 39) rfl rfl (by kernel_rfl) (by kernel_rfl) (by kernel_rfl) (fun _ _ _ h => h) (by kernel_rfl) (HSF.out _ HBa.out) ?_
          simp only [Act.put, List.setIfInBounds_toArray, List.set_cons_zero, List.set_cons_succ]
          refine skipH (i := 28) (some 40) rfl rfl (by kernel_rfl) (by kernel_rfl) (by kernel_rfl) (fun _ _ _ h => h) (by kernel_rfl) (HSF.out _ HBa.out) ?_
          simp only [Act.put, List.setIfInBounds_toArray, List.set_cons_zero, List.set_cons_succ]
          refine skipH (i := 29) (some 41) rfl rfl (by kernel_rfl) (by kernel_rfl) (by kernel_rfl) (fun _ _ _ h => h) (by kernel_rfl) (HSF.out _ HBa.out) ?_
          simp only [Act.put, List.setIfInBounds_toArray, List.set_cons_zero, List.set_cons_succ]
          refine skipH (i := 30) (some 42) rfl rfl (by kernel_rfl) (by kernel_rfl) (by kernel_rfl) (fun _ _ _ h => h) (by kernel_rfl) (HSF.out _ HBa.out) ?_
          simp only [Act.put, List.setIfInBounds_toArray, List.set_cons_zero, List.set_cons_succ]
          refine take_at (i := 31) (v := (.bool true)) (some 43) rfl rfl (by kernel_rfl) (by kernel_rfl) (by kernel_rfl) (fun _ _ _ h => h) (Or.inl ⟨by rfl, fun W hW => ?_⟩) (HSF.out _ HBa.out) ?_
          · go_simp
          simp only [Act.put, List.setIfInBounds_toArray, List.set_cons_zero, List.set_cons_succ]
          refine wpAnyH_done (by kernel_rfl) ?_ _
          clear hHeld HSF HWL HWC HTC HFU y1 y2 y3
          go_wp2_with fail
          go_meet
          exact ⟨st1, _, T1, O1, F1, m1, HST.out, fun _ => (.inl (by rw [HCS.out, HFC.out, q1]; rfl)), HOK.out, hmf, hm1, HBa.out, HKa.out⟩
        · have q1 := decide_eq_false h1
          clear h1
          cases fu
          · as_aux_lemma =>
              refine wp_region_HL 32 #[false, false, false, false, false, false, false, false, false, false, false, false, false, false, false, false, false, false, false, false, false, false, false, false, false, false, false, false, false, false, false, false] (by kernel_rfl) (by kernel_rfl) (S := fun Z => Z.cell? ⟨b, 8, none⟩ = some (.slice AL st1.line.length cL) ∧ Z.cell? ⟨b, 6, none⟩ = some (.int .i64 st1.left) ∧ Z.cell? ⟨b, 7, none⟩ = some (.int .i64 st1.right) ∧ Z.cell? ⟨b, 9, none⟩ = some (.bool true)) (by kernel_rfl) (HSF.out _ HBa.out) (fun hHeld => ?_)
              generalize w1.drew = wa at *
              refine take_at (i := 0) (v := (Value.pointer (some ⟨b, 0, none⟩))) (some 12) rfl rfl (by kernel_rfl) (by kernel_rfl) (by kernel_rfl) (fun _ _ _ h => h) (yieldsIf_move (by rfl) _ rfl _ rfl) hHeld ?_
              simp only [Act.put, List.setIfInBounds_toArray, List.set_cons_zero, List.set_cons_succ]
              refine take_at (i := 1) (v := (Value.pointer (some ⟨b, 0, none⟩))) (some 13) rfl rfl (by kernel_rfl) (by kernel_rfl) (by kernel_rfl) (fun _ _ _ h => h) (yieldsIf_nil (by rfl) _ rfl _ rfl) hHeld ?_
              simp only [Act.put, List.setIfInBounds_toArray, List.set_cons_zero, List.set_cons_succ]
              refine take_at (i := 2) (v := (Value.pointer (some ⟨b, 8, none⟩))) (some 14) rfl rfl (by kernel_rfl) (by kernel_rfl) (by kernel_rfl) (fun _ _ _ h => h) (yieldsIf_faddr (by rfl) 81 _ 8 rfl _ _ 8 rfl (by kernel_rfl)) hHeld ?_
              simp only [Act.put, List.setIfInBounds_toArray, List.set_cons_zero, List.set_cons_succ]
              refine take_at (i := 3) (v := (.slice AL st1.line.length cL)) (some 15) rfl rfl (by kernel_rfl) (by kernel_rfl) (by kernel_rfl) (fun _ _ _ h => h) (yieldsIf_load1 (by rfl) 79 _ rfl _ _ _ rfl (by kernel_rfl) (fun _ h => h.1)) hHeld ?_
              simp only [Act.put, List.setIfInBounds_toArray, List.set_cons_zero, List.set_cons_succ]
              refine take_at (i := 5) (v := (.slice Ac cs.length cc)) (some 17) rfl rfl (by kernel_rfl) (by kernel_rfl) (by kernel_rfl) (fun _ _ _ h => h) (yieldsIf_move (by rfl) _ rfl _ rfl) hHeld ?_
              simp only [Act.put, List.setIfInBounds_toArray, List.set_cons_zero, List.set_cons_succ]
              refine take_at (i := 8) (v := (.slice Ac cs.length cc)) (some 20) rfl rfl (by kernel_rfl) (by kernel_rfl) (by kernel_rfl) (fun _ _ _ h => h) (yieldsIf_move (by rfl) _ rfl _ rfl) hHeld ?_
              simp only [Act.put, List.setIfInBounds_toArray, List.set_cons_zero, List.set_cons_succ]
              refine take_at (i := 11) (v := (Value.pointer (some ⟨b, 0, none⟩))) (some 23) rfl rfl (by kernel_rfl) (by kernel_rfl) (by kernel_rfl) (fun _ _ _ h => h) (yieldsIf_move (by rfl) _ rfl _ rfl) hHeld ?_
              simp only [Act.put, List.setIfInBounds_toArray, List.set_cons_zero, List.set_cons_succ]
              refine take_at (i := 12) (v := (Value.pointer (some ⟨b, 0, none⟩))) (some 24) rfl rfl (by kernel_rfl) (by kernel_rfl) (by kernel_rfl) (fun _ _ _ h => h) (yieldsIf_nil (by rfl) _ rfl _ rfl) hHeld ?_
              simp only [Act.put, List.setIfInBounds_toArray, List.set_cons_zero, List.set_cons_succ]
              refine take_at (i := 13) (v := (Value.pointer (some ⟨b, 7, none⟩))) (some 25) rfl rfl (by kernel_rfl) (by kernel_rfl) (by kernel_rfl) (fun _ _ _ h => h) (yieldsIf_faddr (by rfl) 81 _ 7 rfl _ _ 7 rfl (by kernel_rfl)) hHeld ?_
              simp only [Act.put, List.setIfInBounds_toArray, List.set_cons_zero, List.set_cons_succ]
              refine take_at (i := 14) (v := (.int .i64 st1.right)) (some 26) rfl rfl (by kernel_rfl) (by kernel_rfl) (by kernel_rfl) (fun _ _ _ h => h) (yieldsIf_load1 (by rfl) 3 _ rfl _ _ _ rfl (by kernel_rfl) (fun _ h => h.2.2.1)) hHeld ?_
              simp only [Act.put, List.setIfInBounds_toArray, List.set_cons_zero, List.set_cons_succ]
              refine take_at (i := 15) (v := (Value.pointer (some ⟨b, 0, none⟩))) (some 27) rfl rfl (by kernel_rfl) (by kernel_rfl) (by kernel_rfl) (fun _ _ _ h => h) (yieldsIf_move (by rfl) _ rfl _ rfl) hHeld ?_
              simp only [Act.put, List.setIfInBounds_toArray, List.set_cons_zero, List.set_cons_succ]
              refine take_at (i := 16) (v := (Value.pointer (some ⟨b, 0, none⟩))) (some 28) rfl rfl (by kernel_rfl) (by kernel_rfl) (by kernel_rfl) (fun _ _ _ h => h) (yieldsIf_nil (by rfl) _ rfl _ rfl) hHeld ?_
              simp only [Act.put, List.setIfInBounds_toArray, List.set_cons_zero, List.set_cons_succ]
              refine take_at (i := 17) (v := (Value.pointer (some ⟨b, 6, none⟩))) (some 29) rfl rfl (by kernel_rfl) (by kernel_rfl) (by kernel_rfl) (fun _ _ _ h => h) (yieldsIf_faddr (by rfl) 81 _ 6 rfl _ _ 6 rfl (by kernel_rfl)) hHeld ?_
              simp only [Act.put, List.setIfInBounds_toArray, List.set_cons_zero, List.set_cons_succ]
              refine take_at (i := 18) (v := (.int .i64 st1.left)) (some 30) rfl rfl (by kernel_rfl) (by kernel_rfl) (by kernel_rfl) (fun _ _ _ h => h) (yieldsIf_load1 (by rfl) 3 _ rfl _ _ _ rfl (by kernel_rfl) (fun _ h => h.2.1)) hHeld ?_
              simp only [Act.put, List.setIfInBounds_toArray, List.set_cons_zero, List.set_cons_succ]
              refine take_at (i := 19) (v := (.int .i64 (st1.right - st1.left))) (some 31) rfl rfl (by kernel_rfl) (by kernel_rfl) (by kernel_rfl) (fun _ _ _ h => h) (Or.inl ⟨by rfl, fun W hW => ?_⟩) hHeld ?_
              · go_simp
              simp only [Act.put, List.setIfInBounds_toArray, List.set_cons_zero, List.set_cons_succ]
              refine callH (j := 4) (by kernel_rfl) rfl rfl (some 16) rfl 45 #[.slice AL st1.line.length cL] (run_enter Tryd.func45 (by kernel_rfl) (by kernel_rfl) _ _ rfl #[.slice AL st1.line.length cL] (by kernel_rfl) _) (HWL.out _ HPLa.out) ?_
              rintro e5 w5 ⟨rfl, hb5⟩
              have hk5 := Kept.of_below hb5 HBa.out.kk
              replace HKa := hide (HKa.out.trans hk5)
              replace HBa := hide (HBa.out.below hb5)
              replace HPLa := hide (HPLa.out.below hb5)
              replace HPCa := hide (HPCa.out.below hb5)
              replace HIa := hide (HIa.out.below hb5)
              clear hb5 hk5
              refine ⟨_, rfl, HSF.out _ HBa.out, ?_⟩
              simp only [Act.put, List.setIfInBounds_toArray, List.set_cons_zero, List.set_cons_succ]
              refine callH (j := 6) (by kernel_rfl) rfl rfl (some 18) rfl 45 #[.slice Ac cs.length cc] (run_enter Tryd.func45 (by kernel_rfl) (by kernel_rfl) _ _ rfl #[.slice Ac cs.length cc] (by kernel_rfl) _) (HWC.out _ HPCa.out) ?_
              rintro e5 w5 ⟨rfl, hb5⟩
              have hk5 := Kept.of_below hb5 HBa.out.kk
              replace HKa := hide (HKa.out.trans hk5)
              replace HBa := hide (HBa.out.below hb5)
              replace HPLa := hide (HPLa.out.below hb5)
              replace HPCa := hide (HPCa.out.below hb5)
              replace HIa := hide (HIa.out.below hb5)
              clear hb5 hk5
              refine ⟨_, rfl, HSF.out _ HBa.out, ?_⟩
              simp only [Act.put, List.setIfInBounds_toArray, List.set_cons_zero, List.set_cons_succ]
              refine take_at (i := 7) (v := (.int .i64 (wl + wc))) (some 19) rfl rfl (by kernel_rfl) (by kernel_rfl) (by kernel_rfl) (fun _ _ _ h => h) (Or.inl ⟨by rfl, fun W hW => ?_⟩) (HSF.out _ HBa.out) ?_
              · go_simp
              simp only [Act.put, List.setIfInBounds_toArray, List.set_cons_zero, List.set_cons_succ]
              refine callH (j := 9) (by kernel_rfl) rfl rfl (some 21) rfl 46 #[.slice Ac cs.length cc] (run_enter Tryd.func46 (by kernel_rfl) (by kernel_rfl) _ _ rfl #[.slice Ac cs.length cc] (by kernel_rfl) _) (HTC.out _ HIa.out HPCa.out) ?_
              rintro e5 w5 ⟨rfl, hb5⟩
              have hk5 := Kept.of_below hb5 HBa.out.kk
              replace HKa := hide (HKa.out.trans hk5)
              replace HBa := hide (HBa.out.below hb5)
              replace HPLa := hide (HPLa.out.below hb5)
              replace HPCa := hide (HPCa.out.below hb5)
              replace HIa := hide (HIa.out.below hb5)
              clear hb5 hk5
              refine ⟨_, rfl, HSF.out _ HBa.out, ?_⟩
              simp only [Act.put, List.setIfInBounds_toArray, List.set_cons_zero, List.set_cons_succ]
              refine take_at (i := 10) (v := (.int .i64 (wl + wc - tl))) (some 22) rfl rfl (by kernel_rfl) (by kernel_rfl) (by kernel_rfl) (fun _ _ _ h => h) (Or.inl ⟨by rfl, fun W hW => ?_⟩) (HSF.out _ HBa.out) ?_
              · go_simp
              simp only [Act.put, List.setIfInBounds_toArray, List.set_cons_zero, List.set_cons_succ]
              refine take_at (i := 20) (v := (.bool false)) (some 32) rfl rfl (by kernel_rfl) (by kernel_rfl) (by kernel_rfl) (fun _ _ _ h => h) (Or.inl ⟨by rfl, fun W hW => ?_⟩) (HSF.out _ HBa.out) ?_
              · go_simp
              simp only [Act.put, List.setIfInBounds_toArray, List.set_cons_zero, List.set_cons_succ]
              refine take_at (i := 21) (v := (.bool false)) (some 33) rfl rfl (by kernel_rfl) (by kernel_rfl) (by kernel_rfl) (fun _ _ _ h => h) (yieldsIf_move (by rfl) _ rfl _ rfl) (HSF.out _ HBa.out) ?_
              simp only [Act.put, List.setIfInBounds_toArray, List.set_cons_zero, List.set_cons_succ]
              refine take_at (i := 22) (v := (.slice Ac cs.length cc)) (some 34) rfl rfl (by kernel_rfl) (by kernel_rfl) (by kernel_rfl) (fun _ _ _ h => h) (yieldsIf_move (by kernel_rfl) _ rfl _ rfl) (HSF.out _ HBa.out) ?_
              simp only [Act.put, List.setIfInBounds_toArray, List.set_cons_zero, List.set_cons_succ]
              refine callHw (j := 23) (by kernel_rfl) rfl (by kernel_rfl) (some 35) rfl 47 #[.slice Ac cs.length cc] (run_enter Tryd.func47 (by kernel_rfl) (by kernel_rfl) _ _ rfl #[.slice Ac cs.length cc] (by kernel_rfl) _) (HFU.out _ HIa.out HPCa.out) ?_
              rintro e5 w5 ⟨rfl, hb5⟩
              have hk5 := Kept.of_below hb5 HBa.out.kk
              replace HKa := hide (HKa.out.trans hk5)
              replace HBa := hide (HBa.out.below hb5)
              replace HPLa := hide (HPLa.out.below hb5)
              replace HPCa := hide (HPCa.out.below hb5)
              replace HIa := hide (HIa.out.below hb5)
              clear hb5 hk5
              refine ⟨_, rfl, HSF.out _ HBa.out, ?_⟩
              simp only [Act.put, List.setIfInBounds_toArray, List.set_cons_zero, List.set_cons_succ]
              refine take_at (i := 24) (v := (.bool true)) (some 36) rfl rfl (by kernel_rfl) (by kernel_rfl) (by kernel_rfl) (fun _ _ _ h => h) (Or.inl ⟨by kernel_rfl, fun W hW => ?_⟩) (HSF.out _ HBa.out) ?_
              · go_simp
              simp only [Act.put, List.setIfInBounds_toArray, List.set_cons_zero, List.set_cons_succ]
              refine take_at (i := 25) (v := (.bool true)) (some 37) rfl rfl (by kernel_rfl) (by kernel_rfl) (by kernel_rfl) (fun _ _ _ h => h) (yieldsIf_move (by kernel_rfl) _ rfl _ rfl) (HSF.out _ HBa.out) ?_
              simp only [Act.put, List.setIfInBounds_toArray, List.set_cons_zero, List.set_cons_succ]
              refine take_at (i := 26) (v := (Value.pointer (some ⟨b, 0, none⟩))) (some 38) rfl rfl (by kernel_rfl) (by kernel_rfl) (by kernel_rfl) (fun _ _ _ h => h) (yieldsIf_move (by kernel_rfl) _ rfl _ rfl) (HSF.out _ HBa.out) ?_
              simp only [Act.put, List.setIfInBounds_toArray, List.set_cons_zero, List.set_cons_succ]
              refine take_at (i := 27) (v := (Value.pointer (some ⟨b, 0, none⟩))) (some 39) rfl rfl (by kernel_rfl) (by kernel_rfl) (by kernel_rfl) (fun _ _ _ h => h) (yieldsIf_nil (by kernel_rfl) _ rfl _ rfl) (HSF.out _ HBa.out) ?_
              simp only [Act.put, List.setIfInBounds_toArray, List.set_cons_zero, List.set_cons_succ]
              refine take_at (i := 28) (v := (Value.pointer (some ⟨b, 9, none⟩))) (some 40) rfl rfl (by kernel_rfl) (by kernel_rfl) (by kernel_rfl) (fun _ _ _ h => h) (yieldsIf_faddr (by kernel_rfl) 81 _ 9 rfl _ _ 9 rfl (by kernel_rfl)) (HSF.out _ HBa.out) ?_
              simp only [Act.put, List.setIfInBounds_toArray, List.set_cons_zero, List.set_cons_succ]
              refine take_at (i := 29) (v := (.bool true)) (some 41) rfl rfl (by kernel_rfl) (by kernel_rfl) (by kernel_rfl) (fun _ _ _ h => h) (yieldsIf_load1 (by kernel_rfl) 4 _ rfl _ _ _ rfl (by kernel_rfl) (fun _ h => h.2.2.2)) (HSF.out _ HBa.out) ?_
              simp only [Act.put, List.setIfInBounds_toArray, List.set_cons_zero, List.set_cons_succ]
              refine take_at (i := 30) (v := (.bool true)) (some 42) rfl rfl (by kernel_rfl) (by kernel_rfl) (by kernel_rfl) (fun _ _ _ h => h) (Or.inl ⟨by kernel_rfl, fun W hW => ?_⟩) (HSF.out _ HBa.out) ?_
              · go_simp
              simp only [Act.put, List.setIfInBounds_toArray, List.set_cons_zero, List.set_cons_succ]
              refine take_at (i := 31) (v := (.bool true)) (some 43) rfl rfl (by kernel_rfl) (by kernel_rfl) (by kernel_rfl) (fun _ _ _ h => h) (Or.inl ⟨by rfl, fun W hW => ?_⟩) (HSF.out _ HBa.out) ?_
              · go_simp
              simp only [Act.put, List.setIfInBounds_toArray, List.set_cons_zero, List.set_cons_succ]
              refine wpAnyH_done (by kernel_rfl) ?_ _
              clear hHeld HSF HWL HWC HTC HFU y1 y2 y3
              go_wp2_with fail
              go_meet
              exact ⟨st1, _, T1, O1, F1, m1, HST.out, fun _ => (.inl (by rw [HCS.out, HFC.out, q1]; rfl)), HOK.out, hmf, hm1, HBa.out, HKa.out⟩
          · as_aux_lemma =>
              refine wp_region_HL 32 #[false, false, false, false, false, false, false, false, false, false, false, false, false, false, false, false, false, false, false, false, false, false, false, false, false, false, false, false, false, false, false, false] (by kernel_rfl) (by kernel_rfl) (S := fun Z => Z.cell? ⟨b, 8, none⟩ = some (.slice AL st1.line.length cL) ∧ Z.cell? ⟨b, 6, none⟩ = some (.int .i64 st1.left) ∧ Z.cell? ⟨b, 7, none⟩ = some (.int .i64 st1.right) ∧ Z.cell? ⟨b, 9, none⟩ = some (.bool true)) (by kernel_rfl) (HSF.out _ HBa.out) (fun hHeld => ?_)
              generalize w1.drew = wa at *
              refine take_at (i := 0) (v := (Value.pointer (some ⟨b, 0, none⟩))) (some 12) rfl rfl (by kernel_rfl) (by kernel_rfl) (by kernel_rfl) (fun _ _ _ h => h) (yieldsIf_move (by rfl) _ rfl _ rfl) hHeld ?_
              simp only [Act.put, List.setIfInBounds_toArray, List.set_cons_zero, List.set_cons_succ]
              refine take_at (i := 1) (v := (Value.pointer (some ⟨b, 0, none⟩))) (some 13) rfl rfl (by kernel_rfl) (by kernel_rfl) (by kernel_rfl) (fun _ _ _ h => h) (yieldsIf_nil (by rfl) _ rfl _ rfl) hHeld ?_
              simp only [Act.put, List.setIfInBounds_toArray, List.set_cons_zero, List.set_cons_succ]
              refine take_at (i := 2) (v := (Value.pointer (some ⟨b, 8, none⟩))) (some 14) rfl rfl (by kernel_rfl) (by kernel_rfl) (by kernel_rfl) (fun _ _ _ h => h) (yieldsIf_faddr (by rfl) 81 _ 8 rfl _ _ 8 rfl (by kernel_rfl)) hHeld ?_
              simp only [Act.put, List.setIfInBounds_toArray, List.set_cons_zero, List.set_cons_succ]
              refine take_at (i := 3) (v := (.slice AL st1.line.length cL)) (some 15) rfl rfl (by kernel_rfl) (by kernel_rfl) (by kernel_rfl) (fun _ _ _ h => h) (yieldsIf_load1 (by rfl) 79 _ rfl _ _ _ rfl (by kernel_rfl) (fun _ h => h.1)) hHeld ?_
              simp only [Act.put, List.setIfInBounds_toArray, List.set_cons_zero, List.set_cons_succ]
              refine take_at (i := 5) (v := (.slice Ac cs.length cc)) (some 17) rfl rfl (by kernel_rfl) (by kernel_rfl) (by kernel_rfl) (fun _ _ _ h => h) (yieldsIf_move (by rfl) _ rfl _ rfl) hHeld ?_
              simp only [Act.put, List.setIfInBounds_toArray, List.set_cons_zero, List.set_cons_succ]
              refine take_at (i := 8) (v := (.slice Ac cs.length cc)) (some 20) rfl rfl (by kernel_rfl) (by kernel_rfl) (by kernel_rfl) (fun _ _ _ h => h) (yieldsIf_move (by rfl) _ rfl _ rfl) hHeld ?_
              simp only [Act.put, List.setIfInBounds_toArray, List.set_cons_zero, List.set_cons_succ]
              refine take_at (i := 11) (v := (Value.pointer (some ⟨b, 0, none⟩))) (some 23) rfl rfl (by kernel_rfl) (by kernel_rfl) (by kernel_rfl) (fun _ _ _ h => h) (yieldsIf_move (by rfl) _ rfl _ rfl) hHeld ?_
              simp only [Act.put, List.setIfInBounds_toArray, List.set_cons_zero, List.set_cons_succ]
              refine take_at (i := 12) (v := (Value.pointer (some ⟨b, 0, none⟩))) (some 24) rfl rfl (by kernel_rfl) (by kernel_rfl) (by kernel_rfl) (fun _ _ _ h => h) (yieldsIf_nil (by rfl) _ rfl _ rfl) hHeld ?_
              simp only [Act.put, List.setIfInBounds_toArray, List.set_cons_zero, List.set_cons_succ]
              refine take_at (i := 13) (v := (Value.pointer (some ⟨b, 7, none⟩))) (some 25) rfl rfl (by kernel_rfl) (by kernel_rfl) (by kernel_rfl) (fun _ _ _ h => h) (yieldsIf_faddr (by rfl) 81 _ 7 rfl _ _ 7 rfl (by kernel_rfl)) hHeld ?_
              simp only [Act.put, List.setIfInBounds_toArray, List.set_cons_zero, List.set_cons_succ]
              refine take_at (i := 14) (v := (.int .i64 st1.right)) (some 26) rfl rfl (by kernel_rfl) (by kernel_rfl) (by kernel_rfl) (fun _ _ _ h => h) (yieldsIf_load1 (by rfl) 3 _ rfl _ _ _ rfl (by kernel_rfl) (fun _ h => h.2.2.1)) hHeld ?_
              simp only [Act.put, List.setIfInBounds_toArray, List.set_cons_zero, List.set_cons_succ]
              refine take_at (i := 15) (v := (Value.pointer (some ⟨b, 0, none⟩))) (some 27) rfl rfl (by kernel_rfl) (by kernel_rfl) (by kernel_rfl) (fun _ _ _ h => h) (yieldsIf_move (by rfl) _ rfl _ rfl) hHeld ?_
              simp only [Act.put, List.setIfInBounds_toArray, List.set_cons_zero, List.set_cons_succ]
              refine take_at (i := 16) (v := (Value.pointer (some ⟨b, 0, none⟩))) (some 28) rfl rfl (by kernel_rfl) (by kernel_rfl) (by kernel_rfl) (fun _ _ _ h => h) (yieldsIf_nil (by rfl) _ rfl _ rfl) hHeld ?_
              simp only [Act.put, List.setIfInBounds_toArray, List.set_cons_zero, List.set_cons_succ]
              refine take_at (i := 17) (v := (Value.pointer (some ⟨b, 6, none⟩))) (some 29) rfl rfl (by kernel_rfl) (by kernel_rfl) (by kernel_rfl) (fun _ _ _ h => h) (yieldsIf_faddr (by rfl) 81 _ 6 rfl _ _ 6 rfl (by kernel_rfl)) hHeld ?_
              simp only [Act.put, List.setIfInBounds_toArray, List.set_cons_zero, List.set_cons_succ]
              refine take_at (i := 18) (v := (.int .i64 st1.left)) (some 30) rfl rfl (by kernel_rfl) (by kernel_rfl) (by kernel_rfl) (fun _ _ _ h => h) (yieldsIf_load1 (by rfl) 3 _ rfl _ _ _ rfl (by kernel_rfl) (fun _ h => h.2.1)) hHeld ?_
              simp only [Act.put, List.setIfInBounds_toArray, List.set_cons_zero, List.set_cons_succ]
              refine take_at (i := 19) (v := (.int .i64 (st1.right - st1.left))) (some 31) rfl rfl (by kernel_rfl) (by kernel_rfl) (by kernel_rfl) (fun _ _ _ h => h) (Or.inl ⟨by rfl, fun W hW => ?_⟩) hHeld ?_
              · go_simp
              simp only [Act.put, List.setIfInBounds_toArray, List.set_cons_zero, List.set_cons_succ]
              refine callH (j := 4) (by kernel_rfl) rfl rfl (some 16) rfl 45 #[.slice AL st1.line.length cL] (run_enter Tryd.func45 (by kernel_rfl) (by kernel_rfl) _ _ rfl #[.slice AL st1.line.length cL] (by kernel_rfl) _) (HWL.out _ HPLa.out) ?_
              rintro e5 w5 ⟨rfl, hb5⟩
              have hk5 := Kept.of_below hb5 HBa.out.kk
              replace HKa := hide (HKa.out.trans hk5)
              replace HBa := hide (HBa.out.below hb5)
              replace HPLa := hide (HPLa.out.below hb5)
              replace HPCa := hide (HPCa.out.below hb5)
              replace HIa := hide (HIa.out.below hb5)
              clear hb5 hk5
              refine ⟨_, rfl, HSF.out _ HBa.out, ?_⟩
              simp only [Act.put, List.setIfInBounds_toArray, List.set_cons_zero, List.set_cons_succ]
              refine callH (j := 6) (by kernel_rfl) rfl rfl (some 18) rfl 45 #[.slice Ac cs.length cc] (run_enter Tryd.func45 (by kernel_rfl) (by kernel_rfl) _ _ rfl #[.slice Ac cs.length cc] (by kernel_rfl) _) (HWC.out _ HPCa.out) ?_
              rintro e5 w5 ⟨rfl, hb5⟩
              have hk5 := Kept.of_below hb5 HBa.out.kk
              replace HKa := hide (HKa.out.trans hk5)
              replace HBa := hide (HBa.out.below hb5)
              replace HPLa := hide (HPLa.out.below hb5)
              replace HPCa := hide (HPCa.out.below hb5)
              replace HIa := hide (HIa.out.below hb5)
              clear hb5 hk5
              refine ⟨_, rfl, HSF.out _ HBa.out, ?_⟩
              simp only [Act.put, List.setIfInBounds_toArray, List.set_cons_zero, List.set_cons_succ]
              refine take_at (i := 7) (v := (.int .i64 (wl + wc))) (some 19) rfl rfl (by kernel_rfl) (by kernel_rfl) (by kernel_rfl) (fun _ _ _ h => h) (Or.inl ⟨by rfl, fun W hW => ?_⟩) (HSF.out _ HBa.out) ?_
              · go_simp
              simp only [Act.put, List.setIfInBounds_toArray, List.set_cons_zero, List.set_cons_succ]
              refine callH (j := 9) (by kernel_rfl) rfl rfl (some 21) rfl 46 #[.slice Ac cs.length cc] (run_enter Tryd.func46 (by kernel_rfl) (by kernel_rfl) _ _ rfl #[.slice Ac cs.length cc] (by kernel_rfl) _) (HTC.out _ HIa.out HPCa.out) ?_
              rintro e5 w5 ⟨rfl, hb5⟩
              have hk5 := Kept.of_below hb5 HBa.out.kk
              replace HKa := hide (HKa.out.trans hk5)
              replace HBa := hide (HBa.out.below hb5)
              replace HPLa := hide (HPLa.out.below hb5)
              replace HPCa := hide (HPCa.out.below hb5)
              replace HIa := hide (HIa.out.below hb5)
              clear hb5 hk5
              refine ⟨_, rfl, HSF.out _ HBa.out, ?_⟩
              simp only [Act.put, List.setIfInBounds_toArray, List.set_cons_zero, List.set_cons_succ]
              refine take_at (i := 10) (v := (.int .i64 (wl + wc - tl))) (some 22) rfl rfl (by kernel_rfl) (by kernel_rfl) (by kernel_rfl) (fun _ _ _ h => h) (Or.inl ⟨by rfl, fun W hW => ?_⟩) (HSF.out _ HBa.out) ?_
              · go_simp
              simp only [Act.put, List.setIfInBounds_toArray, List.set_cons_zero, List.set_cons_succ]
              refine take_at (i := 20) (v := (.bool false)) (some 32) rfl rfl (by kernel_rfl) (by kernel_rfl) (by kernel_rfl) (fun _ _ _ h => h) (Or.inl ⟨by rfl, fun W hW => ?_⟩) (HSF.out _ HBa.out) ?_
              · go_simp
              simp only [Act.put, List.setIfInBounds_toArray, List.set_cons_zero, List.set_cons_succ]
              refine take_at (i := 21) (v := (.bool false)) (some 33) rfl rfl (by kernel_rfl) (by kernel_rfl) (by kernel_rfl) (fun _ _ _ h => h) (yieldsIf_move (by rfl) _ rfl _ rfl) (HSF.out _ HBa.out) ?_
              simp only [Act.put, List.setIfInBounds_toArray, List.set_cons_zero, List.set_cons_succ]
              refine take_at (i := 22) (v := (.slice Ac cs.length cc)) (some 34) rfl rfl (by kernel_rfl) (by kernel_rfl) (by kernel_rfl) (fun _ _ _ h => h) (yieldsIf_move (by kernel_rfl) _ rfl _ rfl) (HSF.out _ HBa.out) ?_
              simp only [Act.put, List.setIfInBounds_toArray, List.set_cons_zero, List.set_cons_succ]
              refine callHw (j := 23) (by kernel_rfl) rfl (by kernel_rfl) (some 35) rfl 47 #[.slice Ac cs.length cc] (run_enter Tryd.func47 (by kernel_rfl) (by kernel_rfl) _ _ rfl #[.slice Ac cs.length cc] (by kernel_rfl) _) (HFU.out _ HIa.out HPCa.out) ?_
              rintro e5 w5 ⟨rfl, hb5⟩
              have hk5 := Kept.of_below hb5 HBa.out.kk
              replace HKa := hide (HKa.out.trans hk5)
              replace HBa := hide (HBa.out.below hb5)
              replace HPLa := hide (HPLa.out.below hb5)
              replace HPCa := hide (HPCa.out.below hb5)
              replace HIa := hide (HIa.out.below hb5)
              clear hb5 hk5
              refine ⟨_, rfl, HSF.out _ HBa.out, ?_⟩
              simp only [Act.put, List.setIfInBounds_toArray, List.set_cons_zero, List.set_cons_succ]
              refine take_at (i := 24) (v := (.bool false)) (some 36) rfl rfl (by kernel_rfl) (by kernel_rfl) (by kernel_rfl) (fun _ _ _ h => h) (Or.inl ⟨by kernel_rfl, fun W hW => ?_⟩) (HSF.out _ HBa.out) ?_
              · go_simp
              simp only [Act.put, List.setIfInBounds_toArray, List.set_cons_zero, List.set_cons_succ]
              refine take_at (i := 25) (v := (.bool false)) (some 37) rfl rfl (by kernel_rfl) (by kernel_rfl) (by kernel_rfl) (fun _ _ _ h => h) (yieldsIf_move (by kernel_rfl) _ rfl _ rfl) (HSF.out _ HBa.out) ?_
              simp only [Act.put, List.setIfInBounds_toArray, List.set_cons_zero, List.set_cons_succ]
              refine skipH (i := 26) (some 38) rfl rfl (by kernel_rfl) (by kernel_rfl) (by kernel_rfl) (fun _ _ _ h => h) (by kernel_rfl) (HSF.out _ HBa.out) ?_
              simp only [Act.put, List.setIfInBounds_toArray, List.set_cons_zero, List.set_cons_succ]
              refine skipH (i := 27) (some 39) rfl rfl (by kernel_rfl) (by kernel_rfl) (by kernel_rfl) (fun _ _ _ h => h) (by kernel_rfl) (HSF.out _ HBa.out) ?_
              simp only [Act.put, List.setIfInBounds_toArray, List.set_cons_zero, List.set_cons_succ]
              refine skipH (i := 28) (some 40) rfl rfl (by kernel_rfl) (by kernel_rfl) (by kernel_rfl) (fun _ _ _ h => h) (by kernel_rfl) (HSF.out _ HBa.out) ?_
              simp only [Act.put, List.setIfInBounds_toArray, List.set_cons_zero, List.set_cons_succ]
              refine skipH (i := 29) (some 41) rfl rfl (by kernel_rfl) (by kernel_rfl) (by kernel_rfl) (fun _ _ _ h => h) (by kernel_rfl) (HSF.out _ HBa.out) ?_
              simp only [Act.put, List.setIfInBounds_toArray, List.set_cons_zero, List.set_cons_succ]
              refine take_at (i := 30) (v := (.bool false)) (some 42) rfl rfl (by kernel_rfl) (by kernel_rfl) (by kernel_rfl) (fun _ _ _ h => h) (Or.inl ⟨by kernel_rfl, fun W hW => ?_⟩) (HSF.out _ HBa.out) ?_
              · go_simp
              simp only [Act.put, List.setIfInBounds_toArray, List.set_cons_zero, List.set_cons_succ]
              refine take_at (i := 31) (v := (.bool false)) (some 43) rfl rfl (by kernel_rfl) (by kernel_rfl) (by kernel_rfl) (fun _ _ _ h => h) (Or.inl ⟨by rfl, fun W hW => ?_⟩) (HSF.out _ HBa.out) ?_
              · go_simp
              simp only [Act.put, List.setIfInBounds_toArray, List.set_cons_zero, List.set_cons_succ]
              refine wpAnyH_done (by kernel_rfl) ?_ _
              clear hHeld HSF HWL HWC HTC HFU y1 y2 y3
              have hfit : fitsG xs st1 (cleanF xs st1.full gs) = false := by rw [HCS.out]; exact (by rw [HFC.out, q1]; rfl)
              have hm2 : m1 = m := hmf hfl
              have c9 : w5.cell? ⟨b, 9, none⟩ = some (.bool true) := by rw [← hfl]; exact HBa.out.blk.cell 9
              have HEN := hide (endV_any xs g K b fp W sz ht al st1 _ T1 O1 F1 n m1 false w5 ⟨HIa.out, HIR2.out.1, HIR2.out.2⟩ HBa.out HOK.out (by omega) (by omega) hz hh hW)
              clear HPLa HPCa
              go_wp2_with fail
              refine HEN.out.mono ?_
              rintro e w6 ⟨rfl, st2, O2, F2, he2, hok2, hb2, hk2⟩
              have HB2 := hide hb2
              have hp : Hid (PutAt xs sz ht al W gs st n m K b fp g w w6 false) := ⟨st2, _, _, O2, F2, m1 + 1, HST.out.snoc ⟨hfit, .inl ⟨hfl, he2⟩⟩, (fun h => by cases h), hok2, (fun h => by rw [(end_full he2).1] at h; cases h), by omega, hb2, HKa.out.trans hk2⟩
              have hy2 := end_y HIR2.out.2 hh he2
              have hf2 := (end_full he2).1
              have hme := brMeas_of hb2
              rw [hf2] at hme
              have hms := HMS.out
              rw [hfl] at hms
              have HP := hide hp
              have HME := hide (show brMeas b w6 < brMeas b wr from by rw [hme, hms]; simp only [if_true, Bool.false_eq_true, if_false]; omega)
              clear HEN hb2 hk2 hok2 he2 hfit hme hms hp HMS
              go_wp2_with fail
              go_roundw
              case rel => exact HP.out
              case measure => exact HME.out
  case rest => as_aux_lemma =>
    clear H0
    obtain ⟨st1, L1, T1, O1, F1, m1, hst, hdone, hok, hmf, hm1, hbr, hkp⟩ := hcut.out
    have HST := hide hst
    have HDN := hide (hdone rfl)
    have HOK := hide hok
    have HBR := hide hbr
    have HKP := hide hkp
    have HIR := hide (HI.out.kept hkp)
    have HGR := hide (HG.out.kept hkp)
    have HCL := hide (clean_any xs g gs A0 c0 b st1.full wc HIR.out.its HGR.out.reads (by omega) HGO.out hbr.blk.lt (hbr.blk.cell 9))
    clear hcut hst hok hbr hkp hdone HI HG
    go_wp2_with fail
    refine HCL.out.mono ?_
    clear HCL
    rintro e w1 ⟨v1, rfl, own1, hb1⟩
    obtain ⟨Ac, cc, rfl, hcc, _⟩ := own_reads own1
    have HCO := hide (psOk_clean HGO.out st1.full)
    have hcl := cleanF_len xs st1.full gs
    have HPU := hide (fun (s2 st' : BG) (e3 : addFl xs ht W st1 (cleanF xs st1.full gs) s2) (e4 : (lastMust xs (cleanF xs st1.full gs) = true ∧ EndR xs sz ht al W true (addLn xs s2 (cleanF xs st1.full gs)) st') ∨ (lastMust xs (cleanF xs st1.full gs) = false ∧ st' = addLn xs s2 (cleanF xs st1.full gs))) => (⟨st1, s2, HST.out, HDN.out, e3, e4⟩ : PutR xs sz ht al W st gs st'))
    generalize cleanF xs st1.full gs = cs at *
    have HB1 := hide (HBR.out.fresh (D := fun k => (Value.slice Ac cs.length cc).ownBlock = some k) hb1 (fun k hk => ⟨own_ge own1 k hk, own_lt own1 k hk⟩))
    have HPC := hide (ptsK_own (K := K) own1 rfl)
    have HK1 := hide (HKP.out.trans (Kept.of_below hb1 HBR.out.kk))
    have HI1 := hide (show ItK w1 (fun k => K k ∨ (Value.slice Ac cs.length cc).ownBlock = some k) g xs from ⟨HIR.out.its.below hb1, fun h0 => .inl (HIR.out.kg h0), HIR.out.ok⟩)
    have hg0 := hb1.size
    clear own1 hb1 HST HDN HBR HKP HIR HGR HGO
    generalize hK' : (fun k => K k ∨ (Value.slice Ac cs.length cc).ownBlock = some k) = K' at *
    have HKK := hide (show ∀ k, K k → K' k from fun k hk => by rw [← hK']; exact .inl hk)
    clear hK'
    go_wp2_with fail
    go_loopw [7, 58, 67, 74] (fun _ i _ _ wr => ∃ (k : Nat) (st2 : BG) (T2 F2 : Value), k ≤ cs.length ∧ i = .int .i64 k ∧ Hid (addFl xs ht W st1 (cs.take k) st2) ∧ Hid (StOk xs st2 (n + k) m1) ∧ Hid (BrV wr K' b fp g W sz ht al st2 L1 T2 O1 F2) ∧ Hid (Kept K' w1 wr)) (fun _ i _ _ _ => cs.length - (intOf i).toNat)
    case atStart => exact ⟨0, st1, T1, F1, Nat.zero_le _, rfl, addFl_nil _ _ _ _, HOK.out, HB1.out, Kept.refl _ _⟩
    case round =>
      obtain ⟨k, st2, T2, F2, hk, rfl, had, hok2, hb2, hk2⟩ := hrel
      by_cases hlt : k < cs.length
      · as_aux_lemma =>
          clear HPU HB1
          obtain ⟨q, off, rfl, hql, hqK, hpt⟩ := (HPC.out.kept hk2.out) (by omega)
          obtain ⟨d0, d1, d2, d3, d4⟩ := hpt.rowO hlt
          have hpo := HCO.out _ (List.getElem_mem hlt)
          rw [← ptAt_of cs k hlt] at hpo
          have HTK := hide (show cs.take (k + 1) = cs.take k ++ [ptAt cs k] from by rw [List.take_succ_eq_append_getElem hlt, ← ptAt_of cs k hlt])
          have HIr := hide (HI1.out.kept hk2.out)
          have HFL := hide (show floatP xs (ptAt cs k) = ((itAt xs (ptAt cs k).i).kind == 5) from rfl)
          generalize ptAt cs k = p at *
          have hbel := (Below.refl wr.heap.size wr).alloc (Nat.le_refl _) (.cells #[.pointer (some ⟨g, p.i * 11, none⟩), .int .i64 p.i, .string p.t, .int .i64 p.w, .bool p.last] 96)
          have HIA := hide (HIr.out.its.below hbel)
          have HBA := hide (hb2.out.below hbel)
          have HKA := hide (hk2.out.trans (Kept.of_below hbel hb2.out.kk))
          have f0 : (wr.alloc (.cells #[.pointer (some ⟨g, p.i * 11, none⟩), .int .i64 p.i, .string p.t, .int .i64 p.w, .bool p.last] 96)).cell? ⟨g, p.i * 11, none⟩ = some (.int .i64 (itAt xs p.i).kind) := HIA.out.1 p.i hpo.1 0 (by omega)
          have HX := hide (Blk.new wr 96 #[.pointer (some ⟨g, p.i * 11, none⟩), .int .i64 p.i, .string p.t, .int .i64 p.w, .bool p.last])
          have HF2 := hide (addFl_full had.out).1
          have HXNE := hide (show T2.ownBlock ≠ some wr.heap.size from fun e => by have := own_lt hb2.out.late _ e; omega)
          have HIK := hide (show (0 < xs.length → K' g) ∧ ∀ k, ItOk (itAt xs k) from ⟨HI1.out.kg, HI1.out.ok⟩)
          clear HI1 HIr hpt hb2 hbel HPC
          generalize hkd : (itAt xs p.i).kind = kd at *
          clear hkd
          cases h5 : (kd == 5)
          · have h5' : (kd != 5) = true := by simp [bne, h5]
            have HA2 := hide (show addFl xs ht W st1 (cs.take (k + 1)) st2 from by rw [HTK.out]; exact addFl_pass had.out (by rw [HFL.out, h5]))
            have HOK2 := hide (hok2.out.more (show n + k ≤ n + (k + 1) by omega) (Nat.le_refl m1))
            clear had hok2 HX h5 HFL HTK
            go_wp2_with fail
            go_roundw
            case rel => exact ⟨k + 1, st2, T2, F2, by omega, by go_num, HA2.out, HOK2.out, HBA.out, HKA.out⟩
            case measure => simp only [intOf]; omega
          · have h5' : (kd != 5) = false := by simp [bne, h5]
            have hfp : floatP xs p = true := by rw [HFL.out, h5]
            cases hfl : st2.full
            · have c9 : (wr.alloc (.cells #[.pointer (some ⟨g, p.i * 11, none⟩), .int .i64 p.i, .string p.t, .int .i64 p.w, .bool p.last] 96)).cell? ⟨b, 9, none⟩ = some (.bool false) := by rw [← hfl]; exact HBA.out.blk.cell 9
              have HFC := hide (bfloat_any xs g p K' b fp W sz ht al st2 L1 T2 O1 F2 _ HIA.out hpo.1 HIK.out.2 HBA.out hok2.out.fs hW)
              have HA2 := hide (fun fs => show addFl xs ht W st1 (cs.take (k + 1)) (endsG ht W { st2 with fs := fs }) from by rw [HTK.out]; exact addFl_put had.out hfp (by rw [← HF2.out]; exact hfl) fs)
              have HOK2 := hide (hok2.out.more (show n + k ≤ n + (k + 1) by omega) (Nat.le_refl m1))
              clear had hok2 h5 HFL HTK HX HIA hfp
              go_wp2_with fail
              refine HFC.out.mono ?_
              rintro e w5 ⟨rfl, fs5, F5, hf5, hb5, hk5⟩
              have HB5 := hide hb5
              have HK5 := hide (HKA.out.trans hk5)
              have HEC := hide (bendsV_any g K' b fp W sz ht al _ L1 T2 O1 F5 w5 hb5 hf5 hW HOK2.out.ind)
              have HO5 := hide (StOk.ends (ht := ht) hW (HOK2.out.fs_ hf5))
              clear hb5 hk5 HFC HBA HKA
              go_wp2_with fail
              refine HEC.out.mono ?_
              rintro e w6 ⟨rfl, hb6, hk6⟩
              have HB6 := hide hb6
              have HK6 := hide (HK5.out.trans hk6)
              clear hb6 hk6 HEC HB5 HK5
              go_wp2_with fail
              go_roundw
              case rel => exact ⟨k + 1, _, T2, F5, by omega, by go_num, HA2.out fs5, HO5.out, HB6.out, HK6.out⟩
              case measure => simp only [intOf]; omega
            · have c9 : (wr.alloc (.cells #[.pointer (some ⟨g, p.i * 11, none⟩), .int .i64 p.i, .string p.t, .int .i64 p.w, .bool p.last] 96)).cell? ⟨b, 9, none⟩ = some (.bool true) := by rw [← hfl]; exact HBA.out.blk.cell 9
              have HA2 := hide (show addFl xs ht W st1 (cs.take (k + 1)) { st2 with late := st2.late ++ [p] } from by rw [HTK.out]; exact addFl_late had.out hfp (by rw [← HF2.out]; exact hfl))
              have HOK2 := hide (hok2.out.late_ hpo)
              have hlt2 := hok2.out.lt
              clear had hok2 h5 HFL HTK HIA hfp
              go_wp2_with fail
              have HBd := hide (HBA.out.below ((Below.refl (wr.alloc (.cells #[.pointer (some ⟨g, p.i * 11, none⟩), .int .i64 p.i, .string p.t, .int .i64 p.w, .bool p.last] 96)).heap.size (wr.alloc (.cells #[.pointer (some ⟨g, p.i * 11, none⟩), .int .i64 p.i, .string p.t, .int .i64 p.w, .bool p.last] 96))).drew))
              have HXd := hide HX.out.drew
              have HKd := hide HKA.out.drew
              clear c9 f0 HBA HX HKA
              refine wp_region_KL (k := 10) 11 #[false, false, false, false, false, false, false, false, false, false, false] (by kernel_rfl) (by kernel_rfl) (S := fun Z => Z.cell? ⟨b, 10, none⟩ = some T2 ∧ Blk Z wr.heap.size 96 #[.pointer (some ⟨g, p.i * 11, none⟩), .int .i64 p.i, .string p.t, .int .i64 p.w, .bool p.last]) (by kernel_rfl) ⟨HBd.out.blk.cell 10, HXd.out⟩ (fun hHeld => ?_)
              generalize (wr.alloc (.cells #[.pointer (some ⟨g, p.i * 11, none⟩), .int .i64 p.i, .string p.t, .int .i64 p.w, .bool p.last] 96)).drew = wD at *
              refine takeK (i := 0) (v := (Value.pointer (some ⟨b, 0, none⟩))) [8, 9, 10] (some 79) rfl rfl rfl (by kernel_rfl) (by kernel_rfl) (by kernel_rfl) (by kernel_rfl) (fun _ _ _ h => h) (by rfl) (yieldsIf_move (by rfl) _ rfl _ rfl) hHeld ?_
              simp only [Act.put, List.setIfInBounds_toArray, List.set_cons_zero, List.set_cons_succ]
              refine takeK (i := 1) (v := (Value.pointer (some ⟨b, 0, none⟩))) [2, 3, 4, 7, 8, 9, 10] (some 80) rfl rfl rfl (by kernel_rfl) (by kernel_rfl) (by kernel_rfl) (by kernel_rfl) (fun _ _ _ h => h) (by rfl) (yieldsIf_move (by rfl) _ rfl _ rfl) hHeld ?_
              simp only [Act.put, List.setIfInBounds_toArray, List.set_cons_zero, List.set_cons_succ]
              refine takeK (i := 2) (v := (Value.pointer (some ⟨b, 0, none⟩))) [3, 4, 7, 8, 9, 10] (some 81) rfl rfl rfl (by kernel_rfl) (by kernel_rfl) (by kernel_rfl) (by kernel_rfl) (fun _ _ _ h => h) (by rfl) (yieldsIf_nil (by rfl) _ rfl _ rfl) hHeld ?_
              simp only [Act.put, List.setIfInBounds_toArray, List.set_cons_zero, List.set_cons_succ]
              refine takeK (i := 3) (v := (Value.pointer (some ⟨b, 10, none⟩))) [4, 7, 8, 9, 10] (some 82) rfl rfl rfl (by kernel_rfl) (by kernel_rfl) (by kernel_rfl) (by kernel_rfl) (fun _ _ _ h => h) (by rfl) (yieldsIf_faddr (by rfl) 81 _ 10 rfl _ _ 10 rfl (by kernel_rfl)) hHeld ?_
              simp only [Act.put, List.setIfInBounds_toArray, List.set_cons_zero, List.set_cons_succ]
              refine takeK (i := 4) (v := (T2)) [7, 8, 9, 10] (some 83) rfl rfl rfl (by kernel_rfl) (by kernel_rfl) (by kernel_rfl) (by kernel_rfl) (fun _ _ _ h => h) (by rfl) (yieldsIf_load1 (by rfl) 78 _ rfl _ _ _ rfl (by kernel_rfl) (fun _ h => h.1)) hHeld ?_
              simp only [Act.put, List.setIfInBounds_toArray, List.set_cons_zero, List.set_cons_succ]
              refine takeK (i := 5) (v := (Value.agg #[.pointer (some ⟨g, p.i * 11, none⟩), .int .i64 p.i, .string p.t, .int .i64 p.w, .bool p.last])) [6, 7, 8, 9, 10] (some 84) rfl rfl rfl (by kernel_rfl) (by kernel_rfl) (by kernel_rfl) (by kernel_rfl) (fun _ _ _ h => h) (by rfl) (yieldsIf_load_blk (by rfl) 96 _ rfl wr.heap.size rfl 96 _ _ (fun _ h => h.2) (by rfl) rfl (by kernel_rfl)) hHeld ?_
              simp only [Act.put, List.setIfInBounds_toArray, List.set_cons_zero, List.set_cons_succ]
              have hbv := (Below.refl wD.heap.size wD).alloc (Nat.le_refl _) (.cells #[.pointer (some ⟨g, p.i * 11, none⟩), .int .i64 p.i, .string p.t, .int .i64 p.w, .bool p.last] 96)
              have HBv := hide (HBd.out.below hbv)
              have HXv := hide (HXd.out.alloc (.cells #[.pointer (some ⟨g, p.i * 11, none⟩), .int .i64 p.i, .string p.t, .int .i64 p.w, .bool p.last] 96))
              have HNv := hide (Blk.new wD 96 #[.pointer (some ⟨g, p.i * 11, none⟩), .int .i64 p.i, .string p.t, .int .i64 p.w, .bool p.last])
              have HKv := hide (HKd.out.trans (Kept.of_below hbv HBd.out.kk))
              have hXd := HXd.out.lt
              refine layK (j := 6) (by kernel_rfl) rfl rfl 85 rfl 78 1 _ rfl [(0, Value.agg #[.pointer (some ⟨g, p.i * 11, none⟩), .int .i64 p.i, .string p.t, .int .i64 p.w, .bool p.last])] (by kernel_rfl) #[.pointer (some ⟨g, p.i * 11, none⟩), .int .i64 p.i, .string p.t, .int .i64 p.w, .bool p.last] 96 (by kernel_rfl) ⟨HBv.out.blk.cell 10, HXv.out⟩ ?_
              simp only [Act.put, List.setIfInBounds_toArray, List.set_cons_zero, List.set_cons_succ]
              refine app1K (j := 7) (by kernel_rfl) rfl rfl 86 rfl (.tmp 83) (.tmp 85) _ rfl 0 96 _ 5 48 Tryd.underlying78 part_info rfl (Nat.succ_pos _) (T2) st2.late.length _ (by kernel_rfl) HBv.out.late wD.heap.size 1 #[.pointer (some ⟨g, p.i * 11, none⟩), .int .i64 p.i, .string p.t, .int .i64 p.w, .bool p.last] HNv.out rfl (by kernel_rfl) rfl (by omega) (Nat.le_of_ble_eq_true rfl) (Nat.zero_le _) (fun v4 w4 hown4 hg4 hat4 => ⟨⟨(HBv.out.blk.grown hg4 (Ne.symm (own_blk_ne HBv.out.late HBv.out.blk (by decide)))).cell 10, HXv.out.grown hg4 (fun e => HXNE.out e.symm)⟩, ?_⟩)
              simp only [Act.put, List.setIfInBounds_toArray, List.set_cons_zero, List.set_cons_succ]
              have HB4 := hide (HBv.out.blk.grown hg4 (Ne.symm (own_blk_ne HBv.out.late HBv.out.blk (by decide))))
              have HX4 := hide (HXv.out.grown hg4 (fun e => HXNE.out e.symm))
              have O4 := hide hown4
              have HG4 := hide hg4
              have HA4 := hide hat4
              clear hown4 hg4 hat4
              refine takeK (i := 8) (v := (Value.pointer (some ⟨b, 0, none⟩))) [9, 10] (some 87) rfl rfl rfl (by kernel_rfl) (by kernel_rfl) (by kernel_rfl) (by kernel_rfl) (fun _ _ _ h => h) (by rfl) (yieldsIf_nil (by rfl) _ rfl _ rfl) ⟨HB4.out.cell 10, HX4.out⟩ ?_
              simp only [Act.put, List.setIfInBounds_toArray, List.set_cons_zero, List.set_cons_succ]
              refine takeK (i := 9) (v := (Value.pointer (some ⟨b, 10, none⟩))) [10] (some 88) rfl rfl rfl (by kernel_rfl) (by kernel_rfl) (by kernel_rfl) (by kernel_rfl) (fun _ _ _ h => h) (by rfl) (yieldsIf_faddr (by rfl) 81 _ 10 rfl _ _ 10 rfl (by kernel_rfl)) ⟨HB4.out.cell 10, HX4.out⟩ ?_
              simp only [Act.put, List.setIfInBounds_toArray, List.set_cons_zero, List.set_cons_succ]
              refine exitK (by kernel_rfl) ?_
              refine storeH (j := 10) (by kernel_rfl) rfl rfl rfl 78 (.tmp 88) (.tmp 86) rfl b 10 81 _ (v4) (by kernel_rfl) (by kernel_rfl) HB4.out (Nat.le_of_ble_eq_true rfl) (by kernel_rfl) (by obtain ⟨A4, c4, hv, _, _⟩ := own_reads O4.out; rw [hv]; rfl) (by obtain ⟨A4, c4, hv, _, _⟩ := own_reads O4.out; rw [hv]; rfl) (fun w5 hB hG => ⟨trivial, ?_⟩)
              simp only [Act.put, List.setIfInBounds_toArray, List.set_cons_zero, List.set_cons_succ]
              have hon : Only (fun i => i = b ∨ T2.ownBlock = some i) (wD.alloc (.cells #[.pointer (some ⟨g, p.i * 11, none⟩), .int .i64 p.i, .string p.t, .int .i64 p.w, .bool p.last] 96)) w5 := (Only.of_grown HG4.out (fun k e => .inr e)).trans (Only.of_grown hG (fun k e => .inl (by injection e with e; exact e.symm)))
              have HB5 := hide (HBv.out.t_set (st' := { st2 with late := st2.late ++ [p] }) (Tv' := v4) (show Blk w5 b 81 (brA fp st2.y sz ht al st2.ind st2.left st2.right L1 st2.full v4 O1) from hB) (by rw [List.length_append, List.length_singleton, ptCells_snoc]; exact own_stays O4.out hG (own_blk_ne O4.out HB4.out (by decide))) hon (HA4.out.imp id (fun e k hk => by rw [e] at hk; injection hk with hk; omega)) rfl rfl rfl)
              have HK5 := hide (HKv.out.trans (Kept.of_only hon HBv.out.kk (fun k hk => hk.elim (fun e => by rw [e]; exact HBv.out.kb) (HBv.out.kT k))))
              clear hB hG hon HB4 HX4 O4 HG4 HA4 HBv HXv HNv HKv hbv hHeld HBd HXd HKd
              refine wpAnyH_done (by kernel_rfl) ?_ _
              go_wp2_with fail
              go_roundw
              case rel => exact ⟨k + 1, _, v4, F2, by omega, by go_num, HA2.out, HOK2.out, HB5.out, HK5.out⟩
              case measure => simp only [intOf]; omega
      · as_aux_lemma =>
          obtain rfl : k = cs.length := by omega
          rw [List.take_length] at had
          have HA := hide had.out
          have HOK2 := hide hok2.out
          have HB2 := hide hb2.out
          have HK2 := hide hk2.out
          have HPCr := hide (HPC.out.kept hk2.out)
          have HIr := hide (HI1.out.kept hk2.out)
          have hln : st2.line.length ≤ n := by rw [(addFl_full had.out).2.1]; exact HOK.out.ll
          clear had hok2 hb2 hk2 HB1 HOK hlt hk
          go_upto_region 15 with fail
          go_cut [] from 90 (fun wx => ∃ L2, Hid (BrV wx K' b fp g W sz ht al { st2 with line := st2.line ++ cs } L2 T2 O1 F2) ∧ Hid (Kept K' w1 wx))
          case first => as_aux_lemma =>
            obtain ⟨AL, cL, rfl, hpl⟩ := pts_own HB2.out.line
            clear hpl
            have r8 : wr.cell? ⟨b, 8, none⟩ = some (.slice AL st2.line.length cL) := HB2.out.blk.cell 8
            obtain ⟨i0, hi0, hz0, hz1, hz2⟩ := info_parts part_info
            have HRD := hide (show Reads wr wr.heap.size 5 Ac cs.length (ptCells g cs) from by
              rcases Nat.eq_zero_or_pos cs.length with h0 | h0
              · obtain rfl : cs = [] := List.eq_nil_of_length_eq_zero h0
                exact Reads.none_
              · obtain ⟨q, off, rfl, h2, _, h4⟩ := HPCr.out h0
                exact pts_reads h4 h2)
            have HM1 := hide (show st2.line.length + cs.length ≤ maxLen from by simp only [maxLen]; omega)
            have HM2 := hide (show (st2.line.length + cs.length) * 48 ≤ 140737488355328 from by omega)
            have HLN := hide HB2.out.line
            have HBL := hide (fun (w2 : World) (hg2 : wr.grownBy w2 (Value.slice AL st2.line.length cL).ownBlock) => HB2.out.blk.grown hg2 (Ne.symm (own_blk_ne HB2.out.line HB2.out.blk (by decide))))
            have HON := hide (pt_ones g cs)
            go_wp2_with (at_builtin; refine wpList_append_any _ rfl (.tmp 94) (.tmp 95) _ rfl 0 96 i0 _ 5 48 Tryd.underlying79 hi0 hz0 hz1 hz2 rfl (Nat.succ_pos _) _ st2.line.length _ rfl HLN.out wr.heap.size _ cs.length _ _ rfl HRD.out HON.out HM1.out HM2.out (Nat.zero_le _) ?_; intro v2 w2 hown2 hg2 hat2; have HB9 := hide (HBL.out w2 hg2); have c8 := HB9.out.cell 8; have z8 := HB9.out.frozen 8; obtain ⟨A2, c2, hv2, _, _⟩ := own_reads hown2; have HO2 := hide hown2; have HG2 := hide hg2; have HA2 := hide (show v2.ownBlock = (Value.slice AL st2.line.length cL).ownBlock ∨ v2.ownBlock = some wr.heap.size from hat2); have HV2 := hide hv2; clear hown2 hg2 hat2)
            go_meet
            rw [HV2.out] at HO2 HA2
            have hon : Only (fun i => i = b ∨ (Value.slice AL st2.line.length cL).ownBlock = some i) wr (w2.setCell ⟨b, 8, none⟩ (.slice A2 (st2.line.length + cs.length) c2)) := (Only.of_grown HG2.out (fun k e => .inr e)).trans (Only.setCell (p := ⟨b, 8, none⟩) (.inl rfl) _)
            refine ⟨.slice A2 (st2.line.length + cs.length) c2, ?_, HK2.out.trans (Kept.of_only hon HB2.out.kk (fun k hk => hk.elim (fun e => by rw [e]; exact HB2.out.kb) (HB2.out.kL k)))⟩
            refine HB2.out.l_set (st' := { st2 with line := st2.line ++ cs }) (HB9.out.set_ 8 _) ?_ hon (HA2.out.imp id (fun e k hk => by rw [e] at hk; injection hk with hk; omega)) rfl rfl rfl
            rw [List.length_append, ptCells_app]
            exact own_far HO2.out (own_blk_ne HO2.out HB9.out (by decide)) _
          case rest => as_aux_lemma =>
            obtain ⟨L2, hb3, hk3⟩ := hcut
            have HB3 := hide hb3.out
            have HK3 := hide hk3.out
            clear hb3 hk3 HB2 HK2 HPCr HIr
            have HPC3 := hide (HPC.out.kept HK3.out)
            have HI3 := hide (HI1.out.kept HK3.out)
            have HFU := hide (full_any xs g cs Ac cc wc HI3.out.its HPC3.out.reads (by omega) HCO.out)
            go_upto_region 16 with fail
            go_cut [] from 99 (fun wx => Hid (BrV wx K' b fp g W sz ht al (addLn xs st2 cs) L2 T2 O1 F2) ∧ Hid (Kept K' w1 wx))
            case first => as_aux_lemma =>
              have z9 : wc.frozen? ⟨b, 9, none⟩ = false := HB3.out.blk.frozen 9
              cases hfl : st2.full
              · have c9 : wc.cell? ⟨b, 9, none⟩ = some (.bool false) := by rw [← hfl]; exact HB3.out.blk.cell 9
                have hfull : (addLn xs st2 cs).full = cs.any (solidF xs) := by unfold addLn; simp only [hfl, Bool.false_or]
                generalize cs.any (solidF xs) = fu at *
                go_wp2_with fail
                refine HFU.out.mono ?_
                rintro e w5 ⟨rfl, hb5⟩
                have HB5 := hide (HB3.out.below hb5)
                have HK5 := hide (HK3.out.trans (Kept.of_below hb5 HB3.out.kk))
                have z9' : w5.frozen? ⟨b, 9, none⟩ = false := HB5.out.blk.frozen 9
                have c9' : w5.cell? ⟨b, 9, none⟩ = some (.bool false) := by rw [← hfl]; exact HB5.out.blk.cell 9
                clear hb5 HFU
                go_wp2_with fail
                go_meet
                have hgb := only_setCell (p := ⟨b, 9, none⟩) (World.grownBy.refl w5 (some b)) (.inl rfl) (.bool fu)
                refine ⟨HB5.out.b_set (st' := addLn xs st2 cs) (by rw [hfull]; exact HB5.out.blk.set_ 9 (.bool fu)) hgb (.inl ⟨rfl, rfl⟩) (.inl ⟨rfl, rfl⟩) rfl rfl, HK5.out.trans (HB5.out.kept_b hgb)⟩
              · have c9 : wc.cell? ⟨b, 9, none⟩ = some (.bool true) := by rw [← hfl]; exact HB3.out.blk.cell 9
                have hfull : (addLn xs st2 cs).full = true := by unfold addLn; simp only [hfl, Bool.true_or]
                clear HFU
                go_wp2_with fail
                go_meet
                have hgb := only_setCell (p := ⟨b, 9, none⟩) (World.grownBy.refl wc (some b)) (.inl rfl) (.bool true)
                refine ⟨HB3.out.b_set (st' := addLn xs st2 cs) (by rw [hfull]; exact HB3.out.blk.set_ 9 (.bool true)) hgb (.inl ⟨rfl, rfl⟩) (.inl ⟨rfl, rfl⟩) rfl rfl, HK3.out.trans (HB3.out.kept_b hgb)⟩
            case rest => as_aux_lemma =>
              obtain ⟨hb4, hk4⟩ := hcut
              have HB4 := hide hb4.out
              have HK4 := hide hk4.out
              clear hb4 hk4 HB3 HK3 HPC3 HI3 HFU
              have HPC4 := hide (HPC.out.kept HK4.out)
              have HI4 := hide (HI1.out.kept HK4.out)
              have HOK4 := hide (HOK2.out.addLn (n' := n + gs.length) HCO.out (by omega) (by omega))
              clear HPC HOK2
              go_upto_region 18 with fail
              go_cut [125] from 112 (fun s wx => s = .bool (lastMust xs cs) ∧ Hid (BrV wx K' b fp g W sz ht al (addLn xs st2 cs) L2 T2 O1 F2) ∧ Hid (Kept K' w1 wx))
              case first => as_aux_lemma =>
                rcases Nat.eq_zero_or_pos cs.length with h0 | h0
                · obtain rfl : cs = [] := List.eq_nil_of_length_eq_zero h0
                  go_wp2_with fail
                  go_meet
                  exact ⟨rfl, HB4.out, HK4.out⟩
                · obtain ⟨j, hj⟩ : ∃ j, cs.length = j + 1 := ⟨cs.length - 1, by omega⟩
                  have HLM := hide (lastMust_at (xs := xs) hj)
                  obtain ⟨q, off, rfl, hql, hqK, hpt⟩ := HPC4.out h0
                  have hjl : j < cs.length := by omega
                  obtain ⟨d0, d1, d2, d3, d4⟩ := hpt.rowO hjl
                  have hpo := HCO.out _ (List.getElem_mem hjl)
                  rw [← ptAt_of cs j hjl] at hpo
                  have f0 : wc.cell? ⟨g, (ptAt cs j).i * 11, none⟩ = some (.int .i64 (pKind xs (ptAt cs j))) := HI4.out.its.1 (ptAt cs j).i hpo.1 0 (by omega)
                  have hj2 : (cs.length : Int) - 1 = (j : Int) := by omega
                  have w9 : IntKind.i64.wrap ((cs.length : Int) - 1) = (j : Int) := by rw [hj2]; exact IntWalk.i64_in _ (by omega)
                  have q1 : decide ((0 : Int) < (cs.length : Int)) = true := decide_eq_true (by omega)
                  have z1 : (0 : Int) ≤ (j : Int) := by omega
                  have z2 : (j : Int) < (cs.length : Int) := by omega
                  clear hpt d1 d2 d3 d4 hpo hj hj2
                  generalize pKind xs (ptAt cs j) = kd at *
                  generalize ptAt cs j = p at *
                  cases h6 : (kd == 6)
                  · go_wp2_with fail
                    go_meet
                    exact ⟨by rw [HLM.out, h6], HB4.out, HK4.out⟩
                  · go_wp2_with fail
                    go_meet
                    exact ⟨by rw [HLM.out, h6], HB4.out, HK4.out⟩
              case rest => as_aux_lemma =>
                obtain ⟨rfl, hb5, hk5⟩ := hcut
                have HB5 := hide hb5.out
                have HK5 := hide hk5.out
                clear hb5 hk5 HB4 HK4 HPC4 HI4
                have HI5 := hide (HI1.out.kept HK5.out)
                have HKT := hide (HK1.out.trans (HK5.out.less HKK.out))
                cases hlm : lastMust xs cs
                · have HPR := hide (HPU.out st2 (addLn xs st2 cs) HA.out (.inr ⟨hlm, rfl⟩))
                  clear HPU
                  go_wp2_with fail
                  go_end0
                  exact ⟨rfl, _, L2, T2, O1, F2, HPR.out, HOK4.out.more (Nat.le_refl _) (by omega), HB5.out.less HKK.out, HKT.out⟩
                · have HEN := hide (endV_any xs g K' b fp W sz ht al (addLn xs st2 cs) L2 T2 O1 F2 (n + gs.length) m1 true wc HI5.out HB5.out HOK4.out (by omega) (by omega) hz hh hW)
                  have HPR := hide (fun st' (he : EndR xs sz ht al W true (addLn xs st2 cs) st') => HPU.out st2 st' HA.out (.inl ⟨hlm, he⟩))
                  clear HPU
                  go_wp2_with fail
                  refine HEN.out.mono ?_
                  rintro e w6 ⟨rfl, st6, O6, F6, he6, hok6, hb6, hk6⟩
                  have HB6 := hide (hb6.less HKK.out)
                  have HK6 := hide (HKT.out.trans (hk6.less HKK.out))
                  have HP6 := hide (HPR.out st6 he6)
                  have HO6 := hide (hok6.more (Nat.le_refl (n + gs.length)) (show m1 + 1 ≤ m + 2 by omega))
                  clear hb6 hk6 he6 hok6 HEN HPR
                  go_wp2_with fail
                  go_end0
                  exact ⟨rfl, st6, _, _, O6, F6, HP6.out, HO6.out, HB6.out, HK6.out⟩
end Go.Proofs.YtadlabndbomgmaaDoor
