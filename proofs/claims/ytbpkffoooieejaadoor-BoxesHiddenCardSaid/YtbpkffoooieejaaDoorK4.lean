/- Parts of the proof, joined: BoxText. -/
import Derived.Test.YtbpkffoooieejaaDoorK3
set_option linter.unusedVariables false
set_option linter.unusedSimpArgs false
/- boxes.maker.box at texts and line breaks (printed by mkbox.py). -/
namespace Go.Proofs.YtbpkffoooieejaaDoor
open Go.ChangeShapes Go.WideShapes Go.ChangeAt Go.RowKit Go.Instr
theorem blk_four (w : World) (o o2 o3 : Obj) (cs : Array Value) (t : TypeId) : Blk ((((w.alloc o).alloc o2).alloc o3).alloc (.cells cs t)) (w.heap.size + 1 + 1 + 1) t cs := by
  have h := Blk.new (((w.alloc o).alloc o2).alloc o3) t cs
  rwa [show (((w.alloc o).alloc o2).alloc o3).heap.size = w.heap.size + 1 + 1 + 1 by simp] at h
theorem str_i1 : (Tryd.prog.info? 9).map (·.size) = some 1 := by kernel_rfl
set_option maxRecDepth 100000 in
set_option maxHeartbeats 40000000 in
theorem box_text (l : List Nd) (R : Nat → Nat → Int) (An As : Option Addr) (cn cs : Nat) (lev : Nat → Nat) (g0 : Nat → Tr) (n : Nat) (w : World) (hS : CeS w l R An As cn cs lev (lev n) g0) (hn : n < l.length) (hk3 : (ndAt l n).kind = 3) :
    Calls Tryd.prog 44 #[.agg #[.slice An l.length cn, .slice As l.length cs], .int .i64 (n : Int)] w fun e w' => TreePost KNo w.heap.size (.mk 4 n ((pgOf l R).tx n) []) w' e ∧ Below w.heap.size w w' := by
  obtain ⟨gs, os, rfl, hgs, hcs⟩ := hS.mkr.sty n hn
  have hnl : ¬ l.length ≤ n := by omega
  obtain ⟨g, off, Aa, ca, Ak, ck, rfl, hg, hnd, hns⟩ := hS.mkr.nds n hn
  have htx := hns.text
  clear hns
  have hb1 := (Below.refl w.heap.size w).alloc (Nat.le_refl _) (.cells #[.slice (some ⟨g, off, none⟩) l.length cn, .slice (some ⟨gs, os, none⟩) l.length cs] 75)
  have hb2 := hb1.alloc hb1.size (.cells #[.int .i64 0, .int .i64 0, .int .i64 0, .slice none 0 0, .string ⟨#[]⟩, .slice none 0 0] 79)
  have hb3 := hb2.alloc hb2.size (.cells #[.int .i64 4, .int .i64 n, .int .i64 0, .slice none 0 0, .string ⟨#[]⟩, .slice none 0 0] 79)
  obtain ⟨kd, hkd⟩ : ∃ kd, kd = (ndAt l n).kind := ⟨_, rfl⟩
  obtain ⟨nm, hnm⟩ : ∃ nm, nm = (ndAt l n).name := ⟨_, rfl⟩
  obtain ⟨tx, htxe⟩ : ∃ tx, tx = (ndAt l n).text := ⟨_, rfl⟩
  obtain ⟨d0, d1, d2, d3, d4, d5, _, _⟩ := hnd.below hb3 hg
  rw [← hkd] at d0
  rw [← hnm] at d1
  rw [← htxe] at d3 htx
  rw [← hkd] at hk3
  have HKD := hide hkd
  have HNM := hide hnm
  have HTX := hide htxe
  clear hkd hnm htxe
  generalize (ndAt l n).attrs.length = na at *
  generalize (ndAt l n).par = pr at *
  generalize (ndAt l n).kids.length = nk at *
  clear hnd
  have HB := hide (hb3.alloc hb3.size (.cells #[.int .i64 kd, .string nm, .slice Aa na ca, .string tx, .int .i64 pr, .slice Ak nk ck] 58))
  have HD := hide ((((Blk.new w 75 #[.slice (some ⟨g, off, none⟩) l.length cn, .slice (some ⟨gs, os, none⟩) l.length cs]).alloc (.cells #[.int .i64 0, .int .i64 0, .int .i64 0, .slice none 0 0, .string ⟨#[]⟩, .slice none 0 0] 79)).alloc (.cells #[.int .i64 4, .int .i64 n, .int .i64 0, .slice none 0 0, .string ⟨#[]⟩, .slice none 0 0] 79)).alloc (.cells #[.int .i64 kd, .string nm, .slice Aa na ca, .string tx, .int .i64 pr, .slice Ak nk ck] 58))
  have HZ := hide (((blk_two w (.cells #[.slice (some ⟨g, off, none⟩) l.length cn, .slice (some ⟨gs, os, none⟩) l.length cs] 75) #[.int .i64 0, .int .i64 0, .int .i64 0, .slice none 0 0, .string ⟨#[]⟩, .slice none 0 0] 79).alloc (.cells #[.int .i64 4, .int .i64 n, .int .i64 0, .slice none 0 0, .string ⟨#[]⟩, .slice none 0 0] 79)).alloc (.cells #[.int .i64 kd, .string nm, .slice Aa na ca, .string tx, .int .i64 pr, .slice Ak nk ck] 58))
  have HT := hide ((blk_three w (.cells #[.slice (some ⟨g, off, none⟩) l.length cn, .slice (some ⟨gs, os, none⟩) l.length cs] 75) (.cells #[.int .i64 0, .int .i64 0, .int .i64 0, .slice none 0 0, .string ⟨#[]⟩, .slice none 0 0] 79) #[.int .i64 4, .int .i64 n, .int .i64 0, .slice none 0 0, .string ⟨#[]⟩, .slice none 0 0] 79).alloc (.cells #[.int .i64 kd, .string nm, .slice Aa na ca, .string tx, .int .i64 pr, .slice Ak nk ck] 58))
  have HN := hide (blk_four w (.cells #[.slice (some ⟨g, off, none⟩) l.length cn, .slice (some ⟨gs, os, none⟩) l.length cs] 75) (.cells #[.int .i64 0, .int .i64 0, .int .i64 0, .slice none 0 0, .string ⟨#[]⟩, .slice none 0 0] 79) (.cells #[.int .i64 4, .int .i64 n, .int .i64 0, .slice none 0 0, .string ⟨#[]⟩, .slice none 0 0] 79) #[.int .i64 kd, .string nm, .slice Aa na ca, .string tx, .int .i64 pr, .slice Ak nk ck] 58)
  clear hb1 hb2 hb3
  have t3 : (kd == 3) = true := by simpa using hk3
  clear hk3
  have HTXF := hide (show (pgOf l R).tx n = turnF tx (R n 87) by rw [HTX.out]; rfl)
  have hc87 := (HB.out.cell (p := ⟨gs, os + n * 118 + 87, none⟩) hgs).trans (hcs 87 (by omega))
  generalize R n 87 = md at *
  have HC87 := hide hc87
  have hgs2 : gs < ((((w.alloc (.cells #[.slice (some ⟨g, off, none⟩) l.length cn, .slice (some ⟨gs, os, none⟩) l.length cs] 75)).alloc (.cells #[.int .i64 0, .int .i64 0, .int .i64 0, .slice none 0 0, .string ⟨#[]⟩, .slice none 0 0] 79)).alloc (.cells #[.int .i64 4, .int .i64 n, .int .i64 0, .slice none 0 0, .string ⟨#[]⟩, .slice none 0 0] 79)).alloc (.cells #[.int .i64 kd, .string nm, .slice Aa na ca, .string tx, .int .i64 pr, .slice Ak nk ck] 58)).heap.size := Nat.lt_of_lt_of_le hgs HB.out.size
  clear hcs hc87 hS
  go_enter Tryd.func44, Tryd.ntmps44
  go_wp2_with fail
  generalize (((w.alloc (.cells #[.slice (some ⟨g, off, none⟩) l.length cn, .slice (some ⟨gs, os, none⟩) l.length cs] 75)).alloc (.cells #[.int .i64 0, .int .i64 0, .int .i64 0, .slice none 0 0, .string ⟨#[]⟩, .slice none 0 0] 79)).alloc (.cells #[.int .i64 4, .int .i64 n, .int .i64 0, .slice none 0 0, .string ⟨#[]⟩, .slice none 0 0] 79)).alloc (.cells #[.int .i64 kd, .string nm, .slice Aa na ca, .string tx, .int .i64 pr, .slice Ak nk ck] 58) = w2 at *
  obtain ⟨D, hDD⟩ : ∃ D, D = w.heap.size := ⟨_, rfl⟩
  have hDw : D ≤ w.heap.size := by omega
  have HDE := hide hDD
  rw [← hDD] at HB HD HZ HT HN hg hgs ⊢
  clear d0 d1 d2 d3 d4 d5 hDD
  have HSK := hide (fun (Z : World) (h : Below w2.heap.size w2 Z) => show Blk Z D 75 #[.slice (some ⟨g, off, none⟩) l.length cn, .slice (some ⟨gs, os, none⟩) l.length cs] ∧ Z.cell? ⟨D + 1 + 1 + 1, 3, none⟩ = some (.string tx) ∧ Z.cell? ⟨gs, os + n * 118 + 87, none⟩ = some (.int .i64 md) from
    ⟨HD.out.below h HD.out.lt, (h.cell (p := ⟨D + 1 + 1 + 1, 3, none⟩) HN.out.lt).trans (HN.out.cell 3), (h.cell (p := ⟨gs, os + n * 118 + 87, none⟩) hgs2).trans HC87.out⟩)
  have hb0 := Below.drew (Below.refl w2.heap.size w2)
  have HB0 := hide hb0
  refine wp_region_HL 13 #[false, false, false, false, false, false, false, false, false, false, false, false, false] (by kernel_rfl) (by kernel_rfl) (S := fun Z => Blk Z D 75 #[.slice (some ⟨g, off, none⟩) l.length cn, .slice (some ⟨gs, os, none⟩) l.length cs] ∧ Z.cell? ⟨D + 1 + 1 + 1, 3, none⟩ = some (.string tx) ∧ Z.cell? ⟨gs, os + n * 118 + 87, none⟩ = some (.int .i64 md)) (by kernel_rfl) (HSK.out _ hb0) (fun hHeld => ?_)
  generalize w2.drew = wv0 at *
  clear hHeld hb0
  refine take_at (i := 0) (v := (Value.pointer (some ⟨(D + 1 + 1 + 1), 3, none⟩))) (some 21) rfl rfl (by kernel_rfl) (by kernel_rfl) (by kernel_rfl) (fun _ _ _ h => h) (yieldsIf_faddr (by rfl) 58 _ 3 rfl _ _ 3 rfl (by kernel_rfl)) (HSK.out _ HB0.out) ?_
  simp only [Act.put, List.setIfInBounds_toArray, List.set_cons_zero, List.set_cons_succ]
  refine take_at (i := 1) (v := (.string tx)) (some 22) rfl rfl (by kernel_rfl) (by kernel_rfl) (by kernel_rfl) (fun _ _ _ h => h) (yieldsIf_load1 (by rfl) 9 _ rfl _ _ _ rfl (by kernel_rfl) (fun _ h => h.2.1)) (HSK.out _ HB0.out) ?_
  simp only [Act.put, List.setIfInBounds_toArray, List.set_cons_zero, List.set_cons_succ]
  refine take_at (i := 2) (v := (Value.pointer (some ⟨D, 1, none⟩))) (some 23) rfl rfl (by kernel_rfl) (by kernel_rfl) (by kernel_rfl) (fun _ _ _ h => h) (yieldsIf_faddr (by rfl) 75 _ 1 rfl _ _ 1 rfl (by kernel_rfl)) (HSK.out _ HB0.out) ?_
  simp only [Act.put, List.setIfInBounds_toArray, List.set_cons_zero, List.set_cons_succ]
  refine take_at (i := 3) (v := (.slice (some ⟨gs, os, none⟩) l.length cs)) (some 24) rfl rfl (by kernel_rfl) (by kernel_rfl) (by kernel_rfl) (fun _ _ _ h => h) (yieldsIf_load1 (by rfl) 22 _ rfl _ _ _ rfl (by kernel_rfl) (fun _ h => h.1.cell 1)) (HSK.out _ HB0.out) ?_
  simp only [Act.put, List.setIfInBounds_toArray, List.set_cons_zero, List.set_cons_succ]
  refine take_at (i := 4) (v := (.int .i64 n)) (some 25) rfl rfl (by kernel_rfl) (by kernel_rfl) (by kernel_rfl) (fun _ _ _ h => h) (yieldsIf_move (by rfl) _ rfl _ rfl) (HSK.out _ HB0.out) ?_
  simp only [Act.put, List.setIfInBounds_toArray, List.set_cons_zero, List.set_cons_succ]
  refine take_at (i := 5) (v := (Value.pointer (some ⟨gs, os + n * 118, none⟩))) (some 26) rfl rfl (by kernel_rfl) (by kernel_rfl) (by kernel_rfl) (fun _ _ _ h => h) (yieldsIf_iaddr (by rfl) 22 _ _ rfl gs os l.length cs rfl .i64 n rfl hn 118 (by kernel_rfl) (os + n * 118) rfl) (HSK.out _ HB0.out) ?_
  simp only [Act.put, List.setIfInBounds_toArray, List.set_cons_zero, List.set_cons_succ]
  refine take_at (i := 6) (v := (Value.pointer (some ⟨gs, os + n * 118 + 86, none⟩))) (some 27) rfl rfl (by kernel_rfl) (by kernel_rfl) (by kernel_rfl) (fun _ _ _ h => h) (Or.inl ⟨by rfl, fun W hW => ?_⟩) (HSK.out _ HB0.out) ?_
  · go_simp
  simp only [Act.put, List.setIfInBounds_toArray, List.set_cons_zero, List.set_cons_succ]
  refine take_at (i := 7) (v := (Value.pointer (some ⟨gs, os + n * 118 + 87, none⟩))) (some 28) rfl rfl (by kernel_rfl) (by kernel_rfl) (by kernel_rfl) (fun _ _ _ h => h) (yieldsIf_faddr (by rfl) 48 _ 1 rfl _ _ 1 rfl (by kernel_rfl)) (HSK.out _ HB0.out) ?_
  simp only [Act.put, List.setIfInBounds_toArray, List.set_cons_zero, List.set_cons_succ]
  refine take_at (i := 8) (v := (.int .i64 md)) (some 29) rfl rfl (by kernel_rfl) (by kernel_rfl) (by kernel_rfl) (fun _ _ _ h => h) (yieldsIf_load1 (by rfl) 3 _ rfl _ _ _ rfl (by kernel_rfl) (fun _ h => h.2.2)) (HSK.out _ HB0.out) ?_
  simp only [Act.put, List.setIfInBounds_toArray, List.set_cons_zero, List.set_cons_succ]
  refine callH (j := 9) (by kernel_rfl) rfl rfl (some 30) rfl 62 #[.string tx, .int .i64 md] (run_enter Tryd.func62 (by kernel_rfl) (by kernel_rfl) _ _ rfl #[.string tx, .int .i64 md] (by kernel_rfl) _) (turn_any tx md _ htx) ?_
  rintro e wv1 ⟨rfl, hx⟩
  have HB1 := hide (HB0.out.trans (hx.mono HB0.out.size))
  clear hx
  refine ⟨_, rfl, HSK.out _ HB1.out, ?_⟩
  simp only [Act.put, List.setIfInBounds_toArray, List.set_cons_zero, List.set_cons_succ]
  have HT1 := hide (HT.out.below HB1.out HT.out.lt)
  have HZ1 := hide (HZ.out.below HB1.out HZ.out.lt)
  have HBW1 := hide (HB.out.trans (HB1.out.mono (bsz HB.out hDw)))
  have h2D := HT.out.lt
  have hszD := HZ.out.lt
  refine take_at (i := 10) (v := (Value.pointer (some ⟨(D + 1 + 1), 0, none⟩))) (some 31) rfl rfl (by kernel_rfl) (by kernel_rfl) (by kernel_rfl) (fun _ _ _ h => h) (yieldsIf_faddr (by rfl) 79 _ 0 rfl _ _ 0 rfl (by kernel_rfl)) (HSK.out _ HB1.out) ?_
  simp only [Act.put, List.setIfInBounds_toArray, List.set_cons_zero, List.set_cons_succ]
  refine take_at (i := 11) (v := (Value.pointer (some ⟨(D + 1 + 1), 4, none⟩))) (some 32) rfl rfl (by kernel_rfl) (by kernel_rfl) (by kernel_rfl) (fun _ _ _ h => h) (yieldsIf_faddr (by rfl) 45 _ 4 rfl _ _ 4 rfl (by kernel_rfl)) (HSK.out _ HB1.out) ?_
  simp only [Act.put, List.setIfInBounds_toArray, List.set_cons_zero, List.set_cons_succ]
  have HSL := hide (fun (Z : World) (hG : wv1.grownBy Z (some (D + 1 + 1))) => show Blk Z D 75 #[.slice (some ⟨g, off, none⟩) l.length cn, .slice (some ⟨gs, os, none⟩) l.length cs] ∧ Z.cell? ⟨D + 1 + 1 + 1, 3, none⟩ = some (.string tx) ∧ Z.cell? ⟨gs, os + n * 118 + 87, none⟩ = some (.int .i64 md) from
    have h0 := HSK.out _ HB1.out
    ⟨h0.1.grown hG (fun e => by injection e with e; omega), (World.cell?_of_block (hG.block _ (Nat.lt_of_lt_of_le HN.out.lt HB1.out.size) (fun e => by injection e with e; simp at e))).trans h0.2.1, (World.cell?_of_block (hG.block _ (Nat.lt_of_lt_of_le hgs2 HB1.out.size) (fun e => by injection e with e; simp only at e; omega))).trans h0.2.2⟩)
  refine storeH (j := 12) (by kernel_rfl) rfl rfl rfl 9 (.tmp 32) (.tmp 30) rfl (D + 1 + 1) 4 79 _ (.string (turnF tx md)) (by kernel_rfl) (by kernel_rfl) HT1.out (Nat.le_of_ble_eq_true rfl) (by kernel_rfl) rfl rfl (fun wv2 hB hG => ⟨HSL.out _ hG, ?_⟩)
  simp only [List.setIfInBounds_toArray, List.set_cons_zero, List.set_cons_succ]
  have HT2 := hide (show Blk wv2 (D + 1 + 1) 79 #[.int .i64 4, .int .i64 n, .int .i64 0, .slice none 0 0, .string (turnF tx md), .slice none 0 0] from hB)
  have HZ2 := hide (HZ1.out.grown hG (fun e => by injection e with e; omega))
  have HBW2 := hide (below_grown HBW1.out hDw hG (by omega))
  clear hB hG
  refine wpAnyH_done (by kernel_rfl) ?_ _
  go_wp2_with (first
    | (refine wpList_load_row rfl 79 (.tmp 5) rfl (D + 1 + 1) rfl _ _ (0, 0) _ HT2.out tr_u rfl (tr_i _ _ _ _ _ _) ?_)
    | (refine wpList_store_blk rfl 79 (.tmp 4) (.tmp 33) rfl (D + 1) 79 _ _ rfl rfl HZ2.out rfl (tr_i _ _ _ _ _ _) (tr_ones _ _ _ _ _ _) ?_; intro w9 hB9 hG9; have HZ9 := hide hB9; have HG9 := hide hG9; have HB9 := hide (below_grown HBW2.out hDw hG9 (by omega)); clear hB9 hG9)
    | fail)
  refine bodyPost_ret (results_cell_row rfl _ _ (D + 1) 79 _ (0, 0) _ rfl HZ9.out tr_u rfl (tr_i _ _ _ _ _ _)) rfl ?_
  rw [← HDE.out]
  rw [HTXF.out]
  exact ⟨⟨none, 0, rfl, TrV.of (by rw [turn_size]; exact htx) (Nat.zero_le _) (Nat.zero_le _) (by decide) (TrRow.nil _ _ _)⟩, HB9.out⟩
set_option maxRecDepth 100000 in
set_option maxHeartbeats 40000000 in
theorem box_br (l : List Nd) (R : Nat → Nat → Int) (An As : Option Addr) (cn cs : Nat) (lev : Nat → Nat) (g0 : Nat → Tr) (n : Nat) (w : World) (hS : CeS w l R An As cn cs lev (lev n) g0) (hn : n < l.length) (hk3 : (ndAt l n).kind ≠ 3) (hbr : (pgOf l R).br n = true) (his : isF (pgOf l R) n = 1) :
    Calls Tryd.prog 44 #[.agg #[.slice An l.length cn, .slice As l.length cs], .int .i64 (n : Int)] w fun e w' => TreePost KNo w.heap.size (.mk 4 n ⟨#[10]⟩ []) w' e ∧ Below w.heap.size w w' := by
  have hnl : ¬ l.length ≤ n := by omega
  obtain ⟨g, off, Aa, ca, Ak, ck, rfl, hg, hnd, hns⟩ := hS.mkr.nds n hn
  have htx := hns.text
  clear hns
  have hb1 := (Below.refl w.heap.size w).alloc (Nat.le_refl _) (.cells #[.slice (some ⟨g, off, none⟩) l.length cn, .slice As l.length cs] 75)
  have hb2 := hb1.alloc hb1.size (.cells #[.int .i64 0, .int .i64 0, .int .i64 0, .slice none 0 0, .string ⟨#[]⟩, .slice none 0 0] 79)
  have hb3 := hb2.alloc hb2.size (.cells #[.int .i64 4, .int .i64 n, .int .i64 0, .slice none 0 0, .string ⟨#[]⟩, .slice none 0 0] 79)
  obtain ⟨kd, hkd⟩ : ∃ kd, kd = (ndAt l n).kind := ⟨_, rfl⟩
  obtain ⟨nm, hnm⟩ : ∃ nm, nm = (ndAt l n).name := ⟨_, rfl⟩
  obtain ⟨tx, htxe⟩ : ∃ tx, tx = (ndAt l n).text := ⟨_, rfl⟩
  obtain ⟨d0, d1, d2, d3, d4, d5, _, _⟩ := hnd.below hb3 hg
  rw [← hkd] at d0
  rw [← hnm] at d1
  rw [← htxe] at d3 htx
  rw [← hkd] at hk3
  have HKD := hide hkd
  have HNM := hide hnm
  have HTX := hide htxe
  clear hkd hnm htxe
  generalize (ndAt l n).attrs.length = na at *
  generalize (ndAt l n).par = pr at *
  generalize (ndAt l n).kids.length = nk at *
  clear hnd
  have HB := hide (hb3.alloc hb3.size (.cells #[.int .i64 kd, .string nm, .slice Aa na ca, .string tx, .int .i64 pr, .slice Ak nk ck] 58))
  have HD := hide ((((Blk.new w 75 #[.slice (some ⟨g, off, none⟩) l.length cn, .slice As l.length cs]).alloc (.cells #[.int .i64 0, .int .i64 0, .int .i64 0, .slice none 0 0, .string ⟨#[]⟩, .slice none 0 0] 79)).alloc (.cells #[.int .i64 4, .int .i64 n, .int .i64 0, .slice none 0 0, .string ⟨#[]⟩, .slice none 0 0] 79)).alloc (.cells #[.int .i64 kd, .string nm, .slice Aa na ca, .string tx, .int .i64 pr, .slice Ak nk ck] 58))
  have HZ := hide (((blk_two w (.cells #[.slice (some ⟨g, off, none⟩) l.length cn, .slice As l.length cs] 75) #[.int .i64 0, .int .i64 0, .int .i64 0, .slice none 0 0, .string ⟨#[]⟩, .slice none 0 0] 79).alloc (.cells #[.int .i64 4, .int .i64 n, .int .i64 0, .slice none 0 0, .string ⟨#[]⟩, .slice none 0 0] 79)).alloc (.cells #[.int .i64 kd, .string nm, .slice Aa na ca, .string tx, .int .i64 pr, .slice Ak nk ck] 58))
  have HT := hide ((blk_three w (.cells #[.slice (some ⟨g, off, none⟩) l.length cn, .slice As l.length cs] 75) (.cells #[.int .i64 0, .int .i64 0, .int .i64 0, .slice none 0 0, .string ⟨#[]⟩, .slice none 0 0] 79) #[.int .i64 4, .int .i64 n, .int .i64 0, .slice none 0 0, .string ⟨#[]⟩, .slice none 0 0] 79).alloc (.cells #[.int .i64 kd, .string nm, .slice Aa na ca, .string tx, .int .i64 pr, .slice Ak nk ck] 58))
  have HN := hide (blk_four w (.cells #[.slice (some ⟨g, off, none⟩) l.length cn, .slice As l.length cs] 75) (.cells #[.int .i64 0, .int .i64 0, .int .i64 0, .slice none 0 0, .string ⟨#[]⟩, .slice none 0 0] 79) (.cells #[.int .i64 4, .int .i64 n, .int .i64 0, .slice none 0 0, .string ⟨#[]⟩, .slice none 0 0] 79) #[.int .i64 kd, .string nm, .slice Aa na ca, .string tx, .int .i64 pr, .slice Ak nk ck] 58)
  clear hb1 hb2 hb3
  have t3 : (kd == 3) = false := by simpa using hk3
  clear hk3
  have HNB := hide (show nm = brS by rw [HNM.out]; exact of_decide_eq_true hbr)
  have HIS := hide (fun (Z : World) (h : Below w.heap.size w Z) => is_any l R (some ⟨g, off, none⟩) As cn cs n Z (hS.later h).mkr hn)
  rw [his] at HIS
  clear hS
  go_enter Tryd.func44, Tryd.ntmps44
  go_wp2_with fail
  generalize (((w.alloc (.cells #[.slice (some ⟨g, off, none⟩) l.length cn, .slice As l.length cs] 75)).alloc (.cells #[.int .i64 0, .int .i64 0, .int .i64 0, .slice none 0 0, .string ⟨#[]⟩, .slice none 0 0] 79)).alloc (.cells #[.int .i64 4, .int .i64 n, .int .i64 0, .slice none 0 0, .string ⟨#[]⟩, .slice none 0 0] 79)).alloc (.cells #[.int .i64 kd, .string nm, .slice Aa na ca, .string tx, .int .i64 pr, .slice Ak nk ck] 58) = w2 at *
  obtain ⟨D, hDD⟩ : ∃ D, D = w.heap.size := ⟨_, rfl⟩
  have hDw : D ≤ w.heap.size := by omega
  have HDE := hide hDD
  rw [← hDD] at HB HD HZ HT HN HIS hg ⊢
  clear d0 d1 d2 d3 d4 d5 hDD
  have tb : nm.toList = [98, 114] := by rw [HNB.out, Lib.toList_data]; rfl
  go_wp2_with (first
    | (go_at_call 45; refine (HIS.out _ HB.out).mono ?_; rintro e w7 ⟨rfl, hb7⟩; have HB7 := hide (HB.out.trans (hb7.mono (bsz HB.out hDw))); have HD7 := hide (HD.out.below hb7 HD.out.lt); have HZ7 := hide (HZ.out.below hb7 HZ.out.lt); have HT7 := hide (HT.out.below hb7 HT.out.lt); have n1 := (HN.out.below hb7 HN.out.lt).cell 1; have m0 := HD7.out.cell 0; have m1 := HD7.out.cell 1; simp only [List.getElem?_toArray, List.getElem?_cons_zero, List.getElem?_cons_succ] at n1 m0 m1; have h2D := HT.out.lt; clear hb7)
    | (refine wpList_store_fld rfl 9 (.tmp 45) (.const (.string ⟨#[10]⟩)) rfl (D + 1 + 1) 4 79 _ (.string ⟨#[10]⟩) rfl rfl HT7.out (Nat.le_of_ble_eq_true rfl) str_i1 rfl rfl ?_; intro w8 hB8 hG8; have HT8 := hide (show Blk w8 (D + 1 + 1) 79 #[.int .i64 4, .int .i64 n, .int .i64 0, .slice none 0 0, .string ⟨#[10]⟩, .slice none 0 0] from hB8); have HZ8 := hide (HZ7.out.grown hG8 (fun e => by injection e with e; omega)); have HBW8 := hide (below_grown HB7.out hDw hG8 (by omega)); clear hB8 hG8)
    | (refine wpList_load_row rfl 79 (.tmp 5) rfl (D + 1 + 1) rfl _ _ (0, 0) _ HT8.out tr_u rfl (tr_i _ _ _ _ _ _) ?_)
    | (refine wpList_store_blk rfl 79 (.tmp 4) (.tmp 46) rfl (D + 1) 79 _ _ rfl rfl HZ8.out rfl (tr_i _ _ _ _ _ _) (tr_ones _ _ _ _ _ _) ?_; intro w9 hB9 hG9; have HZ9 := hide hB9; have HG9 := hide hG9; have HB9 := hide (below_grown HBW8.out hDw hG9 (by omega)); clear hB9 hG9)
    | fail)
  refine bodyPost_ret (results_cell_row rfl _ _ (D + 1) 79 _ (0, 0) _ rfl HZ9.out tr_u rfl (tr_i _ _ _ _ _ _)) rfl ?_
  rw [← HDE.out]
  exact ⟨⟨none, 0, rfl, TrV.of (by decide) (Nat.zero_le _) (Nat.zero_le _) (by decide) (TrRow.nil _ _ _)⟩, HB9.out⟩
end Go.Proofs.YtbpkffoooieejaaDoor
