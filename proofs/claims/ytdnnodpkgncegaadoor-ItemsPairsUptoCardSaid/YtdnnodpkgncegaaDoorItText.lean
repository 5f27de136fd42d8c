/- The walk of maker.text. -/
import Derived.BigQuiet
import Derived.Handy
import Derived.IntWalk
import Derived.RegionTactic
import Derived.Deep.MidRow
import Derived.Deep.CutBlock
import Derived.Test.YtdnnodpkgncegaaDoorItTx
namespace Go.Proofs.YtdnnodpkgncegaaDoor
open Go.ChangeShapes Go.WideShapes Go.ChangeAt Go.RowKit
set_option maxRecDepth 100000 in
set_option maxHeartbeats 40000000 in
theorem text_any (g gl off ol at_ n cB cl mb B : Nat) (T : ByteArray) (R : Nat → Int) (V : Value) (room mv : Int) (bl : Bool) (s : List Li) (w : World) (hat : at_ < n) (hg : g < B) (hB0 : 0 < B) (hBB : B ≤ w.heap.size)
    (hI : ItV w B mb (.slice (some ⟨g, off, none⟩) n cB) (.slice (some ⟨gl, ol, none⟩) n cl) room bl V s) (hTX : w.cell? ⟨g, off + at_ * 5 + 4, none⟩ = some (.string T)) (hR : ∀ j, j < 118 → w.cell? ⟨gl, ol + at_ * 118 + j, none⟩ = some (.int .i64 (R j)))
    (hmv : w.cell? ⟨0, 0, none⟩ = some (.int .i64 mv)) (hTl : T.size ≤ 1048576) (hlim : s.length + 2 * T.size + 2 ≤ 10000000) :
    Calls Tryd.prog 13 #[.pointer (some ⟨mb, 0, none⟩), .int .i64 (at_ : Int)] w fun e w' => e = .returned (.tuple #[]) ∧ ∃ (V' : Value) (bl' : Bool) (s' : List Li), ItV w' B mb (.slice (some ⟨g, off, none⟩) n cB) (.slice (some ⟨gl, ol, none⟩) n cl) room bl' V' (s ++ s') ∧ Stp mb w V w' V' ∧ Bal (s'.map liKey) ∧ s'.length ≤ 2 * T.size + 2 := by
  have HR := hide (show ∀ j u, (styA R)[j]? = some u → w.cell? ⟨gl, ol + at_ * 118 + j, none⟩ = some u from fun j u hu => by
    have hj : j < 118 := by
      have := (Array.getElem?_eq_some_iff.1 hu).1
      rwa [styA_size] at this
    rw [styA_at _ hj] at hu
    injection hu with hu
    subst hu
    exact hR j hj)
  have hn : ¬ n ≤ at_ := by omega
  have hTs : T.size ≤ 140737488355328 := by omega
  have c0 : w.cell? ⟨mb, 0, none⟩ = some (.slice (some ⟨g, off, none⟩) n cB) := hI.blk.cell 0
  have c1 : w.cell? ⟨mb, 1, none⟩ = some (.slice (some ⟨gl, ol, none⟩) n cl) := hI.blk.cell 1
  have HTX := hide hTX
  have HMV := hide hmv
  have HI := hide hI
  have hzv := zero_sty
  have HZ := hide (Blk.new w 44 (styA fun _ => 0))
  have HZ1 := hide (sty_zs R)
  have HZ2 := hide (sty_i R)
  have HZ3 := hide (sty_all R)
  clear hR hI hTX hmv
  go_enter Tryd.func13, Tryd.ntmps13
  go_wp2_with (first
    | (refine wpList_load_mid rfl 44 (.tmp 18) rfl gl (ol + at_ * 118) rfl (styA R) _ HR.out sty_u rfl (sty_i _) ?_)
    | (refine wpList_store_blk rfl 44 (.tmp 4) (.tmp 19) rfl w.heap.size 44 _ (styA R) rfl rfl HZ.out HZ1.out HZ2.out HZ3.out ?_; intro w2 hB2 hG2; have q83 := sty_cell hB2 (j := 83) (by omega); have HB2 := hide hB2; have HG2 := hide hG2; clear hB2 hG2)
    | fail)
  have hbw0 : Below w.heap.size w w2 := below_grown ((Below.refl w.heap.size w).alloc (Nat.le_refl _) (.cells (styA fun _ => 0) 44)) (Nat.le_refl _) HG2.out (Nat.le_refl _)
  obtain ⟨sb, hsb⟩ : ∃ sb, sb = w.heap.size := ⟨_, rfl⟩
  rw [← hsb] at HB2 ⊢
  have HT := hide (show TxS w w2 B mb sb (.slice (some ⟨g, off, none⟩) n cB) (.slice (some ⟨gl, ol, none⟩) n cl) room bl V V s R from ⟨HI.out.old hbw0, Stp.of_below hbw0 V, HB2.out, bsz (hbw0.mono hBB) hBB, hbw0.mono hBB⟩)
  have H88 := hide (fun (Z : World) (h : Blk Z sb 44 (styA R)) => sty_cell h (j := 88) (by omega))
  have H89 := hide (fun (Z : World) (h : Blk Z sb 44 (styA R)) => sty_cell h (j := 89) (by omega))
  clear HZ HZ1 HZ2 HZ3 c0 c1 HI HG2 HB2 q83 hzv HR hbw0 hsb
  generalize R 83 = mode at *
  generalize R 88 = k88 at *
  generalize R 89 = k89 at *
  generalize w2 = wr at *
  have hbd0 := Below.drew (Below.refl wr.heap.size wr)
  have HT1 := hide (HT.out.old hbd0)
  have e0 : wr.drew.cell? ⟨sb, 88, none⟩ = some (.int .i64 k88) := H88.out _ HT1.out.sty
  have e1 : wr.drew.cell? ⟨sb, 89, none⟩ = some (.int .i64 k89) := H89.out _ HT1.out.sty
  have e2 : wr.drew.cell? ⟨mb, 2, none⟩ = some (.int .i64 room) := HT1.out.it.blk.cell 2
  have HSK := hide (fun (Z : World) (hz : Below wr.drew.heap.size wr.drew Z) => show (∀ j u, (#[Value.int .i64 k88, .int .i64 k89] : Array Value)[j]? = some u → Z.cell? ⟨sb, 88 + j, none⟩ = some u) ∧ Z.cell? ⟨mb, 2, none⟩ = some (.int .i64 room) from
    ⟨two_cells ((hz.cell (p := ⟨sb, 88, none⟩) (cell_lt e0)).trans e0) ((hz.cell (p := ⟨sb, 89, none⟩) (cell_lt e1)).trans e1), (hz.cell (p := ⟨mb, 2, none⟩) (cell_lt e2)).trans e2⟩)
  clear hbd0 HT e0 e1 e2
  refine wp_region_HL 12 #[false, false, false, false, false, false, false, false, false, false, false, false] (by kernel_rfl) (by kernel_rfl) (S := fun Z => (∀ j u, (#[Value.int .i64 k88, .int .i64 k89] : Array Value)[j]? = some u → Z.cell? ⟨sb, 88 + j, none⟩ = some u) ∧ Z.cell? ⟨mb, 2, none⟩ = some (.int .i64 room)) (by kernel_rfl) (HSK.out _ (Below.refl _ _)) (fun hHeld => ?_)
  generalize wr.drew = wD at *
  refine take_at (i := 0) (v := (Value.pointer (some ⟨sb, 88, none⟩))) (some 24) rfl rfl (by kernel_rfl) (by kernel_rfl) (by kernel_rfl) (fun _ _ _ h => h) (Or.inl ⟨by rfl, fun W hW => ?_⟩) hHeld ?_
  · go_simp
  simp only [Act.put, List.setIfInBounds_toArray, List.set_cons_zero, List.set_cons_succ]
  refine take_at (i := 1) (v := (Value.agg #[.int .i64 k88, .int .i64 k89])) (some 25) rfl rfl (by kernel_rfl) (by kernel_rfl) (by kernel_rfl) (fun _ _ _ h => h) (yieldsIf_loadMidA (by rfl) 42 _ rfl sb 88 rfl #[.int .i64 k88, .int .i64 k89] _ (fun _ h => h.1) val_u rfl (val_i _ _)) hHeld ?_
  simp only [Act.put, List.setIfInBounds_toArray, List.set_cons_zero, List.set_cons_succ]
  refine take_at (i := 2) (v := (Value.pointer (some ⟨mb, 0, none⟩))) (some 26) rfl rfl (by kernel_rfl) (by kernel_rfl) (by kernel_rfl) (fun _ _ _ h => h) (yieldsIf_move (by rfl) _ rfl _ rfl) hHeld ?_
  simp only [Act.put, List.setIfInBounds_toArray, List.set_cons_zero, List.set_cons_succ]
  refine take_at (i := 3) (v := (Value.pointer (some ⟨mb, 0, none⟩))) (some 27) rfl rfl (by kernel_rfl) (by kernel_rfl) (by kernel_rfl) (fun _ _ _ h => h) (yieldsIf_nil (by rfl) _ rfl _ rfl) hHeld ?_
  simp only [Act.put, List.setIfInBounds_toArray, List.set_cons_zero, List.set_cons_succ]
  refine take_at (i := 4) (v := (Value.pointer (some ⟨mb, 2, none⟩))) (some 28) rfl rfl (by kernel_rfl) (by kernel_rfl) (by kernel_rfl) (fun _ _ _ h => h) (yieldsIf_faddr (by rfl) 38 _ 2 rfl _ _ 2 rfl (by kernel_rfl)) hHeld ?_
  simp only [Act.put, List.setIfInBounds_toArray, List.set_cons_zero, List.set_cons_succ]
  refine take_at (i := 5) (v := (.int .i64 room)) (some 29) rfl rfl (by kernel_rfl) (by kernel_rfl) (by kernel_rfl) (fun _ _ _ h => h) (yieldsIf_load1 (by rfl) 3 _ rfl _ _ _ rfl (by kernel_rfl) (fun _ h => h.2)) hHeld ?_
  simp only [Act.put, List.setIfInBounds_toArray, List.set_cons_zero, List.set_cons_succ]
  refine callH (j := 6) (by kernel_rfl) rfl rfl (some 30) rfl 19 #[.agg #[.int .i64 k88, .int .i64 k89], .int .i64 room] (run_enter Tryd.func19 (by kernel_rfl) (by kernel_rfl) _ _ rfl #[.agg #[.int .i64 k88, .int .i64 k89], .int .i64 room] (by kernel_rfl) _) (Of_any _ _ _ _) ?_
  rintro e w9 ⟨rfl, hb9⟩
  have HT9 := hide (HT1.out.old hb9)
  refine ⟨_, rfl, HSK.out _ hb9, ?_⟩
  simp only [Act.put, List.setIfInBounds_toArray, List.set_cons_zero, List.set_cons_succ]
  generalize ofN k88 k89 room = spc at *
  generalize ofB k88 = spb at *
  refine take_at (i := 7) (v := (.tuple #[.int .i64 spc, .bool spb])) (some 23) rfl rfl (by kernel_rfl) (by kernel_rfl) (by kernel_rfl) (fun _ _ _ h => h) (yieldsIf_move (by rfl) _ rfl _ rfl) (HSK.out _ hb9) ?_
  simp only [Act.put, List.setIfInBounds_toArray, List.set_cons_zero, List.set_cons_succ]
  refine take_at (i := 8) (v := (.int .i64 spc)) (some 31) rfl rfl (by kernel_rfl) (by kernel_rfl) (by kernel_rfl) (fun _ _ _ h => h) (Or.inl ⟨by rfl, fun W hW => ?_⟩) (HSK.out _ hb9) ?_
  · go_simp
  simp only [Act.put, List.setIfInBounds_toArray, List.set_cons_zero, List.set_cons_succ]
  refine take_at (i := 9) (v := (.bool spb)) (some 32) rfl rfl (by kernel_rfl) (by kernel_rfl) (by kernel_rfl) (fun _ _ _ h => h) (Or.inl ⟨by rfl, fun W hW => ?_⟩) (HSK.out _ hb9) ?_
  · go_simp
  simp only [Act.put, List.setIfInBounds_toArray, List.set_cons_zero, List.set_cons_succ]
  refine take_at (i := 10) (v := (.int .i64 spc)) (some 6) rfl rfl (by kernel_rfl) (by kernel_rfl) (by kernel_rfl) (fun _ _ _ h => h) (Or.inl ⟨by rfl, fun W hW => ?_⟩) (HSK.out _ hb9) ?_
  · go_simp
  simp only [Act.put, List.setIfInBounds_toArray, List.set_cons_zero, List.set_cons_succ]
  refine take_at (i := 11) (v := (.bool spb)) (some 7) rfl rfl (by kernel_rfl) (by kernel_rfl) (by kernel_rfl) (fun _ _ _ h => h) (Or.inl ⟨by rfl, fun W hW => ?_⟩) (HSK.out _ hb9) ?_
  · go_simp
  simp only [Act.put, List.setIfInBounds_toArray, List.set_cons_zero, List.set_cons_succ]
  refine wpAnyH_done (by kernel_rfl) ?_ _
  clear hHeld HSK HT1 hb9
  go_wp2_with fail
  have hbd0 := Below.drew (Below.refl w9.heap.size w9)
  have HT1 := hide (HT9.out.old hbd0)
  have e0 : w9.drew.cell? ⟨mb, 0, none⟩ = some (.slice (some ⟨g, off, none⟩) n cB) := HT1.out.it.blk.cell 0
  have e1 : w9.drew.cell? ⟨g, off + at_ * 5 + 4, none⟩ = some (.string T) := (HT1.out.bw.cell (p := ⟨g, off + at_ * 5 + 4, none⟩) hg).trans HTX.out
  have e2 : w9.drew.cell? ⟨mb, 3, none⟩ = some (.bool bl) := HT1.out.it.blk.cell 3
  have HSK := hide (fun (Z : World) (hz : Below w9.drew.heap.size w9.drew Z) => show Z.cell? ⟨mb, 0, none⟩ = some (.slice (some ⟨g, off, none⟩) n cB) ∧ Z.cell? ⟨g, off + at_ * 5 + 4, none⟩ = some (.string T) ∧ Z.cell? ⟨mb, 3, none⟩ = some (.bool bl) from
    ⟨(hz.cell (p := ⟨mb, 0, none⟩) (cell_lt e0)).trans e0, (hz.cell (p := ⟨g, off + at_ * 5 + 4, none⟩) (cell_lt e1)).trans e1, (hz.cell (p := ⟨mb, 3, none⟩) (cell_lt e2)).trans e2⟩)
  clear hbd0 HT9 e0 e1 e2
  refine wp_region_HL 19 #[false, false, false, false, false, false, false, false, false, false, false, false, false, false, false, false, false, false, false] (by kernel_rfl) (by kernel_rfl) (S := fun Z => Z.cell? ⟨mb, 0, none⟩ = some (.slice (some ⟨g, off, none⟩) n cB) ∧ Z.cell? ⟨g, off + at_ * 5 + 4, none⟩ = some (.string T) ∧ Z.cell? ⟨mb, 3, none⟩ = some (.bool bl)) (by kernel_rfl) (HSK.out _ (Below.refl _ _)) (fun hHeld => ?_)
  generalize w9.drew = wD at *
  refine take_at (i := 0) (v := (Value.pointer (some ⟨mb, 0, none⟩))) (some 34) rfl rfl (by kernel_rfl) (by kernel_rfl) (by kernel_rfl) (fun _ _ _ h => h) (yieldsIf_move (by rfl) _ rfl _ rfl) hHeld ?_
  simp only [Act.put, List.setIfInBounds_toArray, List.set_cons_zero, List.set_cons_succ]
  refine take_at (i := 1) (v := (Value.pointer (some ⟨mb, 0, none⟩))) (some 35) rfl rfl (by kernel_rfl) (by kernel_rfl) (by kernel_rfl) (fun _ _ _ h => h) (yieldsIf_nil (by rfl) _ rfl _ rfl) hHeld ?_
  simp only [Act.put, List.setIfInBounds_toArray, List.set_cons_zero, List.set_cons_succ]
  refine take_at (i := 2) (v := (Value.pointer (some ⟨mb, 0, none⟩))) (some 36) rfl rfl (by kernel_rfl) (by kernel_rfl) (by kernel_rfl) (fun _ _ _ h => h) (yieldsIf_faddr (by rfl) 38 _ 0 rfl _ _ 0 rfl (by kernel_rfl)) hHeld ?_
  simp only [Act.put, List.setIfInBounds_toArray, List.set_cons_zero, List.set_cons_succ]
  refine take_at (i := 3) (v := (.slice (some ⟨g, off, none⟩) n cB)) (some 37) rfl rfl (by kernel_rfl) (by kernel_rfl) (by kernel_rfl) (fun _ _ _ h => h) (yieldsIf_load1 (by rfl) 22 _ rfl _ _ _ rfl (by kernel_rfl) (fun _ h => h.1)) hHeld ?_
  simp only [Act.put, List.setIfInBounds_toArray, List.set_cons_zero, List.set_cons_succ]
  refine take_at (i := 4) (v := (.int .i64 (at_ : Int))) (some 38) rfl rfl (by kernel_rfl) (by kernel_rfl) (by kernel_rfl) (fun _ _ _ h => h) (yieldsIf_move (by rfl) _ rfl _ rfl) hHeld ?_
  simp only [Act.put, List.setIfInBounds_toArray, List.set_cons_zero, List.set_cons_succ]
  refine take_at (i := 5) (v := (Value.pointer (some ⟨g, off + at_ * 5, none⟩))) (some 39) rfl rfl (by kernel_rfl) (by kernel_rfl) (by kernel_rfl) (fun _ _ _ h => h) (yieldsIf_iaddr (by rfl) 22 _ _ rfl g off n cB rfl .i64 at_ rfl hat 5 (by kernel_rfl) (off + at_ * 5) rfl) hHeld ?_
  simp only [Act.put, List.setIfInBounds_toArray, List.set_cons_zero, List.set_cons_succ]
  refine take_at (i := 6) (v := (Value.pointer (some ⟨g, off + at_ * 5 + 4, none⟩))) (some 40) rfl rfl (by kernel_rfl) (by kernel_rfl) (by kernel_rfl) (fun _ _ _ h => h) (yieldsIf_faddr (by rfl) 35 _ 4 rfl _ _ 4 rfl (by kernel_rfl)) hHeld ?_
  simp only [Act.put, List.setIfInBounds_toArray, List.set_cons_zero, List.set_cons_succ]
  refine take_at (i := 7) (v := (.string T)) (some 41) rfl rfl (by kernel_rfl) (by kernel_rfl) (by kernel_rfl) (fun _ _ _ h => h) (yieldsIf_load1 (by rfl) 9 _ rfl _ _ _ rfl (by kernel_rfl) (fun _ h => h.2.1)) hHeld ?_
  simp only [Act.put, List.setIfInBounds_toArray, List.set_cons_zero, List.set_cons_succ]
  refine take_at (i := 8) (v := (.int .i64 mode)) (some 42) rfl rfl (by kernel_rfl) (by kernel_rfl) (by kernel_rfl) (fun _ _ _ h => h) (yieldsIf_move (by rfl) _ rfl _ rfl) hHeld ?_
  simp only [Act.put, List.setIfInBounds_toArray, List.set_cons_zero, List.set_cons_succ]
  refine take_at (i := 9) (v := (Value.pointer (some ⟨mb, 0, none⟩))) (some 43) rfl rfl (by kernel_rfl) (by kernel_rfl) (by kernel_rfl) (fun _ _ _ h => h) (yieldsIf_move (by rfl) _ rfl _ rfl) hHeld ?_
  simp only [Act.put, List.setIfInBounds_toArray, List.set_cons_zero, List.set_cons_succ]
  refine take_at (i := 10) (v := (Value.pointer (some ⟨mb, 0, none⟩))) (some 44) rfl rfl (by kernel_rfl) (by kernel_rfl) (by kernel_rfl) (fun _ _ _ h => h) (yieldsIf_nil (by rfl) _ rfl _ rfl) hHeld ?_
  simp only [Act.put, List.setIfInBounds_toArray, List.set_cons_zero, List.set_cons_succ]
  refine take_at (i := 11) (v := (Value.pointer (some ⟨mb, 3, none⟩))) (some 45) rfl rfl (by kernel_rfl) (by kernel_rfl) (by kernel_rfl) (fun _ _ _ h => h) (yieldsIf_faddr (by rfl) 38 _ 3 rfl _ _ 3 rfl (by kernel_rfl)) hHeld ?_
  simp only [Act.put, List.setIfInBounds_toArray, List.set_cons_zero, List.set_cons_succ]
  refine take_at (i := 12) (v := (.bool bl)) (some 46) rfl rfl (by kernel_rfl) (by kernel_rfl) (by kernel_rfl) (fun _ _ _ h => h) (yieldsIf_load1 (by rfl) 4 _ rfl _ _ _ rfl (by kernel_rfl) (fun _ h => h.2.2)) hHeld ?_
  simp only [Act.put, List.setIfInBounds_toArray, List.set_cons_zero, List.set_cons_succ]
  refine callH (j := 13) (by kernel_rfl) rfl rfl (some 47) rfl 20 #[.string T, .int .i64 mode, .bool bl] (run_enter Tryd.func20 (by kernel_rfl) (by kernel_rfl) _ _ rfl #[.string T, .int .i64 mode, .bool bl] (by kernel_rfl) _) (collapse_any _ _ _ _ hTs) ?_
  rintro e w10 ⟨rfl, hb10⟩
  have HT10 := hide (HT1.out.old hb10)
  refine ⟨_, rfl, HSK.out _ hb10, ?_⟩
  simp only [Act.put, List.setIfInBounds_toArray, List.set_cons_zero, List.set_cons_succ]
  have hts : (bytesStr (colS mode T.data.toList bl)).size ≤ T.size := by
    rw [bytesStr_size, ← size_eq T]
    exact colS_len mode T.data.toList bl
  generalize bytesStr (colS mode T.data.toList bl) = tx at *
  generalize colB mode T.data.toList bl = b2 at *
  refine take_at (i := 14) (v := (.tuple #[.string tx, .bool b2])) (some 33) rfl rfl (by kernel_rfl) (by kernel_rfl) (by kernel_rfl) (fun _ _ _ h => h) (yieldsIf_move (by rfl) _ rfl _ rfl) (HSK.out _ hb10) ?_
  simp only [Act.put, List.setIfInBounds_toArray, List.set_cons_zero, List.set_cons_succ]
  refine take_at (i := 15) (v := (.string tx)) (some 48) rfl rfl (by kernel_rfl) (by kernel_rfl) (by kernel_rfl) (fun _ _ _ h => h) (Or.inl ⟨by rfl, fun W hW => ?_⟩) (HSK.out _ hb10) ?_
  · go_simp
  simp only [Act.put, List.setIfInBounds_toArray, List.set_cons_zero, List.set_cons_succ]
  refine take_at (i := 16) (v := (.bool b2)) (some 49) rfl rfl (by kernel_rfl) (by kernel_rfl) (by kernel_rfl) (fun _ _ _ h => h) (Or.inl ⟨by rfl, fun W hW => ?_⟩) (HSK.out _ hb10) ?_
  · go_simp
  simp only [Act.put, List.setIfInBounds_toArray, List.set_cons_zero, List.set_cons_succ]
  refine take_at (i := 17) (v := (.string tx)) (some 8) rfl rfl (by kernel_rfl) (by kernel_rfl) (by kernel_rfl) (fun _ _ _ h => h) (Or.inl ⟨by rfl, fun W hW => ?_⟩) (HSK.out _ hb10) ?_
  · go_simp
  simp only [Act.put, List.setIfInBounds_toArray, List.set_cons_zero, List.set_cons_succ]
  refine take_at (i := 18) (v := (.bool b2)) (some 9) rfl rfl (by kernel_rfl) (by kernel_rfl) (by kernel_rfl) (fun _ _ _ h => h) (Or.inl ⟨by rfl, fun W hW => ?_⟩) (HSK.out _ hb10) ?_
  · go_simp
  simp only [Act.put, List.setIfInBounds_toArray, List.set_cons_zero, List.set_cons_succ]
  refine wpAnyH_done (by kernel_rfl) ?_ _
  clear hHeld HSK HT1 hb10
  cases hkm : keepsM mode
  · go_wp2_with (first
      | (refine wpList_store_fld rfl 4 (.tmp 53) (.tmp 51) rfl mb 3 38 _ (.bool b2) rfl rfl HT10.out.it.blk (Nat.le_of_ble_eq_true rfl) maker_i rfl rfl ?_; intro w11 hB11 hG11; have HT11 := hide (HT10.out.blank b2 hB11 hG11).1; clear hB11 hG11)
      | (go_at_call 21; refine (keeps_any _ _).mono ?_; rintro e w9 ⟨rfl, rfl⟩; rw [hkm])
      | fail)
    have hba := (Below.refl w11.heap.size w11).alloc (Nat.le_refl _) (.cells #[.string tx] 9)
    have HT12 := hide (HT11.out.old hba)
    have HP := hide (Blk.new w11 9 #[.string tx])
    obtain ⟨CP, hCPe⟩ : ∃ CP : Array Value, CP = #[.string tx] := ⟨_, rfl⟩
    rw [← hCPe] at HP HT12 ⊢
    have hCP : ∀ i, i < 1 → ∃ p, CP[i]? = some (.string p) := fun i hi => by
      obtain rfl : i = 0 := by omega
      exact ⟨tx, by rw [hCPe]; rfl⟩
    have hnp : 1 ≤ T.size + 1 := by omega
    clear hba HT11 hCPe HT10
    obtain ⟨gp, hgp⟩ : ∃ gp, gp = w11.heap.size := ⟨_, rfl⟩
    rw [← hgp] at HP ⊢
    clear hgp
    generalize w11.alloc (.cells CP 9) = w12 at *
    go_loopw [62] (fun i wr => ∃ (j : Nat) (V9 : Value) (b9 : Bool) (s' : List Li), j ≤ 1 ∧ i = .int .i64 j ∧ TxS w wr B mb sb (.slice (some ⟨g, off, none⟩) n cB) (.slice (some ⟨gl, ol, none⟩) n cl) room b9 V V9 (s ++ s') R ∧ Blk wr gp 9 CP ∧ Bal (s'.map liKey) ∧ s'.length ≤ 2 * j) (fun i _ => 1 - (intOf i).toNat)
    case atStart => exact ⟨0, V, b2, [], Nat.zero_le _, rfl, by rw [List.append_nil]; exact HT12.out, HP.out, Bal.nil, Nat.le_refl _⟩
    case round =>
      clear HT12 HP
      obtain ⟨j, V8, b9, s', hj, rfl, hT, hP, hBal, hsl⟩ := hrel
      have HTa := hide hT
      have HPa := hide hP
      by_cases hjl : j < 1
      · obtain ⟨px, hpx⟩ := hCP j hjl
        have q0 : wr.cell? ⟨gp, j, none⟩ = some (.string px) := (hP.cell j).trans hpx
        have hls : (s ++ s').length ≤ 10000000 := by first | omega | (simp; omega)
        clear hT hP hpx
        by_cases hj0 : j = 0
        · subst hj0
          cases hpe : px.toList.isEmpty
          · have te : (px.toList.isEmpty) = false := hpe
            go_wp2_with fail
            clear q0
            have hlim2 : (s ++ (s')).length ≤ 10000000 := by first | omega | (simp; omega)
            have hBa : Bal ((s').map liKey) := hBal
            have HTz := HTa
            have HPz := HPa
            clear HTa HPa
            generalize hwz : wr = wz at *
            clear hwz
            have hbd0 := Below.drew (Below.refl wz.heap.size wz)
            have HT1 := hide (HTz.out.old hbd0)
            have HP1 := hide (HPz.out.below hbd0 HPz.out.lt)
            clear hbd0 HTz HPz
            refine wp_region_HL 13 #[false, false, false, false, false, false, false, false, false, false, false, false, false] (by kernel_rfl) (by kernel_rfl) (S := fun Z => Blk Z sb 44 (styA R)) (by kernel_rfl) HT1.out.sty (fun hHeld => ?_)
            generalize wz.drew = wD at *
            refine take_at (i := 0) (v := (Value.pointer (some ⟨mb, 0, none⟩))) (some 78) rfl rfl (by kernel_rfl) (by kernel_rfl) (by kernel_rfl) (fun _ _ _ h => h) (yieldsIf_move (by rfl) _ rfl _ rfl) hHeld ?_
            simp only [Act.put, List.setIfInBounds_toArray, List.set_cons_zero, List.set_cons_succ]
            refine take_at (i := 1) (v := (.int .i64 (at_ : Int))) (some 79) rfl rfl (by kernel_rfl) (by kernel_rfl) (by kernel_rfl) (fun _ _ _ h => h) (yieldsIf_move (by rfl) _ rfl _ rfl) hHeld ?_
            simp only [Act.put, List.setIfInBounds_toArray, List.set_cons_zero, List.set_cons_succ]
            refine take_at (i := 2) (v := (.string px)) (some 80) rfl rfl (by kernel_rfl) (by kernel_rfl) (by kernel_rfl) (fun _ _ _ h => h) (yieldsIf_move (by rfl) _ rfl _ rfl) hHeld ?_
            simp only [Act.put, List.setIfInBounds_toArray, List.set_cons_zero, List.set_cons_succ]
            refine take_at (i := 3) (v := (Value.agg (styA R))) (some 81) rfl rfl (by kernel_rfl) (by kernel_rfl) (by kernel_rfl) (fun _ _ _ h => h) (yieldsIf_load_blk (by rfl) 44 _ rfl sb rfl 44 _ _ (fun _ h => h) sty_u rfl (sty_i R)) hHeld ?_
            simp only [Act.put, List.setIfInBounds_toArray, List.set_cons_zero, List.set_cons_succ]
            refine take_at (i := 5) (v := (.int .i64 spc)) (some 83) rfl rfl (by kernel_rfl) (by kernel_rfl) (by kernel_rfl) (fun _ _ _ h => h) (yieldsIf_move (by rfl) _ rfl _ rfl) hHeld ?_
            simp only [Act.put, List.setIfInBounds_toArray, List.set_cons_zero, List.set_cons_succ]
            refine take_at (i := 6) (v := (Value.agg (styA R))) (some 84) rfl rfl (by kernel_rfl) (by kernel_rfl) (by kernel_rfl) (fun _ _ _ h => h) (yieldsIf_load_blk (by rfl) 44 _ rfl sb rfl 44 _ _ (fun _ h => h) sty_u rfl (sty_i R)) hHeld ?_
            simp only [Act.put, List.setIfInBounds_toArray, List.set_cons_zero, List.set_cons_succ]
            refine take_at (i := 8) (v := (.int .i64 mode)) (some 86) rfl rfl (by kernel_rfl) (by kernel_rfl) (by kernel_rfl) (fun _ _ _ h => h) (yieldsIf_move (by rfl) _ rfl _ rfl) hHeld ?_
            simp only [Act.put, List.setIfInBounds_toArray, List.set_cons_zero, List.set_cons_succ]
            refine take_at (i := 9) (v := (Value.agg (styA R))) (some 87) rfl rfl (by kernel_rfl) (by kernel_rfl) (by kernel_rfl) (fun _ _ _ h => h) (yieldsIf_load_blk (by rfl) 44 _ rfl sb rfl 44 _ _ (fun _ h => h) sty_u rfl (sty_i R)) hHeld ?_
            simp only [Act.put, List.setIfInBounds_toArray, List.set_cons_zero, List.set_cons_succ]
            refine callH (j := 4) (by kernel_rfl) rfl rfl (some 82) rfl 12 #[.agg (styA R)] (run_enter Tryd.func12 (by kernel_rfl) (by kernel_rfl) _ _ rfl #[.agg (styA R)] (by kernel_rfl) _) (size_b _ _) ?_
            rintro e w21 ⟨⟨n1, rfl⟩, hq1⟩
            have HT2 := hide (HT1.out.old hq1)
            have HP2 := hide (HP1.out.below hq1 HP1.out.lt)
            refine ⟨_, rfl, HT2.out.sty, ?_⟩
            simp only [Act.put, List.setIfInBounds_toArray, List.set_cons_zero, List.set_cons_succ]
            clear HT1 HP1 hq1
            refine callH (j := 7) (by kernel_rfl) rfl rfl (some 85) rfl 8 #[.agg (styA R)] (run_enter Tryd.func8 (by kernel_rfl) (by kernel_rfl) _ _ rfl #[.agg (styA R)] (by kernel_rfl) _) (high_b _ _) ?_
            rintro e w22 ⟨⟨n2, rfl⟩, hq2⟩
            have HT3 := hide (HT2.out.old hq2)
            have HP3 := hide (HP2.out.below hq2 HP2.out.lt)
            refine ⟨_, rfl, HT3.out.sty, ?_⟩
            simp only [Act.put, List.setIfInBounds_toArray, List.set_cons_zero, List.set_cons_succ]
            clear HT2 HP2 hq2
            refine callH (j := 10) (by kernel_rfl) rfl rfl (some 88) rfl 17 #[.agg (styA R)] (run_enter Tryd.func17 (by kernel_rfl) (by kernel_rfl) _ _ rfl #[.agg (styA R)] (by kernel_rfl) _) (shift_any _ _) ?_
            rintro e w23 ⟨⟨n3, rfl⟩, hq3⟩
            have HT4 := hide (HT3.out.old hq3)
            have HP4 := hide (HP3.out.below hq3 HP3.out.lt)
            refine ⟨_, rfl, HT4.out.sty, ?_⟩
            simp only [Act.put, List.setIfInBounds_toArray, List.set_cons_zero, List.set_cons_succ]
            clear HT3 HP3 hq3
            refine take_at (i := 11) (v := (Value.agg #[.int .i64 1, .int .i64 (at_ : Int), .string px, .int .i64 n1, .int .i64 spc, .int .i64 n2, .int .i64 mode, .int .i64 n3, .int .i64 0, .int .i64 0, .int .i64 0])) (some 89) rfl rfl (by kernel_rfl) (by kernel_rfl) (by kernel_rfl) (fun _ _ _ h => h) (yieldsIf_build (by rfl) 31 _ rfl [(0, .int .i64 1), (1, .int .i64 (at_ : Int)), (2, .string px), (3, .int .i64 n1), (4, .int .i64 spc), (5, .int .i64 n2), (6, .int .i64 mode), (7, .int .i64 n3)] rfl _ (by kernel_rfl)) HT4.out.sty ?_
            simp only [Act.put, List.setIfInBounds_toArray, List.set_cons_zero, List.set_cons_succ]
            obtain ⟨XI, hXI⟩ : ∃ XI : Li, XI = ⟨1, at_, px, fun j => if j = 3 then n1 else if j = 4 then spc else if j = 5 then n2 else if j = 6 then mode else if j = 7 then n3 else 0⟩ := ⟨_, rfl⟩
            refine callH (j := 12) (by kernel_rfl) rfl rfl (some 90) rfl 15 #[.pointer (some ⟨mb, 0, none⟩), .agg #[.int .i64 1, .int .i64 (at_ : Int), .string px, .int .i64 n1, .int .i64 spc, .int .i64 n2, .int .i64 mode, .int .i64 n3, .int .i64 0, .int .i64 0, .int .i64 0]] (run_enter Tryd.func15 (by kernel_rfl) (by kernel_rfl) _ _ rfl #[.pointer (some ⟨mb, 0, none⟩), .agg #[.int .i64 1, .int .i64 (at_ : Int), .string px, .int .i64 n1, .int .i64 spc, .int .i64 n2, .int .i64 mode, .int .i64 n3, .int .i64 0, .int .i64 0, .int .i64 0]] (by kernel_rfl) _) (put_any XI #[.int .i64 1, .int .i64 (at_ : Int), .string px, .int .i64 n1, .int .i64 spc, .int .i64 n2, .int .i64 mode, .int .i64 n3, .int .i64 0, .int .i64 0, .int .i64 0] (by rw [hXI]; rfl) _ B mb _ _ _ room _ _ (by omega) HT4.out.sz HT4.out.it) ?_
            rintro e w25 ⟨rfl, V9, hI9, hS9⟩
            have hP9 := HT4.out.it.keep hS9 HP4.out (by decide) (by decide)
            have hT9 := HT4.out.next hI9 hS9
            refine ⟨_, rfl, hT9.sty, ?_⟩
            simp only [Act.put, List.setIfInBounds_toArray, List.set_cons_zero, List.set_cons_succ]
            clear HT4 HP4 hI9 hS9
            refine wpAnyH_done (by kernel_rfl) ?_ _
            clear hHeld
            have HT9 := hide hT9
            have HP9 := hide hP9
            have HXI := hide hXI
            clear hT9 hP9 hXI
            go_wp2_with (first
              | (refine wpList_store_fld rfl 4 (.tmp 94) (.tmp 92) rfl mb 3 38 _ (.bool b2) rfl rfl HT9.out.it.blk (Nat.le_of_ble_eq_true rfl) maker_i rfl rfl ?_; intro w30 hB30 hG30; have HT30 := hide (HT9.out.blank b2 hB30 hG30); clear hB30 hG30)
              | fail)
            have HP30 := hide (HT9.out.it.keep HT30.out.2 HP9.out (by decide) (by decide))
            clear HT9 HP9
            go_roundw
            case rel => exact ⟨0 + 1, V9, b2, (s') ++ [XI], by omega, by go_num, by rw [← List.append_assoc]; exact HT30.out.1, HP30.out, bal_snoc hBa (by rw [HXI.out]; exact bal_text te), by first | omega | (simp; omega)⟩
            all_goals first | (simp only [intOf]; done) | (simp only [intOf]; omega)
          · have te : (px.toList.isEmpty) = true := hpe
            go_wp2_with fail
            go_roundw
            case rel => exact ⟨0 + 1, _, _, s', by omega, by go_num, HTa.out, HPa.out, hBal, by first | omega | (simp; omega)⟩
            all_goals first | (simp only [intOf]; done) | (simp only [intOf]; omega)
        · exact absurd hj0 (by omega)
      · obtain rfl : j = 1 := by omega
        clear hT hP
        go_wp2_with fail
        go_end0
        exact ⟨rfl, V8, b9, s', HTa.out.it, HTa.out.st, hBal, by omega⟩
  · go_wp2_with (first
      | (refine wpList_store_fld rfl 4 (.tmp 53) (.tmp 51) rfl mb 3 38 _ (.bool b2) rfl rfl HT10.out.it.blk (Nat.le_of_ble_eq_true rfl) maker_i rfl rfl ?_; intro w11 hB11 hG11; have HT11 := hide (HT10.out.blank b2 hB11 hG11).1; clear hB11 hG11)
      | (go_at_call 21; refine (keeps_any _ _).mono ?_; rintro e w9 ⟨rfl, rfl⟩; rw [hkm])
      | fail)
    have hba := (Below.refl w11.heap.size w11).alloc (Nat.le_refl _) (.cells #[.string tx] 9)
    have HT12a := hide (HT11.out.old hba)
    have hmv9 := (HT12a.out.bw.cell (p := ⟨0, 0, none⟩) hB0).trans HMV.out
    refine (Tryd.strings_Split tx ⟨#[10]⟩ mv _ (by omega) hmv9 (by decide)).mono ?_
    rintro e w12x ⟨rfl, rfl⟩
    have hcl := Lib.countB_le ⟨#[10]⟩ (by decide) tx.size tx (Nat.le_refl _)
    have hbb := (Below.refl (w11.alloc (.cells #[.string tx] 9)).heap.size (w11.alloc (.cells #[.string tx] 9))).alloc (Nat.le_refl _) (.cells ((Lib.splitB ⟨#[10]⟩ 0 (Lib.countB tx ⟨#[10]⟩) tx).map Value.string).toArray 9)
    have HT12 := hide (HT12a.out.old hbb)
    have HP := hide (Blk.new (w11.alloc (.cells #[.string tx] 9)) 9 ((Lib.splitB ⟨#[10]⟩ 0 (Lib.countB tx ⟨#[10]⟩) tx).map Value.string).toArray)
    have hlen := Lib.splitB_all ⟨#[10]⟩ (by decide) 0 _ tx rfl
    obtain ⟨CP, hCPe⟩ : ∃ CP : Array Value, CP = ((Lib.splitB ⟨#[10]⟩ 0 (Lib.countB tx ⟨#[10]⟩) tx).map Value.string).toArray := ⟨_, rfl⟩
    rw [← hCPe] at HP HT12 ⊢
    obtain ⟨np, hnpe⟩ : ∃ np, np = Lib.countB tx ⟨#[10]⟩ + 1 := ⟨_, rfl⟩
    rw [← hnpe] at hlen ⊢
    have hCP : ∀ i, i < np → ∃ p, CP[i]? = some (.string p) := fun i hi => by
      rw [hCPe, List.getElem?_toArray, List.getElem?_map, List.getElem?_eq_getElem (by omega)]
      exact ⟨_, rfl⟩
    have hnp : np ≤ T.size + 1 := by omega
    clear hba hbb HT11 hCPe HT10 HT12a hmv9 hcl hlen hnpe
    generalize (w11.alloc (.cells #[.string tx] 9)).alloc (.cells CP 9) = w12 at *
    obtain ⟨gp, hgp⟩ : ∃ gp, gp = (w11.alloc (.cells #[.string tx] 9)).heap.size := ⟨_, rfl⟩
    rw [← hgp] at HP ⊢
    clear hgp
    go_wp2_with fail
    go_loopw [62] (fun i wr => ∃ (j : Nat) (V9 : Value) (b9 : Bool) (s' : List Li), j ≤ np ∧ i = .int .i64 j ∧ TxS w wr B mb sb (.slice (some ⟨g, off, none⟩) n cB) (.slice (some ⟨gl, ol, none⟩) n cl) room b9 V V9 (s ++ s') R ∧ Blk wr gp 9 CP ∧ Bal (s'.map liKey) ∧ s'.length ≤ 2 * j) (fun i _ => np - (intOf i).toNat)
    case atStart => exact ⟨0, V, b2, [], Nat.zero_le _, rfl, by rw [List.append_nil]; exact HT12.out, HP.out, Bal.nil, Nat.le_refl _⟩
    case round =>
      clear HT12 HP
      obtain ⟨j, V8, b9, s', hj, rfl, hT, hP, hBal, hsl⟩ := hrel
      have HTa := hide hT
      have HPa := hide hP
      by_cases hjl : j < np
      · obtain ⟨px, hpx⟩ := hCP j hjl
        have q0 : wr.cell? ⟨gp, j, none⟩ = some (.string px) := (hP.cell j).trans hpx
        have hls : (s ++ s').length ≤ 10000000 := by first | omega | (simp; omega)
        clear hT hP hpx
        by_cases hj0 : j = 0
        · subst hj0
          cases hpe : px.toList.isEmpty
          · have te : (px.toList.isEmpty) = false := hpe
            go_wp2_with fail
            clear q0
            have hlim2 : (s ++ (s')).length ≤ 10000000 := by first | omega | (simp; omega)
            have hBa : Bal ((s').map liKey) := hBal
            have HTz := HTa
            have HPz := HPa
            clear HTa HPa
            generalize hwz : wr = wz at *
            clear hwz
            have hbd0 := Below.drew (Below.refl wz.heap.size wz)
            have HT1 := hide (HTz.out.old hbd0)
            have HP1 := hide (HPz.out.below hbd0 HPz.out.lt)
            clear hbd0 HTz HPz
            refine wp_region_HL 13 #[false, false, false, false, false, false, false, false, false, false, false, false, false] (by kernel_rfl) (by kernel_rfl) (S := fun Z => Blk Z sb 44 (styA R)) (by kernel_rfl) HT1.out.sty (fun hHeld => ?_)
            generalize wz.drew = wD at *
            refine take_at (i := 0) (v := (Value.pointer (some ⟨mb, 0, none⟩))) (some 78) rfl rfl (by kernel_rfl) (by kernel_rfl) (by kernel_rfl) (fun _ _ _ h => h) (yieldsIf_move (by rfl) _ rfl _ rfl) hHeld ?_
            simp only [Act.put, List.setIfInBounds_toArray, List.set_cons_zero, List.set_cons_succ]
            refine take_at (i := 1) (v := (.int .i64 (at_ : Int))) (some 79) rfl rfl (by kernel_rfl) (by kernel_rfl) (by kernel_rfl) (fun _ _ _ h => h) (yieldsIf_move (by rfl) _ rfl _ rfl) hHeld ?_
            simp only [Act.put, List.setIfInBounds_toArray, List.set_cons_zero, List.set_cons_succ]
            refine take_at (i := 2) (v := (.string px)) (some 80) rfl rfl (by kernel_rfl) (by kernel_rfl) (by kernel_rfl) (fun _ _ _ h => h) (yieldsIf_move (by rfl) _ rfl _ rfl) hHeld ?_
            simp only [Act.put, List.setIfInBounds_toArray, List.set_cons_zero, List.set_cons_succ]
            refine take_at (i := 3) (v := (Value.agg (styA R))) (some 81) rfl rfl (by kernel_rfl) (by kernel_rfl) (by kernel_rfl) (fun _ _ _ h => h) (yieldsIf_load_blk (by rfl) 44 _ rfl sb rfl 44 _ _ (fun _ h => h) sty_u rfl (sty_i R)) hHeld ?_
            simp only [Act.put, List.setIfInBounds_toArray, List.set_cons_zero, List.set_cons_succ]
            refine take_at (i := 5) (v := (.int .i64 spc)) (some 83) rfl rfl (by kernel_rfl) (by kernel_rfl) (by kernel_rfl) (fun _ _ _ h => h) (yieldsIf_move (by rfl) _ rfl _ rfl) hHeld ?_
            simp only [Act.put, List.setIfInBounds_toArray, List.set_cons_zero, List.set_cons_succ]
            refine take_at (i := 6) (v := (Value.agg (styA R))) (some 84) rfl rfl (by kernel_rfl) (by kernel_rfl) (by kernel_rfl) (fun _ _ _ h => h) (yieldsIf_load_blk (by rfl) 44 _ rfl sb rfl 44 _ _ (fun _ h => h) sty_u rfl (sty_i R)) hHeld ?_
            simp only [Act.put, List.setIfInBounds_toArray, List.set_cons_zero, List.set_cons_succ]
            refine take_at (i := 8) (v := (.int .i64 mode)) (some 86) rfl rfl (by kernel_rfl) (by kernel_rfl) (by kernel_rfl) (fun _ _ _ h => h) (yieldsIf_move (by rfl) _ rfl _ rfl) hHeld ?_
            simp only [Act.put, List.setIfInBounds_toArray, List.set_cons_zero, List.set_cons_succ]
            refine take_at (i := 9) (v := (Value.agg (styA R))) (some 87) rfl rfl (by kernel_rfl) (by kernel_rfl) (by kernel_rfl) (fun _ _ _ h => h) (yieldsIf_load_blk (by rfl) 44 _ rfl sb rfl 44 _ _ (fun _ h => h) sty_u rfl (sty_i R)) hHeld ?_
            simp only [Act.put, List.setIfInBounds_toArray, List.set_cons_zero, List.set_cons_succ]
            refine callH (j := 4) (by kernel_rfl) rfl rfl (some 82) rfl 12 #[.agg (styA R)] (run_enter Tryd.func12 (by kernel_rfl) (by kernel_rfl) _ _ rfl #[.agg (styA R)] (by kernel_rfl) _) (size_b _ _) ?_
            rintro e w21 ⟨⟨n1, rfl⟩, hq1⟩
            have HT2 := hide (HT1.out.old hq1)
            have HP2 := hide (HP1.out.below hq1 HP1.out.lt)
            refine ⟨_, rfl, HT2.out.sty, ?_⟩
            simp only [Act.put, List.setIfInBounds_toArray, List.set_cons_zero, List.set_cons_succ]
            clear HT1 HP1 hq1
            refine callH (j := 7) (by kernel_rfl) rfl rfl (some 85) rfl 8 #[.agg (styA R)] (run_enter Tryd.func8 (by kernel_rfl) (by kernel_rfl) _ _ rfl #[.agg (styA R)] (by kernel_rfl) _) (high_b _ _) ?_
            rintro e w22 ⟨⟨n2, rfl⟩, hq2⟩
            have HT3 := hide (HT2.out.old hq2)
            have HP3 := hide (HP2.out.below hq2 HP2.out.lt)
            refine ⟨_, rfl, HT3.out.sty, ?_⟩
            simp only [Act.put, List.setIfInBounds_toArray, List.set_cons_zero, List.set_cons_succ]
            clear HT2 HP2 hq2
            refine callH (j := 10) (by kernel_rfl) rfl rfl (some 88) rfl 17 #[.agg (styA R)] (run_enter Tryd.func17 (by kernel_rfl) (by kernel_rfl) _ _ rfl #[.agg (styA R)] (by kernel_rfl) _) (shift_any _ _) ?_
            rintro e w23 ⟨⟨n3, rfl⟩, hq3⟩
            have HT4 := hide (HT3.out.old hq3)
            have HP4 := hide (HP3.out.below hq3 HP3.out.lt)
            refine ⟨_, rfl, HT4.out.sty, ?_⟩
            simp only [Act.put, List.setIfInBounds_toArray, List.set_cons_zero, List.set_cons_succ]
            clear HT3 HP3 hq3
            refine take_at (i := 11) (v := (Value.agg #[.int .i64 1, .int .i64 (at_ : Int), .string px, .int .i64 n1, .int .i64 spc, .int .i64 n2, .int .i64 mode, .int .i64 n3, .int .i64 0, .int .i64 0, .int .i64 0])) (some 89) rfl rfl (by kernel_rfl) (by kernel_rfl) (by kernel_rfl) (fun _ _ _ h => h) (yieldsIf_build (by rfl) 31 _ rfl [(0, .int .i64 1), (1, .int .i64 (at_ : Int)), (2, .string px), (3, .int .i64 n1), (4, .int .i64 spc), (5, .int .i64 n2), (6, .int .i64 mode), (7, .int .i64 n3)] rfl _ (by kernel_rfl)) HT4.out.sty ?_
            simp only [Act.put, List.setIfInBounds_toArray, List.set_cons_zero, List.set_cons_succ]
            obtain ⟨XI, hXI⟩ : ∃ XI : Li, XI = ⟨1, at_, px, fun j => if j = 3 then n1 else if j = 4 then spc else if j = 5 then n2 else if j = 6 then mode else if j = 7 then n3 else 0⟩ := ⟨_, rfl⟩
            refine callH (j := 12) (by kernel_rfl) rfl rfl (some 90) rfl 15 #[.pointer (some ⟨mb, 0, none⟩), .agg #[.int .i64 1, .int .i64 (at_ : Int), .string px, .int .i64 n1, .int .i64 spc, .int .i64 n2, .int .i64 mode, .int .i64 n3, .int .i64 0, .int .i64 0, .int .i64 0]] (run_enter Tryd.func15 (by kernel_rfl) (by kernel_rfl) _ _ rfl #[.pointer (some ⟨mb, 0, none⟩), .agg #[.int .i64 1, .int .i64 (at_ : Int), .string px, .int .i64 n1, .int .i64 spc, .int .i64 n2, .int .i64 mode, .int .i64 n3, .int .i64 0, .int .i64 0, .int .i64 0]] (by kernel_rfl) _) (put_any XI #[.int .i64 1, .int .i64 (at_ : Int), .string px, .int .i64 n1, .int .i64 spc, .int .i64 n2, .int .i64 mode, .int .i64 n3, .int .i64 0, .int .i64 0, .int .i64 0] (by rw [hXI]; rfl) _ B mb _ _ _ room _ _ (by omega) HT4.out.sz HT4.out.it) ?_
            rintro e w25 ⟨rfl, V9, hI9, hS9⟩
            have hP9 := HT4.out.it.keep hS9 HP4.out (by decide) (by decide)
            have hT9 := HT4.out.next hI9 hS9
            refine ⟨_, rfl, hT9.sty, ?_⟩
            simp only [Act.put, List.setIfInBounds_toArray, List.set_cons_zero, List.set_cons_succ]
            clear HT4 HP4 hI9 hS9
            refine wpAnyH_done (by kernel_rfl) ?_ _
            clear hHeld
            have HT9 := hide hT9
            have HP9 := hide hP9
            have HXI := hide hXI
            clear hT9 hP9 hXI
            go_wp2_with (first
              | (refine wpList_store_fld rfl 4 (.tmp 94) (.tmp 92) rfl mb 3 38 _ (.bool b2) rfl rfl HT9.out.it.blk (Nat.le_of_ble_eq_true rfl) maker_i rfl rfl ?_; intro w30 hB30 hG30; have HT30 := hide (HT9.out.blank b2 hB30 hG30); clear hB30 hG30)
              | fail)
            have HP30 := hide (HT9.out.it.keep HT30.out.2 HP9.out (by decide) (by decide))
            clear HT9 HP9
            go_roundw
            case rel => exact ⟨0 + 1, V9, b2, (s') ++ [XI], by omega, by go_num, by rw [← List.append_assoc]; exact HT30.out.1, HP30.out, bal_snoc hBa (by rw [HXI.out]; exact bal_text te), by first | omega | (simp; omega)⟩
            all_goals first | (simp only [intOf]; done) | (simp only [intOf]; omega)
          · have te : (px.toList.isEmpty) = true := hpe
            go_wp2_with fail
            go_roundw
            case rel => exact ⟨0 + 1, _, _, s', by omega, by go_num, HTa.out, HPa.out, hBal, by first | omega | (simp; omega)⟩
            all_goals first | (simp only [intOf]; done) | (simp only [intOf]; omega)
        · have hj1 : decide (0 < j) = true := decide_eq_true (by omega)
          cases hpe : px.toList.isEmpty
          · have te : (px.toList.isEmpty) = false := hpe
            go_wp2_with (first
              | (go_at_call 15; refine (put_any (Li.mk 6 at_ ByteArray.empty fun _ => 0) _ rfl _ B mb _ _ _ room _ _ hls HTa.out.sz HTa.out.it).mono ?_; rintro e w13 ⟨rfl, V13, hI13, hS13⟩; have HT13 := hide (HTa.out.next hI13 hS13); have HP13 := hide (HTa.out.it.keep hS13 HPa.out (by decide) (by decide)); clear hI13 hS13)
              | (refine wpList_store_fld rfl 4 (.tmp 75) (.const (.bool true)) rfl mb 3 38 _ (.bool true) rfl rfl HT13.out.it.blk (Nat.le_of_ble_eq_true rfl) maker_i rfl rfl ?_; intro w14 hB14 hG14; have HT14 := hide (HT13.out.blank true hB14 hG14); clear hB14 hG14)
              | fail)
            have HP14 := hide (HT13.out.it.keep HT14.out.2 HP13.out (by decide) (by decide))
            have HT15 := hide (show TxS w w14 B mb sb (.slice (some ⟨g, off, none⟩) n cB) (.slice (some ⟨gl, ol, none⟩) n cl) room true V V13 (s ++ (s' ++ [(Li.mk 6 at_ ByteArray.empty fun _ => 0)])) R by rw [← List.append_assoc]; exact HT14.out.1)
            clear HT14 HT13 HP13 HTa HPa
            clear q0
            have hlim2 : (s ++ (s' ++ [(Li.mk 6 at_ ByteArray.empty fun _ => 0)])).length ≤ 10000000 := by first | omega | (simp; omega)
            have hBa : Bal ((s' ++ [(Li.mk 6 at_ ByteArray.empty fun _ => 0)]).map liKey) := bal_snoc hBal bal_must
            have HTz := HT15
            have HPz := HP14
            clear HT15 HP14
            generalize hwz : w14 = wz at *
            clear hwz
            have hbd0 := Below.drew (Below.refl wz.heap.size wz)
            have HT1 := hide (HTz.out.old hbd0)
            have HP1 := hide (HPz.out.below hbd0 HPz.out.lt)
            clear hbd0 HTz HPz
            refine wp_region_HL 13 #[false, false, false, false, false, false, false, false, false, false, false, false, false] (by kernel_rfl) (by kernel_rfl) (S := fun Z => Blk Z sb 44 (styA R)) (by kernel_rfl) HT1.out.sty (fun hHeld => ?_)
            generalize wz.drew = wD at *
            refine take_at (i := 0) (v := (Value.pointer (some ⟨mb, 0, none⟩))) (some 78) rfl rfl (by kernel_rfl) (by kernel_rfl) (by kernel_rfl) (fun _ _ _ h => h) (yieldsIf_move (by rfl) _ rfl _ rfl) hHeld ?_
            simp only [Act.put, List.setIfInBounds_toArray, List.set_cons_zero, List.set_cons_succ]
            refine take_at (i := 1) (v := (.int .i64 (at_ : Int))) (some 79) rfl rfl (by kernel_rfl) (by kernel_rfl) (by kernel_rfl) (fun _ _ _ h => h) (yieldsIf_move (by rfl) _ rfl _ rfl) hHeld ?_
            simp only [Act.put, List.setIfInBounds_toArray, List.set_cons_zero, List.set_cons_succ]
            refine take_at (i := 2) (v := (.string px)) (some 80) rfl rfl (by kernel_rfl) (by kernel_rfl) (by kernel_rfl) (fun _ _ _ h => h) (yieldsIf_move (by rfl) _ rfl _ rfl) hHeld ?_
            simp only [Act.put, List.setIfInBounds_toArray, List.set_cons_zero, List.set_cons_succ]
            refine take_at (i := 3) (v := (Value.agg (styA R))) (some 81) rfl rfl (by kernel_rfl) (by kernel_rfl) (by kernel_rfl) (fun _ _ _ h => h) (yieldsIf_load_blk (by rfl) 44 _ rfl sb rfl 44 _ _ (fun _ h => h) sty_u rfl (sty_i R)) hHeld ?_
            simp only [Act.put, List.setIfInBounds_toArray, List.set_cons_zero, List.set_cons_succ]
            refine take_at (i := 5) (v := (.int .i64 spc)) (some 83) rfl rfl (by kernel_rfl) (by kernel_rfl) (by kernel_rfl) (fun _ _ _ h => h) (yieldsIf_move (by rfl) _ rfl _ rfl) hHeld ?_
            simp only [Act.put, List.setIfInBounds_toArray, List.set_cons_zero, List.set_cons_succ]
            refine take_at (i := 6) (v := (Value.agg (styA R))) (some 84) rfl rfl (by kernel_rfl) (by kernel_rfl) (by kernel_rfl) (fun _ _ _ h => h) (yieldsIf_load_blk (by rfl) 44 _ rfl sb rfl 44 _ _ (fun _ h => h) sty_u rfl (sty_i R)) hHeld ?_
            simp only [Act.put, List.setIfInBounds_toArray, List.set_cons_zero, List.set_cons_succ]
            refine take_at (i := 8) (v := (.int .i64 mode)) (some 86) rfl rfl (by kernel_rfl) (by kernel_rfl) (by kernel_rfl) (fun _ _ _ h => h) (yieldsIf_move (by rfl) _ rfl _ rfl) hHeld ?_
            simp only [Act.put, List.setIfInBounds_toArray, List.set_cons_zero, List.set_cons_succ]
            refine take_at (i := 9) (v := (Value.agg (styA R))) (some 87) rfl rfl (by kernel_rfl) (by kernel_rfl) (by kernel_rfl) (fun _ _ _ h => h) (yieldsIf_load_blk (by rfl) 44 _ rfl sb rfl 44 _ _ (fun _ h => h) sty_u rfl (sty_i R)) hHeld ?_
            simp only [Act.put, List.setIfInBounds_toArray, List.set_cons_zero, List.set_cons_succ]
            refine callH (j := 4) (by kernel_rfl) rfl rfl (some 82) rfl 12 #[.agg (styA R)] (run_enter Tryd.func12 (by kernel_rfl) (by kernel_rfl) _ _ rfl #[.agg (styA R)] (by kernel_rfl) _) (size_b _ _) ?_
            rintro e w21 ⟨⟨n1, rfl⟩, hq1⟩
            have HT2 := hide (HT1.out.old hq1)
            have HP2 := hide (HP1.out.below hq1 HP1.out.lt)
            refine ⟨_, rfl, HT2.out.sty, ?_⟩
            simp only [Act.put, List.setIfInBounds_toArray, List.set_cons_zero, List.set_cons_succ]
            clear HT1 HP1 hq1
            refine callH (j := 7) (by kernel_rfl) rfl rfl (some 85) rfl 8 #[.agg (styA R)] (run_enter Tryd.func8 (by kernel_rfl) (by kernel_rfl) _ _ rfl #[.agg (styA R)] (by kernel_rfl) _) (high_b _ _) ?_
            rintro e w22 ⟨⟨n2, rfl⟩, hq2⟩
            have HT3 := hide (HT2.out.old hq2)
            have HP3 := hide (HP2.out.below hq2 HP2.out.lt)
            refine ⟨_, rfl, HT3.out.sty, ?_⟩
            simp only [Act.put, List.setIfInBounds_toArray, List.set_cons_zero, List.set_cons_succ]
            clear HT2 HP2 hq2
            refine callH (j := 10) (by kernel_rfl) rfl rfl (some 88) rfl 17 #[.agg (styA R)] (run_enter Tryd.func17 (by kernel_rfl) (by kernel_rfl) _ _ rfl #[.agg (styA R)] (by kernel_rfl) _) (shift_any _ _) ?_
            rintro e w23 ⟨⟨n3, rfl⟩, hq3⟩
            have HT4 := hide (HT3.out.old hq3)
            have HP4 := hide (HP3.out.below hq3 HP3.out.lt)
            refine ⟨_, rfl, HT4.out.sty, ?_⟩
            simp only [Act.put, List.setIfInBounds_toArray, List.set_cons_zero, List.set_cons_succ]
            clear HT3 HP3 hq3
            refine take_at (i := 11) (v := (Value.agg #[.int .i64 1, .int .i64 (at_ : Int), .string px, .int .i64 n1, .int .i64 spc, .int .i64 n2, .int .i64 mode, .int .i64 n3, .int .i64 0, .int .i64 0, .int .i64 0])) (some 89) rfl rfl (by kernel_rfl) (by kernel_rfl) (by kernel_rfl) (fun _ _ _ h => h) (yieldsIf_build (by rfl) 31 _ rfl [(0, .int .i64 1), (1, .int .i64 (at_ : Int)), (2, .string px), (3, .int .i64 n1), (4, .int .i64 spc), (5, .int .i64 n2), (6, .int .i64 mode), (7, .int .i64 n3)] rfl _ (by kernel_rfl)) HT4.out.sty ?_
            simp only [Act.put, List.setIfInBounds_toArray, List.set_cons_zero, List.set_cons_succ]
            obtain ⟨XI, hXI⟩ : ∃ XI : Li, XI = ⟨1, at_, px, fun j => if j = 3 then n1 else if j = 4 then spc else if j = 5 then n2 else if j = 6 then mode else if j = 7 then n3 else 0⟩ := ⟨_, rfl⟩
            refine callH (j := 12) (by kernel_rfl) rfl rfl (some 90) rfl 15 #[.pointer (some ⟨mb, 0, none⟩), .agg #[.int .i64 1, .int .i64 (at_ : Int), .string px, .int .i64 n1, .int .i64 spc, .int .i64 n2, .int .i64 mode, .int .i64 n3, .int .i64 0, .int .i64 0, .int .i64 0]] (run_enter Tryd.func15 (by kernel_rfl) (by kernel_rfl) _ _ rfl #[.pointer (some ⟨mb, 0, none⟩), .agg #[.int .i64 1, .int .i64 (at_ : Int), .string px, .int .i64 n1, .int .i64 spc, .int .i64 n2, .int .i64 mode, .int .i64 n3, .int .i64 0, .int .i64 0, .int .i64 0]] (by kernel_rfl) _) (put_any XI #[.int .i64 1, .int .i64 (at_ : Int), .string px, .int .i64 n1, .int .i64 spc, .int .i64 n2, .int .i64 mode, .int .i64 n3, .int .i64 0, .int .i64 0, .int .i64 0] (by rw [hXI]; rfl) _ B mb _ _ _ room _ _ (by omega) HT4.out.sz HT4.out.it) ?_
            rintro e w25 ⟨rfl, V9, hI9, hS9⟩
            have hP9 := HT4.out.it.keep hS9 HP4.out (by decide) (by decide)
            have hT9 := HT4.out.next hI9 hS9
            refine ⟨_, rfl, hT9.sty, ?_⟩
            simp only [Act.put, List.setIfInBounds_toArray, List.set_cons_zero, List.set_cons_succ]
            clear HT4 HP4 hI9 hS9
            refine wpAnyH_done (by kernel_rfl) ?_ _
            clear hHeld
            have HT9 := hide hT9
            have HP9 := hide hP9
            have HXI := hide hXI
            clear hT9 hP9 hXI
            go_wp2_with (first
              | (refine wpList_store_fld rfl 4 (.tmp 94) (.tmp 92) rfl mb 3 38 _ (.bool b2) rfl rfl HT9.out.it.blk (Nat.le_of_ble_eq_true rfl) maker_i rfl rfl ?_; intro w30 hB30 hG30; have HT30 := hide (HT9.out.blank b2 hB30 hG30); clear hB30 hG30)
              | fail)
            have HP30 := hide (HT9.out.it.keep HT30.out.2 HP9.out (by decide) (by decide))
            clear HT9 HP9
            go_roundw
            case rel => exact ⟨j + 1, V9, b2, (s' ++ [(Li.mk 6 at_ ByteArray.empty fun _ => 0)]) ++ [XI], by omega, by go_num, by rw [← List.append_assoc]; exact HT30.out.1, HP30.out, bal_snoc hBa (by rw [HXI.out]; exact bal_text te), by first | omega | (simp; omega)⟩
            all_goals first | (simp only [intOf]; done) | (simp only [intOf]; omega)
          · have te : (px.toList.isEmpty) = true := hpe
            go_wp2_with (first
              | (go_at_call 15; refine (put_any (Li.mk 6 at_ ByteArray.empty fun _ => 0) _ rfl _ B mb _ _ _ room _ _ hls HTa.out.sz HTa.out.it).mono ?_; rintro e w13 ⟨rfl, V13, hI13, hS13⟩; have HT13 := hide (HTa.out.next hI13 hS13); have HP13 := hide (HTa.out.it.keep hS13 HPa.out (by decide) (by decide)); clear hI13 hS13)
              | (refine wpList_store_fld rfl 4 (.tmp 75) (.const (.bool true)) rfl mb 3 38 _ (.bool true) rfl rfl HT13.out.it.blk (Nat.le_of_ble_eq_true rfl) maker_i rfl rfl ?_; intro w14 hB14 hG14; have HT14 := hide (HT13.out.blank true hB14 hG14); clear hB14 hG14)
              | fail)
            have HP14 := hide (HT13.out.it.keep HT14.out.2 HP13.out (by decide) (by decide))
            have HT15 := hide (show TxS w w14 B mb sb (.slice (some ⟨g, off, none⟩) n cB) (.slice (some ⟨gl, ol, none⟩) n cl) room true V V13 (s ++ (s' ++ [(Li.mk 6 at_ ByteArray.empty fun _ => 0)])) R by rw [← List.append_assoc]; exact HT14.out.1)
            clear HT14 HT13 HP13 HTa HPa
            go_roundw
            case rel => exact ⟨j + 1, _, _, s' ++ [(Li.mk 6 at_ ByteArray.empty fun _ => 0)], by omega, by go_num, HT15.out, HP14.out, bal_snoc hBal bal_must, by first | omega | (simp; omega)⟩
            all_goals first | (simp only [intOf]; done) | (simp only [intOf]; omega)
      · obtain rfl : j = np := by omega
        clear hT hP
        go_wp2_with fail
        go_end0
        exact ⟨rfl, V8, b9, s', HTa.out.it, HTa.out.st, hBal, by omega⟩
end Go.Proofs.YtdnnodpkgncegaaDoor
