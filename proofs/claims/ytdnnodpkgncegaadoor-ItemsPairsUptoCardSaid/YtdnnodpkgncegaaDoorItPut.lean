/- The walk of maker.put. -/
import Derived.BigQuiet
import Derived.Handy
import Derived.IntWalk
import Derived.RegionTactic
import Derived.Deep.MidRow
import Derived.Deep.CutBlock
import Derived.Test.YtdnnodpkgncegaaDoorItMem
import Derived.Test.YtdnnodpkgncegaaDoorFix
import Derived.Test.YtdnnodpkgncegaaDoorOpen
namespace Go.Proofs.YtdnnodpkgncegaaDoor
open Go.ChangeShapes Go.WideShapes Go.ChangeAt Go.RowKit
theorem item_info : (Tryd.prog.info? 31).map (fun i => (i.zero, i.size, i.bytes)) = some (some (.agg #[.int .i64 0, .int .i64 0, .string ByteArray.empty, .int .i64 0, .int .i64 0, .int .i64 0, .int .i64 0, .int .i64 0, .int .i64 0, .int .i64 0, .int .i64 0]), 11, 96) := by kernel_rfl
set_option maxRecDepth 100000 in
set_option maxHeartbeats 4000000 in
theorem put_any (x : Li) (C : Array Value) (hC : C = liA x) (w : World) (B mb : Nat) (Sb Sl V : Value) (room : Int) (bl : Bool) (s : List Li) (hs : s.length ≤ 10000000) (hB : B ≤ w.heap.size) (hI : ItV w B mb Sb Sl room bl V s) :
    Calls Tryd.prog 15 #[.pointer (some ⟨mb, 0, none⟩), .agg C] w fun e w' => e = .returned (.tuple #[]) ∧ ∃ V', ItV w' B mb Sb Sl room bl V' (s ++ [x]) ∧ Stp mb w V w' V' := by
  subst hC
  obtain ⟨A, c, rfl, hsc, _⟩ := own_reads hI.row
  have hb0 := (Below.refl w.heap.size w).alloc (Nat.le_refl _) (.cells (liA x) 31)
  have HI := hide (hI.old hb0)
  have HS := hide (Stp.of_below (bo := mb) hb0 (.slice A s.length c))
  have HX := hide (Blk.new w 31 (liA x))
  have hsz : B ≤ (w.alloc (.cells (liA x) 31)).heap.size := Nat.le_trans hB hb0.size
  have HXN := hide (show (Value.slice A s.length c).ownBlock ≠ some w.heap.size from fun e => by have := own_lt hI.row _ e; omega)
  clear hI hb0 hsc
  go_enter Tryd.func15, Tryd.ntmps15
  go_wp2_with fail
  obtain ⟨bx, hbx⟩ : ∃ bx, bx = w.heap.size := ⟨_, rfl⟩
  rw [← hbx] at HX HXN ⊢
  clear hbx
  generalize w.alloc (.cells (liA x) 31) = wr at *
  obtain ⟨XI, hXI⟩ : ∃ XI : Li, XI = x := ⟨_, rfl⟩
  obtain ⟨k, b, t, o⟩ := x
  have HLA := hide (show liA ⟨k, b, t, o⟩ = #[.int .i64 k, .int .i64 b, .string t, .int .i64 (o 3), .int .i64 (o 4), .int .i64 (o 5), .int .i64 (o 6), .int .i64 (o 7), .int .i64 (o 8), .int .i64 (o 9), .int .i64 (o 10)] from rfl)
  rw [HLA.out] at HX ⊢
  have HLB := hide (show (liA XI).toList = [.int .i64 k, .int .i64 b, .string t, .int .i64 (o 3), .int .i64 (o 4), .int .i64 (o 5), .int .i64 (o 6), .int .i64 (o 7), .int .i64 (o 8), .int .i64 (o 9), .int .i64 (o 10)] from by rw [hXI]; rfl)
  have HXE := hide hXI
  clear hXI HLA
  generalize o 3 = o3 at *
  generalize o 4 = o4 at *
  generalize o 5 = o5 at *
  generalize o 6 = o6 at *
  generalize o 7 = o7 at *
  generalize o 8 = o8 at *
  generalize o 9 = o9 at *
  generalize o 10 = o10 at *
  have hbd0 := Below.drew (Below.refl wr.heap.size wr)
  have HX1 := hide HX.out.drew
  have HI1 := hide (HI.out.old hbd0)
  have HS1 := hide (HS.out.trans (Stp.of_below (bo := mb) hbd0 (.slice A s.length c)))
  have hszd : B ≤ wr.drew.heap.size := Nat.le_trans hsz hbd0.size
  clear hbd0 HX HI HS
  refine wp_region_KL (k := 10) 11 #[false, false, false, false, false, false, false, false, false, false, false] (by kernel_rfl) (by kernel_rfl) (S := fun Z => Blk Z bx 31 #[.int .i64 k, .int .i64 b, .string t, .int .i64 o3, .int .i64 o4, .int .i64 o5, .int .i64 o6, .int .i64 o7, .int .i64 o8, .int .i64 o9, .int .i64 o10] ∧ Z.cell? ⟨mb, 4, none⟩ = some (.slice A s.length c)) (by kernel_rfl) ⟨HX1.out, HI1.out.blk.cell 4⟩ (fun hHeld => ?_)
  generalize wr.drew = wD at *
  refine takeK (i := 0) (v := (Value.pointer (some ⟨mb, 0, none⟩))) [8, 9, 10] (some 4) rfl rfl rfl (by kernel_rfl) (by kernel_rfl) (by kernel_rfl) (by kernel_rfl) (fun _ _ _ h => h) (by rfl) (yieldsIf_move (by rfl) _ rfl _ rfl) hHeld ?_
  simp only [Act.put, List.setIfInBounds_toArray, List.set_cons_zero, List.set_cons_succ]
  refine takeK (i := 1) (v := (Value.pointer (some ⟨mb, 0, none⟩))) [2, 3, 4, 7, 8, 9, 10] (some 5) rfl rfl rfl (by kernel_rfl) (by kernel_rfl) (by kernel_rfl) (by kernel_rfl) (fun _ _ _ h => h) (by rfl) (yieldsIf_move (by rfl) _ rfl _ rfl) hHeld ?_
  simp only [Act.put, List.setIfInBounds_toArray, List.set_cons_zero, List.set_cons_succ]
  refine takeK (i := 2) (v := (Value.pointer (some ⟨mb, 0, none⟩))) [3, 4, 7, 8, 9, 10] (some 6) rfl rfl rfl (by kernel_rfl) (by kernel_rfl) (by kernel_rfl) (by kernel_rfl) (fun _ _ _ h => h) (by rfl) (yieldsIf_nil (by rfl) _ rfl _ rfl) hHeld ?_
  simp only [Act.put, List.setIfInBounds_toArray, List.set_cons_zero, List.set_cons_succ]
  refine takeK (i := 3) (v := (Value.pointer (some ⟨mb, 4, none⟩))) [4, 7, 8, 9, 10] (some 7) rfl rfl rfl (by kernel_rfl) (by kernel_rfl) (by kernel_rfl) (by kernel_rfl) (fun _ _ _ h => h) (by rfl) (yieldsIf_faddr (by rfl) 38 _ 4 rfl _ _ 4 rfl (by kernel_rfl)) hHeld ?_
  simp only [Act.put, List.setIfInBounds_toArray, List.set_cons_zero, List.set_cons_succ]
  refine takeK (i := 4) (v := (.slice A s.length c)) [7, 8, 9, 10] (some 8) rfl rfl rfl (by kernel_rfl) (by kernel_rfl) (by kernel_rfl) (by kernel_rfl) (fun _ _ _ h => h) (by rfl) (yieldsIf_load1 (by rfl) 24 _ rfl _ _ _ rfl (by kernel_rfl) (fun _ h => h.2)) hHeld ?_
  simp only [Act.put, List.setIfInBounds_toArray, List.set_cons_zero, List.set_cons_succ]
  refine takeK (i := 5) (v := (Value.agg #[.int .i64 k, .int .i64 b, .string t, .int .i64 o3, .int .i64 o4, .int .i64 o5, .int .i64 o6, .int .i64 o7, .int .i64 o8, .int .i64 o9, .int .i64 o10])) [6, 7, 8, 9, 10] (some 9) rfl rfl rfl (by kernel_rfl) (by kernel_rfl) (by kernel_rfl) (by kernel_rfl) (fun _ _ _ h => h) (by rfl) (yieldsIf_load_blk (by rfl) 31 _ rfl bx rfl 31 _ _ (fun _ h => h.1) (by rfl) rfl (by kernel_rfl)) hHeld ?_
  simp only [Act.put, List.setIfInBounds_toArray, List.set_cons_zero, List.set_cons_succ]
  have hba := (Below.refl wD.heap.size wD).alloc (Nat.le_refl _) (.cells #[.int .i64 k, .int .i64 b, .string t, .int .i64 o3, .int .i64 o4, .int .i64 o5, .int .i64 o6, .int .i64 o7, .int .i64 o8, .int .i64 o9, .int .i64 o10] 31)
  have HXv := hide (HX1.out.alloc (.cells #[.int .i64 k, .int .i64 b, .string t, .int .i64 o3, .int .i64 o4, .int .i64 o5, .int .i64 o6, .int .i64 o7, .int .i64 o8, .int .i64 o9, .int .i64 o10] 31))
  have HIv := hide (HI1.out.old hba)
  have HSv := hide (HS1.out.trans (Stp.of_below (bo := mb) hba (.slice A s.length c)))
  have HNv := hide (Blk.new wD 31 #[.int .i64 k, .int .i64 b, .string t, .int .i64 o3, .int .i64 o4, .int .i64 o5, .int .i64 o6, .int .i64 o7, .int .i64 o8, .int .i64 o9, .int .i64 o10])
  have hszv : B ≤ (wD.alloc (.cells #[.int .i64 k, .int .i64 b, .string t, .int .i64 o3, .int .i64 o4, .int .i64 o5, .int .i64 o6, .int .i64 o7, .int .i64 o8, .int .i64 o9, .int .i64 o10] 31)).heap.size := Nat.le_trans hszd hba.size
  clear hba
  refine layK (j := 6) (by kernel_rfl) rfl rfl 10 rfl 24 1 _ rfl [(0, Value.agg #[.int .i64 k, .int .i64 b, .string t, .int .i64 o3, .int .i64 o4, .int .i64 o5, .int .i64 o6, .int .i64 o7, .int .i64 o8, .int .i64 o9, .int .i64 o10])] (by kernel_rfl) #[.int .i64 k, .int .i64 b, .string t, .int .i64 o3, .int .i64 o4, .int .i64 o5, .int .i64 o6, .int .i64 o7, .int .i64 o8, .int .i64 o9, .int .i64 o10] 31 (by kernel_rfl) ⟨HXv.out, HIv.out.blk.cell 4⟩ ?_
  simp only [Act.put, List.setIfInBounds_toArray, List.set_cons_zero, List.set_cons_succ]
  refine app7K (j := 7) (by kernel_rfl) rfl rfl 11 rfl (.tmp 8) (.tmp 10) _ rfl B 31 _ 11 96 Tryd.underlying24 item_info rfl (Nat.succ_pos _) (.slice A s.length c) s.length _ (by kernel_rfl) HIv.out.row wD.heap.size 1 #[.int .i64 k, .int .i64 b, .string t, .int .i64 o3, .int .i64 o4, .int .i64 o5, .int .i64 o6, .int .i64 o7, .int .i64 o8, .int .i64 o9, .int .i64 o10] HNv.out rfl (by kernel_rfl) rfl hs (Nat.le_of_ble_eq_true rfl) hszv (fun v4 w4 hown4 hg4 hat4 => ⟨⟨HXv.out.grown hg4 (fun e => HXN.out e.symm), (HIv.out.blk.grown hg4 (Ne.symm (own_blk_ne HIv.out.row HIv.out.blk (by decide)))).cell 4⟩, ?_⟩)
  simp only [Act.put, List.setIfInBounds_toArray, List.set_cons_zero, List.set_cons_succ]
  have HX4 := hide (HXv.out.grown hg4 (fun e => HXN.out e.symm))
  have HB4 := hide (HIv.out.blk.grown hg4 (Ne.symm (own_blk_ne HIv.out.row HIv.out.blk (by decide))))
  refine takeK (i := 8) (v := (Value.pointer (some ⟨mb, 0, none⟩))) [9, 10] (some 12) rfl rfl rfl (by kernel_rfl) (by kernel_rfl) (by kernel_rfl) (by kernel_rfl) (fun _ _ _ h => h) (by rfl) (yieldsIf_nil (by rfl) _ rfl _ rfl) ⟨HX4.out, HB4.out.cell 4⟩ ?_
  simp only [Act.put, List.setIfInBounds_toArray, List.set_cons_zero, List.set_cons_succ]
  refine takeK (i := 9) (v := (Value.pointer (some ⟨mb, 4, none⟩))) [10] (some 13) rfl rfl rfl (by kernel_rfl) (by kernel_rfl) (by kernel_rfl) (by kernel_rfl) (fun _ _ _ h => h) (by rfl) (yieldsIf_faddr (by rfl) 38 _ 4 rfl _ _ 4 rfl (by kernel_rfl)) ⟨HX4.out, HB4.out.cell 4⟩ ?_
  simp only [Act.put, List.setIfInBounds_toArray, List.set_cons_zero, List.set_cons_succ]
  refine exitK (by kernel_rfl) ?_
  refine storeH (j := 10) (by kernel_rfl) rfl rfl rfl 24 (.tmp 13) (.tmp 11) rfl mb 4 38 _ (v4) (by kernel_rfl) (by kernel_rfl) HB4.out (Nat.le_of_ble_eq_true rfl) (by kernel_rfl) (by obtain ⟨A4, c4, rfl, _, _⟩ := own_reads hown4; rfl) (by obtain ⟨A4, c4, rfl, _, _⟩ := own_reads hown4; rfl) (fun w5 hB0 hG => ⟨trivial, ?_⟩)
  simp only [List.setIfInBounds_toArray, List.set_cons_zero, List.set_cons_succ]
  obtain ⟨hI5, hS5⟩ := HIv.out.app XI (by rw [HLB.out]; exact hown4) hg4 hat4 hB0 hG
  have hS6 := HSv.out.trans hS5
  clear hB0 hG hown4 hg4 hat4 hS5 HX4 HB4 HXv HIv HSv HNv
  refine wpAnyH_done (by kernel_rfl) ?_ _
  clear hHeld HX1 HI1 HS1
  go_wp2_with fail
  go_end0
  rw [HXE.out] at hI5
  exact ⟨rfl, v4, hI5, hS6⟩
end Go.Proofs.YtdnnodpkgncegaaDoor
