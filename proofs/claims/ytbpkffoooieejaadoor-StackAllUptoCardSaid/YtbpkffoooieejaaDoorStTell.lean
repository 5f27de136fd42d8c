/- The walk of order.tell. -/
import Derived.BigQuiet
import Derived.Handy
import Derived.IntWalk
import Derived.RegionTactic
import Derived.Deep.MidRow
import Derived.Deep.CutBlock
import Derived.Test.YtbpkffoooieejaaDoorStTellMem2
import Derived.Test.YtbpkffoooieejaaDoorSteps3
namespace Go.Proofs.YtbpkffoooieejaaDoor
open Go.ChangeShapes Go.WideShapes Go.ChangeAt Go.RowKit
theorem step_info : (Tryd.prog.info? 33).map (fun i => (i.zero, i.size, i.bytes)) = some (some (.agg #[.int .i64 0, .int .i64 0]), 2, 16) := by kernel_rfl
theorem bel_bd (n : Nat) (par : Nat → Nat) (hp : ∀ i, 0 < i → i < n → par i < i) (own : Nat → Bool) (f : Nat) : (∀ x ∈ belF (kidsF n par) own n f, f < x ∧ x < n) := fun x hx => belF_mem n (kidsF n par) own (kidsF_lt n par hp) n f x hx
set_option maxRecDepth 100000 in
set_option maxHeartbeats 40000000 in
theorem tell_any (n : Nat) (par : Nat → Nat) (hp : ∀ i, 0 < i → i < n → par i < i) (M : Nat → Mk) (hn : n ≤ 300000) (bo bm bk cm ck : Nat) (K : Nat → Prop) : ∀ (d f : Nat) (V : Value) (s : List (Nat × Nat)) (w : World), f < n → n ≤ d + f →
    s.length + (stepsF n (kidsF n par) (ownM M) (srtM M) d f s.length).length ≤ 300000 → OrdV w K bo n (kidsF n par) M bm bk cm ck V s →
    Calls Tryd.prog 18 #[.pointer (some ⟨bo, 0, none⟩), .int .i64 (f : Int)] w fun e w' => e = .returned (.tuple #[]) ∧ ∃ V', OrdV w' K bo n (kidsF n par) M bm bk cm ck V' (s ++ stepsF n (kidsF n par) (ownM M) (srtM M) d f s.length) ∧ Stp bo w V w' V' := by
  intro d
  induction d with
  | zero => intro f V s w hf hd; omega
  | succ d ih =>
    intro f V s w hf hd hlen hO
    obtain ⟨A, c, rfl, hsc, _⟩ := own_reads hO.row
    have hf2 : ¬ n ≤ f := by omega
    have hls : s.length ≤ 300000 := by omega
    have hb0 := (Below.refl w.heap.size w).alloc (Nat.le_refl _) (.cells #[.pointer (some ⟨bo, 0, none⟩)] 63)
    have HO := hide (hO.old hb0)
    have HS := hide (Stp.of_below (bo := bo) hb0 (.slice A s.length c))
    have HX := hide (Blk.new w 63 #[.pointer (some ⟨bo, 0, none⟩)])
    have x0 : (w.alloc (.cells #[.pointer (some ⟨bo, 0, none⟩)] 63)).cell? ⟨w.heap.size, 0, none⟩ = some (.pointer (some ⟨bo, 0, none⟩)) := HX.out.cell 0
    have c2 : (w.alloc (.cells #[.pointer (some ⟨bo, 0, none⟩)] 63)).cell? ⟨bo, 2, none⟩ = some (.slice A s.length c) := HO.out.blk.cell 2
    clear hO hb0 hsc
    go_enter Tryd.func18, Tryd.ntmps18
    go_wp2_with fail
    obtain ⟨bx, hbx⟩ : ∃ bx, bx = w.heap.size := ⟨_, rfl⟩
    rw [← hbx] at HX x0 ⊢
    clear hbx
    generalize w.alloc (.cells #[.pointer (some ⟨bo, 0, none⟩)] 63) = wr at *
    clear x0 c2
    have HX1 := hide HX.out.drew
    have hbd0 := Below.drew (Below.refl wr.heap.size wr)
    have HO1 := hide (HO.out.old hbd0)
    have HS1 := hide (HS.out.trans (Stp.of_below (bo := bo) hbd0 (.slice A s.length c)))
    clear hbd0 HX HO HS
    refine wp_region_KL (k := 11) 12 #[false, false, false, false, false, false, false, false, false, false, false, false] (by kernel_rfl) (by kernel_rfl) (S := fun Z => Blk Z bx 63 #[.pointer (some ⟨bo, 0, none⟩)] ∧ Z.cell? ⟨bo, 2, none⟩ = some (.slice A s.length c)) (by kernel_rfl) ⟨HX1.out, HO1.out.blk.cell 2⟩ (fun hHeld => ?_)
    generalize wr.drew = wD at *
    refine takeK (i := 0) (v := (Value.pointer (some ⟨bo, 0, none⟩))) [9, 10, 11] (some 13) rfl rfl rfl (by kernel_rfl) (by kernel_rfl) (by kernel_rfl) (by kernel_rfl) (fun _ _ _ h => h) (by rfl) (yieldsIf_load1 (by rfl) 63 _ rfl _ _ _ rfl (by kernel_rfl) (fun _ h => h.1.cell 0)) hHeld ?_
    simp only [Act.put, List.setIfInBounds_toArray, List.set_cons_zero, List.set_cons_succ]
    refine takeK (i := 1) (v := (Value.pointer (some ⟨bo, 0, none⟩))) [2, 3, 4, 8, 9, 10, 11] (some 14) rfl rfl rfl (by kernel_rfl) (by kernel_rfl) (by kernel_rfl) (by kernel_rfl) (fun _ _ _ h => h) (by rfl) (yieldsIf_load1 (by rfl) 63 _ rfl _ _ _ rfl (by kernel_rfl) (fun _ h => h.1.cell 0)) hHeld ?_
    simp only [Act.put, List.setIfInBounds_toArray, List.set_cons_zero, List.set_cons_succ]
    refine takeK (i := 2) (v := (Value.pointer (some ⟨bo, 0, none⟩))) [3, 4, 8, 9, 10, 11] (some 15) rfl rfl rfl (by kernel_rfl) (by kernel_rfl) (by kernel_rfl) (by kernel_rfl) (fun _ _ _ h => h) (by rfl) (yieldsIf_nil (by rfl) _ rfl _ rfl) hHeld ?_
    simp only [Act.put, List.setIfInBounds_toArray, List.set_cons_zero, List.set_cons_succ]
    refine takeK (i := 3) (v := (Value.pointer (some ⟨bo, 2, none⟩))) [4, 8, 9, 10, 11] (some 16) rfl rfl rfl (by kernel_rfl) (by kernel_rfl) (by kernel_rfl) (by kernel_rfl) (fun _ _ _ h => h) (by rfl) (yieldsIf_faddr (by rfl) 67 _ 2 rfl _ _ 2 rfl (by kernel_rfl)) hHeld ?_
    simp only [Act.put, List.setIfInBounds_toArray, List.set_cons_zero, List.set_cons_succ]
    refine takeK (i := 4) (v := (.slice A s.length c)) [8, 9, 10, 11] (some 17) rfl rfl rfl (by kernel_rfl) (by kernel_rfl) (by kernel_rfl) (by kernel_rfl) (fun _ _ _ h => h) (by rfl) (yieldsIf_load1 (by rfl) 27 _ rfl _ _ _ rfl (by kernel_rfl) (fun _ h => h.2)) hHeld ?_
    simp only [Act.put, List.setIfInBounds_toArray, List.set_cons_zero, List.set_cons_succ]
    refine takeK (i := 5) (v := (.int .i64 (f : Int))) [6, 7, 8, 9, 10, 11] (some 18) rfl rfl rfl (by kernel_rfl) (by kernel_rfl) (by kernel_rfl) (by kernel_rfl) (fun _ _ _ h => h) (by rfl) (yieldsIf_move (by rfl) _ rfl _ rfl) hHeld ?_
    simp only [Act.put, List.setIfInBounds_toArray, List.set_cons_zero, List.set_cons_succ]
    refine takeK (i := 6) (v := (Value.agg #[.int .i64 (f : Int), .int .i64 0])) [7, 8, 9, 10, 11] (some 19) rfl rfl rfl (by kernel_rfl) (by kernel_rfl) (by kernel_rfl) (by kernel_rfl) (fun _ _ _ h => h) (by rfl) (yieldsIf_build (by rfl) 33 _ rfl [(0, .int .i64 (f : Int))] rfl _ (by kernel_rfl)) hHeld ?_
    simp only [Act.put, List.setIfInBounds_toArray, List.set_cons_zero, List.set_cons_succ]
    have hba := (Below.refl wD.heap.size wD).alloc (Nat.le_refl _) (.cells #[.int .i64 (f : Int), .int .i64 0] 33)
    have HXv := hide (HX1.out.alloc (.cells #[.int .i64 (f : Int), .int .i64 0] 33))
    have HOv := hide (HO1.out.old hba)
    have HSv := hide (HS1.out.trans (Stp.of_below (bo := bo) hba (.slice A s.length c)))
    have HNv := hide (Blk.new wD 33 #[.int .i64 (f : Int), .int .i64 0])
    clear hba
    refine layK (j := 7) (by kernel_rfl) rfl rfl 20 rfl 27 1 _ rfl [(0, Value.agg #[.int .i64 (f : Int), .int .i64 0])] (by kernel_rfl) #[.int .i64 (f : Int), .int .i64 0] 33 (by kernel_rfl) ⟨HXv.out, HOv.out.blk.cell 2⟩ ?_
    simp only [Act.put, List.setIfInBounds_toArray, List.set_cons_zero, List.set_cons_succ]
    refine app1K (j := 8) (by kernel_rfl) rfl rfl 21 rfl (.tmp 17) (.tmp 20) _ rfl 0 33 _ 2 16 Tryd.underlying27 step_info rfl (Nat.succ_pos _) (.slice A s.length c) s.length _ (by kernel_rfl) HOv.out.row wD.heap.size 1 #[.int .i64 (f : Int), .int .i64 0] HNv.out rfl (by kernel_rfl) rfl (by omega) (Nat.le_of_ble_eq_true rfl) (Nat.zero_le _) (fun v4 w4 hown4 hg4 hat4 => ⟨⟨HXv.out.grown hg4 (Ne.symm (own_blk_ne HOv.out.row HXv.out (by decide))), (HOv.out.blk.grown hg4 (Ne.symm (own_blk_ne HOv.out.row HOv.out.blk (by decide)))).cell 2⟩, ?_⟩)
    simp only [Act.put, List.setIfInBounds_toArray, List.set_cons_zero, List.set_cons_succ]
    have HX4 := hide (HXv.out.grown hg4 (Ne.symm (own_blk_ne HOv.out.row HXv.out (by decide))))
    have HB4 := hide (HOv.out.blk.grown hg4 (Ne.symm (own_blk_ne HOv.out.row HOv.out.blk (by decide))))
    refine takeK (i := 9) (v := (Value.pointer (some ⟨bo, 0, none⟩))) [10, 11] (some 22) rfl rfl rfl (by kernel_rfl) (by kernel_rfl) (by kernel_rfl) (by kernel_rfl) (fun _ _ _ h => h) (by rfl) (yieldsIf_nil (by rfl) _ rfl _ rfl) ⟨HX4.out, HB4.out.cell 2⟩ ?_
    simp only [Act.put, List.setIfInBounds_toArray, List.set_cons_zero, List.set_cons_succ]
    refine takeK (i := 10) (v := (Value.pointer (some ⟨bo, 2, none⟩))) [11] (some 23) rfl rfl rfl (by kernel_rfl) (by kernel_rfl) (by kernel_rfl) (by kernel_rfl) (fun _ _ _ h => h) (by rfl) (yieldsIf_faddr (by rfl) 67 _ 2 rfl _ _ 2 rfl (by kernel_rfl)) ⟨HX4.out, HB4.out.cell 2⟩ ?_
    simp only [Act.put, List.setIfInBounds_toArray, List.set_cons_zero, List.set_cons_succ]
    refine exitK (by kernel_rfl) ?_
    refine storeH (j := 11) (by kernel_rfl) rfl rfl rfl 27 (.tmp 23) (.tmp 21) rfl bo 2 67 _ (v4) (by kernel_rfl) (by kernel_rfl) HB4.out (Nat.le_of_ble_eq_true rfl) (by kernel_rfl) (by obtain ⟨A4, c4, rfl, _, _⟩ := own_reads hown4; rfl) (by obtain ⟨A4, c4, rfl, _, _⟩ := own_reads hown4; rfl) (fun w5 hB hG => ⟨trivial, ?_⟩)
    simp only [List.setIfInBounds_toArray, List.set_cons_zero, List.set_cons_succ]
    obtain ⟨hO5, hS5⟩ := OrdV.app HOv.out f hown4 hg4 hat4 hB hG
    have HX5 := hide (hS5.blk HOv.out HXv.out (by decide) (by decide))
    have HS5 := hide (HSv.out.trans hS5)
    have HO5 := hide hO5
    clear hB hG hown4 hg4 hat4 hO5 hS5 HX4 HB4 HXv HOv HSv HNv
    refine wpAnyH_done (by kernel_rfl) ?_ _
    clear hHeld HX1 HO1 HS1
    have hm0 := (HO5.out.kid.mks f hf).1
    have x0 : w5.cell? ⟨bx, 0, none⟩ = some (.pointer (some ⟨bo, 0, none⟩)) := HX5.out.cell 0
    have c0 : w5.cell? ⟨bo, 0, none⟩ = some (.slice (some ⟨bm, 0, none⟩) n cm) := HO5.out.blk.cell 0
    by_cases hown : (M f).1 = 0
    · have hst : Hid (stepsF n (kidsF n par) (ownM M) (srtM M) (d + 1) f s.length = (f, s.length + 1 + ([] : List (Nat × Nat)).length) :: []) := by
        have e : ownM M f = false := by simp [ownM, hown]
        show _ = _
        rw [stepsF, e]
        rfl
      have ht : ((M f).1 != 0) = false := by simp [hown]
      generalize (M f).1 = m0 at *
      obtain ⟨T, hT⟩ : ∃ T : List (Nat × Nat), T = [] := ⟨_, rfl⟩
      rw [← hT] at hst
      have HO9 := hide (show OrdV w5 K bo n (kidsF n par) M bm bk cm ck v4 (s ++ (f, 0) :: T) by rw [hT]; exact HO5.out)
      have hTl : T.length ≤ 300000 := by rw [hT]; exact Nat.zero_le _
      go_wp2_with fail
      clear hm0 x0 c0 hT HO5
      have HX9 := HX5
      have HS9 := HS5
      generalize w5 = w9 at *
      clear HX5 HS5
      have hLEN : (s ++ (f, 0) :: T).length = s.length + 1 + T.length := by simp; omega
      have hlt : s.length < (s ++ (f, 0) :: T).length := by omega
      obtain ⟨gr, cap, cur, hv, _, hcb, hca, hcm, hcs, hct⟩ := own_form HO9.out.row (by omega)
      subst hv
      have HX1 := hide HX9.out.drew
      have hbd0 := Below.drew (Below.refl w9.heap.size w9)
      have HO1 := hide (HO9.out.old hbd0)
      have HS1 := hide (HS9.out.trans (Stp.of_below (bo := bo) hbd0 (.slice (some ⟨gr, 0, none⟩) (s ++ (f, 0) :: T).length cap)))
      have HC1 := hide hcb.drew
      clear hbd0 HX9 HO9 HS9 hcb hct
      refine wp_region_HL 13 #[false, false, false, false, false, false, false, false, false, false, false, false, false] (by kernel_rfl) (by kernel_rfl) (S := fun Z => Blk Z bx 63 #[.pointer (some ⟨bo, 0, none⟩)] ∧ Z.cell? ⟨bo, 2, none⟩ = some (.slice (some ⟨gr, 0, none⟩) (s ++ (f, 0) :: T).length cap)) (by kernel_rfl) ⟨HX1.out, HO1.out.blk.cell 2⟩ (fun hHeld => ?_)
      generalize w9.drew = wD at *
      refine take_at (i := 0) (v := (Value.pointer (some ⟨bo, 0, none⟩))) (some 49) rfl rfl (by kernel_rfl) (by kernel_rfl) (by kernel_rfl) (fun _ _ _ h => h) (yieldsIf_load1 (by rfl) 63 _ rfl _ _ _ rfl (by kernel_rfl) (fun _ h => h.1.cell 0)) hHeld ?_
      simp only [Act.put, List.setIfInBounds_toArray, List.set_cons_zero, List.set_cons_succ]
      refine take_at (i := 1) (v := (Value.pointer (some ⟨bo, 0, none⟩))) (some 50) rfl rfl (by kernel_rfl) (by kernel_rfl) (by kernel_rfl) (fun _ _ _ h => h) (yieldsIf_nil (by rfl) _ rfl _ rfl) hHeld ?_
      simp only [Act.put, List.setIfInBounds_toArray, List.set_cons_zero, List.set_cons_succ]
      refine take_at (i := 2) (v := (Value.pointer (some ⟨bo, 2, none⟩))) (some 51) rfl rfl (by kernel_rfl) (by kernel_rfl) (by kernel_rfl) (fun _ _ _ h => h) (yieldsIf_faddr (by rfl) 67 _ 2 rfl _ _ 2 rfl (by kernel_rfl)) hHeld ?_
      simp only [Act.put, List.setIfInBounds_toArray, List.set_cons_zero, List.set_cons_succ]
      refine take_at (i := 3) (v := (.slice (some ⟨gr, 0, none⟩) (s ++ (f, 0) :: T).length cap)) (some 52) rfl rfl (by kernel_rfl) (by kernel_rfl) (by kernel_rfl) (fun _ _ _ h => h) (yieldsIf_load1 (by rfl) 27 _ rfl _ _ _ rfl (by kernel_rfl) (fun _ h => h.2)) hHeld ?_
      simp only [Act.put, List.setIfInBounds_toArray, List.set_cons_zero, List.set_cons_succ]
      refine take_at (i := 4) (v := (.int .i64 (s.length : Int))) (some 53) rfl rfl (by kernel_rfl) (by kernel_rfl) (by kernel_rfl) (fun _ _ _ h => h) (yieldsIf_move (by rfl) _ rfl _ rfl) hHeld ?_
      simp only [Act.put, List.setIfInBounds_toArray, List.set_cons_zero, List.set_cons_succ]
      refine take_at (i := 5) (v := (Value.pointer (some ⟨bo, 0, none⟩))) (some 54) rfl rfl (by kernel_rfl) (by kernel_rfl) (by kernel_rfl) (fun _ _ _ h => h) (yieldsIf_load1 (by rfl) 63 _ rfl _ _ _ rfl (by kernel_rfl) (fun _ h => h.1.cell 0)) hHeld ?_
      simp only [Act.put, List.setIfInBounds_toArray, List.set_cons_zero, List.set_cons_succ]
      refine take_at (i := 6) (v := (Value.pointer (some ⟨bo, 0, none⟩))) (some 55) rfl rfl (by kernel_rfl) (by kernel_rfl) (by kernel_rfl) (fun _ _ _ h => h) (yieldsIf_nil (by rfl) _ rfl _ rfl) hHeld ?_
      simp only [Act.put, List.setIfInBounds_toArray, List.set_cons_zero, List.set_cons_succ]
      refine take_at (i := 7) (v := (Value.pointer (some ⟨bo, 2, none⟩))) (some 56) rfl rfl (by kernel_rfl) (by kernel_rfl) (by kernel_rfl) (fun _ _ _ h => h) (yieldsIf_faddr (by rfl) 67 _ 2 rfl _ _ 2 rfl (by kernel_rfl)) hHeld ?_
      simp only [Act.put, List.setIfInBounds_toArray, List.set_cons_zero, List.set_cons_succ]
      refine take_at (i := 8) (v := (.slice (some ⟨gr, 0, none⟩) (s ++ (f, 0) :: T).length cap)) (some 57) rfl rfl (by kernel_rfl) (by kernel_rfl) (by kernel_rfl) (fun _ _ _ h => h) (yieldsIf_load1 (by rfl) 27 _ rfl _ _ _ rfl (by kernel_rfl) (fun _ h => h.2)) hHeld ?_
      simp only [Act.put, List.setIfInBounds_toArray, List.set_cons_zero, List.set_cons_succ]
      refine take_at (i := 9) (v := (.int .i64 ((s ++ (f, 0) :: T).length : Int))) (some 58) rfl rfl (by kernel_rfl) (by kernel_rfl) (by kernel_rfl) (fun _ _ _ h => h) (Or.inl ⟨by rfl, fun W hW => ?_⟩) hHeld ?_
      · go_simp
      simp only [Act.put, List.setIfInBounds_toArray, List.set_cons_zero, List.set_cons_succ]
      refine take_at (i := 10) (v := (Value.pointer (some ⟨gr, s.length * 2, none⟩))) (some 59) rfl rfl (by kernel_rfl) (by kernel_rfl) (by kernel_rfl) (fun _ _ _ h => h) (yieldsIf_iaddr (by rfl) 27 _ _ rfl gr 0 (s ++ (f, 0) :: T).length cap rfl .i64 s.length rfl hlt 2 (by kernel_rfl) (s.length * 2) (by omega)) hHeld ?_
      simp only [Act.put, List.setIfInBounds_toArray, List.set_cons_zero, List.set_cons_succ]
      refine take_at (i := 11) (v := (Value.pointer (some ⟨gr, s.length * 2 + 1, none⟩))) (some 60) rfl rfl (by kernel_rfl) (by kernel_rfl) (by kernel_rfl) (fun _ _ _ h => h) (yieldsIf_faddr (by rfl) 33 _ 1 rfl _ _ 1 rfl (by kernel_rfl)) hHeld ?_
      simp only [Act.put, List.setIfInBounds_toArray, List.set_cons_zero, List.set_cons_succ]
      refine storeH (j := 12) (by kernel_rfl) rfl rfl rfl 3 (.tmp 60) (.tmp 58) rfl gr (s.length * 2 + 1) 33 cur (.int .i64 ((s ++ (f, 0) :: T).length : Int)) rfl rfl HC1.out (by rw [hcs]; omega) (by kernel_rfl) rfl rfl (fun w5 hB hG => ⟨⟨HX1.out.grown hG (fun e => (HX1.out.ne_ HC1.out (by decide)) (by injection e)), (HO1.out.blk.grown hG (fun e => (HO1.out.blk.ne_ HC1.out (by decide)) (by injection e))).cell 2⟩, ?_⟩)
      simp only [List.setIfInBounds_toArray, List.set_cons_zero, List.set_cons_succ]
      obtain ⟨hO5, hS5⟩ := OrdV.fin HO1.out HC1.out hB hG
      have HS5 := hide (HS1.out.trans hS5)
      have HO5 := hide hO5
      clear hB hG hO5 hS5 HC1
      refine wpAnyH_done (by kernel_rfl) ?_ _
      clear hHeld HX1 HO1 HS1
      go_wp2_with fail
      go_end0
      refine ⟨rfl, _, ?_, HS5.out⟩
      rw [hst.out, ← hLEN]
      exact HO5.out
    · have ho : ownM M f = true := by simp [ownM, hown]
      have ht : ((M f).1 != 0) = true := by simp [hown]
      have hst : Hid (stepsF n (kidsF n par) (ownM M) (srtM M) (d + 1) f s.length = (f, s.length + 1 + (stepsL (stepsF n (kidsF n par) (ownM M) (srtM M) d) (srtM M (belF (kidsF n par) (ownM M) n f)) (s.length + 1)).length) :: stepsL (stepsF n (kidsF n par) (ownM M) (srtM M) d) (srtM M (belF (kidsF n par) (ownM M) n f)) (s.length + 1)) := by
        show _ = _
        rw [stepsF, ho]
        rfl
      rw [hst.out, List.length_cons] at hlen
      have HBE := hide (bel_any n par hp (ownM M) bo bm bk cm ck hn n f w5 hf (by omega) HO5.out.r)
      have hbd := bel_bd n par hp (ownM M) f
      have hll := bel_len n par hp (ownM M) n f
      have HM := hide HO5.out.kid.mks
      generalize (M f).1 = m0 at *
      go_wp2_with fail
      refine HBE.out.mono ?_
      rintro e w6 ⟨⟨v6, rfl, hown6⟩, hb6⟩
      clear HBE hm0 x0 c0
      generalize belF (kidsF n par) (ownM M) n f = l at *
      obtain ⟨A6, c6, rfl, _, _⟩ := own_reads hown6
      have hbs := HO5.out.blk.lt
      have hxs := HX5.out.lt
      have hV5 := fun k hk => own_lt HO5.out.row k hk
      have hK5 := HO5.out.kk
      have hs5 := HS5.out.only.size
      have HO6 := hide (HO5.out.old hb6)
      have HX6 := hide (HX5.out.below hb6 hxs)
      have HS6 := hide (HS5.out.trans (Stp.of_below hb6 v4))
      have HSO := hide (sort_any M n hn bx bo bm cm w5.heap.size c6 A6 l w6 (fun x hx => (hbd x hx).2) (by omega) hown6 (HX6.out.cell 0) (HO6.out.blk.cell 0) HO6.out.kid.mks hxs hbs (hK5 _ HO5.out.kid.m))
      have HW6 := hide hown6
      clear HO5 HX5 HS5 hb6 hown6 HM
      have x6 : w6.cell? ⟨bx, 0, none⟩ = some (.pointer (some ⟨bo, 0, none⟩)) := HX6.out.cell 0
      go_wp2_with fail
      refine HSO.out.mono ?_
      rintro e w7 ⟨rfl, hs7⟩
      obtain ⟨hO7, hX7, hon7, hr7⟩ := sorted_on hs7 HO6.out HW6.out HX6.out hxs hbs hV5 hK5
      have HS7 := hide (HS6.out.then_only hon7 hs5)
      have HO7 := hide hO7
      have HX7 := hide hX7
      have HR7 := hide hr7
      have hsl : (srtM M l).length = l.length := (srtM_perm M l).length_eq
      have hsb : ∀ x ∈ srtM M l, f < x ∧ x < n := fun x hx => hbd x ((srtM_perm M l).mem_iff.1 hx)
      clear HSO HW6 HO6 HX6 HS6 hs7 hO7 hX7 hon7 hr7 x6 hbs hxs hV5 hK5 hs5 hbd
      generalize srtM M l = L at *
      rw [← hsl] at hll ⊢
      clear hsl
      go_wp2_with fail
      go_loopw [41] (fun i wr => ∃ (j : Nat) (V : Value), j ≤ L.length ∧ i = .int .i64 j ∧ OrdV wr K bo n (kidsF n par) M bm bk cm ck V (s ++ (f, 0) :: stepsL (stepsF n (kidsF n par) (ownM M) (srtM M) d) (L.take j) (s.length + 1)) ∧ Stp bo w (.slice A s.length c) wr V ∧ Blk wr bx 63 #[.pointer (some ⟨bo, 0, none⟩)] ∧ NumsRd wr A6 L) (fun i _ => L.length - (intOf i).toNat)
      case atStart => exact ⟨0, v4, Nat.zero_le _, rfl, HO7.out, HS7.out, HX7.out, HR7.out⟩
      case round =>
        clear HO7 HS7 HX7 HR7
        obtain ⟨j, V, hj, rfl, hO, hS, hX, hR⟩ := hrel
        have HO := hide hO
        have HS := hide hS
        have HX := hide hX
        have x0 : wr.cell? ⟨bx, 0, none⟩ = some (.pointer (some ⟨bo, 0, none⟩)) := hX.cell 0
        clear hO hS hX
        by_cases hjl : j < L.length
        · obtain ⟨k, hk⟩ : ∃ k, L[j]? = some k := ⟨_, List.getElem?_eq_getElem hjl⟩
          obtain ⟨hfk, hkn⟩ := hsb k (List.mem_of_getElem? hk)
          obtain ⟨g, rfl, cur, hb, hcur⟩ := hR (by omega)
          have q0 : wr.cell? ⟨g, j, none⟩ = some (.int .i64 (k : Int)) := (hb.cell j).trans (hcur j k hk)
          have e1 := stepsL_take (stepsF n (kidsF n par) (ownM M) (srtM M) d) L j k (s.length + 1) hk
          have e2 := stepsL_le (stepsF n (kidsF n par) (ownM M) (srtM M) d) L (j + 1) (s.length + 1)
          have hal : (s ++ (f, 0) :: stepsL (stepsF n (kidsF n par) (ownM M) (srtM M) d) (L.take j) (s.length + 1)).length = s.length + 1 + (stepsL (stepsF n (kidsF n par) (ownM M) (srtM M) d) (L.take j) (s.length + 1)).length := by simp; omega
          have HI := hide (ih k V _ wr hkn (by omega) (by rw [hal]; rw [e1, List.length_append] at e2; omega) HO.out)
          rw [hal] at HI
          have HR := hide (show NumsRd wr (some ⟨g, 0, none⟩) L from hR)
          have HO := HO
          have E1 := hide e1
          clear hR hb hcur e1 hal
          go_wp2_with fail
          refine HI.out.mono ?_
          rintro e w8 ⟨rfl, V8, hO8, hS8⟩
          have HX8 := hide (hS8.blk HO.out HX.out (by decide) (by decide))
          have HR8 := hide (HR.out.stp HO.out hS8)
          have HS8 := hide (HS.out.trans hS8)
          have HO8 := hide (show OrdV w8 K bo n (kidsF n par) M bm bk cm ck V8 (s ++ (f, 0) :: stepsL (stepsF n (kidsF n par) (ownM M) (srtM M) d) (L.take (j + 1)) (s.length + 1)) by
            rw [E1.out]
            rw [List.append_assoc, List.cons_append] at hO8
            exact hO8)
          clear HI hO8 hS8 HO HX HS HR x0 q0
          go_wp2_with fail
          go_roundw
          case rel => exact ⟨j + 1, V8, by omega, by go_num, HO8.out, HS8.out, HX8.out, HR8.out⟩
          case measure => simp only [intOf]; omega
        · obtain rfl : j = L.length := by omega
          rw [List.take_length] at HO
          have hTl : (stepsL (stepsF n (kidsF n par) (ownM M) (srtM M) d) L (s.length + 1)).length ≤ 300000 := by omega
          clear hR x0
          go_wp2_with fail
          generalize stepsL (stepsF n (kidsF n par) (ownM M) (srtM M) d) L (s.length + 1) = T at *
          have HO9 := HO
          have HX9 := HX
          have HS9 := HS
          generalize wr = w9 at *
          obtain ⟨v4, hv4⟩ : ∃ v4, v4 = V := ⟨_, rfl⟩
          rw [← hv4] at HO9 HS9
          clear HO HX HS hv4
          have hLEN : (s ++ (f, 0) :: T).length = s.length + 1 + T.length := by simp; omega
          have hlt : s.length < (s ++ (f, 0) :: T).length := by omega
          obtain ⟨gr, cap, cur, hv, _, hcb, hca, hcm, hcs, hct⟩ := own_form HO9.out.row (by omega)
          subst hv
          have HX1 := hide HX9.out.drew
          have hbd0 := Below.drew (Below.refl w9.heap.size w9)
          have HO1 := hide (HO9.out.old hbd0)
          have HS1 := hide (HS9.out.trans (Stp.of_below (bo := bo) hbd0 (.slice (some ⟨gr, 0, none⟩) (s ++ (f, 0) :: T).length cap)))
          have HC1 := hide hcb.drew
          clear hbd0 HX9 HO9 HS9 hcb hct
          refine wp_region_HL 13 #[false, false, false, false, false, false, false, false, false, false, false, false, false] (by kernel_rfl) (by kernel_rfl) (S := fun Z => Blk Z bx 63 #[.pointer (some ⟨bo, 0, none⟩)] ∧ Z.cell? ⟨bo, 2, none⟩ = some (.slice (some ⟨gr, 0, none⟩) (s ++ (f, 0) :: T).length cap)) (by kernel_rfl) ⟨HX1.out, HO1.out.blk.cell 2⟩ (fun hHeld => ?_)
          generalize w9.drew = wD at *
          refine take_at (i := 0) (v := (Value.pointer (some ⟨bo, 0, none⟩))) (some 49) rfl rfl (by kernel_rfl) (by kernel_rfl) (by kernel_rfl) (fun _ _ _ h => h) (yieldsIf_load1 (by rfl) 63 _ rfl _ _ _ rfl (by kernel_rfl) (fun _ h => h.1.cell 0)) hHeld ?_
          simp only [Act.put, List.setIfInBounds_toArray, List.set_cons_zero, List.set_cons_succ]
          refine take_at (i := 1) (v := (Value.pointer (some ⟨bo, 0, none⟩))) (some 50) rfl rfl (by kernel_rfl) (by kernel_rfl) (by kernel_rfl) (fun _ _ _ h => h) (yieldsIf_nil (by rfl) _ rfl _ rfl) hHeld ?_
          simp only [Act.put, List.setIfInBounds_toArray, List.set_cons_zero, List.set_cons_succ]
          refine take_at (i := 2) (v := (Value.pointer (some ⟨bo, 2, none⟩))) (some 51) rfl rfl (by kernel_rfl) (by kernel_rfl) (by kernel_rfl) (fun _ _ _ h => h) (yieldsIf_faddr (by rfl) 67 _ 2 rfl _ _ 2 rfl (by kernel_rfl)) hHeld ?_
          simp only [Act.put, List.setIfInBounds_toArray, List.set_cons_zero, List.set_cons_succ]
          refine take_at (i := 3) (v := (.slice (some ⟨gr, 0, none⟩) (s ++ (f, 0) :: T).length cap)) (some 52) rfl rfl (by kernel_rfl) (by kernel_rfl) (by kernel_rfl) (fun _ _ _ h => h) (yieldsIf_load1 (by rfl) 27 _ rfl _ _ _ rfl (by kernel_rfl) (fun _ h => h.2)) hHeld ?_
          simp only [Act.put, List.setIfInBounds_toArray, List.set_cons_zero, List.set_cons_succ]
          refine take_at (i := 4) (v := (.int .i64 (s.length : Int))) (some 53) rfl rfl (by kernel_rfl) (by kernel_rfl) (by kernel_rfl) (fun _ _ _ h => h) (yieldsIf_move (by rfl) _ rfl _ rfl) hHeld ?_
          simp only [Act.put, List.setIfInBounds_toArray, List.set_cons_zero, List.set_cons_succ]
          refine take_at (i := 5) (v := (Value.pointer (some ⟨bo, 0, none⟩))) (some 54) rfl rfl (by kernel_rfl) (by kernel_rfl) (by kernel_rfl) (fun _ _ _ h => h) (yieldsIf_load1 (by rfl) 63 _ rfl _ _ _ rfl (by kernel_rfl) (fun _ h => h.1.cell 0)) hHeld ?_
          simp only [Act.put, List.setIfInBounds_toArray, List.set_cons_zero, List.set_cons_succ]
          refine take_at (i := 6) (v := (Value.pointer (some ⟨bo, 0, none⟩))) (some 55) rfl rfl (by kernel_rfl) (by kernel_rfl) (by kernel_rfl) (fun _ _ _ h => h) (yieldsIf_nil (by rfl) _ rfl _ rfl) hHeld ?_
          simp only [Act.put, List.setIfInBounds_toArray, List.set_cons_zero, List.set_cons_succ]
          refine take_at (i := 7) (v := (Value.pointer (some ⟨bo, 2, none⟩))) (some 56) rfl rfl (by kernel_rfl) (by kernel_rfl) (by kernel_rfl) (fun _ _ _ h => h) (yieldsIf_faddr (by rfl) 67 _ 2 rfl _ _ 2 rfl (by kernel_rfl)) hHeld ?_
          simp only [Act.put, List.setIfInBounds_toArray, List.set_cons_zero, List.set_cons_succ]
          refine take_at (i := 8) (v := (.slice (some ⟨gr, 0, none⟩) (s ++ (f, 0) :: T).length cap)) (some 57) rfl rfl (by kernel_rfl) (by kernel_rfl) (by kernel_rfl) (fun _ _ _ h => h) (yieldsIf_load1 (by rfl) 27 _ rfl _ _ _ rfl (by kernel_rfl) (fun _ h => h.2)) hHeld ?_
          simp only [Act.put, List.setIfInBounds_toArray, List.set_cons_zero, List.set_cons_succ]
          refine take_at (i := 9) (v := (.int .i64 ((s ++ (f, 0) :: T).length : Int))) (some 58) rfl rfl (by kernel_rfl) (by kernel_rfl) (by kernel_rfl) (fun _ _ _ h => h) (Or.inl ⟨by rfl, fun W hW => ?_⟩) hHeld ?_
          · go_simp
          simp only [Act.put, List.setIfInBounds_toArray, List.set_cons_zero, List.set_cons_succ]
          refine take_at (i := 10) (v := (Value.pointer (some ⟨gr, s.length * 2, none⟩))) (some 59) rfl rfl (by kernel_rfl) (by kernel_rfl) (by kernel_rfl) (fun _ _ _ h => h) (yieldsIf_iaddr (by rfl) 27 _ _ rfl gr 0 (s ++ (f, 0) :: T).length cap rfl .i64 s.length rfl hlt 2 (by kernel_rfl) (s.length * 2) (by omega)) hHeld ?_
          simp only [Act.put, List.setIfInBounds_toArray, List.set_cons_zero, List.set_cons_succ]
          refine take_at (i := 11) (v := (Value.pointer (some ⟨gr, s.length * 2 + 1, none⟩))) (some 60) rfl rfl (by kernel_rfl) (by kernel_rfl) (by kernel_rfl) (fun _ _ _ h => h) (yieldsIf_faddr (by rfl) 33 _ 1 rfl _ _ 1 rfl (by kernel_rfl)) hHeld ?_
          simp only [Act.put, List.setIfInBounds_toArray, List.set_cons_zero, List.set_cons_succ]
          refine storeH (j := 12) (by kernel_rfl) rfl rfl rfl 3 (.tmp 60) (.tmp 58) rfl gr (s.length * 2 + 1) 33 cur (.int .i64 ((s ++ (f, 0) :: T).length : Int)) rfl rfl HC1.out (by rw [hcs]; omega) (by kernel_rfl) rfl rfl (fun w5 hB hG => ⟨⟨HX1.out.grown hG (fun e => (HX1.out.ne_ HC1.out (by decide)) (by injection e)), (HO1.out.blk.grown hG (fun e => (HO1.out.blk.ne_ HC1.out (by decide)) (by injection e))).cell 2⟩, ?_⟩)
          simp only [List.setIfInBounds_toArray, List.set_cons_zero, List.set_cons_succ]
          obtain ⟨hO5, hS5⟩ := OrdV.fin HO1.out HC1.out hB hG
          have HS5 := hide (HS1.out.trans hS5)
          have HO5 := hide hO5
          clear hB hG hO5 hS5 HC1
          refine wpAnyH_done (by kernel_rfl) ?_ _
          clear hHeld HX1 HO1 HS1
          go_wp2_with fail
          go_end0
          refine ⟨rfl, _, ?_, HS5.out⟩
          rw [hst.out, ← hLEN]
          exact HO5.out
end Go.Proofs.YtbpkffoooieejaaDoor
