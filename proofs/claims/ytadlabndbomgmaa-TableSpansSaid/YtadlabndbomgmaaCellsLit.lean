/- The walk of table.cells at one row of two cells. -/
import Derived.BigQuiet
import Derived.Handy
import Derived.IntWalk
import Derived.RegionTactic
import Derived.Deep.QuietTactic
import Derived.Deep.MidRow
import Derived.Deep.RegionHeld3
import Derived.Test.YtadlabndbomgmaaColsLit
import Derived.Test.YtadlabndbomgmaaTakeAt
namespace Go.Proofs.Ytadlabndbomgmaa
open Go.ChangeShapes Go.WideShapes Go.ChangeAt Go.RowKit
theorem cell_info : (Try.prog.info? 162).map (fun i => (i.zero, i.size, i.bytes)) = some (some (.agg #[.int .i64 0, .int .i64 0, .int .i64 0, .int .i64 0]), 4, 32) := by kernel_rfl
def LitS (g1 g2 c1 : Nat) (W : World) : Prop := W.cell? ⟨g2, 0, none⟩ = some (.slice (some ⟨g1, 0, none⟩) 2 c1) ∧ W.cell? ⟨g1, 0, none⟩ = some (.int .i64 5) ∧ W.cell? ⟨g1, 1, none⟩ = some (.int .i64 9) ∧ W.cell? ⟨g1, 2, none⟩ = some (.int .i64 1) ∧ W.cell? ⟨g1, 3, none⟩ = some (.int .i64 2) ∧ W.cell? ⟨g1, 4, none⟩ = some (.int .i64 3) ∧ W.cell? ⟨g1, 5, none⟩ = some (.int .i64 1)
theorem LitS.below {g1 g2 c1 : Nat} {W W' : World} (h : LitS g1 g2 c1 W) (hb : Below W.heap.size W W') : LitS g1 g2 c1 W' := by
  have h1 : g1 < W.heap.size := cell_lt h.2.1
  have h2 : g2 < W.heap.size := cell_lt h.1
  exact ⟨(hb.cell (p := ⟨g2, 0, none⟩) h2).trans h.1, (hb.cell (p := ⟨g1, 0, none⟩) h1).trans h.2.1, (hb.cell (p := ⟨g1, 1, none⟩) h1).trans h.2.2.1, (hb.cell (p := ⟨g1, 2, none⟩) h1).trans h.2.2.2.1, (hb.cell (p := ⟨g1, 3, none⟩) h1).trans h.2.2.2.2.1, (hb.cell (p := ⟨g1, 4, none⟩) h1).trans h.2.2.2.2.2.1, (hb.cell (p := ⟨g1, 5, none⟩) h1).trans h.2.2.2.2.2.2⟩
def rowTo (j : Nat) : List Value := twoV.take (j * 4)
set_option maxRecDepth 100000 in
set_option maxHeartbeats 4000000 in
theorem cellsLit_any (g1 g2 c1 c2 : Nat) (w : World) (hs : LitS g1 g2 c1 w) :
    Calls Try.prog 101 #[.slice (some ⟨g2, 0, none⟩) 1 c2] w fun e w' => ∃ v, e = .returned (.tuple #[v, .int .i64 2]) ∧ w'.ownsRow w.heap.size 162 4 v 2 twoV ∧ Below w.heap.size w w' := by
  have HS := hide hs
  clear hs
  obtain ⟨i0, hi0, hz0, hz1, hz2⟩ := info_parts cell_info
  have HI := hide (⟨hi0, hz0, hz1, hz2⟩ : Try.prog.info? 162 = some i0 ∧ i0.zero = some (.agg #[.int .i64 0, .int .i64 0, .int .i64 0, .int .i64 0]) ∧ i0.size = 4 ∧ i0.bytes = 32)
  clear hi0 hz0 hz1 hz2
  have C5 := hide (show cut 5 = 5 by decide)
  have C9 := hide (show cut 9 = 9 by decide)
  have C2 := hide (show cut 2 = 2 by decide)
  have C3 := hide (show cut 3 = 3 by decide)
  go_enter Try.func101, Try.ntmps101
  go_wp2_with fail
  go_loopw [2, 3, 12] (fun v m i wr => ((i = .int .i64 0 ∧ v = .slice none 0 0 ∧ m = .int .i64 0 ∧ w = wr) ∨ (i = .int .i64 1 ∧ m = .int .i64 2 ∧ wr.ownsRow w.heap.size 162 4 v 2 twoV)) ∧ Below w.heap.size w wr) (fun _ _ i _ => 1 - (intOf i).toNat)
  case atStart => exact ⟨.inl ⟨rfl, rfl, rfl, rfl⟩, Below.refl _ _⟩
  case round =>
    obtain ⟨hi, hbel⟩ := hrel
    rcases hi with ⟨rfl, rfl, rfl, rfl⟩ | ⟨rfl, rfl, hown⟩
    · have ps := HS.out
      unfold LitS at ps
      go_wp2_with fail
      clear ps hbel
      go_loopw [2, 6, 18] (fun v at_ i wr => ∃ j : Nat, j ≤ 2 ∧ i = .int .i64 j ∧ at_ = .int .i64 j ∧ wr.ownsRow w.heap.size 162 4 v j (rowTo j) ∧ Below w.heap.size w wr) (fun _ _ i _ => 2 - (intOf i).toNat)
      case atStart => exact ⟨0, Nat.zero_le _, rfl, rfl, own_none _ _ _ _, Below.refl _ _⟩
      case round =>
        obtain ⟨j, hj, rfl, rfl, hown, hbel⟩ := hrel
        have hszr := hbel.size
        obtain ⟨v, hv⟩ : ∃ v, v = u2 := ⟨_, rfl⟩
        rw [← hv] at hown ⊢
        clear hv
        rcases (show j = 0 ∨ j = 1 ∨ j = 2 by omega) with rfl | rfl | rfl
        · have ps : LitS g1 g2 c1 wr := LitS.below HS.out hbel
          unfold LitS at ps
          have B1 := hide (Blk.new wr 92 #[.int .i64 5, .int .i64 9, .int .i64 1])
          have O1 := hide (hown.alloc (.cells #[.int .i64 5, .int .i64 9, .int .i64 1] 92))
          have L1 := hbel.alloc hszr (.cells #[.int .i64 5, .int .i64 9, .int .i64 1] 92)
          clear hown
          rw [show ((0 : Nat) : Int) = 0 from rfl]
          go_wp2_with fail
          clear ps
          generalize wr.alloc (.cells #[.int .i64 5, .int .i64 9, .int .i64 1] 92) = wA at *
          generalize wr.heap.size = bx at *
          have hbx := B1.out.lt
          refine wp_region_held_drew (S := fun W => Blk W bx 92 #[.int .i64 5, .int .i64 9, .int .i64 1]) (by kernel_rfl) B1.out.drew (fun hHeld => ?_)
          have O2 := hide O1.out.drew
          have L2 := L1.drew
          clear O1 L1 B1
          generalize wA.drew = wB at *
          refine take_at (i := 0) (v := Value.pointer (some ⟨bx, 0, none⟩)) (some 24) rfl rfl (by kernel_rfl) (by kernel_rfl) (by kernel_rfl) (fun _ _ _ h => h) (Or.inl ⟨by rfl, fun W hW => ?_⟩) hHeld ?_
          · go_simp
          simp only [Act.put, List.setIfInBounds_toArray, List.set_cons_zero, List.set_cons_succ]
          refine take_at (i := 1) (v := .int .i64 5) (some 25) rfl rfl (by kernel_rfl) (by kernel_rfl) (by kernel_rfl) (fun _ _ _ h => h) (Or.inl ⟨by rfl, fun W hW => ?_⟩) hHeld ?_
          · have h4 : W.cell? ⟨bx, 0, none⟩ = some (.int .i64 5) := hW.cell 0; go_simp
          simp only [Act.put, List.setIfInBounds_toArray, List.set_cons_zero, List.set_cons_succ]
          refine take_at (i := 4) (v := Value.pointer (some ⟨bx, 1, none⟩)) (some 28) rfl rfl (by kernel_rfl) (by kernel_rfl) (by kernel_rfl) (fun _ _ _ h => h) (Or.inl ⟨by rfl, fun W hW => ?_⟩) hHeld ?_
          · go_simp
          simp only [Act.put, List.setIfInBounds_toArray, List.set_cons_zero, List.set_cons_succ]
          refine take_at (i := 5) (v := .int .i64 9) (some 29) rfl rfl (by kernel_rfl) (by kernel_rfl) (by kernel_rfl) (fun _ _ _ h => h) (Or.inl ⟨by rfl, fun W hW => ?_⟩) hHeld ?_
          · have h4 : W.cell? ⟨bx, 1, none⟩ = some (.int .i64 9) := hW.cell 1; go_simp
          simp only [Act.put, List.setIfInBounds_toArray, List.set_cons_zero, List.set_cons_succ]
          refine take_at (i := 7) (v := .int .i64 0) (some 31) rfl rfl (by kernel_rfl) (by kernel_rfl) (by kernel_rfl) (fun _ _ _ h => h) (yieldsIf_move (by rfl) _ rfl _ rfl) hHeld ?_
          simp only [Act.put, List.setIfInBounds_toArray, List.set_cons_zero, List.set_cons_succ]
          refine take_at (i := 8) (v := Value.pointer (some ⟨bx, 2, none⟩)) (some 32) rfl rfl (by kernel_rfl) (by kernel_rfl) (by kernel_rfl) (fun _ _ _ h => h) (Or.inl ⟨by rfl, fun W hW => ?_⟩) hHeld ?_
          · go_simp
          simp only [Act.put, List.setIfInBounds_toArray, List.set_cons_zero, List.set_cons_succ]
          refine take_at (i := 9) (v := .int .i64 1) (some 33) rfl rfl (by kernel_rfl) (by kernel_rfl) (by kernel_rfl) (fun _ _ _ h => h) (Or.inl ⟨by rfl, fun W hW => ?_⟩) hHeld ?_
          · have h4 : W.cell? ⟨bx, 2, none⟩ = some (.int .i64 1) := hW.cell 2; go_simp
          simp only [Act.put, List.setIfInBounds_toArray, List.set_cons_zero, List.set_cons_succ]
          refine take_at (i := 10) (v := .int .i64 1) (some 34) rfl rfl (by kernel_rfl) (by kernel_rfl) (by kernel_rfl) (fun _ _ _ h => h) (Or.inl ⟨by rfl, fun W hW => ?_⟩) hHeld ?_
          · kernel_rfl
          simp only [Act.put, List.setIfInBounds_toArray, List.set_cons_zero, List.set_cons_succ]
          refine take_at (i := 11) (v := .int .i64 0) (some 35) rfl rfl (by kernel_rfl) (by kernel_rfl) (by kernel_rfl) (fun _ _ _ h => h) (yieldsIf_move (by rfl) _ rfl _ rfl) hHeld ?_
          simp only [Act.put, List.setIfInBounds_toArray, List.set_cons_zero, List.set_cons_succ]
          refine take_at (i := 12) (v := .int .i64 100) (some 36) rfl rfl (by kernel_rfl) (by kernel_rfl) (by kernel_rfl) (fun _ _ _ h => h) (Or.inl ⟨by rfl, fun W hW => ?_⟩) hHeld ?_
          · kernel_rfl
          simp only [Act.put, List.setIfInBounds_toArray, List.set_cons_zero, List.set_cons_succ]
          refine take_at (i := 13) (v := .int .i64 1) (some 37) rfl rfl (by kernel_rfl) (by kernel_rfl) (by kernel_rfl) (fun _ _ _ h => h) (Or.inl ⟨by rfl, fun W hW => ?_⟩) hHeld ?_
          · kernel_rfl
          simp only [Act.put, List.setIfInBounds_toArray, List.set_cons_zero, List.set_cons_succ]
          refine wpAnyH_ready (rs := [2, 15]) (by kernel_rfl) (by simp) ?_
          refine AllReadyH.cons rfl (fun K1 hK1 => ?_) (AllReadyH.cons rfl (fun K1 hK1 => ?_) AllReadyH.nil)
          · go_simp
            go_at_call 28
            refine (cut_any _ _).mono ?_
            rintro e w1 ⟨rfl, rfl⟩
            rw [C5.out]
            go_wp2_with fail
            refine hK1.out _ _ hHeld (fun hH1 => ?_)
            try simp only [Act.put, List.setIfInBounds_toArray, List.set_cons_zero, List.set_cons_succ]
            refine take_at (i := 3) (v := .int .i64 5) (some 27) rfl rfl (by kernel_rfl) (by kernel_rfl) (by kernel_rfl) (fun _ _ _ h => h) (Or.inl ⟨by rfl, fun W hW => ?_⟩) hH1 ?_
            · kernel_rfl
            simp only [Act.put, List.setIfInBounds_toArray, List.set_cons_zero, List.set_cons_succ]
            refine wpAnyH_ready (rs := [6, 15]) (by kernel_rfl) (by simp) ?_
            refine AllReadyH.cons rfl (fun K2 hK2 => ?_) (AllReadyH.cons rfl (fun K2 hK2 => ?_) AllReadyH.nil)
            · go_simp
              go_at_call 28
              refine (cut_any _ _).mono ?_
              rintro e w2 ⟨rfl, rfl⟩
              rw [C9.out]
              go_wp2_with fail
              refine hK2.out _ _ hH1 (fun hH2 => ?_)
              try simp only [Act.put, List.setIfInBounds_toArray, List.set_cons_zero, List.set_cons_succ]
              refine take_at (i := 14) (v := Value.agg #[.int .i64 5, .int .i64 9, .int .i64 0, .int .i64 1]) (some 38) rfl rfl (by kernel_rfl) (by kernel_rfl) (by kernel_rfl) (fun _ _ _ h => h) (yieldsIf_build (by rfl) 162 _ rfl [(0, .int .i64 5), (1, .int .i64 9), (2, .int .i64 0), (3, .int .i64 1)] rfl _ (by kernel_rfl)) hH2 ?_
              simp only [Act.put, List.setIfInBounds_toArray, List.set_cons_zero, List.set_cons_succ]
              refine wpAnyH_ready (rs := [15]) (by kernel_rfl) (by simp) ?_
              refine AllReadyH.cons rfl (fun K3 hK3 => ?_) AllReadyH.nil
              go_simp
              refine hK3.out _ _ (hH2.alloc _) (fun hH3 => ?_)
              try simp only [Act.put, List.setIfInBounds_toArray, List.set_cons_zero, List.set_cons_succ]
              refine wpAnyH_ready (rs := [16]) (by kernel_rfl) (by simp) ?_
              refine AllReadyH.cons rfl (fun K4 hK4 => ?_) AllReadyH.nil
              go_simp
              refine hK4.out _ _ (hHeld.alloc _) (fun hH4 => ?_)
              try simp only [Act.put, List.setIfInBounds_toArray, List.set_cons_zero, List.set_cons_succ]
              refine wpAnyH_done (by kernel_rfl) ?_ _
              have HVA := hide ((O2.out.alloc (.cells #[.int .i64 5, .int .i64 9, .int .i64 0, .int .i64 1] 162)).alloc (.cells #[.int .i64 5, .int .i64 9, .int .i64 0, .int .i64 1] 162))
              have hbx2 := Blk.new (wB.alloc (.cells #[.int .i64 5, .int .i64 9, .int .i64 0, .int .i64 1] 162)) 162 #[.int .i64 5, .int .i64 9, .int .i64 0, .int .i64 1]
              have hsA : (wB.alloc (.cells #[.int .i64 5, .int .i64 9, .int .i64 0, .int .i64 1] 162)).heap.size = wB.heap.size + 1 := by simp
              rw [hsA] at hbx2
              have HBX := hide hbx2
              have HBL := hide ((L2.alloc L2.size (.cells #[.int .i64 5, .int .i64 9, .int .i64 0, .int .i64 1] 162)).alloc (by rw [hsA]; have := L2.size; omega) (.cells #[.int .i64 5, .int .i64 9, .int .i64 0, .int .i64 1] 162))
              have HRT := hide (show rowTo 1 = rowTo 0 ++ (#[.int .i64 5, .int .i64 9, .int .i64 0, .int .i64 1] : Array Value).toList from rfl)
              have HCK := hide ((Blk.new wB 162 #[.int .i64 5, .int .i64 9, .int .i64 0, .int .i64 1]).alloc (.cells #[.int .i64 5, .int .i64 9, .int .i64 0, .int .i64 1] 162))
              have HNE := hide (show some wB.heap.size ≠ v.ownBlock from fun h => by have := own_lt O2.out _ h.symm; omega)
              have mx : max (9 : Int) 5 = 9 := rfl
              have HJN := hide (show 0 ≤ 1000000 by omega)
              clear hbx2 hsA
              go_wp2_with (first | (at_builtin; refine wpList_app1 rfl (.tmp 45) (.tmp 47) _ rfl w.heap.size 162 _ 4 32 Try.underlying157 cell_info rfl (Nat.succ_pos _) _ 0 _ rfl HVA.out (wB.heap.size + 1) 1 _ HBX.out rfl rfl rfl HJN.out (Nat.le_of_ble_eq_true rfl) HBL.out.size ?_; intro v4 w4 hown4 hg4; have hcs : w4.cell? ⟨wB.heap.size, 3, none⟩ = some (.int .i64 1) := (HCK.out.grown hg4 HNE.out).cell 3; have O4 := hide hown4; have hb9 := own_below HVA.out HBL.out (Nat.le_refl _) (Nat.le_refl _) hg4; clear hown4 hg4) | fail)
              go_roundw
              case rel => exact ⟨1, by omega, by go_num, by go_num, by rw [HRT.out]; exact O4.out, hb9⟩
              case measure => simp [intOf]
            · go_simp
              refine hK2.out _ _ (hH1.alloc _) (fun hH2 => ?_)
              try simp only [Act.put, List.setIfInBounds_toArray, List.set_cons_zero, List.set_cons_succ]
              refine wpAnyH_ready (rs := [6]) (by kernel_rfl) (by simp) ?_
              refine AllReadyH.cons rfl (fun K3 hK3 => ?_) AllReadyH.nil
              go_simp
              go_at_call 28
              refine (cut_any _ _).mono ?_
              rintro e w3 ⟨rfl, rfl⟩
              rw [C9.out]
              go_wp2_with fail
              refine hK3.out _ _ hH2 (fun hH3 => ?_)
              try simp only [Act.put, List.setIfInBounds_toArray, List.set_cons_zero, List.set_cons_succ]
              refine take_at (i := 14) (v := Value.agg #[.int .i64 5, .int .i64 9, .int .i64 0, .int .i64 1]) (some 38) rfl rfl (by kernel_rfl) (by kernel_rfl) (by kernel_rfl) (fun _ _ _ h => h) (yieldsIf_build (by rfl) 162 _ rfl [(0, .int .i64 5), (1, .int .i64 9), (2, .int .i64 0), (3, .int .i64 1)] rfl _ (by kernel_rfl)) hH3 ?_
              simp only [Act.put, List.setIfInBounds_toArray, List.set_cons_zero, List.set_cons_succ]
              refine wpAnyH_ready (rs := [16]) (by kernel_rfl) (by simp) ?_
              refine AllReadyH.cons rfl (fun K4 hK4 => ?_) AllReadyH.nil
              go_simp
              refine hK4.out _ _ (hHeld.alloc _) (fun hH4 => ?_)
              try simp only [Act.put, List.setIfInBounds_toArray, List.set_cons_zero, List.set_cons_succ]
              refine wpAnyH_done (by kernel_rfl) ?_ _
              have HVA := hide ((O2.out.alloc (.cells #[.int .i64 5, .int .i64 9, .int .i64 0, .int .i64 1] 162)).alloc (.cells #[.int .i64 5, .int .i64 9, .int .i64 0, .int .i64 1] 162))
              have hbx2 := Blk.new (wB.alloc (.cells #[.int .i64 5, .int .i64 9, .int .i64 0, .int .i64 1] 162)) 162 #[.int .i64 5, .int .i64 9, .int .i64 0, .int .i64 1]
              have hsA : (wB.alloc (.cells #[.int .i64 5, .int .i64 9, .int .i64 0, .int .i64 1] 162)).heap.size = wB.heap.size + 1 := by simp
              rw [hsA] at hbx2
              have HBX := hide hbx2
              have HBL := hide ((L2.alloc L2.size (.cells #[.int .i64 5, .int .i64 9, .int .i64 0, .int .i64 1] 162)).alloc (by rw [hsA]; have := L2.size; omega) (.cells #[.int .i64 5, .int .i64 9, .int .i64 0, .int .i64 1] 162))
              have HRT := hide (show rowTo 1 = rowTo 0 ++ (#[.int .i64 5, .int .i64 9, .int .i64 0, .int .i64 1] : Array Value).toList from rfl)
              have HCK := hide ((Blk.new wB 162 #[.int .i64 5, .int .i64 9, .int .i64 0, .int .i64 1]).alloc (.cells #[.int .i64 5, .int .i64 9, .int .i64 0, .int .i64 1] 162))
              have HNE := hide (show some wB.heap.size ≠ v.ownBlock from fun h => by have := own_lt O2.out _ h.symm; omega)
              have mx : max (9 : Int) 5 = 9 := rfl
              have HJN := hide (show 0 ≤ 1000000 by omega)
              clear hbx2 hsA
              go_wp2_with (first | (at_builtin; refine wpList_app1 rfl (.tmp 45) (.tmp 47) _ rfl w.heap.size 162 _ 4 32 Try.underlying157 cell_info rfl (Nat.succ_pos _) _ 0 _ rfl HVA.out (wB.heap.size + 1) 1 _ HBX.out rfl rfl rfl HJN.out (Nat.le_of_ble_eq_true rfl) HBL.out.size ?_; intro v4 w4 hown4 hg4; have hcs : w4.cell? ⟨wB.heap.size, 3, none⟩ = some (.int .i64 1) := (HCK.out.grown hg4 HNE.out).cell 3; have O4 := hide hown4; have hb9 := own_below HVA.out HBL.out (Nat.le_refl _) (Nat.le_refl _) hg4; clear hown4 hg4) | fail)
              go_roundw
              case rel => exact ⟨1, by omega, by go_num, by go_num, by rw [HRT.out]; exact O4.out, hb9⟩
              case measure => simp [intOf]
          · go_simp
            refine hK1.out _ _ (hHeld.alloc _) (fun hH1 => ?_)
            try simp only [Act.put, List.setIfInBounds_toArray, List.set_cons_zero, List.set_cons_succ]
            refine wpAnyH_ready (rs := [2]) (by kernel_rfl) (by simp) ?_
            refine AllReadyH.cons rfl (fun K2 hK2 => ?_) AllReadyH.nil
            go_simp
            go_at_call 28
            refine (cut_any _ _).mono ?_
            rintro e w2 ⟨rfl, rfl⟩
            rw [C5.out]
            go_wp2_with fail
            refine hK2.out _ _ hH1 (fun hH2 => ?_)
            try simp only [Act.put, List.setIfInBounds_toArray, List.set_cons_zero, List.set_cons_succ]
            refine take_at (i := 3) (v := .int .i64 5) (some 27) rfl rfl (by kernel_rfl) (by kernel_rfl) (by kernel_rfl) (fun _ _ _ h => h) (Or.inl ⟨by rfl, fun W hW => ?_⟩) hH2 ?_
            · kernel_rfl
            simp only [Act.put, List.setIfInBounds_toArray, List.set_cons_zero, List.set_cons_succ]
            refine wpAnyH_ready (rs := [6]) (by kernel_rfl) (by simp) ?_
            refine AllReadyH.cons rfl (fun K3 hK3 => ?_) AllReadyH.nil
            go_simp
            go_at_call 28
            refine (cut_any _ _).mono ?_
            rintro e w3 ⟨rfl, rfl⟩
            rw [C9.out]
            go_wp2_with fail
            refine hK3.out _ _ hH2 (fun hH3 => ?_)
            try simp only [Act.put, List.setIfInBounds_toArray, List.set_cons_zero, List.set_cons_succ]
            refine take_at (i := 14) (v := Value.agg #[.int .i64 5, .int .i64 9, .int .i64 0, .int .i64 1]) (some 38) rfl rfl (by kernel_rfl) (by kernel_rfl) (by kernel_rfl) (fun _ _ _ h => h) (yieldsIf_build (by rfl) 162 _ rfl [(0, .int .i64 5), (1, .int .i64 9), (2, .int .i64 0), (3, .int .i64 1)] rfl _ (by kernel_rfl)) hH3 ?_
            simp only [Act.put, List.setIfInBounds_toArray, List.set_cons_zero, List.set_cons_succ]
            refine wpAnyH_ready (rs := [16]) (by kernel_rfl) (by simp) ?_
            refine AllReadyH.cons rfl (fun K4 hK4 => ?_) AllReadyH.nil
            go_simp
            refine hK4.out _ _ (hHeld.alloc _) (fun hH4 => ?_)
            try simp only [Act.put, List.setIfInBounds_toArray, List.set_cons_zero, List.set_cons_succ]
            refine wpAnyH_done (by kernel_rfl) ?_ _
            have HVA := hide ((O2.out.alloc (.cells #[.int .i64 5, .int .i64 9, .int .i64 0, .int .i64 1] 162)).alloc (.cells #[.int .i64 5, .int .i64 9, .int .i64 0, .int .i64 1] 162))
            have hbx2 := Blk.new (wB.alloc (.cells #[.int .i64 5, .int .i64 9, .int .i64 0, .int .i64 1] 162)) 162 #[.int .i64 5, .int .i64 9, .int .i64 0, .int .i64 1]
            have hsA : (wB.alloc (.cells #[.int .i64 5, .int .i64 9, .int .i64 0, .int .i64 1] 162)).heap.size = wB.heap.size + 1 := by simp
            rw [hsA] at hbx2
            have HBX := hide hbx2
            have HBL := hide ((L2.alloc L2.size (.cells #[.int .i64 5, .int .i64 9, .int .i64 0, .int .i64 1] 162)).alloc (by rw [hsA]; have := L2.size; omega) (.cells #[.int .i64 5, .int .i64 9, .int .i64 0, .int .i64 1] 162))
            have HRT := hide (show rowTo 1 = rowTo 0 ++ (#[.int .i64 5, .int .i64 9, .int .i64 0, .int .i64 1] : Array Value).toList from rfl)
            have HCK := hide ((Blk.new wB 162 #[.int .i64 5, .int .i64 9, .int .i64 0, .int .i64 1]).alloc (.cells #[.int .i64 5, .int .i64 9, .int .i64 0, .int .i64 1] 162))
            have HNE := hide (show some wB.heap.size ≠ v.ownBlock from fun h => by have := own_lt O2.out _ h.symm; omega)
            have mx : max (9 : Int) 5 = 9 := rfl
            have HJN := hide (show 0 ≤ 1000000 by omega)
            clear hbx2 hsA
            go_wp2_with (first | (at_builtin; refine wpList_app1 rfl (.tmp 45) (.tmp 47) _ rfl w.heap.size 162 _ 4 32 Try.underlying157 cell_info rfl (Nat.succ_pos _) _ 0 _ rfl HVA.out (wB.heap.size + 1) 1 _ HBX.out rfl rfl rfl HJN.out (Nat.le_of_ble_eq_true rfl) HBL.out.size ?_; intro v4 w4 hown4 hg4; have hcs : w4.cell? ⟨wB.heap.size, 3, none⟩ = some (.int .i64 1) := (HCK.out.grown hg4 HNE.out).cell 3; have O4 := hide hown4; have hb9 := own_below HVA.out HBL.out (Nat.le_refl _) (Nat.le_refl _) hg4; clear hown4 hg4) | fail)
            go_roundw
            case rel => exact ⟨1, by omega, by go_num, by go_num, by rw [HRT.out]; exact O4.out, hb9⟩
            case measure => simp [intOf]
        · have ps : LitS g1 g2 c1 wr := LitS.below HS.out hbel
          unfold LitS at ps
          have B1 := hide (Blk.new wr 92 #[.int .i64 2, .int .i64 3, .int .i64 1])
          have O1 := hide (hown.alloc (.cells #[.int .i64 2, .int .i64 3, .int .i64 1] 92))
          have L1 := hbel.alloc hszr (.cells #[.int .i64 2, .int .i64 3, .int .i64 1] 92)
          clear hown
          rw [show ((1 : Nat) : Int) = 1 from rfl]
          go_wp2_with fail
          clear ps
          generalize wr.alloc (.cells #[.int .i64 2, .int .i64 3, .int .i64 1] 92) = wA at *
          generalize wr.heap.size = bx at *
          have hbx := B1.out.lt
          refine wp_region_held_drew (S := fun W => Blk W bx 92 #[.int .i64 2, .int .i64 3, .int .i64 1]) (by kernel_rfl) B1.out.drew (fun hHeld => ?_)
          have O2 := hide O1.out.drew
          have L2 := L1.drew
          clear O1 L1 B1
          generalize wA.drew = wB at *
          refine take_at (i := 0) (v := Value.pointer (some ⟨bx, 0, none⟩)) (some 24) rfl rfl (by kernel_rfl) (by kernel_rfl) (by kernel_rfl) (fun _ _ _ h => h) (Or.inl ⟨by rfl, fun W hW => ?_⟩) hHeld ?_
          · go_simp
          simp only [Act.put, List.setIfInBounds_toArray, List.set_cons_zero, List.set_cons_succ]
          refine take_at (i := 1) (v := .int .i64 2) (some 25) rfl rfl (by kernel_rfl) (by kernel_rfl) (by kernel_rfl) (fun _ _ _ h => h) (Or.inl ⟨by rfl, fun W hW => ?_⟩) hHeld ?_
          · have h4 : W.cell? ⟨bx, 0, none⟩ = some (.int .i64 2) := hW.cell 0; go_simp
          simp only [Act.put, List.setIfInBounds_toArray, List.set_cons_zero, List.set_cons_succ]
          refine take_at (i := 4) (v := Value.pointer (some ⟨bx, 1, none⟩)) (some 28) rfl rfl (by kernel_rfl) (by kernel_rfl) (by kernel_rfl) (fun _ _ _ h => h) (Or.inl ⟨by rfl, fun W hW => ?_⟩) hHeld ?_
          · go_simp
          simp only [Act.put, List.setIfInBounds_toArray, List.set_cons_zero, List.set_cons_succ]
          refine take_at (i := 5) (v := .int .i64 3) (some 29) rfl rfl (by kernel_rfl) (by kernel_rfl) (by kernel_rfl) (fun _ _ _ h => h) (Or.inl ⟨by rfl, fun W hW => ?_⟩) hHeld ?_
          · have h4 : W.cell? ⟨bx, 1, none⟩ = some (.int .i64 3) := hW.cell 1; go_simp
          simp only [Act.put, List.setIfInBounds_toArray, List.set_cons_zero, List.set_cons_succ]
          refine take_at (i := 7) (v := .int .i64 1) (some 31) rfl rfl (by kernel_rfl) (by kernel_rfl) (by kernel_rfl) (fun _ _ _ h => h) (yieldsIf_move (by rfl) _ rfl _ rfl) hHeld ?_
          simp only [Act.put, List.setIfInBounds_toArray, List.set_cons_zero, List.set_cons_succ]
          refine take_at (i := 8) (v := Value.pointer (some ⟨bx, 2, none⟩)) (some 32) rfl rfl (by kernel_rfl) (by kernel_rfl) (by kernel_rfl) (fun _ _ _ h => h) (Or.inl ⟨by rfl, fun W hW => ?_⟩) hHeld ?_
          · go_simp
          simp only [Act.put, List.setIfInBounds_toArray, List.set_cons_zero, List.set_cons_succ]
          refine take_at (i := 9) (v := .int .i64 1) (some 33) rfl rfl (by kernel_rfl) (by kernel_rfl) (by kernel_rfl) (fun _ _ _ h => h) (Or.inl ⟨by rfl, fun W hW => ?_⟩) hHeld ?_
          · have h4 : W.cell? ⟨bx, 2, none⟩ = some (.int .i64 1) := hW.cell 2; go_simp
          simp only [Act.put, List.setIfInBounds_toArray, List.set_cons_zero, List.set_cons_succ]
          refine take_at (i := 10) (v := .int .i64 1) (some 34) rfl rfl (by kernel_rfl) (by kernel_rfl) (by kernel_rfl) (fun _ _ _ h => h) (Or.inl ⟨by rfl, fun W hW => ?_⟩) hHeld ?_
          · kernel_rfl
          simp only [Act.put, List.setIfInBounds_toArray, List.set_cons_zero, List.set_cons_succ]
          refine take_at (i := 11) (v := .int .i64 1) (some 35) rfl rfl (by kernel_rfl) (by kernel_rfl) (by kernel_rfl) (fun _ _ _ h => h) (yieldsIf_move (by rfl) _ rfl _ rfl) hHeld ?_
          simp only [Act.put, List.setIfInBounds_toArray, List.set_cons_zero, List.set_cons_succ]
          refine take_at (i := 12) (v := .int .i64 99) (some 36) rfl rfl (by kernel_rfl) (by kernel_rfl) (by kernel_rfl) (fun _ _ _ h => h) (Or.inl ⟨by rfl, fun W hW => ?_⟩) hHeld ?_
          · kernel_rfl
          simp only [Act.put, List.setIfInBounds_toArray, List.set_cons_zero, List.set_cons_succ]
          refine take_at (i := 13) (v := .int .i64 1) (some 37) rfl rfl (by kernel_rfl) (by kernel_rfl) (by kernel_rfl) (fun _ _ _ h => h) (Or.inl ⟨by rfl, fun W hW => ?_⟩) hHeld ?_
          · kernel_rfl
          simp only [Act.put, List.setIfInBounds_toArray, List.set_cons_zero, List.set_cons_succ]
          refine wpAnyH_ready (rs := [2, 15]) (by kernel_rfl) (by simp) ?_
          refine AllReadyH.cons rfl (fun K1 hK1 => ?_) (AllReadyH.cons rfl (fun K1 hK1 => ?_) AllReadyH.nil)
          · go_simp
            go_at_call 28
            refine (cut_any _ _).mono ?_
            rintro e w1 ⟨rfl, rfl⟩
            rw [C2.out]
            go_wp2_with fail
            refine hK1.out _ _ hHeld (fun hH1 => ?_)
            try simp only [Act.put, List.setIfInBounds_toArray, List.set_cons_zero, List.set_cons_succ]
            refine take_at (i := 3) (v := .int .i64 2) (some 27) rfl rfl (by kernel_rfl) (by kernel_rfl) (by kernel_rfl) (fun _ _ _ h => h) (Or.inl ⟨by rfl, fun W hW => ?_⟩) hH1 ?_
            · kernel_rfl
            simp only [Act.put, List.setIfInBounds_toArray, List.set_cons_zero, List.set_cons_succ]
            refine wpAnyH_ready (rs := [6, 15]) (by kernel_rfl) (by simp) ?_
            refine AllReadyH.cons rfl (fun K2 hK2 => ?_) (AllReadyH.cons rfl (fun K2 hK2 => ?_) AllReadyH.nil)
            · go_simp
              go_at_call 28
              refine (cut_any _ _).mono ?_
              rintro e w2 ⟨rfl, rfl⟩
              rw [C3.out]
              go_wp2_with fail
              refine hK2.out _ _ hH1 (fun hH2 => ?_)
              try simp only [Act.put, List.setIfInBounds_toArray, List.set_cons_zero, List.set_cons_succ]
              refine take_at (i := 14) (v := Value.agg #[.int .i64 2, .int .i64 3, .int .i64 1, .int .i64 1]) (some 38) rfl rfl (by kernel_rfl) (by kernel_rfl) (by kernel_rfl) (fun _ _ _ h => h) (yieldsIf_build (by rfl) 162 _ rfl [(0, .int .i64 2), (1, .int .i64 3), (2, .int .i64 1), (3, .int .i64 1)] rfl _ (by kernel_rfl)) hH2 ?_
              simp only [Act.put, List.setIfInBounds_toArray, List.set_cons_zero, List.set_cons_succ]
              refine wpAnyH_ready (rs := [15]) (by kernel_rfl) (by simp) ?_
              refine AllReadyH.cons rfl (fun K3 hK3 => ?_) AllReadyH.nil
              go_simp
              refine hK3.out _ _ (hH2.alloc _) (fun hH3 => ?_)
              try simp only [Act.put, List.setIfInBounds_toArray, List.set_cons_zero, List.set_cons_succ]
              refine wpAnyH_ready (rs := [16]) (by kernel_rfl) (by simp) ?_
              refine AllReadyH.cons rfl (fun K4 hK4 => ?_) AllReadyH.nil
              go_simp
              refine hK4.out _ _ (hHeld.alloc _) (fun hH4 => ?_)
              try simp only [Act.put, List.setIfInBounds_toArray, List.set_cons_zero, List.set_cons_succ]
              refine wpAnyH_done (by kernel_rfl) ?_ _
              have HVA := hide ((O2.out.alloc (.cells #[.int .i64 2, .int .i64 3, .int .i64 1, .int .i64 1] 162)).alloc (.cells #[.int .i64 2, .int .i64 3, .int .i64 1, .int .i64 1] 162))
              have hbx2 := Blk.new (wB.alloc (.cells #[.int .i64 2, .int .i64 3, .int .i64 1, .int .i64 1] 162)) 162 #[.int .i64 2, .int .i64 3, .int .i64 1, .int .i64 1]
              have hsA : (wB.alloc (.cells #[.int .i64 2, .int .i64 3, .int .i64 1, .int .i64 1] 162)).heap.size = wB.heap.size + 1 := by simp
              rw [hsA] at hbx2
              have HBX := hide hbx2
              have HBL := hide ((L2.alloc L2.size (.cells #[.int .i64 2, .int .i64 3, .int .i64 1, .int .i64 1] 162)).alloc (by rw [hsA]; have := L2.size; omega) (.cells #[.int .i64 2, .int .i64 3, .int .i64 1, .int .i64 1] 162))
              have HRT := hide (show rowTo 2 = rowTo 1 ++ (#[.int .i64 2, .int .i64 3, .int .i64 1, .int .i64 1] : Array Value).toList from rfl)
              have HCK := hide ((Blk.new wB 162 #[.int .i64 2, .int .i64 3, .int .i64 1, .int .i64 1]).alloc (.cells #[.int .i64 2, .int .i64 3, .int .i64 1, .int .i64 1] 162))
              have HNE := hide (show some wB.heap.size ≠ v.ownBlock from fun h => by have := own_lt O2.out _ h.symm; omega)
              have mx : max (3 : Int) 2 = 3 := rfl
              have HJN := hide (show 1 ≤ 1000000 by omega)
              clear hbx2 hsA
              go_wp2_with (first | (at_builtin; refine wpList_app1 rfl (.tmp 45) (.tmp 47) _ rfl w.heap.size 162 _ 4 32 Try.underlying157 cell_info rfl (Nat.succ_pos _) _ 1 _ rfl HVA.out (wB.heap.size + 1) 1 _ HBX.out rfl rfl rfl HJN.out (Nat.le_of_ble_eq_true rfl) HBL.out.size ?_; intro v4 w4 hown4 hg4; have hcs : w4.cell? ⟨wB.heap.size, 3, none⟩ = some (.int .i64 1) := (HCK.out.grown hg4 HNE.out).cell 3; have O4 := hide hown4; have hb9 := own_below HVA.out HBL.out (Nat.le_refl _) (Nat.le_refl _) hg4; clear hown4 hg4) | fail)
              go_roundw
              case rel => exact ⟨2, by omega, by go_num, by go_num, by rw [HRT.out]; exact O4.out, hb9⟩
              case measure => simp [intOf]
            · go_simp
              refine hK2.out _ _ (hH1.alloc _) (fun hH2 => ?_)
              try simp only [Act.put, List.setIfInBounds_toArray, List.set_cons_zero, List.set_cons_succ]
              refine wpAnyH_ready (rs := [6]) (by kernel_rfl) (by simp) ?_
              refine AllReadyH.cons rfl (fun K3 hK3 => ?_) AllReadyH.nil
              go_simp
              go_at_call 28
              refine (cut_any _ _).mono ?_
              rintro e w3 ⟨rfl, rfl⟩
              rw [C3.out]
              go_wp2_with fail
              refine hK3.out _ _ hH2 (fun hH3 => ?_)
              try simp only [Act.put, List.setIfInBounds_toArray, List.set_cons_zero, List.set_cons_succ]
              refine take_at (i := 14) (v := Value.agg #[.int .i64 2, .int .i64 3, .int .i64 1, .int .i64 1]) (some 38) rfl rfl (by kernel_rfl) (by kernel_rfl) (by kernel_rfl) (fun _ _ _ h => h) (yieldsIf_build (by rfl) 162 _ rfl [(0, .int .i64 2), (1, .int .i64 3), (2, .int .i64 1), (3, .int .i64 1)] rfl _ (by kernel_rfl)) hH3 ?_
              simp only [Act.put, List.setIfInBounds_toArray, List.set_cons_zero, List.set_cons_succ]
              refine wpAnyH_ready (rs := [16]) (by kernel_rfl) (by simp) ?_
              refine AllReadyH.cons rfl (fun K4 hK4 => ?_) AllReadyH.nil
              go_simp
              refine hK4.out _ _ (hHeld.alloc _) (fun hH4 => ?_)
              try simp only [Act.put, List.setIfInBounds_toArray, List.set_cons_zero, List.set_cons_succ]
              refine wpAnyH_done (by kernel_rfl) ?_ _
              have HVA := hide ((O2.out.alloc (.cells #[.int .i64 2, .int .i64 3, .int .i64 1, .int .i64 1] 162)).alloc (.cells #[.int .i64 2, .int .i64 3, .int .i64 1, .int .i64 1] 162))
              have hbx2 := Blk.new (wB.alloc (.cells #[.int .i64 2, .int .i64 3, .int .i64 1, .int .i64 1] 162)) 162 #[.int .i64 2, .int .i64 3, .int .i64 1, .int .i64 1]
              have hsA : (wB.alloc (.cells #[.int .i64 2, .int .i64 3, .int .i64 1, .int .i64 1] 162)).heap.size = wB.heap.size + 1 := by simp
              rw [hsA] at hbx2
              have HBX := hide hbx2
              have HBL := hide ((L2.alloc L2.size (.cells #[.int .i64 2, .int .i64 3, .int .i64 1, .int .i64 1] 162)).alloc (by rw [hsA]; have := L2.size; omega) (.cells #[.int .i64 2, .int .i64 3, .int .i64 1, .int .i64 1] 162))
              have HRT := hide (show rowTo 2 = rowTo 1 ++ (#[.int .i64 2, .int .i64 3, .int .i64 1, .int .i64 1] : Array Value).toList from rfl)
              have HCK := hide ((Blk.new wB 162 #[.int .i64 2, .int .i64 3, .int .i64 1, .int .i64 1]).alloc (.cells #[.int .i64 2, .int .i64 3, .int .i64 1, .int .i64 1] 162))
              have HNE := hide (show some wB.heap.size ≠ v.ownBlock from fun h => by have := own_lt O2.out _ h.symm; omega)
              have mx : max (3 : Int) 2 = 3 := rfl
              have HJN := hide (show 1 ≤ 1000000 by omega)
              clear hbx2 hsA
              go_wp2_with (first | (at_builtin; refine wpList_app1 rfl (.tmp 45) (.tmp 47) _ rfl w.heap.size 162 _ 4 32 Try.underlying157 cell_info rfl (Nat.succ_pos _) _ 1 _ rfl HVA.out (wB.heap.size + 1) 1 _ HBX.out rfl rfl rfl HJN.out (Nat.le_of_ble_eq_true rfl) HBL.out.size ?_; intro v4 w4 hown4 hg4; have hcs : w4.cell? ⟨wB.heap.size, 3, none⟩ = some (.int .i64 1) := (HCK.out.grown hg4 HNE.out).cell 3; have O4 := hide hown4; have hb9 := own_below HVA.out HBL.out (Nat.le_refl _) (Nat.le_refl _) hg4; clear hown4 hg4) | fail)
              go_roundw
              case rel => exact ⟨2, by omega, by go_num, by go_num, by rw [HRT.out]; exact O4.out, hb9⟩
              case measure => simp [intOf]
          · go_simp
            refine hK1.out _ _ (hHeld.alloc _) (fun hH1 => ?_)
            try simp only [Act.put, List.setIfInBounds_toArray, List.set_cons_zero, List.set_cons_succ]
            refine wpAnyH_ready (rs := [2]) (by kernel_rfl) (by simp) ?_
            refine AllReadyH.cons rfl (fun K2 hK2 => ?_) AllReadyH.nil
            go_simp
            go_at_call 28
            refine (cut_any _ _).mono ?_
            rintro e w2 ⟨rfl, rfl⟩
            rw [C2.out]
            go_wp2_with fail
            refine hK2.out _ _ hH1 (fun hH2 => ?_)
            try simp only [Act.put, List.setIfInBounds_toArray, List.set_cons_zero, List.set_cons_succ]
            refine take_at (i := 3) (v := .int .i64 2) (some 27) rfl rfl (by kernel_rfl) (by kernel_rfl) (by kernel_rfl) (fun _ _ _ h => h) (Or.inl ⟨by rfl, fun W hW => ?_⟩) hH2 ?_
            · kernel_rfl
            simp only [Act.put, List.setIfInBounds_toArray, List.set_cons_zero, List.set_cons_succ]
            refine wpAnyH_ready (rs := [6]) (by kernel_rfl) (by simp) ?_
            refine AllReadyH.cons rfl (fun K3 hK3 => ?_) AllReadyH.nil
            go_simp
            go_at_call 28
            refine (cut_any _ _).mono ?_
            rintro e w3 ⟨rfl, rfl⟩
            rw [C3.out]
            go_wp2_with fail
            refine hK3.out _ _ hH2 (fun hH3 => ?_)
            try simp only [Act.put, List.setIfInBounds_toArray, List.set_cons_zero, List.set_cons_succ]
            refine take_at (i := 14) (v := Value.agg #[.int .i64 2, .int .i64 3, .int .i64 1, .int .i64 1]) (some 38) rfl rfl (by kernel_rfl) (by kernel_rfl) (by kernel_rfl) (fun _ _ _ h => h) (yieldsIf_build (by rfl) 162 _ rfl [(0, .int .i64 2), (1, .int .i64 3), (2, .int .i64 1), (3, .int .i64 1)] rfl _ (by kernel_rfl)) hH3 ?_
            simp only [Act.put, List.setIfInBounds_toArray, List.set_cons_zero, List.set_cons_succ]
            refine wpAnyH_ready (rs := [16]) (by kernel_rfl) (by simp) ?_
            refine AllReadyH.cons rfl (fun K4 hK4 => ?_) AllReadyH.nil
            go_simp
            refine hK4.out _ _ (hHeld.alloc _) (fun hH4 => ?_)
            try simp only [Act.put, List.setIfInBounds_toArray, List.set_cons_zero, List.set_cons_succ]
            refine wpAnyH_done (by kernel_rfl) ?_ _
            have HVA := hide ((O2.out.alloc (.cells #[.int .i64 2, .int .i64 3, .int .i64 1, .int .i64 1] 162)).alloc (.cells #[.int .i64 2, .int .i64 3, .int .i64 1, .int .i64 1] 162))
            have hbx2 := Blk.new (wB.alloc (.cells #[.int .i64 2, .int .i64 3, .int .i64 1, .int .i64 1] 162)) 162 #[.int .i64 2, .int .i64 3, .int .i64 1, .int .i64 1]
            have hsA : (wB.alloc (.cells #[.int .i64 2, .int .i64 3, .int .i64 1, .int .i64 1] 162)).heap.size = wB.heap.size + 1 := by simp
            rw [hsA] at hbx2
            have HBX := hide hbx2
            have HBL := hide ((L2.alloc L2.size (.cells #[.int .i64 2, .int .i64 3, .int .i64 1, .int .i64 1] 162)).alloc (by rw [hsA]; have := L2.size; omega) (.cells #[.int .i64 2, .int .i64 3, .int .i64 1, .int .i64 1] 162))
            have HRT := hide (show rowTo 2 = rowTo 1 ++ (#[.int .i64 2, .int .i64 3, .int .i64 1, .int .i64 1] : Array Value).toList from rfl)
            have HCK := hide ((Blk.new wB 162 #[.int .i64 2, .int .i64 3, .int .i64 1, .int .i64 1]).alloc (.cells #[.int .i64 2, .int .i64 3, .int .i64 1, .int .i64 1] 162))
            have HNE := hide (show some wB.heap.size ≠ v.ownBlock from fun h => by have := own_lt O2.out _ h.symm; omega)
            have mx : max (3 : Int) 2 = 3 := rfl
            have HJN := hide (show 1 ≤ 1000000 by omega)
            clear hbx2 hsA
            go_wp2_with (first | (at_builtin; refine wpList_app1 rfl (.tmp 45) (.tmp 47) _ rfl w.heap.size 162 _ 4 32 Try.underlying157 cell_info rfl (Nat.succ_pos _) _ 1 _ rfl HVA.out (wB.heap.size + 1) 1 _ HBX.out rfl rfl rfl HJN.out (Nat.le_of_ble_eq_true rfl) HBL.out.size ?_; intro v4 w4 hown4 hg4; have hcs : w4.cell? ⟨wB.heap.size, 3, none⟩ = some (.int .i64 1) := (HCK.out.grown hg4 HNE.out).cell 3; have O4 := hide hown4; have hb9 := own_below HVA.out HBL.out (Nat.le_refl _) (Nat.le_refl _) hg4; clear hown4 hg4) | fail)
            go_roundw
            case rel => exact ⟨2, by omega, by go_num, by go_num, by rw [HRT.out]; exact O4.out, hb9⟩
            case measure => simp [intOf]
        · have HW2 := hide (show wr.ownsRow w.heap.size 162 4 v 2 twoV from hown)
          clear hown
          go_wp2_with fail
          exact ⟨⟨.inr ⟨rfl, rfl, HW2.out⟩, hbel⟩, by simp [intOf]⟩
    · obtain ⟨v, hv⟩ : ∃ v, v = u2 := ⟨_, rfl⟩
      rw [← hv] at hown ⊢
      have HW2 := hide hown
      clear hown hv
      go_wp2_with fail
      go_ret2
      exact ⟨v, rfl, HW2.out, hbel⟩
end Go.Proofs.Ytadlabndbomgmaa
