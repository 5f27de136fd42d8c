/- The walk of table.cells at rows of any cells. -/
import Derived.BigQuiet
import Derived.Handy
import Derived.IntWalk
import Derived.RegionTactic
import Derived.Deep.QuietTactic
import Derived.Deep.MidRow
import Derived.Deep.RegionHeld3
import Derived.Test.YtadlabndbomgmaaRowsAt
import Derived.Test.YtadlabndbomgmaaTakeCall
import Derived.Test.YtadlabndbomgmaaFix
namespace Go.Proofs.Ytadlabndbomgmaa
open Go.ChangeShapes Go.WideShapes Go.ChangeAt Go.RowKit
theorem cellg_info : (Try.prog.info? 162).map (fun i => (i.zero, i.size, i.bytes)) = some (some (.agg #[.int .i64 0, .int .i64 0, .int .i64 0, .int .i64 0]), 4, 32) := by kernel_rfl
theorem ceCells_snoc (l : List Ce) (c : Ce) : ceCells (l ++ [c]) = ceCells l ++ ceC c := by simp [ceCells]
theorem cut_any0 (n : Int) (w : World) (h : cut n = n) : Calls Try.prog 28 #[.int .i64 n] w fun e w' => e = .returned (.int .i64 n) ∧ w = w' := by
  have := cut_any n w
  rwa [h] at this
set_option maxRecDepth 100000 in
set_option maxHeartbeats 4000000 in
theorem cells_any (A : Option Addr) (c : Nat) (F : Nat → Hd) (rows : List (List Lc)) (B : Nat) (w : World) (hB : B ≤ w.heap.size) (hn : rows.length ≤ 12) (hok : RowsOk rows) (hr : RowsAt w B A F rows) :
    Calls Try.prog 101 #[.slice A rows.length c] w fun e w' => ∃ v, e = .returned (.tuple #[v, .int .i64 (manyOf rows)]) ∧ w'.ownsRow w.heap.size 162 4 v (allCes rows).length (ceCells (allCes rows)) ∧ Below w.heap.size w w' := by
  have HR := hide hr
  have HO := hide hok
  clear hr hok
  go_enter Try.func101, Try.ntmps101
  go_wp2_with fail
  go_loopw [2, 3, 12] (fun v m i wr => ∃ k : Nat, k ≤ rows.length ∧ i = .int .i64 k ∧ m = .int .i64 (manyOf (rows.take k)) ∧ wr.ownsRow w.heap.size 162 4 v (allCes (rows.take k)).length (ceCells (allCes (rows.take k))) ∧ Below w.heap.size w wr) (fun _ _ i _ => rows.length - (intOf i).toNat)
  case atStart => exact ⟨0, Nat.zero_le _, rfl, rfl, own_none _ _ _ _, Below.refl _ _⟩
  case round =>
    obtain ⟨k, hk, rfl, rfl, hown, hbel⟩ := hrel
    have HW := hide hown
    have hszr := hbel.size
    clear hown
    obtain ⟨v, hv⟩ : ∃ v, v = u2 := ⟨_, rfl⟩
    rw [← hv] at HW ⊢
    clear hv
    by_cases hlt : k < rows.length
    · obtain ⟨g, off, rfl, hg, hcell0⟩ := (HR.out.below (hbel.mono hB)).outer k hlt
      have hlen := HR.out.len k hlt
      have HIN := hide (HR.out.inner k hlt)
      generalize F k = hd at *
      obtain ⟨A1, n1, c1⟩ := hd
      simp only at hlen
      subst hlen
      have hcell : wr.cell? ⟨g, off + k, none⟩ = some (.slice A1 (rowAt rows k).length c1) := hcell0
      have hl12 : (rowAt rows k).length ≤ 12 := by rw [rowAt_of rows k hlt]; exact (HO.out _ (List.getElem_mem hlt)).1
      have HM := hide (manyOf_next rows HO.out k hlt)
      have hm0 := manyOf_nonneg (rows.take k)
      have hm1 := manyOf_le (rows.take k) fun r hr => HO.out r (List.mem_of_mem_take hr)
      have HA := hide (upTo2_all rows k hlt)
      rw [← upTo2_zero] at HW
      clear hcell0
      go_wp2_with fail
      clear hcell
      have H0 := hide (show atS rows k 0 = 0 from by simp [atS, spanSum])
      go_loopw [2, 6, 18] (fun v at_ i wr => ∃ j : Nat, j ≤ (rowAt rows k).length ∧ i = .int .i64 j ∧ at_ = .int .i64 (atS rows k j) ∧ wr.ownsRow w.heap.size 162 4 v (upTo2 rows k j).length (ceCells (upTo2 rows k j)) ∧ Below w.heap.size w wr) (fun _ _ i _ => (rowAt rows k).length - (intOf i).toNat)
      case atStart => exact ⟨0, Nat.zero_le _, rfl, by rw [H0.out], HW.out, hbel⟩
      case round =>
        obtain ⟨j, hj, rfl, rfl, hown, hbel2⟩ := hrel
        have HW2 := hide hown
        have hszr2 := hbel2.size
        clear hown HW hbel hszr
        obtain ⟨v2, hv⟩ : ∃ v, v = u2 := ⟨_, rfl⟩
        rw [← hv] at HW2 ⊢
        clear hv
        by_cases hjl : j < (rowAt rows k).length
        · obtain ⟨g2, off2, rfl, hg2, hc3⟩ := (HIN.out.below (hbel2.mono hB)) j hjl
          obtain ⟨ab1, ab2, hx⟩ := atS_bd rows HO.out k j hlt hjl
          have HNX := hide (upTo2_next rows k j hjl)
          have HAN := hide (atS_next rows k j hjl)
          have HLN := hide (upTo2_len rows HO.out k j hlt hn)
          have d0 : wr.cell? ⟨g2, off2 + j * 3, none⟩ = some (.int .i64 (lcAt (rowAt rows k) j).l) := hc3 0 (by omega)
          have d1 : wr.cell? ⟨g2, off2 + j * 3 + 1, none⟩ = some (.int .i64 (lcAt (rowAt rows k) j).m) := hc3 1 (by omega)
          have d2 : wr.cell? ⟨g2, off2 + j * 3 + 2, none⟩ = some (.int .i64 (lcAt (rowAt rows k) j).s) := hc3 2 (by omega)
          clear hc3
          generalize lcAt (rowAt rows k) j = x at *
          obtain ⟨l, m, s⟩ := x
          simp only at d0 d1 d2
          obtain ⟨x1, x2, x3, x4, x5, x6⟩ := hx
          simp only at x1 x2 x3 x4 x5 x6
          generalize atS rows k j = a at *
          have HK1 := hide (fun W => cut_any0 l W (by unfold cut; omega))
          have HK2 := hide (fun W => cut_any0 m W (by unfold cut; omega))
          have MX1 := hide (show max 1 s = s by omega)
          have MN1 := hide (show (if 100 - a < if (50 : Int) < s then 50 else s then 100 - a else if (50 : Int) < s then 50 else s) = s by rw [if_neg (show ¬ (50 : Int) < s by omega), if_neg (by omega)])
          have w1 : IntKind.i64.wrap (100 - a) = 100 - a := IntWalk.i64_in _ (by omega)
          go_wp2_with fail
          have B1 := hide (Blk.new wr 92 #[.int .i64 l, .int .i64 m, .int .i64 s])
          have O1 := hide (HW2.out.alloc (.cells #[.int .i64 l, .int .i64 m, .int .i64 s] 92))
          have L1 := hbel2.alloc hszr2 (.cells #[.int .i64 l, .int .i64 m, .int .i64 s] 92)
          clear d0 d1 d2
          generalize wr.alloc (.cells #[.int .i64 l, .int .i64 m, .int .i64 s] 92) = wA at *
          generalize wr.heap.size = bx at *
          refine wp_region_held_drew (S := fun W => Blk W bx 92 #[.int .i64 l, .int .i64 m, .int .i64 s]) (by kernel_rfl) B1.out.drew (fun hHeld => ?_)
          have O2 := hide O1.out.drew
          have L2 := L1.drew
          clear O1 L1 B1
          generalize wA.drew = wB at *
          refine take_at (i := 0) (v := Value.pointer (some ⟨bx, 0, none⟩)) (some 24) rfl rfl (by kernel_rfl) (by kernel_rfl) (by kernel_rfl) (fun _ _ _ h => h) (Or.inl ⟨by rfl, fun W hW => ?_⟩) hHeld ?_
          · go_simp
          simp only [Act.put, List.setIfInBounds_toArray, List.set_cons_zero, List.set_cons_succ]
          refine take_at (i := 1) (v := .int .i64 l) (some 25) rfl rfl (by kernel_rfl) (by kernel_rfl) (by kernel_rfl) (fun _ _ _ h => h) (Or.inl ⟨by rfl, fun W hW => ?_⟩) hHeld ?_
          · have h4 : W.cell? ⟨bx, 0, none⟩ = some (.int .i64 l) := hW.cell 0; go_simp
          simp only [Act.put, List.setIfInBounds_toArray, List.set_cons_zero, List.set_cons_succ]
          refine call_at (i := 2) (v := .int .i64 l) (some 26) rfl rfl (by kernel_rfl) (by kernel_rfl) (by kernel_rfl) (fun _ _ _ h => h) (by rfl) 28 #[.int .i64 l] (fun _ _ => by go_simp) (fun W _ => HK1.out W) hHeld ?_
          simp only [Act.put, List.setIfInBounds_toArray, List.set_cons_zero, List.set_cons_succ]
          refine take_at (i := 3) (v := .int .i64 (max 0 l)) (some 27) rfl rfl (by kernel_rfl) (by kernel_rfl) (by kernel_rfl) (fun _ _ _ h => h) (Or.inl ⟨by rfl, fun W hW => ?_⟩) hHeld ?_
          · go_simp
          simp only [Act.put, List.setIfInBounds_toArray, List.set_cons_zero, List.set_cons_succ]
          refine take_at (i := 4) (v := Value.pointer (some ⟨bx, 1, none⟩)) (some 28) rfl rfl (by kernel_rfl) (by kernel_rfl) (by kernel_rfl) (fun _ _ _ h => h) (Or.inl ⟨by rfl, fun W hW => ?_⟩) hHeld ?_
          · go_simp
          simp only [Act.put, List.setIfInBounds_toArray, List.set_cons_zero, List.set_cons_succ]
          refine take_at (i := 5) (v := .int .i64 m) (some 29) rfl rfl (by kernel_rfl) (by kernel_rfl) (by kernel_rfl) (fun _ _ _ h => h) (Or.inl ⟨by rfl, fun W hW => ?_⟩) hHeld ?_
          · have h4 : W.cell? ⟨bx, 1, none⟩ = some (.int .i64 m) := hW.cell 1; go_simp
          simp only [Act.put, List.setIfInBounds_toArray, List.set_cons_zero, List.set_cons_succ]
          refine call_at (i := 6) (v := .int .i64 m) (some 30) rfl rfl (by kernel_rfl) (by kernel_rfl) (by kernel_rfl) (fun _ _ _ h => h) (by rfl) 28 #[.int .i64 m] (fun _ _ => by go_simp) (fun W _ => HK2.out W) hHeld ?_
          simp only [Act.put, List.setIfInBounds_toArray, List.set_cons_zero, List.set_cons_succ]
          refine take_at (i := 7) (v := .int .i64 a) (some 31) rfl rfl (by kernel_rfl) (by kernel_rfl) (by kernel_rfl) (fun _ _ _ h => h) (yieldsIf_move (by rfl) _ rfl _ rfl) hHeld ?_
          simp only [Act.put, List.setIfInBounds_toArray, List.set_cons_zero, List.set_cons_succ]
          refine take_at (i := 8) (v := Value.pointer (some ⟨bx, 2, none⟩)) (some 32) rfl rfl (by kernel_rfl) (by kernel_rfl) (by kernel_rfl) (fun _ _ _ h => h) (Or.inl ⟨by rfl, fun W hW => ?_⟩) hHeld ?_
          · go_simp
          simp only [Act.put, List.setIfInBounds_toArray, List.set_cons_zero, List.set_cons_succ]
          refine take_at (i := 9) (v := .int .i64 s) (some 33) rfl rfl (by kernel_rfl) (by kernel_rfl) (by kernel_rfl) (fun _ _ _ h => h) (Or.inl ⟨by rfl, fun W hW => ?_⟩) hHeld ?_
          · have h4 : W.cell? ⟨bx, 2, none⟩ = some (.int .i64 s) := hW.cell 2; go_simp
          simp only [Act.put, List.setIfInBounds_toArray, List.set_cons_zero, List.set_cons_succ]
          refine take_at (i := 10) (v := .int .i64 s) (some 34) rfl rfl (by kernel_rfl) (by kernel_rfl) (by kernel_rfl) (fun _ _ _ h => h) (Or.inl ⟨by rfl, fun W hW => ?_⟩) hHeld ?_
          · go_simp; exact MX1.out
          simp only [Act.put, List.setIfInBounds_toArray, List.set_cons_zero, List.set_cons_succ]
          refine take_at (i := 11) (v := .int .i64 a) (some 35) rfl rfl (by kernel_rfl) (by kernel_rfl) (by kernel_rfl) (fun _ _ _ h => h) (yieldsIf_move (by rfl) _ rfl _ rfl) hHeld ?_
          simp only [Act.put, List.setIfInBounds_toArray, List.set_cons_zero, List.set_cons_succ]
          refine take_at (i := 12) (v := .int .i64 (100 - a)) (some 36) rfl rfl (by kernel_rfl) (by kernel_rfl) (by kernel_rfl) (fun _ _ _ h => h) (Or.inl ⟨by rfl, fun W hW => ?_⟩) hHeld ?_
          · go_simp
          simp only [Act.put, List.setIfInBounds_toArray, List.set_cons_zero, List.set_cons_succ]
          refine take_at (i := 13) (v := .int .i64 s) (some 37) rfl rfl (by kernel_rfl) (by kernel_rfl) (by kernel_rfl) (fun _ _ _ h => h) (Or.inl ⟨by rfl, fun W hW => ?_⟩) hHeld ?_
          · go_simp; exact MN1.out
          simp only [Act.put, List.setIfInBounds_toArray, List.set_cons_zero, List.set_cons_succ]
          refine take_at (i := 14) (v := Value.agg #[.int .i64 (max 0 l), .int .i64 m, .int .i64 a, .int .i64 s]) (some 38) rfl rfl (by kernel_rfl) (by kernel_rfl) (by kernel_rfl) (fun _ _ _ h => h) (yieldsIf_build (by rfl) 162 _ rfl [(0, .int .i64 (max 0 l)), (1, .int .i64 m), (2, .int .i64 a), (3, .int .i64 s)] rfl _ (by kernel_rfl)) hHeld ?_
          simp only [Act.put, List.setIfInBounds_toArray, List.set_cons_zero, List.set_cons_succ]
          refine wpAnyH_ready (rs := [15]) (by kernel_rfl) (by simp) ?_
          refine AllReadyH.cons rfl (fun K3 hK3 => ?_) AllReadyH.nil
          go_simp
          refine hK3.out _ _ (hHeld.alloc _) (fun hH3 => ?_)
          try simp only [Act.put, List.setIfInBounds_toArray, List.set_cons_zero, List.set_cons_succ]
          refine wpAnyH_ready (rs := [16]) (by kernel_rfl) (by simp) ?_
          refine AllReadyH.cons rfl (fun K4 hK4 => ?_) AllReadyH.nil
          go_simp
          refine hK4.out _ _ (hHeld.alloc _) (fun hH4 => ?_)
          try simp only [Act.put, List.setIfInBounds_toArray, List.set_cons_zero, List.set_cons_succ]
          refine wpAnyH_done (by kernel_rfl) ?_ _
          have HNE0 := hide (show some wB.heap.size ≠ v2.ownBlock from fun h => by have := own_lt O2.out _ h.symm; omega)
          have hsB := L2.size
          have c1 := (Blk.new wB 162 #[.int .i64 (max 0 l), .int .i64 (max m (max 0 l)), .int .i64 a, .int .i64 s])
          have HVA := hide ((O2.out.alloc (.cells #[.int .i64 (max 0 l), .int .i64 (max m (max 0 l)), .int .i64 a, .int .i64 s] 162)).alloc (.cells #[.int .i64 (max 0 l), .int .i64 (max m (max 0 l)), .int .i64 a, .int .i64 s] 162))
          have hbx2 := Blk.new (wB.alloc (.cells #[.int .i64 (max 0 l), .int .i64 (max m (max 0 l)), .int .i64 a, .int .i64 s] 162)) 162 #[.int .i64 (max 0 l), .int .i64 (max m (max 0 l)), .int .i64 a, .int .i64 s]
          have hsA : (wB.alloc (.cells #[.int .i64 (max 0 l), .int .i64 (max m (max 0 l)), .int .i64 a, .int .i64 s] 162)).heap.size = wB.heap.size + 1 := by simp
          rw [hsA] at hbx2
          have HBX := hide hbx2
          have HBL := hide ((L2.alloc hsB (.cells #[.int .i64 (max 0 l), .int .i64 (max m (max 0 l)), .int .i64 a, .int .i64 s] 162)).alloc (by rw [hsA]; omega) (.cells #[.int .i64 (max 0 l), .int .i64 (max m (max 0 l)), .int .i64 a, .int .i64 s] 162))
          have HCK := hide (c1.alloc (.cells #[.int .i64 (max 0 l), .int .i64 (max m (max 0 l)), .int .i64 a, .int .i64 s] 162))
          have HJN := hide (show (upTo2 rows k j).length ≤ 1000000 from by have := HLN.out; omega)
          have HCE := hide (show (#[.int .i64 (max 0 l), .int .i64 (max m (max 0 l)), .int .i64 a, .int .i64 s] : Array Value).toList = ceC (ceOf a ⟨l, m, s⟩) from rfl)
          have w2 : IntKind.i64.wrap (a + s) = a + s := IntWalk.i64_in _ (by omega)
          clear hbx2 hsA c1 hsB w1
          generalize upTo2 rows k j = lst at *
          go_wp2_with (first | (at_builtin; refine wpList_app1 rfl (.tmp 45) (.tmp 47) _ rfl w.heap.size 162 _ 4 32 Try.underlying157 cellg_info rfl (Nat.succ_pos _) _ lst.length _ rfl HVA.out (wB.heap.size + 1) 1 _ HBX.out rfl rfl rfl HJN.out (Nat.le_of_ble_eq_true rfl) HBL.out.size ?_; intro v4 w4 hown4 hg4; have hcs : w4.cell? ⟨wB.heap.size, 3, none⟩ = some (.int .i64 s) := (HCK.out.grown hg4 HNE0.out).cell 3; have O4 := hide hown4; have hb9 := own_below HVA.out HBL.out (Nat.le_refl _) (Nat.le_refl _) hg4; clear hown4 hg4) | fail)
          go_roundw
          case rel => exact ⟨j + 1, by omega, by go_num, by rw [HAN.out], by rw [HNX.out, List.length_append, ceCells_snoc]; exact O4.out, hb9⟩
          case measure => simp [intOf]; omega
        · obtain rfl : j = (rowAt rows k).length := by omega
          rw [HA.out] at HW2
          obtain ⟨am, ham⟩ : ∃ x, atS rows k (rowAt rows k).length = x := ⟨_, rfl⟩
          rw [ham] at HM ⊢
          clear ham HA
          go_wp2_with fail
          go_roundw
          case rel => exact ⟨k + 1, by omega, by go_num, by rw [HM.out], HW2.out, hbel2⟩
          case measure => simp [intOf]; omega
    · obtain rfl : k = rows.length := by omega
      rw [List.take_length] at HW ⊢
      go_wp2_with fail
      go_ret2
      exact ⟨v, rfl, HW.out, hbel⟩
end Go.Proofs.Ytadlabndbomgmaa
