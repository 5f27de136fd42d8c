/- The walk of table.Columns at one row of two cells. -/
import Derived.BigQuiet
import Derived.Handy
import Derived.IntWalk
import Derived.RegionTactic
import Derived.Deep.QuietTactic
import Derived.Deep.MidRow
import Derived.Deep.RegionHeld3
import Derived.Test.YtadlabndbomgmaaCellsLit
namespace Go.Proofs.Ytadlabndbomgmaa
open Go.ChangeShapes Go.WideShapes Go.ChangeAt Go.RowKit
theorem two_of {w : World} {B g c : Nat} (h : w.ownsRow B 162 4 (.slice (some ⟨g, 0, none⟩) 2 c) 2 twoV) : TwoS g w :=
  ⟨h.cellAt 0 (by omega), h.cellAt 1 (by omega), h.cellAt 2 (by omega), h.cellAt 3 (by omega), h.cellAt 4 (by omega), h.cellAt 5 (by omega), h.cellAt 6 (by omega), h.cellAt 7 (by omega)⟩
def leastTo : Nat → List Int
  | 0 => [0, 0]
  | 1 => [5, 0]
  | _ => [5, 2]
def mostTo : Nat → List Int
  | 0 => [0, 0]
  | 1 => [9, 0]
  | _ => [9, 3]
set_option maxRecDepth 100000 in
set_option maxHeartbeats 4000000 in
theorem columnsLit_any (g1 g2 c1 c2 : Nat) (w : World) (hs : LitS g1 g2 c1 w) :
    Calls Try.prog 60 #[.slice (some ⟨g2, 0, none⟩) 1 c2] w fun e w' => ∃ p q, e = .returned (.tuple #[.slice (some ⟨p, 0, none⟩) 2 2, .slice (some ⟨q, 0, none⟩) 2 2]) ∧ Blk w' p 3 (intsA [5, 2]) ∧ Blk w' q 3 (intsA [9, 3]) ∧ Below w.heap.size w w' := by
  have HC := hide (cellsLit_any g1 g2 c1 c2 w hs)
  clear hs
  obtain ⟨i0, hi0, hz0, hz1, hz2⟩ := info_parts int_info
  have hmk := fun Wo => run_make_rowN (P := Try.prog) 22 3 i0 _ Try.underlying22 hi0 hz0 .i64 .i64 2 2 (Nat.le_refl _) (by rw [hz2]; omega) (by omega) Wo
  rw [hz1, Nat.mul_one, show (Value.int .i64 0).cells = #[.int .i64 0] from rfl, made_ints, show List.replicate 2 (0 : Int) = [0, 0] from rfl] at hmk
  simp only [show ((2 : Nat) : Int) = 2 from rfl] at hmk
  clear hz0 hz1 hz2 hi0
  go_enter Try.func60, Try.ntmps60
  go_wp2_with fail
  refine HC.out.mono ?_
  clear HC
  rintro e w1 ⟨v1, rfl, own1, hb1⟩
  obtain ⟨g, cap, rfl, hg, hgl⟩ := own1.form (by omega)
  go_wp2_with fail
  have O1 := hide ((own1.alloc (.cells (intsA [0, 0]) 3)).alloc (.cells (intsA [0, 0]) 3))
  have hK1 := hide ((Blk.new w1 3 (intsA [0, 0])).alloc (.cells (intsA [0, 0]) 3))
  have hk2 := Blk.new (w1.alloc (.cells (intsA [0, 0]) 3)) 3 (intsA [0, 0])
  rw [show (w1.alloc (.cells (intsA [0, 0]) 3)).heap.size = w1.heap.size + 1 by simp] at hk2
  have hK2 := hide hk2
  have hL := (hb1.alloc hb1.size (.cells (intsA [0, 0]) 3)).alloc (by simp; have := hb1.size; omega) (.cells (intsA [0, 0]) 3)
  have hs1 := hb1.size
  clear hk2 hb1 own1
  go_region
  obtain ⟨p, hp⟩ : ∃ p, p = w1.heap.size := ⟨_, rfl⟩
  obtain ⟨q, hq⟩ : ∃ q, q = w1.heap.size + 1 := ⟨_, rfl⟩
  have hpq : p ≠ q := by omega
  have hpw : w.heap.size ≤ p ∧ w.heap.size ≤ q ∧ g ≠ p ∧ g ≠ q := by omega
  have K1 := hide (show Blk ((w1.alloc (.cells (intsA [0, 0]) 3)).alloc (.cells (intsA [0, 0]) 3)).drew p 3 (intsA [0, 0]) from by rw [hp]; exact hK1.out.drew)
  have K2 := hide (show Blk ((w1.alloc (.cells (intsA [0, 0]) 3)).alloc (.cells (intsA [0, 0]) 3)).drew q 3 (intsA [0, 0]) from by rw [hq]; exact hK2.out.drew)
  have hL' := hL.drew
  have O2 := hide O1.out.drew
  rw [← hq, ← hp]
  clear hp hq hK1 hK2 hL hmk O1
  rotate_left
  obtain ⟨p, hp⟩ : ∃ p, p = w1.heap.size + 1 := ⟨_, rfl⟩
  obtain ⟨q, hq⟩ : ∃ q, q = w1.heap.size := ⟨_, rfl⟩
  have hpq : p ≠ q := by omega
  have hpw : w.heap.size ≤ p ∧ w.heap.size ≤ q ∧ g ≠ p ∧ g ≠ q := by omega
  have K1 := hide (show Blk ((w1.alloc (.cells (intsA [0, 0]) 3)).alloc (.cells (intsA [0, 0]) 3)).drew p 3 (intsA [0, 0]) from by rw [hp]; exact hK2.out.drew)
  have K2 := hide (show Blk ((w1.alloc (.cells (intsA [0, 0]) 3)).alloc (.cells (intsA [0, 0]) 3)).drew q 3 (intsA [0, 0]) from by rw [hq]; exact hK1.out.drew)
  have hL' := hL.drew
  have O2 := hide O1.out.drew
  rw [← hp, ← hq]
  clear hp hq hK1 hK2 hL hmk O1
  all_goals
    generalize ((w1.alloc (.cells (intsA [0, 0]) 3)).alloc (.cells (intsA [0, 0]) 3)).drew = wA at *
    go_wp2_with (first | (go_at_call 102; refine (sortTwo_any g cap wA (two_of O2.out)).mono ?_; rintro e w2 ⟨rfl, hb2⟩) | fail)
    have O3 := hide (own_keep O2.out hb2 (own_lt O2.out))
    have P3 := hide (K1.out.below hb2 K1.out.lt)
    have Q3 := hide (K2.out.below hb2 K2.out.lt)
    have L3 := below_then hL' (Nat.le_refl _) hb2
    clear K1 K2 hL' O2 hb2
    go_loopw [25] (fun i wr => ∃ k : Nat, k ≤ 2 ∧ i = .int .i64 k ∧ Hid (Blk wr p 3 (intsA (leastTo k))) ∧ Hid (Blk wr q 3 (intsA (mostTo k))) ∧ Hid (wr.ownsRow w.heap.size 162 4 (.slice (some ⟨g, 0, none⟩) 2 cap) 2 twoV) ∧ Below w.heap.size w wr) (fun i _ => 2 - (intOf i).toNat)
    case atStart => exact ⟨0, Nat.zero_le _, rfl, P3, Q3, O3, L3⟩
    case round =>
      obtain ⟨k, hk, rfl, HP, HQ, HO, hbel⟩ := hrel
      have hszr := hbel.size
      rcases (show k = 0 ∨ k = 1 ∨ k = 2 by omega) with rfl | rfl | rfl
      · have ps := two_of HO.out
        unfold TwoS at ps
        have B1 := hide (Blk.new wr 162 #[.int .i64 5, .int .i64 9, .int .i64 0, .int .i64 1])
        have P1 := hide (HP.out.alloc (.cells #[.int .i64 5, .int .i64 9, .int .i64 0, .int .i64 1] 162))
        have Q1 := hide (HQ.out.alloc (.cells #[.int .i64 5, .int .i64 9, .int .i64 0, .int .i64 1] 162))
        have O1 := hide (HO.out.alloc (.cells #[.int .i64 5, .int .i64 9, .int .i64 0, .int .i64 1] 162))
        have L1 := hbel.alloc hszr (.cells #[.int .i64 5, .int .i64 9, .int .i64 0, .int .i64 1] 162)
        have hpc : p ≠ wr.heap.size ∧ q ≠ wr.heap.size ∧ wr.heap.size ≠ p ∧ wr.heap.size ≠ q := by have := HP.out.lt; have := HQ.out.lt; omega
        have hqp : q ≠ p := fun h => hpq h.symm
        rw [show ((0 : Nat) : Int) = 0 from rfl]
        go_wp2_with fail
        clear ps HP HQ HO hbel hszr
        generalize wr.alloc (.cells #[.int .i64 5, .int .i64 9, .int .i64 0, .int .i64 1] 162) = wA at *
        generalize wr.heap.size = cb at *
        refine wp_region_held_drew (S := fun W => Blk W cb 162 #[.int .i64 5, .int .i64 9, .int .i64 0, .int .i64 1]) (by kernel_rfl) B1.out.drew (fun hHeld => ?_)
        have P2 := hide P1.out.drew
        have Q2 := hide Q1.out.drew
        have O2 := hide O1.out.drew
        have L2 := L1.drew
        clear B1 P1 Q1 O1 L1
        generalize wA.drew = wB at *
        have p0 : wB.cell? ⟨p, 0, none⟩ = some (.int .i64 0) := P2.out.cell 0
        have q0 : wB.cell? ⟨q, 0, none⟩ = some (.int .i64 0) := Q2.out.cell 0
        have fp : wB.frozen? ⟨p, 0, none⟩ = false := P2.out.frozen 0
        have fq : wB.frozen? ⟨q, 0, none⟩ = false := Q2.out.frozen 0
        refine take_at (i := 0) (v := Value.slice (some ⟨p, 0, none⟩) 2 2) (some 37) rfl rfl (by kernel_rfl) (by kernel_rfl) (by kernel_rfl) (fun _ _ _ h => h) (yieldsIf_move (by rfl) _ rfl _ rfl) hHeld ?_
        simp only [Act.put, List.setIfInBounds_toArray, List.set_cons_zero, List.set_cons_succ]
        refine take_at (i := 1) (v := Value.pointer (some ⟨cb, 2, none⟩)) (some 38) rfl rfl (by kernel_rfl) (by kernel_rfl) (by kernel_rfl) (fun _ _ _ h => h) (Or.inl ⟨by rfl, fun W hW => ?_⟩) hHeld ?_
        · go_simp
        simp only [Act.put, List.setIfInBounds_toArray, List.set_cons_zero, List.set_cons_succ]
        refine take_at (i := 2) (v := .int .i64 0) (some 39) rfl rfl (by kernel_rfl) (by kernel_rfl) (by kernel_rfl) (fun _ _ _ h => h) (Or.inl ⟨by rfl, fun W hW => ?_⟩) hHeld ?_
        · have h4 : W.cell? ⟨cb, 2, none⟩ = some (.int .i64 0) := hW.cell 2; go_simp
        simp only [Act.put, List.setIfInBounds_toArray, List.set_cons_zero, List.set_cons_succ]
        refine take_at (i := 3) (v := Value.slice (some ⟨q, 0, none⟩) 2 2) (some 40) rfl rfl (by kernel_rfl) (by kernel_rfl) (by kernel_rfl) (fun _ _ _ h => h) (yieldsIf_move (by rfl) _ rfl _ rfl) hHeld ?_
        simp only [Act.put, List.setIfInBounds_toArray, List.set_cons_zero, List.set_cons_succ]
        refine take_at (i := 4) (v := Value.pointer (some ⟨cb, 2, none⟩)) (some 41) rfl rfl (by kernel_rfl) (by kernel_rfl) (by kernel_rfl) (fun _ _ _ h => h) (Or.inl ⟨by rfl, fun W hW => ?_⟩) hHeld ?_
        · go_simp
        simp only [Act.put, List.setIfInBounds_toArray, List.set_cons_zero, List.set_cons_succ]
        refine take_at (i := 5) (v := .int .i64 0) (some 42) rfl rfl (by kernel_rfl) (by kernel_rfl) (by kernel_rfl) (fun _ _ _ h => h) (Or.inl ⟨by rfl, fun W hW => ?_⟩) hHeld ?_
        · have h4 : W.cell? ⟨cb, 2, none⟩ = some (.int .i64 0) := hW.cell 2; go_simp
        simp only [Act.put, List.setIfInBounds_toArray, List.set_cons_zero, List.set_cons_succ]
        refine take_at (i := 6) (v := Value.slice (some ⟨p, 0, none⟩) 2 2) (some 43) rfl rfl (by kernel_rfl) (by kernel_rfl) (by kernel_rfl) (fun _ _ _ h => h) (yieldsIf_move (by rfl) _ rfl _ rfl) hHeld ?_
        simp only [Act.put, List.setIfInBounds_toArray, List.set_cons_zero, List.set_cons_succ]
        refine take_at (i := 7) (v := Value.pointer (some ⟨cb, 2, none⟩)) (some 44) rfl rfl (by kernel_rfl) (by kernel_rfl) (by kernel_rfl) (fun _ _ _ h => h) (Or.inl ⟨by rfl, fun W hW => ?_⟩) hHeld ?_
        · go_simp
        simp only [Act.put, List.setIfInBounds_toArray, List.set_cons_zero, List.set_cons_succ]
        refine take_at (i := 8) (v := .int .i64 0) (some 45) rfl rfl (by kernel_rfl) (by kernel_rfl) (by kernel_rfl) (fun _ _ _ h => h) (Or.inl ⟨by rfl, fun W hW => ?_⟩) hHeld ?_
        · have h4 : W.cell? ⟨cb, 2, none⟩ = some (.int .i64 0) := hW.cell 2; go_simp
        simp only [Act.put, List.setIfInBounds_toArray, List.set_cons_zero, List.set_cons_succ]
        refine take_at (i := 9) (v := Value.pointer (some ⟨p, 0, none⟩)) (some 46) rfl rfl (by kernel_rfl) (by kernel_rfl) (by kernel_rfl) (fun _ _ _ h => h) (Or.inl ⟨by rfl, fun W hW => ?_⟩) hHeld ?_
        · go_simp
        simp only [Act.put, List.setIfInBounds_toArray, List.set_cons_zero, List.set_cons_succ]
        refine take_at (i := 11) (v := Value.pointer (some ⟨cb, 0, none⟩)) (some 48) rfl rfl (by kernel_rfl) (by kernel_rfl) (by kernel_rfl) (fun _ _ _ h => h) (Or.inl ⟨by rfl, fun W hW => ?_⟩) hHeld ?_
        · go_simp
        simp only [Act.put, List.setIfInBounds_toArray, List.set_cons_zero, List.set_cons_succ]
        refine take_at (i := 12) (v := .int .i64 5) (some 49) rfl rfl (by kernel_rfl) (by kernel_rfl) (by kernel_rfl) (fun _ _ _ h => h) (Or.inl ⟨by rfl, fun W hW => ?_⟩) hHeld ?_
        · have h4 : W.cell? ⟨cb, 0, none⟩ = some (.int .i64 5) := hW.cell 0; go_simp
        simp only [Act.put, List.setIfInBounds_toArray, List.set_cons_zero, List.set_cons_succ]
        refine take_at (i := 14) (v := Value.slice (some ⟨q, 0, none⟩) 2 2) (some 51) rfl rfl (by kernel_rfl) (by kernel_rfl) (by kernel_rfl) (fun _ _ _ h => h) (yieldsIf_move (by rfl) _ rfl _ rfl) hHeld ?_
        simp only [Act.put, List.setIfInBounds_toArray, List.set_cons_zero, List.set_cons_succ]
        refine take_at (i := 15) (v := Value.pointer (some ⟨cb, 2, none⟩)) (some 52) rfl rfl (by kernel_rfl) (by kernel_rfl) (by kernel_rfl) (fun _ _ _ h => h) (Or.inl ⟨by rfl, fun W hW => ?_⟩) hHeld ?_
        · go_simp
        simp only [Act.put, List.setIfInBounds_toArray, List.set_cons_zero, List.set_cons_succ]
        refine take_at (i := 16) (v := .int .i64 0) (some 53) rfl rfl (by kernel_rfl) (by kernel_rfl) (by kernel_rfl) (fun _ _ _ h => h) (Or.inl ⟨by rfl, fun W hW => ?_⟩) hHeld ?_
        · have h4 : W.cell? ⟨cb, 2, none⟩ = some (.int .i64 0) := hW.cell 2; go_simp
        simp only [Act.put, List.setIfInBounds_toArray, List.set_cons_zero, List.set_cons_succ]
        refine take_at (i := 17) (v := Value.pointer (some ⟨q, 0, none⟩)) (some 54) rfl rfl (by kernel_rfl) (by kernel_rfl) (by kernel_rfl) (fun _ _ _ h => h) (Or.inl ⟨by rfl, fun W hW => ?_⟩) hHeld ?_
        · go_simp
        simp only [Act.put, List.setIfInBounds_toArray, List.set_cons_zero, List.set_cons_succ]
        refine take_at (i := 19) (v := Value.pointer (some ⟨cb, 1, none⟩)) (some 56) rfl rfl (by kernel_rfl) (by kernel_rfl) (by kernel_rfl) (fun _ _ _ h => h) (Or.inl ⟨by rfl, fun W hW => ?_⟩) hHeld ?_
        · go_simp
        simp only [Act.put, List.setIfInBounds_toArray, List.set_cons_zero, List.set_cons_succ]
        refine take_at (i := 20) (v := .int .i64 9) (some 57) rfl rfl (by kernel_rfl) (by kernel_rfl) (by kernel_rfl) (fun _ _ _ h => h) (Or.inl ⟨by rfl, fun W hW => ?_⟩) hHeld ?_
        · have h4 : W.cell? ⟨cb, 1, none⟩ = some (.int .i64 9) := hW.cell 1; go_simp
        simp only [Act.put, List.setIfInBounds_toArray, List.set_cons_zero, List.set_cons_succ]
        refine wpAnyH_ready (rs := [10, 18]) (by kernel_rfl) (by simp) ?_
        refine AllReadyH.cons rfl (fun K1 hK1 => ?_) (AllReadyH.cons rfl (fun K1 hK1 => ?_) AllReadyH.nil)
        · go_simp
          refine hK1.out _ _ hHeld (fun hH1 => ?_)
          try simp only [Act.put, List.setIfInBounds_toArray, List.set_cons_zero, List.set_cons_succ]
          refine take_at (i := 13) (v := .int .i64 5) (some 50) rfl rfl (by kernel_rfl) (by kernel_rfl) (by kernel_rfl) (fun _ _ _ h => h) (Or.inl ⟨by rfl, fun W hW => ?_⟩) hH1 ?_
          · kernel_rfl
          simp only [Act.put, List.setIfInBounds_toArray, List.set_cons_zero, List.set_cons_succ]
          refine wpAnyH_ready (rs := [18]) (by kernel_rfl) (by simp) ?_
          refine AllReadyH.cons rfl (fun K2 hK2 => ?_) AllReadyH.nil
          go_simp
          refine hK2.out _ _ hHeld (fun hH2 => ?_)
          try simp only [Act.put, List.setIfInBounds_toArray, List.set_cons_zero, List.set_cons_succ]
          refine take_at (i := 21) (v := .int .i64 9) (some 58) rfl rfl (by kernel_rfl) (by kernel_rfl) (by kernel_rfl) (fun _ _ _ h => h) (Or.inl ⟨by rfl, fun W hW => ?_⟩) hH2 ?_
          · kernel_rfl
          simp only [Act.put, List.setIfInBounds_toArray, List.set_cons_zero, List.set_cons_succ]
          refine take_at (i := 22) (v := Value.pointer (some ⟨p, 0, none⟩)) (some 59) rfl rfl (by kernel_rfl) (by kernel_rfl) (by kernel_rfl) (fun _ _ _ h => h) (Or.inl ⟨by rfl, fun W hW => ?_⟩) hHeld ?_
          · go_simp
          simp only [Act.put, List.setIfInBounds_toArray, List.set_cons_zero, List.set_cons_succ]
          refine wpAnyH_ready (rs := [23]) (by kernel_rfl) (by simp) ?_
          refine AllReadyH.cons rfl (fun K3 hK3 => ?_) AllReadyH.nil
          go_simp
          refine hK3.out _ _ (hHeld.far (p := ⟨p, 0, none⟩) hpc.2.2.1 _) (fun hH3 => ?_)
          try simp only [Act.put, List.setIfInBounds_toArray, List.set_cons_zero, List.set_cons_succ]
          have q1 : (wB.setCell ⟨p, 0, none⟩ (.int .i64 5)).cell? ⟨q, 0, none⟩ = some (.int .i64 0) := (Q2.out.far (p := ⟨p, 0, none⟩) hqp _).cell 0
          have fq1 : (wB.setCell ⟨p, 0, none⟩ (.int .i64 5)).frozen? ⟨q, 0, none⟩ = false := (Q2.out.far (p := ⟨p, 0, none⟩) hqp _).frozen 0
          refine take_at (i := 24) (v := Value.pointer (some ⟨q, 0, none⟩)) (some 60) rfl rfl (by kernel_rfl) (by kernel_rfl) (by kernel_rfl) (fun _ _ _ h => h) (Or.inl ⟨by rfl, fun W hW => ?_⟩) hH3 ?_
          · go_simp
          simp only [Act.put, List.setIfInBounds_toArray, List.set_cons_zero, List.set_cons_succ]
          refine wpAnyH_ready (rs := [25]) (by kernel_rfl) (by simp) ?_
          refine AllReadyH.cons rfl (fun K4 hK4 => ?_) AllReadyH.nil
          go_simp
          refine hK4.out _ _ (hH3.far (p := ⟨q, 0, none⟩) hpc.2.2.2 _) (fun hH4 => ?_)
          try simp only [Act.put, List.setIfInBounds_toArray, List.set_cons_zero, List.set_cons_succ]
          refine wpAnyH_done (by kernel_rfl) ?_ _
          have P5 := hide (show Blk ((wB.setCell ⟨p, 0, none⟩ (.int .i64 5)).setCell ⟨q, 0, none⟩ (.int .i64 9)) p 3 (intsA (leastTo 1)) from (P2.out.set_ 0 (.int .i64 5)).far (p := ⟨q, 0, none⟩) hpq _)
          have Q5 := hide (show Blk ((wB.setCell ⟨p, 0, none⟩ (.int .i64 5)).setCell ⟨q, 0, none⟩ (.int .i64 9)) q 3 (intsA (mostTo 1)) from (Q2.out.far (p := ⟨p, 0, none⟩) hqp _).set_ 0 (.int .i64 9))
          have O5 := hide (own_far (own_far O2.out (p := ⟨p, 0, none⟩) (fun h => hpw.2.2.1 (by simpa [Value.ownBlock] using h)) (.int .i64 5)) (p := ⟨q, 0, none⟩) (fun h => hpw.2.2.2 (by simpa [Value.ownBlock] using h)) (.int .i64 9))
          have L5 := (L2.setCell (p := ⟨p, 0, none⟩) hpw.1 (.int .i64 5)).setCell (p := ⟨q, 0, none⟩) hpw.2.1 (.int .i64 9)
          clear p0 q0 fp fq q1 fq1
          generalize (wB.setCell ⟨p, 0, none⟩ (.int .i64 5)).setCell ⟨q, 0, none⟩ (.int .i64 9) = wE at *
          go_wp2_with fail
          go_roundw
          case rel => exact ⟨1, by omega, by go_num, P5, Q5, O5, L5⟩
          case measure => simp [intOf]
        · go_simp
          refine hK1.out _ _ hHeld (fun hH1 => ?_)
          try simp only [Act.put, List.setIfInBounds_toArray, List.set_cons_zero, List.set_cons_succ]
          refine take_at (i := 21) (v := .int .i64 9) (some 58) rfl rfl (by kernel_rfl) (by kernel_rfl) (by kernel_rfl) (fun _ _ _ h => h) (Or.inl ⟨by rfl, fun W hW => ?_⟩) hH1 ?_
          · kernel_rfl
          simp only [Act.put, List.setIfInBounds_toArray, List.set_cons_zero, List.set_cons_succ]
          refine wpAnyH_ready (rs := [10]) (by kernel_rfl) (by simp) ?_
          refine AllReadyH.cons rfl (fun K2 hK2 => ?_) AllReadyH.nil
          go_simp
          refine hK2.out _ _ hHeld (fun hH2 => ?_)
          try simp only [Act.put, List.setIfInBounds_toArray, List.set_cons_zero, List.set_cons_succ]
          refine take_at (i := 13) (v := .int .i64 5) (some 50) rfl rfl (by kernel_rfl) (by kernel_rfl) (by kernel_rfl) (fun _ _ _ h => h) (Or.inl ⟨by rfl, fun W hW => ?_⟩) hH2 ?_
          · kernel_rfl
          simp only [Act.put, List.setIfInBounds_toArray, List.set_cons_zero, List.set_cons_succ]
          refine take_at (i := 22) (v := Value.pointer (some ⟨p, 0, none⟩)) (some 59) rfl rfl (by kernel_rfl) (by kernel_rfl) (by kernel_rfl) (fun _ _ _ h => h) (Or.inl ⟨by rfl, fun W hW => ?_⟩) hHeld ?_
          · go_simp
          simp only [Act.put, List.setIfInBounds_toArray, List.set_cons_zero, List.set_cons_succ]
          refine wpAnyH_ready (rs := [23]) (by kernel_rfl) (by simp) ?_
          refine AllReadyH.cons rfl (fun K3 hK3 => ?_) AllReadyH.nil
          go_simp
          refine hK3.out _ _ (hHeld.far (p := ⟨p, 0, none⟩) hpc.2.2.1 _) (fun hH3 => ?_)
          try simp only [Act.put, List.setIfInBounds_toArray, List.set_cons_zero, List.set_cons_succ]
          have q1 : (wB.setCell ⟨p, 0, none⟩ (.int .i64 5)).cell? ⟨q, 0, none⟩ = some (.int .i64 0) := (Q2.out.far (p := ⟨p, 0, none⟩) hqp _).cell 0
          have fq1 : (wB.setCell ⟨p, 0, none⟩ (.int .i64 5)).frozen? ⟨q, 0, none⟩ = false := (Q2.out.far (p := ⟨p, 0, none⟩) hqp _).frozen 0
          refine take_at (i := 24) (v := Value.pointer (some ⟨q, 0, none⟩)) (some 60) rfl rfl (by kernel_rfl) (by kernel_rfl) (by kernel_rfl) (fun _ _ _ h => h) (Or.inl ⟨by rfl, fun W hW => ?_⟩) hH3 ?_
          · go_simp
          simp only [Act.put, List.setIfInBounds_toArray, List.set_cons_zero, List.set_cons_succ]
          refine wpAnyH_ready (rs := [25]) (by kernel_rfl) (by simp) ?_
          refine AllReadyH.cons rfl (fun K4 hK4 => ?_) AllReadyH.nil
          go_simp
          refine hK4.out _ _ (hH3.far (p := ⟨q, 0, none⟩) hpc.2.2.2 _) (fun hH4 => ?_)
          try simp only [Act.put, List.setIfInBounds_toArray, List.set_cons_zero, List.set_cons_succ]
          refine wpAnyH_done (by kernel_rfl) ?_ _
          have P5 := hide (show Blk ((wB.setCell ⟨p, 0, none⟩ (.int .i64 5)).setCell ⟨q, 0, none⟩ (.int .i64 9)) p 3 (intsA (leastTo 1)) from (P2.out.set_ 0 (.int .i64 5)).far (p := ⟨q, 0, none⟩) hpq _)
          have Q5 := hide (show Blk ((wB.setCell ⟨p, 0, none⟩ (.int .i64 5)).setCell ⟨q, 0, none⟩ (.int .i64 9)) q 3 (intsA (mostTo 1)) from (Q2.out.far (p := ⟨p, 0, none⟩) hqp _).set_ 0 (.int .i64 9))
          have O5 := hide (own_far (own_far O2.out (p := ⟨p, 0, none⟩) (fun h => hpw.2.2.1 (by simpa [Value.ownBlock] using h)) (.int .i64 5)) (p := ⟨q, 0, none⟩) (fun h => hpw.2.2.2 (by simpa [Value.ownBlock] using h)) (.int .i64 9))
          have L5 := (L2.setCell (p := ⟨p, 0, none⟩) hpw.1 (.int .i64 5)).setCell (p := ⟨q, 0, none⟩) hpw.2.1 (.int .i64 9)
          clear p0 q0 fp fq q1 fq1
          generalize (wB.setCell ⟨p, 0, none⟩ (.int .i64 5)).setCell ⟨q, 0, none⟩ (.int .i64 9) = wE at *
          go_wp2_with fail
          go_roundw
          case rel => exact ⟨1, by omega, by go_num, P5, Q5, O5, L5⟩
          case measure => simp [intOf]
      · have ps := two_of HO.out
        unfold TwoS at ps
        have B1 := hide (Blk.new wr 162 #[.int .i64 2, .int .i64 3, .int .i64 1, .int .i64 1])
        have P1 := hide (HP.out.alloc (.cells #[.int .i64 2, .int .i64 3, .int .i64 1, .int .i64 1] 162))
        have Q1 := hide (HQ.out.alloc (.cells #[.int .i64 2, .int .i64 3, .int .i64 1, .int .i64 1] 162))
        have O1 := hide (HO.out.alloc (.cells #[.int .i64 2, .int .i64 3, .int .i64 1, .int .i64 1] 162))
        have L1 := hbel.alloc hszr (.cells #[.int .i64 2, .int .i64 3, .int .i64 1, .int .i64 1] 162)
        have hpc : p ≠ wr.heap.size ∧ q ≠ wr.heap.size ∧ wr.heap.size ≠ p ∧ wr.heap.size ≠ q := by have := HP.out.lt; have := HQ.out.lt; omega
        have hqp : q ≠ p := fun h => hpq h.symm
        rw [show ((1 : Nat) : Int) = 1 from rfl]
        go_wp2_with fail
        clear ps HP HQ HO hbel hszr
        generalize wr.alloc (.cells #[.int .i64 2, .int .i64 3, .int .i64 1, .int .i64 1] 162) = wA at *
        generalize wr.heap.size = cb at *
        refine wp_region_held_drew (S := fun W => Blk W cb 162 #[.int .i64 2, .int .i64 3, .int .i64 1, .int .i64 1]) (by kernel_rfl) B1.out.drew (fun hHeld => ?_)
        have P2 := hide P1.out.drew
        have Q2 := hide Q1.out.drew
        have O2 := hide O1.out.drew
        have L2 := L1.drew
        clear B1 P1 Q1 O1 L1
        generalize wA.drew = wB at *
        have p0 : wB.cell? ⟨p, 1, none⟩ = some (.int .i64 0) := P2.out.cell 1
        have q0 : wB.cell? ⟨q, 1, none⟩ = some (.int .i64 0) := Q2.out.cell 1
        have fp : wB.frozen? ⟨p, 1, none⟩ = false := P2.out.frozen 1
        have fq : wB.frozen? ⟨q, 1, none⟩ = false := Q2.out.frozen 1
        refine take_at (i := 0) (v := Value.slice (some ⟨p, 0, none⟩) 2 2) (some 37) rfl rfl (by kernel_rfl) (by kernel_rfl) (by kernel_rfl) (fun _ _ _ h => h) (yieldsIf_move (by rfl) _ rfl _ rfl) hHeld ?_
        simp only [Act.put, List.setIfInBounds_toArray, List.set_cons_zero, List.set_cons_succ]
        refine take_at (i := 1) (v := Value.pointer (some ⟨cb, 2, none⟩)) (some 38) rfl rfl (by kernel_rfl) (by kernel_rfl) (by kernel_rfl) (fun _ _ _ h => h) (Or.inl ⟨by rfl, fun W hW => ?_⟩) hHeld ?_
        · go_simp
        simp only [Act.put, List.setIfInBounds_toArray, List.set_cons_zero, List.set_cons_succ]
        refine take_at (i := 2) (v := .int .i64 1) (some 39) rfl rfl (by kernel_rfl) (by kernel_rfl) (by kernel_rfl) (fun _ _ _ h => h) (Or.inl ⟨by rfl, fun W hW => ?_⟩) hHeld ?_
        · have h4 : W.cell? ⟨cb, 2, none⟩ = some (.int .i64 1) := hW.cell 2; go_simp
        simp only [Act.put, List.setIfInBounds_toArray, List.set_cons_zero, List.set_cons_succ]
        refine take_at (i := 3) (v := Value.slice (some ⟨q, 0, none⟩) 2 2) (some 40) rfl rfl (by kernel_rfl) (by kernel_rfl) (by kernel_rfl) (fun _ _ _ h => h) (yieldsIf_move (by rfl) _ rfl _ rfl) hHeld ?_
        simp only [Act.put, List.setIfInBounds_toArray, List.set_cons_zero, List.set_cons_succ]
        refine take_at (i := 4) (v := Value.pointer (some ⟨cb, 2, none⟩)) (some 41) rfl rfl (by kernel_rfl) (by kernel_rfl) (by kernel_rfl) (fun _ _ _ h => h) (Or.inl ⟨by rfl, fun W hW => ?_⟩) hHeld ?_
        · go_simp
        simp only [Act.put, List.setIfInBounds_toArray, List.set_cons_zero, List.set_cons_succ]
        refine take_at (i := 5) (v := .int .i64 1) (some 42) rfl rfl (by kernel_rfl) (by kernel_rfl) (by kernel_rfl) (fun _ _ _ h => h) (Or.inl ⟨by rfl, fun W hW => ?_⟩) hHeld ?_
        · have h4 : W.cell? ⟨cb, 2, none⟩ = some (.int .i64 1) := hW.cell 2; go_simp
        simp only [Act.put, List.setIfInBounds_toArray, List.set_cons_zero, List.set_cons_succ]
        refine take_at (i := 6) (v := Value.slice (some ⟨p, 0, none⟩) 2 2) (some 43) rfl rfl (by kernel_rfl) (by kernel_rfl) (by kernel_rfl) (fun _ _ _ h => h) (yieldsIf_move (by rfl) _ rfl _ rfl) hHeld ?_
        simp only [Act.put, List.setIfInBounds_toArray, List.set_cons_zero, List.set_cons_succ]
        refine take_at (i := 7) (v := Value.pointer (some ⟨cb, 2, none⟩)) (some 44) rfl rfl (by kernel_rfl) (by kernel_rfl) (by kernel_rfl) (fun _ _ _ h => h) (Or.inl ⟨by rfl, fun W hW => ?_⟩) hHeld ?_
        · go_simp
        simp only [Act.put, List.setIfInBounds_toArray, List.set_cons_zero, List.set_cons_succ]
        refine take_at (i := 8) (v := .int .i64 1) (some 45) rfl rfl (by kernel_rfl) (by kernel_rfl) (by kernel_rfl) (fun _ _ _ h => h) (Or.inl ⟨by rfl, fun W hW => ?_⟩) hHeld ?_
        · have h4 : W.cell? ⟨cb, 2, none⟩ = some (.int .i64 1) := hW.cell 2; go_simp
        simp only [Act.put, List.setIfInBounds_toArray, List.set_cons_zero, List.set_cons_succ]
        refine take_at (i := 9) (v := Value.pointer (some ⟨p, 1, none⟩)) (some 46) rfl rfl (by kernel_rfl) (by kernel_rfl) (by kernel_rfl) (fun _ _ _ h => h) (Or.inl ⟨by rfl, fun W hW => ?_⟩) hHeld ?_
        · go_simp
        simp only [Act.put, List.setIfInBounds_toArray, List.set_cons_zero, List.set_cons_succ]
        refine take_at (i := 11) (v := Value.pointer (some ⟨cb, 0, none⟩)) (some 48) rfl rfl (by kernel_rfl) (by kernel_rfl) (by kernel_rfl) (fun _ _ _ h => h) (Or.inl ⟨by rfl, fun W hW => ?_⟩) hHeld ?_
        · go_simp
        simp only [Act.put, List.setIfInBounds_toArray, List.set_cons_zero, List.set_cons_succ]
        refine take_at (i := 12) (v := .int .i64 2) (some 49) rfl rfl (by kernel_rfl) (by kernel_rfl) (by kernel_rfl) (fun _ _ _ h => h) (Or.inl ⟨by rfl, fun W hW => ?_⟩) hHeld ?_
        · have h4 : W.cell? ⟨cb, 0, none⟩ = some (.int .i64 2) := hW.cell 0; go_simp
        simp only [Act.put, List.setIfInBounds_toArray, List.set_cons_zero, List.set_cons_succ]
        refine take_at (i := 14) (v := Value.slice (some ⟨q, 0, none⟩) 2 2) (some 51) rfl rfl (by kernel_rfl) (by kernel_rfl) (by kernel_rfl) (fun _ _ _ h => h) (yieldsIf_move (by rfl) _ rfl _ rfl) hHeld ?_
        simp only [Act.put, List.setIfInBounds_toArray, List.set_cons_zero, List.set_cons_succ]
        refine take_at (i := 15) (v := Value.pointer (some ⟨cb, 2, none⟩)) (some 52) rfl rfl (by kernel_rfl) (by kernel_rfl) (by kernel_rfl) (fun _ _ _ h => h) (Or.inl ⟨by rfl, fun W hW => ?_⟩) hHeld ?_
        · go_simp
        simp only [Act.put, List.setIfInBounds_toArray, List.set_cons_zero, List.set_cons_succ]
        refine take_at (i := 16) (v := .int .i64 1) (some 53) rfl rfl (by kernel_rfl) (by kernel_rfl) (by kernel_rfl) (fun _ _ _ h => h) (Or.inl ⟨by rfl, fun W hW => ?_⟩) hHeld ?_
        · have h4 : W.cell? ⟨cb, 2, none⟩ = some (.int .i64 1) := hW.cell 2; go_simp
        simp only [Act.put, List.setIfInBounds_toArray, List.set_cons_zero, List.set_cons_succ]
        refine take_at (i := 17) (v := Value.pointer (some ⟨q, 1, none⟩)) (some 54) rfl rfl (by kernel_rfl) (by kernel_rfl) (by kernel_rfl) (fun _ _ _ h => h) (Or.inl ⟨by rfl, fun W hW => ?_⟩) hHeld ?_
        · go_simp
        simp only [Act.put, List.setIfInBounds_toArray, List.set_cons_zero, List.set_cons_succ]
        refine take_at (i := 19) (v := Value.pointer (some ⟨cb, 1, none⟩)) (some 56) rfl rfl (by kernel_rfl) (by kernel_rfl) (by kernel_rfl) (fun _ _ _ h => h) (Or.inl ⟨by rfl, fun W hW => ?_⟩) hHeld ?_
        · go_simp
        simp only [Act.put, List.setIfInBounds_toArray, List.set_cons_zero, List.set_cons_succ]
        refine take_at (i := 20) (v := .int .i64 3) (some 57) rfl rfl (by kernel_rfl) (by kernel_rfl) (by kernel_rfl) (fun _ _ _ h => h) (Or.inl ⟨by rfl, fun W hW => ?_⟩) hHeld ?_
        · have h4 : W.cell? ⟨cb, 1, none⟩ = some (.int .i64 3) := hW.cell 1; go_simp
        simp only [Act.put, List.setIfInBounds_toArray, List.set_cons_zero, List.set_cons_succ]
        refine wpAnyH_ready (rs := [10, 18]) (by kernel_rfl) (by simp) ?_
        refine AllReadyH.cons rfl (fun K1 hK1 => ?_) (AllReadyH.cons rfl (fun K1 hK1 => ?_) AllReadyH.nil)
        · go_simp
          refine hK1.out _ _ hHeld (fun hH1 => ?_)
          try simp only [Act.put, List.setIfInBounds_toArray, List.set_cons_zero, List.set_cons_succ]
          refine take_at (i := 13) (v := .int .i64 2) (some 50) rfl rfl (by kernel_rfl) (by kernel_rfl) (by kernel_rfl) (fun _ _ _ h => h) (Or.inl ⟨by rfl, fun W hW => ?_⟩) hH1 ?_
          · kernel_rfl
          simp only [Act.put, List.setIfInBounds_toArray, List.set_cons_zero, List.set_cons_succ]
          refine wpAnyH_ready (rs := [18]) (by kernel_rfl) (by simp) ?_
          refine AllReadyH.cons rfl (fun K2 hK2 => ?_) AllReadyH.nil
          go_simp
          refine hK2.out _ _ hHeld (fun hH2 => ?_)
          try simp only [Act.put, List.setIfInBounds_toArray, List.set_cons_zero, List.set_cons_succ]
          refine take_at (i := 21) (v := .int .i64 3) (some 58) rfl rfl (by kernel_rfl) (by kernel_rfl) (by kernel_rfl) (fun _ _ _ h => h) (Or.inl ⟨by rfl, fun W hW => ?_⟩) hH2 ?_
          · kernel_rfl
          simp only [Act.put, List.setIfInBounds_toArray, List.set_cons_zero, List.set_cons_succ]
          refine take_at (i := 22) (v := Value.pointer (some ⟨p, 1, none⟩)) (some 59) rfl rfl (by kernel_rfl) (by kernel_rfl) (by kernel_rfl) (fun _ _ _ h => h) (Or.inl ⟨by rfl, fun W hW => ?_⟩) hHeld ?_
          · go_simp
          simp only [Act.put, List.setIfInBounds_toArray, List.set_cons_zero, List.set_cons_succ]
          refine wpAnyH_ready (rs := [23]) (by kernel_rfl) (by simp) ?_
          refine AllReadyH.cons rfl (fun K3 hK3 => ?_) AllReadyH.nil
          go_simp
          refine hK3.out _ _ (hHeld.far (p := ⟨p, 1, none⟩) hpc.2.2.1 _) (fun hH3 => ?_)
          try simp only [Act.put, List.setIfInBounds_toArray, List.set_cons_zero, List.set_cons_succ]
          have q1 : (wB.setCell ⟨p, 1, none⟩ (.int .i64 2)).cell? ⟨q, 1, none⟩ = some (.int .i64 0) := (Q2.out.far (p := ⟨p, 1, none⟩) hqp _).cell 1
          have fq1 : (wB.setCell ⟨p, 1, none⟩ (.int .i64 2)).frozen? ⟨q, 1, none⟩ = false := (Q2.out.far (p := ⟨p, 1, none⟩) hqp _).frozen 1
          refine take_at (i := 24) (v := Value.pointer (some ⟨q, 1, none⟩)) (some 60) rfl rfl (by kernel_rfl) (by kernel_rfl) (by kernel_rfl) (fun _ _ _ h => h) (Or.inl ⟨by rfl, fun W hW => ?_⟩) hH3 ?_
          · go_simp
          simp only [Act.put, List.setIfInBounds_toArray, List.set_cons_zero, List.set_cons_succ]
          refine wpAnyH_ready (rs := [25]) (by kernel_rfl) (by simp) ?_
          refine AllReadyH.cons rfl (fun K4 hK4 => ?_) AllReadyH.nil
          go_simp
          refine hK4.out _ _ (hH3.far (p := ⟨q, 1, none⟩) hpc.2.2.2 _) (fun hH4 => ?_)
          try simp only [Act.put, List.setIfInBounds_toArray, List.set_cons_zero, List.set_cons_succ]
          refine wpAnyH_done (by kernel_rfl) ?_ _
          have P5 := hide (show Blk ((wB.setCell ⟨p, 1, none⟩ (.int .i64 2)).setCell ⟨q, 1, none⟩ (.int .i64 3)) p 3 (intsA (leastTo 2)) from (P2.out.set_ 1 (.int .i64 2)).far (p := ⟨q, 1, none⟩) hpq _)
          have Q5 := hide (show Blk ((wB.setCell ⟨p, 1, none⟩ (.int .i64 2)).setCell ⟨q, 1, none⟩ (.int .i64 3)) q 3 (intsA (mostTo 2)) from (Q2.out.far (p := ⟨p, 1, none⟩) hqp _).set_ 1 (.int .i64 3))
          have O5 := hide (own_far (own_far O2.out (p := ⟨p, 1, none⟩) (fun h => hpw.2.2.1 (by simpa [Value.ownBlock] using h)) (.int .i64 2)) (p := ⟨q, 1, none⟩) (fun h => hpw.2.2.2 (by simpa [Value.ownBlock] using h)) (.int .i64 3))
          have L5 := (L2.setCell (p := ⟨p, 1, none⟩) hpw.1 (.int .i64 2)).setCell (p := ⟨q, 1, none⟩) hpw.2.1 (.int .i64 3)
          clear p0 q0 fp fq q1 fq1
          generalize (wB.setCell ⟨p, 1, none⟩ (.int .i64 2)).setCell ⟨q, 1, none⟩ (.int .i64 3) = wE at *
          go_wp2_with fail
          go_roundw
          case rel => exact ⟨2, by omega, by go_num, P5, Q5, O5, L5⟩
          case measure => simp [intOf]
        · go_simp
          refine hK1.out _ _ hHeld (fun hH1 => ?_)
          try simp only [Act.put, List.setIfInBounds_toArray, List.set_cons_zero, List.set_cons_succ]
          refine take_at (i := 21) (v := .int .i64 3) (some 58) rfl rfl (by kernel_rfl) (by kernel_rfl) (by kernel_rfl) (fun _ _ _ h => h) (Or.inl ⟨by rfl, fun W hW => ?_⟩) hH1 ?_
          · kernel_rfl
          simp only [Act.put, List.setIfInBounds_toArray, List.set_cons_zero, List.set_cons_succ]
          refine wpAnyH_ready (rs := [10]) (by kernel_rfl) (by simp) ?_
          refine AllReadyH.cons rfl (fun K2 hK2 => ?_) AllReadyH.nil
          go_simp
          refine hK2.out _ _ hHeld (fun hH2 => ?_)
          try simp only [Act.put, List.setIfInBounds_toArray, List.set_cons_zero, List.set_cons_succ]
          refine take_at (i := 13) (v := .int .i64 2) (some 50) rfl rfl (by kernel_rfl) (by kernel_rfl) (by kernel_rfl) (fun _ _ _ h => h) (Or.inl ⟨by rfl, fun W hW => ?_⟩) hH2 ?_
          · kernel_rfl
          simp only [Act.put, List.setIfInBounds_toArray, List.set_cons_zero, List.set_cons_succ]
          refine take_at (i := 22) (v := Value.pointer (some ⟨p, 1, none⟩)) (some 59) rfl rfl (by kernel_rfl) (by kernel_rfl) (by kernel_rfl) (fun _ _ _ h => h) (Or.inl ⟨by rfl, fun W hW => ?_⟩) hHeld ?_
          · go_simp
          simp only [Act.put, List.setIfInBounds_toArray, List.set_cons_zero, List.set_cons_succ]
          refine wpAnyH_ready (rs := [23]) (by kernel_rfl) (by simp) ?_
          refine AllReadyH.cons rfl (fun K3 hK3 => ?_) AllReadyH.nil
          go_simp
          refine hK3.out _ _ (hHeld.far (p := ⟨p, 1, none⟩) hpc.2.2.1 _) (fun hH3 => ?_)
          try simp only [Act.put, List.setIfInBounds_toArray, List.set_cons_zero, List.set_cons_succ]
          have q1 : (wB.setCell ⟨p, 1, none⟩ (.int .i64 2)).cell? ⟨q, 1, none⟩ = some (.int .i64 0) := (Q2.out.far (p := ⟨p, 1, none⟩) hqp _).cell 1
          have fq1 : (wB.setCell ⟨p, 1, none⟩ (.int .i64 2)).frozen? ⟨q, 1, none⟩ = false := (Q2.out.far (p := ⟨p, 1, none⟩) hqp _).frozen 1
          refine take_at (i := 24) (v := Value.pointer (some ⟨q, 1, none⟩)) (some 60) rfl rfl (by kernel_rfl) (by kernel_rfl) (by kernel_rfl) (fun _ _ _ h => h) (Or.inl ⟨by rfl, fun W hW => ?_⟩) hH3 ?_
          · go_simp
          simp only [Act.put, List.setIfInBounds_toArray, List.set_cons_zero, List.set_cons_succ]
          refine wpAnyH_ready (rs := [25]) (by kernel_rfl) (by simp) ?_
          refine AllReadyH.cons rfl (fun K4 hK4 => ?_) AllReadyH.nil
          go_simp
          refine hK4.out _ _ (hH3.far (p := ⟨q, 1, none⟩) hpc.2.2.2 _) (fun hH4 => ?_)
          try simp only [Act.put, List.setIfInBounds_toArray, List.set_cons_zero, List.set_cons_succ]
          refine wpAnyH_done (by kernel_rfl) ?_ _
          have P5 := hide (show Blk ((wB.setCell ⟨p, 1, none⟩ (.int .i64 2)).setCell ⟨q, 1, none⟩ (.int .i64 3)) p 3 (intsA (leastTo 2)) from (P2.out.set_ 1 (.int .i64 2)).far (p := ⟨q, 1, none⟩) hpq _)
          have Q5 := hide (show Blk ((wB.setCell ⟨p, 1, none⟩ (.int .i64 2)).setCell ⟨q, 1, none⟩ (.int .i64 3)) q 3 (intsA (mostTo 2)) from (Q2.out.far (p := ⟨p, 1, none⟩) hqp _).set_ 1 (.int .i64 3))
          have O5 := hide (own_far (own_far O2.out (p := ⟨p, 1, none⟩) (fun h => hpw.2.2.1 (by simpa [Value.ownBlock] using h)) (.int .i64 2)) (p := ⟨q, 1, none⟩) (fun h => hpw.2.2.2 (by simpa [Value.ownBlock] using h)) (.int .i64 3))
          have L5 := (L2.setCell (p := ⟨p, 1, none⟩) hpw.1 (.int .i64 2)).setCell (p := ⟨q, 1, none⟩) hpw.2.1 (.int .i64 3)
          clear p0 q0 fp fq q1 fq1
          generalize (wB.setCell ⟨p, 1, none⟩ (.int .i64 2)).setCell ⟨q, 1, none⟩ (.int .i64 3) = wE at *
          go_wp2_with fail
          go_roundw
          case rel => exact ⟨2, by omega, by go_num, P5, Q5, O5, L5⟩
          case measure => simp [intOf]
      · have P6 := hide (show Blk wr p 3 (intsA [5, 2]) from HP.out)
        have Q6 := hide (show Blk wr q 3 (intsA [9, 3]) from HQ.out)
        have L6 := hbel
        clear HP HQ HO hszr hbel P3 Q3 O3 L3
        go_wp2_with fail
        go_loopw [92] (fun i wr => ∃ k : Nat, k ≤ 2 ∧ i = .int .i64 k ∧ Hid (Blk wr p 3 (intsA [5, 2])) ∧ Hid (Blk wr q 3 (intsA [9, 3])) ∧ Below w.heap.size w wr) (fun i _ => 2 - (intOf i).toNat)
        case atStart => exact ⟨0, Nat.zero_le _, rfl, P6, Q6, L6⟩
        case round =>
        obtain ⟨k, hk, rfl, HP2, HQ2, hb2⟩ := hrel
        clear P6 Q6 L6
        rcases (show k = 0 ∨ k = 1 ∨ k = 2 by omega) with rfl | rfl | rfl
        · have s1 : wr.cell? ⟨p, 0, none⟩ = some (.int .i64 5) := HP2.out.cell 0
          have s2 : wr.cell? ⟨q, 0, none⟩ = some (.int .i64 9) := HQ2.out.cell 0
          have s3 : wr.frozen? ⟨q, 0, none⟩ = false := HQ2.out.frozen 0
          have mx : max (9 : Int) 5 = 9 := rfl
          have PS := hide ((HP2.out.far (p := ⟨q, 0, none⟩) hpq (.int .i64 9)).drew)
          have QS := hide (show Blk (wr.setCell ⟨q, 0, none⟩ (.int .i64 9)).drew q 3 (intsA [9, 3]) from (HQ2.out.set_ 0 (.int .i64 9)).drew)
          have LS := (hb2.setCell (p := ⟨q, 0, none⟩) hpw.2.1 (.int .i64 9)).drew
          have s4 : (wr.setCell ⟨q, 0, none⟩ (.int .i64 9)).drew.cell? ⟨p, 0, none⟩ = some (.int .i64 5) := PS.out.cell 0
          have s5 : (wr.setCell ⟨q, 0, none⟩ (.int .i64 9)).drew.cell? ⟨q, 0, none⟩ = some (.int .i64 9) := QS.out.cell 0
          have KS := hide (And.intro s4 s5)
          clear s4 s5
          rw [show ((0 : Nat) : Int) = 0 from rfl]
          go_wp2_with fail
          go_region_held3 (fun W => W.cell? ⟨p, 0, none⟩ = some (.int .i64 5) ∧ W.cell? ⟨q, 0, none⟩ = some (.int .i64 9)) (first | exact ⟨s1, s2⟩ | exact KS.out) (fail)
          all_goals
            clear s1 s2 s3 mx KS
            generalize (wr.setCell ⟨q, 0, none⟩ (.int .i64 9)).drew = wE at *
            go_wp2_with fail
            go_roundw
            case rel => first | exact ⟨1, by omega, by go_num, PS, QS, LS⟩ | ((repeat apply Exists.intro); exact ⟨⟨1, by omega, by go_num, PS, QS, LS⟩, rfl⟩)
            case measure => simp [intOf]
        · have s1 : wr.cell? ⟨p, 1, none⟩ = some (.int .i64 2) := HP2.out.cell 1
          have s2 : wr.cell? ⟨q, 1, none⟩ = some (.int .i64 3) := HQ2.out.cell 1
          have s3 : wr.frozen? ⟨q, 1, none⟩ = false := HQ2.out.frozen 1
          have mx : max (3 : Int) 2 = 3 := rfl
          have PS := hide ((HP2.out.far (p := ⟨q, 1, none⟩) hpq (.int .i64 3)).drew)
          have QS := hide (show Blk (wr.setCell ⟨q, 1, none⟩ (.int .i64 3)).drew q 3 (intsA [9, 3]) from (HQ2.out.set_ 1 (.int .i64 3)).drew)
          have LS := (hb2.setCell (p := ⟨q, 1, none⟩) hpw.2.1 (.int .i64 3)).drew
          have s4 : (wr.setCell ⟨q, 1, none⟩ (.int .i64 3)).drew.cell? ⟨p, 1, none⟩ = some (.int .i64 2) := PS.out.cell 1
          have s5 : (wr.setCell ⟨q, 1, none⟩ (.int .i64 3)).drew.cell? ⟨q, 1, none⟩ = some (.int .i64 3) := QS.out.cell 1
          have KS := hide (And.intro s4 s5)
          clear s4 s5
          rw [show ((1 : Nat) : Int) = 1 from rfl]
          go_wp2_with fail
          go_region_held3 (fun W => W.cell? ⟨p, 1, none⟩ = some (.int .i64 2) ∧ W.cell? ⟨q, 1, none⟩ = some (.int .i64 3)) (first | exact ⟨s1, s2⟩ | exact KS.out) (fail)
          all_goals
            clear s1 s2 s3 mx KS
            generalize (wr.setCell ⟨q, 1, none⟩ (.int .i64 3)).drew = wE at *
            go_wp2_with fail
            go_roundw
            case rel => first | exact ⟨2, by omega, by go_num, PS, QS, LS⟩ | ((repeat apply Exists.intro); exact ⟨⟨2, by omega, by go_num, PS, QS, LS⟩, rfl⟩)
            case measure => simp [intOf]
        · go_wp2_with fail
          go_ret2
          exact ⟨p, q, rfl, HP2.out, HQ2.out, hb2⟩
end Go.Proofs.Ytadlabndbomgmaa
