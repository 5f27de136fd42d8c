/- The walks of cmp.Compare and cmp.Or at int, and of the comparison of two frags by their marks. -/
import Derived.Test.YtbpkffoooieejaaDoorStSort
import Derived.Test.YtbpkffoooieejaaDoorOnly
import Derived.Test.YtbpkffoooieejaaDoorStMark
import Derived.Test.YtbpkffoooieejaaDoorSteps3
namespace Go.Proofs.YtbpkffoooieejaaDoor
open Go.ChangeShapes Go.WideShapes Go.ChangeAt Go.RowKit Go.Sort
theorem isnan_any (x : Int) (w : World) : Calls Tryd.prog 48 #[.int .i64 x] w fun e w' => e = .returned (.bool false) ∧ w' = w := by
  go_enter Tryd.func48, Tryd.ntmps48
  go_wp2
  go_ret
  exact ⟨by simp, rfl⟩
theorem cmp_any (x y : Int) (w : World) : Calls Tryd.prog 35 #[.int .i64 x, .int .i64 y] w fun e w' => e = .returned (.int .i64 (Lib.compareInt x y)) ∧ w' = w := by
  unfold Lib.compareInt
  go_enter Tryd.func35, Tryd.ntmps35
  go_wp2_with (go_at_call 48; refine (isnan_any _ _).mono ?_; rintro e w9 ⟨rfl, rfl⟩)
  · go_ret
    exact ⟨rfl, rfl⟩
  · go_ret
    exact ⟨rfl, rfl⟩
  · go_ret
    exact ⟨rfl, rfl⟩
theorem cmp_at (x y : Int) (w : World) : Calls Tryd.prog 35 #[.int .i64 x, .int .i64 y] w fun e w' => e = .returned (.int .i64 (Lib.compareInt x y)) ∧ w = w' := (cmp_any x y w).mono fun _ _ h => ⟨h.1, h.2.symm⟩
theorem or_any (x y z : Int) (g : Nat) (w : World) (h0 : w.cell? ⟨g, 0, none⟩ = some (.int .i64 x)) (h1 : w.cell? ⟨g, 1, none⟩ = some (.int .i64 y)) (h2 : w.cell? ⟨g, 2, none⟩ = some (.int .i64 z)) :
    Calls Tryd.prog 34 #[.slice (some ⟨g, 0, none⟩) 3 3] w fun e w' => e = .returned (.int .i64 (or3 x y z)) ∧ w' = w := by
  by_cases hx : x = 0
  · by_cases hy : y = 0
    · have t1 : (x != 0) = false := by simp [hx]
      have t2 : (y != 0) = false := by simp [hy]
      have e : or3 x y z = z := by simp [or3, hx, hy]
      rw [e]
      go_enter Tryd.func34, Tryd.ntmps34
      go_wp2
      refine wp_loop_rounds 4 ?_
      rw [rounds_succ]
      go_wp2
      rw [rounds_succ]
      go_wp2
      rw [rounds_succ]
      go_wp2
      · go_ret
        exact ⟨rfl, rfl⟩
      · rw [rounds_succ]
        go_wp2
        go_ret
        exact ⟨by simp_all, rfl⟩
    · have t1 : (x != 0) = false := by simp [hx]
      have t2 : (y != 0) = true := by simp [hy]
      have e : or3 x y z = y := by simp [or3, hx, hy]
      rw [e]
      go_enter Tryd.func34, Tryd.ntmps34
      go_wp2
      refine wp_loop_rounds 4 ?_
      rw [rounds_succ]
      go_wp2
      rw [rounds_succ]
      go_wp2
      go_ret
      exact ⟨rfl, rfl⟩
  · have t1 : (x != 0) = true := by simp [hx]
    have e : or3 x y z = x := by simp [or3, hx]
    rw [e]
    go_enter Tryd.func34, Tryd.ntmps34
    go_wp2
    refine wp_loop_rounds 4 ?_
    rw [rounds_succ]
    go_wp2
    go_ret
    exact ⟨rfl, rfl⟩
theorem or_new (x y z : Int) (w : World) (t : TypeId) : Calls Tryd.prog 34 #[.slice (some ⟨w.heap.size, 0, none⟩) 3 3] (w.alloc (.cells #[.int .i64 x, .int .i64 y, .int .i64 z] t)).drew fun e w' => e = .returned (.int .i64 (or3 x y z)) ∧ w' = (w.alloc (.cells #[.int .i64 x, .int .i64 y, .int .i64 z] t)).drew :=
  or_any x y z _ _ ((Blk.new w t _).drew.cell 0) ((Blk.new w t _).drew.cell 1) ((Blk.new w t _).drew.cell 2)
theorem one_grown {W W1 : World} {b : Obj} (h : ∃ q os, W1 = grow (W.drewN q) os) : ∃ q os, W1.alloc b = grow (W.drewN q) os := by
  obtain ⟨q, os, rfl⟩ := h
  exact ⟨q, os ++ #[b], by rw [alloc_eq_grow, grow_grow]⟩
theorem drew_grown {W W1 : World} (h : ∃ q os, W1 = grow (W.drewN q) os) : ∃ q os, W1.drew = grow (W.drewN q) os := by
  obtain ⟨q, os, rfl⟩ := h
  exact ⟨q + 1, os, rfl⟩
theorem two_grown (W : World) (a b : Obj) : ∃ q os, ((W.alloc a).alloc b).drew = grow (W.drewN q) os := ⟨1, #[a] ++ #[b], by rw [alloc_eq_grow, alloc_eq_grow, grow_grow]; rfl⟩
theorem two_new (W : World) (a b : Array Value) (t : TypeId) : Blk ((W.alloc (.cells a t)).alloc (.cells b t)).drew W.heap.size t a ∧ Blk ((W.alloc (.cells a t)).alloc (.cells b t)).drew (W.heap.size + 1) t b := ⟨((Blk.new W t a).alloc _).drew, (blk_two W _ b t).drew⟩
set_option maxHeartbeats 4000000 in
theorem cmpc_any (M : Nat → Mk) (n : Nat) (_hn : n ≤ 300000) (bx bo bm cm : Nat) (x y : Nat) (hx : x < n) (hy : y < n) (W : World) (hb : W.cell? ⟨bx, 0, none⟩ = some (.pointer (some ⟨bo, 0, none⟩))) (ho : W.cell? ⟨bo, 0, none⟩ = some (.slice (some ⟨bm, 0, none⟩) n cm))
    (hm : ∀ f, f < n → W.cell? ⟨bm, f * 3, none⟩ = some (.int .i64 (M f).1) ∧ W.cell? ⟨bm, f * 3 + 1, none⟩ = some (.int .i64 (M f).2.1) ∧ W.cell? ⟨bm, f * 3 + 2, none⟩ = some (.int .i64 (M f).2.2)) :
    Calls Tryd.prog 33 #[.int .i64 (x : Int), .int .i64 (y : Int), .pointer (some ⟨bx, 0, none⟩)] W fun e w' => e = .returned (.int .i64 (cfM M x y)) ∧ ∃ q os', w' = grow (W.drewN q) os' := by
  obtain ⟨a0, a1, a2⟩ := hm x hx
  obtain ⟨b0, b1, b2⟩ := hm y hy
  have hx2 : ¬ n ≤ x := by omega
  have hy2 : ¬ n ≤ y := by omega
  unfold cfM
  clear hm
  go_enter Tryd.func33, Tryd.ntmps33
  go_wp2_with (first | (go_at_call 35; refine (cmp_any _ _ _).mono ?_; rintro e w9 ⟨rfl, rfl⟩) | (go_at_call 34; refine (or_any (Lib.compareInt x2 y2) (Lib.compareInt x1 y1) (Lib.compareInt x y) _ _ (by simp) (by simp) (by simp)).mono ?_; rintro e w9 ⟨rfl, rfl⟩))
  generalize (M x).1 = x0 at *
  generalize ex1 : (M x).2.1 = x1 at *
  generalize ex2 : (M x).2.2 = x2 at *
  generalize (M y).1 = y0 at *
  generalize ey1 : (M y).2.1 = y1 at *
  generalize ey2 : (M y).2.2 = y2 at *
  have E1 := hide ex1
  have E2 := hide ex2
  have F1 := hide ey1
  have F2 := hide ey2
  clear ex1 ex2 ey1 ey2
  have hlm : bm < W.heap.size := World.block_lt_of_cell? _ _ a0
  have hlo : bo < W.heap.size := World.block_lt_of_cell? _ _ ho
  have hlx : bx < W.heap.size := World.block_lt_of_cell? _ _ hb
  go_region
  have HB := hide (two_grown W (.cells #[.int .i64 x0, .int .i64 x1, .int .i64 x2] 69) (.cells #[.int .i64 y0, .int .i64 y1, .int .i64 y2] 69))
  obtain ⟨bp, bq⟩ := two_new W #[.int .i64 x0, .int .i64 x1, .int .i64 x2] #[.int .i64 y0, .int .i64 y1, .int .i64 y2] 69
  obtain ⟨p, hp⟩ : ∃ p, p = W.heap.size := ⟨_, rfl⟩
  obtain ⟨q, hq⟩ : ∃ q, q = W.heap.size + 1 := ⟨_, rfl⟩
  rw [← hq, ← hp]
  rw [← hp] at bp
  rw [← hq] at bq
  generalize ((W.alloc (.cells #[.int .i64 x0, .int .i64 x1, .int .i64 x2] 69)).alloc (.cells #[.int .i64 y0, .int .i64 y1, .int .i64 y2] 69)).drew = W1 at *
  rotate_left
  have HB := hide (two_grown W (.cells #[.int .i64 y0, .int .i64 y1, .int .i64 y2] 69) (.cells #[.int .i64 x0, .int .i64 x1, .int .i64 x2] 69))
  obtain ⟨bq, bp⟩ := two_new W #[.int .i64 y0, .int .i64 y1, .int .i64 y2] #[.int .i64 x0, .int .i64 x1, .int .i64 x2] 69
  obtain ⟨q, hq⟩ : ∃ q, q = W.heap.size := ⟨_, rfl⟩
  obtain ⟨p, hp⟩ : ∃ p, p = W.heap.size + 1 := ⟨_, rfl⟩
  rw [← hp, ← hq]
  rw [← hp] at bp
  rw [← hq] at bq
  generalize ((W.alloc (.cells #[.int .i64 y0, .int .i64 y1, .int .i64 y2] 69)).alloc (.cells #[.int .i64 x0, .int .i64 x1, .int .i64 x2] 69)).drew = W1 at *
  rotate_left
  all_goals clear hb ho a0 a1 a2 b0 b1 b2 hlm hlo hlx hp hq
  all_goals go_wp2_with fail
  · refine wp_region_HL 16 #[false, false, false, false, false, false, false, false, false, false, false, false, false, false, false, false] (by kernel_rfl) (by kernel_rfl) (S := fun Z => Blk Z p 69 #[.int .i64 x0, .int .i64 x1, .int .i64 x2] ∧ Blk Z q 69 #[.int .i64 y0, .int .i64 y1, .int .i64 y2]) (by kernel_rfl) ⟨bp, bq⟩ (fun hHeld => ?_)
    have HB2 := hide (drew_grown HB.out)
    generalize W1.drew = wB at *
    refine take_at (i := 0) (v := (Value.pointer (some ⟨p, 2, none⟩))) (some 22) rfl rfl (by kernel_rfl) (by kernel_rfl) (by kernel_rfl) (fun _ _ _ h => h) (yieldsIf_faddr (by rfl) 69 _ 2 rfl _ _ 2 rfl (by kernel_rfl)) hHeld ?_
    simp only [Act.put, List.setIfInBounds_toArray, List.set_cons_zero, List.set_cons_succ]
    refine take_at (i := 1) (v := (.int .i64 x2)) (some 23) rfl rfl (by kernel_rfl) (by kernel_rfl) (by kernel_rfl) (fun _ _ _ h => h) (yieldsIf_load1 (by rfl) 3 _ rfl _ _ _ rfl (by kernel_rfl) (fun _ h => h.1.cell 2)) hHeld ?_
    simp only [Act.put, List.setIfInBounds_toArray, List.set_cons_zero, List.set_cons_succ]
    refine take_at (i := 2) (v := (Value.pointer (some ⟨q, 2, none⟩))) (some 24) rfl rfl (by kernel_rfl) (by kernel_rfl) (by kernel_rfl) (fun _ _ _ h => h) (yieldsIf_faddr (by rfl) 69 _ 2 rfl _ _ 2 rfl (by kernel_rfl)) hHeld ?_
    simp only [Act.put, List.setIfInBounds_toArray, List.set_cons_zero, List.set_cons_succ]
    refine take_at (i := 3) (v := (.int .i64 y2)) (some 25) rfl rfl (by kernel_rfl) (by kernel_rfl) (by kernel_rfl) (fun _ _ _ h => h) (yieldsIf_load1 (by rfl) 3 _ rfl _ _ _ rfl (by kernel_rfl) (fun _ h => h.2.cell 2)) hHeld ?_
    simp only [Act.put, List.setIfInBounds_toArray, List.set_cons_zero, List.set_cons_succ]
    refine call_at (i := 4) (v := .int .i64 (Lib.compareInt x2 y2)) (some 26) rfl rfl (by kernel_rfl) (by kernel_rfl) (by kernel_rfl) (fun _ _ _ h => h) (by rfl) 35 #[.int .i64 x2, .int .i64 y2] (fun _ _ => run_enter Tryd.func35 (by kernel_rfl) (by kernel_rfl) _ _ rfl #[.int .i64 x2, .int .i64 y2] (by kernel_rfl) _) (fun W _ => cmp_at _ _ _) hHeld ?_
    simp only [Act.put, List.setIfInBounds_toArray, List.set_cons_zero, List.set_cons_succ]
    refine take_at (i := 5) (v := (Value.pointer (some ⟨p, 1, none⟩))) (some 27) rfl rfl (by kernel_rfl) (by kernel_rfl) (by kernel_rfl) (fun _ _ _ h => h) (yieldsIf_faddr (by rfl) 69 _ 1 rfl _ _ 1 rfl (by kernel_rfl)) hHeld ?_
    simp only [Act.put, List.setIfInBounds_toArray, List.set_cons_zero, List.set_cons_succ]
    refine take_at (i := 6) (v := (.int .i64 x1)) (some 28) rfl rfl (by kernel_rfl) (by kernel_rfl) (by kernel_rfl) (fun _ _ _ h => h) (yieldsIf_load1 (by rfl) 3 _ rfl _ _ _ rfl (by kernel_rfl) (fun _ h => h.1.cell 1)) hHeld ?_
    simp only [Act.put, List.setIfInBounds_toArray, List.set_cons_zero, List.set_cons_succ]
    refine take_at (i := 7) (v := (Value.pointer (some ⟨q, 1, none⟩))) (some 29) rfl rfl (by kernel_rfl) (by kernel_rfl) (by kernel_rfl) (fun _ _ _ h => h) (yieldsIf_faddr (by rfl) 69 _ 1 rfl _ _ 1 rfl (by kernel_rfl)) hHeld ?_
    simp only [Act.put, List.setIfInBounds_toArray, List.set_cons_zero, List.set_cons_succ]
    refine take_at (i := 8) (v := (.int .i64 y1)) (some 30) rfl rfl (by kernel_rfl) (by kernel_rfl) (by kernel_rfl) (fun _ _ _ h => h) (yieldsIf_load1 (by rfl) 3 _ rfl _ _ _ rfl (by kernel_rfl) (fun _ h => h.2.cell 1)) hHeld ?_
    simp only [Act.put, List.setIfInBounds_toArray, List.set_cons_zero, List.set_cons_succ]
    refine call_at (i := 9) (v := .int .i64 (Lib.compareInt x1 y1)) (some 31) rfl rfl (by kernel_rfl) (by kernel_rfl) (by kernel_rfl) (fun _ _ _ h => h) (by rfl) 35 #[.int .i64 x1, .int .i64 y1] (fun _ _ => run_enter Tryd.func35 (by kernel_rfl) (by kernel_rfl) _ _ rfl #[.int .i64 x1, .int .i64 y1] (by kernel_rfl) _) (fun W _ => cmp_at _ _ _) hHeld ?_
    simp only [Act.put, List.setIfInBounds_toArray, List.set_cons_zero, List.set_cons_succ]
    refine take_at (i := 10) (v := (.int .i64 (x : Int))) (some 32) rfl rfl (by kernel_rfl) (by kernel_rfl) (by kernel_rfl) (fun _ _ _ h => h) (yieldsIf_move (by rfl) _ rfl _ rfl) hHeld ?_
    simp only [Act.put, List.setIfInBounds_toArray, List.set_cons_zero, List.set_cons_succ]
    refine take_at (i := 11) (v := (.int .i64 (y : Int))) (some 33) rfl rfl (by kernel_rfl) (by kernel_rfl) (by kernel_rfl) (fun _ _ _ h => h) (yieldsIf_move (by rfl) _ rfl _ rfl) hHeld ?_
    simp only [Act.put, List.setIfInBounds_toArray, List.set_cons_zero, List.set_cons_succ]
    refine call_at (i := 12) (v := .int .i64 (Lib.compareInt (x : Int) (y : Int))) (some 34) rfl rfl (by kernel_rfl) (by kernel_rfl) (by kernel_rfl) (fun _ _ _ h => h) (by rfl) 35 #[.int .i64 (x : Int), .int .i64 (y : Int)] (fun _ _ => run_enter Tryd.func35 (by kernel_rfl) (by kernel_rfl) _ _ rfl #[.int .i64 (x : Int), .int .i64 (y : Int)] (by kernel_rfl) _) (fun W _ => cmp_at _ _ _) hHeld ?_
    simp only [Act.put, List.setIfInBounds_toArray, List.set_cons_zero, List.set_cons_succ]
    refine layH (j := 13) (by kernel_rfl) rfl rfl 35 rfl 35 3 _ rfl [(0, .int .i64 (Lib.compareInt x2 y2)), (1, .int .i64 (Lib.compareInt x1 y1)), (2, .int .i64 (Lib.compareInt (x : Int) (y : Int)))] (by kernel_rfl) #[.int .i64 (Lib.compareInt x2 y2), .int .i64 (Lib.compareInt x1 y1), .int .i64 (Lib.compareInt (x : Int) (y : Int))] 3 (by kernel_rfl) ⟨hHeld.1.alloc _, hHeld.2.alloc _⟩ ?_
    simp only [Act.put, List.setIfInBounds_toArray, List.set_cons_zero, List.set_cons_succ]
    have hN := Blk.new wB 3 #[.int .i64 (Lib.compareInt x2 y2), .int .i64 (Lib.compareInt x1 y1), .int .i64 (Lib.compareInt (x : Int) (y : Int))]
    refine callH (j := 14) (by kernel_rfl) rfl rfl (some 36) rfl 34 #[.slice (some ⟨wB.heap.size, 0, none⟩) 3 3] (run_enter Tryd.func34 (by kernel_rfl) (by kernel_rfl) _ _ rfl #[.slice (some ⟨wB.heap.size, 0, none⟩) 3 3] (by kernel_rfl) _) (or_any _ _ _ _ _ (hN.cell 0) (hN.cell 1) (hN.cell 2)) ?_
    rintro e w9 ⟨rfl, rfl⟩
    refine ⟨_, rfl, ⟨hHeld.1.alloc _, hHeld.2.alloc _⟩, ?_⟩
    simp only [Act.put, List.setIfInBounds_toArray, List.set_cons_zero, List.set_cons_succ]
    have hHeld2 := And.intro (hHeld.1.alloc (.cells #[.int .i64 (Lib.compareInt x2 y2), .int .i64 (Lib.compareInt x1 y1), .int .i64 (Lib.compareInt (x : Int) (y : Int))] 3)) (hHeld.2.alloc (.cells #[.int .i64 (Lib.compareInt x2 y2), .int .i64 (Lib.compareInt x1 y1), .int .i64 (Lib.compareInt (x : Int) (y : Int))] 3))
    refine take_at (i := 15) (v := (.int .i64 (or3 (Lib.compareInt x2 y2) (Lib.compareInt x1 y1) (Lib.compareInt (x : Int) (y : Int))))) (some 5) rfl rfl (by kernel_rfl) (by kernel_rfl) (by kernel_rfl) (fun _ _ _ h => h) (Or.inl ⟨by rfl, fun W hW => ?_⟩) hHeld2 ?_
    · go_simp
    simp only [Act.put, List.setIfInBounds_toArray, List.set_cons_zero, List.set_cons_succ]
    refine wpAnyH_done (by kernel_rfl) ?_ _
    go_wp2_with fail
    go_ret
    exact ⟨by rw [E1.out, E2.out, F1.out, F2.out]; rfl, one_grown HB2.out⟩
  · refine wp_region_HL 16 #[false, false, false, false, false, false, false, false, false, false, false, false, false, false, false, false] (by kernel_rfl) (by kernel_rfl) (S := fun Z => Blk Z p 69 #[.int .i64 x0, .int .i64 x1, .int .i64 x2] ∧ Blk Z q 69 #[.int .i64 y0, .int .i64 y1, .int .i64 y2]) (by kernel_rfl) ⟨bp, bq⟩ (fun hHeld => ?_)
    have HB2 := hide (drew_grown HB.out)
    generalize W1.drew = wB at *
    refine take_at (i := 0) (v := (Value.pointer (some ⟨p, 2, none⟩))) (some 22) rfl rfl (by kernel_rfl) (by kernel_rfl) (by kernel_rfl) (fun _ _ _ h => h) (yieldsIf_faddr (by rfl) 69 _ 2 rfl _ _ 2 rfl (by kernel_rfl)) hHeld ?_
    simp only [Act.put, List.setIfInBounds_toArray, List.set_cons_zero, List.set_cons_succ]
    refine take_at (i := 1) (v := (.int .i64 x2)) (some 23) rfl rfl (by kernel_rfl) (by kernel_rfl) (by kernel_rfl) (fun _ _ _ h => h) (yieldsIf_load1 (by rfl) 3 _ rfl _ _ _ rfl (by kernel_rfl) (fun _ h => h.1.cell 2)) hHeld ?_
    simp only [Act.put, List.setIfInBounds_toArray, List.set_cons_zero, List.set_cons_succ]
    refine take_at (i := 2) (v := (Value.pointer (some ⟨q, 2, none⟩))) (some 24) rfl rfl (by kernel_rfl) (by kernel_rfl) (by kernel_rfl) (fun _ _ _ h => h) (yieldsIf_faddr (by rfl) 69 _ 2 rfl _ _ 2 rfl (by kernel_rfl)) hHeld ?_
    simp only [Act.put, List.setIfInBounds_toArray, List.set_cons_zero, List.set_cons_succ]
    refine take_at (i := 3) (v := (.int .i64 y2)) (some 25) rfl rfl (by kernel_rfl) (by kernel_rfl) (by kernel_rfl) (fun _ _ _ h => h) (yieldsIf_load1 (by rfl) 3 _ rfl _ _ _ rfl (by kernel_rfl) (fun _ h => h.2.cell 2)) hHeld ?_
    simp only [Act.put, List.setIfInBounds_toArray, List.set_cons_zero, List.set_cons_succ]
    refine call_at (i := 4) (v := .int .i64 (Lib.compareInt x2 y2)) (some 26) rfl rfl (by kernel_rfl) (by kernel_rfl) (by kernel_rfl) (fun _ _ _ h => h) (by rfl) 35 #[.int .i64 x2, .int .i64 y2] (fun _ _ => run_enter Tryd.func35 (by kernel_rfl) (by kernel_rfl) _ _ rfl #[.int .i64 x2, .int .i64 y2] (by kernel_rfl) _) (fun W _ => cmp_at _ _ _) hHeld ?_
    simp only [Act.put, List.setIfInBounds_toArray, List.set_cons_zero, List.set_cons_succ]
    refine take_at (i := 5) (v := (Value.pointer (some ⟨p, 1, none⟩))) (some 27) rfl rfl (by kernel_rfl) (by kernel_rfl) (by kernel_rfl) (fun _ _ _ h => h) (yieldsIf_faddr (by rfl) 69 _ 1 rfl _ _ 1 rfl (by kernel_rfl)) hHeld ?_
    simp only [Act.put, List.setIfInBounds_toArray, List.set_cons_zero, List.set_cons_succ]
    refine take_at (i := 6) (v := (.int .i64 x1)) (some 28) rfl rfl (by kernel_rfl) (by kernel_rfl) (by kernel_rfl) (fun _ _ _ h => h) (yieldsIf_load1 (by rfl) 3 _ rfl _ _ _ rfl (by kernel_rfl) (fun _ h => h.1.cell 1)) hHeld ?_
    simp only [Act.put, List.setIfInBounds_toArray, List.set_cons_zero, List.set_cons_succ]
    refine take_at (i := 7) (v := (Value.pointer (some ⟨q, 1, none⟩))) (some 29) rfl rfl (by kernel_rfl) (by kernel_rfl) (by kernel_rfl) (fun _ _ _ h => h) (yieldsIf_faddr (by rfl) 69 _ 1 rfl _ _ 1 rfl (by kernel_rfl)) hHeld ?_
    simp only [Act.put, List.setIfInBounds_toArray, List.set_cons_zero, List.set_cons_succ]
    refine take_at (i := 8) (v := (.int .i64 y1)) (some 30) rfl rfl (by kernel_rfl) (by kernel_rfl) (by kernel_rfl) (fun _ _ _ h => h) (yieldsIf_load1 (by rfl) 3 _ rfl _ _ _ rfl (by kernel_rfl) (fun _ h => h.2.cell 1)) hHeld ?_
    simp only [Act.put, List.setIfInBounds_toArray, List.set_cons_zero, List.set_cons_succ]
    refine call_at (i := 9) (v := .int .i64 (Lib.compareInt x1 y1)) (some 31) rfl rfl (by kernel_rfl) (by kernel_rfl) (by kernel_rfl) (fun _ _ _ h => h) (by rfl) 35 #[.int .i64 x1, .int .i64 y1] (fun _ _ => run_enter Tryd.func35 (by kernel_rfl) (by kernel_rfl) _ _ rfl #[.int .i64 x1, .int .i64 y1] (by kernel_rfl) _) (fun W _ => cmp_at _ _ _) hHeld ?_
    simp only [Act.put, List.setIfInBounds_toArray, List.set_cons_zero, List.set_cons_succ]
    refine take_at (i := 10) (v := (.int .i64 (x : Int))) (some 32) rfl rfl (by kernel_rfl) (by kernel_rfl) (by kernel_rfl) (fun _ _ _ h => h) (yieldsIf_move (by rfl) _ rfl _ rfl) hHeld ?_
    simp only [Act.put, List.setIfInBounds_toArray, List.set_cons_zero, List.set_cons_succ]
    refine take_at (i := 11) (v := (.int .i64 (y : Int))) (some 33) rfl rfl (by kernel_rfl) (by kernel_rfl) (by kernel_rfl) (fun _ _ _ h => h) (yieldsIf_move (by rfl) _ rfl _ rfl) hHeld ?_
    simp only [Act.put, List.setIfInBounds_toArray, List.set_cons_zero, List.set_cons_succ]
    refine call_at (i := 12) (v := .int .i64 (Lib.compareInt (x : Int) (y : Int))) (some 34) rfl rfl (by kernel_rfl) (by kernel_rfl) (by kernel_rfl) (fun _ _ _ h => h) (by rfl) 35 #[.int .i64 (x : Int), .int .i64 (y : Int)] (fun _ _ => run_enter Tryd.func35 (by kernel_rfl) (by kernel_rfl) _ _ rfl #[.int .i64 (x : Int), .int .i64 (y : Int)] (by kernel_rfl) _) (fun W _ => cmp_at _ _ _) hHeld ?_
    simp only [Act.put, List.setIfInBounds_toArray, List.set_cons_zero, List.set_cons_succ]
    refine layH (j := 13) (by kernel_rfl) rfl rfl 35 rfl 35 3 _ rfl [(0, .int .i64 (Lib.compareInt x2 y2)), (1, .int .i64 (Lib.compareInt x1 y1)), (2, .int .i64 (Lib.compareInt (x : Int) (y : Int)))] (by kernel_rfl) #[.int .i64 (Lib.compareInt x2 y2), .int .i64 (Lib.compareInt x1 y1), .int .i64 (Lib.compareInt (x : Int) (y : Int))] 3 (by kernel_rfl) ⟨hHeld.1.alloc _, hHeld.2.alloc _⟩ ?_
    simp only [Act.put, List.setIfInBounds_toArray, List.set_cons_zero, List.set_cons_succ]
    have hN := Blk.new wB 3 #[.int .i64 (Lib.compareInt x2 y2), .int .i64 (Lib.compareInt x1 y1), .int .i64 (Lib.compareInt (x : Int) (y : Int))]
    refine callH (j := 14) (by kernel_rfl) rfl rfl (some 36) rfl 34 #[.slice (some ⟨wB.heap.size, 0, none⟩) 3 3] (run_enter Tryd.func34 (by kernel_rfl) (by kernel_rfl) _ _ rfl #[.slice (some ⟨wB.heap.size, 0, none⟩) 3 3] (by kernel_rfl) _) (or_any _ _ _ _ _ (hN.cell 0) (hN.cell 1) (hN.cell 2)) ?_
    rintro e w9 ⟨rfl, rfl⟩
    refine ⟨_, rfl, ⟨hHeld.1.alloc _, hHeld.2.alloc _⟩, ?_⟩
    simp only [Act.put, List.setIfInBounds_toArray, List.set_cons_zero, List.set_cons_succ]
    have hHeld2 := And.intro (hHeld.1.alloc (.cells #[.int .i64 (Lib.compareInt x2 y2), .int .i64 (Lib.compareInt x1 y1), .int .i64 (Lib.compareInt (x : Int) (y : Int))] 3)) (hHeld.2.alloc (.cells #[.int .i64 (Lib.compareInt x2 y2), .int .i64 (Lib.compareInt x1 y1), .int .i64 (Lib.compareInt (x : Int) (y : Int))] 3))
    refine take_at (i := 15) (v := (.int .i64 (or3 (Lib.compareInt x2 y2) (Lib.compareInt x1 y1) (Lib.compareInt (x : Int) (y : Int))))) (some 5) rfl rfl (by kernel_rfl) (by kernel_rfl) (by kernel_rfl) (fun _ _ _ h => h) (Or.inl ⟨by rfl, fun W hW => ?_⟩) hHeld2 ?_
    · go_simp
    simp only [Act.put, List.setIfInBounds_toArray, List.set_cons_zero, List.set_cons_succ]
    refine wpAnyH_done (by kernel_rfl) ?_ _
    go_wp2_with fail
    go_ret
    exact ⟨by rw [E1.out, E2.out, F1.out, F2.out]; rfl, one_grown HB2.out⟩
end Go.Proofs.YtbpkffoooieejaaDoor
