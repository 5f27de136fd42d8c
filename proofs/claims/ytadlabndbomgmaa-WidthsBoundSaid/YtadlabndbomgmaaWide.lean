/- Walks: Wide, Shrink. -/
import Derived.BigQuiet
import Derived.Handy
import Derived.Deep.MidRow
import Derived.Deep.RegionHeld3
import Derived.Test.YtadlabndbomgmaaAcross
namespace Go.Proofs.Ytadlabndbomgmaa
open Go.ChangeShapes Go.WideShapes Go.ChangeAt Go.RowKit
theorem bound_bd (R : Nat → Int) (room rim : Int) (pt : Bool) (le mo : Nat) (hr : 0 ≤ rim) (n : Int) : 0 ≤ boundOf R room rim pt le mo n ∧ boundOf R room rim pt le mo n ≤ max 16777216 n := by
  have h1 := bN_bd R room rim hr pt le
  have h2 := bN_bd R room rim hr pt mo
  unfold boundOf
  split <;> split <;> omega
theorem told_bd (R : Nat → Int) (room rim : Int) (pt : Bool) (sz le mo : Nat) (hr : 0 ≤ rim) (n : Int) : 0 ≤ toldOf R room rim pt sz le mo n ∧ toldOf R room rim pt sz le mo n ≤ max 16777216 n := by
  have h1 := bN_bd R room rim hr pt sz
  have h2 := bound_bd R room rim pt le mo hr n
  have h3 := bound_bd R room rim pt le mo hr (bN R room rim pt sz)
  unfold toldOf
  split <;> omega
theorem partOf_bd (a b c : Int) : -16777216 ≤ partOf a b c ∧ partOf a b c ≤ 16777216 := by
  have h3 := cut_lo (cut a * cut b / cut c)
  have h4 := cut_hi (cut a * cut b / cut c)
  unfold partOf
  omega
/-- The width of a block, and what is left beside it. -/
def wWd (R : Nat → Int) (c : Int) : Int := toldOf R c (rimX R c) true 5 7 9 (c - edge R c 11 3 - edge R c 11 1 - rimX R c)
def wRest (R : Nat → Int) (c : Int) : Int := c - wWd R c - rimX R c - edge R c 11 3 - edge R c 11 1
def wideLR (l r rest : Int) (a b : Bool) : Int × Int := if (a && b) && decide (0 < rest) then (partOf rest 1 2, rest - partOf rest 1 2) else if a && !b then (rest, r) else (l, r + rest)
def wideV (R : Nat → Int) (room : Int) : Array Value := #[.int .i64 (cut (wideLR (edge R (cut room) 11 3) (edge R (cut room) 11 1) (wRest R (cut room)) (R 28 == 6) (R 24 == 6)).1), .int .i64 (cut (wWd R (cut room))), .int .i64 (cut (wideLR (edge R (cut room) 11 3) (edge R (cut room) 11 1) (wRest R (cut room)) (R 28 == 6) (R 24 == 6)).2)]
theorem rimX_bd (R : Nat → Int) (room : Int) : 0 ≤ rimX R room ∧ rimX R room ≤ 67108864 := by
  have h1 := edge_bd R room 19 3
  have h2 := edge_bd R room 19 1
  have h3 := edge_bd R room 15 3
  have h4 := edge_bd R room 15 1
  unfold rimX
  omega
set_option maxRecDepth 100000 in
set_option maxHeartbeats 1000000 in
theorem Wide_any (R : Nat → Int) (room : Int) (w : World) :
    Calls Try.prog 41 #[.agg (styA R), .int .i64 room] w fun e w' => e = .returned (.tuple (wideV R room)) ∧ Below w.heap.size w w' := by
  go_enter Try.func41, Try.ntmps41
  go_wp2_with (first | (go_at_call 28; refine (cut_any _ _).mono ?_; rintro e w' ⟨rfl, rfl⟩) | (refine wpList_load_sty rfl _ rfl w.heap.size rfl R (Blk.new w _ _) ?_) | fail)
  have f1 : Blk (w.alloc (.cells (styA R) 54)) w.heap.size 54 (styA R) := Blk.new w _ _
  have f0 : Below w.heap.size w (w.alloc (.cells (styA R) 54)) := by go_grown
  generalize w.alloc (.cells (styA R) 54) = wA at *
  generalize hc : cut room = c at *
  have Hc := hide hc
  clear hc
  refine (across_any R c wA).mono ?_
  rintro e w2 ⟨rfl, hb⟩
  have G1 := hide (f1.below hb f1.lt)
  have g0 := below_then f0 (Nat.le_refl _) hb
  have lt2 : w.heap.size < w2.heap.size := G1.out.lt
  clear hb f0 f1
  have hE1 : edgesA R c 11 = #[.int .i64 (edge R c 11 0), .int .i64 (edge R c 11 1), .int .i64 (edge R c 11 2), .int .i64 (edge R c 11 3)] := rfl
  rw [hE1]
  clear hE1
  have bd1 := edge_bd R c 11 1
  have bd3 := edge_bd R c 11 3
  generalize h0 : edge R c 11 0 = x0 at *
  generalize h1 : edge R c 11 1 = x1 at *
  generalize h2 : edge R c 11 2 = x2 at *
  generalize h3 : edge R c 11 3 = x3 at *
  have T1 := hide h1
  have T3 := hide h3
  clear h0 h1 h2 h3
  have brim := rimX_bd R c
  generalize hr : rimX R c = rim at *
  have Tr := hide hr
  clear hr
  have bc := cut_lo room
  have bc2 := cut_hi room
  rw [Hc.out] at bc bc2
  have N1 := hide (show Blk ((w2.alloc (.cells Try.zeroCells124 124)).alloc (.cells #[.int .i64 0, .int .i64 0, .int .i64 0, .int .i64 0] 58)) w2.heap.size 124 Try.zeroCells124 from (Blk.new w2 _ _).alloc _)
  have n2 : Blk ((w2.alloc (.cells Try.zeroCells124 124)).alloc (.cells #[.int .i64 0, .int .i64 0, .int .i64 0, .int .i64 0] 58)) (w2.heap.size + 1) 58 #[.int .i64 0, .int .i64 0, .int .i64 0, .int .i64 0] := by
    have := Blk.new (w2.alloc (.cells Try.zeroCells124 124)) 58 #[.int .i64 0, .int .i64 0, .int .i64 0, .int .i64 0]
    simpa using this
  have N2 := hide n2
  have N3 := hide (show Blk ((w2.alloc (.cells Try.zeroCells124 124)).alloc (.cells #[.int .i64 0, .int .i64 0, .int .i64 0, .int .i64 0] 58)) w.heap.size 54 (styA R) from (G1.out.alloc _).alloc _)
  have n0 : Below w.heap.size w ((w2.alloc (.cells Try.zeroCells124 124)).alloc (.cells #[.int .i64 0, .int .i64 0, .int .i64 0, .int .i64 0] 58)) := (g0.alloc g0.size _).alloc (by simp; omega) _
  clear n2 G1 g0
  go_wp2_with (first | (refine wpList_store_blk rfl 124 _ _ rfl w2.heap.size 124 Try.zeroCells124 (bndA R c rim true 5 7 9) rfl rfl N1.out (by rw [bndA_size, zero_bnd]) (bnd_i R c rim true 5 7 9) (bnd_one R c rim true 5 7 9) ?_; intro w3 hB3 hg3; have B1 := hide hB3; have B2 := hide (blk_grown N2.out hg3 (by omega)); have B3 := hide (blk_grown N3.out hg3 (by omega)); have b0 := below_grown n0 (Nat.le_refl _) hg3 (by omega); clear hB3 hg3) | (refine wpList_store_le rfl _ _ rfl (w2.heap.size + 1) 0 0 0 0 x0 x1 x2 x3 rfl rfl B2.out ?_; intro w4 hB4 hg4; have C2 := hide hB4; have C1 := hide (blk_grown B1.out hg4 (by omega)); have C3 := hide (blk_grown B3.out hg4 (by omega)); have c0 := below_grown b0 (Nat.le_refl _) hg4 (by omega); clear hB4 hg4 N1 N2 N3 n0 B1 B2 B3 b0; have k1 : w4.cell? ⟨w2.heap.size + 1, 1, none⟩ = some (.int .i64 x1) := C2.out.cell 1; have k3 : w4.cell? ⟨w2.heap.size + 1, 3, none⟩ = some (.int .i64 x3) := C2.out.cell 3; have k119 : w4.cell? ⟨w2.heap.size, 119, none⟩ = some (.int .i64 rim) := (C1.out.cell 119).trans (bndA_hi R c rim true 5 7 9 1 _ rfl)) | (refine wpList_load_row rfl 124 _ rfl w2.heap.size rfl 124 (bndA R c rim true 5 7 9) (0, 0) _ C1.out bnd_u rfl (bnd_i R c rim true 5 7 9) ?_) | fail)
  refine (told_any R c rim true 5 7 9 ⟨brim.1, by omega⟩ (by omega) (by omega) (by omega) _ w4).mono ?_
  rintro e w5 ⟨rfl, hb5⟩
  have d1 := (hb5.cell (cell_lt k1)).trans k1
  have d3 := (hb5.cell (cell_lt k3)).trans k3
  have d119 := (hb5.cell (cell_lt k119)).trans k119
  have h28 := (C3.out.cell 28).trans (styA_at R (by omega))
  have h24 := (C3.out.cell 24).trans (styA_at R (by omega))
  have d28 := (hb5.cell (cell_lt h28)).trans h28
  have d24 := (hb5.cell (cell_lt h24)).trans h24
  have c5 := below_then c0 (Nat.le_refl _) hb5
  clear hb5 k1 k3 k119 h28 h24 C1 C2 C3 c0
  have bw := told_bd R c rim true 5 7 9 brim.1 (c - x3 - x1 - rim)
  have E0 := hide (show wideV R room = (#[.int .i64 (cut (wideLR (edge R (cut room) 11 3) (edge R (cut room) 11 1) (wRest R (cut room)) (R 28 == 6) (R 24 == 6)).1), .int .i64 (cut (wWd R (cut room))), .int .i64 (cut (wideLR (edge R (cut room) 11 3) (edge R (cut room) 11 1) (wRest R (cut room)) (R 28 == 6) (R 24 == 6)).2)] : Array Value) from rfl)
  have E1 := hide (show wWd R c = toldOf R c rim true 5 7 9 (c - x3 - x1 - rim) from by rw [wWd, T1.out, T3.out, Tr.out])
  have E2 := hide (show wRest R c = c - wWd R c - rim - x3 - x1 from by rw [wRest, T1.out, T3.out, Tr.out])
  have E3 := hide (show wideV R room = (#[.int .i64 (cut (wideLR x3 x1 (wRest R c) (R 28 == 6) (R 24 == 6)).1), .int .i64 (cut (wWd R c)), .int .i64 (cut (wideLR x3 x1 (wRest R c) (R 28 == 6) (R 24 == 6)).2)] : Array Value) from by rw [E0.out, Hc.out, T1.out, T3.out])
  rw [← E1.out] at bw
  rw [← E1.out]
  clear E0 E1 T1 T3 Tr
  generalize wWd R c = wd at *
  generalize hrest : wRest R c = rest at *
  have hre := E2.out
  clear E2 hrest
  have br : -1000000000 ≤ rest ∧ rest ≤ 1000000000 := by omega
  have bp := partOf_bd rest 1 2
  subst hre
  cases hA : (R 28 == 6) <;> cases hB : (R 24 == 6)
  all_goals rw [hA, hB] at E3
  · have E4 := hide (show wideV R room = (#[.int .i64 (cut x3), .int .i64 (cut wd), .int .i64 (cut (x1 + (c - wd - rim - x3 - x1)))] : Array Value) from by rw [E3.out]; rfl)
    clear E3
    go_wp2_with fail
    go_quiet (fail)
    have k1 : (w5.drewN nq).cell? ⟨w2.heap.size + 1, 1, none⟩ = some (.int .i64 x1) := d1
    have k3 : (w5.drewN nq).cell? ⟨w2.heap.size + 1, 3, none⟩ = some (.int .i64 x3) := d3
    have c6 : Below w.heap.size w (w5.drewN nq) := below_drewN c5 nq
    clear c5 d1 d3 d119 d28 d24
    generalize w5.drewN nq = w6 at *
    go_wp2_with fail
    go_quiet (fail)
    have c7 : Below w.heap.size w (w6.drewN nq) := below_drewN c6 nq
    clear c6 k1 k3
    generalize w6.drewN nq = w7 at *
    go_wp2_with (first | (go_at_call 28; refine (cut_any _ _).mono ?_; rintro e w' ⟨rfl, rfl⟩) | (go_at_call 27; refine (part_any _ _ _ _ (by omega)).mono ?_; rintro e w' ⟨rfl, rfl⟩) | fail)
    refine bodyPost_ret (results_tmp3 rfl _ _ _) rfl ?_
    exact ⟨by rw [E4.out] <;> rfl, c7⟩
  · have E4 := hide (show wideV R room = (#[.int .i64 (cut x3), .int .i64 (cut wd), .int .i64 (cut (x1 + (c - wd - rim - x3 - x1)))] : Array Value) from by rw [E3.out]; rfl)
    clear E3
    go_wp2_with fail
    go_quiet (fail)
    have k1 : (w5.drewN nq).cell? ⟨w2.heap.size + 1, 1, none⟩ = some (.int .i64 x1) := d1
    have k3 : (w5.drewN nq).cell? ⟨w2.heap.size + 1, 3, none⟩ = some (.int .i64 x3) := d3
    have c6 : Below w.heap.size w (w5.drewN nq) := below_drewN c5 nq
    clear c5 d1 d3 d119 d28 d24
    generalize w5.drewN nq = w6 at *
    go_wp2_with fail
    go_quiet (fail)
    have c7 : Below w.heap.size w (w6.drewN nq) := below_drewN c6 nq
    clear c6 k1 k3
    generalize w6.drewN nq = w7 at *
    go_wp2_with (first | (go_at_call 28; refine (cut_any _ _).mono ?_; rintro e w' ⟨rfl, rfl⟩) | (go_at_call 27; refine (part_any _ _ _ _ (by omega)).mono ?_; rintro e w' ⟨rfl, rfl⟩) | fail)
    refine bodyPost_ret (results_tmp3 rfl _ _ _) rfl ?_
    exact ⟨by rw [E4.out] <;> rfl, c7⟩
  · have E4 := hide (show wideV R room = (#[.int .i64 (cut (c - wd - rim - x3 - x1)), .int .i64 (cut wd), .int .i64 (cut x1)] : Array Value) from by rw [E3.out]; rfl)
    clear E3
    go_wp2_with fail
    go_quiet (fail)
    have k1 : (w5.drewN nq).cell? ⟨w2.heap.size + 1, 1, none⟩ = some (.int .i64 x1) := d1
    have k3 : (w5.drewN nq).cell? ⟨w2.heap.size + 1, 3, none⟩ = some (.int .i64 x3) := d3
    have c6 : Below w.heap.size w (w5.drewN nq) := below_drewN c5 nq
    clear c5 d1 d3 d119 d28 d24
    generalize w5.drewN nq = w6 at *
    go_wp2_with fail
    go_quiet (fail)
    have c7 : Below w.heap.size w (w6.drewN nq) := below_drewN c6 nq
    clear c6 k1 k3
    generalize w6.drewN nq = w7 at *
    go_wp2_with (first | (go_at_call 28; refine (cut_any _ _).mono ?_; rintro e w' ⟨rfl, rfl⟩) | (go_at_call 27; refine (part_any _ _ _ _ (by omega)).mono ?_; rintro e w' ⟨rfl, rfl⟩) | fail)
    refine bodyPost_ret (results_tmp3 rfl _ _ _) rfl ?_
    exact ⟨by rw [E4.out] <;> rfl, c7⟩
  · go_wp2_with fail
    go_quiet (fail)
    have k1 : (w5.drewN nq).cell? ⟨w2.heap.size + 1, 1, none⟩ = some (.int .i64 x1) := d1
    have k3 : (w5.drewN nq).cell? ⟨w2.heap.size + 1, 3, none⟩ = some (.int .i64 x3) := d3
    have c6 : Below w.heap.size w (w5.drewN nq) := below_drewN c5 nq
    clear c5 d1 d3 d119 d28 d24
    generalize w5.drewN nq = w6 at *
    generalize hrr : c - wd - rim - x3 - x1 = rr at *
    have Trr := hide hrr
    clear hrr bw bc bc2
    cases hP : decide (0 < rr)
    · have E4 := hide (show wideV R room = (#[.int .i64 (cut x3), .int .i64 (cut wd), .int .i64 (cut (x1 + rr))] : Array Value) from by rw [E3.out]; simp only [wideLR, hP]; rfl)
      clear E3
      go_wp2_with fail
      go_quiet (fail)
      have c7 : Below w.heap.size w (w6.drewN nq) := below_drewN c6 nq
      clear c6 k1 k3
      generalize w6.drewN nq = w7 at *
      go_wp2_with (first | (go_at_call 28; refine (cut_any _ _).mono ?_; rintro e w' ⟨rfl, rfl⟩) | (go_at_call 27; refine (part_any _ _ _ _ (by omega)).mono ?_; rintro e w' ⟨rfl, rfl⟩) | fail)
      refine bodyPost_ret (results_tmp3 rfl _ _ _) rfl ?_
      exact ⟨by rw [E4.out] <;> rfl, c7⟩
    · have E4 := hide (show wideV R room = (#[.int .i64 (cut (partOf rr 1 2)), .int .i64 (cut wd), .int .i64 (cut (rr - partOf rr 1 2))] : Array Value) from by rw [E3.out]; simp only [wideLR, hP]; rfl)
      clear E3
      go_wp2_with fail
      go_quiet (fail)
      have c7 : Below w.heap.size w (w6.drewN nq) := below_drewN c6 nq
      clear c6 k1 k3
      generalize w6.drewN nq = w7 at *
      go_wp2_with (first | (go_at_call 28; refine (cut_any _ _).mono ?_; rintro e w' ⟨rfl, rfl⟩) | (go_at_call 27; refine (part_any _ _ _ _ (by omega)).mono ?_; rintro e w' ⟨rfl, rfl⟩) | fail)
      refine bodyPost_ret (results_tmp3 rfl _ _ _) rfl ?_
      exact ⟨by rw [E4.out] <;> rfl, c7⟩
end Go.Proofs.Ytadlabndbomgmaa
