/- Walks: margins.above, Frame$1, Frame. -/
import Derived.BigQuiet
import Derived.Handy
import Derived.Deep.MidRow
import Derived.Test.YtdnnodpkgncegaaDoorOpen
import Derived.Test.YtdnnodpkgncegaaDoorStyle
namespace Go.Proofs.YtdnnodpkgncegaaDoor
open Go.ChangeShapes Go.WideShapes Go.ChangeAt Go.RowKit
theorem sty_u : Tryd.prog.underlying 44 = some (.array 59 42) := by kernel_rfl
theorem sty_i (R : Nat → Int) : (Tryd.prog.info? 44).map (·.size) = some (styA R).size := by rw [styA_size]; kernel_rfl
theorem le_u : Tryd.prog.underlying 48 = some (.struct (Tryd.prog.fieldsOf 48)) := by kernel_rfl
theorem le_i (a b c d : Int) : (Tryd.prog.info? 48).map (·.size) = some (#[Value.int .i64 a, .int .i64 b, .int .i64 c, .int .i64 d] : Array Value).size := by kernel_rfl
theorem wpList_load_sty {ops : Array Oper} {rest : List Oper} {o : Oper} {a : Act} {w : World} {Q : Exit → Act → World → Prop} (hgd : o.guard = none) (x : Operand) (ho : o.op = .load 44 x)
    (g : Nat) (hx : a.eval x = .pointer (some ⟨g, 0, none⟩)) (R : Nat → Int) (hg : Blk w g 44 (styA R))
    (h : wpList Tryd.prog ops Q rest (a.put o.dst (.agg (styA R))) w) : wpList Tryd.prog ops Q (o :: rest) a w :=
  wpList_load_row hgd 44 x ho g hx _ (styA R) (0, 0) _ hg sty_u rfl (sty_i R) h
/-- A struct of four that a call gave is stored into its block. -/
theorem wpList_store_le {ops : Array Oper} {rest : List Oper} {op : Oper} {a : Act} {w : World} {Q : Exit → Act → World → Prop} (hgd : op.guard = none) (x y : Operand) (ho : op.op = .store 48 x y)
    (g : Nat) (c1 c2 c3 c4 d1 d2 d3 d4 : Int) (hx : a.eval x = .pointer (some ⟨g, 0, none⟩)) (hy : a.eval y = .agg #[.int .i64 d1, .int .i64 d2, .int .i64 d3, .int .i64 d4]) (hb : Blk w g 48 #[.int .i64 c1, .int .i64 c2, .int .i64 c3, .int .i64 c4])
    (h : ∀ w', Blk w' g 48 #[.int .i64 d1, .int .i64 d2, .int .i64 d3, .int .i64 d4] → w.grownBy w' (some g) → wpList Tryd.prog ops Q rest (a.put op.dst undef) w') : wpList Tryd.prog ops Q (op :: rest) a w :=
  wpList_store_blk hgd 48 x y ho g _ _ _ hx hy hb rfl (le_i d1 d2 d3 d4) (by simp [Value.oneCell']) h
set_option maxRecDepth 100000 in
set_option maxHeartbeats 2000000 in
theorem above_any (a b c d : Int) (w : World) :
    Calls Tryd.prog 25 #[.agg #[.int .i64 a, .int .i64 b, .int .i64 c, .int .i64 d]] w fun e w' => e = .returned (.agg #[.int .i64 (max 0 a), .int .i64 (max 0 b), .int .i64 (max 0 c), .int .i64 (max 0 d)]) ∧ Below w.heap.size w w' := by
  have hs : (w.alloc (.cells #[.int .i64 a, .int .i64 b, .int .i64 c, .int .i64 d] 48)).heap.size = w.heap.size + 1 := by simp
  go_enter Tryd.func25, Tryd.ntmps25
  go_wp2_with fail
  have B := Blk.new (w.alloc (.cells #[.int .i64 a, .int .i64 b, .int .i64 c, .int .i64 d] 48)) 48 #[.int .i64 (max 0 a), .int .i64 (max 0 b), .int .i64 (max 0 c), .int .i64 (max 0 d)]
  rw [hs] at B
  refine bodyPost_ret (results_cell_row rfl _ _ (w.heap.size + 1) 48 #[.int .i64 (max 0 a), .int .i64 (max 0 b), .int .i64 (max 0 c), .int .i64 (max 0 d)] (0, 0) _ rfl B le_u rfl (le_i _ _ _ _)) rfl ?_
  exact ⟨rfl, by go_grown⟩
set_option maxRecDepth 100000 in
set_option maxHeartbeats 2000000 in
theorem Frame1_any (R : Nat → Int) (room : Int) (p : Nat) (hp : p + 3 < 59) (w : World) (b1 b2 : Nat) (h1 : Blk w b1 44 (styA R)) (h2 : w.cell? ⟨b2, 0, none⟩ = some (.int .i64 room)) :
    Calls Tryd.prog 23 #[.int .i64 p, .pointer (some ⟨b1, 0, none⟩), .pointer (some ⟨b2, 0, none⟩)] w fun e w' => e = .returned (.agg (edgesA R room p)) ∧ Below w.heap.size w w' := by
  have H1 := hide h1
  clear h1
  have hb2 := cell_lt h2
  go_enter Tryd.func23, Tryd.ntmps23
  go_wp2_with (first | (refine wpList_load_sty rfl _ rfl b1 rfl R (H1.out.alloc _) ?_) | fail)
  refine (Edges_any' R room p hp _).mono ?_
  rintro e w3 ⟨rfl, hb3⟩
  have k1 := (Blk.new w 48 #[.int .i64 0, .int .i64 0, .int .i64 0, .int .i64 0]).below hb3 (by simp)
  have k2 := ((Below.refl w.heap.size w).alloc (Nat.le_refl _) (.cells #[.int .i64 0, .int .i64 0, .int .i64 0, .int .i64 0] 48))
  have k3 := below_on k2 hb3
  have K1 := hide k1
  clear k1 hb3 k2 H1
  have E1 := hide (show edgesA R room p = #[.int .i64 (edge R room p 0), .int .i64 (edge R room p 1), .int .i64 (edge R room p 2), .int .i64 (edge R room p 3)] from rfl)
  rw [E1.out]
  generalize edge R room p 0 = x0 at *
  generalize edge R room p 1 = x1 at *
  generalize edge R room p 2 = x2 at *
  generalize edge R room p 3 = x3 at *
  go_wp2_with (first | (refine wpList_store_le rfl _ _ rfl w.heap.size 0 0 0 0 x0 x1 x2 x3 rfl rfl K1.out ?_; intro w4 hB4 hg4) | fail)
  refine bodyPost_ret (results_cell_row rfl _ _ w.heap.size 48 _ (0, 0) _ rfl hB4 le_u rfl (le_i _ _ _ _)) rfl ?_
  exact ⟨by rw [E1.out], below_grown k3 (Nat.le_refl _) hg4 (Nat.le_refl _)⟩
set_option maxRecDepth 100000 in
set_option maxHeartbeats 2000000 in
theorem Frame_any (R : Nat → Int) (room : Int) (w : World) :
    Calls Tryd.prog 14 #[.agg (styA R), .int .i64 room] w fun e w' => e = .returned (.tuple #[.agg (edgesA R room 11), .agg #[.int .i64 (max 0 (edge R room 19 0)), .int .i64 (max 0 (edge R room 19 1)), .int .i64 (max 0 (edge R room 19 2)), .int .i64 (max 0 (edge R room 19 3))], .agg #[.int .i64 (max 0 (edge R room 15 0)), .int .i64 (max 0 (edge R room 15 1)), .int .i64 (max 0 (edge R room 15 2)), .int .i64 (max 0 (edge R room 15 3))]]) ∧ Below w.heap.size w w' := by
  go_enter Tryd.func14, Tryd.ntmps14
  go_wp2_with fail
  have f1 : Blk (((((w.alloc (.cells (styA R) 44)).alloc (.cells #[.int .i64 room] 3)).alloc (.cells #[.int .i64 0, .int .i64 0, .int .i64 0, .int .i64 0] 48)).alloc (.cells #[.int .i64 0, .int .i64 0, .int .i64 0, .int .i64 0] 48)).alloc (.cells #[.int .i64 0, .int .i64 0, .int .i64 0, .int .i64 0] 48)) w.heap.size 44 (styA R) := ((((Blk.new w _ _).alloc _).alloc _).alloc _).alloc _
  have f2' : Blk (((((w.alloc (.cells (styA R) 44)).alloc (.cells #[.int .i64 room] 3)).alloc (.cells #[.int .i64 0, .int .i64 0, .int .i64 0, .int .i64 0] 48)).alloc (.cells #[.int .i64 0, .int .i64 0, .int .i64 0, .int .i64 0] 48)).alloc (.cells #[.int .i64 0, .int .i64 0, .int .i64 0, .int .i64 0] 48)) (w.heap.size + 1) 3 #[.int .i64 room] := by
    have := (((Blk.new (w.alloc (.cells (styA R) 44)) 3 #[.int .i64 room]).alloc (.cells #[.int .i64 0, .int .i64 0, .int .i64 0, .int .i64 0] 48)).alloc (.cells #[.int .i64 0, .int .i64 0, .int .i64 0, .int .i64 0] 48)).alloc (.cells #[.int .i64 0, .int .i64 0, .int .i64 0, .int .i64 0] 48)
    simpa using this
  have f2 : (((((w.alloc (.cells (styA R) 44)).alloc (.cells #[.int .i64 room] 3)).alloc (.cells #[.int .i64 0, .int .i64 0, .int .i64 0, .int .i64 0] 48)).alloc (.cells #[.int .i64 0, .int .i64 0, .int .i64 0, .int .i64 0] 48)).alloc (.cells #[.int .i64 0, .int .i64 0, .int .i64 0, .int .i64 0] 48)).cell? ⟨w.heap.size + 1, 0, none⟩ = some (.int .i64 room) := f2'.cell 0
  clear f2'
  have f3 : Blk (((((w.alloc (.cells (styA R) 44)).alloc (.cells #[.int .i64 room] 3)).alloc (.cells #[.int .i64 0, .int .i64 0, .int .i64 0, .int .i64 0] 48)).alloc (.cells #[.int .i64 0, .int .i64 0, .int .i64 0, .int .i64 0] 48)).alloc (.cells #[.int .i64 0, .int .i64 0, .int .i64 0, .int .i64 0] 48)) (w.heap.size + 1 + 1) 48 #[.int .i64 0, .int .i64 0, .int .i64 0, .int .i64 0] := by
    have := ((Blk.new ((w.alloc (.cells (styA R) 44)).alloc (.cells #[.int .i64 room] 3)) 48 #[.int .i64 0, .int .i64 0, .int .i64 0, .int .i64 0]).alloc (.cells #[.int .i64 0, .int .i64 0, .int .i64 0, .int .i64 0] 48)).alloc (.cells #[.int .i64 0, .int .i64 0, .int .i64 0, .int .i64 0] 48)
    simpa using this
  have f4 : Blk (((((w.alloc (.cells (styA R) 44)).alloc (.cells #[.int .i64 room] 3)).alloc (.cells #[.int .i64 0, .int .i64 0, .int .i64 0, .int .i64 0] 48)).alloc (.cells #[.int .i64 0, .int .i64 0, .int .i64 0, .int .i64 0] 48)).alloc (.cells #[.int .i64 0, .int .i64 0, .int .i64 0, .int .i64 0] 48)) (w.heap.size + 1 + 1 + 1) 48 #[.int .i64 0, .int .i64 0, .int .i64 0, .int .i64 0] := by
    have := (Blk.new (((w.alloc (.cells (styA R) 44)).alloc (.cells #[.int .i64 room] 3)).alloc (.cells #[.int .i64 0, .int .i64 0, .int .i64 0, .int .i64 0] 48)) 48 #[.int .i64 0, .int .i64 0, .int .i64 0, .int .i64 0]).alloc (.cells #[.int .i64 0, .int .i64 0, .int .i64 0, .int .i64 0] 48)
    simpa using this
  have f5 : Blk (((((w.alloc (.cells (styA R) 44)).alloc (.cells #[.int .i64 room] 3)).alloc (.cells #[.int .i64 0, .int .i64 0, .int .i64 0, .int .i64 0] 48)).alloc (.cells #[.int .i64 0, .int .i64 0, .int .i64 0, .int .i64 0] 48)).alloc (.cells #[.int .i64 0, .int .i64 0, .int .i64 0, .int .i64 0] 48)) (w.heap.size + 1 + 1 + 1 + 1) 48 #[.int .i64 0, .int .i64 0, .int .i64 0, .int .i64 0] := by
    have := (Blk.new ((((w.alloc (.cells (styA R) 44)).alloc (.cells #[.int .i64 room] 3)).alloc (.cells #[.int .i64 0, .int .i64 0, .int .i64 0, .int .i64 0] 48)).alloc (.cells #[.int .i64 0, .int .i64 0, .int .i64 0, .int .i64 0] 48)) 48 #[.int .i64 0, .int .i64 0, .int .i64 0, .int .i64 0])
    simpa using this
  have f0 : Below w.heap.size w (((((w.alloc (.cells (styA R) 44)).alloc (.cells #[.int .i64 room] 3)).alloc (.cells #[.int .i64 0, .int .i64 0, .int .i64 0, .int .i64 0] 48)).alloc (.cells #[.int .i64 0, .int .i64 0, .int .i64 0, .int .i64 0] 48)).alloc (.cells #[.int .i64 0, .int .i64 0, .int .i64 0, .int .i64 0] 48)) := by go_grown
  have F1 := hide f1
  have F2 := hide f2
  have F3 := hide f3
  have F4 := hide f4
  have F5 := hide f5
  clear f1 f2 f3 f4 f5
  have s5 : (((((w.alloc (.cells (styA R) 44)).alloc (.cells #[.int .i64 room] 3)).alloc (.cells #[.int .i64 0, .int .i64 0, .int .i64 0, .int .i64 0] 48)).alloc (.cells #[.int .i64 0, .int .i64 0, .int .i64 0, .int .i64 0] 48)).alloc (.cells #[.int .i64 0, .int .i64 0, .int .i64 0, .int .i64 0] 48)).heap.size = w.heap.size + 5 := by simp
  generalize (((((w.alloc (.cells (styA R) 44)).alloc (.cells #[.int .i64 room] 3)).alloc (.cells #[.int .i64 0, .int .i64 0, .int .i64 0, .int .i64 0] 48)).alloc (.cells #[.int .i64 0, .int .i64 0, .int .i64 0, .int .i64 0] 48)).alloc (.cells #[.int .i64 0, .int .i64 0, .int .i64 0, .int .i64 0] 48)) = w5 at *
  refine (Frame1_any R room 11 (by omega) w5 _ _ F1.out F2.out).mono ?_
  rintro e w6 ⟨rfl, hb6⟩
  have G1 := hide (F1.out.below hb6 F1.out.lt)
  have G2 := hide ((hb6.cell (cell_lt F2.out)).trans F2.out)
  have G3 := hide (F3.out.below hb6 F3.out.lt)
  have G4 := hide (F4.out.below hb6 F4.out.lt)
  have G5 := hide (F5.out.below hb6 F5.out.lt)
  have g0 := below_then f0 (Nat.le_refl _) hb6
  have s6 := hb6.size
  clear hb6 F1 F2 F3 F4 F5 f0
  go_wp2_with fail
  refine (Frame1_any R room 19 (by omega) w6 _ _ G1.out G2.out).mono ?_
  rintro e w7 ⟨rfl, hb7⟩
  have H1 := hide (G1.out.below hb7 G1.out.lt)
  have H2 := hide ((hb7.cell (cell_lt G2.out)).trans G2.out)
  have H3 := hide (G3.out.below hb7 G3.out.lt)
  have H4 := hide (G4.out.below hb7 G4.out.lt)
  have H5 := hide (G5.out.below hb7 G5.out.lt)
  have h0 := below_then g0 (Nat.le_refl _) hb7
  have s7 := hb7.size
  clear hb7 G1 G2 G3 G4 G5 g0
  go_wp2_with fail
  refine (above_any (edge R room 19 0) (edge R room 19 1) (edge R room 19 2) (edge R room 19 3) w7).mono ?_
  rintro e w8 ⟨rfl, hb8⟩
  have I1 := hide (H1.out.below hb8 H1.out.lt)
  have I2 := hide ((hb8.cell (cell_lt H2.out)).trans H2.out)
  have I3 := hide (H3.out.below hb8 H3.out.lt)
  have I4 := hide (H4.out.below hb8 H4.out.lt)
  have I5 := hide (H5.out.below hb8 H5.out.lt)
  have i0 := below_then h0 (Nat.le_refl _) hb8
  have s8 := hb8.size
  clear hb8 H1 H2 H3 H4 H5 h0
  generalize hy0 : edge R room 19 0 = y0 at *
  have Ty0 := hide hy0
  clear hy0
  generalize hy1 : edge R room 19 1 = y1 at *
  have Ty1 := hide hy1
  clear hy1
  generalize hy2 : edge R room 19 2 = y2 at *
  have Ty2 := hide hy2
  clear hy2
  generalize hy3 : edge R room 19 3 = y3 at *
  have Ty3 := hide hy3
  clear hy3
  go_wp2_with fail
  refine (Frame1_any R room 15 (by omega) w8 _ _ I1.out I2.out).mono ?_
  rintro e w9 ⟨rfl, hb9⟩
  have J3 := hide (I3.out.below hb9 I3.out.lt)
  have J4 := hide (I4.out.below hb9 I4.out.lt)
  have J5 := hide (I5.out.below hb9 I5.out.lt)
  have j0 := below_then i0 (Nat.le_refl _) hb9
  have s9 := hb9.size
  clear hb9 I1 I2 I3 I4 I5 i0
  go_wp2_with fail
  refine (above_any (edge R room 15 0) (edge R room 15 1) (edge R room 15 2) (edge R room 15 3) w9).mono ?_
  rintro e w10 ⟨rfl, hb10⟩
  have K3 := hide (J3.out.below hb10 J3.out.lt)
  have K4 := hide (J4.out.below hb10 J4.out.lt)
  have K5 := hide (J5.out.below hb10 J5.out.lt)
  have k0 := below_then j0 (Nat.le_refl _) hb10
  have s10 := hb10.size
  clear hb10 J3 J4 J5 j0
  generalize hz0 : edge R room 15 0 = z0 at *
  have Tz0 := hide hz0
  clear hz0
  generalize hz1 : edge R room 15 1 = z1 at *
  have Tz1 := hide hz1
  clear hz1
  generalize hz2 : edge R room 15 2 = z2 at *
  have Tz2 := hide hz2
  clear hz2
  generalize hz3 : edge R room 15 3 = z3 at *
  have Tz3 := hide hz3
  clear hz3
  have E1 := hide (show edgesA R room 11 = #[.int .i64 (edge R room 11 0), .int .i64 (edge R room 11 1), .int .i64 (edge R room 11 2), .int .i64 (edge R room 11 3)] from rfl)
  rw [E1.out]
  generalize edge R room 11 0 = x0 at *
  generalize edge R room 11 1 = x1 at *
  generalize edge R room 11 2 = x2 at *
  generalize edge R room 11 3 = x3 at *
  go_wp2_with (first | (refine wpList_store_le rfl _ _ rfl (w.heap.size + 1 + 1) 0 0 0 0 x0 x1 x2 x3 rfl rfl K3.out ?_; intro w11 hB11 hg11; have L4 := hide (blk_grown K4.out hg11 (by omega)); have L5 := hide (blk_grown K5.out hg11 (by omega)); have l0 := below_grown k0 (Nat.le_refl _) hg11 (by omega); have B11 := hide hB11; clear hB11 hg11) | (refine wpList_store_le rfl _ _ rfl (w.heap.size + 1 + 1 + 1) 0 0 0 0 (max 0 y0) (max 0 y1) (max 0 y2) (max 0 y3) rfl rfl L4.out ?_; intro w12 hB12 hg12; have C11 := hide (blk_grown B11.out hg12 (by omega)); have M5 := hide (blk_grown L5.out hg12 (by omega)); have m0 := below_grown l0 (Nat.le_refl _) hg12 (by omega); have B12 := hide hB12; clear hB12 hg12) | (refine wpList_store_le rfl _ _ rfl (w.heap.size + 1 + 1 + 1 + 1) 0 0 0 0 (max 0 z0) (max 0 z1) (max 0 z2) (max 0 z3) rfl rfl M5.out ?_; intro w13 hB13 hg13; have D11 := hide (blk_grown C11.out hg13 (by omega)); have C12 := hide (blk_grown B12.out hg13 (by omega)); have n0 := below_grown m0 (Nat.le_refl _) hg13 (by omega); have B13 := hide hB13; clear hB13 hg13) | fail)
  refine bodyPost_ret (results_rows3 rfl _ _ (w.heap.size + 1 + 1) (w.heap.size + 1 + 1 + 1) (w.heap.size + 1 + 1 + 1 + 1) 48 48 48 _ _ _ _ rfl rfl rfl D11.out C12.out B13.out le_u rfl (le_i _ _ _ _) (le_i _ _ _ _) (le_i _ _ _ _)) rfl ?_
  exact ⟨by rw [E1.out, Ty0.out, Ty1.out, Ty2.out, Ty3.out, Tz0.out, Tz1.out, Tz2.out, Tz3.out], n0⟩
end Go.Proofs.YtdnnodpkgncegaaDoor
