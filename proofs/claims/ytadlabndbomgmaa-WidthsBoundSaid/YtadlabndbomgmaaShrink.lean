/- The walk of Shrink. -/
import Derived.BigQuiet
import Derived.Handy
import Derived.Deep.MidRow
import Derived.Deep.RegionHeld3
import Derived.Test.YtadlabndbomgmaaWide
namespace Go.Proofs.Ytadlabndbomgmaa
open Go.ChangeShapes Go.WideShapes Go.ChangeAt Go.RowKit
/-- As wide as what is in it. -/
def shV (R : Nat → Int) (c least most : Int) : Int := toldOf R c (rimX R c) true 5 7 9 (min most (max least (c - edge R c 11 3 - edge R c 11 1 - rimX R c)))
set_option maxRecDepth 100000 in
set_option maxHeartbeats 1000000 in
theorem Shrink_any (R : Nat → Int) (room least most : Int) (w : World) :
    Calls Try.prog 45 #[.agg (styA R), .int .i64 room, .int .i64 least, .int .i64 most] w fun e w' => e = .returned (.int .i64 (cut (shV R (cut room) (cut least) (cut most)))) ∧ Below w.heap.size w w' := by
  go_enter Try.func45, Try.ntmps45
  go_wp2_with (first | (go_at_call 28; refine (cut_any _ _).mono ?_; rintro e w' ⟨rfl, rfl⟩) | (refine wpList_load_sty rfl _ rfl w.heap.size rfl R (Blk.new w _ _) ?_) | fail)
  have f1 : Blk (w.alloc (.cells (styA R) 54)) w.heap.size 54 (styA R) := Blk.new w _ _
  have f0 : Below w.heap.size w (w.alloc (.cells (styA R) 54)) := by go_grown
  generalize w.alloc (.cells (styA R) 54) = wA at *
  generalize hc : cut room = c at *
  have Hc := hide hc
  clear hc
  refine (across_any R c wA).mono ?_
  rintro e w2 ⟨rfl, hb⟩
  have G1 := hide (f1.below hb f1.lt)
  have g0 := below_then f0 (Nat.le_refl _) hb
  have lt2 : w.heap.size < w2.heap.size := G1.out.lt
  clear hb f0 f1
  have hE1 : edgesA R c 11 = #[.int .i64 (edge R c 11 0), .int .i64 (edge R c 11 1), .int .i64 (edge R c 11 2), .int .i64 (edge R c 11 3)] := rfl
  rw [hE1]
  clear hE1
  have bd1 := edge_bd R c 11 1
  have bd3 := edge_bd R c 11 3
  generalize h0 : edge R c 11 0 = x0 at *
  generalize h1 : edge R c 11 1 = x1 at *
  generalize h2 : edge R c 11 2 = x2 at *
  generalize h3 : edge R c 11 3 = x3 at *
  have T1 := hide h1
  have T3 := hide h3
  clear h0 h1 h2 h3
  have brim := rimX_bd R c
  generalize hr : rimX R c = rim at *
  have Tr := hide hr
  clear hr
  have bc := cut_lo room
  have bc2 := cut_hi room
  rw [Hc.out] at bc bc2
  have N1 := hide (show Blk ((w2.alloc (.cells Try.zeroCells124 124)).alloc (.cells #[.int .i64 0, .int .i64 0, .int .i64 0, .int .i64 0] 58)) w2.heap.size 124 Try.zeroCells124 from (Blk.new w2 _ _).alloc _)
  have n2 : Blk ((w2.alloc (.cells Try.zeroCells124 124)).alloc (.cells #[.int .i64 0, .int .i64 0, .int .i64 0, .int .i64 0] 58)) (w2.heap.size + 1) 58 #[.int .i64 0, .int .i64 0, .int .i64 0, .int .i64 0] := by
    have := Blk.new (w2.alloc (.cells Try.zeroCells124 124)) 58 #[.int .i64 0, .int .i64 0, .int .i64 0, .int .i64 0]
    simpa using this
  have N2 := hide n2
  have N3 := hide (show Blk ((w2.alloc (.cells Try.zeroCells124 124)).alloc (.cells #[.int .i64 0, .int .i64 0, .int .i64 0, .int .i64 0] 58)) w.heap.size 54 (styA R) from (G1.out.alloc _).alloc _)
  have n0 : Below w.heap.size w ((w2.alloc (.cells Try.zeroCells124 124)).alloc (.cells #[.int .i64 0, .int .i64 0, .int .i64 0, .int .i64 0] 58)) := (g0.alloc g0.size _).alloc (by simp; omega) _
  clear n2 G1 g0
  go_wp2_with (first | (refine wpList_store_blk rfl 124 _ _ rfl w2.heap.size 124 Try.zeroCells124 (bndA R c rim true 5 7 9) rfl rfl N1.out (by rw [bndA_size, zero_bnd]) (bnd_i R c rim true 5 7 9) (bnd_one R c rim true 5 7 9) ?_; intro w3 hB3 hg3; have B1 := hide hB3; have B2 := hide (blk_grown N2.out hg3 (by omega)); have B3 := hide (blk_grown N3.out hg3 (by omega)); have b0 := below_grown n0 (Nat.le_refl _) hg3 (by omega); clear hB3 hg3) | (refine wpList_store_le rfl _ _ rfl (w2.heap.size + 1) 0 0 0 0 x0 x1 x2 x3 rfl rfl B2.out ?_; intro w4 hB4 hg4; have C2 := hide hB4; have C1 := hide (blk_grown B1.out hg4 (by omega)); have C3 := hide (blk_grown B3.out hg4 (by omega)); have c0 := below_grown b0 (Nat.le_refl _) hg4 (by omega); clear hB4 hg4 N1 N2 N3 n0 B1 B2 B3 b0; have k1 : w4.cell? ⟨w2.heap.size + 1, 1, none⟩ = some (.int .i64 x1) := C2.out.cell 1; have k3 : w4.cell? ⟨w2.heap.size + 1, 3, none⟩ = some (.int .i64 x3) := C2.out.cell 3; have k119 : w4.cell? ⟨w2.heap.size, 119, none⟩ = some (.int .i64 rim) := (C1.out.cell 119).trans (bndA_hi R c rim true 5 7 9 1 _ rfl)) | (refine wpList_load_row rfl 124 _ rfl w2.heap.size rfl 124 (bndA R c rim true 5 7 9) (0, 0) _ C1.out bnd_u rfl (bnd_i R c rim true 5 7 9) ?_) | fail)
  have hS0 : (fun w' => Blk w' w2.heap.size 124 (bndA R c rim true 5 7 9) ∧ Below w.heap.size w w') w4.drew := ⟨C1.out.drewN 1, below_drewN c0 1⟩
  clear k1 k3 k119 C1 C2 C3 c0
  refine wp_region_noPanic (wp_region_held_drew (S := (fun w' => Blk w' w2.heap.size 124 (bndA R c rim true 5 7 9) ∧ Below w.heap.size w w')) (by kernel_rfl) hS0 (fun hH => ?_))
  refine wpAnyH_take (i := 0) (v := .agg (bndA R c rim true 5 7 9)) rfl (by kernel_rfl) (by kernel_rfl) (by kernel_rfl) (fun _ _ _ h => h) (yieldsIf_load_blk rfl 124 _ rfl w2.heap.size rfl 124 _ _ (fun _ h => h.1) bnd_u rfl (bnd_i R c rim true 5 7 9)) hH ?_
  refine wpAnyH_take (i := 1) (v := .int .i64 most) rfl (by kernel_rfl) (by kernel_rfl) (by kernel_rfl) (fun _ _ _ h => h) (yieldsIf_move rfl _ rfl _ rfl) hH ?_
  refine wpAnyH_take (i := 3) (v := .int .i64 least) rfl (by kernel_rfl) (by kernel_rfl) (by kernel_rfl) (fun _ _ _ h => h) (yieldsIf_move rfl _ rfl _ rfl) hH ?_
  refine wpAnyH_take (i := 5) (v := .int .i64 (c - x3 - x1 - rim)) rfl (by kernel_rfl) (by kernel_rfl) (by kernel_rfl) (fun _ _ _ h => h) (yieldsIf_move rfl _ rfl _ rfl) hH ?_
  refine wpAnyH_ready (rs := [2]) (by kernel_rfl) (by simp) ?_
  refine AllReadyH.cons (o := { dst := some 32, op := Op.call { callee := Callee.value (Operand.func 28), args := #[Operand.tmp 31], argTypes := #[3] }, type := 3, pos := "widths.go:80", after := #[{ on := 1, ground := Ground.data }], guard := none }) rfl (fun K2 hK2 => ?_) AllReadyH.nil
  rw [if_pos]
  rotate_left
  · rfl
  go_wp2_with (first | (go_at_call 28; refine (cut_any _ _).mono ?_; rintro e w' ⟨rfl, rfl⟩) | fail)
  refine hK2.out _ _ hH (fun hH => ?_)
  refine wpAnyH_ready (rs := [4]) (by kernel_rfl) (by simp) ?_
  refine AllReadyH.cons (o := { dst := some 34, op := Op.call { callee := Callee.value (Operand.func 28), args := #[Operand.tmp 33], argTypes := #[3] }, type := 3, pos := "widths.go:80", after := #[{ on := 3, ground := Ground.data }, { on := 2, ground := Ground.chain }], guard := none }) rfl (fun K4 hK4 => ?_) AllReadyH.nil
  rw [if_pos]
  rotate_left
  · rfl
  go_wp2_with (first | (go_at_call 28; refine (cut_any _ _).mono ?_; rintro e w' ⟨rfl, rfl⟩) | fail)
  refine hK4.out _ _ hH (fun hH => ?_)
  refine wpAnyH_ready (rs := [6]) (by kernel_rfl) (by simp) ?_
  refine AllReadyH.cons (o := { dst := some 36, op := Op.call { callee := Callee.builtin Builtin.max, args := #[Operand.tmp 34, Operand.tmp 35], argTypes := #[3, 3] }, type := 3, pos := "widths.go:80", after := #[{ on := 4, ground := Ground.data }, { on := 5, ground := Ground.data }], guard := none }) rfl (fun K6 hK6 => ?_) AllReadyH.nil
  rw [if_pos]
  rotate_left
  · rfl
  go_wp2_with fail
  refine hK6.out _ _ hH (fun hH => ?_)
  refine wpAnyH_ready (rs := [7]) (by kernel_rfl) (by simp) ?_
  refine AllReadyH.cons (o := { dst := some 37, op := Op.call { callee := Callee.builtin Builtin.min, args := #[Operand.tmp 32, Operand.tmp 36], argTypes := #[3, 3] }, type := 3, pos := "widths.go:80", after := #[{ on := 2, ground := Ground.data }, { on := 6, ground := Ground.data }], guard := none }) rfl (fun K7 hK7 => ?_) AllReadyH.nil
  rw [if_pos]
  rotate_left
  · rfl
  go_wp2_with fail
  refine hK7.out _ _ hH (fun hH => ?_)
  refine wpAnyH_ready (rs := [8]) (by kernel_rfl) (by simp) ?_
  refine AllReadyH.cons (o := { dst := some 38, op := Op.call { callee := Callee.value (Operand.func 78), args := #[Operand.tmp 30, Operand.tmp 37], argTypes := #[124, 3] }, type := 3, pos := "widths.go:80", after := #[{ on := 0, ground := Ground.data }, { on := 7, ground := Ground.data }, { on := 4, ground := Ground.chain }], guard := none }) rfl (fun K8 hK8 => ?_) AllReadyH.nil
  rw [if_pos]
  rotate_left
  · rfl
  go_wp2_with (first | (go_at_call 78; refine (told_any R c rim true 5 7 9 ⟨brim.1, by omega⟩ (by omega) (by omega) (by omega) _ _).mono ?_; rintro e w8 ⟨rfl, hb⟩) | fail)
  have hH8 := (⟨hH.1.below hb hH.1.lt, below_then hH.2 (Nat.le_refl _) hb⟩ : Blk w8 w2.heap.size 124 (bndA R c rim true 5 7 9) ∧ Below w.heap.size w w8)
  clear hb hH hS0
  refine hK8.out _ _ hH8 (fun _ => ?_)
  refine wpAnyH_ready (rs := [9]) (by kernel_rfl) (by simp) ?_
  refine AllReadyH.cons (o := { dst := some 39, op := Op.call { callee := Callee.value (Operand.func 28), args := #[Operand.tmp 38], argTypes := #[3] }, type := 3, pos := "widths.go:80", after := #[{ on := 8, ground := Ground.data }, { on := 8, ground := Ground.chain }], guard := none }) rfl (fun K9 hK9 => ?_) AllReadyH.nil
  rw [if_pos]
  rotate_left
  · rfl
  go_wp2_with (first | (go_at_call 28; refine (cut_any _ _).mono ?_; rintro e w' ⟨rfl, rfl⟩) | fail)
  refine hK9.out _ _ hH8 (fun _ => ?_)
  refine wpAnyH_ready (rs := [10]) (by kernel_rfl) (by simp) ?_
  refine AllReadyH.cons (o := { dst := some 8, op := Op.assign (Operand.tmp 39), type := 3, pos := "widths.go:80", after := #[{ on := 9, ground := Ground.data }, { on := 9, ground := Ground.chain }, { on := 0, ground := Ground.phase }, { on := 1, ground := Ground.phase }, { on := 2, ground := Ground.phase }, { on := 3, ground := Ground.phase }, { on := 4, ground := Ground.phase }, { on := 5, ground := Ground.phase }, { on := 6, ground := Ground.phase }, { on := 7, ground := Ground.phase }, { on := 8, ground := Ground.phase }, { on := 9, ground := Ground.phase }], guard := none }) rfl (fun K10 hK10 => ?_) AllReadyH.nil
  rw [if_pos]
  rotate_left
  · rfl
  go_wp2_with fail
  refine hK10.out _ _ hH8 (fun _ => ?_)
  refine wpAnyH_done (by kernel_rfl) (NoPanic.normal ?_) _
  have c8 := hH8.2
  clear hH8 hK10 hK9 hK8 hK7 hK6 hK4 hK2
  go_wp2_with fail
  go_ret
  exact ⟨ret_int (by rw [shV, Hc.out, T1.out, T3.out, Tr.out]), c8⟩
end Go.Proofs.Ytadlabndbomgmaa
