/- Walks: across, Wide, Shrink. -/
import Derived.BigQuiet
import Derived.Handy
import Derived.Deep.MidRow
import Derived.Deep.RegionHeld3
import Derived.Test.YtadlabndbomgmaaBounds
namespace Go.Proofs.Ytadlabndbomgmaa
open Go.ChangeShapes Go.WideShapes Go.ChangeAt Go.RowKit
theorem edge_bd (R : Nat → Int) (room : Int) (p j : Nat) : -16777216 ≤ edge R room p j ∧ edge R room p j ≤ 16777216 := ofN_bd _ _ _
/-- The rim about a block, across. -/
def rimX (R : Nat → Int) (room : Int) : Int := max 0 (edge R room 19 3) + max 0 (edge R room 19 1) + max 0 (edge R room 15 3) + max 0 (edge R room 15 1)
theorem zero_bnd : Try.zeroCells124.size = 124 := by kernel_rfl
theorem bnd_one (R : Nat → Int) (room rim : Int) (pt : Bool) (sz le mo : Int) : (bndA R room rim pt sz le mo).all (·.oneCell') = true := by
  rw [Array.all_eq_true_iff_forall_mem]
  intro v hv
  simp only [bndA, styA, Array.mem_append, List.mem_toArray, List.mem_map] at hv
  rcases hv with ⟨j, _, rfl⟩ | hv
  · simp [Value.oneCell']
  · simp at hv; rcases hv with rfl | rfl | rfl | rfl | rfl | rfl <;> simp [Value.oneCell']
theorem bnd_built (R : Nat → Int) (room rim : Int) : Try.prog.built 124 [(0, .agg (styA R)), (1, .int .i64 room), (2, .int .i64 rim), (3, .bool true), (4, .int .i64 5), (5, .int .i64 7), (6, .int .i64 9)] = some (bndA R room rim true 5 7 9) := by kernel_rfl
set_option maxRecDepth 100000 in
set_option maxHeartbeats 1000000 in
theorem across_any (R : Nat → Int) (room : Int) (w : World) :
    Calls Try.prog 77 #[.agg (styA R), .int .i64 room] w fun e w' => e = .returned (.tuple #[.agg (bndA R room (rimX R room) true 5 7 9), .agg (edgesA R room 11)]) ∧ Below w.heap.size w w' := by
  go_enter Try.func77, Try.ntmps77
  go_wp2_with (first | (refine wpList_load_sty rfl _ rfl w.heap.size rfl R (((Blk.new w _ _).alloc _).alloc _) ?_) | fail)
  have f1 : Blk (((w.alloc (.cells (styA R) 54)).alloc (.cells Try.zeroCells124 124)).alloc (.cells #[.int .i64 0, .int .i64 0, .int .i64 0, .int .i64 0] 58)) w.heap.size 54 (styA R) := ((Blk.new w _ _).alloc _).alloc _
  have f2 : Blk (((w.alloc (.cells (styA R) 54)).alloc (.cells Try.zeroCells124 124)).alloc (.cells #[.int .i64 0, .int .i64 0, .int .i64 0, .int .i64 0] 58)) (w.heap.size + 1) 124 Try.zeroCells124 := by
    have := (Blk.new (w.alloc (.cells (styA R) 54)) 124 Try.zeroCells124).alloc (.cells #[.int .i64 0, .int .i64 0, .int .i64 0, .int .i64 0] 58)
    simpa using this
  have f3 : Blk (((w.alloc (.cells (styA R) 54)).alloc (.cells Try.zeroCells124 124)).alloc (.cells #[.int .i64 0, .int .i64 0, .int .i64 0, .int .i64 0] 58)) (w.heap.size + 1 + 1) 58 #[.int .i64 0, .int .i64 0, .int .i64 0, .int .i64 0] := by
    have := Blk.new ((w.alloc (.cells (styA R) 54)).alloc (.cells Try.zeroCells124 124)) 58 #[.int .i64 0, .int .i64 0, .int .i64 0, .int .i64 0]
    simpa using this
  have f0 : Below w.heap.size w (((w.alloc (.cells (styA R) 54)).alloc (.cells Try.zeroCells124 124)).alloc (.cells #[.int .i64 0, .int .i64 0, .int .i64 0, .int .i64 0] 58)) := by go_grown
  have F1 := hide f1
  have F2 := hide f2
  have F3 := hide f3
  clear f1 f2 f3
  generalize (((w.alloc (.cells (styA R) 54)).alloc (.cells Try.zeroCells124 124)).alloc (.cells #[.int .i64 0, .int .i64 0, .int .i64 0, .int .i64 0] 58)) = wA at *
  refine (Frame_any R room wA).mono ?_
  rintro e w2 ⟨rfl, hb⟩
  have G1 := hide (F1.out.below hb F1.out.lt)
  have G2 := hide (F2.out.below hb F2.out.lt)
  have G3 := hide (F3.out.below hb F3.out.lt)
  have g0 := below_then f0 (Nat.le_refl _) hb
  have hs := hb.size
  have hA := F3.out.lt
  clear hb F1 F2 F3 f0
  have bd := edge_bd R room
  generalize hy0 : edge R room 19 0 = y0 at *
  have Ty0 := hide hy0
  clear hy0
  generalize hy1 : edge R room 19 1 = y1 at *
  have Ty1 := hide hy1
  clear hy1
  generalize hy2 : edge R room 19 2 = y2 at *
  have Ty2 := hide hy2
  clear hy2
  generalize hy3 : edge R room 19 3 = y3 at *
  have Ty3 := hide hy3
  clear hy3
  generalize hz0 : edge R room 15 0 = z0 at *
  have Tz0 := hide hz0
  clear hz0
  generalize hz1 : edge R room 15 1 = z1 at *
  have Tz1 := hide hz1
  clear hz1
  generalize hz2 : edge R room 15 2 = z2 at *
  have Tz2 := hide hz2
  clear hz2
  generalize hz3 : edge R room 15 3 = z3 at *
  have Tz3 := hide hz3
  clear hz3
  have E1 := hide (show edgesA R room 11 = #[.int .i64 (edge R room 11 0), .int .i64 (edge R room 11 1), .int .i64 (edge R room 11 2), .int .i64 (edge R room 11 3)] from rfl)
  rw [E1.out]
  generalize edge R room 11 0 = x0 at *
  generalize edge R room 11 1 = x1 at *
  generalize edge R room 11 2 = x2 at *
  generalize edge R room 11 3 = x3 at *
  have by1 := Ty1.out ▸ bd 19 1
  have by3 := Ty3.out ▸ bd 19 3
  have bz1 := Tz1.out ▸ bd 15 1
  have bz3 := Tz3.out ▸ bd 15 3
  clear bd
  go_wp2_with fail
  have hrim : rimX R room = max 0 y3 + max 0 y1 + max 0 z3 + max 0 z1 := by rw [rimX, Ty3.out, Ty1.out, Tz3.out, Tz1.out]
  rw [← hrim]
  have Hrim := hide hrim
  clear hrim by1 by3 bz1 bz3 Ty0 Ty1 Ty2 Ty3 Tz0 Tz1 Tz2 Tz3
  generalize hr0 : rimX R room = rim at *
  have Hr0 := hide hr0
  clear hr0
  have n1 : Blk (((w2.alloc (.cells #[.int .i64 x0, .int .i64 x1, .int .i64 x2, .int .i64 x3] 58)).alloc (.cells #[.int .i64 (max 0 y0), .int .i64 (max 0 y1), .int .i64 (max 0 y2), .int .i64 (max 0 y3)] 58)).alloc (.cells #[.int .i64 (max 0 z0), .int .i64 (max 0 z1), .int .i64 (max 0 z2), .int .i64 (max 0 z3)] 58)) w2.heap.size 58 #[.int .i64 x0, .int .i64 x1, .int .i64 x2, .int .i64 x3] := ((Blk.new w2 _ _).alloc _).alloc _
  have n2 := (((G1.out).alloc (.cells #[.int .i64 x0, .int .i64 x1, .int .i64 x2, .int .i64 x3] 58)).alloc (.cells #[.int .i64 (max 0 y0), .int .i64 (max 0 y1), .int .i64 (max 0 y2), .int .i64 (max 0 y3)] 58)).alloc (.cells #[.int .i64 (max 0 z0), .int .i64 (max 0 z1), .int .i64 (max 0 z2), .int .i64 (max 0 z3)] 58)
  have n3 := (((G2.out).alloc (.cells #[.int .i64 x0, .int .i64 x1, .int .i64 x2, .int .i64 x3] 58)).alloc (.cells #[.int .i64 (max 0 y0), .int .i64 (max 0 y1), .int .i64 (max 0 y2), .int .i64 (max 0 y3)] 58)).alloc (.cells #[.int .i64 (max 0 z0), .int .i64 (max 0 z1), .int .i64 (max 0 z2), .int .i64 (max 0 z3)] 58)
  have n4 := (((G3.out).alloc (.cells #[.int .i64 x0, .int .i64 x1, .int .i64 x2, .int .i64 x3] 58)).alloc (.cells #[.int .i64 (max 0 y0), .int .i64 (max 0 y1), .int .i64 (max 0 y2), .int .i64 (max 0 y3)] 58)).alloc (.cells #[.int .i64 (max 0 z0), .int .i64 (max 0 z1), .int .i64 (max 0 z2), .int .i64 (max 0 z3)] 58)
  have n0 := (((g0).alloc g0.size (.cells #[.int .i64 x0, .int .i64 x1, .int .i64 x2, .int .i64 x3] 58)).alloc (by simp; have := g0.size; omega) (.cells #[.int .i64 (max 0 y0), .int .i64 (max 0 y1), .int .i64 (max 0 y2), .int .i64 (max 0 y3)] 58)).alloc (by simp; have := g0.size; omega) (.cells #[.int .i64 (max 0 z0), .int .i64 (max 0 z1), .int .i64 (max 0 z2), .int .i64 (max 0 z3)] 58)
  generalize ((w2.alloc (.cells #[.int .i64 x0, .int .i64 x1, .int .i64 x2, .int .i64 x3] 58)).alloc (.cells #[.int .i64 (max 0 y0), .int .i64 (max 0 y1), .int .i64 (max 0 y2), .int .i64 (max 0 y3)] 58)).alloc (.cells #[.int .i64 (max 0 z0), .int .i64 (max 0 z1), .int .i64 (max 0 z2), .int .i64 (max 0 z3)] 58) = w3 at *
  have ha : w.heap.size + 1 + 1 < w2.heap.size := by omega
  have hS0 : (fun w' => Blk w' w.heap.size 54 (styA R) ∧ Blk w' w2.heap.size 58 #[.int .i64 x0, .int .i64 x1, .int .i64 x2, .int .i64 x3]) w3.drew := ⟨n2.drewN 1, n1.drewN 1⟩
  refine wp_region_noPanic (wp_region_held_drew (S := fun w' => Blk w' w.heap.size 54 (styA R) ∧ Blk w' w2.heap.size 58 #[.int .i64 x0, .int .i64 x1, .int .i64 x2, .int .i64 x3]) (by kernel_rfl) hS0 (fun hH => ?_))
  refine wpAnyH_take (i := 0) (v := .agg (styA R)) rfl (by kernel_rfl) (by kernel_rfl) (by kernel_rfl) (fun _ _ _ h => h) (yieldsIf_load_blk rfl 54 _ rfl w.heap.size rfl 54 (styA R) _ (fun _ h => h.1) sty_u rfl (sty_i R)) hH ?_
  refine wpAnyH_take (i := 1) (v := .int .i64 room) rfl (by kernel_rfl) (by kernel_rfl) (by kernel_rfl) (fun _ _ _ h => h) (yieldsIf_move rfl _ rfl _ rfl) hH ?_
  refine wpAnyH_take (i := 2) (v := .int .i64 rim) rfl (by kernel_rfl) (by kernel_rfl) (by kernel_rfl) (fun _ _ _ h => h) (yieldsIf_move rfl _ rfl _ rfl) hH ?_
  refine wpAnyH_take (i := 3) (v := .agg (bndA R room rim true 5 7 9)) rfl (by kernel_rfl) (by kernel_rfl) (by kernel_rfl) (fun _ _ _ h => h) (yieldsIf_build rfl 124 _ rfl [(0, .agg (styA R)), (1, .int .i64 room), (2, .int .i64 rim), (3, .bool true), (4, .int .i64 5), (5, .int .i64 7), (6, .int .i64 9)] rfl _ (bnd_built R room rim)) hH ?_
  refine wpAnyH_take (i := 4) (v := .agg #[.int .i64 x0, .int .i64 x1, .int .i64 x2, .int .i64 x3]) rfl (by kernel_rfl) (by kernel_rfl) (by kernel_rfl) (fun _ _ _ h => h) (yieldsIf_load_blk rfl 58 _ rfl w2.heap.size rfl 58 _ _ (fun _ h => h.2) le_u rfl (le_i x0 x1 x2 x3)) hH ?_
  have N3 : Blk w3.drew (w.heap.size + 1) 124 Try.zeroCells124 := n3.drewN 1
  have N4 : Blk w3.drew (w.heap.size + 1 + 1) 58 #[.int .i64 0, .int .i64 0, .int .i64 0, .int .i64 0] := n4.drewN 1
  refine wpAnyH_ready (rs := [5]) (by kernel_rfl) (by simp) ?_
  refine AllReadyH.cons (o := { dst := none, op := Op.store 124 (Operand.tmp 4) (Operand.tmp 31), type := 0, pos := "widths.go:52", after := #[{ on := 3, ground := Ground.data }, { on := 0, ground := Ground.phase }, { on := 1, ground := Ground.phase }, { on := 2, ground := Ground.phase }, { on := 3, ground := Ground.phase }, { on := 4, ground := Ground.textOnly Departure.lateStores }], guard := none }) rfl (fun K' hK => ?_) AllReadyH.nil
  rw [if_pos]
  rotate_left
  · rfl
  with_reducible refine wp_store_blk 124 (Operand.tmp 4) (Operand.tmp 31) ?ho (w.heap.size + 1) 124 Try.zeroCells124 (bndA R room rim true 5 7 9) ?hx ?hy N3 ?hs ?hi ?h1 ?h
  case ho => rfl
  case hx => rfl
  case hy => rfl
  case hs => rw [bndA_size, zero_bnd]
  case hi => exact bnd_i R room rim true 5 7 9
  case h1 => exact bnd_one R room rim true 5 7 9
  intro w4 hB4 hg4
  have ha : w.heap.size + 1 + 1 < w2.heap.size := by omega
  refine hK.out _ _ ⟨blk_grown hH.1 hg4 (by omega), blk_grown hH.2 hg4 (by omega)⟩ (fun hH4 => ?_)
  refine wpAnyH_ready (rs := [6]) (by kernel_rfl) (by simp) ?_
  refine AllReadyH.cons (o := { dst := none, op := Op.store 58 (Operand.tmp 5) (Operand.tmp 32), type := 0, pos := "widths.go:52", after := #[{ on := 4, ground := Ground.data }, { on := 5, ground := Ground.chain }, { on := 0, ground := Ground.phase }, { on := 1, ground := Ground.phase }, { on := 2, ground := Ground.phase }, { on := 3, ground := Ground.phase }, { on := 4, ground := Ground.phase }, { on := 5, ground := Ground.phase }], guard := none }) rfl (fun K2 hK2 => ?_) AllReadyH.nil
  rw [if_pos]
  rotate_left
  · rfl
  with_reducible refine wp_store_blk 58 (Operand.tmp 5) (Operand.tmp 32) ?hob (w.heap.size + 1 + 1) 58 #[.int .i64 0, .int .i64 0, .int .i64 0, .int .i64 0] #[.int .i64 x0, .int .i64 x1, .int .i64 x2, .int .i64 x3] ?hxb ?hyb (blk_grown N4 hg4 (by omega)) ?hsb ?hib ?h1b ?hb
  case hob => rfl
  case hxb => rfl
  case hyb => rfl
  case hsb => rfl
  case hib => exact le_i x0 x1 x2 x3
  case h1b => simp [Value.oneCell']
  intro w5 hB5 hg5
  refine hK2.out _ _ ⟨blk_grown hH4.1 hg5 (by omega), blk_grown hH4.2 hg5 (by omega)⟩ (fun hH5 => ?_)
  refine wpAnyH_done (by kernel_rfl) (NoPanic.normal ?_) _
  have C4 := hide (blk_grown hB4 hg5 (by omega))
  have C5 := hide hB5
  have c0 := below_grown (below_grown (below_drewN n0 1) (Nat.le_refl _) hg4 (by omega)) (Nat.le_refl _) hg5 (by omega)
  clear hH5 hH4 hH hK hK2 hg4 hg5 hB4 hB5 n0 n1 n2 n3 n4 hS0
  go_wp2_with fail
  have hr : ∀ tmps : Array Value, tmps.getD 4 undef = .pointer (some ⟨w.heap.size + 1, 0, none⟩) → tmps.getD 5 undef = .pointer (some ⟨w.heap.size + 1 + 1, 0, none⟩) → (results Try.f77 tmps).run Try.prog w5 = .ok (.tuple #[.agg (bndA R room rim true 5 7 9), .agg #[.int .i64 x0, .int .i64 x1, .int .i64 x2, .int .i64 x3]]) w5 := fun tmps h1 h2 =>
    results_rows2 rfl tmps w5 (w.heap.size + 1) (w.heap.size + 1 + 1) 124 58 (bndA R room rim true 5 7 9) #[.int .i64 x0, .int .i64 x1, .int .i64 x2, .int .i64 x3] _ _ h1 h2 C4.out C5.out bnd_u rfl (bnd_i R room rim true 5 7 9) le_u rfl (le_i x0 x1 x2 x3)
  with_reducible refine bodyPost_ret (hr _ ?q1 ?q2) ?q3 ?q4
  case q1 => rfl
  case q2 => rfl
  case q3 => rfl
  case q4 => exact ⟨by rw [E1.out, Hr0.out], c0⟩
end Go.Proofs.Ytadlabndbomgmaa
