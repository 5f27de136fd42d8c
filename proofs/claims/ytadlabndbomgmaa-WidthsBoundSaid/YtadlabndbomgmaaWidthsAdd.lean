/- The walk of WidthsAdd. -/
import Derived.BigQuiet
import Derived.Handy
import Derived.Deep.MidRow
import Derived.Deep.RegionHeld3
import Derived.Test.YtadlabndbomgmaaWide
namespace Go.Proofs.Ytadlabndbomgmaa
open Go.ChangeShapes Go.WideShapes Go.ChangeAt Go.RowKit
/-- The style of the closed fact wide. -/
def Rw : Nat → Int := fun j => if j = 10 then 2 else if j = 11 then 40 else if j = 28 then 6 else if j = 24 then 6 else 0
theorem Rw_is : ((((((Try.zeroCells54.setIfInBounds 10 (.int .i64 2)).setIfInBounds 11 (.int .i64 40)).setIfInBounds 28 (.int .i64 6)).setIfInBounds 29 (.int .i64 0)).setIfInBounds 24 (.int .i64 6)).setIfInBounds 25 (.int .i64 0)) = styA Rw := by kernel_rfl
theorem Rw_wide : wideV Rw 100 = #[.int .i64 30, .int .i64 40, .int .i64 30] := by kernel_rfl
set_option maxRecDepth 100000 in
set_option maxHeartbeats 1000000 in
theorem wide_any (w : World) : Calls Try.prog 43 #[] w fun e w' => e = .returned (.bool true) ∧ Below w.heap.size w w' := by
  go_enter Try.func43, Try.ntmps43
  go_wp2_with fail
  rw [Rw_is]
  refine (Wide_any Rw 100 w).mono ?_
  rintro e w2 ⟨rfl, hb⟩
  rw [Rw_wide]
  go_wp2
  go_ret
  exact ⟨rfl, hb⟩
set_option maxRecDepth 100000 in
set_option maxHeartbeats 1000000 in
theorem inside_any (xs : Nat → Int) (g : Nat) (w : World) (hg : ∀ j, j < 4 → w.cell? ⟨g, j, none⟩ = some (.int .i64 (xs j))) : Calls Try.prog 44 #[.slice (some ⟨g, 0, none⟩) 4 4] w fun e w' => ∃ b, e = .returned (.bool b) ∧ (b = true → ∀ j, j < 4 → -16777216 < xs j ∧ xs j < 16777216) ∧ w = w' := by
  have HG := hide hg
  clear hg
  go_enter Try.func44, Try.ntmps44
  go_wp2_with fail
  go_loopw [7] (fun i wr => ∃ k : Nat, k ≤ 4 ∧ i = .int .i64 k ∧ (∀ j, j < k → -16777216 < xs j ∧ xs j < 16777216) ∧ wr = w) (fun i _ => 4 - (intOf i).toNat)
  case atStart => exact ⟨0, by omega, rfl, by omega, rfl⟩
  case round =>
    obtain ⟨k, hk, rfl, hall, rfl⟩ := hrel
    have Hall := hide hall
    clear hall
    by_cases hlt : k < 4
    · have hc := HG.out k hlt
      by_cases hin : -16777216 < xs k ∧ xs k < 16777216
      · obtain ⟨i1, i2⟩ := hin
        go_wp2_with fail
        go_roundw
        case rel => exact ⟨k + 1, by omega, by go_num, fun j hj => by rcases Nat.lt_or_ge j k with h | h; · exact Hall.out j h
                                                                      · obtain rfl : j = k := by omega
                                                                        exact ⟨i1, i2⟩, trivial⟩
        case measure => simp [intOf]; omega
      · have : xs k ≤ -16777216 ∨ 16777216 ≤ xs k := by omega
        go_wp2_with fail
        all_goals go_ret
        all_goals (first | exact .inl ⟨rfl, rfl⟩ | exact ⟨false, rfl, (fun h => by cases h), rfl⟩)
    · have hk2 : k = 4 := by omega
      subst hk2
      go_wp2
      go_ret
      exact ⟨true, rfl, fun _ => Hall.out, rfl⟩
def xs4 (a b c d : Int) (j : Nat) : Int := if j = 0 then a else if j = 1 then b else if j = 2 then c else d
theorem cut_strict {n m : Int} (h : cut n = m) (h1 : -16777216 < m) (h2 : m < 16777216) : n = m := by unfold cut at h; omega
/-- Margins, rim and width are the room together. -/
theorem add_law (R : Nat → Int) (room L M N : Int)
    (hL : cut (wideLR (edge R (cut room) 11 3) (edge R (cut room) 11 1) (wRest R (cut room)) (R 28 == 6) (R 24 == 6)).1 = L) (hM : cut (wWd R (cut room)) = M)
    (hN : cut (wideLR (edge R (cut room) 11 3) (edge R (cut room) 11 1) (wRest R (cut room)) (R 28 == 6) (R 24 == 6)).2 = N)
    (r0 : -16777216 < L ∧ L < 16777216) (r1 : -16777216 < M ∧ M < 16777216) (r2 : -16777216 < N ∧ N < 16777216) (r3 : -16777216 < room ∧ room < 16777216) :
    L + M + N + max 0 (edge R room 19 3) + max 0 (edge R room 19 1) + max 0 (edge R room 15 3) + max 0 (edge R room 15 1) = room := by
  have hc : cut room = room := cut_of (by omega) (by omega)
  rw [hc] at hL hM hN
  have kM := cut_strict hM r1.1 r1.2
  have kL := cut_strict hL r0.1 r0.2
  have kN := cut_strict hN r2.1 r2.2
  have hr : wRest R room = room - wWd R room - rimX R room - edge R room 11 3 - edge R room 11 1 := rfl
  have hx : rimX R room = max 0 (edge R room 19 3) + max 0 (edge R room 19 1) + max 0 (edge R room 15 3) + max 0 (edge R room 15 1) := rfl
  have h3 : (R 28 == 6) = true → edge R room 11 3 = 0 := fun h => by
    have h' : R 28 = 6 := by simpa using h
    show ofN (R 28) (R 29) room = 0
    rw [h']; rfl
  have h1 : (R 24 == 6) = true → edge R room 11 1 = 0 := fun h => by
    have h' : R 24 = 6 := by simpa using h
    show ofN (R 24) (R 25) room = 0
    rw [h']; rfl
  unfold wideLR at kL kN
  cases hA : (R 28 == 6) <;> cases hB : (R 24 == 6) <;> simp only [hA, hB] at kL kN h3 h1
  · simp at kL kN; omega
  · simp at kL kN; omega
  · simp at kL kN; have := h3 trivial; omega
  · have := h3 trivial
    have := h1 trivial
    by_cases hp : 0 < wRest R room
    · simp [hp] at kL kN; omega
    · simp [hp] at kL kN; omega
set_option maxRecDepth 100000 in
set_option maxHeartbeats 1000000 in
theorem widthsAdd_any (R : Nat → Int) (room : Int) (w : World) : Calls Try.prog 9 #[.agg (styA R), .int .i64 room] w fun e w' => e = .returned (.bool true) ∧ Below w.heap.size w w' := by
  go_enter Try.func9, Try.ntmps9
  go_wp2_with (first | (refine wpList_load_sty rfl _ rfl w.heap.size rfl R (Blk.new w _ _) ?_) | fail)
  have f1 : Blk (w.alloc (.cells (styA R) 54)) w.heap.size 54 (styA R) := Blk.new w _ _
  have f0 : Below w.heap.size w (w.alloc (.cells (styA R) 54)) := by go_grown
  generalize w.alloc (.cells (styA R) 54) = wA at *
  refine (Wide_any R room wA).mono ?_
  rintro e w2 ⟨rfl, hb⟩
  have G1 := hide (f1.below hb f1.lt)
  have g0 := below_then f0 (Nat.le_refl _) hb
  clear hb f0 f1
  have hV : wideV R room = #[.int .i64 (cut (wideLR (edge R (cut room) 11 3) (edge R (cut room) 11 1) (wRest R (cut room)) (R 28 == 6) (R 24 == 6)).1), .int .i64 (cut (wWd R (cut room))), .int .i64 (cut (wideLR (edge R (cut room) 11 3) (edge R (cut room) 11 1) (wRest R (cut room)) (R 28 == 6) (R 24 == 6)).2)] := rfl
  rw [hV]
  clear hV
  generalize hL : cut (wideLR (edge R (cut room) 11 3) (edge R (cut room) 11 1) (wRest R (cut room)) (R 28 == 6) (R 24 == 6)).1 = L at *
  generalize hM : cut (wWd R (cut room)) = M at *
  generalize hN : cut (wideLR (edge R (cut room) 11 3) (edge R (cut room) 11 1) (wRest R (cut room)) (R 28 == 6) (R 24 == 6)).2 = N at *
  have TL := hide hL
  have TM := hide hM
  have TN := hide hN
  clear hL hM hN
  go_wp2_with (first | (refine wpList_load_sty rfl _ rfl w.heap.size rfl R G1.out ?_) | fail)
  refine (Frame_any R room w2).mono ?_
  rintro e w3 ⟨rfl, hb⟩
  have g3 := below_then g0 (Nat.le_refl _) hb
  have lt2 := G1.out.lt
  clear hb g0 G1
  have E1 := hide (show edgesA R room 11 = #[.int .i64 (edge R room 11 0), .int .i64 (edge R room 11 1), .int .i64 (edge R room 11 2), .int .i64 (edge R room 11 3)] from rfl)
  rw [E1.out]
  clear E1
  generalize hx0 : edge R room 11 0 = x0 at *
  have Tx0 := hide hx0
  clear hx0
  generalize hx1 : edge R room 11 1 = x1 at *
  have Tx1 := hide hx1
  clear hx1
  generalize hx2 : edge R room 11 2 = x2 at *
  have Tx2 := hide hx2
  clear hx2
  generalize hx3 : edge R room 11 3 = x3 at *
  have Tx3 := hide hx3
  clear hx3
  generalize hy0 : edge R room 19 0 = y0 at *
  have Ty0 := hide hy0
  clear hy0
  generalize hy1 : edge R room 19 1 = y1 at *
  have Ty1 := hide hy1
  clear hy1
  generalize hy2 : edge R room 19 2 = y2 at *
  have Ty2 := hide hy2
  clear hy2
  generalize hy3 : edge R room 19 3 = y3 at *
  have Ty3 := hide hy3
  clear hy3
  generalize hz0 : edge R room 15 0 = z0 at *
  have Tz0 := hide hz0
  clear hz0
  generalize hz1 : edge R room 15 1 = z1 at *
  have Tz1 := hide hz1
  clear hz1
  generalize hz2 : edge R room 15 2 = z2 at *
  have Tz2 := hide hz2
  clear hz2
  generalize hz3 : edge R room 15 3 = z3 at *
  have Tz3 := hide hz3
  clear hz3
  have by1 := Ty1.out ▸ edge_bd R room 19 1
  have by3 := Ty3.out ▸ edge_bd R room 19 3
  have bz1 := Tz1.out ▸ edge_bd R room 15 1
  have bz3 := Tz3.out ▸ edge_bd R room 15 3
  have bM : 0 ≤ M := by rw [← TM.out]; exact cut_nonneg (told_bd R _ _ true 5 7 9 (rimX_bd R _).1 _).1
  go_wp2_with fail
  have n1 : Blk (((w3.alloc (.cells #[.int .i64 x0, .int .i64 x1, .int .i64 x2, .int .i64 x3] 58)).alloc (.cells #[.int .i64 (max 0 y0), .int .i64 (max 0 y1), .int .i64 (max 0 y2), .int .i64 (max 0 y3)] 58)).alloc (.cells #[.int .i64 (max 0 z0), .int .i64 (max 0 z1), .int .i64 (max 0 z2), .int .i64 (max 0 z3)] 58)) (w3.heap.size + 1) 58 #[.int .i64 (max 0 y0), .int .i64 (max 0 y1), .int .i64 (max 0 y2), .int .i64 (max 0 y3)] := by
    have := (Blk.new (w3.alloc (.cells #[.int .i64 x0, .int .i64 x1, .int .i64 x2, .int .i64 x3] 58)) 58 #[.int .i64 (max 0 y0), .int .i64 (max 0 y1), .int .i64 (max 0 y2), .int .i64 (max 0 y3)]).alloc (.cells #[.int .i64 (max 0 z0), .int .i64 (max 0 z1), .int .i64 (max 0 z2), .int .i64 (max 0 z3)] 58)
    simpa using this
  have n2 : Blk (((w3.alloc (.cells #[.int .i64 x0, .int .i64 x1, .int .i64 x2, .int .i64 x3] 58)).alloc (.cells #[.int .i64 (max 0 y0), .int .i64 (max 0 y1), .int .i64 (max 0 y2), .int .i64 (max 0 y3)] 58)).alloc (.cells #[.int .i64 (max 0 z0), .int .i64 (max 0 z1), .int .i64 (max 0 z2), .int .i64 (max 0 z3)] 58)) (w3.heap.size + 1 + 1) 58 #[.int .i64 (max 0 z0), .int .i64 (max 0 z1), .int .i64 (max 0 z2), .int .i64 (max 0 z3)] := by
    have := Blk.new ((w3.alloc (.cells #[.int .i64 x0, .int .i64 x1, .int .i64 x2, .int .i64 x3] 58)).alloc (.cells #[.int .i64 (max 0 y0), .int .i64 (max 0 y1), .int .i64 (max 0 y2), .int .i64 (max 0 y3)] 58)) 58 #[.int .i64 (max 0 z0), .int .i64 (max 0 z1), .int .i64 (max 0 z2), .int .i64 (max 0 z3)]
    simpa using this
  have n0 : Below w.heap.size w (((w3.alloc (.cells #[.int .i64 x0, .int .i64 x1, .int .i64 x2, .int .i64 x3] 58)).alloc (.cells #[.int .i64 (max 0 y0), .int .i64 (max 0 y1), .int .i64 (max 0 y2), .int .i64 (max 0 y3)] 58)).alloc (.cells #[.int .i64 (max 0 z0), .int .i64 (max 0 z1), .int .i64 (max 0 z2), .int .i64 (max 0 z3)] 58)) := ((g3.alloc g3.size _).alloc (by simp; have := g3.size; omega) _).alloc (by simp; have := g3.size; omega) _
  generalize (((w3.alloc (.cells #[.int .i64 x0, .int .i64 x1, .int .i64 x2, .int .i64 x3] 58)).alloc (.cells #[.int .i64 (max 0 y0), .int .i64 (max 0 y1), .int .i64 (max 0 y2), .int .i64 (max 0 y3)] 58)).alloc (.cells #[.int .i64 (max 0 z0), .int .i64 (max 0 z1), .int .i64 (max 0 z2), .int .i64 (max 0 z3)] 58)) = w5 at *
  refine (wide_any _).mono ?_
  rintro e w4 ⟨rfl, hb⟩
  have k1 : w4.cell? ⟨w3.heap.size + 1, 1, none⟩ = some (.int .i64 (max 0 y1)) := (n1.below hb n1.lt).cell 1
  have k3 : w4.cell? ⟨w3.heap.size + 1, 3, none⟩ = some (.int .i64 (max 0 y3)) := (n1.below hb n1.lt).cell 3
  have l1 : w4.cell? ⟨w3.heap.size + 1 + 1, 1, none⟩ = some (.int .i64 (max 0 z1)) := (n2.below hb n2.lt).cell 1
  have l3 : w4.cell? ⟨w3.heap.size + 1 + 1, 3, none⟩ = some (.int .i64 (max 0 z3)) := (n2.below hb n2.lt).cell 3
  have c4 := below_then n0 (Nat.le_refl _) hb
  have lt4 := (n2.below hb n2.lt).lt
  clear hb n1 n2 n0 g3
  go_wp2_with fail
  have hg : ∀ j, j < 4 → (w4.alloc (.cells #[.int .i64 L, .int .i64 M, .int .i64 N, .int .i64 room] 3)).cell? ⟨w4.heap.size, j, none⟩ = some (.int .i64 (xs4 L M N room j)) := fun j hj => by
    have hb : Blk (w4.alloc (.cells #[.int .i64 L, .int .i64 M, .int .i64 N, .int .i64 room] 3)) w4.heap.size 3 #[.int .i64 L, .int .i64 M, .int .i64 N, .int .i64 room] := Blk.new w4 _ _
    have hj' : j = 0 ∨ j = 1 ∨ j = 2 ∨ j = 3 := by omega
    rcases hj' with rfl | rfl | rfl | rfl
    · exact hb.cell 0
    · exact hb.cell 1
    · exact hb.cell 2
    · exact hb.cell 3
  have c5 : Below w.heap.size w (w4.alloc (.cells #[.int .i64 L, .int .i64 M, .int .i64 N, .int .i64 room] 3)) := c4.alloc c4.size _
  have m1 := (World.cell?_alloc_lt w4 (.cells #[.int .i64 L, .int .i64 M, .int .i64 N, .int .i64 room] 3) _ (cell_lt k1)).trans k1
  have m3 := (World.cell?_alloc_lt w4 (.cells #[.int .i64 L, .int .i64 M, .int .i64 N, .int .i64 room] 3) _ (cell_lt k3)).trans k3
  have p1 := (World.cell?_alloc_lt w4 (.cells #[.int .i64 L, .int .i64 M, .int .i64 N, .int .i64 room] 3) _ (cell_lt l1)).trans l1
  have p3 := (World.cell?_alloc_lt w4 (.cells #[.int .i64 L, .int .i64 M, .int .i64 N, .int .i64 room] 3) _ (cell_lt l3)).trans l3
  clear k1 k3 l1 l3 c4
  generalize w4.alloc (.cells #[.int .i64 L, .int .i64 M, .int .i64 N, .int .i64 room] 3) = w6 at *
  refine (inside_any (xs4 L M N room) _ w6 hg).mono ?_
  rintro e w7 ⟨b, rfl, hb, rfl⟩
  clear hg
  cases b
  · clear hb
    go_wp2_with fail
    go_ret
    exact ⟨rfl, c5⟩
  · have hall := hb rfl
    have r0 : -16777216 < L ∧ L < 16777216 := hall 0 (by omega)
    have r1 : -16777216 < M ∧ M < 16777216 := hall 1 (by omega)
    have r2 : -16777216 < N ∧ N < 16777216 := hall 2 (by omega)
    have r3 : -16777216 < room ∧ room < 16777216 := hall 3 (by omega)
    clear hb hall
    have hsum : L + M + N + max 0 y3 + max 0 y1 + max 0 z3 + max 0 z1 = room := by
      have := add_law R room L M N TL.out TM.out TN.out r0 r1 r2 r3
      rw [Ty1.out, Ty3.out, Tz1.out, Tz3.out] at this
      exact this
    clear TL TM TN Tx0 Tx1 Tx2 Tx3 Ty0 Ty1 Ty2 Ty3 Tz0 Tz1 Tz2 Tz3
    have H := hide hsum
    clear hsum
    go_wp2_with fail
    go_ret
    exact ⟨ret_bool (by simpa using H.out), c5⟩
end Go.Proofs.Ytadlabndbomgmaa
