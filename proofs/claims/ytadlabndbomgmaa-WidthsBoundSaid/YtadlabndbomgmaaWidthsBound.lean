/- The walk of WidthsBound. -/
import Derived.BigQuiet
import Derived.Handy
import Derived.Deep.MidRow
import Derived.Deep.RegionHeld3
import Derived.Test.YtadlabndbomgmaaShrink
import Derived.Test.YtadlabndbomgmaaWidthsAdd
namespace Go.Proofs.Ytadlabndbomgmaa
open Go.ChangeShapes Go.WideShapes Go.ChangeAt Go.RowKit
/-- The style, its box told by its content. -/
def cbR (R : Nat → Int) : Nat → Int := fun j => if j = 9 then 0 else R j
theorem cbR_is (R : Nat → Int) : (styA R).setIfInBounds 9 (.int .i64 0) = styA (cbR R) := by
  apply Array.ext_getElem?
  intro j
  rw [Array.getElem?_setIfInBounds]
  by_cases hj : j < 118
  · rw [styA_at _ hj]
    by_cases h9 : 9 = j
    · subst h9; rw [if_pos rfl, if_pos (by rw [styA_size]; omega)]; rfl
    · rw [if_neg h9, styA_at _ hj]; unfold cbR; rw [if_neg (fun e => h9 e.symm)]
  · rw [if_neg (by omega), Array.getElem?_eq_none (by rw [styA_size]; omega), Array.getElem?_eq_none (by rw [styA_size]; omega)]
theorem bN_is (R : Nat → Int) (h9 : R 9 = 0) (c rim : Int) (p : Nat) : bN R c rim true p = max 0 (ofN (R (p * 2)) (R (p * 2 + 1)) c) ∧ bIs R true p = ofB (R (p * 2)) := by
  have hb : bIs R true p = ofB (R (p * 2)) := by simp [bIs]
  refine ⟨?_, hb⟩
  unfold bN
  rw [hb]
  have : (R 9 == 1) = false := by rw [h9]; rfl
  simp only [this, Bool.false_eq_true, if_false]
  split
  · rfl
  · rename_i hn
    have : ofN (R (p * 2)) (R (p * 2 + 1)) c = 0 := by
      unfold ofN ofB at *
      simp only [Bool.or_eq_true, beq_iff_eq, not_or] at hn
      rw [if_neg hn.1, if_neg hn.2]
    rw [this]; rfl
theorem bound_law (R : Nat → Int) (h9 : R 9 = 0) (c rim x : Int) :
    max 0 (ofN (R 14) (R 15) c) ≤ cut (toldOf R c rim true 5 7 9 x) ∧ (ofB (R 18) = true → cut (toldOf R c rim true 5 7 9 x) ≤ max 0 (max (ofN (R 14) (R 15) c) (ofN (R 18) (R 19) c))) := by
  have h7 := bN_is R h9 c rim 7
  have h9' := bN_is R h9 c rim 9
  have b7 := ofN_bd (R 14) (R 15) c
  have b9 := ofN_bd (R 18) (R 19) c
  have key : ∀ y, max 0 (ofN (R 14) (R 15) c) ≤ cut (boundOf R c rim true 7 9 y) ∧ (ofB (R 18) = true → cut (boundOf R c rim true 7 9 y) ≤ max 0 (max (ofN (R 14) (R 15) c) (ofN (R 18) (R 19) c))) := by
    intro y
    unfold boundOf
    rw [h7.1, h7.2, h9'.1, h9'.2]
    have hz : ofB (R 14) = false → ofN (R 14) (R 15) c = 0 := fun hn => by
      unfold ofN ofB at *
      simp only [Bool.or_eq_false_iff, beq_eq_false_iff_ne, ne_eq] at hn
      rw [if_neg hn.1, if_neg hn.2]
    simp only [Nat.reduceMul, Nat.reduceAdd]
    generalize ofN (R 14) (R 15) c = a at *
    generalize ofN (R 18) (R 19) c = b at *
    cases hA : ofB (R 14) <;> cases hB : ofB (R 18) <;> simp only [Bool.false_eq_true, if_false, if_true, false_implies, true_implies, and_true]
    · have := hz hA; unfold cut; omega
    · have := hz hA; unfold cut; omega
    · unfold cut; omega
    · unfold cut; omega
  unfold toldOf
  split
  · exact key _
  · exact key _
def two (a b : Int) (k : Nat) : Int := if k = 0 then a else b
set_option maxRecDepth 100000 in
set_option maxHeartbeats 1000000 in
theorem widthsBound_any (R : Nat → Int) (room least most : Int) (w : World) : Calls Try.prog 10 #[.agg (styA R), .int .i64 room, .int .i64 least, .int .i64 most] w fun e w' => e = .returned (.bool true) ∧ Below w.heap.size w w' := by
  have hi1 : (Try.prog.info? 3).map (·.size) = some 1 := by kernel_rfl
  have HI := hide hi1
  clear hi1
  go_enter Try.func10, Try.ntmps10
  go_wp2_with (first | (refine wpList_store_fld rfl 3 _ _ rfl w.heap.size 9 54 (styA R) (.int .i64 0) rfl rfl (Blk.new w _ _) (by rw [styA_size]; omega) HI.out rfl rfl ?_; intro w1 hB1 hg1; rw [cbR_is] at hB1; have g1 := below_grown (Below.refl w.heap.size w |>.alloc (Nat.le_refl _) (.cells (styA R) 54)) (Nat.le_refl _) hg1 (Nat.le_refl _); have F1 := hide hB1; clear hB1 hg1) | (refine wpList_load_sty rfl _ rfl w.heap.size rfl (cbR R) F1.out ?_) | fail)
  refine (Wide_any (cbR R) room w1).mono ?_
  rintro e w2 ⟨rfl, hb2⟩
  have F2 := hide (F1.out.below hb2 F1.out.lt)
  have g2 := below_then g1 (Nat.le_refl _) hb2
  have hlt := F1.out.lt
  have hc0 : cbR R 9 = 0 := rfl
  have L1 := hide (bound_law (cbR R) hc0 (cut room) (rimX (cbR R) (cut room)) (cut room - edge (cbR R) (cut room) 11 3 - edge (cbR R) (cut room) 11 1 - rimX (cbR R) (cut room)))
  have L2 := hide (bound_law (cbR R) hc0 (cut room) (rimX (cbR R) (cut room)) (min (cut most) (max (cut least) (cut room - edge (cbR R) (cut room) 11 3 - edge (cbR R) (cut room) 11 1 - rimX (cbR R) (cut room)))))
  clear hc0 hb2
  have hV : wideV (cbR R) room = #[.int .i64 (cut (wideLR (edge (cbR R) (cut room) 11 3) (edge (cbR R) (cut room) 11 1) (wRest (cbR R) (cut room)) (cbR R 28 == 6) (cbR R 24 == 6)).1), .int .i64 (cut (wWd (cbR R) (cut room))), .int .i64 (cut (wideLR (edge (cbR R) (cut room) 11 3) (edge (cbR R) (cut room) 11 1) (wRest (cbR R) (cut room)) (cbR R 28 == 6) (cbR R 24 == 6)).2)] := rfl
  rw [hV]
  clear hV
  have hW1 : wWd (cbR R) (cut room) = toldOf (cbR R) (cut room) (rimX (cbR R) (cut room)) true 5 7 9 (cut room - edge (cbR R) (cut room) 11 3 - edge (cbR R) (cut room) 11 1 - rimX (cbR R) (cut room)) := rfl
  have hW2 : shV (cbR R) (cut room) (cut least) (cut most) = toldOf (cbR R) (cut room) (rimX (cbR R) (cut room)) true 5 7 9 (min (cut most) (max (cut least) (cut room - edge (cbR R) (cut room) 11 3 - edge (cbR R) (cut room) 11 1 - rimX (cbR R) (cut room)))) := rfl
  have L1' := L1.out
  have L2' := L2.out
  rw [← hW1] at L1'
  rw [← hW2] at L2'
  clear L1 L2 hW1 hW2
  have M1 := hide L1'
  have M2 := hide L2'
  clear L1' L2'
  generalize cut (wWd (cbR R) (cut room)) = n1 at *
  generalize (cut (wideLR (edge (cbR R) (cut room) 11 3) (edge (cbR R) (cut room) 11 1) (wRest (cbR R) (cut room)) (cbR R 28 == 6) (cbR R 24 == 6)).1) = u1 at *
  generalize (cut (wideLR (edge (cbR R) (cut room) 11 3) (edge (cbR R) (cut room) 11 1) (wRest (cbR R) (cut room)) (cbR R 28 == 6) (cbR R 24 == 6)).2) = u2 at *
  clear F1
  go_wp2_with (first | (refine wpList_load_sty rfl _ rfl w.heap.size rfl (cbR R) F2.out ?_) | fail)
  refine (Shrink_any (cbR R) room least most w2).mono ?_
  rintro e w3 ⟨rfl, hb3⟩
  have F3 := hide (F2.out.below hb3 F2.out.lt)
  have g3 := below_then g2 (Nat.le_refl _) hb3
  have hlt3 := F3.out.lt
  clear hb3 F2 g2 g1 hlt
  generalize cut (shV (cbR R) (cut room) (cut least) (cut most)) = n2 at *
  generalize hlo : ofN (cbR R 14) (cbR R 15) (cut room) = lo at *
  generalize hhi : ofN (cbR R 18) (cbR R 19) (cut room) = hi at *
  generalize hbi : ofB (cbR R 18) = bi at *
  have Tlo := hide hlo
  have Thi := hide hhi
  have Tbi := hide hbi
  clear hlo hhi hbi
  go_wp2_with fail
  have G4 := hide (Blk.new w3 3 #[.int .i64 n1, .int .i64 n2])
  have F4 := hide (F3.out.alloc (.cells #[.int .i64 n1, .int .i64 n2] 3))
  have g4 := g3.alloc g3.size (.cells #[.int .i64 n1, .int .i64 n2] 3)
  clear F3 g3
  generalize w3.alloc (.cells #[.int .i64 n1, .int .i64 n2] 3) = w4 at *
  go_loopw [35] (fun i wr => ∃ k : Nat, k ≤ 2 ∧ i = .int .i64 k ∧ Below w4.heap.size w4 wr) (fun i _ => 2 - (intOf i).toNat)
  case atStart => exact ⟨0, by omega, rfl, Below.refl _ _⟩
  case round =>
    obtain ⟨k, hk, rfl, hbel⟩ := hrel
    have F5 := hide (F4.out.below hbel F4.out.lt)
    have G5 := hide (G4.out.below hbel G4.out.lt)
    have g5 := below_then g4 (Nat.le_refl _) hbel
    have hs5 := hbel.size
    have hlt5 := F5.out.lt
    have hn : k < 2 → wr.cell? ⟨w3.heap.size, k, none⟩ = some (.int .i64 (two n1 n2 k)) := fun h => by
      have : k = 0 ∨ k = 1 := by omega
      rcases this with rfl | rfl
      · exact G5.out.cell 0
      · exact G5.out.cell 1
    have hM : max 0 lo ≤ two n1 n2 k ∧ (bi = true → two n1 n2 k ≤ max 0 (max lo hi)) := by
      unfold two; split
      · exact M1.out
      · exact M2.out
    have HM := hide hM
    clear hM
    by_cases hlt : k < 2
    · have hnn := hn hlt
      clear hn
      generalize two n1 n2 k = n at *
      have c14 := (F5.out.cell 14).trans (styA_at (cbR R) (by omega))
      have c15 := (F5.out.cell 15).trans (styA_at (cbR R) (by omega))
      have c18 := (F5.out.cell 18).trans (styA_at (cbR R) (by omega))
      have c19 := (F5.out.cell 19).trans (styA_at (cbR R) (by omega))
      go_wp2_with fail
      go_region_held3 (fun w' => w'.cell? ⟨w.heap.size, 14, none⟩ = some (.int .i64 (cbR R 14)) ∧ w'.cell? ⟨w.heap.size, 15, none⟩ = some (.int .i64 (cbR R 15))) (first | go_keep | (exact ⟨(hb.cell (p := ⟨w.heap.size, _, none⟩) (by show w.heap.size < wr.heap.size; omega)).trans c14, (hb.cell (p := ⟨w.heap.size, _, none⟩) (by show w.heap.size < wr.heap.size; omega)).trans c15⟩))
        (first | (go_at_call 28; refine (cut_any _ _).mono ?_; rintro e w' ⟨rfl, rfl⟩) | (go_at_call 46; refine (Of_any _ _ _ _).mono ?_; rintro e w' ⟨rfl, hb⟩))
      have bA2 : Below w.heap.size w wr.drew := ⟨g5.os, g5.tape, g5.output, g5.size, g5.block⟩
      have d18 : w'.cell? ⟨w.heap.size, 18, none⟩ = some (.int .i64 (cbR R 18)) := (hb.cell (p := ⟨w.heap.size, _, none⟩) (by show w.heap.size < wr.heap.size; omega)).trans c18
      have d19 : w'.cell? ⟨w.heap.size, 19, none⟩ = some (.int .i64 (cbR R 19)) := (hb.cell (p := ⟨w.heap.size, _, none⟩) (by show w.heap.size < wr.heap.size; omega)).trans c19
      have g6 := bA2.trans (hb.mono (show w.heap.size ≤ wr.drew.heap.size from g5.size))
      have hbA : Below w4.heap.size w4 wr.drew := ⟨hbel.os, hbel.tape, hbel.output, hbel.size, hbel.block⟩
      have h6 := hbA.trans (hb.mono (show w4.heap.size ≤ wr.drew.heap.size from hbel.size))
      have hlt6 : w.heap.size < w'.heap.size := cell_lt d18
      clear hb bA2 hbA c14 c15 c18 c19 hbel g5 F5 G5 hnn
      rw [Tlo.out]
      generalize ofB (cbR R 14) = bl at *
      go_wp2_with fail
      go_region_held3 (fun w'' => w''.cell? ⟨w.heap.size, 18, none⟩ = some (.int .i64 (cbR R 18)) ∧ w''.cell? ⟨w.heap.size, 19, none⟩ = some (.int .i64 (cbR R 19))) (first | go_keep | (exact ⟨(hb.cell (p := ⟨w.heap.size, _, none⟩) (by show w.heap.size < w'.heap.size; omega)).trans d18, (hb.cell (p := ⟨w.heap.size, _, none⟩) (by show w.heap.size < w'.heap.size; omega)).trans d19⟩))
        (first | (go_at_call 28; refine (cut_any _ _).mono ?_; rintro e w'' ⟨rfl, rfl⟩) | (go_at_call 46; refine (Of_any _ _ _ _).mono ?_; rintro e w'' ⟨rfl, hb⟩))
      have hbA : Below w4.heap.size w4 w'.drew := ⟨h6.os, h6.tape, h6.output, h6.size, h6.block⟩
      have h7 := hbA.trans (hb.mono (show w4.heap.size ≤ w'.drew.heap.size from h6.size))
      clear hb hbA g6 h6 d18 d19
      rw [Thi.out, Tbi.out]
      obtain ⟨m1, m2⟩ := HM.out
      clear HM
      cases bi
      · clear m2
        go_wp2_with fail
        go_roundw
        case rel => exact ⟨k + 1, by omega, by go_num, h7⟩
        case measure => simp [intOf]; omega
      · have m3 := m2 rfl
        clear m2
        go_wp2_with fail
        go_roundw
        case rel => exact ⟨k + 1, by omega, by go_num, h7⟩
        case measure => simp [intOf]; omega
    · have hk2 : k = 2 := by omega
      subst hk2
      clear hn HM
      go_wp2_with fail
      refine (wide_any wr).mono ?_
      rintro e w9 ⟨rfl, hb9⟩
      have g9 := below_then g5 (Nat.le_refl _) hb9
      go_wp2
      go_ret
      exact ⟨rfl, g9⟩
end Go.Proofs.Ytadlabndbomgmaa
