/- The walk of breaker.lower on the breaker's state. -/
import Derived.BigQuiet
import Derived.Handy
import Derived.IntWalk
import Derived.RegionTactic
import Derived.Deep.MidRow
import Derived.Deep.CutBlock
import Derived.Deep.RegionHeld3
import Derived.Test.YtadlabndbomgmaaDoorJBeginW
import Derived.Test.YtadlabndbomgmaaDoorJ4
set_option linter.unusedVariables false
set_option linter.unusedSimpArgs false
namespace Go.Proofs.YtadlabndbomgmaaDoor
open Go.ChangeShapes Go.WideShapes Go.ChangeAt Go.RowKit
theorem lowF_take (y : Int) (fs : List Fl) (k : Nat) (hk : k < fs.length) : lowF y (fs.take (k + 1)) = lowStep y (lowF y (fs.take k)) fs[k] := by
  unfold lowF; rw [List.take_succ_eq_append_getElem hk, List.foldl_append]; rfl
theorem lowF_bd (y : Int) (fs : List Fl) (h : ∀ f ∈ fs, -16777216 ≤ f.y + f.h) : -16777216 ≤ lowF y fs ∧ lowF y fs ≤ 16777217 := by
  unfold lowF
  suffices H : ∀ a : Int, -16777216 ≤ a ∧ a ≤ 16777217 → -16777216 ≤ fs.foldl (lowStep y) a ∧ fs.foldl (lowStep y) a ≤ 16777217 from H 16777217 (by omega)
  induction fs with
  | nil => intro a h; exact h
  | cons f fs ih =>
    intro a ha
    refine ih (fun q hq => h q (by simp [hq])) _ ?_
    have := h f (by simp)
    unfold lowStep
    split <;> omega
def lowRes (ht W : Int) (st : BG) : BG := if noLow W st = true then st else lowG ht W st
theorem lowRes_no {ht W : Int} {st : BG} (h : noLow W st = true) : lowRes ht W st = st := if_pos h
theorem lowRes_yes {ht W : Int} {st : BG} (h : noLow W st = false) : lowRes ht W st = lowG ht W st := if_neg (by rw [h]; decide)
theorem fwidth_any (fp : Nat) (W : Int) (Fv : Value) (w : World) (hb : Blk w fp 89 #[.int .i64 W, Fv]) : Calls Tryd.prog 72 #[.pointer (some ⟨fp, 0, none⟩)] w fun e w' => e = .returned (.int .i64 W) ∧ w = w' := by
  have c0 : w.cell? ⟨fp, 0, none⟩ = some (.int .i64 W) := hb.cell 0
  go_enter Tryd.func72, Tryd.ntmps72
  go_wp2_with fail
  go_ret
  exact ⟨rfl, rfl⟩
set_option maxRecDepth 100000 in
set_option maxHeartbeats 4000000 in
theorem lowerV_any (g : Nat) (K : Nat → Prop) (b fp : Nat) (W sz ht al : Int) (st : BG) (Lv Tv Ov Fv : Value) (w : World) (h : BrV w K b fp g W sz ht al st Lv Tv Ov Fv) (hf : FsOk st.fs) (hW : 0 ≤ W ∧ W ≤ 16777216) (hi : -16777216 ≤ st.ind ∧ st.ind ≤ 16777216) :
    Calls Tryd.prog 48 #[.pointer (some ⟨b, 0, none⟩)] w fun e w' => e = .returned (.bool (!noLow W st)) ∧ BrV w' K b fp g W sz ht al (lowRes ht W st) Lv Tv Ov Fv ∧ Kept K w w' := by
  have HB := hide h
  have HF := hide hf
  have e0 : max 0 (cut 16777216) = 16777216 := by decide
  clear h hf
  go_enter Tryd.func48, Tryd.ntmps48
  go_wp2_with fail
  refine (New_any 16777216 w).mono ?_
  rintro e w1 ⟨rfl, hf1, hb1⟩
  rw [e0] at hf1
  have HF1 := hide hf1
  clear hf1 e0
  go_wp2_with fail
  refine (Edges_any _ _ 0 0 16777216 [] w1 HF1.out (by decide) (fun f hf => by cases hf)).mono ?_
  rintro e w2 ⟨rfl, hb2⟩
  have b2 := below_on hb1 hb2
  have ee : edgesF 16777216 (cut 0) (cut 0) [] = (0, 16777216, false) := by decide
  rw [ee]
  clear ee HF1 hb1 hb2
  have HB2 := hide (HB.out.below b2)
  have c0 : w2.cell? ⟨b, 0, none⟩ = some (.pointer (some ⟨fp, 0, none⟩)) := HB2.out.blk.cell 0
  go_wp2_with fail
  refine (fAll_any fp 0 W st.fs w2 HB2.out.floats HF.out.1).mono ?_
  rintro e w3 ⟨v3, rfl, own3, hb3⟩
  obtain ⟨A3, c3, rfl, _, _⟩ := own_reads own3
  have HO3 := hide own3
  have b3 := below_on b2 hb3
  have HK := hide (fun (k : Nat) (hk : k < st.fs.length) => lowF_take st.y st.fs k hk)
  have HLB := hide (fun (k : Nat) => lowF_bd st.y (st.fs.take k) (fun f hf => by have := (HF.out.2 f (List.mem_of_mem_take hf)).1; unfold FlBd at this; omega))
  clear own3 c0 b2 HB2 hb3
  go_wp2_with fail
  go_loopw [5, 7, 21] (fun lv _ i wr => ∃ k : Nat, k ≤ st.fs.length ∧ i = .int .i64 k ∧ lv = .int .i64 (lowF st.y (st.fs.take k)) ∧ Below w3.heap.size w3 wr) (fun _ _ i _ => st.fs.length - (intOf i).toNat)
  case atStart => exact ⟨0, Nat.zero_le _, rfl, rfl, Below.refl _ _⟩
  case round =>
    obtain ⟨k, hk, rfl, rfl, hbel⟩ := hrel
    by_cases hlt : k < st.fs.length
    · obtain ⟨q, rfl, _, hq, f0, f1, f2, f3⟩ := rectCell HO3.out hlt rfl
      have d0 := (hbel.cell (p := ⟨q, k * 4, none⟩) hq).trans f0
      have d1 := (hbel.cell (p := ⟨q, k * 4 + 1, none⟩) hq).trans f1
      have d2 := (hbel.cell (p := ⟨q, k * 4 + 2, none⟩) hq).trans f2
      have d3 := (hbel.cell (p := ⟨q, k * 4 + 3, none⟩) hq).trans f3
      have hfo := (HF.out.2 _ (List.getElem_mem hlt)).1
      unfold FlBd at hfo
      have e1 := hide (HK.out k hlt)
      have h200 := HF.out.1
      have hlb := HLB.out k
      generalize st.fs[k] = f at *
      obtain ⟨fx, fy, fw, fh, fsd⟩ := f
      clear f0 f1 f2 f3
      dsimp only at d0 d1 d2 d3 hfo
      generalize lowF st.y (st.fs.take k) = l at *
      have HBr := hide (HB.out.below (b3.trans (hbel.mono b3.size)))
      have c1 : (wr.alloc (.cells #[.int .i64 fx, .int .i64 fy, .int .i64 fw, .int .i64 fh] 134)).drew.cell? ⟨b, 1, none⟩ = some (.int .i64 st.y) := (HBr.out.blk.alloc _).cell 1
      have HX := hide (Blk.new wr 134 #[.int .i64 fx, .int .i64 fy, .int .i64 fw, .int .i64 fh])
      have x1 : (wr.alloc (.cells #[.int .i64 fx, .int .i64 fy, .int .i64 fw, .int .i64 fh] 134)).drew.cell? ⟨wr.heap.size, 1, none⟩ = some (.int .i64 fy) := HX.out.cell 1
      have x3 : (wr.alloc (.cells #[.int .i64 fx, .int .i64 fy, .int .i64 fw, .int .i64 fh] 134)).drew.cell? ⟨wr.heap.size, 3, none⟩ = some (.int .i64 fh) := HX.out.cell 3
      have y1 : IntKind.i64.wrap (fy + fh) = fy + fh := IntWalk.i64_in _ (by omega)
      have b5 := (hbel.alloc hbel.size (.cells #[.int .i64 fx, .int .i64 fy, .int .i64 fw, .int .i64 fh] 134)).drew
      go_wp2_with fail
      by_cases h1 : 0 < fh
      · by_cases h2 : st.y < fy + fh
        · have e2 := hide (show lowF st.y (st.fs.take (k + 1)) = min l (fy + fh) from by rw [e1.out]; exact if_pos ⟨h1, h2⟩)
          have q1 := decide_eq_true h1
          have q2 := decide_eq_true h2
          clear e1 HB HF HK HLB HO3 HBr HX d0 d1 d2 d3
          refine wp_region_HL 15 #[false, false, false, false, false, false, false, false, false, false, false, false, false, false, false] (by kernel_rfl) (by kernel_rfl) (S := fun Z => Z.cell? ⟨b, 1, none⟩ = some (.int .i64 st.y) ∧ Z.cell? ⟨wr.heap.size, 1, none⟩ = some (.int .i64 fy) ∧ Z.cell? ⟨wr.heap.size, 3, none⟩ = some (.int .i64 fh)) (by kernel_rfl) ⟨c1, x1, x3⟩ (fun hHeld => ?_)
          generalize (wr.alloc (.cells #[.int .i64 fx, .int .i64 fy, .int .i64 fw, .int .i64 fh] 134)).drew = wB at *
          refine take_at (i := 0) (v := (Value.pointer (some ⟨wr.heap.size, 3, none⟩))) (some 25) rfl rfl (by kernel_rfl) (by kernel_rfl) (by kernel_rfl) (fun _ _ _ h => h) (yieldsIf_faddr (by rfl) 134 _ 3 rfl _ _ 3 rfl (by kernel_rfl)) hHeld ?_
          simp only [Act.put, List.setIfInBounds_toArray, List.set_cons_zero, List.set_cons_succ]
          refine take_at (i := 1) (v := (.int .i64 fh)) (some 26) rfl rfl (by kernel_rfl) (by kernel_rfl) (by kernel_rfl) (fun _ _ _ h => h) (yieldsIf_load1 (by rfl) 3 _ rfl _ _ _ rfl (by kernel_rfl) (fun _ h => h.2.2)) hHeld ?_
          simp only [Act.put, List.setIfInBounds_toArray, List.set_cons_zero, List.set_cons_succ]
          refine take_at (i := 2) (v := (.bool true)) (some 27) rfl rfl (by kernel_rfl) (by kernel_rfl) (by kernel_rfl) (fun _ _ _ h => h) (Or.inl ⟨by rfl, fun W hW => ?_⟩) hHeld ?_
          · go_simp
          simp only [Act.put, List.setIfInBounds_toArray, List.set_cons_zero, List.set_cons_succ]
          refine take_at (i := 3) (v := (.bool true)) (some 28) rfl rfl (by kernel_rfl) (by kernel_rfl) (by kernel_rfl) (fun _ _ _ h => h) (yieldsIf_move (by rfl) _ rfl _ rfl) hHeld ?_
          simp only [Act.put, List.setIfInBounds_toArray, List.set_cons_zero, List.set_cons_succ]
          refine take_at (i := 4) (v := (Value.pointer (some ⟨wr.heap.size, 1, none⟩))) (some 29) rfl rfl (by kernel_rfl) (by kernel_rfl) (by kernel_rfl) (fun _ _ _ h => h) (yieldsIf_faddr (by kernel_rfl) 134 _ 1 rfl _ _ 1 rfl (by kernel_rfl)) hHeld ?_
          simp only [Act.put, List.setIfInBounds_toArray, List.set_cons_zero, List.set_cons_succ]
          refine take_at (i := 5) (v := (.int .i64 fy)) (some 30) rfl rfl (by kernel_rfl) (by kernel_rfl) (by kernel_rfl) (fun _ _ _ h => h) (yieldsIf_load1 (by kernel_rfl) 3 _ rfl _ _ _ rfl (by kernel_rfl) (fun _ h => h.2.1)) hHeld ?_
          simp only [Act.put, List.setIfInBounds_toArray, List.set_cons_zero, List.set_cons_succ]
          refine take_at (i := 6) (v := (Value.pointer (some ⟨wr.heap.size, 3, none⟩))) (some 31) rfl rfl (by kernel_rfl) (by kernel_rfl) (by kernel_rfl) (fun _ _ _ h => h) (yieldsIf_faddr (by kernel_rfl) 134 _ 3 rfl _ _ 3 rfl (by kernel_rfl)) hHeld ?_
          simp only [Act.put, List.setIfInBounds_toArray, List.set_cons_zero, List.set_cons_succ]
          refine take_at (i := 7) (v := (.int .i64 fh)) (some 32) rfl rfl (by kernel_rfl) (by kernel_rfl) (by kernel_rfl) (fun _ _ _ h => h) (yieldsIf_load1 (by kernel_rfl) 3 _ rfl _ _ _ rfl (by kernel_rfl) (fun _ h => h.2.2)) hHeld ?_
          simp only [Act.put, List.setIfInBounds_toArray, List.set_cons_zero, List.set_cons_succ]
          refine take_at (i := 8) (v := (.int .i64 (fy + fh))) (some 33) rfl rfl (by kernel_rfl) (by kernel_rfl) (by kernel_rfl) (fun _ _ _ h => h) (Or.inl ⟨by kernel_rfl, fun W hW => ?_⟩) hHeld ?_
          · go_simp
          simp only [Act.put, List.setIfInBounds_toArray, List.set_cons_zero, List.set_cons_succ]
          refine take_at (i := 9) (v := (Value.pointer (some ⟨b, 0, none⟩))) (some 34) rfl rfl (by kernel_rfl) (by kernel_rfl) (by kernel_rfl) (fun _ _ _ h => h) (yieldsIf_move (by kernel_rfl) _ rfl _ rfl) hHeld ?_
          simp only [Act.put, List.setIfInBounds_toArray, List.set_cons_zero, List.set_cons_succ]
          refine take_at (i := 10) (v := (Value.pointer (some ⟨b, 0, none⟩))) (some 35) rfl rfl (by kernel_rfl) (by kernel_rfl) (by kernel_rfl) (fun _ _ _ h => h) (yieldsIf_nil (by kernel_rfl) _ rfl _ rfl) hHeld ?_
          simp only [Act.put, List.setIfInBounds_toArray, List.set_cons_zero, List.set_cons_succ]
          refine take_at (i := 11) (v := (Value.pointer (some ⟨b, 1, none⟩))) (some 36) rfl rfl (by kernel_rfl) (by kernel_rfl) (by kernel_rfl) (fun _ _ _ h => h) (yieldsIf_faddr (by kernel_rfl) 81 _ 1 rfl _ _ 1 rfl (by kernel_rfl)) hHeld ?_
          simp only [Act.put, List.setIfInBounds_toArray, List.set_cons_zero, List.set_cons_succ]
          refine take_at (i := 12) (v := (.int .i64 st.y)) (some 37) rfl rfl (by kernel_rfl) (by kernel_rfl) (by kernel_rfl) (fun _ _ _ h => h) (yieldsIf_load1 (by kernel_rfl) 3 _ rfl _ _ _ rfl (by kernel_rfl) (fun _ h => h.1)) hHeld ?_
          simp only [Act.put, List.setIfInBounds_toArray, List.set_cons_zero, List.set_cons_succ]
          refine take_at (i := 13) (v := (.bool true)) (some 38) rfl rfl (by kernel_rfl) (by kernel_rfl) (by kernel_rfl) (fun _ _ _ h => h) (Or.inl ⟨by kernel_rfl, fun W hW => ?_⟩) hHeld ?_
          · go_simp
          simp only [Act.put, List.setIfInBounds_toArray, List.set_cons_zero, List.set_cons_succ]
          refine take_at (i := 14) (v := (.bool true)) (some 39) rfl rfl (by kernel_rfl) (by kernel_rfl) (by kernel_rfl) (fun _ _ _ h => h) (Or.inl ⟨by rfl, fun W hW => ?_⟩) hHeld ?_
          · go_simp
          simp only [Act.put, List.setIfInBounds_toArray, List.set_cons_zero, List.set_cons_succ]
          refine wpAnyH_done (by kernel_rfl) ?_ _
          have x1' := hHeld.2.1
          have x3' := hHeld.2.2
          go_wp2_with fail
          go_roundw
          case rel => exact ⟨k + 1, by omega, by go_num, by rw [e2.out], b5⟩
          case measure => simp only [intOf]; omega
        · have e2 := hide (show lowF st.y (st.fs.take (k + 1)) = l from by rw [e1.out]; exact if_neg (fun h => h2 h.2))
          have q1 := decide_eq_true h1
          have q2 := decide_eq_false h2
          clear e1 HB HF HK HLB HO3 HBr HX d0 d1 d2 d3
          refine wp_region_HL 15 #[false, false, false, false, false, false, false, false, false, false, false, false, false, false, false] (by kernel_rfl) (by kernel_rfl) (S := fun Z => Z.cell? ⟨b, 1, none⟩ = some (.int .i64 st.y) ∧ Z.cell? ⟨wr.heap.size, 1, none⟩ = some (.int .i64 fy) ∧ Z.cell? ⟨wr.heap.size, 3, none⟩ = some (.int .i64 fh)) (by kernel_rfl) ⟨c1, x1, x3⟩ (fun hHeld => ?_)
          generalize (wr.alloc (.cells #[.int .i64 fx, .int .i64 fy, .int .i64 fw, .int .i64 fh] 134)).drew = wB at *
          refine take_at (i := 0) (v := (Value.pointer (some ⟨wr.heap.size, 3, none⟩))) (some 25) rfl rfl (by kernel_rfl) (by kernel_rfl) (by kernel_rfl) (fun _ _ _ h => h) (yieldsIf_faddr (by rfl) 134 _ 3 rfl _ _ 3 rfl (by kernel_rfl)) hHeld ?_
          simp only [Act.put, List.setIfInBounds_toArray, List.set_cons_zero, List.set_cons_succ]
          refine take_at (i := 1) (v := (.int .i64 fh)) (some 26) rfl rfl (by kernel_rfl) (by kernel_rfl) (by kernel_rfl) (fun _ _ _ h => h) (yieldsIf_load1 (by rfl) 3 _ rfl _ _ _ rfl (by kernel_rfl) (fun _ h => h.2.2)) hHeld ?_
          simp only [Act.put, List.setIfInBounds_toArray, List.set_cons_zero, List.set_cons_succ]
          refine take_at (i := 2) (v := (.bool true)) (some 27) rfl rfl (by kernel_rfl) (by kernel_rfl) (by kernel_rfl) (fun _ _ _ h => h) (Or.inl ⟨by rfl, fun W hW => ?_⟩) hHeld ?_
          · go_simp
          simp only [Act.put, List.setIfInBounds_toArray, List.set_cons_zero, List.set_cons_succ]
          refine take_at (i := 3) (v := (.bool true)) (some 28) rfl rfl (by kernel_rfl) (by kernel_rfl) (by kernel_rfl) (fun _ _ _ h => h) (yieldsIf_move (by rfl) _ rfl _ rfl) hHeld ?_
          simp only [Act.put, List.setIfInBounds_toArray, List.set_cons_zero, List.set_cons_succ]
          refine take_at (i := 4) (v := (Value.pointer (some ⟨wr.heap.size, 1, none⟩))) (some 29) rfl rfl (by kernel_rfl) (by kernel_rfl) (by kernel_rfl) (fun _ _ _ h => h) (yieldsIf_faddr (by kernel_rfl) 134 _ 1 rfl _ _ 1 rfl (by kernel_rfl)) hHeld ?_
          simp only [Act.put, List.setIfInBounds_toArray, List.set_cons_zero, List.set_cons_succ]
          refine take_at (i := 5) (v := (.int .i64 fy)) (some 30) rfl rfl (by kernel_rfl) (by kernel_rfl) (by kernel_rfl) (fun _ _ _ h => h) (yieldsIf_load1 (by kernel_rfl) 3 _ rfl _ _ _ rfl (by kernel_rfl) (fun _ h => h.2.1)) hHeld ?_
          simp only [Act.put, List.setIfInBounds_toArray, List.set_cons_zero, List.set_cons_succ]
          refine take_at (i := 6) (v := (Value.pointer (some ⟨wr.heap.size, 3, none⟩))) (some 31) rfl rfl (by kernel_rfl) (by kernel_rfl) (by kernel_rfl) (fun _ _ _ h => h) (yieldsIf_faddr (by kernel_rfl) 134 _ 3 rfl _ _ 3 rfl (by kernel_rfl)) hHeld ?_
          simp only [Act.put, List.setIfInBounds_toArray, List.set_cons_zero, List.set_cons_succ]
          refine take_at (i := 7) (v := (.int .i64 fh)) (some 32) rfl rfl (by kernel_rfl) (by kernel_rfl) (by kernel_rfl) (fun _ _ _ h => h) (yieldsIf_load1 (by kernel_rfl) 3 _ rfl _ _ _ rfl (by kernel_rfl) (fun _ h => h.2.2)) hHeld ?_
          simp only [Act.put, List.setIfInBounds_toArray, List.set_cons_zero, List.set_cons_succ]
          refine take_at (i := 8) (v := (.int .i64 (fy + fh))) (some 33) rfl rfl (by kernel_rfl) (by kernel_rfl) (by kernel_rfl) (fun _ _ _ h => h) (Or.inl ⟨by kernel_rfl, fun W hW => ?_⟩) hHeld ?_
          · go_simp
          simp only [Act.put, List.setIfInBounds_toArray, List.set_cons_zero, List.set_cons_succ]
          refine take_at (i := 9) (v := (Value.pointer (some ⟨b, 0, none⟩))) (some 34) rfl rfl (by kernel_rfl) (by kernel_rfl) (by kernel_rfl) (fun _ _ _ h => h) (yieldsIf_move (by kernel_rfl) _ rfl _ rfl) hHeld ?_
          simp only [Act.put, List.setIfInBounds_toArray, List.set_cons_zero, List.set_cons_succ]
          refine take_at (i := 10) (v := (Value.pointer (some ⟨b, 0, none⟩))) (some 35) rfl rfl (by kernel_rfl) (by kernel_rfl) (by kernel_rfl) (fun _ _ _ h => h) (yieldsIf_nil (by kernel_rfl) _ rfl _ rfl) hHeld ?_
          simp only [Act.put, List.setIfInBounds_toArray, List.set_cons_zero, List.set_cons_succ]
          refine take_at (i := 11) (v := (Value.pointer (some ⟨b, 1, none⟩))) (some 36) rfl rfl (by kernel_rfl) (by kernel_rfl) (by kernel_rfl) (fun _ _ _ h => h) (yieldsIf_faddr (by kernel_rfl) 81 _ 1 rfl _ _ 1 rfl (by kernel_rfl)) hHeld ?_
          simp only [Act.put, List.setIfInBounds_toArray, List.set_cons_zero, List.set_cons_succ]
          refine take_at (i := 12) (v := (.int .i64 st.y)) (some 37) rfl rfl (by kernel_rfl) (by kernel_rfl) (by kernel_rfl) (fun _ _ _ h => h) (yieldsIf_load1 (by kernel_rfl) 3 _ rfl _ _ _ rfl (by kernel_rfl) (fun _ h => h.1)) hHeld ?_
          simp only [Act.put, List.setIfInBounds_toArray, List.set_cons_zero, List.set_cons_succ]
          refine take_at (i := 13) (v := (.bool false)) (some 38) rfl rfl (by kernel_rfl) (by kernel_rfl) (by kernel_rfl) (fun _ _ _ h => h) (Or.inl ⟨by kernel_rfl, fun W hW => ?_⟩) hHeld ?_
          · go_simp
          simp only [Act.put, List.setIfInBounds_toArray, List.set_cons_zero, List.set_cons_succ]
          refine take_at (i := 14) (v := (.bool false)) (some 39) rfl rfl (by kernel_rfl) (by kernel_rfl) (by kernel_rfl) (fun _ _ _ h => h) (Or.inl ⟨by rfl, fun W hW => ?_⟩) hHeld ?_
          · go_simp
          simp only [Act.put, List.setIfInBounds_toArray, List.set_cons_zero, List.set_cons_succ]
          refine wpAnyH_done (by kernel_rfl) ?_ _
          go_wp2_with fail
          go_roundw
          case rel => exact ⟨k + 1, by omega, by go_num, by rw [e2.out], b5⟩
          case measure => simp only [intOf]; omega
      · have e2 := hide (show lowF st.y (st.fs.take (k + 1)) = l from by rw [e1.out]; exact if_neg (fun h => h1 h.1))
        have q1 := decide_eq_false h1
        clear e1 HB HF HK HLB HO3 HBr HX d0 d1 d2 d3
        refine wp_region_HL 15 #[false, false, false, false, false, false, false, false, false, false, false, false, false, false, false] (by kernel_rfl) (by kernel_rfl) (S := fun Z => Z.cell? ⟨b, 1, none⟩ = some (.int .i64 st.y) ∧ Z.cell? ⟨wr.heap.size, 1, none⟩ = some (.int .i64 fy) ∧ Z.cell? ⟨wr.heap.size, 3, none⟩ = some (.int .i64 fh)) (by kernel_rfl) ⟨c1, x1, x3⟩ (fun hHeld => ?_)
        generalize (wr.alloc (.cells #[.int .i64 fx, .int .i64 fy, .int .i64 fw, .int .i64 fh] 134)).drew = wB at *
        refine take_at (i := 0) (v := (Value.pointer (some ⟨wr.heap.size, 3, none⟩))) (some 25) rfl rfl (by kernel_rfl) (by kernel_rfl) (by kernel_rfl) (fun _ _ _ h => h) (yieldsIf_faddr (by rfl) 134 _ 3 rfl _ _ 3 rfl (by kernel_rfl)) hHeld ?_
        simp only [Act.put, List.setIfInBounds_toArray, List.set_cons_zero, List.set_cons_succ]
        refine take_at (i := 1) (v := (.int .i64 fh)) (some 26) rfl rfl (by kernel_rfl) (by kernel_rfl) (by kernel_rfl) (fun _ _ _ h => h) (yieldsIf_load1 (by rfl) 3 _ rfl _ _ _ rfl (by kernel_rfl) (fun _ h => h.2.2)) hHeld ?_
        simp only [Act.put, List.setIfInBounds_toArray, List.set_cons_zero, List.set_cons_succ]
        refine take_at (i := 2) (v := (.bool false)) (some 27) rfl rfl (by kernel_rfl) (by kernel_rfl) (by kernel_rfl) (fun _ _ _ h => h) (Or.inl ⟨by rfl, fun W hW => ?_⟩) hHeld ?_
        · go_simp
        simp only [Act.put, List.setIfInBounds_toArray, List.set_cons_zero, List.set_cons_succ]
        refine take_at (i := 3) (v := (.bool false)) (some 28) rfl rfl (by kernel_rfl) (by kernel_rfl) (by kernel_rfl) (fun _ _ _ h => h) (yieldsIf_move (by rfl) _ rfl _ rfl) hHeld ?_
        simp only [Act.put, List.setIfInBounds_toArray, List.set_cons_zero, List.set_cons_succ]
        refine skipH (i := 4) (some 29) rfl rfl (by kernel_rfl) (by kernel_rfl) (by kernel_rfl) (fun _ _ _ h => h) (by kernel_rfl) hHeld ?_
        simp only [Act.put, List.setIfInBounds_toArray, List.set_cons_zero, List.set_cons_succ]
        refine skipH (i := 5) (some 30) rfl rfl (by kernel_rfl) (by kernel_rfl) (by kernel_rfl) (fun _ _ _ h => h) (by kernel_rfl) hHeld ?_
        simp only [Act.put, List.setIfInBounds_toArray, List.set_cons_zero, List.set_cons_succ]
        refine skipH (i := 6) (some 31) rfl rfl (by kernel_rfl) (by kernel_rfl) (by kernel_rfl) (fun _ _ _ h => h) (by kernel_rfl) hHeld ?_
        simp only [Act.put, List.setIfInBounds_toArray, List.set_cons_zero, List.set_cons_succ]
        refine skipH (i := 7) (some 32) rfl rfl (by kernel_rfl) (by kernel_rfl) (by kernel_rfl) (fun _ _ _ h => h) (by kernel_rfl) hHeld ?_
        simp only [Act.put, List.setIfInBounds_toArray, List.set_cons_zero, List.set_cons_succ]
        refine skipH (i := 8) (some 33) rfl rfl (by kernel_rfl) (by kernel_rfl) (by kernel_rfl) (fun _ _ _ h => h) (by kernel_rfl) hHeld ?_
        simp only [Act.put, List.setIfInBounds_toArray, List.set_cons_zero, List.set_cons_succ]
        refine skipH (i := 9) (some 34) rfl rfl (by kernel_rfl) (by kernel_rfl) (by kernel_rfl) (fun _ _ _ h => h) (by kernel_rfl) hHeld ?_
        simp only [Act.put, List.setIfInBounds_toArray, List.set_cons_zero, List.set_cons_succ]
        refine skipH (i := 10) (some 35) rfl rfl (by kernel_rfl) (by kernel_rfl) (by kernel_rfl) (fun _ _ _ h => h) (by kernel_rfl) hHeld ?_
        simp only [Act.put, List.setIfInBounds_toArray, List.set_cons_zero, List.set_cons_succ]
        refine skipH (i := 11) (some 36) rfl rfl (by kernel_rfl) (by kernel_rfl) (by kernel_rfl) (fun _ _ _ h => h) (by kernel_rfl) hHeld ?_
        simp only [Act.put, List.setIfInBounds_toArray, List.set_cons_zero, List.set_cons_succ]
        refine skipH (i := 12) (some 37) rfl rfl (by kernel_rfl) (by kernel_rfl) (by kernel_rfl) (fun _ _ _ h => h) (by kernel_rfl) hHeld ?_
        simp only [Act.put, List.setIfInBounds_toArray, List.set_cons_zero, List.set_cons_succ]
        refine skipH (i := 13) (some 38) rfl rfl (by kernel_rfl) (by kernel_rfl) (by kernel_rfl) (fun _ _ _ h => h) (by kernel_rfl) hHeld ?_
        simp only [Act.put, List.setIfInBounds_toArray, List.set_cons_zero, List.set_cons_succ]
        refine take_at (i := 14) (v := (.bool false)) (some 39) rfl rfl (by kernel_rfl) (by kernel_rfl) (by kernel_rfl) (fun _ _ _ h => h) (Or.inl ⟨by rfl, fun W hW => ?_⟩) hHeld ?_
        · go_simp
        simp only [Act.put, List.setIfInBounds_toArray, List.set_cons_zero, List.set_cons_succ]
        refine wpAnyH_done (by kernel_rfl) ?_ _
        go_wp2_with fail
        go_roundw
        case rel => exact ⟨k + 1, by omega, by go_num, by rw [e2.out], b5⟩
        case measure => simp only [intOf]; omega
    · obtain rfl : k = st.fs.length := by omega
      have HLL := HLB.out st.fs.length
      have b4 := b3.trans (hbel.mono b3.size)
      have HBr := hide (HB.out.below b4)
      have HN := hide (show noLow W st = (decide (16777216 < lowF st.y st.fs) || (st.left == st.ind && st.right == W)) from rfl)
      have HLG := hide (show lowG ht W st = endsG ht W { st with y := lowF st.y st.fs } from rfl)
      rw [List.take_length] at HLL ⊢
      have HFL := hide HF.out
      clear HLB HK HO3 hk hlt HF
      generalize lowF st.y st.fs = l at *
      go_wp2_with fail
      have c6 : wr.drew.cell? ⟨b, 6, none⟩ = some (.int .i64 st.left) := HBr.out.blk.cell 6
      have c5 : wr.drew.cell? ⟨b, 5, none⟩ = some (.int .i64 st.ind) := HBr.out.blk.cell 5
      have c7 : wr.drew.cell? ⟨b, 7, none⟩ = some (.int .i64 st.right) := HBr.out.blk.cell 7
      have c0 : wr.drew.cell? ⟨b, 0, none⟩ = some (.pointer (some ⟨fp, 0, none⟩)) := HBr.out.blk.cell 0
      have HKr := hide (Kept.of_below b4.drew HB.out.kk)
      replace HBr := hide (HBr.out.below ((Below.refl wr.heap.size wr).drew))
      clear b3 hbel b4 HB
      by_cases h1 : 16777216 < l
      · have q1 := decide_eq_true h1
        have e2 := hide (show noLow W st = true from by rw [HN.out, q1]; rfl)
        refine wp_region_HL 26 #[false, false, false, false, false, false, false, false, false, false, false, false, false, false, false, false, false, false, false, false, false, false, false, false, false, false] (by kernel_rfl) (by kernel_rfl) (S := fun Z => Z.cell? ⟨b, 6, none⟩ = some (.int .i64 st.left) ∧ Z.cell? ⟨b, 5, none⟩ = some (.int .i64 st.ind) ∧ Z.cell? ⟨b, 7, none⟩ = some (.int .i64 st.right) ∧ Z.cell? ⟨b, 0, none⟩ = some (.pointer (some ⟨fp, 0, none⟩)) ∧ Blk Z fp 89 #[.int .i64 W, Fv]) (by kernel_rfl) ⟨c6, c5, c7, c0, HBr.out.flo⟩ (fun hHeld => ?_)
        generalize wr.drew = wB at *
        refine take_at (i := 0) (v := (.int .i64 l)) (some 48) rfl rfl (by kernel_rfl) (by kernel_rfl) (by kernel_rfl) (fun _ _ _ h => h) (yieldsIf_move (by rfl) _ rfl _ rfl) hHeld ?_
        simp only [Act.put, List.setIfInBounds_toArray, List.set_cons_zero, List.set_cons_succ]
        refine take_at (i := 1) (v := (.int .i64 16777216)) (some 49) rfl rfl (by kernel_rfl) (by kernel_rfl) (by kernel_rfl) (fun _ _ _ h => h) (yieldsIf_move (by rfl) _ rfl _ rfl) hHeld ?_
        simp only [Act.put, List.setIfInBounds_toArray, List.set_cons_zero, List.set_cons_succ]
        refine take_at (i := 2) (v := (.bool true)) (some 50) rfl rfl (by kernel_rfl) (by kernel_rfl) (by kernel_rfl) (fun _ _ _ h => h) (Or.inl ⟨by rfl, fun W hW => ?_⟩) hHeld ?_
        · go_simp
        simp only [Act.put, List.setIfInBounds_toArray, List.set_cons_zero, List.set_cons_succ]
        refine take_at (i := 3) (v := (.bool true)) (some 51) rfl rfl (by kernel_rfl) (by kernel_rfl) (by kernel_rfl) (fun _ _ _ h => h) (yieldsIf_move (by rfl) _ rfl _ rfl) hHeld ?_
        simp only [Act.put, List.setIfInBounds_toArray, List.set_cons_zero, List.set_cons_succ]
        refine skipH (i := 4) (some 52) rfl rfl (by kernel_rfl) (by kernel_rfl) (by kernel_rfl) (fun _ _ _ h => h) (by kernel_rfl) hHeld ?_
        simp only [Act.put, List.setIfInBounds_toArray, List.set_cons_zero, List.set_cons_succ]
        refine skipH (i := 5) (some 53) rfl rfl (by kernel_rfl) (by kernel_rfl) (by kernel_rfl) (fun _ _ _ h => h) (by kernel_rfl) hHeld ?_
        simp only [Act.put, List.setIfInBounds_toArray, List.set_cons_zero, List.set_cons_succ]
        refine skipH (i := 6) (some 54) rfl rfl (by kernel_rfl) (by kernel_rfl) (by kernel_rfl) (fun _ _ _ h => h) (by kernel_rfl) hHeld ?_
        simp only [Act.put, List.setIfInBounds_toArray, List.set_cons_zero, List.set_cons_succ]
        refine skipH (i := 7) (some 55) rfl rfl (by kernel_rfl) (by kernel_rfl) (by kernel_rfl) (fun _ _ _ h => h) (by kernel_rfl) hHeld ?_
        simp only [Act.put, List.setIfInBounds_toArray, List.set_cons_zero, List.set_cons_succ]
        refine skipH (i := 8) (some 56) rfl rfl (by kernel_rfl) (by kernel_rfl) (by kernel_rfl) (fun _ _ _ h => h) (by kernel_rfl) hHeld ?_
        simp only [Act.put, List.setIfInBounds_toArray, List.set_cons_zero, List.set_cons_succ]
        refine skipH (i := 9) (some 57) rfl rfl (by kernel_rfl) (by kernel_rfl) (by kernel_rfl) (fun _ _ _ h => h) (by kernel_rfl) hHeld ?_
        simp only [Act.put, List.setIfInBounds_toArray, List.set_cons_zero, List.set_cons_succ]
        refine skipH (i := 10) (some 58) rfl rfl (by kernel_rfl) (by kernel_rfl) (by kernel_rfl) (fun _ _ _ h => h) (by kernel_rfl) hHeld ?_
        simp only [Act.put, List.setIfInBounds_toArray, List.set_cons_zero, List.set_cons_succ]
        refine skipH (i := 11) (some 59) rfl rfl (by kernel_rfl) (by kernel_rfl) (by kernel_rfl) (fun _ _ _ h => h) (by kernel_rfl) hHeld ?_
        simp only [Act.put, List.setIfInBounds_toArray, List.set_cons_zero, List.set_cons_succ]
        refine skipH (i := 12) (some 60) rfl rfl (by kernel_rfl) (by kernel_rfl) (by kernel_rfl) (fun _ _ _ h => h) (by kernel_rfl) hHeld ?_
        simp only [Act.put, List.setIfInBounds_toArray, List.set_cons_zero, List.set_cons_succ]
        refine skipH (i := 13) (some 61) rfl rfl (by kernel_rfl) (by kernel_rfl) (by kernel_rfl) (fun _ _ _ h => h) (by kernel_rfl) hHeld ?_
        simp only [Act.put, List.setIfInBounds_toArray, List.set_cons_zero, List.set_cons_succ]
        refine skipH (i := 14) (some 62) rfl rfl (by kernel_rfl) (by kernel_rfl) (by kernel_rfl) (fun _ _ _ h => h) (by kernel_rfl) hHeld ?_
        simp only [Act.put, List.setIfInBounds_toArray, List.set_cons_zero, List.set_cons_succ]
        refine skipH (i := 15) (some 63) rfl rfl (by kernel_rfl) (by kernel_rfl) (by kernel_rfl) (fun _ _ _ h => h) (by kernel_rfl) hHeld ?_
        simp only [Act.put, List.setIfInBounds_toArray, List.set_cons_zero, List.set_cons_succ]
        refine skipH (i := 16) (some 64) rfl rfl (by kernel_rfl) (by kernel_rfl) (by kernel_rfl) (fun _ _ _ h => h) (by kernel_rfl) hHeld ?_
        simp only [Act.put, List.setIfInBounds_toArray, List.set_cons_zero, List.set_cons_succ]
        refine skipH (i := 17) (some 65) rfl rfl (by kernel_rfl) (by kernel_rfl) (by kernel_rfl) (fun _ _ _ h => h) (by kernel_rfl) hHeld ?_
        simp only [Act.put, List.setIfInBounds_toArray, List.set_cons_zero, List.set_cons_succ]
        refine skipH (i := 18) (some 66) rfl rfl (by kernel_rfl) (by kernel_rfl) (by kernel_rfl) (fun _ _ _ h => h) (by kernel_rfl) hHeld ?_
        simp only [Act.put, List.setIfInBounds_toArray, List.set_cons_zero, List.set_cons_succ]
        refine skipH (i := 19) (some 67) rfl rfl (by kernel_rfl) (by kernel_rfl) (by kernel_rfl) (fun _ _ _ h => h) (by kernel_rfl) hHeld ?_
        simp only [Act.put, List.setIfInBounds_toArray, List.set_cons_zero, List.set_cons_succ]
        refine skipH (i := 20) (some 68) rfl rfl (by kernel_rfl) (by kernel_rfl) (by kernel_rfl) (fun _ _ _ h => h) (by kernel_rfl) hHeld ?_
        simp only [Act.put, List.setIfInBounds_toArray, List.set_cons_zero, List.set_cons_succ]
        refine skipH (i := 21) (some 69) rfl rfl (by kernel_rfl) (by kernel_rfl) (by kernel_rfl) (fun _ _ _ h => h) (by kernel_rfl) hHeld ?_
        simp only [Act.put, List.setIfInBounds_toArray, List.set_cons_zero, List.set_cons_succ]
        refine skipH (i := 22) (some 70) rfl rfl (by kernel_rfl) (by kernel_rfl) (by kernel_rfl) (fun _ _ _ h => h) (by kernel_rfl) hHeld ?_
        simp only [Act.put, List.setIfInBounds_toArray, List.set_cons_zero, List.set_cons_succ]
        refine skipH (i := 23) (some 71) rfl rfl (by kernel_rfl) (by kernel_rfl) (by kernel_rfl) (fun _ _ _ h => h) (by kernel_rfl) hHeld ?_
        simp only [Act.put, List.setIfInBounds_toArray, List.set_cons_zero, List.set_cons_succ]
        refine skipH (i := 24) (some 72) rfl rfl (by kernel_rfl) (by kernel_rfl) (by kernel_rfl) (fun _ _ _ h => h) (by kernel_rfl) hHeld ?_
        simp only [Act.put, List.setIfInBounds_toArray, List.set_cons_zero, List.set_cons_succ]
        refine take_at (i := 25) (v := (.bool true)) (some 73) rfl rfl (by kernel_rfl) (by kernel_rfl) (by kernel_rfl) (fun _ _ _ h => h) (Or.inl ⟨by rfl, fun W hW => ?_⟩) hHeld ?_
        · go_simp
        simp only [Act.put, List.setIfInBounds_toArray, List.set_cons_zero, List.set_cons_succ]
        refine wpAnyH_done (by kernel_rfl) ?_ _
        go_wp2_with fail
        go_ret
        refine ⟨(by first | rfl | (rw [e2.out]; rfl)), ?_, HKr.out⟩
        rw [lowRes_no e2.out]
        exact HBr.out
      · have q1 := decide_eq_false h1
        by_cases h2 : st.left = st.ind
        · have q2 : (st.left == st.ind) = true := beq_iff_eq.2 h2
          have q2' := decide_eq_true h2
          by_cases h3 : st.right = W
          · have q3 : (st.right == W) = true := beq_iff_eq.2 h3
            have e2 := hide (show noLow W st = true from by rw [HN.out, q1, q2, q3]; rfl)
            clear h1 h2 h3
            refine wp_region_HL 26 #[false, false, false, false, false, false, false, false, false, false, false, false, false, false, false, false, false, false, false, false, false, false, false, false, false, false] (by kernel_rfl) (by kernel_rfl) (S := fun Z => Z.cell? ⟨b, 6, none⟩ = some (.int .i64 st.left) ∧ Z.cell? ⟨b, 5, none⟩ = some (.int .i64 st.ind) ∧ Z.cell? ⟨b, 7, none⟩ = some (.int .i64 st.right) ∧ Z.cell? ⟨b, 0, none⟩ = some (.pointer (some ⟨fp, 0, none⟩)) ∧ Blk Z fp 89 #[.int .i64 W, Fv]) (by kernel_rfl) ⟨c6, c5, c7, c0, HBr.out.flo⟩ (fun hHeld => ?_)
            generalize wr.drew = wB at *
            refine take_at (i := 0) (v := (.int .i64 l)) (some 48) rfl rfl (by kernel_rfl) (by kernel_rfl) (by kernel_rfl) (fun _ _ _ h => h) (yieldsIf_move (by rfl) _ rfl _ rfl) hHeld ?_
            simp only [Act.put, List.setIfInBounds_toArray, List.set_cons_zero, List.set_cons_succ]
            refine take_at (i := 1) (v := (.int .i64 16777216)) (some 49) rfl rfl (by kernel_rfl) (by kernel_rfl) (by kernel_rfl) (fun _ _ _ h => h) (yieldsIf_move (by rfl) _ rfl _ rfl) hHeld ?_
            simp only [Act.put, List.setIfInBounds_toArray, List.set_cons_zero, List.set_cons_succ]
            refine take_at (i := 2) (v := (.bool false)) (some 50) rfl rfl (by kernel_rfl) (by kernel_rfl) (by kernel_rfl) (fun _ _ _ h => h) (Or.inl ⟨by rfl, fun W hW => ?_⟩) hHeld ?_
            · go_simp
            simp only [Act.put, List.setIfInBounds_toArray, List.set_cons_zero, List.set_cons_succ]
            refine take_at (i := 3) (v := (.bool false)) (some 51) rfl rfl (by kernel_rfl) (by kernel_rfl) (by kernel_rfl) (fun _ _ _ h => h) (yieldsIf_move (by rfl) _ rfl _ rfl) hHeld ?_
            simp only [Act.put, List.setIfInBounds_toArray, List.set_cons_zero, List.set_cons_succ]
            refine take_at (i := 4) (v := (Value.pointer (some ⟨b, 0, none⟩))) (some 52) rfl rfl (by kernel_rfl) (by kernel_rfl) (by kernel_rfl) (fun _ _ _ h => h) (yieldsIf_move (by kernel_rfl) _ rfl _ rfl) hHeld ?_
            simp only [Act.put, List.setIfInBounds_toArray, List.set_cons_zero, List.set_cons_succ]
            refine take_at (i := 5) (v := (Value.pointer (some ⟨b, 0, none⟩))) (some 53) rfl rfl (by kernel_rfl) (by kernel_rfl) (by kernel_rfl) (fun _ _ _ h => h) (yieldsIf_nil (by kernel_rfl) _ rfl _ rfl) hHeld ?_
            simp only [Act.put, List.setIfInBounds_toArray, List.set_cons_zero, List.set_cons_succ]
            refine take_at (i := 6) (v := (Value.pointer (some ⟨b, 6, none⟩))) (some 54) rfl rfl (by kernel_rfl) (by kernel_rfl) (by kernel_rfl) (fun _ _ _ h => h) (yieldsIf_faddr (by kernel_rfl) 81 _ 6 rfl _ _ 6 rfl (by kernel_rfl)) hHeld ?_
            simp only [Act.put, List.setIfInBounds_toArray, List.set_cons_zero, List.set_cons_succ]
            refine take_at (i := 7) (v := (.int .i64 st.left)) (some 55) rfl rfl (by kernel_rfl) (by kernel_rfl) (by kernel_rfl) (fun _ _ _ h => h) (yieldsIf_load1 (by kernel_rfl) 3 _ rfl _ _ _ rfl (by kernel_rfl) (fun _ h => h.1)) hHeld ?_
            simp only [Act.put, List.setIfInBounds_toArray, List.set_cons_zero, List.set_cons_succ]
            refine take_at (i := 8) (v := (Value.pointer (some ⟨b, 0, none⟩))) (some 56) rfl rfl (by kernel_rfl) (by kernel_rfl) (by kernel_rfl) (fun _ _ _ h => h) (yieldsIf_move (by kernel_rfl) _ rfl _ rfl) hHeld ?_
            simp only [Act.put, List.setIfInBounds_toArray, List.set_cons_zero, List.set_cons_succ]
            refine take_at (i := 9) (v := (Value.pointer (some ⟨b, 0, none⟩))) (some 57) rfl rfl (by kernel_rfl) (by kernel_rfl) (by kernel_rfl) (fun _ _ _ h => h) (yieldsIf_nil (by kernel_rfl) _ rfl _ rfl) hHeld ?_
            simp only [Act.put, List.setIfInBounds_toArray, List.set_cons_zero, List.set_cons_succ]
            refine take_at (i := 10) (v := (Value.pointer (some ⟨b, 5, none⟩))) (some 58) rfl rfl (by kernel_rfl) (by kernel_rfl) (by kernel_rfl) (fun _ _ _ h => h) (yieldsIf_faddr (by kernel_rfl) 81 _ 5 rfl _ _ 5 rfl (by kernel_rfl)) hHeld ?_
            simp only [Act.put, List.setIfInBounds_toArray, List.set_cons_zero, List.set_cons_succ]
            refine take_at (i := 11) (v := (.int .i64 st.ind)) (some 59) rfl rfl (by kernel_rfl) (by kernel_rfl) (by kernel_rfl) (fun _ _ _ h => h) (yieldsIf_load1 (by kernel_rfl) 3 _ rfl _ _ _ rfl (by kernel_rfl) (fun _ h => h.2.1)) hHeld ?_
            simp only [Act.put, List.setIfInBounds_toArray, List.set_cons_zero, List.set_cons_succ]
            refine take_at (i := 12) (v := (.bool true)) (some 60) rfl rfl (by kernel_rfl) (by kernel_rfl) (by kernel_rfl) (fun _ _ _ h => h) (Or.inl ⟨by kernel_rfl, fun W hW => ?_⟩) hHeld ?_
            · go_simp
            simp only [Act.put, List.setIfInBounds_toArray, List.set_cons_zero, List.set_cons_succ]
            refine take_at (i := 13) (v := (.bool true)) (some 61) rfl rfl (by kernel_rfl) (by kernel_rfl) (by kernel_rfl) (fun _ _ _ h => h) (yieldsIf_move (by kernel_rfl) _ rfl _ rfl) hHeld ?_
            simp only [Act.put, List.setIfInBounds_toArray, List.set_cons_zero, List.set_cons_succ]
            refine take_at (i := 14) (v := (Value.pointer (some ⟨b, 0, none⟩))) (some 62) rfl rfl (by kernel_rfl) (by kernel_rfl) (by kernel_rfl) (fun _ _ _ h => h) (yieldsIf_move (by kernel_rfl) _ rfl _ rfl) hHeld ?_
            simp only [Act.put, List.setIfInBounds_toArray, List.set_cons_zero, List.set_cons_succ]
            refine take_at (i := 15) (v := (Value.pointer (some ⟨b, 0, none⟩))) (some 63) rfl rfl (by kernel_rfl) (by kernel_rfl) (by kernel_rfl) (fun _ _ _ h => h) (yieldsIf_nil (by kernel_rfl) _ rfl _ rfl) hHeld ?_
            simp only [Act.put, List.setIfInBounds_toArray, List.set_cons_zero, List.set_cons_succ]
            refine take_at (i := 16) (v := (Value.pointer (some ⟨b, 7, none⟩))) (some 64) rfl rfl (by kernel_rfl) (by kernel_rfl) (by kernel_rfl) (fun _ _ _ h => h) (yieldsIf_faddr (by kernel_rfl) 81 _ 7 rfl _ _ 7 rfl (by kernel_rfl)) hHeld ?_
            simp only [Act.put, List.setIfInBounds_toArray, List.set_cons_zero, List.set_cons_succ]
            refine take_at (i := 17) (v := (.int .i64 st.right)) (some 65) rfl rfl (by kernel_rfl) (by kernel_rfl) (by kernel_rfl) (fun _ _ _ h => h) (yieldsIf_load1 (by kernel_rfl) 3 _ rfl _ _ _ rfl (by kernel_rfl) (fun _ h => h.2.2.1)) hHeld ?_
            simp only [Act.put, List.setIfInBounds_toArray, List.set_cons_zero, List.set_cons_succ]
            refine take_at (i := 18) (v := (Value.pointer (some ⟨b, 0, none⟩))) (some 66) rfl rfl (by kernel_rfl) (by kernel_rfl) (by kernel_rfl) (fun _ _ _ h => h) (yieldsIf_move (by kernel_rfl) _ rfl _ rfl) hHeld ?_
            simp only [Act.put, List.setIfInBounds_toArray, List.set_cons_zero, List.set_cons_succ]
            refine take_at (i := 19) (v := (Value.pointer (some ⟨b, 0, none⟩))) (some 67) rfl rfl (by kernel_rfl) (by kernel_rfl) (by kernel_rfl) (fun _ _ _ h => h) (yieldsIf_nil (by kernel_rfl) _ rfl _ rfl) hHeld ?_
            simp only [Act.put, List.setIfInBounds_toArray, List.set_cons_zero, List.set_cons_succ]
            refine take_at (i := 20) (v := (Value.pointer (some ⟨b, 0, none⟩))) (some 68) rfl rfl (by kernel_rfl) (by kernel_rfl) (by kernel_rfl) (fun _ _ _ h => h) (yieldsIf_faddr (by kernel_rfl) 81 _ 0 rfl _ _ 0 rfl (by kernel_rfl)) hHeld ?_
            simp only [Act.put, List.setIfInBounds_toArray, List.set_cons_zero, List.set_cons_succ]
            refine take_at (i := 21) (v := (Value.pointer (some ⟨fp, 0, none⟩))) (some 69) rfl rfl (by kernel_rfl) (by kernel_rfl) (by kernel_rfl) (fun _ _ _ h => h) (yieldsIf_load1 (by kernel_rfl) 46 _ rfl _ _ _ rfl (by kernel_rfl) (fun _ h => h.2.2.2.1)) hHeld ?_
            simp only [Act.put, List.setIfInBounds_toArray, List.set_cons_zero, List.set_cons_succ]
            refine call_at (i := 22) (v := .int .i64 W) (some 70) rfl rfl (by kernel_rfl) (by kernel_rfl) (by kernel_rfl) (fun _ _ _ h => h) (by kernel_rfl) 72 #[.pointer (some ⟨fp, 0, none⟩)] (fun _ _ => run_enter Tryd.func72 (by kernel_rfl) (by kernel_rfl) _ _ rfl #[.pointer (some ⟨fp, 0, none⟩)] (by kernel_rfl) _) (fun _ h => fwidth_any fp _ Fv _ h.2.2.2.2) hHeld ?_
            simp only [Act.put, List.setIfInBounds_toArray, List.set_cons_zero, List.set_cons_succ]
            refine take_at (i := 23) (v := (.bool true)) (some 71) rfl rfl (by kernel_rfl) (by kernel_rfl) (by kernel_rfl) (fun _ _ _ h => h) (Or.inl ⟨by kernel_rfl, fun W hW => ?_⟩) hHeld ?_
            · go_simp
            simp only [Act.put, List.setIfInBounds_toArray, List.set_cons_zero, List.set_cons_succ]
            refine take_at (i := 24) (v := (.bool true)) (some 72) rfl rfl (by kernel_rfl) (by kernel_rfl) (by kernel_rfl) (fun _ _ _ h => h) (Or.inl ⟨by kernel_rfl, fun W hW => ?_⟩) hHeld ?_
            · go_simp
            simp only [Act.put, List.setIfInBounds_toArray, List.set_cons_zero, List.set_cons_succ]
            refine take_at (i := 25) (v := (.bool true)) (some 73) rfl rfl (by kernel_rfl) (by kernel_rfl) (by kernel_rfl) (fun _ _ _ h => h) (Or.inl ⟨by rfl, fun W hW => ?_⟩) hHeld ?_
            · go_simp
            simp only [Act.put, List.setIfInBounds_toArray, List.set_cons_zero, List.set_cons_succ]
            refine wpAnyH_done (by kernel_rfl) ?_ _
            go_wp2_with fail
            go_ret
            refine ⟨(by first | rfl | (rw [e2.out]; rfl)), ?_, HKr.out⟩
            rw [lowRes_no e2.out]
            exact HBr.out
          · have q3 : (st.right == W) = false := beq_eq_false_iff_ne.2 h3
            have e2 := hide (show noLow W st = false from by rw [HN.out, q1, q2, q3]; rfl)
            clear h1 h2 h3
            refine wp_region_HL 26 #[false, false, false, false, false, false, false, false, false, false, false, false, false, false, false, false, false, false, false, false, false, false, false, false, false, false] (by kernel_rfl) (by kernel_rfl) (S := fun Z => Z.cell? ⟨b, 6, none⟩ = some (.int .i64 st.left) ∧ Z.cell? ⟨b, 5, none⟩ = some (.int .i64 st.ind) ∧ Z.cell? ⟨b, 7, none⟩ = some (.int .i64 st.right) ∧ Z.cell? ⟨b, 0, none⟩ = some (.pointer (some ⟨fp, 0, none⟩)) ∧ Blk Z fp 89 #[.int .i64 W, Fv]) (by kernel_rfl) ⟨c6, c5, c7, c0, HBr.out.flo⟩ (fun hHeld => ?_)
            generalize wr.drew = wB at *
            refine take_at (i := 0) (v := (.int .i64 l)) (some 48) rfl rfl (by kernel_rfl) (by kernel_rfl) (by kernel_rfl) (fun _ _ _ h => h) (yieldsIf_move (by rfl) _ rfl _ rfl) hHeld ?_
            simp only [Act.put, List.setIfInBounds_toArray, List.set_cons_zero, List.set_cons_succ]
            refine take_at (i := 1) (v := (.int .i64 16777216)) (some 49) rfl rfl (by kernel_rfl) (by kernel_rfl) (by kernel_rfl) (fun _ _ _ h => h) (yieldsIf_move (by rfl) _ rfl _ rfl) hHeld ?_
            simp only [Act.put, List.setIfInBounds_toArray, List.set_cons_zero, List.set_cons_succ]
            refine take_at (i := 2) (v := (.bool false)) (some 50) rfl rfl (by kernel_rfl) (by kernel_rfl) (by kernel_rfl) (fun _ _ _ h => h) (Or.inl ⟨by rfl, fun W hW => ?_⟩) hHeld ?_
            · go_simp
            simp only [Act.put, List.setIfInBounds_toArray, List.set_cons_zero, List.set_cons_succ]
            refine take_at (i := 3) (v := (.bool false)) (some 51) rfl rfl (by kernel_rfl) (by kernel_rfl) (by kernel_rfl) (fun _ _ _ h => h) (yieldsIf_move (by rfl) _ rfl _ rfl) hHeld ?_
            simp only [Act.put, List.setIfInBounds_toArray, List.set_cons_zero, List.set_cons_succ]
            refine take_at (i := 4) (v := (Value.pointer (some ⟨b, 0, none⟩))) (some 52) rfl rfl (by kernel_rfl) (by kernel_rfl) (by kernel_rfl) (fun _ _ _ h => h) (yieldsIf_move (by kernel_rfl) _ rfl _ rfl) hHeld ?_
            simp only [Act.put, List.setIfInBounds_toArray, List.set_cons_zero, List.set_cons_succ]
            refine take_at (i := 5) (v := (Value.pointer (some ⟨b, 0, none⟩))) (some 53) rfl rfl (by kernel_rfl) (by kernel_rfl) (by kernel_rfl) (fun _ _ _ h => h) (yieldsIf_nil (by kernel_rfl) _ rfl _ rfl) hHeld ?_
            simp only [Act.put, List.setIfInBounds_toArray, List.set_cons_zero, List.set_cons_succ]
            refine take_at (i := 6) (v := (Value.pointer (some ⟨b, 6, none⟩))) (some 54) rfl rfl (by kernel_rfl) (by kernel_rfl) (by kernel_rfl) (fun _ _ _ h => h) (yieldsIf_faddr (by kernel_rfl) 81 _ 6 rfl _ _ 6 rfl (by kernel_rfl)) hHeld ?_
            simp only [Act.put, List.setIfInBounds_toArray, List.set_cons_zero, List.set_cons_succ]
            refine take_at (i := 7) (v := (.int .i64 st.left)) (some 55) rfl rfl (by kernel_rfl) (by kernel_rfl) (by kernel_rfl) (fun _ _ _ h => h) (yieldsIf_load1 (by kernel_rfl) 3 _ rfl _ _ _ rfl (by kernel_rfl) (fun _ h => h.1)) hHeld ?_
            simp only [Act.put, List.setIfInBounds_toArray, List.set_cons_zero, List.set_cons_succ]
            refine take_at (i := 8) (v := (Value.pointer (some ⟨b, 0, none⟩))) (some 56) rfl rfl (by kernel_rfl) (by kernel_rfl) (by kernel_rfl) (fun _ _ _ h => h) (yieldsIf_move (by kernel_rfl) _ rfl _ rfl) hHeld ?_
            simp only [Act.put, List.setIfInBounds_toArray, List.set_cons_zero, List.set_cons_succ]
            refine take_at (i := 9) (v := (Value.pointer (some ⟨b, 0, none⟩))) (some 57) rfl rfl (by kernel_rfl) (by kernel_rfl) (by kernel_rfl) (fun _ _ _ h => h) (yieldsIf_nil (by kernel_rfl) _ rfl _ rfl) hHeld ?_
            simp only [Act.put, List.setIfInBounds_toArray, List.set_cons_zero, List.set_cons_succ]
            refine take_at (i := 10) (v := (Value.pointer (some ⟨b, 5, none⟩))) (some 58) rfl rfl (by kernel_rfl) (by kernel_rfl) (by kernel_rfl) (fun _ _ _ h => h) (yieldsIf_faddr (by kernel_rfl) 81 _ 5 rfl _ _ 5 rfl (by kernel_rfl)) hHeld ?_
            simp only [Act.put, List.setIfInBounds_toArray, List.set_cons_zero, List.set_cons_succ]
            refine take_at (i := 11) (v := (.int .i64 st.ind)) (some 59) rfl rfl (by kernel_rfl) (by kernel_rfl) (by kernel_rfl) (fun _ _ _ h => h) (yieldsIf_load1 (by kernel_rfl) 3 _ rfl _ _ _ rfl (by kernel_rfl) (fun _ h => h.2.1)) hHeld ?_
            simp only [Act.put, List.setIfInBounds_toArray, List.set_cons_zero, List.set_cons_succ]
            refine take_at (i := 12) (v := (.bool true)) (some 60) rfl rfl (by kernel_rfl) (by kernel_rfl) (by kernel_rfl) (fun _ _ _ h => h) (Or.inl ⟨by kernel_rfl, fun W hW => ?_⟩) hHeld ?_
            · go_simp
            simp only [Act.put, List.setIfInBounds_toArray, List.set_cons_zero, List.set_cons_succ]
            refine take_at (i := 13) (v := (.bool true)) (some 61) rfl rfl (by kernel_rfl) (by kernel_rfl) (by kernel_rfl) (fun _ _ _ h => h) (yieldsIf_move (by kernel_rfl) _ rfl _ rfl) hHeld ?_
            simp only [Act.put, List.setIfInBounds_toArray, List.set_cons_zero, List.set_cons_succ]
            refine take_at (i := 14) (v := (Value.pointer (some ⟨b, 0, none⟩))) (some 62) rfl rfl (by kernel_rfl) (by kernel_rfl) (by kernel_rfl) (fun _ _ _ h => h) (yieldsIf_move (by kernel_rfl) _ rfl _ rfl) hHeld ?_
            simp only [Act.put, List.setIfInBounds_toArray, List.set_cons_zero, List.set_cons_succ]
            refine take_at (i := 15) (v := (Value.pointer (some ⟨b, 0, none⟩))) (some 63) rfl rfl (by kernel_rfl) (by kernel_rfl) (by kernel_rfl) (fun _ _ _ h => h) (yieldsIf_nil (by kernel_rfl) _ rfl _ rfl) hHeld ?_
            simp only [Act.put, List.setIfInBounds_toArray, List.set_cons_zero, List.set_cons_succ]
            refine take_at (i := 16) (v := (Value.pointer (some ⟨b, 7, none⟩))) (some 64) rfl rfl (by kernel_rfl) (by kernel_rfl) (by kernel_rfl) (fun _ _ _ h => h) (yieldsIf_faddr (by kernel_rfl) 81 _ 7 rfl _ _ 7 rfl (by kernel_rfl)) hHeld ?_
            simp only [Act.put, List.setIfInBounds_toArray, List.set_cons_zero, List.set_cons_succ]
            refine take_at (i := 17) (v := (.int .i64 st.right)) (some 65) rfl rfl (by kernel_rfl) (by kernel_rfl) (by kernel_rfl) (fun _ _ _ h => h) (yieldsIf_load1 (by kernel_rfl) 3 _ rfl _ _ _ rfl (by kernel_rfl) (fun _ h => h.2.2.1)) hHeld ?_
            simp only [Act.put, List.setIfInBounds_toArray, List.set_cons_zero, List.set_cons_succ]
            refine take_at (i := 18) (v := (Value.pointer (some ⟨b, 0, none⟩))) (some 66) rfl rfl (by kernel_rfl) (by kernel_rfl) (by kernel_rfl) (fun _ _ _ h => h) (yieldsIf_move (by kernel_rfl) _ rfl _ rfl) hHeld ?_
            simp only [Act.put, List.setIfInBounds_toArray, List.set_cons_zero, List.set_cons_succ]
            refine take_at (i := 19) (v := (Value.pointer (some ⟨b, 0, none⟩))) (some 67) rfl rfl (by kernel_rfl) (by kernel_rfl) (by kernel_rfl) (fun _ _ _ h => h) (yieldsIf_nil (by kernel_rfl) _ rfl _ rfl) hHeld ?_
            simp only [Act.put, List.setIfInBounds_toArray, List.set_cons_zero, List.set_cons_succ]
            refine take_at (i := 20) (v := (Value.pointer (some ⟨b, 0, none⟩))) (some 68) rfl rfl (by kernel_rfl) (by kernel_rfl) (by kernel_rfl) (fun _ _ _ h => h) (yieldsIf_faddr (by kernel_rfl) 81 _ 0 rfl _ _ 0 rfl (by kernel_rfl)) hHeld ?_
            simp only [Act.put, List.setIfInBounds_toArray, List.set_cons_zero, List.set_cons_succ]
            refine take_at (i := 21) (v := (Value.pointer (some ⟨fp, 0, none⟩))) (some 69) rfl rfl (by kernel_rfl) (by kernel_rfl) (by kernel_rfl) (fun _ _ _ h => h) (yieldsIf_load1 (by kernel_rfl) 46 _ rfl _ _ _ rfl (by kernel_rfl) (fun _ h => h.2.2.2.1)) hHeld ?_
            simp only [Act.put, List.setIfInBounds_toArray, List.set_cons_zero, List.set_cons_succ]
            refine call_at (i := 22) (v := .int .i64 W) (some 70) rfl rfl (by kernel_rfl) (by kernel_rfl) (by kernel_rfl) (fun _ _ _ h => h) (by kernel_rfl) 72 #[.pointer (some ⟨fp, 0, none⟩)] (fun _ _ => run_enter Tryd.func72 (by kernel_rfl) (by kernel_rfl) _ _ rfl #[.pointer (some ⟨fp, 0, none⟩)] (by kernel_rfl) _) (fun _ h => fwidth_any fp _ Fv _ h.2.2.2.2) hHeld ?_
            simp only [Act.put, List.setIfInBounds_toArray, List.set_cons_zero, List.set_cons_succ]
            refine take_at (i := 23) (v := (.bool false)) (some 71) rfl rfl (by kernel_rfl) (by kernel_rfl) (by kernel_rfl) (fun _ _ _ h => h) (Or.inl ⟨by kernel_rfl, fun W hW => ?_⟩) hHeld ?_
            · go_simp
            simp only [Act.put, List.setIfInBounds_toArray, List.set_cons_zero, List.set_cons_succ]
            refine take_at (i := 24) (v := (.bool false)) (some 72) rfl rfl (by kernel_rfl) (by kernel_rfl) (by kernel_rfl) (fun _ _ _ h => h) (Or.inl ⟨by kernel_rfl, fun W hW => ?_⟩) hHeld ?_
            · go_simp
            simp only [Act.put, List.setIfInBounds_toArray, List.set_cons_zero, List.set_cons_succ]
            refine take_at (i := 25) (v := (.bool false)) (some 73) rfl rfl (by kernel_rfl) (by kernel_rfl) (by kernel_rfl) (fun _ _ _ h => h) (Or.inl ⟨by rfl, fun W hW => ?_⟩) hHeld ?_
            · go_simp
            simp only [Act.put, List.setIfInBounds_toArray, List.set_cons_zero, List.set_cons_succ]
            refine wpAnyH_done (by kernel_rfl) ?_ _
            have r1 : wB.cell? ⟨b, 1, none⟩ = some (.int .i64 st.y) := HBr.out.blk.cell 1
            have z1 : wB.frozen? ⟨b, 1, none⟩ = false := HBr.out.blk.frozen 1
            have hg1 := only_setCell (p := ⟨b, 1, none⟩) (World.grownBy.refl wB (some b)) (.inl rfl) (.int .i64 l)
            have HB1 := hide (HBr.out.b_set (st' := { st with y := l }) (HBr.out.blk.set_ 1 (.int .i64 l)) hg1 (.inl ⟨rfl, rfl⟩) (.inl ⟨rfl, rfl⟩) rfl rfl)
            have HK1 := hide (HKr.out.trans (HBr.out.kept_b hg1))
            have HE := hide (bendsV_any g K b fp W sz ht al _ _ _ Ov Fv _ HB1.out HFL.out hW hi)
            clear hg1 HBr HKr c6 c5 c7 c0
            go_wp2_with fail
            refine HE.out.mono ?_
            rintro e w5 ⟨rfl, hb5, hk5⟩
            have HB5 := hide hb5
            have HK5 := hide (HK1.out.trans hk5)
            clear hb5 hk5
            go_wp2_with fail
            go_ret
            refine ⟨(by first | rfl | (rw [e2.out]; rfl)), ?_, HK5.out⟩
            rw [lowRes_yes e2.out, HLG.out]
            exact HB5.out
        · have q2 : (st.left == st.ind) = false := beq_eq_false_iff_ne.2 h2
          have e2 := hide (show noLow W st = false from by rw [HN.out, q1, q2]; rfl)
          clear h1 h2
          refine wp_region_HL 26 #[false, false, false, false, false, false, false, false, false, false, false, false, false, false, false, false, false, false, false, false, false, false, false, false, false, false] (by kernel_rfl) (by kernel_rfl) (S := fun Z => Z.cell? ⟨b, 6, none⟩ = some (.int .i64 st.left) ∧ Z.cell? ⟨b, 5, none⟩ = some (.int .i64 st.ind) ∧ Z.cell? ⟨b, 7, none⟩ = some (.int .i64 st.right) ∧ Z.cell? ⟨b, 0, none⟩ = some (.pointer (some ⟨fp, 0, none⟩)) ∧ Blk Z fp 89 #[.int .i64 W, Fv]) (by kernel_rfl) ⟨c6, c5, c7, c0, HBr.out.flo⟩ (fun hHeld => ?_)
          generalize wr.drew = wB at *
          refine take_at (i := 0) (v := (.int .i64 l)) (some 48) rfl rfl (by kernel_rfl) (by kernel_rfl) (by kernel_rfl) (fun _ _ _ h => h) (yieldsIf_move (by rfl) _ rfl _ rfl) hHeld ?_
          simp only [Act.put, List.setIfInBounds_toArray, List.set_cons_zero, List.set_cons_succ]
          refine take_at (i := 1) (v := (.int .i64 16777216)) (some 49) rfl rfl (by kernel_rfl) (by kernel_rfl) (by kernel_rfl) (fun _ _ _ h => h) (yieldsIf_move (by rfl) _ rfl _ rfl) hHeld ?_
          simp only [Act.put, List.setIfInBounds_toArray, List.set_cons_zero, List.set_cons_succ]
          refine take_at (i := 2) (v := (.bool false)) (some 50) rfl rfl (by kernel_rfl) (by kernel_rfl) (by kernel_rfl) (fun _ _ _ h => h) (Or.inl ⟨by rfl, fun W hW => ?_⟩) hHeld ?_
          · go_simp
          simp only [Act.put, List.setIfInBounds_toArray, List.set_cons_zero, List.set_cons_succ]
          refine take_at (i := 3) (v := (.bool false)) (some 51) rfl rfl (by kernel_rfl) (by kernel_rfl) (by kernel_rfl) (fun _ _ _ h => h) (yieldsIf_move (by rfl) _ rfl _ rfl) hHeld ?_
          simp only [Act.put, List.setIfInBounds_toArray, List.set_cons_zero, List.set_cons_succ]
          refine take_at (i := 4) (v := (Value.pointer (some ⟨b, 0, none⟩))) (some 52) rfl rfl (by kernel_rfl) (by kernel_rfl) (by kernel_rfl) (fun _ _ _ h => h) (yieldsIf_move (by kernel_rfl) _ rfl _ rfl) hHeld ?_
          simp only [Act.put, List.setIfInBounds_toArray, List.set_cons_zero, List.set_cons_succ]
          refine take_at (i := 5) (v := (Value.pointer (some ⟨b, 0, none⟩))) (some 53) rfl rfl (by kernel_rfl) (by kernel_rfl) (by kernel_rfl) (fun _ _ _ h => h) (yieldsIf_nil (by kernel_rfl) _ rfl _ rfl) hHeld ?_
          simp only [Act.put, List.setIfInBounds_toArray, List.set_cons_zero, List.set_cons_succ]
          refine take_at (i := 6) (v := (Value.pointer (some ⟨b, 6, none⟩))) (some 54) rfl rfl (by kernel_rfl) (by kernel_rfl) (by kernel_rfl) (fun _ _ _ h => h) (yieldsIf_faddr (by kernel_rfl) 81 _ 6 rfl _ _ 6 rfl (by kernel_rfl)) hHeld ?_
          simp only [Act.put, List.setIfInBounds_toArray, List.set_cons_zero, List.set_cons_succ]
          refine take_at (i := 7) (v := (.int .i64 st.left)) (some 55) rfl rfl (by kernel_rfl) (by kernel_rfl) (by kernel_rfl) (fun _ _ _ h => h) (yieldsIf_load1 (by kernel_rfl) 3 _ rfl _ _ _ rfl (by kernel_rfl) (fun _ h => h.1)) hHeld ?_
          simp only [Act.put, List.setIfInBounds_toArray, List.set_cons_zero, List.set_cons_succ]
          refine take_at (i := 8) (v := (Value.pointer (some ⟨b, 0, none⟩))) (some 56) rfl rfl (by kernel_rfl) (by kernel_rfl) (by kernel_rfl) (fun _ _ _ h => h) (yieldsIf_move (by kernel_rfl) _ rfl _ rfl) hHeld ?_
          simp only [Act.put, List.setIfInBounds_toArray, List.set_cons_zero, List.set_cons_succ]
          refine take_at (i := 9) (v := (Value.pointer (some ⟨b, 0, none⟩))) (some 57) rfl rfl (by kernel_rfl) (by kernel_rfl) (by kernel_rfl) (fun _ _ _ h => h) (yieldsIf_nil (by kernel_rfl) _ rfl _ rfl) hHeld ?_
          simp only [Act.put, List.setIfInBounds_toArray, List.set_cons_zero, List.set_cons_succ]
          refine take_at (i := 10) (v := (Value.pointer (some ⟨b, 5, none⟩))) (some 58) rfl rfl (by kernel_rfl) (by kernel_rfl) (by kernel_rfl) (fun _ _ _ h => h) (yieldsIf_faddr (by kernel_rfl) 81 _ 5 rfl _ _ 5 rfl (by kernel_rfl)) hHeld ?_
          simp only [Act.put, List.setIfInBounds_toArray, List.set_cons_zero, List.set_cons_succ]
          refine take_at (i := 11) (v := (.int .i64 st.ind)) (some 59) rfl rfl (by kernel_rfl) (by kernel_rfl) (by kernel_rfl) (fun _ _ _ h => h) (yieldsIf_load1 (by kernel_rfl) 3 _ rfl _ _ _ rfl (by kernel_rfl) (fun _ h => h.2.1)) hHeld ?_
          simp only [Act.put, List.setIfInBounds_toArray, List.set_cons_zero, List.set_cons_succ]
          refine take_at (i := 12) (v := (.bool false)) (some 60) rfl rfl (by kernel_rfl) (by kernel_rfl) (by kernel_rfl) (fun _ _ _ h => h) (Or.inl ⟨by kernel_rfl, fun W hW => ?_⟩) hHeld ?_
          · go_simp
          simp only [Act.put, List.setIfInBounds_toArray, List.set_cons_zero, List.set_cons_succ]
          refine take_at (i := 13) (v := (.bool false)) (some 61) rfl rfl (by kernel_rfl) (by kernel_rfl) (by kernel_rfl) (fun _ _ _ h => h) (yieldsIf_move (by kernel_rfl) _ rfl _ rfl) hHeld ?_
          simp only [Act.put, List.setIfInBounds_toArray, List.set_cons_zero, List.set_cons_succ]
          refine skipH (i := 14) (some 62) rfl rfl (by kernel_rfl) (by kernel_rfl) (by kernel_rfl) (fun _ _ _ h => h) (by kernel_rfl) hHeld ?_
          simp only [Act.put, List.setIfInBounds_toArray, List.set_cons_zero, List.set_cons_succ]
          refine skipH (i := 15) (some 63) rfl rfl (by kernel_rfl) (by kernel_rfl) (by kernel_rfl) (fun _ _ _ h => h) (by kernel_rfl) hHeld ?_
          simp only [Act.put, List.setIfInBounds_toArray, List.set_cons_zero, List.set_cons_succ]
          refine skipH (i := 16) (some 64) rfl rfl (by kernel_rfl) (by kernel_rfl) (by kernel_rfl) (fun _ _ _ h => h) (by kernel_rfl) hHeld ?_
          simp only [Act.put, List.setIfInBounds_toArray, List.set_cons_zero, List.set_cons_succ]
          refine skipH (i := 17) (some 65) rfl rfl (by kernel_rfl) (by kernel_rfl) (by kernel_rfl) (fun _ _ _ h => h) (by kernel_rfl) hHeld ?_
          simp only [Act.put, List.setIfInBounds_toArray, List.set_cons_zero, List.set_cons_succ]
          refine skipH (i := 18) (some 66) rfl rfl (by kernel_rfl) (by kernel_rfl) (by kernel_rfl) (fun _ _ _ h => h) (by kernel_rfl) hHeld ?_
          simp only [Act.put, List.setIfInBounds_toArray, List.set_cons_zero, List.set_cons_succ]
          refine skipH (i := 19) (some 67) rfl rfl (by kernel_rfl) (by kernel_rfl) (by kernel_rfl) (fun _ _ _ h => h) (by kernel_rfl) hHeld ?_
          simp only [Act.put, List.setIfInBounds_toArray, List.set_cons_zero, List.set_cons_succ]
          refine skipH (i := 20) (some 68) rfl rfl (by kernel_rfl) (by kernel_rfl) (by kernel_rfl) (fun _ _ _ h => h) (by kernel_rfl) hHeld ?_
          simp only [Act.put, List.setIfInBounds_toArray, List.set_cons_zero, List.set_cons_succ]
          refine skipH (i := 21) (some 69) rfl rfl (by kernel_rfl) (by kernel_rfl) (by kernel_rfl) (fun _ _ _ h => h) (by kernel_rfl) hHeld ?_
          simp only [Act.put, List.setIfInBounds_toArray, List.set_cons_zero, List.set_cons_succ]
          refine skipH (i := 22) (some 70) rfl rfl (by kernel_rfl) (by kernel_rfl) (by kernel_rfl) (fun _ _ _ h => h) (by kernel_rfl) hHeld ?_
          simp only [Act.put, List.setIfInBounds_toArray, List.set_cons_zero, List.set_cons_succ]
          refine skipH (i := 23) (some 71) rfl rfl (by kernel_rfl) (by kernel_rfl) (by kernel_rfl) (fun _ _ _ h => h) (by kernel_rfl) hHeld ?_
          simp only [Act.put, List.setIfInBounds_toArray, List.set_cons_zero, List.set_cons_succ]
          refine take_at (i := 24) (v := (.bool false)) (some 72) rfl rfl (by kernel_rfl) (by kernel_rfl) (by kernel_rfl) (fun _ _ _ h => h) (Or.inl ⟨by kernel_rfl, fun W hW => ?_⟩) hHeld ?_
          · go_simp
          simp only [Act.put, List.setIfInBounds_toArray, List.set_cons_zero, List.set_cons_succ]
          refine take_at (i := 25) (v := (.bool false)) (some 73) rfl rfl (by kernel_rfl) (by kernel_rfl) (by kernel_rfl) (fun _ _ _ h => h) (Or.inl ⟨by rfl, fun W hW => ?_⟩) hHeld ?_
          · go_simp
          simp only [Act.put, List.setIfInBounds_toArray, List.set_cons_zero, List.set_cons_succ]
          refine wpAnyH_done (by kernel_rfl) ?_ _
          have r1 : wB.cell? ⟨b, 1, none⟩ = some (.int .i64 st.y) := HBr.out.blk.cell 1
          have z1 : wB.frozen? ⟨b, 1, none⟩ = false := HBr.out.blk.frozen 1
          have hg1 := only_setCell (p := ⟨b, 1, none⟩) (World.grownBy.refl wB (some b)) (.inl rfl) (.int .i64 l)
          have HB1 := hide (HBr.out.b_set (st' := { st with y := l }) (HBr.out.blk.set_ 1 (.int .i64 l)) hg1 (.inl ⟨rfl, rfl⟩) (.inl ⟨rfl, rfl⟩) rfl rfl)
          have HK1 := hide (HKr.out.trans (HBr.out.kept_b hg1))
          have HE := hide (bendsV_any g K b fp W sz ht al _ _ _ Ov Fv _ HB1.out HFL.out hW hi)
          clear hg1 HBr HKr c6 c5 c7 c0
          go_wp2_with fail
          refine HE.out.mono ?_
          rintro e w5 ⟨rfl, hb5, hk5⟩
          have HB5 := hide hb5
          have HK5 := hide (HK1.out.trans hk5)
          clear hb5 hk5
          go_wp2_with fail
          go_ret
          refine ⟨(by first | rfl | (rw [e2.out]; rfl)), ?_, HK5.out⟩
          rw [lowRes_yes e2.out, HLG.out]
          exact HB5.out
end Go.Proofs.YtadlabndbomgmaaDoor
