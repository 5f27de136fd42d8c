/- The walk of font.Dots: the dots of a rune. -/
import Derived.BigQuiet
import Derived.Handy
import Derived.IntWalk
import Derived.Deep.QuietTactic
import Derived.Deep.MidRow
import Derived.Test.YtbpkffoooieejaaFont
namespace Go.Proofs.Ytbpkffoooieejaa
open Go.ChangeShapes Go.WideShapes Go.ChangeAt Go.RowKit
def dotsL (r : Int) (k : Nat) : List Int := (List.range 8).map fun (i : Nat) => if i < k then rowD r i else 0
theorem dotsL_len (r : Int) (k : Nat) : (dotsL r k).length = 8 := by simp [dotsL]
theorem dotsL_zero (r : Int) : intsA (dotsL r 0) = #[.int .i64 0, .int .i64 0, .int .i64 0, .int .i64 0, .int .i64 0, .int .i64 0, .int .i64 0, .int .i64 0] := rfl
theorem dotsL_next (r : Int) (k : Nat) (hk : k < 8) : (dotsL r k).set k (rowD r k) = dotsL r (k + 1) := by
  apply List.ext_getElem?
  intro q
  rw [List.getElem?_set]
  unfold dotsL
  by_cases hq : q < 8
  · by_cases e : k = q
    · subst e; simp [hq]
    · simp only [if_neg e, List.getElem?_map, List.getElem?_range hq, Option.map_some]
      by_cases h : q < k
      · rw [if_pos h, if_pos (by omega)]
      · rw [if_neg h, if_neg (by omega)]
  · have h1 : ∀ f : Nat → Int, ((List.range 8).map f)[q]? = none := fun f => List.getElem?_eq_none (by simp; omega)
    rw [h1, h1]
    split
    · rw [if_neg (by simp; omega)]
    · rfl
theorem dotsL_none (r : Int) (h : r = 32 ∨ fourthsF r = 0) : dotsL r 8 = dotsL r 0 := by
  unfold dotsL
  refine List.map_congr_left fun i hi => ?_
  rw [if_pos (by simpa using hi), if_neg (by omega)]
  unfold rowD
  rw [if_pos h]
theorem dots_u : Try.prog.underlying 99 = some (.array 8 3) := by kernel_rfl
theorem dots_i (l : List Int) (h : l.length = 8) : (Try.prog.info? 99).map (·.size) = some (intsA l).size := by rw [intsA_size, h]; kernel_rfl
theorem zero_dots (w : World) : (zeroValue 99).run Try.prog w = .ok (.agg (intsA (dotsL 0 0))) w := by rw [dotsL_zero]; kernel_rfl
theorem intsA_one (l : List Int) : (intsA l).all (·.oneCell') = true := by
  rw [← Array.all_toList, intsA_list, List.all_eq_true]
  intro x hx
  obtain ⟨a, _, rfl⟩ := List.mem_map.1 hx
  rfl
set_option maxRecDepth 100000 in
set_option maxHeartbeats 2000000 in
theorem Dots_any (r : Int) (w : World) (hr : -2147483648 ≤ r ∧ r ≤ 1114111) : Calls Try.prog 55 #[.int .i32 r] w fun e w' => e = .returned (.agg (intsA (dotsL r 8))) ∧ Below w.heap.size w w' := by
  have hz := zero_dots
  have HI := hide (dots_i (dotsL r 0) (dotsL_len _ _))
  have HI8 := hide (dots_i (dotsL r 8) (dotsL_len _ _))
  have H0 := hide (show intsA (dotsL 0 0) = intsA (dotsL r 0) from rfl)
  have HD := hide (fun h => dotsL_none r h)
  have hR := hide (fun (k : Nat) => (show rowD r k = if r = 32 ∨ fourthsF r = 0 then 0 else (r + 1) * (k + 3) * 37 % 256 + (1 - (r + 1) * (k + 3) * 37 % 256 % 2) from rfl))
  go_enter Try.func55, Try.ntmps55
  have HB := hide (Blk.new w 99 (intsA (dotsL 0 0)))
  have HI0 := hide (dots_i (dotsL 0 0) (dotsL_len _ _))
  have hb0 : Below w.heap.size w (w.alloc (.cells (intsA (dotsL 0 0)) 99)) := by go_grown
  by_cases h1 : r = 32
  · have z1 : (r == 32) = true := by simp [h1]
    have HD1 := hide (HD.out (.inl h1))
    clear h1
    go_wp2_with (first | (refine wpList_load_row rfl 99 _ rfl w.heap.size rfl 99 (intsA (dotsL 0 0)) (0, 0) _ HB.out dots_u rfl HI0.out ?_) | (refine wpList_store_blk rfl 99 _ _ rfl w.heap.size 99 (intsA (dotsL 0 0)) (intsA (dotsL 0 0)) rfl rfl HB.out rfl HI0.out (intsA_one _) ?_; intro w9 hB9 hg9; have HB9 := hide hB9; clear hB9) | fail)
    refine bodyPost_ret (results_cell_row rfl _ _ w.heap.size 99 (intsA (dotsL r 8)) (0, 0) _ rfl (by rw [HD1.out, ← H0.out]; exact HB9.out) dots_u rfl HI8.out) rfl ?_
    exact ⟨rfl, below_grown hb0 (Nat.le_refl _) hg9 (Nat.le_refl _)⟩
  · have z1 : (r == 32) = false := beq_eq_false_iff_ne.2 h1
    by_cases h0 : fourthsF r = 0
    · have HD1 := hide (HD.out (.inr h0))
      have HZ := hide h0
      clear h0
      go_wp2_with (first | (go_at_call 54; refine (fourths_any _ _).mono ?_; rintro e w' ⟨rfl, k1, rfl⟩; rw [HZ.out]; have HB1 := hide (HB.out.drewN k1); have hb1 := below_drewN hb0 k1) | (refine wpList_load_row rfl 99 _ rfl w.heap.size rfl 99 (intsA (dotsL 0 0)) (0, 0) _ HB1.out dots_u rfl HI0.out ?_) | (refine wpList_store_blk rfl 99 _ _ rfl w.heap.size 99 (intsA (dotsL 0 0)) (intsA (dotsL 0 0)) rfl rfl HB1.out rfl HI0.out (intsA_one _) ?_; intro w9 hB9 hg9; have HB9 := hide hB9; clear hB9) | fail)
      refine bodyPost_ret (results_cell_row rfl _ _ w.heap.size 99 (intsA (dotsL r 8)) (0, 0) _ rfl (by rw [HD1.out, ← H0.out]; exact HB9.out) dots_u rfl HI8.out) rfl ?_
      exact ⟨rfl, below_grown hb1 (Nat.le_refl _) hg9 (Nat.le_refl _)⟩
    · have hf := fourths_bd r
      have h32 : 32 ≤ r := by
        refine Decidable.byContradiction fun hn => h0 ?_
        unfold fourthsF
        rw [if_pos (.inl (by omega))]
      have HR := hide (fun (k : Nat) => (show rowD r k = (r + 1) * (k + 3) * 37 % 256 + (1 - (r + 1) * (k + 3) * 37 % 256 % 2) from (hR.out k).trans (if_neg (by omega))))
      have z2 : (fourthsF r == 0) = false := beq_eq_false_iff_ne.2 h0
      clear h0 HD hR
      go_wp2_with (first | (go_at_call 54; refine (fourths_any _ _).mono ?_; rintro e w' ⟨rfl, k1, rfl⟩) | fail)
      have HB1 := hide (show Blk ((w.alloc (.cells (intsA (dotsL 0 0)) 99)).drewN k1) w.heap.size 99 (intsA (dotsL r 0)) from by rw [← H0.out]; exact HB.out.drewN k1)
      have hb1 := below_drewN hb0 k1
      generalize (w.alloc (.cells (intsA (dotsL 0 0)) 99)).drewN k1 = wA at *
      clear HB hb0 z1 z2 h1 hz
      go_loopw [3, 12] (fun _ i wr => ∃ k : Nat, k ≤ 8 ∧ i = .int .i64 k ∧ Blk wr w.heap.size 99 (intsA (dotsL r k)) ∧ Below w.heap.size w wr) (fun _ i _ => 8 - (intOf i).toNat)
      case atStart => exact ⟨0, Nat.zero_le _, rfl, HB1.out, hb1⟩
      case round =>
        obtain ⟨k, hk, rfl, hblk, hbel⟩ := hrel
        have HBk := hide hblk
        clear hblk
        by_cases hlt : k < 8
        · have hks : k < (intsA (dotsL r k)).size := by rw [intsA_size, dotsL_len]; exact hlt
          obtain ⟨v0, s0⟩ : ∃ v0, wr.cell? ⟨w.heap.size, k, none⟩ = some v0 := ⟨_, (HBk.out.cell k).trans (Array.getElem?_eq_getElem hks)⟩
          have z0 : wr.frozen? ⟨w.heap.size, k, none⟩ = false := HBk.out.frozen _
          have hk1 : (0 : Int) ≤ (k : Int) := by omega
          have hk2 : (k : Int) < 8 := by omega
          have hp0 : 0 ≤ (r + 1) * ((k : Int) + 3) := Int.mul_nonneg (by omega) (by omega)
          have hp1 : (r + 1) * ((k : Int) + 3) ≤ 1114112 * 11 := Int.mul_le_mul (by omega) (by omega) (by omega) (by omega)
          have ho := or1 ((r + 1) * ((k : Int) + 3) * 37 % 256) (by omega) (by omega)
          rw [← HR.out k] at ho
          have hst := HBk.out.set_ k (.int .i64 (rowD r k))
          rw [intsA_set, dotsL_next r k hlt] at hst
          have HST := hide hst
          clear hst hks
          go_wp2_with fail
          refine ⟨⟨k + 1, by omega, by go_num, HST.out, hbel.setCell (Nat.le_refl _) _⟩, ?_⟩
          simp only [intOf]
          omega
        · obtain rfl : k = 8 := by omega
          go_wp2_with (first | (refine wpList_load_row rfl 99 _ rfl w.heap.size rfl 99 (intsA (dotsL r 8)) (0, 0) _ HBk.out dots_u rfl HI8.out ?_) | (refine wpList_store_blk rfl 99 _ _ rfl w.heap.size 99 (intsA (dotsL r 8)) (intsA (dotsL r 8)) rfl rfl HBk.out rfl HI8.out (intsA_one _) ?_; intro w9 hB9 hg9; have HB9 := hide hB9; clear hB9) | fail)
          refine bodyPost_ret (results_cell_row rfl _ _ w.heap.size 99 (intsA (dotsL r 8)) (0, 0) _ rfl HB9.out dots_u rfl HI8.out) rfl ?_
          exact ⟨rfl, below_grown hbel (Nat.le_refl _) hg9 (Nat.le_refl _)⟩
end Go.Proofs.Ytbpkffoooieejaa
