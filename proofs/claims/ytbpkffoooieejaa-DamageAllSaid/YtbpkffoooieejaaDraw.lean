/- The walk of raster.Draw. -/
import Derived.BigQuiet
import Derived.Handy
import Derived.IntWalk
import Derived.Deep.QuietTactic
import Derived.Deep.MidRow
import Derived.Deep.RegionHeld3

import Derived.Test.YtbpkffoooieejaaRFlat
import Derived.Test.YtbpkffoooieejaaFlatOk
namespace Go.Proofs.Ytbpkffoooieejaa
open Go.ChangeShapes Go.WideShapes Go.ChangeAt Go.RowKit
def drawE (l : List Cm) (wd ht : Int) : Int × List Int :=
  if (1 ≤ wd ∧ wd ≤ 64) ∧ 1 ≤ ht ∧ ht ≤ 64 then (if (flatF l).1 ≠ 0 then ((flatF l).1, []) else (0, drawF glyphF (flatF l).2 wd.toNat ht.toNat)) else (1, [])
def DrawPost (l : List Cm) (wd ht : Int) (w : World) (e : Ending) (w' : World) : Prop :=
  ∃ v, e = .returned (.tuple #[v, .int .i64 (drawE l wd ht).1]) ∧ w'.ownsRow w.heap.size 3 1 v (drawE l wd ht).2.length ((drawE l wd ht).2.map (Value.int .i64)) ∧ Below w.heap.size w w'
theorem drawPost_none {l : List Cm} {wd ht e : Int} {w w' : World} (h : drawE l wd ht = (e, [])) (hb : Below w.heap.size w w') : DrawPost l wd ht w (.returned (.tuple #[.slice none 0 0, .int .i64 e])) w' :=
  ⟨_, by rw [h], by rw [h]; exact own_none _ _ _ _, hb⟩
/-- The pixels behind k rounds. -/
def pixK (fl : List Dr) (W n k : Nat) : List Int := (List.range n).map fun (i : Nat) => if i < k then pixF glyphF fl ((i : Int) % W * 64 + 32) ((i : Int) / W * 64 + 32) white else 0
theorem pixK_zero (fl : List Dr) (W n : Nat) : pixK fl W n 0 = List.replicate n 0 := by
  apply List.ext_getElem
  · simp [pixK]
  · intro i h1 h2; simp [pixK]
theorem pixK_all (fl : List Dr) (W H : Nat) : pixK fl W (W * H) (W * H) = drawF glyphF fl W H := by
  apply List.ext_getElem
  · simp [pixK, drawF]
  · intro i h1 h2
    have : i < W * H := by simpa [pixK] using h1
    simp [pixK, drawF, this]
theorem pixK_next (fl : List Dr) (W n k : Nat) (_ : k < n) : pixK fl W n (k + 1) = (pixK fl W n k).set k (pixF glyphF fl ((k : Int) % W * 64 + 32) ((k : Int) / W * 64 + 32) white) := by
  apply List.ext_getElem
  · simp [pixK]
  · intro i h1 h2
    simp only [pixK, List.getElem_map, List.getElem_range, List.getElem_set]
    by_cases h : k = i
    · subst h; simp
    · rw [if_neg h]
      by_cases h3 : i < k
      · rw [if_pos (by omega), if_pos h3]
      · rw [if_neg (by omega), if_neg h3]
set_option maxRecDepth 100000 in
set_option maxHeartbeats 8000000 in
theorem Draw_any (l : List Cm) (wd ht : Int) (B c : Nat) (A : Option Addr) (w : World) (hl : l.length ≤ 30) (hlt : ∀ x ∈ l, x.t.size ≤ 400) (ho : w.ownsRow B 43 9 (.slice A l.length c) l.length (cmCells l)) :
    Calls Try.prog 14 #[.slice A l.length c, .int .i64 wd, .int .i64 ht] w (DrawPost l wd ht w) := by
  have HO := hide ho
  have HT := hide hlt
  have hfit := flatF_fit hlt
  clear ho hlt
  by_cases hb : (1 ≤ wd ∧ wd ≤ 64) ∧ 1 ≤ ht ∧ ht ≤ 64
  · have z1 : decide (wd < 1) = false := decide_eq_false (by omega)
    have z2 : decide (64 < wd) = false := decide_eq_false (by omega)
    have z3 : decide (ht < 1) = false := decide_eq_false (by omega)
    have z4 : decide (64 < ht) = false := decide_eq_false (by omega)
    have HD := hide (show drawE l wd ht = if (flatF l).1 ≠ 0 then ((flatF l).1, []) else (0, drawF glyphF (flatF l).2 wd.toNat ht.toNat) from if_pos hb)
    have HFL := hide (fun w0 h0 => Flat_any l B c A w0 hl HT.out h0)
    generalize hF : flatF l = F at *
    have HF := hide hF
    clear hF
    obtain ⟨e, fl⟩ := F
    obtain ⟨W, rfl⟩ := Int.eq_ofNat_of_zero_le (show 0 ≤ wd by omega)
    obtain ⟨H, rfl⟩ := Int.eq_ofNat_of_zero_le (show 0 ≤ ht by omega)
    have hmul : W * H ≤ 64 * 64 := Nat.mul_le_mul (by omega) (by omega)
    have hwm : IntKind.i64.wrap ((W : Int) * (H : Int)) = ((W * H : Nat) : Int) := by rw [← Int.natCast_mul, IntWalk.i64_in _ (by omega)]
    obtain ⟨i0, hi0, hz0, hz1, hz2⟩ := info_parts int_info
    have hmk := fun Wo => run_make_rowN (P := Try.prog) 38 3 i0 _ Try.underlying38 hi0 hz0 .i64 .i64 (W * H) (W * H) (Nat.le_refl _) (by rw [hz2]; omega) (by omega) Wo
    rw [hz1, Nat.mul_one, show (Value.int .i64 0).cells = #[.int .i64 0] from rfl, made_ints] at hmk
    simp only [Int.natCast_mul] at hmk
    have HMK := hide hmk
    clear hz0 hz1 hz2 hi0 hmk
    by_cases he : e = 0
    · subst he
      have hdw : drawE l W H = (0, drawF glyphF fl W H) := by rw [HD.out]; simp
      have HDW := hide hdw
      have hmk := HMK.out
      clear hdw HD
      go_enter Try.func14, Try.ntmps14
      go_wp2_with (first | (go_at_call 28; refine (HFL.out _ HO.out).mono ?_; rintro e1 w1 ⟨v, he1, hown1, hb1⟩; rw [HF.out] at he1 hown1; subst he1; dsimp only at *) | fail)
      have hlt1 := hb1.size
      have hW0 := Blk.new w1 3 (intsA (List.replicate (W * H) 0))
      have hOA := hown1.alloc (.cells (intsA (List.replicate (W * H) 0)) 3)
      have hBA := hb1.alloc hlt1 (.cells (intsA (List.replicate (W * H) 0)) 3)
      rw [← pixK_zero fl W (W * H)] at hW0 hOA hBA ⊢
      have HW0 := hide hW0
      have HOA := hide hOA
      have hv := own_lt hown1
      clear hW0 hOA hmk hown1 hb1
      obtain ⟨bb, hbb⟩ : ∃ bb : Nat, bb = w1.heap.size := ⟨_, rfl⟩
      rw [← hbb] at HW0 hlt1 hv ⊢
      generalize w1.alloc (.cells (intsA (pixK fl W (W * H) 0)) 3) = wA at *
      clear hbb
      obtain ⟨X, cx, rfl, _, _⟩ := own_reads HOA.out
      go_loopw [40] (fun i wr => ∃ k : Nat, k ≤ W * H ∧ i = .int .i64 k ∧ Blk wr bb 3 (intsA (pixK fl W (W * H) k)) ∧ wr.ownsRow w.heap.size 76 14 (.slice X fl.length cx) fl.length (drCells fl) ∧ Below w.heap.size w wr) (fun i _ => W * H - (intOf i).toNat)
      case atStart => exact ⟨0, Nat.zero_le _, rfl, HW0.out, HOA.out, hBA⟩
      case round =>
        obtain ⟨k, hk, rfl, hblk, hown, hbel⟩ := hrel
        have HB := hide hblk
        have HOW := hide hown
        clear hblk hown
        by_cases hlt : k < W * H
        · have HCX := hide (show (intsA (pixK fl W (W * H) k))[k]? = some (.int .i64 0) from by
            rw [← Array.getElem?_toList, intsA_list]
            simp [pixK, hlt])
          have hcell : wr.cell? ⟨bb, k, none⟩ = some (.int .i64 0) := by rw [HB.out.cell k]; exact HCX.out
          have hmod : 0 ≤ (k : Int) % W ∧ (k : Int) % W ≤ 64 := by
            have h1 := Int.emod_nonneg (k : Int) (show (W : Int) ≠ 0 by omega)
            have h2 := Int.emod_lt_of_pos (k : Int) (show (0 : Int) < W by omega)
            omega
          have hdiv : 0 ≤ (k : Int) / W ∧ (k : Int) / W ≤ 4096 := by
            have h1 := Int.ediv_nonneg (show (0 : Int) ≤ k by omega) (show (0 : Int) ≤ W by omega)
            have h2 := Int.ediv_le_self (W : Int) (show (0 : Int) ≤ k by omega)
            omega
          have hkm : (k : Int).tmod W = (k : Int) % W := Int.tmod_eq_emod_of_nonneg (by omega)
          have hkd : (k : Int).tdiv W = (k : Int) / W := Int.tdiv_eq_ediv_of_nonneg (by omega)
          have hfr : wr.frozen? ⟨bb, k, none⟩ = false := HB.out.frozen _
          have hne0 : ((W : Int) == 0) = false := beq_eq_false_iff_ne.2 (by omega)
          have hkb : k < 4096 := by omega
          have hWn : ¬ W = 0 := by omega
          have HPX := hide (pixK_next fl W (W * H) k hlt)
          have hw2 : IntKind.i64.wrap ((k : Int) % W) = (k : Int) % W := by rw [IntWalk.i64_in _ (by omega)]
          have hw3 : IntKind.i64.wrap ((k : Int) / W) = (k : Int) / W := by rw [IntWalk.i64_in _ (by omega)]
          have hw4 : IntKind.i64.wrap ((k : Int) % W * 64) = (k : Int) % W * 64 := by rw [IntWalk.i64_in _ (by omega)]
          have hw5 : IntKind.i64.wrap ((k : Int) / W * 64) = (k : Int) / W * 64 := by rw [IntWalk.i64_in _ (by omega)]
          have hw6 : IntKind.i64.wrap ((k : Int) % W * 64 + 32) = (k : Int) % W * 64 + 32 := by rw [IntWalk.i64_in _ (by omega)]
          have hw7 : IntKind.i64.wrap ((k : Int) / W * 64 + 32) = (k : Int) / W * 64 + 32 := by rw [IntWalk.i64_in _ (by omega)]
          have hkl : (k : Int) < ((W * H : Nat) : Int) := by omega
          have HPA := hide (fun w0 (h0 : w0.ownsRow w.heap.size 76 14 (.slice X fl.length cx) fl.length (drCells fl)) => Pixel_any fl ((k : Int) % W * 64 + 32) ((k : Int) / W * 64 + 32) 4294967295 w.heap.size cx X w0 (by omega) hfit.1 (by omega) (by omega) h0)
          go_wp2_with fail
          go_region_held3 (fun _ => True) (first | trivial | exact True.intro) (first | (go_at_call 29; refine (HPA.out _ HOW.out.drew).mono ?_; rintro e w5 ⟨rfl, hb5⟩; have HB5 := hide (HB.out.drew.below hb5 HB.out.drew.lt); have hc5 : w5.cell? ⟨bb, k, none⟩ = some (.int .i64 0) := (HB5.out.cell k).trans HCX.out; have hf5 : w5.frozen? ⟨bb, k, none⟩ = false := HB5.out.frozen _) | fail)
          all_goals
            have hb6 := HB5.out.set_ k (.int .i64 (pixF glyphF fl ((k : Int) % W * 64 + 32) ((k : Int) / W * 64 + 32) 4294967295))
            have hrow := own_keep HOW.out.drew hb5 (own_lt HOW.out.drew)
            have hlow := below_then hbel.drew (Nat.le_refl _) hb5
            clear hcell hmod hdiv hkm hkd hfr hne0 hWn hw2 hw3 hw4 hw5 hw6 hw7 hc5 hf5
            have hb7 := hide (show Blk (w5.setCell ⟨bb, k, none⟩ (.int .i64 (pixF glyphF fl ((k : Int) % W * 64 + 32) ((k : Int) / W * 64 + 32) 4294967295))) bb 3 (intsA (pixK fl W (W * H) (k + 1))) from by rw [HPX.out, ← intsA_set]; exact hb6)
            have hrw := hide (own_far hrow (p := ⟨bb, k, none⟩) (fun h => Nat.lt_irrefl _ (hv _ h)) (.int .i64 (pixF glyphF fl ((k : Int) % W * 64 + 32) ((k : Int) / W * 64 + 32) 4294967295)))
            have hlw := hlow.setCell (p := ⟨bb, k, none⟩) hlt1 (.int .i64 (pixF glyphF fl ((k : Int) % W * 64 + 32) ((k : Int) / W * 64 + 32) 4294967295))
            clear hb6 hrow hlow
            go_wp2_with fail
            go_roundw
            case rel => exact ⟨k + 1, by omega, by go_num, hb7.out, hrw.out, hlw⟩
            case measure => simp [intOf]; omega
        · obtain rfl : k = W * H := by omega
          rw [pixK_all] at HB
          have hrow := own_of_blk (base := w.heap.size) (size := 1) (n := W * H) HB.out hlt1 (by simp only [maxLen]; omega) (by rw [← Array.length_toList, intsA_list, List.length_map, draw_len, Nat.mul_one])
          rw [intsA_list] at hrow
          have HR := hide hrow
          clear hrow
          go_wp2_with fail
          go_ret2
          exact ⟨.slice (some ⟨bb, 0, none⟩) (W * H) (W * H), by rw [HDW.out]; rfl, by rw [HDW.out, draw_len]; exact HR.out, hbel⟩
    · have hdw : drawE l W H = (e, []) := by rw [HD.out]; simp [he]
      have HDW := hide hdw
      have z5 : (e != 0) = true := by simp [he]
      clear hdw HD he
      go_enter Try.func14, Try.ntmps14
      go_wp2_with (first | (go_at_call 28; refine (HFL.out _ HO.out).mono ?_; rintro e1 w1 ⟨v, he1, hown1, hb1⟩; rw [HF.out] at he1 hown1; subst he1; dsimp only at *) | fail)
      go_ret2
      exact drawPost_none HDW.out hb1
  · have hdw : drawE l wd ht = (1, []) := if_neg hb
    have HDW := hide hdw
    clear hdw
    have h4 : wd < 1 ∨ (¬ wd < 1 ∧ 64 < wd) ∨ (¬ wd < 1 ∧ ¬ 64 < wd ∧ ht < 1) ∨ (¬ wd < 1 ∧ ¬ 64 < wd ∧ ¬ ht < 1 ∧ 64 < ht) := by omega
    clear hb hfit
    rcases h4 with h | ⟨h1, h⟩ | ⟨h1, h2, h⟩ | ⟨h1, h2, h3, h⟩
    · have z1 : decide (wd < 1) = true := decide_eq_true h
      clear h
      go_enter Try.func14, Try.ntmps14
      go_wp2_with fail
      go_ret2
      exact drawPost_none HDW.out (Below.refl _ _)
    · have z1 : decide (wd < 1) = false := decide_eq_false h1
      have z2 : decide (64 < wd) = true := decide_eq_true h
      clear h h1
      go_enter Try.func14, Try.ntmps14
      go_wp2_with fail
      go_ret2
      exact drawPost_none HDW.out (Below.refl _ _)
    · have z1 : decide (wd < 1) = false := decide_eq_false h1
      have z2 : decide (64 < wd) = false := decide_eq_false h2
      have z3 : decide (ht < 1) = true := decide_eq_true h
      clear h h1 h2
      go_enter Try.func14, Try.ntmps14
      go_wp2_with fail
      go_ret2
      exact drawPost_none HDW.out (Below.refl _ _)
    · have z1 : decide (wd < 1) = false := decide_eq_false h1
      have z2 : decide (64 < wd) = false := decide_eq_false h2
      have z3 : decide (ht < 1) = false := decide_eq_false h3
      have z4 : decide (64 < ht) = true := decide_eq_true h
      clear h h1 h2 h3
      go_enter Try.func14, Try.ntmps14
      go_wp2_with fail
      go_ret2
      exact drawPost_none HDW.out (Below.refl _ _)
end Go.Proofs.Ytbpkffoooieejaa
