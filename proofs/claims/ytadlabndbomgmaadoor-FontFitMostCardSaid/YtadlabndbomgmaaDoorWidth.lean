/- The walks of Width, Fit, Descent; the closed fact on widths. -/
import Derived.BigQuiet
import Derived.Handy
import Derived.IntWalk
import Derived.Lib.OthersKept
import Derived.Deep.QuietTactic
import Derived.Test.YtadlabndbomgmaaDoorFont
import Derived.Test.YtadlabndbomgmaaDoorFitPlain
namespace Go.Proofs.YtadlabndbomgmaaDoor
open Go.ChangeShapes Go.WideShapes Go.ChangeAt Go.RowKit
theorem wide_step (size sp : Int) (s : ByteArray) (pos : Nat) (h : pos < s.size) : wideS size sp (runesAt s pos) = advF ((Utf8.decode s pos).1 : Int) size + sp + wideS size sp (runesAt s (pos + (Utf8.decode s pos).2)) := by
  rw [runesAt_step s pos h]; rfl
set_option maxRecDepth 100000 in
set_option maxHeartbeats 2000000 in
theorem Width_any (s : ByteArray) (size sp0 : Int) (w : World) (hs : s.size ≤ 400) :
    Calls Tryd.prog 9 #[.string s, .int .i64 size, .int .i64 sp0] w fun e w' => e = .returned (.int .i64 (widthF size sp0 (runesL s.data.toList))) ∧ Below w.heap.size w w' := by
  have HW := hide (show cut (wideS size (cut sp0) (runesAt s 0)) = widthF size sp0 (runesL s.data.toList) from by rw [runes_all]; rfl)
  have HSZ := sizeF_bd size
  have hb1 := cut_lo sp0
  have hb2 := cut_hi sp0
  have hlen := runesAt_len s s.size 0 (by omega)
  generalize hsp : cut sp0 = sp at *
  have HSP := hide hsp
  clear hsp hlen
  generalize htot : wideS size sp (runesAt s 0) = tot at *
  have HT := hide htot
  clear htot
  go_enter Tryd.func9, Tryd.ntmps9
  go_wp2_with fail
  have hit0 : (w.iter s 0).heap[w.heap.size]? = some (.stringIter s 0) := World.iter_heap w s 0
  have hb3 : Below w.heap.size w (w.iter s 0) := (Below.refl _ _).alloc (Nat.le_refl _) _
  have HIT0 := hide hit0
  clear hit0
  go_loopw [7] (fun v W => ∃ (pos : Nat) (acc : Int), v = .int .i64 acc ∧ pos ≤ s.size ∧ W.heap[w.heap.size]? = some (.stringIter s pos) ∧ Below w.heap.size w W ∧ Hid (acc + wideS size sp (runesAt s pos) = tot) ∧ -33554432 * (pos : Int) ≤ acc ∧ acc ≤ 33554432 * (pos : Int)) (fun _ W => s.size - W.iterPos w.heap.size)
  case atStart => exact ⟨0, 0, rfl, Nat.zero_le _, HIT0.out, hb3, hide (by rw [HT.out]; exact Int.zero_add _), by omega, by omega⟩
  case round =>
    obtain ⟨pos, acc, rfl, hps, hit, hbw, hgs, hl1, hl2⟩ := hrel
    have hszw : w.heap.size < wr.heap.size := (Array.getElem?_eq_some_iff.1 hit).1
    by_cases hp : pos < s.size
    · have hnx : ∀ ty, (Instr.next (.pointer (some ⟨w.heap.size, 0, none⟩)) true ty).run Tryd.prog wr = _ := fun ty => Lib.run_next_any_at wr w.heap.size s pos ty hit hp
      obtain ⟨d1, d2, d3⟩ := decode_wd s pos hp
      have HGS := hide (show acc + (advF ((Utf8.decode s pos).1 : Int) size + sp) + wideS size sp (runesAt s (pos + (Utf8.decode s pos).2)) = tot from by have h8 := hgs.out; rw [wide_step size sp s pos hp] at h8; omega)
      have hit2 := Lib.iterAt_heap wr w.heap.size s pos (pos + (Utf8.decode s pos).2) hit
      have hbw2 := Lib.below_iterAt hbw (Nat.le_refl _) s (pos + (Utf8.decode s pos).2)
      have hpos2 : wr.iterPos w.heap.size = pos := by simp [World.iterPos, hit]
      have HP2 := hide hpos2
      have HI2 := hide hit2
      clear hit hit2 hpos2 hgs hbw
      generalize wr.iterAt w.heap.size s (pos + (Utf8.decode s pos).2) = W1 at *
      generalize Utf8.decode s pos = d at *
      obtain ⟨dr, dw⟩ := d
      dsimp only at *
      have had := adv_bd dr size
      go_wp2_with (first | (go_at_call 23; refine (Advance_any _ _ _).mono ?_; rintro e w' ⟨rfl, k1, rfl⟩) | (go_at_call 13; refine (cut_any _ _).mono ?_; rintro e w' ⟨rfl, rfl⟩; rw [HSP.out]) | fail)
      go_roundw
      case rel => exact ⟨pos + dw, acc + (advF dr size + sp), by go_num, by omega, HI2.out, below_drewN hbw2 _, HGS, by omega, by omega⟩
      case measure =>
        rw [HP2.out]
        simp only [World.iterPos, World.drewN, HI2.out]
        omega
    · have hnx : ∀ ty, (Instr.next (.pointer (some ⟨w.heap.size, 0, none⟩)) true ty).run Tryd.prog wr = _ := fun ty => Lib.run_next_end_at wr w.heap.size s pos ty hit hp
      have HE := hide (show acc = tot from by have h8 := hgs.out; rw [runesAt_end s pos (by omega)] at h8; simpa [wideS] using h8)
      go_wp2_with (first | (go_at_call 13; refine (cut_any _ _).mono ?_; rintro e w' ⟨rfl, rfl⟩) | fail)
      go_ret
      exact ⟨ret_int (by rw [HE.out]; exact HW.out), hbw⟩
theorem Descent_any (size : Int) (w : World) : Calls Tryd.prog 11 #[.int .i64 size] w fun e w' => e = .returned (.int .i64 (sizeF size - ascF size)) ∧ w = w' := by
  have h1 := asc_bd size
  have h2 := sizeF_bd size
  go_enter Tryd.func11, Tryd.ntmps11
  go_wp2_with (first | (go_at_call 25; refine (fcut_any _ _).mono ?_; rintro e w' ⟨rfl, rfl⟩) | (go_at_call 10; refine (Ascent_any _ _).mono ?_; rintro e w' ⟨rfl, rfl⟩) | fail)
  go_ret
  exact ⟨rfl, rfl⟩
theorem im_width : widthF 64 1 (runesL (⟨#[105, 109]⟩ : ByteArray).data.toList) = 66 := by kernel_rfl
theorem fonted_any (w : World) : Calls Tryd.prog 8 #[] w fun e w' => e = .returned (.bool true) ∧ Below w.heap.size w w' := by
  have HI := hide im_width
  have H := hide (Width_any ⟨#[105, 109]⟩ 64 1 w (by decide))
  go_enter Tryd.func8, Tryd.ntmps8
  go_wp2_with fail
  refine H.out.mono ?_
  rintro e w1 ⟨rfl, hb1⟩
  rw [HI.out]
  go_wp2_with fail
  go_ret
  exact ⟨rfl, hb1⟩
set_option maxRecDepth 100000 in
set_option maxHeartbeats 2000000 in
theorem Fit_any (s : ByteArray) (size sp0 room0 : Int) (w : World) (hs : s.size ≤ 400) (hroom : 0 ≤ cut room0) :
    Calls Tryd.prog 12 #[.string s, .int .i64 size, .int .i64 sp0, .int .i64 room0] w fun e w' => e = .returned (.int .i64 (fitF size (cut sp0) (cut room0) s : Nat)) ∧ Below w.heap.size w w' := by
  have HSZ := sizeF_bd size
  have hb1 := cut_lo sp0
  have hb2 := cut_hi sp0
  have HT := hide (show fitG size (cut sp0) (cut room0) s s.size 0 0 = fitF size (cut sp0) (cut room0) s from rfl)
  generalize hsp : cut sp0 = sp at *
  have HSP := hide hsp
  generalize hrm : cut room0 = room at *
  have HRM := hide hrm
  clear hsp hrm
  generalize fitF size sp room s = ans at *
  go_enter Tryd.func12, Tryd.ntmps12
  go_wp2_with (first | (go_at_call 13; refine (cut_any _ _).mono ?_; rintro e w' ⟨rfl, rfl⟩; rw [HRM.out]) | fail)
  have hit0 : (w.iter s 0).heap[w.heap.size]? = some (.stringIter s 0) := World.iter_heap w s 0
  have hb3 : Below w.heap.size w (w.iter s 0) := (Below.refl _ _).alloc (Nat.le_refl _) _
  have HIT0 := hide hit0
  clear hit0
  go_loopw [9] (fun v W => ∃ (pos f : Nat) (acc : Int), v = .int .i64 acc ∧ pos ≤ s.size ∧ W.heap[w.heap.size]? = some (.stringIter s pos) ∧ Below w.heap.size w W ∧ s.size - pos ≤ f ∧ Hid (fitG size sp room s f pos acc = ans) ∧ -33554432 * (pos : Int) ≤ acc ∧ acc ≤ 33554432 * (pos : Int)) (fun _ W => s.size - W.iterPos w.heap.size)
  case atStart => exact ⟨0, s.size, 0, rfl, Nat.zero_le _, HIT0.out, hb3, by omega, HT, by omega, by omega⟩
  case round =>
    obtain ⟨pos, f, acc, rfl, hps, hit, hbw, hf, hgs, hl1, hl2⟩ := hrel
    have hszw : w.heap.size < wr.heap.size := (Array.getElem?_eq_some_iff.1 hit).1
    by_cases hp : pos < s.size
    · have hnx : ∀ ty, (Instr.next (.pointer (some ⟨w.heap.size, 0, none⟩)) true ty).run Tryd.prog wr = _ := fun ty => Lib.run_next_any_at wr w.heap.size s pos ty hit hp
      obtain ⟨d1, d2, d3⟩ := decode_wd s pos hp
      obtain ⟨f, rfl⟩ : ∃ f0, f = f0 + 1 := ⟨f - 1, by omega⟩
      have HGS := hide (show (if room < cut (acc + (advF ((Utf8.decode s pos).1 : Int) size + sp)) then pos else fitG size sp room s f (pos + (Utf8.decode s pos).2) (acc + (advF ((Utf8.decode s pos).1 : Int) size + sp))) = ans from by have h8 := hgs.out; simp only [fitG] at h8; rw [if_pos hp] at h8; exact h8)
      have hit2 := Lib.iterAt_heap wr w.heap.size s pos (pos + (Utf8.decode s pos).2) hit
      have hbw2 := Lib.below_iterAt hbw (Nat.le_refl _) s (pos + (Utf8.decode s pos).2)
      have hpos2 : wr.iterPos w.heap.size = pos := by simp [World.iterPos, hit]
      have HP2 := hide hpos2
      have HI2 := hide hit2
      clear hit hit2 hpos2 hgs hbw
      generalize wr.iterAt w.heap.size s (pos + (Utf8.decode s pos).2) = W1 at *
      generalize Utf8.decode s pos = d at *
      obtain ⟨dr, dw⟩ := d
      dsimp only at *
      have had := adv_bd dr size
      go_wp2_with fail
      refine (Advance_any _ _ _).mono ?_
      rintro e w4 ⟨rfl, k1, rfl⟩
      have hbw4 := below_drewN hbw2 k1
      have HI4 := hide (show (W1.drewN k1).heap[w.heap.size]? = some (.stringIter s (pos + dw)) from HI2.out)
      clear hbw2 HI2 hnx
      generalize W1.drewN k1 = wF at *
      generalize advF (dr : Int) size = adv at *
      by_cases hc : room < cut (acc + (adv + sp))
      · have z1 : decide (room < cut (acc + (adv + sp))) = true := decide_eq_true hc
        have HA := hide (show pos = ans from by have h8 := HGS.out; rw [if_pos hc] at h8; exact h8)
        clear hc HGS
        go_wp2_with (first | (go_at_call 13; refine (cut_any sp0 _).mono ?_; rintro e w' ⟨rfl, rfl⟩; rw [HSP.out]) | (go_at_call 13; refine (cut_any _ _).mono ?_; rintro e w' ⟨rfl, rfl⟩) | fail)
        go_ret
        exact ⟨ret_int (by rw [HA.out]), hbw4⟩
      · have z1 : decide (room < cut (acc + (adv + sp))) = false := decide_eq_false hc
        have HA := hide (show fitG size sp room s f (pos + dw) (acc + (adv + sp)) = ans from by have h8 := HGS.out; rw [if_neg hc] at h8; exact h8)
        clear hc HGS
        go_wp2_with (first | (go_at_call 13; refine (cut_any sp0 _).mono ?_; rintro e w' ⟨rfl, rfl⟩; rw [HSP.out]) | (go_at_call 13; refine (cut_any _ _).mono ?_; rintro e w' ⟨rfl, rfl⟩) | fail)
        go_roundw
        case rel => exact ⟨pos + dw, f, acc + (adv + sp), by go_num, by omega, HI4.out, hbw4, by omega, HA, by omega, by omega⟩
        case measure =>
          rw [HP2.out]
          simp only [World.iterPos, HI4.out]
          omega
    · have hnx : ∀ ty, (Instr.next (.pointer (some ⟨w.heap.size, 0, none⟩)) true ty).run Tryd.prog wr = _ := fun ty => Lib.run_next_end_at wr w.heap.size s pos ty hit hp
      have HE := hide (show s.size = ans from by
        have h8 := hgs.out
        cases f with
        | zero => exact h8
        | succ f => simp only [fitG] at h8; rw [if_neg hp] at h8; exact h8)
      go_wp2_with fail
      go_ret
      exact ⟨ret_int (by rw [HE.out]), hbw⟩
end Go.Proofs.YtadlabndbomgmaaDoor
