/- Parts of the proof, joined: Font, WidthS. -/
import Derived.BigQuiet
import Derived.Handy
import Derived.IntWalk
import Derived.Deep.QuietTactic
import Derived.Lib.OthersKept
import Derived.Test.YtadlabndbomgmaaDoorJIndexRune
import Derived.Test.YtadlabndbomgmaaDoorJ1
import Derived.Test.YtadlabndbomgmaaDoorJ2
set_option linter.unusedVariables false
set_option linter.unusedSimpArgs false
/- Walks of the package font: how wide a rune is; its dots. -/
namespace Go.Proofs.YtadlabndbomgmaaDoor
open Go.ChangeShapes Go.WideShapes Go.ChangeAt Go.RowKit
set_option maxRecDepth 100000 in
set_option maxHeartbeats 1000000 in
theorem fourths_any (r : Int) (w : World) : Calls Tryd.prog 36 #[.int .i32 r] w fun e w' => e = .returned (.int .i64 (fourthsF r)) ∧ ∃ k, w' = w.drewN k := by
  have hk := hide (show fourthsF r = if r < 32 ∨ r = 127 then 0 else if 4352 ≤ r then 4 else if r ∈ narrowL then 1 else if r ∈ wideL then 3 else 2 from rfl)
  have HN := hide narrow_ascii
  have HW := hide wide_ascii
  by_cases h1 : r < 32
  · have hr := hide (hk.out.trans (if_pos (.inl h1)))
    clear hk
    go_enter Tryd.func36, Tryd.ntmps36
    go_wp2_with fail
    go_ret
    exact ⟨ret_int hr.out.symm, 0, rfl⟩
  · by_cases h2 : r = 127
    · have hr := hide (hk.out.trans (if_pos (.inr h2)))
      clear hk
      have z1 : (r == 127) = true := by simp [h2]
      clear h2
      go_enter Tryd.func36, Tryd.ntmps36
      go_wp2_with fail
      go_ret
      exact ⟨ret_int hr.out.symm, 0, rfl⟩
    · have z1 : (r == 127) = false := beq_eq_false_iff_ne.2 h2
      have h12 : ¬ (r < 32 ∨ r = 127) := by omega
      by_cases h3 : 4352 ≤ r
      · have hr := hide (hk.out.trans ((if_neg h12).trans (if_pos h3)))
        clear hk h12 h2
        go_enter Tryd.func36, Tryd.ntmps36
        go_wp2_with fail
        go_ret
        exact ⟨ret_int hr.out.symm, 0, rfl⟩
      · have hN := narrow_in r
        have hW := wide_in r
        by_cases h4 : r ∈ narrowL
        · have hr := hide (hk.out.trans ((if_neg h12).trans ((if_neg h3).trans (if_pos h4))))
          rw [decide_eq_true h4] at hN
          have HNN := hide hN
          clear hk h12 h2 hN hW h4
          go_enter Tryd.func36, Tryd.ntmps36
          go_wp2_with (first | (go_at_call 57; refine (ContainsRune_any narrowS r _ (by omega) (by omega) (by decide) HN.out).mono ?_; rintro e w1 ⟨rfl, k1, rfl⟩; rw [HNN.out]) | fail)
          go_ret
          exact ⟨ret_int hr.out.symm, _, rfl⟩
        · by_cases h5 : r ∈ wideL
          · have hr := hide (hk.out.trans ((if_neg h12).trans ((if_neg h3).trans ((if_neg h4).trans (if_pos h5)))))
            rw [decide_eq_false h4] at hN
            rw [decide_eq_true h5] at hW
            have HNN := hide hN
            have HWW := hide hW
            clear hk h12 h2 hN hW h4 h5
            go_enter Tryd.func36, Tryd.ntmps36
            go_wp2_with fail
            refine (ContainsRune_any narrowS r _ (by omega) (by omega) (by decide) HN.out).mono ?_
            rintro e w1 ⟨rfl, k1, rfl⟩
            rw [HNN.out]
            go_wp2_with fail
            refine (ContainsRune_any wideS' r _ (by omega) (by omega) (by decide) HW.out).mono ?_
            rintro e w1 ⟨rfl, k2, rfl⟩
            rw [HWW.out]
            go_wp2_with fail
            go_ret
            exact ⟨ret_int hr.out.symm, _, rfl⟩
          · have hr := hide (hk.out.trans ((if_neg h12).trans ((if_neg h3).trans ((if_neg h4).trans (if_neg h5)))))
            rw [decide_eq_false h4] at hN
            rw [decide_eq_false h5] at hW
            have HNN := hide hN
            have HWW := hide hW
            clear hk h12 h2 hN hW h4 h5
            go_enter Tryd.func36, Tryd.ntmps36
            go_wp2_with fail
            refine (ContainsRune_any narrowS r _ (by omega) (by omega) (by decide) HN.out).mono ?_
            rintro e w1 ⟨rfl, k1, rfl⟩
            rw [HNN.out]
            go_wp2_with fail
            refine (ContainsRune_any wideS' r _ (by omega) (by omega) (by decide) HW.out).mono ?_
            rintro e w1 ⟨rfl, k2, rfl⟩
            rw [HWW.out]
            go_wp2_with fail
            go_ret
            exact ⟨ret_int hr.out.symm, _, rfl⟩
theorem fcut_any (n : Int) (w : World) : Calls Tryd.prog 25 #[.int .i64 n] w fun e w' => e = .returned (.int .i64 (sizeF n)) ∧ w = w' := by
  have hk := hide (show sizeF n = max 0 (cut n) from rfl)
  go_enter Tryd.func25, Tryd.ntmps25
  go_wp2_with (go_at_call 13; refine (cut_any _ _).mono ?_; rintro e w' ⟨rfl, rfl⟩)
  go_ret
  exact ⟨ret_int hk.out.symm, rfl⟩
theorem Advance_any (r size : Int) (w : World) : Calls Tryd.prog 23 #[.int .i32 r, .int .i64 size] w fun e w' => e = .returned (.int .i64 (advF r size)) ∧ ∃ k, w' = w.drewN k := by
  have hk := hide (show advF r size = partOf (sizeF size) (fourthsF r) 4 from rfl)
  go_enter Tryd.func23, Tryd.ntmps23
  go_wp2_with (first | (go_at_call 25; refine (fcut_any _ _).mono ?_; rintro e w' ⟨rfl, rfl⟩) | (go_at_call 36; refine (fourths_any _ _).mono ?_; rintro e w' ⟨rfl, k1, rfl⟩) | (go_at_call 24; refine (part_any _ _ _ _ (by omega)).mono ?_; rintro e w' ⟨rfl, rfl⟩) | fail)
  go_ret
  exact ⟨ret_int hk.out.symm, _, rfl⟩
theorem Ascent_any (size : Int) (w : World) : Calls Tryd.prog 10 #[.int .i64 size] w fun e w' => e = .returned (.int .i64 (ascF size)) ∧ w = w' := by
  have hk := hide (show ascF size = partOf (sizeF size) 3 4 from rfl)
  go_enter Tryd.func10, Tryd.ntmps10
  go_wp2_with (first | (go_at_call 25; refine (fcut_any _ _).mono ?_; rintro e w' ⟨rfl, rfl⟩) | (go_at_call 24; refine (part_any _ _ _ _ (by omega)).mono ?_; rintro e w' ⟨rfl, rfl⟩) | fail)
  go_ret
  exact ⟨ret_int hk.out.symm, rfl⟩
end Go.Proofs.YtadlabndbomgmaaDoor
/- The walk of font.Width. -/
namespace Go.Proofs.YtadlabndbomgmaaDoor
open Go.ChangeShapes Go.WideShapes Go.ChangeAt Go.RowKit
theorem wide_step (size sp : Int) (s : ByteArray) (pos : Nat) (h : pos < s.size) : wideS size sp (runesAt s pos) = advF ((Utf8.decode s pos).1 : Int) size + sp + wideS size sp (runesAt s (pos + (Utf8.decode s pos).2)) := by
  rw [runesAt_step s pos h]; rfl
set_option maxRecDepth 100000 in
set_option maxHeartbeats 2000000 in
theorem Width_big (s : ByteArray) (size sp0 : Int) (w : World) (hs : s.size ≤ 100000) :
    Calls Tryd.prog 9 #[.string s, .int .i64 size, .int .i64 sp0] w fun e w' => e = .returned (.int .i64 (widthF size sp0 (runesL s.data.toList))) ∧ Below w.heap.size w w' := by
  have HW := hide (show cut (wideS size (cut sp0) (runesAt s 0)) = widthF size sp0 (runesL s.data.toList) from by rw [runes_all]; rfl)
  have HSZ := sizeF_bd size
  have hb1 := cut_lo sp0
  have hb2 := cut_hi sp0
  have hlen := runesAt_len s s.size 0 (by omega)
  generalize hsp : cut sp0 = sp at *
  have HSP := hide hsp
  clear hsp hlen
  generalize htot : wideS size sp (runesAt s 0) = tot at *
  have HT := hide htot
  clear htot
  go_enter Tryd.func9, Tryd.ntmps9
  go_wp2_with fail
  have hit0 : (w.iter s 0).heap[w.heap.size]? = some (.stringIter s 0) := World.iter_heap w s 0
  have hb3 : Below w.heap.size w (w.iter s 0) := (Below.refl _ _).alloc (Nat.le_refl _) _
  have HIT0 := hide hit0
  clear hit0
  go_loopw [7] (fun v W => ∃ (pos : Nat) (acc : Int), v = .int .i64 acc ∧ pos ≤ s.size ∧ W.heap[w.heap.size]? = some (.stringIter s pos) ∧ Below w.heap.size w W ∧ Hid (acc + wideS size sp (runesAt s pos) = tot) ∧ -33554432 * (pos : Int) ≤ acc ∧ acc ≤ 33554432 * (pos : Int)) (fun _ W => s.size - W.iterPos w.heap.size)
  case atStart => exact ⟨0, 0, rfl, Nat.zero_le _, HIT0.out, hb3, hide (by rw [HT.out]; exact Int.zero_add _), by omega, by omega⟩
  case round =>
    obtain ⟨pos, acc, rfl, hps, hit, hbw, hgs, hl1, hl2⟩ := hrel
    have hszw : w.heap.size < wr.heap.size := (Array.getElem?_eq_some_iff.1 hit).1
    by_cases hp : pos < s.size
    · have hnx : ∀ ty, (Instr.next (.pointer (some ⟨w.heap.size, 0, none⟩)) true ty).run Tryd.prog wr = _ := fun ty => Lib.run_next_any_at wr w.heap.size s pos ty hit hp
      obtain ⟨d1, d2, d3⟩ := decode_wd s pos hp
      have HGS := hide (show acc + (advF ((Utf8.decode s pos).1 : Int) size + sp) + wideS size sp (runesAt s (pos + (Utf8.decode s pos).2)) = tot from by have h8 := hgs.out; rw [wide_step size sp s pos hp] at h8; omega)
      have hit2 := Lib.iterAt_heap wr w.heap.size s pos (pos + (Utf8.decode s pos).2) hit
      have hbw2 := Lib.below_iterAt hbw (Nat.le_refl _) s (pos + (Utf8.decode s pos).2)
      have hpos2 : wr.iterPos w.heap.size = pos := by simp [World.iterPos, hit]
      have HP2 := hide hpos2
      have HI2 := hide hit2
      clear hit hit2 hpos2 hgs hbw
      generalize wr.iterAt w.heap.size s (pos + (Utf8.decode s pos).2) = W1 at *
      generalize Utf8.decode s pos = d at *
      obtain ⟨dr, dw⟩ := d
      dsimp only at *
      have had := adv_bd dr size
      go_wp2_with (first | (go_at_call 23; refine (Advance_any _ _ _).mono ?_; rintro e w' ⟨rfl, k1, rfl⟩) | (go_at_call 13; refine (cut_any _ _).mono ?_; rintro e w' ⟨rfl, rfl⟩; rw [HSP.out]) | fail)
      go_roundw
      case rel => exact ⟨pos + dw, acc + (advF dr size + sp), by go_num, by omega, HI2.out, below_drewN hbw2 _, HGS, by omega, by omega⟩
      case measure =>
        rw [HP2.out]
        simp only [World.iterPos, World.drewN, HI2.out]
        omega
    · have hnx : ∀ ty, (Instr.next (.pointer (some ⟨w.heap.size, 0, none⟩)) true ty).run Tryd.prog wr = _ := fun ty => Lib.run_next_end_at wr w.heap.size s pos ty hit hp
      have HE := hide (show acc = tot from by have h8 := hgs.out; rw [runesAt_end s pos (by omega)] at h8; simpa [wideS] using h8)
      go_wp2_with (first | (go_at_call 13; refine (cut_any _ _).mono ?_; rintro e w' ⟨rfl, rfl⟩) | fail)
      go_ret
      exact ⟨ret_int (by rw [HE.out]; exact HW.out), hbw⟩
theorem Width_any (s : ByteArray) (size sp0 : Int) (w : World) (hs : s.size ≤ 400) :
    Calls Tryd.prog 9 #[.string s, .int .i64 size, .int .i64 sp0] w fun e w' => e = .returned (.int .i64 (widthF size sp0 (runesL s.data.toList))) ∧ Below w.heap.size w w' := Width_big s size sp0 w (by omega)
end Go.Proofs.YtadlabndbomgmaaDoor
