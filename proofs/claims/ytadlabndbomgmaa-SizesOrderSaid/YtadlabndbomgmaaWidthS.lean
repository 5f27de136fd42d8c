/- The walk of font.Width. -/
import Derived.BigQuiet
import Derived.Handy
import Derived.IntWalk
import Derived.Lib.OthersKept
import Derived.Deep.QuietTactic
import Derived.Test.YtadlabndbomgmaaFont
import Derived.Test.YtadlabndbomgmaaFitPlain
namespace Go.Proofs.Ytadlabndbomgmaa
open Go.ChangeShapes Go.WideShapes Go.ChangeAt Go.RowKit
theorem wide_step (size sp : Int) (s : ByteArray) (pos : Nat) (h : pos < s.size) : wideS size sp (runesAt s pos) = advF ((Utf8.decode s pos).1 : Int) size + sp + wideS size sp (runesAt s (pos + (Utf8.decode s pos).2)) := by
  rw [runesAt_step s pos h]; rfl
set_option maxRecDepth 100000 in
set_option maxHeartbeats 2000000 in
theorem Width_any (s : ByteArray) (size sp0 : Int) (w : World) (hs : s.size ≤ 400) :
    Calls Try.prog 69 #[.string s, .int .i64 size, .int .i64 sp0] w fun e w' => e = .returned (.int .i64 (widthF size sp0 (runesL s.data.toList))) ∧ Below w.heap.size w w' := by
  have HW := hide (show cut (wideS size (cut sp0) (runesAt s 0)) = widthF size sp0 (runesL s.data.toList) from by rw [runes_all]; rfl)
  have HSZ := sizeF_bd size
  have hb1 := cut_lo sp0
  have hb2 := cut_hi sp0
  have hlen := runesAt_len s s.size 0 (by omega)
  generalize hsp : cut sp0 = sp at *
  have HSP := hide hsp
  clear hsp hlen
  generalize htot : wideS size sp (runesAt s 0) = tot at *
  have HT := hide htot
  clear htot
  go_enter Try.func69, Try.ntmps69
  go_wp2_with fail
  have hit0 : (w.iter s 0).heap[w.heap.size]? = some (.stringIter s 0) := World.iter_heap w s 0
  have hb3 : Below w.heap.size w (w.iter s 0) := (Below.refl _ _).alloc (Nat.le_refl _) _
  have HIT0 := hide hit0
  clear hit0
  go_loopw [7] (fun v W => ∃ (pos : Nat) (acc : Int), v = .int .i64 acc ∧ pos ≤ s.size ∧ W.heap[w.heap.size]? = some (.stringIter s pos) ∧ Below w.heap.size w W ∧ Hid (acc + wideS size sp (runesAt s pos) = tot) ∧ -33554432 * (pos : Int) ≤ acc ∧ acc ≤ 33554432 * (pos : Int)) (fun _ W => s.size - W.iterPos w.heap.size)
  case atStart => exact ⟨0, 0, rfl, Nat.zero_le _, HIT0.out, hb3, hide (by rw [HT.out]; exact Int.zero_add _), by omega, by omega⟩
  case round =>
    obtain ⟨pos, acc, rfl, hps, hit, hbw, hgs, hl1, hl2⟩ := hrel
    have hszw : w.heap.size < wr.heap.size := (Array.getElem?_eq_some_iff.1 hit).1
    by_cases hp : pos < s.size
    · have hnx : ∀ ty, (Instr.next (.pointer (some ⟨w.heap.size, 0, none⟩)) true ty).run Try.prog wr = _ := fun ty => Lib.run_next_any_at wr w.heap.size s pos ty hit hp
      obtain ⟨d1, d2, d3⟩ := decode_wd s pos hp
      have HGS := hide (show acc + (advF ((Utf8.decode s pos).1 : Int) size + sp) + wideS size sp (runesAt s (pos + (Utf8.decode s pos).2)) = tot from by have h8 := hgs.out; rw [wide_step size sp s pos hp] at h8; omega)
      have hit2 := Lib.iterAt_heap wr w.heap.size s pos (pos + (Utf8.decode s pos).2) hit
      have hbw2 := Lib.below_iterAt hbw (Nat.le_refl _) s (pos + (Utf8.decode s pos).2)
      have hpos2 : wr.iterPos w.heap.size = pos := by simp [World.iterPos, hit]
      have HP2 := hide hpos2
      have HI2 := hide hit2
      clear hit hit2 hpos2 hgs hbw
      generalize wr.iterAt w.heap.size s (pos + (Utf8.decode s pos).2) = W1 at *
      generalize Utf8.decode s pos = d at *
      obtain ⟨dr, dw⟩ := d
      dsimp only at *
      have had := adv_bd dr size
      go_wp2_with (first | (go_at_call 115; refine (Advance_any _ _ _).mono ?_; rintro e w' ⟨rfl, k1, rfl⟩) | (go_at_call 28; refine (cut_any _ _).mono ?_; rintro e w' ⟨rfl, rfl⟩; rw [HSP.out]) | fail)
      go_roundw
      case rel => exact ⟨pos + dw, acc + (advF dr size + sp), by go_num, by omega, HI2.out, below_drewN hbw2 _, HGS, by omega, by omega⟩
      case measure =>
        rw [HP2.out]
        simp only [World.iterPos, World.drewN, HI2.out]
        omega
    · have hnx : ∀ ty, (Instr.next (.pointer (some ⟨w.heap.size, 0, none⟩)) true ty).run Try.prog wr = _ := fun ty => Lib.run_next_end_at wr w.heap.size s pos ty hit hp
      have HE := hide (show acc = tot from by have h8 := hgs.out; rw [runesAt_end s pos (by omega)] at h8; simpa [wideS] using h8)
      go_wp2_with (first | (go_at_call 28; refine (cut_any _ _).mono ?_; rintro e w' ⟨rfl, rfl⟩) | fail)
      go_ret
      exact ⟨ret_int (by rw [HE.out]; exact HW.out), hbw⟩
end Go.Proofs.Ytadlabndbomgmaa
