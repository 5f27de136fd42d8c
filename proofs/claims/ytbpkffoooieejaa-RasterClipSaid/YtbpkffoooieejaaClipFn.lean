/- The walks of In, and of the closure of RasterClip: a list of commands within a clip is drawn. -/
import Derived.BigQuiet
import Derived.Handy
import Derived.IntWalk
import Derived.Deep.MidRow
import Derived.Test.YtbpkffoooieejaaGroup
namespace Go.Proofs.Ytbpkffoooieejaa
open Go.ChangeShapes Go.WideShapes Go.ChangeAt Go.RowKit
theorem inR_other (rx ry rw_ rh x y : Int) : inR ⟨rx, ry, rw_, rh⟩ x y = (((decide (rx ≤ x) && decide (ry ≤ y)) && decide (x < rx + rw_)) && decide (y < ry + rh)) := by
  rw [Bool.eq_iff_iff, inR_iff]
  simp only [Bool.and_eq_true, decide_eq_true_eq]
  omega
set_option maxHeartbeats 1000000 in
theorem In_any (r : Rc) (x y : Int) (w : World) (hrx : Tame r.x) (hry : Tame r.y) (hrw : Tame r.w) (hrh : Tame r.h) :
    Calls Try.prog 17 #[.agg #[.int .i64 r.x, .int .i64 r.y, .int .i64 r.w, .int .i64 r.h], .int .i64 x, .int .i64 y] w fun e w' => e = .returned (.bool (inR r x y)) ∧ Below w.heap.size w w' := by
  unfold Tame at *
  obtain ⟨rx, ry, rw_, rh⟩ := r
  have hk := hide (inR_other rx ry rw_ rh x y)
  dsimp only at hrx hry hrw hrh
  generalize hres : inR ⟨rx, ry, rw_, rh⟩ x y = res at *
  clear hres
  cases h1 : decide (rx ≤ x) <;> cases h2 : decide (ry ≤ y) <;> cases h3 : decide (x < rx + rw_) <;> cases h4 : decide (y < ry + rh)
  all_goals
    have hr := hide (hk.out.trans (by rw [h1, h2, h3, h4]))
    clear hk
    go_enter Try.func17, Try.ntmps17
    go_wp2_with fail
    go_ret
    exact ⟨ret_bool (by rw [hr.out]; rfl), by go_grown⟩
set_option maxRecDepth 100000 in
set_option maxHeartbeats 4000000 in
theorem clip_any (l : List Cm) (r : Rc) (gb B c : Nat) (A : Option Addr) (w : World) (hl : l.length ≤ 20) (hlt : ∀ x ∈ l, x.t.size ≤ 10) (hcell : w.cell? ⟨gb, 0, none⟩ = some (.slice A l.length c)) (hr : Reads w B 9 A l.length (cmCells l)) (hB : B ≤ w.heap.size) :
    Calls Try.prog 15 #[.agg #[.int .i64 r.x, .int .i64 r.y, .int .i64 r.w, .int .i64 r.h], .pointer (some ⟨gb, 0, none⟩)] w (DrawPost (wrapL (clipC r) l) 8 8 w) := by
  obtain ⟨i0, hi0, hz0, hz1, hz2⟩ := info_parts cmd_info
  have HI := hide (⟨hi0, hz0, hz1, hz2⟩ : Try.prog.info? 43 = some i0 ∧ i0.zero = some (.agg #[.int .i64 0, .int .i64 0, .int .i64 0, .int .i64 0, .int .i64 0, .int .i64 0, .int .i64 0, .int .i64 0, .string ByteArray.empty]) ∧ i0.size = 9 ∧ i0.bytes = 80)
  have hsz := cell_lt hcell
  have HLEN := hide (wrapL_len (clipC r) l)
  have HCL := hide (wrapL_cells (clipC r) l)
  have HT := hide (wrapL_txt (c := clipC r) rfl hlt)
  have HL3 := hide (show (wrapL (clipC r) l).length ≤ 30 by rw [wrapL_len]; omega)
  obtain ⟨x, y, a, b⟩ := r
  dsimp only
  have HCC := hide (show (cmA (clipC ⟨x, y, a, b⟩)).toList = [.int .i64 3, .int .i64 0, .int .i64 x, .int .i64 y, .int .i64 a, .int .i64 b, .int .i64 0, .int .i64 0, .string ByteArray.empty] from rfl)
  have hs0 : w.heap.size ≤ (w.alloc (.cells #[.int .i64 x, .int .i64 y, .int .i64 a, .int .i64 b] 36)).heap.size := by simp
  have hB1 := Blk.new (w.alloc (.cells #[.int .i64 x, .int .i64 y, .int .i64 a, .int .i64 b] 36)) 43 #[.int .i64 3, .int .i64 0, .int .i64 x, .int .i64 y, .int .i64 a, .int .i64 b, .int .i64 0, .int .i64 0, .string ByteArray.empty]
  have o1 := own_of_blk (base := w.heap.size) (size := 9) (n := 1) hB1 hs0 (by simp only [maxLen]; omega) rfl
  rw [show (w.alloc (.cells #[.int .i64 x, .int .i64 y, .int .i64 a, .int .i64 b] 36)).heap.size = w.heap.size + 1 by simp] at o1
  have O1 := hide o1
  have R1 := hide ((hr.alloc hB (.cells #[.int .i64 x, .int .i64 y, .int .i64 a, .int .i64 b] 36)).alloc (Nat.le_trans hB hs0) (.cells #[.int .i64 3, .int .i64 0, .int .i64 x, .int .i64 y, .int .i64 a, .int .i64 b, .int .i64 0, .int .i64 0, .string ByteArray.empty] 43))
  have L1 := hide (((Below.refl w.heap.size w).alloc (Nat.le_refl _) (.cells #[.int .i64 x, .int .i64 y, .int .i64 a, .int .i64 b] 36)).alloc hs0 (.cells #[.int .i64 3, .int .i64 0, .int .i64 x, .int .i64 y, .int .i64 a, .int .i64 b, .int .i64 0, .int .i64 0, .string ByteArray.empty] 43))
  have HMX := hide (show 1 + l.length ≤ maxLen by simp only [maxLen]; omega)
  have HMY := hide (show (1 + l.length) * 80 ≤ 140737488355328 by omega)
  have HMZ := hide (show 1 + l.length ≤ 1000000 by omega)
  have HONE := hide (cm_one l)
  clear hi0 hz0 hz1 hz2 hB1 o1 hr hlt hl hs0
  go_enter Try.func15, Try.ntmps15
  go_wp2_with (first
    | (at_builtin; refine wpList_app rfl (.tmp 15) (.tmp 16) _ rfl w.heap.size 43 i0 _ 9 80 Try.underlying28 HI.out.1 HI.out.2.1 HI.out.2.2.1 HI.out.2.2.2 rfl (Nat.succ_pos _) _ 1 _ rfl O1.out B A l.length c _ rfl R1.out HONE.out HMX.out HMY.out w L1.out (Nat.le_refl _) ?_; intro v2 w2 hown2 hb2; have O2 := hide (hown2.alloc (.cells #[.int .i64 5, .int .i64 0, .int .i64 0, .int .i64 0, .int .i64 0, .int .i64 0, .int .i64 0, .int .i64 0, .string ByteArray.empty] 43)); have K2 := hide (Blk.new w2 43 #[.int .i64 5, .int .i64 0, .int .i64 0, .int .i64 0, .int .i64 0, .int .i64 0, .int .i64 0, .int .i64 0, .string ByteArray.empty]); have L2 := hide (hb2.alloc hb2.size (.cells #[.int .i64 5, .int .i64 0, .int .i64 0, .int .i64 0, .int .i64 0, .int .i64 0, .int .i64 0, .int .i64 0, .string ByteArray.empty] 43)); clear hown2 hb2)
    | (at_builtin; refine wpList_app1 rfl (.tmp 18) (.tmp 20) _ rfl w.heap.size 43 _ 9 80 Try.underlying28 cmd_info rfl (Nat.succ_pos _) _ (1 + l.length) _ rfl O2.out w2.heap.size 1 _ K2.out rfl rfl rfl HMZ.out (Nat.le_of_ble_eq_true rfl) L2.out.size ?_; intro v3 w3 hown3 hg3; have hb3 := own_below O2.out L2.out (Nat.le_refl _) (Nat.le_refl _) hg3; obtain ⟨X, cx, rfl, _, _⟩ := own_reads hown3; have O3 := hide hown3; clear hown3 hg3)
    | fail)
  have O4 := hide (show w3.ownsRow w.heap.size 43 9 (.slice X (wrapL (clipC ⟨x, y, a, b⟩) l).length cx) (wrapL (clipC ⟨x, y, a, b⟩) l).length (cmCells (wrapL (clipC ⟨x, y, a, b⟩) l)) from by rw [HCL.out, HLEN.out, HCC.out]; exact O3.out)
  have HD := Draw_any (wrapL (clipC ⟨x, y, a, b⟩) l) 8 8 w.heap.size cx X w3 HL3.out HT.out O4.out
  rw [HLEN.out] at HD
  refine HD.mono ?_
  clear HD
  rintro e w4 ⟨v, rfl, hown4, hb4⟩
  have O5 := hide (own_mono hown4 hb3.size)
  have hb5 := below_then hb3 (Nat.le_refl _) hb4
  clear hown4 hb4
  go_wp2_with fail
  go_ret2
  exact ⟨v, rfl, O5.out, hb5⟩
end Go.Proofs.Ytbpkffoooieejaa
