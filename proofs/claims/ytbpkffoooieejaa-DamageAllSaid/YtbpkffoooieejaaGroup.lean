/- The walks of the closures of RasterParts and RasterClip: a list of commands, wrapped into one that opens and one that ends, is drawn. -/
import Derived.BigQuiet
import Derived.Handy
import Derived.IntWalk
import Derived.Deep.MidRow
import Derived.Test.YtbpkffoooieejaaDraw
import Derived.Test.YtbpkffoooieejaaSmall
namespace Go.Proofs.Ytbpkffoooieejaa
open Go.ChangeShapes Go.WideShapes Go.ChangeAt Go.RowKit
def groupC (p : Int) : Cm := ⟨4, 0, 0, 0, 0, 0, 0, p, ByteArray.empty⟩
def clipC (r : Rc) : Cm := ⟨3, 0, r.x, r.y, r.w, r.h, 0, 0, ByteArray.empty⟩
def endC : Cm := ⟨5, 0, 0, 0, 0, 0, 0, 0, ByteArray.empty⟩
def wrapL (c : Cm) (l : List Cm) : List Cm := c :: (l ++ [endC])
theorem wrapL_len (c : Cm) (l : List Cm) : (wrapL c l).length = 1 + l.length + 1 := by simp [wrapL]; omega
theorem wrapL_cells (c : Cm) (l : List Cm) : cmCells (wrapL c l) = (cmA c).toList ++ cmCells l ++ (cmA endC).toList := by simp [wrapL, cmCells]
theorem wrapL_txt {c : Cm} {l : List Cm} (hc : c.t = ByteArray.empty) (h : ∀ x ∈ l, x.t.size ≤ 10) : ∀ x ∈ wrapL c l, x.t.size ≤ 400 := by
  intro x hx
  simp only [wrapL, List.mem_cons, List.mem_append, List.not_mem_nil, or_false] at hx
  rcases hx with rfl | hx | rfl
  · rw [hc]; exact Nat.zero_le _
  · have := h x hx; omega
  · exact Nat.zero_le _
theorem cm_one (l : List Cm) : ∀ u ∈ cmCells l, u.oneCell' = true := by
  intro u hu
  simp only [cmCells, List.mem_flatMap] at hu
  obtain ⟨c, _, hu⟩ := hu
  simp only [cmA, List.mem_cons, List.not_mem_nil, or_false] at hu
  rcases hu with rfl | rfl | rfl | rfl | rfl | rfl | rfl | rfl | rfl <;> rfl
set_option maxRecDepth 100000 in
set_option maxHeartbeats 4000000 in
theorem group_any (l : List Cm) (p : Int) (gb B c : Nat) (A : Option Addr) (w : World) (hl : l.length ≤ 20) (hlt : ∀ x ∈ l, x.t.size ≤ 10) (hcell : w.cell? ⟨gb, 0, none⟩ = some (.slice A l.length c)) (hr : Reads w B 9 A l.length (cmCells l)) (hB : B ≤ w.heap.size) :
    Calls Try.prog 18 #[.int .i64 p, .pointer (some ⟨gb, 0, none⟩)] w fun e w' => ∃ v, e = .returned v ∧ w'.ownsRow w.heap.size 3 1 v (drawE (wrapL (groupC p) l) 6 6).2.length ((drawE (wrapL (groupC p) l) 6 6).2.map (Value.int .i64)) ∧ Below w.heap.size w w' := by
  obtain ⟨i0, hi0, hz0, hz1, hz2⟩ := info_parts cmd_info
  have HI := hide (⟨hi0, hz0, hz1, hz2⟩ : Try.prog.info? 43 = some i0 ∧ i0.zero = some (.agg #[.int .i64 0, .int .i64 0, .int .i64 0, .int .i64 0, .int .i64 0, .int .i64 0, .int .i64 0, .int .i64 0, .string ByteArray.empty]) ∧ i0.size = 9 ∧ i0.bytes = 80)
  have hsz := cell_lt hcell
  have hB1 := Blk.new w 43 #[.int .i64 4, .int .i64 0, .int .i64 0, .int .i64 0, .int .i64 0, .int .i64 0, .int .i64 0, .int .i64 p, .string ByteArray.empty]
  have O1 := hide (own_of_blk (base := w.heap.size) (size := 9) (n := 1) hB1 (Nat.le_refl _) (by simp only [maxLen]; omega) rfl)
  have R1 := hide (hr.alloc hB (.cells #[.int .i64 4, .int .i64 0, .int .i64 0, .int .i64 0, .int .i64 0, .int .i64 0, .int .i64 0, .int .i64 p, .string ByteArray.empty] 43))
  have L1 := hide ((Below.refl w.heap.size w).alloc (Nat.le_refl _) (.cells #[.int .i64 4, .int .i64 0, .int .i64 0, .int .i64 0, .int .i64 0, .int .i64 0, .int .i64 0, .int .i64 p, .string ByteArray.empty] 43))
  have HMX := hide (show 1 + l.length ≤ maxLen by simp only [maxLen]; omega)
  have HMY := hide (show (1 + l.length) * 80 ≤ 140737488355328 by omega)
  have HMZ := hide (show 1 + l.length ≤ 1000000 by omega)
  have HONE := hide (cm_one l)
  have HLEN := hide (wrapL_len (groupC p) l)
  have HCL := hide (wrapL_cells (groupC p) l)
  have HT := hide (wrapL_txt (c := groupC p) rfl hlt)
  have HL3 := hide (show (wrapL (groupC p) l).length ≤ 30 by rw [wrapL_len]; omega)
  clear hi0 hz0 hz1 hz2 hB1 hr hlt hl
  go_enter Try.func18, Try.ntmps18
  go_wp2_with (first
    | (at_builtin; refine wpList_app rfl (.tmp 9) (.tmp 10) _ rfl w.heap.size 43 i0 _ 9 80 Try.underlying28 HI.out.1 HI.out.2.1 HI.out.2.2.1 HI.out.2.2.2 rfl (Nat.succ_pos _) _ 1 _ rfl O1.out B A l.length c _ rfl R1.out HONE.out HMX.out HMY.out w L1.out (Nat.le_refl _) ?_; intro v2 w2 hown2 hb2; have O2 := hide (hown2.alloc (.cells #[.int .i64 5, .int .i64 0, .int .i64 0, .int .i64 0, .int .i64 0, .int .i64 0, .int .i64 0, .int .i64 0, .string ByteArray.empty] 43)); have K2 := hide (Blk.new w2 43 #[.int .i64 5, .int .i64 0, .int .i64 0, .int .i64 0, .int .i64 0, .int .i64 0, .int .i64 0, .int .i64 0, .string ByteArray.empty]); have L2 := hide (hb2.alloc hb2.size (.cells #[.int .i64 5, .int .i64 0, .int .i64 0, .int .i64 0, .int .i64 0, .int .i64 0, .int .i64 0, .int .i64 0, .string ByteArray.empty] 43)); clear hown2 hb2)
    | (at_builtin; refine wpList_app1 rfl (.tmp 11) (.tmp 13) _ rfl w.heap.size 43 _ 9 80 Try.underlying28 cmd_info rfl (Nat.succ_pos _) _ (1 + l.length) _ rfl O2.out w2.heap.size 1 _ K2.out rfl rfl rfl HMZ.out (Nat.le_of_ble_eq_true rfl) L2.out.size ?_; intro v3 w3 hown3 hg3; have hb3 := own_below O2.out L2.out (Nat.le_refl _) (Nat.le_refl _) hg3; obtain ⟨X, cx, rfl, _, _⟩ := own_reads hown3; have O3 := hide hown3; clear hown3 hg3)
    | fail)
  have O4 := hide (show w3.ownsRow w.heap.size 43 9 (.slice X (wrapL (groupC p) l).length cx) (wrapL (groupC p) l).length (cmCells (wrapL (groupC p) l)) from by rw [HCL.out, HLEN.out]; exact O3.out)
  have HD := Draw_any (wrapL (groupC p) l) 6 6 w.heap.size cx X w3 HL3.out HT.out O4.out
  rw [HLEN.out] at HD
  refine HD.mono ?_
  clear HD
  rintro e w4 ⟨v, rfl, hown4, hb4⟩
  have O5 := hide (own_mono hown4 hb3.size)
  have hb5 := below_then hb3 (Nat.le_refl _) hb4
  clear hown4 hb4
  go_wp2_with fail
  go_ret
  exact ⟨v, rfl, O5.out, hb5⟩
end Go.Proofs.Ytbpkffoooieejaa
