/- The walk of a part's last blank. -/
import Derived.BigQuiet
import Derived.Handy
import Derived.IntWalk
import Derived.RegionTactic
import Derived.Deep.QuietTactic
import Derived.Deep.MidRow
import Derived.Deep.RegionHeld3
import Derived.Test.YtadlabndbomgmaaDoorJPartA
set_option linter.unusedVariables false
set_option linter.unusedSimpArgs false
namespace Go.Proofs.YtadlabndbomgmaaDoor
open Go.ChangeShapes Go.WideShapes Go.ChangeAt Go.RowKit
theorem txW_any (x : It) (t : ByteArray) (w : World) (hs : t.size ≤ 400) : Calls Tryd.prog 9 #[.string t, .int .i64 x.size, .int .i64 x.spacing] w fun e w' => e = .returned (.int .i64 (txW x t)) ∧ Below w.heap.size w w' := Width_any t x.size x.spacing w hs
set_option maxRecDepth 100000 in
set_option maxHeartbeats 2000000 in
theorem ptail_any (xs : List It) (g : Nat) (p : Pt) (w : World) (hI : ItsAt w g xs) (hi : p.i < xs.length) (hs : p.t.size ≤ 400) (hw : -1000000000 ≤ p.w ∧ p.w ≤ 1000000000) :
    Calls Tryd.prog 70 #[.agg #[.pointer (some ⟨g, p.i * 11, none⟩), .int .i64 p.i, .string p.t, .int .i64 p.w, .bool p.last]] w fun e w' => e = .returned (.int .i64 (tailF xs p)) ∧ Below w.heap.size w w' := by
  have hg := hI.lt (by omega)
  have HT := hide (show tailF xs p = if collF xs p && endsF xs p then p.w - txW (itAt xs p.i) (p.t.extract 0 (p.t.size - 1)) else 0 from rfl)
  have HI1 := hide (hI.alloc (.cells #[.pointer (some ⟨g, p.i * 11, none⟩), .int .i64 p.i, .string p.t, .int .i64 p.w, .bool p.last] 96) hg)
  have HB1 := hide (Blk.new w 96 #[.pointer (some ⟨g, p.i * 11, none⟩), .int .i64 p.i, .string p.t, .int .i64 p.w, .bool p.last])
  have hb1 : Below w.heap.size w (w.alloc (.cells #[.pointer (some ⟨g, p.i * 11, none⟩), .int .i64 p.i, .string p.t, .int .i64 p.w, .bool p.last] 96)) := by go_grown
  have hgb : g < (w.alloc (.cells #[.pointer (some ⟨g, p.i * 11, none⟩), .int .i64 p.i, .string p.t, .int .i64 p.w, .bool p.last] 96)).heap.size := by simp; omega
  clear hI
  go_enter Tryd.func70, Tryd.ntmps70
  go_wp2_with fail
  generalize hwA : w.alloc (.cells #[.pointer (some ⟨g, p.i * 11, none⟩), .int .i64 p.i, .string p.t, .int .i64 p.w, .bool p.last] 96) = wA at *
  clear hwA
  refine (collapses_any xs g p wA HI1.out hi).mono ?_
  rintro e w2 ⟨rfl, hb2⟩
  have HI2 := hide (HI1.out.below hb2 hgb)
  have HB2 := hide (HB1.out.below hb2 HB1.out.lt)
  have b2 := below_on hb1 hb2
  have hg2 := Nat.lt_of_lt_of_le hgb hb2.size
  clear HI1 HB1 hb2 hgb hb1
  have bc0 : w2.cell? ⟨w.heap.size, 0, none⟩ = some (.pointer (some ⟨g, p.i * 11, none⟩)) := HB2.out.cell 0
  have bc1 : w2.cell? ⟨w.heap.size, 1, none⟩ = some (.int .i64 p.i) := HB2.out.cell 1
  have bc2 : w2.cell? ⟨w.heap.size, 2, none⟩ = some (.string p.t) := HB2.out.cell 2
  have bc3 : w2.cell? ⟨w.heap.size, 3, none⟩ = some (.int .i64 p.w) := HB2.out.cell 3
  have bc4 : w2.cell? ⟨w.heap.size, 4, none⟩ = some (.bool p.last) := HB2.out.cell 4
  cases hc : collF xs p
  · have hr := hide (show tailF xs p = 0 from by rw [HT.out, hc]; rfl)
    clear HT
    go_wp2_with fail
    go_ret
    exact ⟨ret_int (by rw [hr.out]), b2⟩
  · have hr := hide (HT.out.trans (by rw [hc]))
    clear HT
    go_wp2_with fail
    refine (ends_any xs g p w2 HI2.out hi (by omega)).mono ?_
    rintro e w3 ⟨rfl, hb3⟩
    have HI3 := hide (HI2.out.below hb3 hg2)
    have HB3 := hide (HB2.out.below hb3 HB2.out.lt)
    have b3 := below_on b2 hb3
    have hg3 := Nat.lt_of_lt_of_le hg2 hb3.size
    clear HI2 HB2 hb3 hg2 b2 bc0 bc1 bc2 bc3 bc4
    have hz3 := HB3.out.lt
    cases he : endsF xs p
    · have hr2 := hide (show tailF xs p = 0 from by rw [hr.out, he]; rfl)
      clear hr
      go_wp2_with fail
      go_ret
      exact ⟨ret_int (by rw [hr2.out]), b3⟩
    · have hr2 := hide (show tailF xs p = p.w - txW (itAt xs p.i) (p.t.extract 0 (p.t.size - 1)) from by rw [hr.out, he]; rfl)
      have hsz : 1 ≤ p.t.size := by
        unfold endsF at he
        rw [Bool.and_eq_true] at he
        have h2 := he.2
        unfold spaceEnd at h2
        have h3 : p.t.data.toList.length = p.t.size := Array.length_toList
        cases h4 : p.t.data.toList with
        | nil => rw [h4] at h2; cases h2
        | cons a l => rw [h4] at h3; simp at h3; omega
      have hbd : -16777216 ≤ txW (itAt xs p.i) (p.t.extract 0 (p.t.size - 1)) ∧ txW (itAt xs p.i) (p.t.extract 0 (p.t.size - 1)) ≤ 16777216 := ⟨cut_lo _, cut_hi _⟩
      have HWD := hide (fun W => txW_any (itAt xs p.i) (p.t.extract 0 (p.t.size - 1)) W (by rw [ByteArray.size_extract]; omega))
      have bc0 : w3.drew.cell? ⟨w.heap.size, 0, none⟩ = some (.pointer (some ⟨g, p.i * 11, none⟩)) := HB3.out.cell 0
      have bc2 : w3.drew.cell? ⟨w.heap.size, 2, none⟩ = some (.string p.t) := HB3.out.cell 2
      have bc3 : w3.drew.cell? ⟨w.heap.size, 3, none⟩ = some (.int .i64 p.w) := HB3.out.cell 3
      have e3 : w3.drew.cell? ⟨g, p.i * 11 + 3, none⟩ = some (.int .i64 (itAt xs p.i).size) := HI3.out.c3 hi
      have e4 : w3.drew.cell? ⟨g, p.i * 11 + 4, none⟩ = some (.int .i64 (itAt xs p.i).spacing) := HI3.out.c4 hi
      have b3' := b3.drew
      clear hr he hc HI3 HB3 b3
      go_wp2_with fail
      have hz4 : w.heap.size < w3.drew.heap.size := hz3
      have hg4 : g < w3.drew.heap.size := hg3
      generalize hTW : txW (itAt xs p.i) (p.t.extract 0 (p.t.size - 1)) = tw at *
      clear hTW
      have w2 : IntKind.i64.wrap (p.w - tw) = p.w - tw := IntWalk.i64_in _ (by omega)
      have w1 : IntKind.i64.wrap ((p.t.size : Int) - 1) = ((p.t.size - 1 : Nat) : Int) := by rw [IntWalk.i64_in _ (by omega)]; omega
      have HS := hide (fun (W : World) (hb5 : Below w3.drew.heap.size w3.drew W) => (⟨(hb5.cell (p := ⟨w.heap.size, 0, none⟩) hz4).trans bc0, (hb5.cell (p := ⟨w.heap.size, 2, none⟩) hz4).trans bc2, (hb5.cell (p := ⟨w.heap.size, 3, none⟩) hz4).trans bc3, (hb5.cell (p := ⟨g, p.i * 11 + 3, none⟩) hg4).trans e3, (hb5.cell (p := ⟨g, p.i * 11 + 4, none⟩) hg4).trans e4⟩ : W.cell? ⟨w.heap.size, 0, none⟩ = some (.pointer (some ⟨g, p.i * 11, none⟩)) ∧ W.cell? ⟨w.heap.size, 2, none⟩ = some (.string p.t) ∧ W.cell? ⟨w.heap.size, 3, none⟩ = some (.int .i64 p.w) ∧ W.cell? ⟨g, p.i * 11 + 3, none⟩ = some (.int .i64 (itAt xs p.i).size) ∧ W.cell? ⟨g, p.i * 11 + 4, none⟩ = some (.int .i64 (itAt xs p.i).spacing)))
      go_region_held3 (fun W => W.cell? ⟨w.heap.size, 0, none⟩ = some (.pointer (some ⟨g, p.i * 11, none⟩)) ∧ W.cell? ⟨w.heap.size, 2, none⟩ = some (.string p.t) ∧ W.cell? ⟨w.heap.size, 3, none⟩ = some (.int .i64 p.w) ∧ W.cell? ⟨g, p.i * 11 + 3, none⟩ = some (.int .i64 (itAt xs p.i).size) ∧ W.cell? ⟨g, p.i * 11 + 4, none⟩ = some (.int .i64 (itAt xs p.i).spacing)) (first | exact ⟨bc0, bc2, bc3, e3, e4⟩ | exact HS.out _ hb5) ((go_at_call 9; refine (HWD.out _).mono ?_; rintro e w5 ⟨rfl, hb5⟩))
      clear HS bc0 bc2 bc3 e3 e4 w1
      clear w2
      go_wp2_with fail
      go_ret
      exact ⟨ret_int (by rw [hr2.out]), below_on b3' hb5⟩
end Go.Proofs.YtadlabndbomgmaaDoor
