/- Parts of the proof, joined: FAll. -/
import Derived.BigQuiet
import Derived.Handy
import Derived.Test.YtadlabndbomgmaaDoorJFloatsPlace
set_option linter.unusedVariables false
set_option linter.unusedSimpArgs false
/- The walk of floats.All, under a name of its own (breaks.All is walked too). -/
namespace Go.Proofs.YtadlabndbomgmaaDoor
open Go.ChangeShapes Go.WideShapes Go.ChangeAt Go.RowKit
def Fl.rect (f : Fl) : List Value := [.int .i64 f.x, .int .i64 f.y, .int .i64 f.w, .int .i64 f.h]
def rcCells : List Fl → List Value
  | [] => []
  | f :: l => f.rect ++ rcCells l
theorem rcCells_append (l m : List Fl) : rcCells (l ++ m) = rcCells l ++ rcCells m := by
  induction l with
  | nil => rfl
  | cons f l ih => simp [rcCells, ih]
theorem rcCells_length (l : List Fl) : (rcCells l).length = l.length * 4 := by
  induction l with
  | nil => rfl
  | cons f l ih => simp [rcCells, Fl.rect, ih]; omega
theorem rcCells_at (l : List Fl) : ∀ (k : Nat) (h : k < l.length) (j : Nat), j < 4 → (rcCells l)[k * 4 + j]? = (l[k]).rect[j]? := by
  induction l with
  | nil => intro k h; simp at h
  | cons f l ih =>
    intro k h j hj
    cases k with
    | zero => simp only [rcCells, Nat.zero_mul, Nat.zero_add, List.getElem_cons_zero]; rw [List.getElem?_append_left (by simp [Fl.rect]; omega)]
    | succ k =>
      have e : (k + 1) * 4 + j = 4 + (k * 4 + j) := by omega
      have hl : f.rect.length = 4 := rfl
      rw [e]
      simp only [rcCells, List.getElem_cons_succ]
      rw [List.getElem?_append_right (by omega), hl, Nat.add_sub_cancel_left]
      exact ih k (by simpa using h) j hj
theorem rect_info : (Tryd.prog.info? 134).map (fun i => (i.zero, i.size, i.bytes)) = some (some (.agg #[.int .i64 0, .int .i64 0, .int .i64 0, .int .i64 0]), 4, 32) := by kernel_rfl
theorem lit_at {w : World} {n0 : Nat} (hn : w.heap.size = n0) (e : TypeId) (cs : Array Value) (size n : Nat) (hs : cs.size = n * size) : Reads (w.alloc (.cells cs e)) (n0 + 1) size (some ⟨n0, 0, none⟩) n cs.toList := by
  subst hn; exact Reads.lit w e cs size n hs
set_option maxRecDepth 100000 in
theorem fAll_any (b B : Nat) (width : Int) (fs : List Fl) (w : World) (hf : FloatsAt w B b width fs) (hn : fs.length ≤ 200) :
    Calls Tryd.prog 71 #[.pointer (some ⟨b, 0, none⟩)] w fun e w' => ∃ v, e = .returned v ∧ w'.ownsRow w.heap.size 134 4 v fs.length (rcCells fs) ∧ Below w.heap.size w w' := by
  obtain ⟨A, c, hb, hBb, hown⟩ := hf
  have c1 : w.cell? ⟨b, 1, none⟩ = some (.slice A fs.length c) := hb.cell 1
  obtain ⟨i0, hi0, hz0, hz1, hz2⟩ := info_parts rect_info
  have Hown := hide hown
  clear hown
  go_enter Tryd.func71, Tryd.ntmps71
  go_wp2_with fail
  go_loopw [3, 5, 11] (fun v p i wr => ∃ k : Nat, k ≤ fs.length ∧ i = .int .i64 k ∧ wr.ownsRow w.heap.size 134 4 v k (rcCells (fs.take k)) ∧ Below w.heap.size w wr) (fun _ _ i _ => fs.length - (intOf i).toNat)
  case atStart => exact ⟨0, Nat.zero_le _, rfl, own_none _ _ _ _, Below.refl _ _⟩
  case round =>
    obtain ⟨k, hk, rfl, hownr, hbel⟩ := hrel
    by_cases hlt : k < fs.length
    · obtain ⟨g, rfl, _, hg, f0, f1, f2, f3, f4⟩ := floatCell Hown.out hlt
      have d0 := (hbel.cell (p := ⟨g, k * 5, none⟩) hg).trans f0
      have d1 := (hbel.cell (p := ⟨g, k * 5 + 1, none⟩) hg).trans f1
      have d2 := (hbel.cell (p := ⟨g, k * 5 + 2, none⟩) hg).trans f2
      have d3 := (hbel.cell (p := ⟨g, k * 5 + 3, none⟩) hg).trans f3
      have d4 := (hbel.cell (p := ⟨g, k * 5 + 4, none⟩) hg).trans f4
      have e1 := hide (show rcCells (fs.take (k + 1)) = rcCells (fs.take k) ++ fs[k].rect from by rw [List.take_succ_eq_append_getElem hlt, rcCells_append]; simp [rcCells])
      generalize fs[k] = f at *
      obtain ⟨fx, fy, fw, fh, fsd⟩ := f
      clear f0 f1 f2 f3 f4
      dsimp only at d0 d1 d2 d3 d4
      have Hownr := hide hownr
      have hsz := hbel.size
      clear hownr
      go_wp2_with (at_builtin; refine wpList_app rfl (.tmp 15) (.tmp 18) _ rfl w.heap.size 134 i0 _ 4 32 Tryd.underlying131 hi0 hz0 hz1 hz2 rfl (by omega) _ k _ rfl ((Hownr.out.alloc _).alloc _) (wr.heap.size + 1 + 1) _ 1 1 _ rfl (lit_at (by simp) _ _ 4 1 rfl) (by intro u hu; simp at hu; rcases hu with rfl | rfl | rfl | rfl <;> rfl) (by simp only [maxLen]; omega) (by omega) w ((hbel.alloc hsz _).alloc (by simp; omega) _) (Nat.le_refl _) ?_; intro v2 w2 hown2 hbel2)
      go_roundw
      case rel => exact ⟨k + 1, by omega, by go_num, by rw [e1.out]; exact hown2, hbel2⟩
      case measure => simp [intOf]; omega
    · have hk2 : k = fs.length := by omega
      have ht : fs.take k = fs := List.take_of_length_le (by omega)
      rw [ht] at hownr
      subst hk2
      clear ht
      go_wp2
      go_ret
      exact ⟨_, rfl, hownr, hbel⟩
theorem rectCell {w : World} {B n c : Nat} {A : Option Addr} {fs : List Fl} (h : w.ownsRow B 134 4 (.slice A n c) n (rcCells fs)) {k : Nat} (hk : k < n) (hl : fs.length = n) :
    ∃ g, A = some ⟨g, 0, none⟩ ∧ B ≤ g ∧ g < w.heap.size ∧ w.cell? ⟨g, k * 4, none⟩ = some (.int .i64 (fs[k]'(by omega)).x) ∧ w.cell? ⟨g, k * 4 + 1, none⟩ = some (.int .i64 (fs[k]'(by omega)).y) ∧ w.cell? ⟨g, k * 4 + 2, none⟩ = some (.int .i64 (fs[k]'(by omega)).w) ∧ w.cell? ⟨g, k * 4 + 3, none⟩ = some (.int .i64 (fs[k]'(by omega)).h) := by
  obtain ⟨g, cap, hv, hg, hlt⟩ := h.form (by omega)
  injection hv with hA _ _
  subst hA
  have hc : ∀ j, j < 4 → w.cell? ⟨g, k * 4 + j, none⟩ = (fs[k]'(by omega)).rect[j]? := fun j hj => by
    rw [h.cellAt _ (by omega), rcCells_at fs k (by omega) j hj]
  exact ⟨g, rfl, hg, hlt, hc 0 (by omega), hc 1 (by omega), hc 2 (by omega), hc 3 (by omega)⟩
end Go.Proofs.YtadlabndbomgmaaDoor
