/- Walks: floats.All, floats.Clear, and the closed fact floated. -/
import Derived.BigQuiet
import Derived.Handy
import Derived.Test.YtadlabndbomgmaaFloatsPlace
namespace Go.Proofs.Ytadlabndbomgmaa
open Go.ChangeShapes Go.WideShapes Go.ChangeAt Go.RowKit
def Fl.rect (f : Fl) : List Value := [.int .i64 f.x, .int .i64 f.y, .int .i64 f.w, .int .i64 f.h]
def rcCells : List Fl → List Value
  | [] => []
  | f :: l => f.rect ++ rcCells l
theorem rcCells_append (l m : List Fl) : rcCells (l ++ m) = rcCells l ++ rcCells m := by
  induction l with
  | nil => rfl
  | cons f l ih => simp [rcCells, ih]
theorem rcCells_length (l : List Fl) : (rcCells l).length = l.length * 4 := by
  induction l with
  | nil => rfl
  | cons f l ih => simp [rcCells, Fl.rect, ih]; omega
theorem rcCells_at (l : List Fl) : ∀ (k : Nat) (h : k < l.length) (j : Nat), j < 4 → (rcCells l)[k * 4 + j]? = (l[k]).rect[j]? := by
  induction l with
  | nil => intro k h; simp at h
  | cons f l ih =>
    intro k h j hj
    cases k with
    | zero => simp only [rcCells, Nat.zero_mul, Nat.zero_add, List.getElem_cons_zero]; rw [List.getElem?_append_left (by simp [Fl.rect]; omega)]
    | succ k =>
      have e : (k + 1) * 4 + j = 4 + (k * 4 + j) := by omega
      have hl : f.rect.length = 4 := rfl
      rw [e]
      simp only [rcCells, List.getElem_cons_succ]
      rw [List.getElem?_append_right (by omega), hl, Nat.add_sub_cancel_left]
      exact ih k (by simpa using h) j hj
theorem rect_info : (Try.prog.info? 39).map (fun i => (i.zero, i.size, i.bytes)) = some (some (.agg #[.int .i64 0, .int .i64 0, .int .i64 0, .int .i64 0]), 4, 32) := by kernel_rfl
theorem lit_at {w : World} {n0 : Nat} (hn : w.heap.size = n0) (e : TypeId) (cs : Array Value) (size n : Nat) (hs : cs.size = n * size) : Reads (w.alloc (.cells cs e)) (n0 + 1) size (some ⟨n0, 0, none⟩) n cs.toList := by
  subst hn; exact Reads.lit w e cs size n hs
set_option maxRecDepth 100000 in
theorem All_any (b B : Nat) (width : Int) (fs : List Fl) (w : World) (hf : FloatsAt w B b width fs) (hn : fs.length ≤ 200) :
    Calls Try.prog 37 #[.pointer (some ⟨b, 0, none⟩)] w fun e w' => ∃ v, e = .returned v ∧ w'.ownsRow w.heap.size 39 4 v fs.length (rcCells fs) ∧ Below w.heap.size w w' := by
  obtain ⟨A, c, hb, hBb, hown⟩ := hf
  have c1 : w.cell? ⟨b, 1, none⟩ = some (.slice A fs.length c) := hb.cell 1
  obtain ⟨i0, hi0, hz0, hz1, hz2⟩ := info_parts rect_info
  have Hown := hide hown
  clear hown
  go_enter Try.func37, Try.ntmps37
  go_wp2_with fail
  go_loopw [3, 5, 11] (fun v p i wr => ∃ k : Nat, k ≤ fs.length ∧ i = .int .i64 k ∧ wr.ownsRow w.heap.size 39 4 v k (rcCells (fs.take k)) ∧ Below w.heap.size w wr) (fun _ _ i _ => fs.length - (intOf i).toNat)
  case atStart => exact ⟨0, Nat.zero_le _, rfl, own_none _ _ _ _, Below.refl _ _⟩
  case round =>
    obtain ⟨k, hk, rfl, hownr, hbel⟩ := hrel
    by_cases hlt : k < fs.length
    · obtain ⟨g, rfl, _, hg, f0, f1, f2, f3, f4⟩ := floatCell Hown.out hlt
      have d0 := (hbel.cell (p := ⟨g, k * 5, none⟩) hg).trans f0
      have d1 := (hbel.cell (p := ⟨g, k * 5 + 1, none⟩) hg).trans f1
      have d2 := (hbel.cell (p := ⟨g, k * 5 + 2, none⟩) hg).trans f2
      have d3 := (hbel.cell (p := ⟨g, k * 5 + 3, none⟩) hg).trans f3
      have d4 := (hbel.cell (p := ⟨g, k * 5 + 4, none⟩) hg).trans f4
      have e1 := hide (show rcCells (fs.take (k + 1)) = rcCells (fs.take k) ++ fs[k].rect from by rw [List.take_succ_eq_append_getElem hlt, rcCells_append]; simp [rcCells])
      generalize fs[k] = f at *
      obtain ⟨fx, fy, fw, fh, fsd⟩ := f
      clear f0 f1 f2 f3 f4
      dsimp only at d0 d1 d2 d3 d4
      have Hownr := hide hownr
      have hsz := hbel.size
      clear hownr
      go_wp2_with (at_builtin; refine wpList_app rfl (.tmp 15) (.tmp 18) _ rfl w.heap.size 39 i0 _ 4 32 Try.underlying35 hi0 hz0 hz1 hz2 rfl (by omega) _ k _ rfl ((Hownr.out.alloc _).alloc _) (wr.heap.size + 1 + 1) _ 1 1 _ rfl (lit_at (by simp) _ _ 4 1 rfl) (by intro u hu; simp at hu; rcases hu with rfl | rfl | rfl | rfl <;> rfl) (by simp only [maxLen]; omega) (by omega) w ((hbel.alloc hsz _).alloc (by simp; omega) _) (Nat.le_refl _) ?_; intro v2 w2 hown2 hbel2)
      go_roundw
      case rel => exact ⟨k + 1, by omega, by go_num, by rw [e1.out]; exact hown2, hbel2⟩
      case measure => simp [intOf]; omega
    · have hk2 : k = fs.length := by omega
      have ht : fs.take k = fs := List.take_of_length_le (by omega)
      rw [ht] at hownr
      subst hk2
      clear ht
      go_wp2
      go_ret
      exact ⟨_, rfl, hownr, hbel⟩
theorem rectCell {w : World} {B n c : Nat} {A : Option Addr} {fs : List Fl} (h : w.ownsRow B 39 4 (.slice A n c) n (rcCells fs)) {k : Nat} (hk : k < n) (hl : fs.length = n) :
    ∃ g, A = some ⟨g, 0, none⟩ ∧ B ≤ g ∧ g < w.heap.size ∧ w.cell? ⟨g, k * 4, none⟩ = some (.int .i64 (fs[k]'(by omega)).x) ∧ w.cell? ⟨g, k * 4 + 1, none⟩ = some (.int .i64 (fs[k]'(by omega)).y) ∧ w.cell? ⟨g, k * 4 + 2, none⟩ = some (.int .i64 (fs[k]'(by omega)).w) ∧ w.cell? ⟨g, k * 4 + 3, none⟩ = some (.int .i64 (fs[k]'(by omega)).h) := by
  obtain ⟨g, cap, hv, hg, hlt⟩ := h.form (by omega)
  injection hv with hA _ _
  subst hA
  have hc : ∀ j, j < 4 → w.cell? ⟨g, k * 4 + j, none⟩ = (fs[k]'(by omega)).rect[j]? := fun j hj => by
    rw [h.cellAt _ (by omega), rcCells_at fs k (by omega) j hj]
  exact ⟨g, rfl, hg, hlt, hc 0 (by omega), hc 1 (by omega), hc 2 (by omega), hc 3 (by omega)⟩
/-- The lowest end, from y on. -/
def endY (y : Int) (fs : List Fl) : Int := fs.foldl (fun a f => max a (f.y + f.h)) y
theorem endY_take (y : Int) (fs : List Fl) (k : Nat) (hk : k < fs.length) : endY y (fs.take (k + 1)) = max (endY y (fs.take k)) (fs[k].y + fs[k].h) := by
  unfold endY; rw [List.take_succ_eq_append_getElem hk, List.foldl_append]; rfl
theorem endY_spec (fs : List Fl) : ∀ y : Int, y ≤ endY y fs ∧ (∀ f ∈ fs, f.y + f.h ≤ endY y fs) ∧ ∀ M, y ≤ M → (∀ f ∈ fs, f.y + f.h ≤ M) → endY y fs ≤ M := by
  induction fs with
  | nil => intro y; exact ⟨Int.le_refl _, by simp, fun M h _ => h⟩
  | cons f fs ih =>
    intro y
    obtain ⟨h1, h2, h3⟩ := ih (max y (f.y + f.h))
    refine ⟨by show y ≤ endY (max y (f.y + f.h)) fs; omega, ?_, ?_⟩
    · intro q hq
      show q.y + q.h ≤ endY (max y (f.y + f.h)) fs
      rcases List.mem_cons.1 hq with rfl | hq
      · omega
      · exact h2 q hq
    · intro M hy hM
      exact h3 M (by have := hM f (by simp); omega) fun q hq => hM q (by simp [hq])
set_option maxRecDepth 100000 in
theorem Clear_any (b B : Nat) (y width : Int) (fs : List Fl) (w : World) (hf : FloatsAt w B b width fs) (hn : fs.length ≤ 200) (hok : ∀ f ∈ fs, -16777216 ≤ f.y + f.h ∧ f.y + f.h ≤ 1000000000000) :
    Calls Try.prog 40 #[.pointer (some ⟨b, 0, none⟩), .int .i64 3, .int .i64 y] w fun e w' => e = .returned (.int .i64 (endY (cut y) fs)) ∧ Below w.heap.size w w' := by
  obtain ⟨A, c, hb, hBb, hown⟩ := hf
  have c1 : w.cell? ⟨b, 1, none⟩ = some (.slice A fs.length c) := hb.cell 1
  have Hown := hide hown
  have Hok := hide hok
  clear hown hok
  go_enter Try.func40, Try.ntmps40
  go_wp2_with (go_at_call 28; refine (cut_any _ _).mono ?_; rintro e w' ⟨rfl, rfl⟩)
  go_loopw [2, 8, 16] (fun l p i wr => ∃ k : Nat, k ≤ fs.length ∧ i = .int .i64 k ∧ l = .int .i64 (endY (cut y) (fs.take k)) ∧ Below w.heap.size w wr) (fun _ _ i _ => fs.length - (intOf i).toNat)
  case atStart => exact ⟨0, Nat.zero_le _, rfl, rfl, Below.refl _ _⟩
  case round =>
    obtain ⟨k, hk, rfl, rfl, hbel⟩ := hrel
    by_cases hlt : k < fs.length
    · obtain ⟨g, rfl, _, hg, f0, f1, f2, f3, f4⟩ := floatCell Hown.out hlt
      have d0 := (hbel.cell (p := ⟨g, k * 5, none⟩) hg).trans f0
      have d1 := (hbel.cell (p := ⟨g, k * 5 + 1, none⟩) hg).trans f1
      have d2 := (hbel.cell (p := ⟨g, k * 5 + 2, none⟩) hg).trans f2
      have d3 := (hbel.cell (p := ⟨g, k * 5 + 3, none⟩) hg).trans f3
      have d4 := (hbel.cell (p := ⟨g, k * 5 + 4, none⟩) hg).trans f4
      have e1 := hide (endY_take (cut y) fs k hlt)
      have ho := Hok.out fs[k] (List.getElem_mem hlt)
      generalize fs[k] = f at *
      obtain ⟨fx, fy, fw, fh, fsd⟩ := f
      clear f0 f1 f2 f3 f4
      dsimp only at d0 d1 d2 d3 d4 ho
      cases hs3 : (fsd == 3)
      · go_wp2
        go_roundw
        case rel => exact ⟨k + 1, by omega, by go_num, by rw [e1.out], hbel.alloc hbel.size _⟩
        case measure => simp [intOf]; omega
      · go_wp2
        go_roundw
        case rel => exact ⟨k + 1, by omega, by go_num, by rw [e1.out], hbel.alloc hbel.size _⟩
        case measure => simp [intOf]; omega
    · have hk2 : k = fs.length := by omega
      have ht : fs.take k = fs := List.take_of_length_le (by omega)
      rw [ht]
      subst hk2
      clear ht
      go_wp2
      go_ret
      exact ⟨rfl, hbel⟩
theorem floated_any (w : World) : Calls Try.prog 35 #[] w fun e w' => e = .returned (.bool true) ∧ Below w.heap.size w w' := by
  have e100 := hide (show max 0 (cut 100) = 100 from by decide)
  go_enter Try.func35, Try.ntmps35
  go_wp2_with fail
  refine (New_any 100 w).mono ?_
  rintro e w1 ⟨rfl, hf, hb1⟩
  rw [e100.out] at hf
  have Hf := hide hf
  clear hf
  go_wp2_with fail
  have c3 : cut 3 = 3 := by decide
  refine (Place_any w.heap.size w.heap.size 2 3 40 10 100 3 [] w1 Hf.out hb1.size (by simp) (.inr rfl) (by omega) (by omega) (by omega) (by omega) (by simp)).mono ?_
  rintro e w2 ⟨x, y', rfl, hf2, hb2, hp⟩
  have hy : y' = 3 := by have h1 := hp.low; have h2 := hp.high; omega
  have hx : x = 60 := by rw [hp.at_, hy]; decide
  rw [hy, hx]
  clear hp hf2 hy hx c3
  go_wp2
  go_ret
  exact ⟨rfl, hb1.trans hb2⟩
end Go.Proofs.Ytadlabndbomgmaa
