/- Plain facts on what floats. No program in sight. -/
import Derived.Test.YtadlabndbomgmaaPlain
namespace Go.Proofs.Ytadlabndbomgmaa
/-- What floats: a rectangle at a side (1: left). -/
structure Fl where
  x : Int
  y : Int
  w : Int
  h : Int
  side : Int
def Fl.cells (f : Fl) : List Value := [.int .i64 f.x, .int .i64 f.y, .int .i64 f.w, .int .i64 f.h, .int .i64 f.side]
def flCells : List Fl → List Value
  | [] => []
  | f :: l => f.cells ++ flCells l
theorem flCells_append (l m : List Fl) : flCells (l ++ m) = flCells l ++ flCells m := by
  induction l with
  | nil => rfl
  | cons f l ih => simp [flCells, ih]
theorem flCells_length (l : List Fl) : (flCells l).length = l.length * 5 := by
  induction l with
  | nil => rfl
  | cons f l ih => simp [flCells, Fl.cells, ih]; omega
theorem flCells_at (l : List Fl) : ∀ (k : Nat) (h : k < l.length) (j : Nat), j < 5 → (flCells l)[k * 5 + j]? = (l[k]).cells[j]? := by
  induction l with
  | nil => intro k h; simp at h
  | cons f l ih =>
    intro k h j hj
    cases k with
    | zero => simp only [flCells, Nat.zero_mul, Nat.zero_add, List.getElem_cons_zero]; rw [List.getElem?_append_left (by simp [Fl.cells]; omega)]
    | succ k =>
      have e : (k + 1) * 5 + j = 5 + (k * 5 + j) := by omega
      have hl : f.cells.length = 5 := rfl
      rw [e]
      simp only [flCells, List.getElem_cons_succ]
      rw [List.getElem?_append_right (by omega), hl, Nat.add_sub_cancel_left]
      exact ih k (by simpa using h) j hj
/-- Is it met by a stretch? -/
def metF (y h : Int) (f : Fl) : Bool := decide (0 < f.h) && decide (f.y < y + max 1 h) && decide (y < f.y + f.h)
def estep (y h : Int) (s : Int × Int × Bool) (f : Fl) : Int × Int × Bool :=
  if metF y h f then (if f.side == 1 then (max s.1 (f.x + f.w), s.2.1, true) else (s.1, min s.2.1 f.x, true)) else s
def edgesF (width y h : Int) (fs : List Fl) : Int × Int × Bool := fs.foldl (estep y h) (0, width, false)
theorem edgesF_take (width y h : Int) (fs : List Fl) (k : Nat) (hk : k < fs.length) : edgesF width y h (fs.take (k + 1)) = estep y h (edgesF width y h (fs.take k)) fs[k] := by
  unfold edgesF; rw [List.take_succ_eq_append_getElem hk, List.foldl_append]; rfl
/-- What the edges are: nobody who is met lies between; who is not met, does not move them. -/
theorem foldl_estep (y h : Int) (fs : List Fl) : ∀ s : Int × Int × Bool,
    s.1 ≤ (fs.foldl (estep y h) s).1 ∧ (fs.foldl (estep y h) s).2.1 ≤ s.2.1 ∧ (s.2.2 = true → (fs.foldl (estep y h) s).2.2 = true) ∧
    (∀ f ∈ fs, metF y h f = true → (fs.foldl (estep y h) s).2.2 = true ∧ (f.side = 1 → f.x + f.w ≤ (fs.foldl (estep y h) s).1) ∧ (f.side ≠ 1 → (fs.foldl (estep y h) s).2.1 ≤ f.x)) ∧
    ((∀ f ∈ fs, metF y h f = false) → fs.foldl (estep y h) s = s) := by
  induction fs with
  | nil => intro s; simp
  | cons f fs ih =>
    intro s
    obtain ⟨h1, h2, h3, h4, h5⟩ := ih (estep y h s f)
    simp only [List.foldl_cons]
    have g : s.1 ≤ (estep y h s f).1 ∧ (estep y h s f).2.1 ≤ s.2.1 ∧ (s.2.2 = true → (estep y h s f).2.2 = true) ∧
        (metF y h f = true → (estep y h s f).2.2 = true ∧ (f.side = 1 → f.x + f.w ≤ (estep y h s f).1) ∧ (f.side ≠ 1 → (estep y h s f).2.1 ≤ f.x)) ∧
        (metF y h f = false → estep y h s f = s) := by
      unfold estep
      by_cases hm : metF y h f = true
      · by_cases hs : f.side = 1
        · simp only [if_pos hm, hs, beq_self_eq_true, if_true]; refine ⟨by omega, by omega, fun _ => trivial, fun _ => ⟨trivial, fun _ => by omega, fun h => absurd rfl h⟩, fun h => by rw [hm] at h; cases h⟩
        · have hs' : (f.side == 1) = false := by simpa using hs
          simp only [if_pos hm, hs', Bool.false_eq_true, if_false]; refine ⟨by omega, by omega, fun _ => trivial, fun _ => ⟨trivial, fun h => absurd h hs, fun _ => by omega⟩, fun h => by rw [hm] at h; cases h⟩
      · simp only [if_neg hm]; exact ⟨by omega, by omega, fun h => h, fun h => absurd h hm, fun _ => by first | rfl | trivial⟩
    obtain ⟨g1, g2, g3, g4, g5⟩ := g
    refine ⟨by omega, by omega, fun h => h3 (g3 h), ?_, ?_⟩
    · intro q hq hm
      rcases List.mem_cons.1 hq with rfl | hq
      · obtain ⟨a1, a2, a3⟩ := g4 hm
        exact ⟨h3 a1, fun h => by have := a2 h; omega, fun h => by have := a3 h; omega⟩
      · exact h4 q hq hm
    · intro hn
      rw [h5 fun q hq => hn q (by simp [hq]), g5 (hn f (by simp))]
theorem edgesF_met {width y h : Int} {fs : List Fl} {f : Fl} (hf : f ∈ fs) (hm : metF y h f = true) :
    (edgesF width y h fs).2.2 = true ∧ (f.side = 1 → f.x + f.w ≤ (edgesF width y h fs).1) ∧ (f.side ≠ 1 → (edgesF width y h fs).2.1 ≤ f.x) := (foldl_estep y h fs (0, width, false)).2.2.2.1 f hf hm
theorem edgesF_none {width y h : Int} {fs : List Fl} (hn : ∀ f ∈ fs, metF y h f = false) : edgesF width y h fs = (0, width, false) := (foldl_estep y h fs (0, width, false)).2.2.2.2 hn
theorem edgesF_bd (width y h : Int) (fs : List Fl) : 0 ≤ (edgesF width y h fs).1 ∧ (edgesF width y h fs).2.1 ≤ width := ⟨(foldl_estep y h fs (0, width, false)).1, (foldl_estep y h fs (0, width, false)).2.1⟩
theorem edgesF_not {width y h : Int} {fs : List Fl} (hn : (edgesF width y h fs).2.2 = false) : (∀ f ∈ fs, metF y h f = false) ∧ edgesF width y h fs = (0, width, false) := by
  have a : ∀ f ∈ fs, metF y h f = false := by
    intro f hf
    cases hm : metF y h f
    · rfl
    · have := (edgesF_met (width := width) hf hm).1; rw [hn] at this; cases this
  exact ⟨a, edgesF_none a⟩
/-- Who is met, if somebody is. -/
theorem edgesF_some {width y h : Int} {fs : List Fl} (hn : (edgesF width y h fs).2.2 = true) : ∃ f ∈ fs, metF y h f = true := by
  by_cases hx : ∃ f ∈ fs, metF y h f = true
  · exact hx
  · have : ∀ f ∈ fs, metF y h f = false := fun f hf => by
      cases hm : metF y h f
      · rfl
      · exact absurd ⟨f, hf, hm⟩ hx
    rw [edgesF_none this] at hn; cases hn
theorem metF_true {y h : Int} {f : Fl} (hm : metF y h f = true) : 0 < f.h ∧ f.y < y + max 1 h ∧ y < f.y + f.h := by
  simpa [metF, and_assoc] using hm
theorem metF_mk {y h : Int} {f : Fl} (h1 : 0 < f.h) (h2 : f.y < y + max 1 h) (h3 : y < f.y + f.h) : metF y h f = true := by
  simp [metF, h1, h2, h3]
theorem edgesF_range {width y h : Int} {fs : List Fl} (hw : -16777216 ≤ width) (hok : ∀ f ∈ fs, -16777216 ≤ f.x ∧ f.x + f.w ≤ 33554432) :
    (edgesF width y h fs).1 ≤ 33554432 ∧ -16777216 ≤ (edgesF width y h fs).2.1 := by
  suffices H : ∀ s : Int × Int × Bool, s.1 ≤ 33554432 → -16777216 ≤ s.2.1 → (fs.foldl (estep y h) s).1 ≤ 33554432 ∧ -16777216 ≤ (fs.foldl (estep y h) s).2.1 from H (0, width, false) (by simp) hw
  induction fs with
  | nil => intro s h1 h2; exact ⟨h1, h2⟩
  | cons f fs ih =>
    intro s h1 h2
    have h3 := hok f (by simp)
    refine ih (fun q hq => hok q (by simp [hq])) (estep y h s f) ?_ ?_
    · unfold estep
      by_cases hm : metF y h f = true
      · rw [if_pos hm]
        by_cases hs : (f.side == 1) = true
        · rw [if_pos hs]; show max s.1 (f.x + f.w) ≤ _; omega
        · rw [if_neg hs]; exact h1
      · rw [if_neg hm]; exact h1
    · unfold estep
      by_cases hm : metF y h f = true
      · rw [if_pos hm]
        by_cases hs : (f.side == 1) = true
        · rw [if_pos hs]; exact h2
        · rw [if_neg hs]; show _ ≤ min s.2.1 f.x; omega
      · rw [if_neg hm]; exact h2
/-- The bounds that numbers keep: of k rectangles, each of a size up to S. -/
def FlOk (S : Int) (k : Nat) (f : Fl) : Prop := -16777216 ≤ f.x ∧ f.x ≤ 16777216 ∧ f.x + f.w ≤ 16777216 ∧ 0 ≤ f.w ∧ f.w ≤ 16777216 ∧ 0 ≤ f.h ∧ f.h ≤ S ∧ -16777216 ≤ f.y ∧ f.y + f.h ≤ S * (k + 1)
/-- The next place. -/
def lstep (y : Int) (s : Int) (f : Fl) : Int := if y < f.y + f.h ∧ (s < 0 ∨ f.y + f.h < s) then f.y + f.h else s
def leastF (y : Int) (fs : List Fl) : Int := fs.foldl (lstep y) (-1)
def nextF (y : Int) (fs : List Fl) : Int := max (leastF y fs) (y + 1)
theorem leastF_take (y : Int) (fs : List Fl) (k : Nat) (hk : k < fs.length) : leastF y (fs.take (k + 1)) = lstep y (leastF y (fs.take k)) fs[k] := by
  unfold leastF; rw [List.take_succ_eq_append_getElem hk, List.foldl_append]; rfl
theorem foldl_lstep (y M : Int) (fs : List Fl) (hM : ∀ f ∈ fs, f.y + f.h ≤ M) : ∀ s : Int, s ≤ max M (-1) → -16777217 ≤ s → (∀ f ∈ fs, -16777216 ≤ f.y + f.h) → fs.foldl (lstep y) s ≤ max M (-1) ∧ -16777217 ≤ fs.foldl (lstep y) s := by
  induction fs with
  | nil => intro s hs hl _; exact ⟨hs, hl⟩
  | cons f fs ih =>
    intro s hs hl hf
    simp only [List.foldl_cons]
    have h1 := hM f (by simp)
    have h2 := hf f (by simp)
    refine ih (fun q hq => hM q (by simp [hq])) _ ?_ ?_ (fun q hq => hf q (by simp [hq]))
    · unfold lstep; split <;> omega
    · unfold lstep; split <;> omega
theorem nextF_gt (y : Int) (fs : List Fl) : y + 1 ≤ nextF y fs := by unfold nextF; omega
theorem nextF_le {y M : Int} {fs : List Fl} (h0 : 0 ≤ M) (hM : ∀ f ∈ fs, f.y + f.h ≤ M) (hl : ∀ f ∈ fs, -16777216 ≤ f.y + f.h) (hy : y + 1 ≤ M) : nextF y fs ≤ M := by
  have := (foldl_lstep y M fs hM (-1) (by omega) (by omega) hl).1
  unfold nextF leastF; omega
theorem leastF_ge {y : Int} {fs : List Fl} (hl : ∀ f ∈ fs, -16777216 ≤ f.y + f.h) : -16777217 ≤ leastF y fs := by
  suffices h : ∀ s : Int, -16777217 ≤ s → -16777217 ≤ fs.foldl (lstep y) s from h (-1) (by omega)
  induction fs with
  | nil => intro s hs; exact hs
  | cons f fs ih =>
    intro s hs
    have h2 := hl f (by simp)
    exact ih (fun q hq => hl q (by simp [hq])) _ (by unfold lstep; split <;> omega)
/-- The lowest place that is not above one that came ahead. -/
def topY (y : Int) (fs : List Fl) : Int := fs.foldl (fun a f => max a f.y) y
theorem topY_take (y : Int) (fs : List Fl) (k : Nat) (hk : k < fs.length) : topY y (fs.take (k + 1)) = max (topY y (fs.take k)) fs[k].y := by
  unfold topY; rw [List.take_succ_eq_append_getElem hk, List.foldl_append]; rfl
theorem topY_spec (fs : List Fl) : ∀ y : Int, y ≤ topY y fs ∧ (∀ f ∈ fs, f.y ≤ topY y fs) ∧ ∀ M, y ≤ M → (∀ f ∈ fs, f.y ≤ M) → topY y fs ≤ M := by
  induction fs with
  | nil => intro y; exact ⟨Int.le_refl _, by simp, fun M h _ => h⟩
  | cons f fs ih =>
    intro y
    obtain ⟨h1, h2, h3⟩ := ih (max y f.y)
    refine ⟨by show y ≤ topY (max y f.y) fs; omega, ?_, ?_⟩
    · intro q hq
      show q.y ≤ topY (max y f.y) fs
      rcases List.mem_cons.1 hq with rfl | hq
      · omega
      · exact h2 q hq
    · intro M hy hM
      exact h3 M (by have := hM f (by simp); omega) fun q hq => hM q (by simp [hq])
/-- Where a rectangle is placed. -/
structure Placed (width : Int) (fs : List Fl) (side y w h M x y' : Int) : Prop where
  above : ∀ f ∈ fs, f.y ≤ y'
  low : y ≤ y'
  high : y' ≤ M
  at_ : x = if side = 2 then (edgesF width y' h fs).2.1 - w else (edgesF width y' h fs).1
  room : (edgesF width y' h fs).2.2 = false ∨ w ≤ (edgesF width y' h fs).2.1 - (edgesF width y' h fs).1
/-- What holds of what has been placed, one behind the other. -/
structure GoodFl (width : Int) (fs : List Fl) : Prop where
  bd : ∀ f ∈ fs, ((-16777216 ≤ f.x ∧ f.x ≤ 16777216 ∧ 0 ≤ f.w ∧ f.w ≤ 16777216) ∧ (-16777216 ≤ f.y ∧ f.y ≤ 1000000000000) ∧ 0 ≤ f.h ∧ f.h ≤ 16777216) ∧ f.y + f.h ≤ 65536 * fs.length + 32767
  up : fs.Pairwise fun a b => a.y ≤ b.y
  inside : ∀ f ∈ fs, f.w ≤ width → 0 ≤ f.x ∧ f.x + f.w ≤ width
  apart : fs.Pairwise fun q r => ¬ (0 < r.w ∧ 0 < r.h ∧ 0 < q.w ∧ 0 < q.h ∧ r.x < q.x + q.w ∧ q.x < r.x + r.w ∧ r.y < q.y + q.h ∧ q.y < r.y + r.h)
  sides : ∀ f ∈ fs, f.side = 1 ∨ f.side = 2
theorem GoodFl.nil (width : Int) : GoodFl width [] := ⟨by simp, .nil, by simp, .nil, by simp⟩
theorem GoodFl.step {width : Int} {fs : List Fl} (g : GoodFl width fs) (hw : 0 ≤ width ∧ width ≤ 16777216) (hl : fs.length ≤ 1000) {side y w h x y' : Int} (hs : side = 1 ∨ side = 2) (hy : -32768 ≤ y ∧ y ≤ 32767) (hwd : 0 ≤ w ∧ w ≤ 32767) (hh : 0 ≤ h ∧ h ≤ 32767)
    (p : Placed width fs side y w h (65536 * fs.length + 32767) x y') : GoodFl width (fs ++ [⟨x, y', w, h, side⟩]) := by
  obtain ⟨e1, e2⟩ := edgesF_bd width y' h fs
  have p3 := p.high
  have p2 := p.low
  have hx : (-16777216 ≤ x ∧ x ≤ 16777216) ∧ (w ≤ width → 0 ≤ x ∧ x + w ≤ width) ∧ ((edgesF width y' h fs).2.2 = true → (edgesF width y' h fs).1 ≤ x ∧ x + w ≤ (edgesF width y' h fs).2.1) := by
    have ha := p.at_
    rcases p.room with hm | hr
    · obtain ⟨_, he⟩ := edgesF_not hm
      rw [he] at ha
      refine ⟨?_, ?_, fun h => by rw [hm] at h; cases h⟩
      · rcases hs with rfl | rfl <;> simp at ha <;> omega
      · intro hww; rcases hs with rfl | rfl <;> simp at ha <;> omega
    · rcases hs with rfl | rfl
      · simp at ha; omega
      · simp at ha; omega
  refine ⟨?_, ?_, ?_, ?_, ?_⟩
  · intro f hf
    rw [List.length_append]
    rcases List.mem_append.1 hf with hf | hf
    · have := g.bd f hf; simp only [List.length_cons, List.length_nil]; omega
    · simp at hf; subst hf; simp only [List.length_cons, List.length_nil]; omega
  · rw [List.pairwise_append]
    refine ⟨g.up, List.pairwise_singleton _ _, ?_⟩
    intro a ha b hb
    simp at hb; subst hb
    exact p.above a ha
  · intro f hf
    rcases List.mem_append.1 hf with hf | hf
    · exact g.inside f hf
    · simp at hf; subst hf; exact hx.2.1
  · rw [List.pairwise_append]
    refine ⟨g.apart, List.pairwise_singleton _ _, ?_⟩
    intro q hq r hr
    simp at hr; subst hr
    rintro ⟨h1, h2, h3, h4, h5, h6, h7, h8⟩
    dsimp only at h1 h2 h5 h6 h7 h8
    obtain ⟨m1, m2, m3⟩ := edgesF_met (width := width) hq (metF_mk (y := y') (h := h) h4 (by omega) h7)
    obtain ⟨x1, x2⟩ := hx.2.2 m1
    rcases g.sides q hq with hs1 | hs1
    · have := m2 hs1; omega
    · have := m3 (by omega); omega
  · intro f hf
    rcases List.mem_append.1 hf with hf | hf
    · exact g.sides f hf
    · simp at hf; subst hf; exact hs
theorem not6 {a b c d e f : Bool} (h : ¬ (a = true ∧ b = true ∧ c = true ∧ d = true ∧ e = true ∧ f = true)) :
    a = false ∨ (a = true ∧ b = false) ∨ (a = true ∧ b = true ∧ c = false) ∨ (a = true ∧ b = true ∧ c = true ∧ d = false) ∨ (a = true ∧ b = true ∧ c = true ∧ d = true ∧ e = false) ∨ (a = true ∧ b = true ∧ c = true ∧ d = true ∧ e = true ∧ f = false) := by
  cases a <;> cases b <;> cases c <;> cases d <;> cases e <;> cases f <;> simp_all
theorem not5 {a b c d e : Bool} (h : ¬ (a = true ∧ b = true ∧ c = true ∧ d = true ∧ e = true)) :
    a = false ∨ (a = true ∧ b = false) ∨ (a = true ∧ b = true ∧ c = false) ∨ (a = true ∧ b = true ∧ c = true ∧ d = false) ∨ (a = true ∧ b = true ∧ c = true ∧ d = true ∧ e = false) := by
  cases a <;> cases b <;> cases c <;> cases d <;> cases e <;> simp_all
end Go.Proofs.Ytadlabndbomgmaa
