/- How items of lines and their parts lie in memory. No program in sight. -/
import Derived.Test.YtadlabndbomgmaaSizesPlain
import Derived.Test.YtadlabndbomgmaaKitT
import Derived.Test.YtadlabndbomgmaaTakeCall
namespace Go.Proofs.Ytadlabndbomgmaa
open Go.RowKit
def itC (x : It) : List Value := [.int .i64 x.kind, .int .i64 x.box, .string x.text, .int .i64 x.size, .int .i64 x.spacing, .int .i64 x.height, .int .i64 x.mode, .int .i64 x.shift, .int .i64 x.w, .int .i64 x.h, .int .i64 x.side]
def itCells (xs : List It) : List Value := xs.flatMap itC
theorem itCells_len (l : List It) : (itCells l).length = l.length * 11 := by
  induction l with
  | nil => rfl
  | cons c l ih => simp only [itCells, List.flatMap_cons, List.length_append] at ih ⊢; rw [ih]; simp [itC]; omega
theorem itCells_snoc (l : List It) (c : It) : itCells (l ++ [c]) = itCells l ++ itC c := by simp [itCells]
theorem itCells_at : ∀ (l : List It) (k j : Nat), k < l.length → j < 11 → (itCells l)[k * 11 + j]? = (itC (itAt l k))[j]?
  | [], _, _, h, _ => absurd h (Nat.not_lt_zero _)
  | d :: l, 0, j, _, hj => by
    show (itC d ++ itCells l)[0 * 11 + j]? = _
    rw [Nat.zero_mul, Nat.zero_add, List.getElem?_append_left (by simpa [itC] using hj)]; rfl
  | d :: l, k + 1, j, h, hj => by
    show (itC d ++ itCells l)[(k + 1) * 11 + j]? = _
    rw [List.getElem?_append_right (by simp [itC]; omega), show (k + 1) * 11 + j - (itC d).length = k * 11 + j by simp [itC]; omega, itCells_at l k j (by simpa using h) hj]; rfl
/-- The items lie in block g. -/
def ItsAt (w : World) (g : Nat) (xs : List It) : Prop := ∀ k, k < xs.length → ∀ j, j < 11 → w.cell? ⟨g, k * 11 + j, none⟩ = (itC (itAt xs k))[j]?
theorem ItsAt.below {w w' : World} {g B : Nat} {xs : List It} (h : ItsAt w g xs) (hb : Below B w w') (hg : g < B) : ItsAt w' g xs := fun k hk j hj => (hb.cell (p := ⟨g, k * 11 + j, none⟩) hg).trans (h k hk j hj)
theorem ItsAt.lt {w : World} {g : Nat} {xs : List It} (h : ItsAt w g xs) (hl : 0 < xs.length) : g < w.heap.size := by
  have h1 := h 0 hl 0 (by omega)
  have h2 : (w.cell? ⟨g, 0 * 11 + 0, none⟩) = some (.int .i64 (itAt xs 0).kind) := h1
  unfold World.cell? at h2
  rcases Nat.lt_or_ge g w.heap.size with hlt | hge
  · exact hlt
  · rw [Array.getElem?_eq_none hge] at h2; cases h2
theorem ItsAt.alloc {w : World} {g : Nat} {xs : List It} (h : ItsAt w g xs) (o : Obj) (hl : g < w.heap.size) : ItsAt (w.alloc o) g xs := h.below ((Below.refl w.heap.size w).alloc (Nat.le_refl _) o) hl
theorem its_of_own {w : World} {base : Nat} {t : TypeId} {A : Option Addr} {n c : Nat} {xs : List It} (h : w.ownsRow base t 11 (.slice A n c) n (itCells xs)) (hl : xs.length = n) (h0 : 0 < n) : ∃ g, A = some ⟨g, 0, none⟩ ∧ base ≤ g ∧ g < w.heap.size ∧ ItsAt w g xs := by
  obtain ⟨g, cap, hv, hg, hgl⟩ := h.form h0
  have hA : A = some ⟨g, 0, none⟩ := by injection hv
  subst hA
  refine ⟨g, rfl, hg, hgl, fun k hk j hj => ?_⟩
  rw [h.cellAt _ (by omega), itCells_at xs k j hk hj]
def ptC (g : Nat) (p : Pt) : List Value := [.pointer (some ⟨g, p.i * 11, none⟩), .int .i64 p.i, .string p.t, .int .i64 p.w, .bool p.last]
def ptV (g : Nat) (p : Pt) : Array Value := #[.pointer (some ⟨g, p.i * 11, none⟩), .int .i64 p.i, .string p.t, .int .i64 p.w, .bool p.last]
def ptCells (g : Nat) (ps : List Pt) : List Value := ps.flatMap (ptC g)
theorem ptCells_len (g : Nat) (l : List Pt) : (ptCells g l).length = l.length * 5 := by
  induction l with
  | nil => rfl
  | cons c l ih => simp only [ptCells, List.flatMap_cons, List.length_append] at ih ⊢; rw [ih]; simp [ptC]; omega
theorem ptCells_snoc (g : Nat) (l : List Pt) (c : Pt) : ptCells g (l ++ [c]) = ptCells g l ++ ptC g c := by simp [ptCells]
theorem ptCells_at (g : Nat) : ∀ (l : List Pt) (k j : Nat), k < l.length → j < 5 → (ptCells g l)[k * 5 + j]? = (ptC g (ptAt l k))[j]?
  | [], _, _, h, _ => absurd h (Nat.not_lt_zero _)
  | d :: l, 0, j, _, hj => by
    show (ptC g d ++ ptCells g l)[0 * 5 + j]? = _
    rw [Nat.zero_mul, Nat.zero_add, List.getElem?_append_left (by simpa [ptC] using hj)]; rfl
  | d :: l, k + 1, j, h, hj => by
    show (ptC g d ++ ptCells g l)[(k + 1) * 5 + j]? = _
    rw [List.getElem?_append_right (by simp [ptC]; omega), show (k + 1) * 5 + j - (ptC g d).length = k * 5 + j by simp [ptC]; omega, ptCells_at g l k j (by simpa using h) hj]; rfl
/-- Parts lie in block h from place off on; they point to items in block g. -/
def PtsAt (w : World) (g h off : Nat) (ps : List Pt) : Prop := ∀ k, k < ps.length → ∀ j, j < 5 → w.cell? ⟨h, off + k * 5 + j, none⟩ = (ptC g (ptAt ps k))[j]?
theorem PtsAt.below {w w' : World} {g h off B : Nat} {ps : List Pt} (hp : PtsAt w g h off ps) (hb : Below B w w') (hg : h < B) : PtsAt w' g h off ps := fun k hk j hj => (hb.cell (p := ⟨h, off + k * 5 + j, none⟩) hg).trans (hp k hk j hj)
theorem ptAt_seg (ps : List Pt) (a b k : Nat) (hb : b ≤ ps.length) (hk : a + k < b) : ptAt (segP ps (a, b)) k = ptAt ps (a + k) := by
  have h1 : (segP ps (a, b)).length = b - a := by simp only [segP, List.length_take, List.length_drop]; omega
  rw [ptAt_of _ k (by omega), ptAt_of _ (a + k) (by omega)]
  simp [segP]
theorem PtsAt.seg {w : World} {g h off : Nat} {ps : List Pt} (hp : PtsAt w g h off ps) (a b : Nat) (hb : b ≤ ps.length) : PtsAt w g h (off + a * 5) (segP ps (a, b)) := by
  intro k hk j hj
  have h1 : (segP ps (a, b)).length = b - a := by simp only [segP, List.length_take, List.length_drop]; omega
  rw [ptAt_seg ps a b k hb (by omega), ← hp (a + k) (by omega) j hj, show off + a * 5 + k * 5 + j = off + (a + k) * 5 + j by omega]
theorem pts_of_own {w : World} {base g : Nat} {t : TypeId} {A : Option Addr} {n c : Nat} {ps : List Pt} (h : w.ownsRow base t 5 (.slice A n c) n (ptCells g ps)) (hl : ps.length = n) (h0 : 0 < n) : ∃ q, A = some ⟨q, 0, none⟩ ∧ base ≤ q ∧ q < w.heap.size ∧ PtsAt w g q 0 ps := by
  obtain ⟨q, cap, hv, hg, hgl⟩ := h.form h0
  have hA : A = some ⟨q, 0, none⟩ := by injection hv
  subst hA
  refine ⟨q, rfl, hg, hgl, fun k hk j hj => ?_⟩
  rw [Nat.zero_add, h.cellAt _ (by omega), ptCells_at g ps k j hk hj]
theorem suffix_space (t : ByteArray) : Lib.hasSuffix t.data.toList [32] = spaceEnd t := by
  unfold Lib.hasSuffix spaceEnd
  rw [Bool.eq_iff_iff]
  simp only [List.isSuffixOf_iff_suffix, beq_iff_eq]
  constructor
  · rintro ⟨l, hl⟩
    rw [← hl]; simp
  · intro h
    have hne : t.data.toList ≠ [] := by intro e; rw [e] at h; cases h
    have h1 := List.dropLast_concat_getLast hne
    have h2 : t.data.toList.getLast hne = 32 := by rw [List.getLast?_eq_some_getLast hne] at h; injection h
    rw [h2] at h1
    exact ⟨_, h1⟩
end Go.Proofs.Ytadlabndbomgmaa
