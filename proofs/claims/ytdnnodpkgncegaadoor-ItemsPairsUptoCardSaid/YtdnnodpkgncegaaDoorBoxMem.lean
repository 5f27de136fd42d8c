/- Boxes that came in: how they lie in memory. No program in sight. -/
import Derived.Test.YtdnnodpkgncegaaDoorOpen
import Derived.Test.YtdnnodpkgncegaaDoorKitT
namespace Go.Proofs.YtdnnodpkgncegaaDoor
open Go.RowKit
structure Bo where
  kind : Int
  node : Int
  par : Int
  kids : List Int
  text : ByteArray
def bo0 : Bo := ⟨0, 0, 0, [], ByteArray.empty⟩
def boAt (l : List Bo) (k : Nat) : Bo := l.getD k bo0
theorem boAt_of (l : List Bo) (k : Nat) (h : k < l.length) : boAt l k = l[k] := by simp [boAt, List.getD, List.getElem?_eq_getElem h]
/-- A box from the place off of block g on; its kids. -/
structure BoxC (w : World) (B g off : Nat) (x : Bo) (Ak : Option Addr) (ck : Nat) : Prop where
  c0 : w.cell? ⟨g, off, none⟩ = some (.int .i64 x.kind)
  c1 : w.cell? ⟨g, off + 1, none⟩ = some (.int .i64 x.node)
  c2 : w.cell? ⟨g, off + 2, none⟩ = some (.int .i64 x.par)
  c3 : w.cell? ⟨g, off + 3, none⟩ = some (.slice Ak x.kids.length ck)
  c4 : w.cell? ⟨g, off + 4, none⟩ = some (.string x.text)
  kids : Reads w B 1 Ak x.kids.length (x.kids.map (Value.int .i64))
theorem BoxC.below {w w' : World} {B g off : Nat} {x : Bo} {Ak : Option Addr} {ck : Nat} (h : BoxC w B g off x Ak ck) (hb : Below B w w') (hg : g < B) : BoxC w' B g off x Ak ck :=
  ⟨(hb.cell (p := ⟨g, off, none⟩) hg).trans h.c0, (hb.cell (p := ⟨g, off + 1, none⟩) hg).trans h.c1, (hb.cell (p := ⟨g, off + 2, none⟩) hg).trans h.c2, (hb.cell (p := ⟨g, off + 3, none⟩) hg).trans h.c3, (hb.cell (p := ⟨g, off + 4, none⟩) hg).trans h.c4, h.kids.below hb⟩
/-- Boxes that came in. -/
def BoxIn (w : World) (B : Nat) (A : Option Addr) (l : List Bo) : Prop := ∀ k, k < l.length → ∃ g off Ak ck, A = some ⟨g, off, none⟩ ∧ g < B ∧ BoxC w B g (off + k * 5) (boAt l k) Ak ck ∧ (boAt l k).kids.length ≤ maxLen
theorem BoxIn.below {w w' : World} {B : Nat} {A : Option Addr} {l : List Bo} (h : BoxIn w B A l) (hb : Below B w w') : BoxIn w' B A l := fun k hk => by
  obtain ⟨g, off, Ak, ck, h1, h2, h3, h4⟩ := h k hk
  exact ⟨g, off, Ak, ck, h1, h2, h3.below hb h2, h4⟩
/-- What boxes.Check asks. -/
def kidAt (l : List Bo) (i j : Nat) : Int := (boAt l i).kids.getD j 0
def prevKid (l : List Bo) (i : Nat) : Nat → Int
  | 0 => i
  | j + 1 => kidAt l i j
def KidGood (l : List Bo) (i j : Nat) : Prop := prevKid l i j < kidAt l i j ∧ kidAt l i j < l.length ∧ (boAt l (kidAt l i j).toNat).par = i
def HeadGood (l : List Bo) (i : Nat) : Prop := 1 ≤ (boAt l i).kind ∧ (boAt l i).kind ≤ 9 ∧ -1 ≤ (boAt l i).node ∧ (i = 0 → (boAt l i).par = -1)
def BoxGood (l : List Bo) (i : Nat) : Prop := HeadGood l i ∧ ∀ j, j < (boAt l i).kids.length → KidGood l i j
def wsum (l : List Bo) : Nat → Int
  | 0 => 0
  | k + 1 => IntKind.i64.wrap (wsum l k + (boAt l k).kids.length)
def ChkOk (l : List Bo) : Prop := (∀ i, i < l.length → BoxGood l i) ∧ (l.length = 0 ∨ wsum l l.length = (l.length : Int) - 1)
theorem kidAt_nonneg {l : List Bo} {i : Nat} (n : Nat) (hn : n ≤ (boAt l i).kids.length) (h : ∀ j, j < n → KidGood l i j) : 0 ≤ prevKid l i n := by
  cases n with
  | zero => show (0 : Int) ≤ (i : Int); omega
  | succ j =>
    induction j with
    | zero =>
      have := (h 0 (by omega)).1
      show 0 ≤ kidAt l i 0
      have h0 : prevKid l i 0 = i := rfl
      omega
    | succ j ih =>
      have h1 := ih (by omega) fun m hm => h m (by omega)
      have h2 := (h (j + 1) (by omega)).1
      show 0 ≤ kidAt l i (j + 1)
      have h3 : prevKid l i (j + 1) = kidAt l i j := rfl
      have h4 : prevKid l i (j + 1) = kidAt l i j := rfl
      omega
theorem kid_cell {w : World} {B : Nat} {Ak : Option Addr} {xs : List Int} (h : Reads w B 1 Ak xs.length (xs.map (Value.int .i64))) (j : Nat) (hj : j < xs.length) : ∃ a : Addr, Ak = some a ∧ a.block < B ∧ w.cell? (a.add j) = some (.int .i64 (xs.getD j 0)) := by
  obtain ⟨_, h2⟩ := h
  obtain ⟨a, h3, h4, h5⟩ := h2 (by omega)
  refine ⟨a, h3, h4, h5 j _ ?_⟩
  simp [List.getElem?_map, List.getElem?_eq_getElem hj]
theorem kid_form {w : World} {B : Nat} {Ak : Option Addr} {xs : List Int} (h : Reads w B 1 Ak xs.length (xs.map (Value.int .i64))) (h0 : 0 < xs.length) : ∃ g off, Ak = some ⟨g, off, none⟩ ∧ g < B ∧ ∀ j, j < xs.length → w.cell? ⟨g, off + j, none⟩ = some (.int .i64 (xs.getD j 0)) := by
  obtain ⟨a, h1, h2, h3⟩ := kid_cell h 0 h0
  obtain ⟨g, off, spot⟩ := a
  have hspot : spot = none := by
    simp [Addr.add] at h3
    simpa using World.cell?_spot h3
  subst hspot
  refine ⟨g, off, h1, h2, fun j hj => ?_⟩
  obtain ⟨a, h4, _, h5⟩ := kid_cell h j hj
  rw [h1] at h4
  obtain rfl : (⟨g, off, none⟩ : Addr) = a := by injection h4
  have hadd : (⟨g, off, none⟩ : Addr).add j = ⟨g, off + j, none⟩ := by unfold Addr.add; split <;> simp_all
  rw [hadd] at h5
  exact h5
end Go.Proofs.YtdnnodpkgncegaaDoor
