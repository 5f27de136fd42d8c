/- The maker of items in memory. -/
import Derived.Test.YtdnnodpkgncegaaDoorStp
import Derived.Test.YtdnnodpkgncegaaDoorApp7
import Derived.Test.YtdnnodpkgncegaaDoorPairsPlain
import Derived.Test.YtdnnodpkgncegaaDoorBoxMem
namespace Go.Proofs.YtdnnodpkgncegaaDoor
open Go.RowKit
theorem bsz {B : Nat} {w w' : World} (h : Below B w w') (hB : B ≤ w.heap.size) : B ≤ w'.heap.size := Nat.le_trans hB h.size
theorem below_alloc2 {B : Nat} {w : World} (h : Below B w w) (a b : Obj) (hB : B ≤ w.heap.size := by exact Nat.le_refl _) : Below B w ((w.alloc a).alloc b) := by
  have h1 := h.alloc hB a
  exact h1.alloc (Nat.le_trans hB h1.size) b
structure Li where
  k : Int
  b : Int
  t : ByteArray
  o : Nat → Int
def liA (x : Li) : Array Value := #[.int .i64 x.k, .int .i64 x.b, .string x.t, .int .i64 (x.o 3), .int .i64 (x.o 4), .int .i64 (x.o 5), .int .i64 (x.o 6), .int .i64 (x.o 7), .int .i64 (x.o 8), .int .i64 (x.o 9), .int .i64 (x.o 10)]
def liCells (l : List Li) : List Value := l.flatMap fun x => (liA x).toList
def liKey (x : Li) : Ik := ⟨x.k, x.b, x.t.toList.isEmpty⟩
theorem liCells_snoc (l : List Li) (x : Li) : liCells (l ++ [x]) = liCells l ++ (liA x).toList := by simp [liCells]
theorem liCells_len (l : List Li) : (liCells l).length = l.length * 11 := by
  induction l with
  | nil => rfl
  | cons a s ih =>
    have e : liCells (a :: s) = (liA a).toList ++ liCells s := by simp [liCells]
    rw [e, List.length_append, ih, List.length_cons]
    simp only [liA, List.length_cons, List.length_nil]
    omega
theorem liCells_at (l : List Li) (i : Nat) (x : Li) (h : l[i]? = some x) (j : Nat) (hj : j < 11) : (liCells l)[i * 11 + j]? = (liA x)[j]? := by
  induction l generalizing i with
  | nil => simp at h
  | cons a s ih =>
    have e : liCells (a :: s) = (liA a).toList ++ liCells s := by simp [liCells]
    have hl : (liA a).toList.length = 11 := rfl
    rw [e]
    cases i with
    | zero =>
      obtain rfl : a = x := by simpa using h
      rw [List.getElem?_append_left (by omega), Array.getElem?_toList, Nat.zero_mul, Nat.zero_add]
    | succ i =>
      rw [List.getElem?_append_right (by omega), hl, show (i + 1) * 11 + j - 11 = i * 11 + j by omega]
      exact ih i (by simpa using h)
structure ItV (w : World) (B mb : Nat) (Sb Sl : Value) (room : Int) (bl : Bool) (V : Value) (s : List Li) : Prop where
  blk : Blk w mb 38 #[Sb, Sl, .int .i64 room, .bool bl, V]
  hmb : B ≤ mb
  row : w.ownsRow B 31 11 V s.length (liCells s)
section
variable {w w' : World} {B mb : Nat} {Sb Sl V V' : Value} {room : Int} {bl : Bool} {s : List Li}
theorem ItV.old (h : ItV w B mb Sb Sl room bl V s) (k : Below w.heap.size w w') : ItV w' B mb Sb Sl room bl V s := ⟨h.blk.below k h.blk.lt, h.hmb, own_keep h.row k (own_lt h.row)⟩
theorem ItV.below (h : ItV w B mb Sb Sl room bl V s) (k : Stp mb w V w' V') (hB : B ≤ w.heap.size) : Below B w w' := k.only.below hB fun i hi => by
  rcases hi with rfl | hi
  · exact h.hmb
  · exact own_ge h.row i hi
theorem ItV.keep (h : ItV w B mb Sb Sl room bl V s) (k : Stp mb w V w' V') {g : Nat} {t : TypeId} {cs : Array Value} (hb : Blk w g t cs) (h1 : t ≠ 38) (h2 : t ≠ 31) : Blk w' g t cs :=
  blk_only hb k.only fun hc => by
    rcases hc with rfl | hc
    · exact hb.ne_ h.blk h1 rfl
    · exact own_blk_ne h.row hb (Ne.symm h2) hc
theorem ItV.app (h : ItV w B mb Sb Sl room bl V s) (x : Li) {v4 : Value} {w4 w5 : World} (hown : w4.ownsRow B 31 11 v4 (s.length + 1) (liCells s ++ (liA x).toList)) (hg : w.grownBy w4 V.ownBlock) (hat : v4.ownBlock = V.ownBlock ∨ v4.ownBlock = some w.heap.size)
    (hb : Blk w5 mb 38 #[Sb, Sl, .int .i64 room, .bool bl, v4]) (hG : w4.grownBy w5 (some mb)) : ItV w5 B mb Sb Sl room bl v4 (s ++ [x]) ∧ Stp mb w V w5 v4 := by
  have hb4 : Blk w4 mb 38 _ := h.blk.grown hg (Ne.symm (own_blk_ne h.row h.blk (by decide)))
  have h4 := own_stays hown hG (own_blk_ne hown hb4 (by decide))
  refine ⟨⟨hb, h.hmb, by rw [List.length_append, liCells_snoc]; exact h4⟩, ⟨(Only.of_grown hg fun k hk => .inr hk).trans (Only.of_grown hG fun k hk => .inl (by injection hk with hk; exact hk.symm)), fun k hk => ?_⟩⟩
  rcases hat with e | e
  · exact .inl (by rw [← e]; exact hk)
  · rw [e] at hk
    injection hk with hk
    exact .inr (by omega)
theorem ItV.blank (h : ItV w B mb Sb Sl room bl V s) (bl' : Bool) (hb : Blk w' mb 38 #[Sb, Sl, .int .i64 room, .bool bl', V]) (hG : w.grownBy w' (some mb)) : ItV w' B mb Sb Sl room bl' V s ∧ Stp mb w V w' V :=
  ⟨⟨hb, h.hmb, own_stays h.row hG (own_blk_ne h.row h.blk (by decide))⟩, ⟨Only.of_grown hG fun k hk => .inl (by injection hk with hk; exact hk.symm), fun _ hk => .inl hk⟩⟩
end
end Go.Proofs.YtdnnodpkgncegaaDoor
