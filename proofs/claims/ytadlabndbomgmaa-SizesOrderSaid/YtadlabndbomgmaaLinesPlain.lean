/- Plain facts on items of lines: the parts they are cut into, groups of parts, widths. No program in sight. -/
import Derived.Test.YtadlabndbomgmaaBreaksPlain
import Derived.Test.YtadlabndbomgmaaFitPlain
namespace Go.Proofs.Ytadlabndbomgmaa
open Go.Lib
/-- A blank behind a text is a rune of its own, whatever stands ahead. -/
theorem decodeL_space (l : List UInt8) (hne : l ≠ []) : decodeL (l ++ [32]) = decodeL l := by
  have key : ∀ n b0 b1 b2 b3 c1 c2 c3 : Nat, 1 ≤ n → (1 < n → b1 = c1) → (2 < n → b2 = c2) → (3 < n → b3 = c3) → (n = 1 → b1 = 32) → (n = 2 → b2 = 32) → (n = 3 → b3 = 32) → decodeN (n + 1) b0 b1 b2 b3 = decodeN n b0 c1 c2 c3 := by
    intro n b0 b1 b2 b3 c1 c2 c3 hn e1 e2 e3 f1 f2 f3
    rcases (show n = 1 ∨ n = 2 ∨ n = 3 ∨ 3 < n by omega) with h | h | h | h
    · subst h
      have := f1 rfl
      subst this
      unfold decodeN
      simp
    · subst h
      have := f2 rfl
      have h1 := e1 (by omega)
      subst this h1
      unfold decodeN
      simp
    · subst h
      have := f3 rfl
      have h1 := e1 (by omega)
      have h2 := e2 (by omega)
      subst this h1 h2
      unfold decodeN
      simp
    · have h1 := e1 (by omega)
      have h2 := e2 (by omega)
      have h3 := e3 (by omega)
      subst h1 h2 h3
      unfold decodeN
      simp [show 1 < n by omega, show 2 < n by omega, h]
      have a1 : 0 < n := by omega
      have a2 : 2 < n + 1 := by omega
      have a3 : 3 < n + 1 := by omega
      simp [a1, a2, a3]
  have hl : 0 < l.length := List.length_pos_iff.2 hne
  have g : ∀ i, i < l.length → (l ++ [32]).getD i 0 = l.getD i 0 := fun i hi => by simp [List.getD, List.getElem?_append_left hi]
  have g2 : (l ++ [32]).getD l.length 0 = 32 := by simp [List.getD]
  rw [decodeL_N, decodeL_N l, List.length_append, List.length_singleton, g 0 hl]
  exact key _ _ _ _ _ _ _ _ hl (fun h => by rw [g 1 h]) (fun h => by rw [g 2 h]) (fun h => by rw [g 3 h]) (fun h => by rw [← h, g2]; rfl) (fun h => by rw [← h, g2]; rfl) (fun h => by rw [← h, g2]; rfl)
theorem decodeL_le (l : List UInt8) (hne : l ≠ []) : (decodeL l).2 ≤ l.length := by
  have hl : 0 < l.length := List.length_pos_iff.2 hne
  have := (decode_wd ⟨l.toArray⟩ 0 (by simpa [ByteArray.size] using hl)).2.1
  simpa [decodeL, ByteArray.size] using this
theorem runes_space : ∀ (f : Nat) (l : List UInt8), l.length ≤ f → runesL (l ++ [32]) = runesL l ++ [32]
  | 0, l, h => by
    obtain rfl : l = [] := List.eq_nil_of_length_eq_zero (by omega)
    kernel_rfl
  | f + 1, l, h => by
    by_cases hne : l = []
    · subst hne; kernel_rfl
    · have h1 := decodeL_width l
      have h2 := decodeL_le l hne
      rw [runesL_step (l ++ [32]) (by simp), runesL_step l hne, decodeL_space l hne, List.drop_append_of_le_length h2, runes_space f (l.drop (decodeL l).2) (by rw [List.length_drop]; omega)]
      rfl
/-- An item of lines. -/
structure It where
  kind : Int
  box : Int
  text : ByteArray
  size : Int
  spacing : Int
  height : Int
  mode : Int
  shift : Int
  w : Int
  h : Int
  side : Int
def it0 : It := ⟨0, 0, ByteArray.empty, 0, 0, 0, 0, 0, 0, 0, 0⟩
def itAt (xs : List It) (k : Nat) : It := xs.getD k it0
theorem itAt_of (xs : List It) (k : Nat) (h : k < xs.length) : itAt xs k = xs[k] := by simp [itAt, List.getD, List.getElem?_eq_getElem h]
/-- A part of an item: the item's number, its text, its width, whether it is the last one. -/
structure Pt where
  i : Nat
  t : ByteArray
  w : Int
  last : Bool
def txW (x : It) (t : ByteArray) : Int := widthF x.size x.spacing (runesL t.data.toList)
def textParts (i : Nat) (x : It) : Nat → List ByteArray → List Pt
  | _, [] => []
  | n, t :: r => ⟨i, t, txW x t, n == 1⟩ :: textParts i x (n - 1) r
def partsOf (i : Nat) (x : It) : List Pt :=
  if x.kind = 1 then textParts i x (piecesF x.text (modeW x.mode) (modeK x.mode)).length (piecesF x.text (modeW x.mode) (modeK x.mode))
  else if x.kind = 6 ∨ x.kind = 7 ∨ x.kind = 5 then [⟨i, ByteArray.empty, 0, true⟩]
  else if x.kind = 4 then [⟨i, ByteArray.empty, max 0 (cut x.w), true⟩]
  else [⟨i, ByteArray.empty, cut x.w, true⟩]
def partsTo (xs : List It) (k : Nat) : List Pt := (List.range k).flatMap fun i => partsOf i (itAt xs i)
theorem partsTo_next (xs : List It) (k : Nat) : partsTo xs (k + 1) = partsTo xs k ++ partsOf k (itAt xs k) := by simp [partsTo, List.range_succ]
def pt0 : Pt := ⟨0, ByteArray.empty, 0, false⟩
def ptAt (ps : List Pt) (k : Nat) : Pt := ps.getD k pt0
theorem ptAt_of (ps : List Pt) (k : Nat) (h : k < ps.length) : ptAt ps k = ps[k] := by simp [ptAt, List.getD, List.getElem?_eq_getElem h]
section
variable (xs : List It)
def pKind (p : Pt) : Int := (itAt xs p.i).kind
def pMode (p : Pt) : Int := (itAt xs p.i).mode
def solidF (p : Pt) : Bool := pKind xs p == 1 || pKind xs p == 4
def collF (p : Pt) : Bool := pKind xs p == 1 && (pMode xs p == 0 || pMode xs p == 2)
def spaceEnd (t : ByteArray) : Bool := t.data.toList.getLast? == some 32
def endsF (p : Pt) : Bool := pKind xs p == 1 && spaceEnd p.t
def tailF (p : Pt) : Int := if collF xs p && endsF xs p then p.w - txW (itAt xs p.i) (p.t.extract 0 (p.t.size - 1)) else 0
/-- Is it passed by on the way back, on the way on? -/
def skipA (k : Int) : Bool := k == 3 || k == 7 || k == 5
def skipB (k : Int) : Bool := k == 2 || k == 7 || k == 5
def widthG (ps : List Pt) : Int := (ps.map (·.w)).sum
def tailG : List Pt → Int
  | [] => 0
  | p :: r => if skipA (pKind xs p) then tailG r else tailF xs p
/-- The nearest part back from k - 1 that is not passed by: one more than its place, or 0. -/
def downF (ps : List Pt) : Nat → Nat
  | 0 => 0
  | k + 1 => if skipA (pKind xs (ptAt ps k)) then downF ps k else k + 1
/-- The nearest part on from k, of the f next ones, that is not passed by. -/
def upF (ps : List Pt) : Nat → Nat → Nat
  | 0, k => k
  | f + 1, k => if skipB (pKind xs (ptAt ps k)) then upF ps f (k + 1) else k
def mayAt (ps : List Pt) (a b : Nat) : Bool :=
  if pKind xs (ptAt ps a) = 4 ∨ pKind xs (ptAt ps b) = 4 then true
  else (pKind xs (ptAt ps a) == 1 && pKind xs (ptAt ps b) == 1) && (!(ptAt ps a).last || (endsF xs (ptAt ps a) && (pMode xs (ptAt ps a) == 0 || pMode xs (ptAt ps a) == 3)))
def mayEndF (ps : List Pt) (k : Nat) : Bool :=
  if pKind xs (ptAt ps (k - 1)) = 2 ∨ pKind xs (ptAt ps k) = 3 then false
  else if downF xs ps k = 0 ∨ upF xs ps (ps.length - k) k = ps.length then false
  else mayAt xs ps (downF xs ps k - 1) (upF xs ps (ps.length - k) k)
def cutsAt (ps : List Pt) (k : Nat) : Bool := k == ps.length || pKind xs (ptAt ps (k - 1)) == 6 || mayEndF xs ps k
/-- The groups that end at k or ahead, and where the next one begins. -/
def groupsTo (ps : List Pt) : Nat → List (Nat × Nat) × Nat
  | 0 => ([], 0)
  | k + 1 => let g := groupsTo ps k; if cutsAt xs ps (k + 1) then (g.1 ++ [(g.2, k + 1)], k + 1) else g
def segP (ps : List Pt) (g : Nat × Nat) : List Pt := (ps.drop g.1).take (g.2 - g.1)
end
end Go.Proofs.Ytadlabndbomgmaa
