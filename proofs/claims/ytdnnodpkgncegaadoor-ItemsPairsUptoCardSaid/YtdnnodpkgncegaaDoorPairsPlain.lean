/- What begins ends: a plain law on items of lines. No program in sight. -/
namespace Go.Proofs.YtdnnodpkgncegaaDoor
/-- What the statement looks at, of an item: its kind, its box, and whether it has no text. -/
structure Ik where
  kind : Int
  box : Int
  bare : Bool
def popI (b : Int) : List Int → Option (List Int)
  | c :: st => if c = b then some st else none
  | [] => none
/-- One step of the statement: open boxes, the last one first; none: it falls. -/
def stp (st : List Int) (x : Ik) : Option (List Int) :=
  if x.kind = 2 then some (x.box :: st) else if x.kind = 3 then popI x.box st else if x.kind = 1 then (if x.bare then none else some st) else some st
def chk : List Int → List Ik → Option (List Int)
  | st, [] => some st
  | st, x :: r => (stp st x).bind fun s => chk s r
def Bal (l : List Ik) : Prop := ∀ st, chk st l = some st
theorem chk_append : ∀ (a b : List Ik) (st : List Int), chk st (a ++ b) = (chk st a).bind fun s => chk s b
  | [], _, _ => rfl
  | x :: a, b, st => by
    rw [List.cons_append, chk, chk]
    cases stp st x with
    | none => rfl
    | some s => exact chk_append a b s
theorem chk_one (st : List Int) (x : Ik) : chk st [x] = stp st x := by
  rw [chk]
  cases stp st x <;> rfl
theorem Bal.nil : Bal [] := fun _ => rfl
theorem Bal.append {a b : List Ik} (ha : Bal a) (hb : Bal b) : Bal (a ++ b) := fun st => by rw [chk_append, ha st]; exact hb st
theorem Bal.one {x : Ik} (h2 : x.kind ≠ 2) (h3 : x.kind ≠ 3) (h1 : x.kind = 1 → x.bare = false) : Bal [x] := fun st => by
  rw [chk_one, stp, if_neg h2, if_neg h3]
  split
  · rename_i h
    rw [h1 h]; rfl
  · rfl
theorem Bal.pair {l : List Ik} (h : Bal l) (b : Int) (e e' : Bool) : Bal (⟨2, b, e⟩ :: (l ++ [⟨3, b, e'⟩])) := fun st => by
  rw [chk]
  show chk (b :: st) (l ++ [⟨3, b, e'⟩]) = some st
  rw [chk_append, h (b :: st)]
  show chk (b :: st) [⟨3, b, e'⟩] = some st
  rw [chk_one]
  show popI b (b :: st) = some st
  simp [popI]
/-- The open boxes behind the first k items: the walk never falls. -/
theorem Bal.step {l : List Ik} (h : Bal l) (k : Nat) (hk : k < l.length) : ∃ st st', chk [] (l.take k) = some st ∧ stp st l[k] = some st' ∧ chk [] (l.take (k + 1)) = some st' := by
  have h0 := h []
  have e : l.take (k + 1) = l.take k ++ [l[k]] := List.take_succ_eq_append_getElem hk
  have e2 : l = l.take (k + 1) ++ l.drop (k + 1) := (List.take_append_drop _ _).symm
  rw [e2, chk_append] at h0
  cases h1 : chk [] (l.take (k + 1)) with
  | none => rw [h1] at h0; cases h0
  | some s' =>
    have h2 := h1
    rw [e, chk_append] at h2
    cases h3 : chk [] (l.take k) with
    | none => rw [h3] at h2; cases h2
    | some s => rw [h3] at h2; exact ⟨s, s', rfl, by rw [← chk_one]; exact h2, rfl⟩
theorem Bal.fin {l : List Ik} (h : Bal l) : chk [] (l.take l.length) = some [] := by rw [List.take_length]; exact h []
end Go.Proofs.YtdnnodpkgncegaaDoor
