/- Parts of the proof, joined: BoxesPlain, BoxesLaw, BoxesOrd, BoxesFlat, DocLen, DocPlain, HandAS, Joined, Plain, Kit, KitS, KitT, Open, BoxMem, BoxCheck, DocMem, DocKv, ShelfB, StCheck, StackPlain, StBelPlain, StepApp, StyK, StMark. -/
import Derived.Handed
import Derived.HandedShaped
import Derived.Test.YtbpkffoooieejaaDoorRows
import Derived.JoinedOf
import Derived.KernelRfl
import Derived.WalkKit
import Derived.ProofKit
import Derived.WalkLawsBesides
import Derived.WalkSpells
import Derived.Below
import Derived.Laws.OwnMore
import Derived.Deep.AppendLies
import Derived.Deep.Draws
import Derived.Laws.Rows
import Derived.Maps.AppendAt
import Derived.RegionTactic
import Derived.OwnWalk
import Derived.Calls
import Derived.Tactics
import Derived.Deep.OwnRows
import Derived.Laws.AppendOwn
import Derived.ChangeSame
import Derived.Lib.Hide
import Derived.Lib.MinMax
import Derived.Deep.Slices
import Derived.Deep.Fields
import Derived.Deep.QuietTactic
import Derived.Laws.MakeOwn
import Derived.Laws.Entries
import Derived.Laws.BytesArg
import Derived.Deep.MidRow
import Derived.Deep.Upon
import Derived.Deep.RegionLaw
import Derived.Deep.RegionHeld3
import Derived.Laws.CopyOwn
import Derived.OpenShut
import Derived.ShutString
import Derived.ChangeOld
import Derived.Carry
import Derived.BigQuiet
import Derived.Handy
import Derived.IntWalk
import Derived.Deep.CutBlock
import Derived.Test.YtbpkffoooieejaaDoorChecked
import Derived.Shelf.Strings.Trim
import Derived.Shelf.Small.Utf8
import Derived.Shelf.Small.Bits
import Derived.Shelf.Small.Strs
import Derived.Shelf.Small.Wraps
import Derived.Shelf.Utf8.RuneCount
import Derived.Shelf.Strconv.Itoa0
import Derived.Shelf.Strings.Search1
import Derived.Shelf.Strings.Search2
import Derived.Shelf.Strings.Search3
import Derived.Shelf.Strings.Count
import Derived.Shelf.LaysM
import Derived.Shelf.Strings.Shaped
import Derived.Shelf.Strings.Split
import Derived.Shelf.Strings.SplitShaped
import Derived.Shelf.Unicode.Decode
import Derived.Shelf.Strings.Runes
import Derived.Shelf.Strings.RuneCount
import Derived.Shelf.Strings.AsciiSet
import Derived.Shelf.Strings.Explode
import Derived.Shelf.Unicode.DecodeSlow
import Derived.Shelf.Unicode.DecodeAny
import Derived.Shelf.Unicode.DecodeLast
import Derived.Shelf.Slices.Reverse
import Derived.Ground.Names2Prog
import Derived.Shelf.Slices.SearchI
import Derived.Shelf.Slices.Cells
import Derived.Ground.SlgnProg
import Derived.Shelf.SlicesE.Reverse
import Derived.Ground.SlsfProg
import Derived.Shelf.SlSortCmp.Insertion
import Derived.Shelf.SlSortCmp.SiftDown1
import Derived.Shelf.SlSortCmp.HeapSort1
import Derived.Shelf.SlSortCmp.Insertion1
import Derived.Shelf.SlSortCmp.Median1
import Derived.Shelf.SlSortCmp.Pivot1
import Derived.Shelf.SlSortCmp.ReverseRange1
import Derived.Shelf.SlSortCmp.PartialInsertion1
import Derived.Shelf.SlSortCmp.PartitionEqual1
import Derived.Shelf.SlSortCmp.Partition1
import Derived.Shelf.SlSortCmp.Pdq1
import Derived.Shelf.SlSortCmp.Whole1
import Derived.Shelf.SlSortCmp.NoneTotal
import Derived.Shelf.Strings.SlTrimAscii
import Derived.Test.YtbpkffoooieejaaDoorProg
set_option linter.unusedVariables false
set_option linter.unusedSimpArgs false
/- Boxes of a document: a plain model, and its laws. No program in sight. -/
namespace Go.Proofs.YtbpkffoooieejaaDoor
/-- What the maker looks at: kinds, kids, displays, who is out of the flow, line breaks, turned texts, who keeps blanks. -/
structure Pg where
  nk : Nat → Int
  kd : Nat → List Nat
  dp : Nat → Int
  ou : Nat → Int
  br : Nat → Bool
  tx : Nat → ByteArray
  kp : Nat → Bool
inductive Tr where
  | mk (kind node : Int) (text : ByteArray) (kids : List Tr)
def Tr.kind : Tr → Int | .mk k _ _ _ => k
def Tr.node : Tr → Int | .mk _ n _ _ => n
def Tr.text : Tr → ByteArray | .mk _ _ x _ => x
def Tr.kids : Tr → List Tr | .mk _ _ _ l => l
section
variable (idl : ByteArray → Bool) (P : Pg)
def isF (n : Nat) : Int := if 0 < P.ou n ∧ (P.dp n = 1 ∨ P.dp n = 3 ∨ P.dp n = 6 ∨ P.dp n = 7) then 2 else P.dp n
def contOne (g : Nat → List Nat) (k : Nat) : List Nat := if P.nk k = 3 then [k] else if P.nk k ≠ 2 ∨ isF P k = 0 then [] else if isF P k = 9 then g k else [k]
def contF : Nat → Nat → List Nat
  | 0, _ => []
  | d + 1, n => (P.kd n).flatMap (contOne P (contF d))
def isBlk (k : Int) : Bool := k == 1 || k == 2 || k == 6 || k == 7
def blockyF (o : Int) (t : Tr) : Bool := isBlk t.kind && (decide (t.node < 0) || decide (P.ou t.node.toNat < o))
def idleF (run : List Tr) : Bool := run.all fun t => t.kind == 4 && idl t.text && !P.kp t.node.toNat
def anonF (k : Int) (l : List Tr) : Tr := .mk k (-1) ByteArray.empty l
def splitF {α : Type} (alone : α → Bool) (one : α → Tr) (run : List α → Tr × Bool) : Nat → List α → List Tr
  | 0, _ => []
  | _ + 1, [] => []
  | m + 1, x :: l =>
    if alone x then one x :: splitF alone one run m l
    else (if (run ((x :: l).take ((x :: l).findIdx alone))).2 then [(run ((x :: l).take ((x :: l).findIdx alone))).1] else []) ++ splitF alone one run m ((x :: l).drop ((x :: l).findIdx alone))
def linesF (run : List Tr) : Tr × Bool := (anonF 2 run, !idleF idl P run)
def rowF (alone : Tr → Bool) (l : List Tr) : List Tr := splitF alone (fun t => t) (linesF idl P) l.length l
def contrF (node : Int) (l : List Tr) : Tr := if l.any (blockyF P 1) then .mk 1 node ByteArray.empty (rowF idl P (blockyF P 1) l) else .mk 2 node ByteArray.empty l
def namedF (is : Int) (n : Nat) : Bool := P.nk n == 2 && isF P n == is
def flexAlone (t : Tr) : Bool := blockyF P 2 t || (decide (0 ≤ t.node) && t.kind != 4 && P.ou t.node.toNat == 2)
def cellF (g : Nat → Tr) (node : Int) (l : List Nat) : Tr := .mk 9 node ByteArray.empty [contrF idl P (-1) (l.map g)]
def cellsF (g : Nat → Tr) (l : List Nat) : List Tr := splitF (namedF P 7) (fun n => cellF idl P g n (contF P 41 n)) (fun run => (cellF idl P g (-1) run, !idleF idl P (run.map g))) l.length l
def rowsF (g : Nat → Tr) (l : List Nat) : List Tr := splitF (namedF P 6) (fun n => .mk 8 n ByteArray.empty (cellsF idl P g (contF P 41 n))) (fun run => (anonF 8 [cellF idl P g (-1) run], !idleF idl P (run.map g))) l.length l
def boxF : Nat → Nat → Tr
  | 0, n => .mk 4 n ByteArray.empty []
  | d + 1, n =>
    if P.nk n = 3 then .mk 4 n (P.tx n) []
    else if P.br n = true ∧ isF P n = 1 then .mk 4 n ⟨#[10]⟩ []
    else if isF P n = 1 ∧ ((contF P 41 n).map (boxF d)).any (blockyF P 1) = false then .mk 3 n ByteArray.empty ((contF P 41 n).map (boxF d))
    else if isF P n = 3 then .mk 5 n ByteArray.empty [contrF idl P (-1) ((contF P 41 n).map (boxF d))]
    else if isF P n = 4 then .mk 6 n ByteArray.empty (rowF idl P (flexAlone P) ((contF P 41 n).map (boxF d)))
    else if isF P n = 5 then .mk 7 n ByteArray.empty (rowsF idl P (boxF d) (contF P 41 n))
    else contrF idl P n ((contF P 41 n).map (boxF d))
/-- The whole. -/
def rootF : Tr := contrF idl P 0 ((contF P 41 0).map (boxF idl P 41))
/-- The parts of a list that is split. -/
theorem split_all {α : Type} {alone : α → Bool} {one : α → Tr} {run : List α → Tr × Bool} {R : Tr → Prop} : ∀ (m : Nat) (l : List α), (∀ x ∈ l, alone x = true → R (one x)) → (∀ r : List α, (∀ x ∈ r, x ∈ l ∧ alone x = false) → R (run r).1) → ∀ t ∈ splitF alone one run m l, R t
  | 0, _, _, _ => fun t h => by cases h
  | _ + 1, [], _, _ => fun t h => by cases h
  | m + 1, x :: l, h1, h2 => fun t h => by
    rw [splitF] at h
    split at h
    · rcases List.mem_cons.1 h with rfl | h
      · exact h1 x (by simp) (by assumption)
      · exact split_all m l (fun y hy => h1 y (by simp [hy])) (fun r hr => h2 r fun y hy => ⟨by simp [(hr y hy).1], (hr y hy).2⟩) t h
    · rcases List.mem_append.1 h with h | h
      · split at h
        · obtain rfl : t = _ := by simpa using h
          refine h2 _ fun y hy => ⟨List.mem_of_mem_take hy, ?_⟩
          obtain ⟨i, hi, rfl⟩ := List.getElem_of_mem hy
          rw [List.length_take] at hi
          rw [List.getElem_take]
          have := List.not_of_lt_findIdx (p := alone) (xs := x :: l) (i := i) (by omega)
          simpa using this
        · cases h
      · exact split_all m _ (fun y hy => h1 y (List.mem_of_mem_drop hy)) (fun r hr => h2 r fun y hy => ⟨List.mem_of_mem_drop (hr y hy).1, (hr y hy).2⟩) t h
end
end Go.Proofs.YtbpkffoooieejaaDoor
/- The laws of boxes: kinds, order, what is hidden. No program in sight. -/
namespace Go.Proofs.YtbpkffoooieejaaDoor
inductive Tr.Ok (Q : Tr → Prop) : Tr → Prop where
  | mk {t : Tr} : Q t → (∀ s ∈ t.kids, Tr.Ok Q s) → Tr.Ok Q t
theorem Tr.Ok.here {Q : Tr → Prop} {t : Tr} (h : Tr.Ok Q t) : Q t := by cases h; assumption
theorem Tr.Ok.kid {Q : Tr → Prop} {t s : Tr} (h : Tr.Ok Q t) (hs : s ∈ t.kids) : Tr.Ok Q s := by cases h; rename_i h; exact h s hs
section
variable (idl : ByteArray → Bool) (P : Pg)
def outOf (n : Int) : Int := if 0 ≤ n then P.ou n.toNat else 0
/-- May a box stand in one of such a kind? -/
def PairOk (pk : Int) (k n : Int) (len : Nat) : Prop :=
  if pk = 1 then isBlk k = true ∧ outOf P n = 0
  else if pk = 2 ∨ pk = 3 then (isBlk k = false ∧ k ≠ 8 ∧ k ≠ 9) ∨ 0 < outOf P n
  else if pk = 6 then isBlk k = true
  else if pk = 7 then k = 8
  else if pk = 8 then k = 9
  else if pk = 5 ∨ pk = 9 then n < 0 ∧ len = 1
  else False
def KindQ (t : Tr) : Prop := ∀ s ∈ t.kids, PairOk P t.kind s.kind s.node t.kids.length
/-- What box makes: of a kind below 8, no cell, no row; it stands for its node. -/
def BoxQ (t : Tr) : Prop := t.kind ≠ 8 ∧ t.kind ≠ 9 ∧ 0 ≤ t.node ∧ (t.kind = 4 ∨ P.ou t.node.toNat = 2 → isBlk t.kind = true ∨ t.kind = 4)
variable (ho : ∀ n, 0 ≤ P.ou n)
theorem blocky_iff (o : Int) (t : Tr) : blockyF P o t = true ↔ isBlk t.kind = true ∧ (t.node < 0 ∨ P.ou t.node.toNat < o) := by
  simp [blockyF]
include ho in
theorem blocky_ok {t : Tr} (len : Nat) (h : blockyF P 1 t = true) : PairOk P 1 t.kind t.node len := by
  obtain ⟨h1, h2⟩ := (blocky_iff P 1 t).1 h
  unfold PairOk
  rw [if_pos rfl]
  refine ⟨h1, ?_⟩
  unfold outOf
  split
  · have := ho t.node.toNat; omega
  · rfl
theorem notBlocky_ok {t : Tr} {o : Int} (len : Nat) (hq : t.kind ≠ 8 ∧ t.kind ≠ 9) (ho1 : 1 ≤ o) (h : blockyF P o t = false) : PairOk P 2 t.kind t.node len ∧ PairOk P 3 t.kind t.node len := by
  have h1 : ¬ (isBlk t.kind = true ∧ (t.node < 0 ∨ P.ou t.node.toNat < o)) := fun e => by rw [(blocky_iff P o t).2 e] at h; cases h
  have h2 : (isBlk t.kind = false ∧ t.kind ≠ 8 ∧ t.kind ≠ 9) ∨ 0 < outOf P t.node := by
    cases hb : isBlk t.kind
    · exact .inl ⟨rfl, hq⟩
    · right
      have h3 : ¬ t.node < 0 := fun e => h1 ⟨hb, .inl e⟩
      have h4 : ¬ P.ou t.node.toNat < o := fun e => h1 ⟨hb, .inr e⟩
      unfold outOf
      rw [if_pos (by omega)]
      omega
  constructor
  · unfold PairOk
    rw [if_neg (by decide), if_pos (.inl rfl)]; exact h2
  · unfold PairOk
    rw [if_neg (by decide), if_pos (.inr rfl)]; exact h2
theorem lines_ok {run : List Tr} (o : Int) (ho1 : 1 ≤ o) (h : ∀ t ∈ run, blockyF P o t = false ∧ t.kind ≠ 8 ∧ t.kind ≠ 9 ∧ Tr.Ok (KindQ P) t) (n : Int) : Tr.Ok (KindQ P) (.mk 2 n ByteArray.empty run) :=
  .mk (fun s hs => (notBlocky_ok P _ ⟨(h s hs).2.1, (h s hs).2.2.1⟩ ho1 (h s hs).1).1) fun s hs => (h s hs).2.2.2
include ho in
theorem contr_ok {l : List Tr} (h : ∀ t ∈ l, t.kind ≠ 8 ∧ t.kind ≠ 9 ∧ Tr.Ok (KindQ P) t) (n : Int) : Tr.Ok (KindQ P) (contrF idl P n l) := by
  unfold contrF
  split
  · have key : ∀ t ∈ rowF idl P (blockyF P 1) l, (isBlk t.kind = true ∧ outOf P t.node = 0) ∧ Tr.Ok (KindQ P) t := by
      refine split_all _ _ (fun x hx hb => ?_) fun r hr => ?_
      · have := blocky_ok P ho 0 hb
        unfold PairOk at this
        rw [if_pos rfl] at this
        exact ⟨this, (h x hx).2.2⟩
      · refine ⟨⟨rfl, rfl⟩, lines_ok P 1 (Int.le_refl _) (fun t ht => ?_) _⟩
        obtain ⟨h1, h2⟩ := hr t ht
        obtain ⟨h3, h4, h5⟩ := h t h1
        exact ⟨h2, h3, h4, h5⟩
    refine .mk (fun s hs => ?_) fun s hs => (key s hs).2
    show PairOk P 1 _ _ _
    unfold PairOk
    rw [if_pos rfl]
    exact (key s hs).1
  · rename_i hn
    refine lines_ok P 1 (Int.le_refl _) (fun t ht => ?_) _
    obtain ⟨h3, h4, h5⟩ := h t ht
    refine ⟨?_, h3, h4, h5⟩
    cases hb : blockyF P 1 t
    · rfl
    · exact absurd (List.any_eq_true.2 ⟨t, ht, hb⟩) hn
theorem contr_kind (n : Int) (l : List Tr) : (contrF idl P n l).node = n ∧ isBlk (contrF idl P n l).kind = true ∧ (contrF idl P n l).kind ≠ 8 ∧ (contrF idl P n l).kind ≠ 9 := by
  unfold contrF
  split
  · exact ⟨rfl, rfl, (by decide : (1 : Int) ≠ 8), (by decide : (1 : Int) ≠ 9)⟩
  · exact ⟨rfl, rfl, (by decide : (2 : Int) ≠ 8), (by decide : (2 : Int) ≠ 9)⟩
include ho in
theorem cell_ok {l : List Tr} (h : ∀ t ∈ l, t.kind ≠ 8 ∧ t.kind ≠ 9 ∧ Tr.Ok (KindQ P) t) (k : Int) (hk : k = 9 ∨ k = 5) (n : Int) : Tr.Ok (KindQ P) (.mk k n ByteArray.empty [contrF idl P (-1) l]) := by
  refine .mk (fun s hs => ?_) fun s hs => ?_
  · obtain rfl : s = contrF idl P (-1) l := by simpa [Tr.kids] using hs
    show PairOk P k _ _ 1
    rw [(contr_kind idl P (-1) l).1]
    unfold PairOk
    rcases hk with rfl | rfl
    · rw [if_neg (by decide), if_neg (by decide), if_neg (by decide), if_neg (by decide), if_neg (by decide), if_pos (by decide)]; exact ⟨by decide, rfl⟩
    · rw [if_neg (by decide), if_neg (by decide), if_neg (by decide), if_neg (by decide), if_neg (by decide), if_pos (by decide)]; exact ⟨by decide, rfl⟩
  · obtain rfl : s = contrF idl P (-1) l := by simpa [Tr.kids] using hs
    exact contr_ok idl P ho h _
theorem box_node (d n : Nat) : (boxF idl P d n).node = n := by
  cases d with
  | zero => rfl
  | succ d =>
    rw [boxF]
    split
    · rfl
    · split
      · rfl
      · split
        · rfl
        · split
          · rfl
          · split
            · rfl
            · split
              · rfl
              · exact (contr_kind idl P n _).1
theorem box_kind (d n : Nat) : (boxF idl P d n).kind ≠ 8 ∧ (boxF idl P d n).kind ≠ 9 ∧ (P.ou n = 2 → (boxF idl P d n).kind ≠ 4 → isBlk (boxF idl P d n).kind = true) := by
  cases d with
  | zero => exact ⟨(by decide : (4 : Int) ≠ 8), (by decide : (4 : Int) ≠ 9), fun _ h => absurd rfl h⟩
  | succ d =>
    have hi : P.ou n = 2 → isF P n ≠ 1 ∧ isF P n ≠ 3 := fun e => by
      unfold isF
      rw [e]
      split
      · exact ⟨by decide, by decide⟩
      · rename_i h
        constructor <;> intro e2 <;> exact h ⟨by decide, by omega⟩
    rw [boxF]
    split
    · exact ⟨(by decide : (4 : Int) ≠ 8), (by decide : (4 : Int) ≠ 9), fun _ h => absurd rfl h⟩
    · split
      · exact ⟨(by decide : (4 : Int) ≠ 8), (by decide : (4 : Int) ≠ 9), fun _ h => absurd rfl h⟩
      · split
        · rename_i h3
          exact ⟨(by decide : (3 : Int) ≠ 8), (by decide : (3 : Int) ≠ 9), fun e => absurd h3.1 (hi e).1⟩
        · split
          · rename_i h3
            exact ⟨(by decide : (5 : Int) ≠ 8), (by decide : (5 : Int) ≠ 9), fun e => absurd h3 (hi e).2⟩
          · split
            · exact ⟨(by decide : (6 : Int) ≠ 8), (by decide : (6 : Int) ≠ 9), fun _ _ => rfl⟩
            · split
              · exact ⟨(by decide : (7 : Int) ≠ 8), (by decide : (7 : Int) ≠ 9), fun _ _ => rfl⟩
              · have := contr_kind idl P n ((contF P 41 n).map (boxF idl P d))
                exact ⟨this.2.2.1, this.2.2.2, fun _ _ => this.2.1⟩
include ho in
theorem box_ok (d : Nat) : ∀ n, Tr.Ok (KindQ P) (boxF idl P d n) := by
  have leaf : ∀ (n : Int) (x : ByteArray), Tr.Ok (KindQ P) (.mk 4 n x []) := fun n x => .mk (fun s hs => by cases hs) fun s hs => by cases hs
  induction d with
  | zero => exact fun n => leaf _ _
  | succ d ih =>
    intro n
    have hk : ∀ l : List Nat, ∀ t ∈ l.map (boxF idl P d), t.kind ≠ 8 ∧ t.kind ≠ 9 ∧ Tr.Ok (KindQ P) t := fun l t ht => by
      obtain ⟨m, _, rfl⟩ := List.mem_map.1 ht
      exact ⟨(box_kind idl P d m).1, (box_kind idl P d m).2.1, ih m⟩
    rw [boxF]
    split
    · exact leaf _ _
    · split
      · exact leaf _ _
      · split
        · rename_i h3
          refine .mk (fun s hs => ?_) fun s hs => (hk _ s hs).2.2
          have hs : s ∈ (contF P 41 n).map (boxF idl P d) := hs
          obtain ⟨a, b, _⟩ := hk _ s hs
          have hb : blockyF P 1 s = false := by
            cases hb : blockyF P 1 s
            · rfl
            · have := List.any_eq_true.2 ⟨s, hs, hb⟩
              rw [h3.2] at this; cases this
          exact (notBlocky_ok P _ ⟨a, b⟩ (Int.le_refl _) hb).2
        · split
          · exact cell_ok idl P ho (hk _) 5 (.inr rfl) _
          · split
            · have key : ∀ t ∈ rowF idl P (flexAlone P) ((contF P 41 n).map (boxF idl P d)), isBlk t.kind = true ∧ Tr.Ok (KindQ P) t := by
                refine split_all _ _ (fun x hx hb => ?_) fun r hr => ?_
                · obtain ⟨m, _, rfl⟩ := List.mem_map.1 hx
                  refine ⟨?_, ih m⟩
                  unfold flexAlone at hb
                  rcases Bool.or_eq_true_iff.1 hb with hb | hb
                  · exact ((blocky_iff P 2 _).1 hb).1
                  · simp only [Bool.and_eq_true, decide_eq_true_eq, bne_iff_ne, beq_iff_eq, box_node, Int.toNat_natCast] at hb
                    exact (box_kind idl P d m).2.2 hb.2 hb.1.2
                · refine ⟨rfl, lines_ok P 2 (by decide) (fun t ht => ?_) _⟩
                  obtain ⟨h1, h2⟩ := hr t ht
                  obtain ⟨a, b, c⟩ := hk _ t h1
                  refine ⟨?_, a, b, c⟩
                  unfold flexAlone at h2
                  exact (Bool.or_eq_false_iff.1 h2).1
              refine .mk (fun s hs => ?_) fun s hs => (key s hs).2
              show PairOk P 6 _ _ _
              unfold PairOk
              rw [if_neg (by decide), if_neg (by decide), if_pos rfl]
              exact (key s hs).1
            · split
              · have cells : ∀ l : List Nat, ∀ t ∈ cellsF idl P (boxF idl P d) l, t.kind = 9 ∧ Tr.Ok (KindQ P) t := fun l => by
                  refine split_all _ _ (fun x hx hb => ⟨rfl, cell_ok idl P ho (hk _) 9 (.inl rfl) _⟩) fun r hr => ⟨rfl, cell_ok idl P ho (hk _) 9 (.inl rfl) _⟩
                have rows : ∀ t ∈ rowsF idl P (boxF idl P d) (contF P 41 n), t.kind = 8 ∧ Tr.Ok (KindQ P) t := by
                  refine split_all _ _ (fun x hx hb => ⟨rfl, .mk (fun s hs => ?_) fun s hs => (cells _ s hs).2⟩) fun r hr => ⟨rfl, .mk (fun s hs => ?_) fun s hs => ?_⟩
                  · show PairOk P 8 _ _ _
                    unfold PairOk
                    rw [if_neg (by decide), if_neg (by decide), if_neg (by decide), if_neg (by decide), if_pos rfl]
                    exact (cells _ s hs).1
                  · obtain rfl : s = cellF idl P (boxF idl P d) (-1) r := by simpa [Tr.kids, anonF] using hs
                    show PairOk P 8 9 _ _
                    unfold PairOk
                    rw [if_neg (by decide), if_neg (by decide), if_neg (by decide), if_neg (by decide), if_pos rfl]
                  · obtain rfl : s = cellF idl P (boxF idl P d) (-1) r := by simpa [Tr.kids, anonF] using hs
                    exact cell_ok idl P ho (hk _) 9 (.inl rfl) _
                refine .mk (fun s hs => ?_) fun s hs => (rows s hs).2
                show PairOk P 7 _ _ _
                unfold PairOk
                rw [if_neg (by decide), if_neg (by decide), if_neg (by decide), if_pos rfl]
                exact (rows s hs).1
              · exact contr_ok idl P ho (hk _) _
include ho in
theorem root_ok : Tr.Ok (KindQ P) (rootF idl P) := by
  refine contr_ok idl P ho (fun t ht => ?_) _
  obtain ⟨m, _, rfl⟩ := List.mem_map.1 ht
  exact ⟨(box_kind idl P 41 m).1, (box_kind idl P 41 m).2.1, box_ok idl P ho 41 m⟩
end
end Go.Proofs.YtbpkffoooieejaaDoor
/- The order of boxes, and what is hidden. No program in sight. -/
namespace Go.Proofs.YtbpkffoooieejaaDoor
mutual
def preT : Tr → List Tr
  | .mk k n x l => .mk k n x l :: preL l
def preL : List Tr → List Tr
  | [] => []
  | t :: l => preT t ++ preL l
end
theorem preL_eq : ∀ l : List Tr, preL l = l.flatMap preT
  | [] => by rw [preL]; rfl
  | t :: l => by rw [preL, List.flatMap_cons, preL_eq l]
def nodeL (n : Int) : List Nat := if 0 ≤ n then [n.toNat] else []
def preN (t : Tr) : List Nat := (preT t).flatMap fun s => nodeL s.node
theorem preN_mk (k n : Int) (x : ByteArray) (l : List Tr) : preN (.mk k n x l) = nodeL n ++ l.flatMap preN := by
  unfold preN
  rw [preT, List.flatMap_cons, preL_eq, List.flatMap_assoc]
  rfl
theorem flatMap_sub {α β : Type} {f g : α → List β} : ∀ (l : List α), (∀ x ∈ l, (f x).Sublist (g x)) → (l.flatMap f).Sublist (l.flatMap g)
  | [], _ => List.Sublist.refl _
  | x :: l, h => by
    rw [List.flatMap_cons, List.flatMap_cons]
    exact (h x (by simp)).append (flatMap_sub l fun y hy => h y (by simp [hy]))
section
variable (P : Pg)
/-- The tree that a document is. -/
structure DocT (N : Nat) (lev : Nat → Nat) : Prop where
  top : ∀ n, n < N → lev n ≤ 40
  kid : ∀ n, n < N → ∀ k ∈ P.kd n, k < N ∧ lev k = lev n + 1
def dscF : Nat → Nat → List Nat
  | 0, _ => []
  | d + 1, n => (P.kd n).flatMap fun k => k :: dscF d k
variable {N : Nat} {lev : Nat → Nat} (D : DocT P N lev)
include D
theorem dsc_fuel (d : Nat) : ∀ d' n, n < N → 41 ≤ d + lev n → 41 ≤ d' + lev n → dscF P d n = dscF P d' n := by
  induction d with
  | zero => intro d' n hn h _; have := D.top n hn; omega
  | succ d ih =>
    intro d' n hn h h'
    cases d' with
    | zero => have := D.top n hn; omega
    | succ d' =>
      rw [dscF, dscF]
      have : ∀ l : List Nat, (∀ k ∈ l, k < N ∧ lev k = lev n + 1) → (l.flatMap fun k => k :: dscF P d k) = l.flatMap fun k => k :: dscF P d' k := by
        intro l
        induction l with
        | nil => intro _; rfl
        | cons k l ihl =>
          intro hl
          have := hl k (by simp)
          rw [List.flatMap_cons, List.flatMap_cons, ihl fun j hj => hl j (by simp [hj]), ih d' k this.1 (by omega) (by omega)]
      exact this _ (D.kid n hn)
theorem cont_fuel (d : Nat) : ∀ d' n, n < N → 41 ≤ d + lev n → 41 ≤ d' + lev n → contF P d n = contF P d' n := by
  induction d with
  | zero => intro d' n hn h _; have := D.top n hn; omega
  | succ d ih =>
    intro d' n hn h h'
    cases d' with
    | zero => have := D.top n hn; omega
    | succ d' =>
      rw [contF, contF]
      have : ∀ l : List Nat, (∀ k ∈ l, k < N ∧ lev k = lev n + 1) → l.flatMap (contOne P (contF P d)) = l.flatMap (contOne P (contF P d')) := by
        intro l
        induction l with
        | nil => intro _; rfl
        | cons k l ihl =>
          intro hl
          have := hl k (by simp)
          rw [List.flatMap_cons, List.flatMap_cons, ihl fun j hj => hl j (by simp [hj])]
          congr 1
          unfold contOne
          rw [ih d' k this.1 (by omega) (by omega)]
      exact this _ (D.kid n hn)
theorem cont_sub (d : Nat) : ∀ n, n < N → 41 ≤ d + lev n → ((contF P d n).flatMap fun k => k :: dscF P 41 k).Sublist (dscF P 41 n) := by
  induction d with
  | zero => intro n hn h; have := D.top n hn; omega
  | succ d ih =>
    intro n hn h
    have e : dscF P 41 n = (P.kd n).flatMap fun k => k :: dscF P 41 k := by
      rw [dsc_fuel P D 41 42 n hn (by omega) (by omega), dscF]
    rw [e, contF, List.flatMap_assoc]
    refine flatMap_sub _ fun k hk => ?_
    obtain ⟨h1, h2⟩ := D.kid n hn k hk
    unfold contOne
    split
    · simp
    · split
      · simp
      · split
        · exact (ih k h1 (by omega)).cons _
        · simp
theorem cont_lt (d : Nat) : ∀ n, n < N → ∀ k ∈ contF P d n, k < N ∧ lev n < lev k := by
  induction d with
  | zero => intro n hn k hk; cases hk
  | succ d ih =>
    intro n hn k hk
    rw [contF] at hk
    obtain ⟨j, hj, hk⟩ := List.mem_flatMap.1 hk
    obtain ⟨h1, h2⟩ := D.kid n hn j hj
    unfold contOne at hk
    split at hk
    · obtain rfl : k = j := by simpa using hk
      exact ⟨h1, by omega⟩
    · split at hk
      · cases hk
      · split at hk
        · obtain ⟨h3, h4⟩ := ih j h1 k hk
          exact ⟨h3, by omega⟩
        · obtain rfl : k = j := by simpa using hk
          exact ⟨h1, by omega⟩
omit D
theorem split_sub {α : Type} {alone : α → Bool} {one : α → Tr} {run : List α → Tr × Bool} {g : α → List Nat} : ∀ (m : Nat) (l : List α), (∀ x ∈ l, (preN (one x)).Sublist (g x)) → (∀ r : List α, (∀ x ∈ r, x ∈ l) → (preN (run r).1).Sublist (r.flatMap g)) → ((splitF alone one run m l).flatMap preN).Sublist (l.flatMap g)
  | 0, _, _, _ => by rw [splitF]; simp
  | _ + 1, [], _, _ => by rw [splitF]; simp
  | m + 1, x :: l, h1, h2 => by
    rw [splitF]
    split
    · rw [List.flatMap_cons, List.flatMap_cons]
      exact (h1 x (by simp)).append (split_sub m l (fun y hy => h1 y (by simp [hy])) fun r hr => h2 r fun y hy => by simp [hr y hy])
    · have e : (x :: l).flatMap g = ((x :: l).take ((x :: l).findIdx alone)).flatMap g ++ ((x :: l).drop ((x :: l).findIdx alone)).flatMap g := by
        rw [← List.flatMap_append, List.take_append_drop]
      rw [e, List.flatMap_append]
      refine List.Sublist.append ?_ (split_sub m _ (fun y hy => h1 y (List.mem_of_mem_drop hy)) fun r hr => h2 r fun y hy => List.mem_of_mem_drop (hr y hy))
      split
      · rw [List.flatMap_cons, List.flatMap_nil, List.append_nil]
        exact h2 _ fun y hy => List.mem_of_mem_take hy
      · simp
variable (idl : ByteArray → Bool)
theorem anon_pre (k : Int) (l : List Tr) : preN (anonF k l) = l.flatMap preN := by
  unfold anonF
  rw [preN_mk]; rfl
theorem row_sub (alone : Tr → Bool) (l : List Tr) : ((rowF idl P alone l).flatMap preN).Sublist (l.flatMap preN) :=
  split_sub _ _ (fun x _ => List.Sublist.refl _) fun r _ => by rw [linesF, anon_pre]; exact List.Sublist.refl _
theorem contr_sub (n : Int) (l : List Tr) : (preN (contrF idl P n l)).Sublist (nodeL n ++ l.flatMap preN) := by
  unfold contrF
  split
  · rw [preN_mk]; exact (List.Sublist.refl _).append (row_sub P idl _ l)
  · rw [preN_mk]; exact List.Sublist.refl _
theorem cell_sub (g : Nat → Tr) (k n : Int) (l : List Nat) : (preN (.mk k n ByteArray.empty [contrF idl P (-1) (l.map g)])).Sublist (nodeL n ++ l.flatMap fun i => preN (g i)) := by
  rw [preN_mk]
  refine (List.Sublist.refl _).append ?_
  rw [List.flatMap_cons, List.flatMap_nil, List.append_nil]
  have := contr_sub P idl (-1) (l.map g)
  rw [List.flatMap_map] at this
  exact this
include D
theorem box_sub (d : Nat) : ∀ n, n < N → (preN (boxF idl P d n)).Sublist (n :: dscF P 41 n) := by
  have nl : ∀ n : Nat, nodeL (n : Int) = [n] := fun n => by unfold nodeL; rw [if_pos (by omega)]; simp
  have leaf : ∀ (n : Nat) (x : ByteArray), (preN (.mk 4 n x [])).Sublist (n :: dscF P 41 n) := fun n x => by
    rw [preN_mk, nl]; simp
  induction d with
  | zero => exact fun n _ => leaf _ _
  | succ d ih =>
    intro n hn
    have hc := cont_sub P D 41 n hn (by omega)
    have hb : ∀ l : List Nat, (∀ k ∈ l, k < N) → (l.flatMap fun i => preN (boxF idl P d i)).Sublist (l.flatMap fun k => k :: dscF P 41 k) := fun l hl => flatMap_sub l fun k hk => ih k (hl k hk)
    have hm : (((contF P 41 n).map (boxF idl P d)).flatMap preN).Sublist (dscF P 41 n) := by
      rw [List.flatMap_map]
      exact (hb _ fun k hk => (cont_lt P D 41 n hn k hk).1).trans hc
    have c2 : ∀ (k : Int) (l : List Tr), (l.flatMap preN).Sublist (dscF P 41 n) → (preN (.mk k n ByteArray.empty l)).Sublist (n :: dscF P 41 n) := fun k l h => by
      rw [preN_mk, nl]; exact h.cons_cons n
    rw [boxF]
    split
    · exact leaf _ _
    · split
      · exact leaf _ _
      · split
        · exact c2 _ _ hm
        · split
          · refine c2 _ _ ?_
            rw [List.flatMap_cons, List.flatMap_nil, List.append_nil]
            exact (contr_sub P idl (-1) _).trans hm
          · split
            · exact c2 _ _ ((row_sub P idl _ _).trans hm)
            · split
              · have cells : ∀ l : List Nat, (∀ k ∈ l, k < N) → ((cellsF idl P (boxF idl P d) l).flatMap preN).Sublist (l.flatMap fun k => k :: dscF P 41 k) := fun l hl => by
                  refine split_sub _ _ (fun x hx => ?_) fun r hr => ?_
                  · refine (cell_sub P idl _ 9 x _).trans ?_
                    rw [nl]
                    refine List.Sublist.cons_cons x ?_
                    exact (hb _ fun k hk => (cont_lt P D 41 x (hl x hx) k hk).1).trans (cont_sub P D 41 x (hl x hx) (by omega))
                  · exact (cell_sub P idl _ 9 (-1) _).trans (hb _ fun k hk => hl k (hr k hk))
                refine c2 _ _ (List.Sublist.trans ?_ hc)
                refine split_sub _ _ (fun x hx => ?_) fun r hr => ?_
                · rw [preN_mk, nl]
                  have hx := (cont_lt P D 41 n hn x hx).1
                  refine List.Sublist.cons_cons x ?_
                  exact (cells _ fun k hk => (cont_lt P D 41 x hx k hk).1).trans (cont_sub P D 41 x hx (by omega))
                · rw [anon_pre, List.flatMap_cons, List.flatMap_nil, List.append_nil]
                  exact (cell_sub P idl _ 9 (-1) _).trans (hb _ fun k hk => (cont_lt P D 41 n hn k (hr k hk)).1)
              · refine (contr_sub P idl n _).trans ?_
                rw [nl]
                exact hm.cons_cons n
theorem root_sub (hN : 0 < N) : (preN (rootF idl P)).Sublist (0 :: dscF P 41 0) := by
  unfold rootF
  refine (contr_sub P idl 0 _).trans ?_
  refine List.Sublist.cons_cons 0 ?_
  rw [List.flatMap_map]
  exact (flatMap_sub _ fun k hk => box_sub P D idl 41 k (cont_lt P D 41 0 hN k hk).1).trans (cont_sub P D 41 0 hN (by omega))
omit D
theorem root_first : ∃ r, preT (rootF idl P) = r ∧ (rootF idl P).node = 0 := ⟨_, rfl, (contr_kind idl P 0 _).1⟩
/-- Who is below another one, and shown there. -/
def okN (k : Nat) : Prop := P.nk k = 2 → P.dp k ≠ 0
inductive Sh : Nat → Nat → Prop where
  | kid {n k : Nat} : k ∈ P.kd n → okN P k → Sh n k
  | step {n m k : Nat} : Sh n m → k ∈ P.kd m → okN P k → Sh n k
theorem Sh.trans {n m k : Nat} (h : Sh P n m) (h' : Sh P m k) : Sh P n k := by
  induction h' with
  | kid a b => exact .step h a b
  | step _ a b ih => exact .step ih a b
theorem cont_sh (d : Nat) : ∀ n, ∀ k ∈ contF P d n, Sh P n k := by
  have h0 : ∀ k, isF P k ≠ 0 → P.dp k ≠ 0 := fun k h e => by
    unfold isF at h
    rw [if_neg (by omega)] at h
    exact h e
  induction d with
  | zero => intro n k hk; cases hk
  | succ d ih =>
    intro n k hk
    rw [contF] at hk
    obtain ⟨j, hj, hk⟩ := List.mem_flatMap.1 hk
    unfold contOne at hk
    split at hk
    · rename_i h3
      obtain rfl : k = j := by simpa using hk
      exact .kid hj fun e => by omega
    · split at hk
      · cases hk
      · rename_i h3
        have hd : okN P j := fun _ => h0 j fun e => h3 (.inr e)
        split at hk
        · exact Sh.trans P (.kid hj hd) (ih j k hk)
        · obtain rfl : k = j := by simpa using hk
          exact .kid hj hd
def NodeQ (R : Nat → Prop) (t : Tr) : Prop := 0 ≤ t.node → R t.node.toNat
theorem row_nodes {R : Nat → Prop} {alone : Tr → Bool} {l : List Tr} (h : ∀ t ∈ l, Tr.Ok (NodeQ R) t) : ∀ t ∈ rowF idl P alone l, Tr.Ok (NodeQ R) t := by
  unfold rowF
  refine split_all (R := Tr.Ok (NodeQ R)) _ _ (fun x hx _ => h x hx) fun r hr => ?_
  exact Tr.Ok.mk (t := anonF 2 r) (fun e => absurd e (by decide : ¬ (0 : Int) ≤ -1)) fun s hs => h s (hr s hs).1
theorem contr_nodes {R : Nat → Prop} {n : Int} {l : List Tr} (hn : 0 ≤ n → R n.toNat) (h : ∀ t ∈ l, Tr.Ok (NodeQ R) t) : Tr.Ok (NodeQ R) (contrF idl P n l) := by
  unfold contrF
  split
  · exact .mk hn (row_nodes P idl h)
  · exact .mk hn h
theorem cell_nodes {R : Nat → Prop} {k n : Int} {l : List Tr} (hn : 0 ≤ n → R n.toNat) (h : ∀ t ∈ l, Tr.Ok (NodeQ R) t) : Tr.Ok (NodeQ R) (.mk k n ByteArray.empty [contrF idl P (-1) l]) := by
  refine .mk hn fun s hs => ?_
  obtain rfl : s = contrF idl P (-1) l := by simpa [Tr.kids] using hs
  exact contr_nodes P idl (fun e => absurd e (by decide)) h
theorem Tr.Ok.mono {Q R : Tr → Prop} (h : ∀ t, Q t → R t) {t : Tr} (hq : Tr.Ok Q t) : Tr.Ok R t := by
  induction hq with
  | mk a _ ih => exact .mk (h _ a) ih
theorem box_nodes (d : Nat) : ∀ n : Nat, Tr.Ok (NodeQ fun m => m = n ∨ Sh P n m) (boxF idl P d n) := by
  have top : ∀ n : Nat, 0 ≤ (n : Int) → ((n : Int).toNat = n ∨ Sh P n (n : Int).toNat) := fun n _ => .inl (by simp)
  have leaf : ∀ (n : Nat) (x : ByteArray), Tr.Ok (NodeQ fun m => m = n ∨ Sh P n m) (.mk 4 n x []) := fun n x => .mk (top n) fun s hs => by cases hs
  induction d with
  | zero => exact fun n => leaf _ _
  | succ d ih =>
    intro n
    have lift : ∀ j, Sh P n j → Tr.Ok (NodeQ fun m => m = n ∨ Sh P n m) (boxF idl P d j) := fun j hj =>
      (ih j).mono fun t ht e => by
        rcases ht e with h | h
        · rw [h]; exact .inr hj
        · exact .inr (Sh.trans P hj h)
    have hm : ∀ t ∈ (contF P 41 n).map (boxF idl P d), Tr.Ok (NodeQ fun m => m = n ∨ Sh P n m) t := fun t ht => by
      obtain ⟨j, hj, rfl⟩ := List.mem_map.1 ht
      exact lift j (cont_sh P 41 n j hj)
    have run : ∀ l : List Nat, (∀ j ∈ l, Sh P n j) → ∀ t ∈ l.map (boxF idl P d), Tr.Ok (NodeQ fun m => m = n ∨ Sh P n m) t := fun l hl t ht => by
      obtain ⟨j, hj, rfl⟩ := List.mem_map.1 ht
      exact lift j (hl j hj)
    have neg : ∀ {R : Prop}, 0 ≤ (-1 : Int) → R := fun e => absurd e (by decide)
    rw [boxF]
    split
    · exact leaf _ _
    · split
      · exact leaf _ _
      · split
        · exact .mk (top n) hm
        · split
          · exact cell_nodes P idl (top n) hm
          · split
            · exact .mk (top n) (row_nodes P idl hm)
            · split
              · have cells : ∀ l : List Nat, (∀ j ∈ l, Sh P n j) → ∀ t ∈ cellsF idl P (boxF idl P d) l, Tr.Ok (NodeQ fun m => m = n ∨ Sh P n m) t := fun l hl => by
                  refine split_all (R := Tr.Ok (NodeQ fun m => m = n ∨ Sh P n m)) _ _ (fun x hx _ => ?_) fun r hr => ?_
                  · exact cell_nodes P idl (fun _ => .inr (by simpa using hl x hx)) (run _ fun j hj => Sh.trans P (hl x hx) (cont_sh P 41 x j hj))
                  · exact cell_nodes P idl neg (run _ fun j hj => hl j (hr j hj).1)
                refine .mk (top n) fun s hs => ?_
                refine split_all (R := Tr.Ok (NodeQ fun m => m = n ∨ Sh P n m)) _ _ (fun x hx _ => ?_) (fun r hr => ?_) s hs
                · have hx := cont_sh P 41 n x hx
                  exact .mk (fun _ => .inr (by simpa [Tr.node] using hx)) (cells _ fun j hj => Sh.trans P hx (cont_sh P 41 x j hj))
                · refine .mk neg fun s hs => ?_
                  obtain rfl : s = cellF idl P (boxF idl P d) (-1) r := by simpa [Tr.kids, anonF] using hs
                  exact cell_nodes P idl neg (run _ fun j hj => cont_sh P 41 n j (hr j hj).1)
              · exact contr_nodes P idl (top n) hm
theorem root_nodes : Tr.Ok (NodeQ fun m => m = 0 ∨ Sh P 0 m) (rootF idl P) := by
  refine contr_nodes P idl (fun _ => .inl rfl) fun t ht => ?_
  obtain ⟨j, hj, rfl⟩ := List.mem_map.1 ht
  have hj := cont_sh P 41 0 j hj
  refine (box_nodes P idl 41 j).mono fun t h e => ?_
  rcases h e with h | h
  · rw [h]; exact .inr hj
  · exact .inr (Sh.trans P hj h)
end
end Go.Proofs.YtbpkffoooieejaaDoor
/- The flat list of a tree of boxes. No program in sight. -/
namespace Go.Proofs.YtbpkffoooieejaaDoor
structure Bx where
  kind : Int
  node : Int
  par : Int
  kids : List Nat
  text : ByteArray
mutual
def szT : Tr → Nat
  | .mk _ _ _ l => 1 + szL l
def szL : List Tr → Nat
  | [] => 0
  | t :: l => szT t + szL l
end
def atsL : List Tr → Nat → List Nat
  | [], _ => []
  | t :: l, a => a :: atsL l (a + szT t)
mutual
def flatT : Tr → Nat → Int → List Bx
  | .mk k n x l, a, p => ⟨k, n, p, atsL l (a + 1), x⟩ :: flatL l (a + 1) a
def flatL : List Tr → Nat → Int → List Bx
  | [], _, _ => []
  | t :: l, a, p => flatT t a p ++ flatL l (a + szT t) p
end
mutual
theorem flatT_len : ∀ (t : Tr) (a : Nat) (p : Int), (flatT t a p).length = szT t
  | .mk k n x l, a, p => by rw [flatT, szT, List.length_cons, flatL_len l]; omega
theorem flatL_len : ∀ (l : List Tr) (a : Nat) (p : Int), (flatL l a p).length = szL l
  | [], _, _ => by rw [flatL, szL]; rfl
  | t :: l, a, p => by rw [flatL, szL, List.length_append, flatT_len t, flatL_len l]
end
mutual
theorem preT_len : ∀ (t : Tr), (preT t).length = szT t
  | .mk k n x l => by rw [preT, szT, List.length_cons, preL_len l]; omega
theorem preL_len : ∀ (l : List Tr), (preL l).length = szL l
  | [] => by rw [preL, szL]; rfl
  | t :: l => by rw [preL, szL, List.length_append, preT_len t, preL_len l]
end
theorem szT_pos (t : Tr) : 0 < szT t := by
  cases t; rw [szT]; omega
/-- What a flat list tells, from the place a on: each is a box of the tree; kids rise, lie behind, within, and have it as a parent. -/
structure FOk (a : Nat) (b : List Bx) (s : List Tr) : Prop where
  len : b.length = s.length
  same : ∀ i (h : i < b.length) (h' : i < s.length), b[i].kind = s[i].kind ∧ b[i].node = s[i].node ∧ b[i].text = s[i].text ∧ b[i].kids.length = s[i].kids.length
  rise : ∀ i (h : i < b.length), b[i].kids.Pairwise (· < ·)
  kid : ∀ i (h : i < b.length), ∀ k ∈ b[i].kids, a + i < k ∧ ∃ hk : k - a < b.length, b[k - a].par = ((a + i : Nat) : Int) ∧ ∃ (hs : k - a < s.length) (hi : i < s.length), s[k - a] ∈ s[i].kids
theorem FOk.append {a : Nat} {b c : List Bx} {s u : List Tr} (h1 : FOk a b s) (h2 : FOk (a + b.length) c u) : FOk a (b ++ c) (s ++ u) := by
  refine ⟨by simp [h1.len, h2.len], fun i h h' => ?_, fun i h => ?_, fun i h k hk => ?_⟩
  · by_cases hi : i < b.length
    · have hi' : i < s.length := by have := h1.len; omega
      rw [List.getElem_append_left hi, List.getElem_append_left hi']
      exact h1.same i hi hi'
    · have hl := h1.len
      rw [List.length_append] at h h'
      rw [List.getElem_append_right (by omega), List.getElem_append_right (by omega)]
      have := h2.same (i - b.length) (by omega) (by omega)
      simp only [← hl]
      exact this
  · by_cases hi : i < b.length
    · rw [List.getElem_append_left hi]; exact h1.rise i hi
    · rw [List.length_append] at h
      rw [List.getElem_append_right (by omega)]; exact h2.rise _ (by omega)
  · by_cases hi : i < b.length
    · rw [List.getElem_append_left hi] at hk
      obtain ⟨h3, h4, h5, h6, h7, h8⟩ := h1.kid i hi k hk
      refine ⟨h3, by rw [List.length_append]; omega, ?_, by rw [List.length_append]; omega, by rw [List.length_append]; omega, ?_⟩
      · rw [List.getElem_append_left h4]; exact h5
      · rw [List.getElem_append_left h6, List.getElem_append_left h7]; exact h8
    · rw [List.length_append] at h
      rw [List.getElem_append_right (by omega)] at hk
      obtain ⟨h3, h4, h5, h6, h7, h8⟩ := h2.kid _ (by omega) k hk
      have hl := h1.len
      refine ⟨by omega, by rw [List.length_append]; omega, ?_, by rw [List.length_append]; omega, by rw [List.length_append]; omega, ?_⟩
      · rw [List.getElem_append_right (by omega)]
        simp only [show k - a - b.length = k - (a + b.length) by omega]
        rw [h5]
        congr 1
        omega
      · rw [List.getElem_append_right (by omega), List.getElem_append_right (by omega)]
        simp only [← hl, show k - a - b.length = k - (a + b.length) by omega]
        exact h8
theorem atsL_ge : ∀ (l : List Tr) (a : Nat), (∀ k ∈ atsL l a, a ≤ k) ∧ (atsL l a).Pairwise (· < ·) ∧ (atsL l a).length = l.length
  | [], a => by rw [atsL]; exact ⟨fun k h => (by cases h), List.Pairwise.nil, rfl⟩
  | t :: l, a => by
    obtain ⟨h1, h2, h3⟩ := atsL_ge l (a + szT t)
    have := szT_pos t
    rw [atsL]
    refine ⟨fun k hk => ?_, List.Pairwise.cons (fun k hk => by have := h1 k hk; omega) h2, by rw [List.length_cons, List.length_cons, h3]⟩
    rcases List.mem_cons.1 hk with rfl | hk
    · exact Nat.le_refl _
    · have := h1 k hk; omega
mutual
theorem flatT_ok : ∀ (t : Tr) (a : Nat) (p : Int), FOk a (flatT t a p) (preT t) ∧ ∃ h : 0 < (flatT t a p).length, (flatT t a p)[0].par = p
  | .mk k n x l, a, p => by
    obtain ⟨h1, h2⟩ := flatL_ok l (a + 1) a
    obtain ⟨h3, h4, h5⟩ := atsL_ge l (a + 1)
    rw [flatT, preT]
    refine ⟨⟨by rw [List.length_cons, List.length_cons, h1.len], fun i h h' => ?_, fun i h => ?_, fun i h j hj => ?_⟩, by simp, rfl⟩
    · cases i with
      | zero => exact ⟨rfl, rfl, rfl, h5⟩
      | succ i => exact h1.same i (by simpa using h) (by simpa using h')
    · cases i with
      | zero => exact h4
      | succ i => exact h1.rise i (by simpa using h)
    · cases i with
      | zero =>
        have hj : j ∈ atsL l (a + 1) := hj
        obtain ⟨h6, h7, h9, h10⟩ := h2 j hj
        have h8 := h3 j hj
        have e : j - a = (j - (a + 1)) + 1 := by omega
        refine ⟨by omega, by rw [List.length_cons]; omega, ?_, by rw [List.length_cons]; omega, by simp, ?_⟩
        · simp only [e, List.getElem_cons_succ]
          rw [h7]; rfl
        · simp only [e, List.getElem_cons_succ, List.getElem_cons_zero]
          exact h10
      | succ i =>
        obtain ⟨h6, h7, h8, h9, h10, h11⟩ := h1.kid i (by simpa using h) j hj
        have e : j - a = (j - (a + 1)) + 1 := by omega
        refine ⟨by omega, by rw [List.length_cons]; omega, ?_, by rw [List.length_cons]; omega, by rw [List.length_cons]; omega, ?_⟩
        · simp only [e, List.getElem_cons_succ]
          rw [h8]
          congr 1
          omega
        · simp only [e, List.getElem_cons_succ]
          exact h11
theorem flatL_ok : ∀ (l : List Tr) (a : Nat) (p : Int), FOk a (flatL l a p) (preL l) ∧ ∀ k ∈ atsL l a, ∃ hk : k - a < (flatL l a p).length, (flatL l a p)[k - a].par = p ∧ ∃ hk' : k - a < (preL l).length, (preL l)[k - a] ∈ l
  | [], a, p => by
    rw [flatL, preL, atsL]
    exact ⟨⟨rfl, fun i h => absurd h (Nat.not_lt_zero _), fun i h => absurd h (Nat.not_lt_zero _), fun i h => absurd h (Nat.not_lt_zero _)⟩, fun k h => (by cases h)⟩
  | t :: l, a, p => by
    obtain ⟨h1, h2, h3⟩ := flatT_ok t a p
    obtain ⟨h4, h5⟩ := flatL_ok l (a + szT t) p
    have hl := flatT_len t a p
    have hg := (atsL_ge l (a + szT t)).1
    rw [flatL, preL, atsL]
    refine ⟨h1.append (by rw [hl]; exact h4), fun k hk => ?_⟩
    rcases List.mem_cons.1 hk with rfl | hk
    · have hp : (preT t)[0]? = some t := by cases t; rw [preT]; rfl
      obtain ⟨hp1, hp2⟩ := List.getElem?_eq_some_iff.1 hp
      refine ⟨by rw [List.length_append]; omega, ?_, by rw [List.length_append]; omega, ?_⟩
      · simp only [Nat.sub_self]
        rw [List.getElem_append_left h2]; exact h3
      · simp only [Nat.sub_self]
        rw [List.getElem_append_left hp1, hp2]; simp
    · obtain ⟨h6, h7, h8, h9⟩ := h5 k hk
      have := hg k hk
      have hpl := preT_len t
      refine ⟨by rw [List.length_append]; omega, ?_, by rw [List.length_append]; omega, ?_⟩
      · rw [List.getElem_append_right (by omega)]
        simp only [show k - a - (flatT t a p).length = k - (a + szT t) by omega]
        exact h7
      · rw [List.getElem_append_right (by omega)]
        simp only [show k - a - (preT t).length = k - (a + szT t) by omega]
        simp [h9]
end
theorem flatMap_sum (s : List Tr) : (s.map fun t => t.kids.length).sum = (s.flatMap Tr.kids).length := by
  induction s with
  | nil => rfl
  | cons t s ih => rw [List.map_cons, List.sum_cons, List.flatMap_cons, List.length_append, ih]
mutual
theorem preT_kids : ∀ t : Tr, ((preT t).map fun s => s.kids.length).sum + 1 = szT t
  | .mk k n x l => by
    have := preL_kids l
    rw [preT, szT, List.map_cons, List.sum_cons]
    show l.length + _ + 1 = _
    omega
theorem preL_kids : ∀ l : List Tr, ((preL l).map fun s => s.kids.length).sum + l.length = szL l
  | [] => by rw [preL, szL]; rfl
  | t :: l => by
    have h1 := preT_kids t
    have h2 := preL_kids l
    rw [preL, szL, List.map_append, List.sum_append, List.length_cons]
    omega
end
/-- Each but the first has a parent, whose kid it is. -/
def ParOk (a : Nat) (b : List Bx) : Prop := ∀ i (h : i < b.length), 0 < i → ∃ j, ∃ hj : j < b.length, j < i ∧ b[i].par = ((a + j : Nat) : Int) ∧ a + i ∈ b[j].kids
mutual
theorem flatT_par : ∀ (t : Tr) (a : Nat) (p : Int), ParOk a (flatT t a p)
  | .mk k n x l, a, p => by
    have h1 := flatL_par l (a + 1) a
    rw [flatT]
    intro i h hi
    obtain ⟨i, rfl⟩ : ∃ m, i = m + 1 := ⟨i - 1, by omega⟩
    have hi2 : i < (flatL l (a + 1) a).length := by simpa using h
    rcases h1 i hi2 with ⟨h2, h3⟩ | ⟨j, hj, h2, h3, h4⟩
    · refine ⟨0, by simp, by omega, by simpa using h2, ?_⟩
      show a + (i + 1) ∈ atsL l (a + 1)
      rw [show a + (i + 1) = a + 1 + i by omega]; exact h3
    · refine ⟨j + 1, by simpa using hj, by omega, ?_, ?_⟩
      · simp only [List.getElem_cons_succ]
        rw [h3]; congr 1; omega
      · simp only [List.getElem_cons_succ]
        rw [show a + (i + 1) = a + 1 + i by omega]; exact h4
theorem flatL_par : ∀ (l : List Tr) (a : Nat) (p : Int), ∀ i (h : i < (flatL l a p).length), ((flatL l a p)[i].par = p ∧ a + i ∈ atsL l a) ∨ ∃ j, ∃ hj : j < (flatL l a p).length, j < i ∧ (flatL l a p)[i].par = ((a + j : Nat) : Int) ∧ a + i ∈ (flatL l a p)[j].kids
  | [], _, _, i, h => by rw [flatL] at h; exact absurd h (Nat.not_lt_zero _)
  | t :: l, a, p, i, h => by
    have hl := flatT_len t a p
    have e : flatL (t :: l) a p = flatT t a p ++ flatL l (a + szT t) p := by rw [flatL]
    have ea : atsL (t :: l) a = a :: atsL l (a + szT t) := by rw [atsL]
    simp only [e, ea] at h ⊢
    by_cases hi : i < (flatT t a p).length
    · rw [List.getElem_append_left hi]
      rcases Nat.eq_zero_or_pos i with rfl | h0
      · left
        obtain ⟨_, h2, h3⟩ := flatT_ok t a p
        exact ⟨h3, by simp⟩
      · right
        obtain ⟨j, hj, h2, h3, h4⟩ := flatT_par t a p i hi h0
        refine ⟨j, by rw [List.length_append]; omega, h2, h3, ?_⟩
        rw [List.getElem_append_left hj]; exact h4
    · rw [List.length_append] at h
      rw [List.getElem_append_right (by omega)]
      rcases flatL_par l (a + szT t) p (i - (flatT t a p).length) (by omega) with ⟨h2, h3⟩ | ⟨j, hj, h2, h3, h4⟩
      · left
        refine ⟨h2, ?_⟩
        rw [show a + szT t + (i - (flatT t a p).length) = a + i by omega] at h3
        simp [h3]
      · right
        refine ⟨j + (flatT t a p).length, by rw [List.length_append]; omega, by omega, ?_, ?_⟩
        · rw [h3]; congr 1; omega
        · rw [List.getElem_append_right (by omega)]
          simp only [Nat.add_sub_cancel]
          rw [show a + szT t + (i - (flatT t a p).length) = a + i by omega] at h4
          exact h4
end
section
variable (idl : ByteArray → Bool) (P : Pg)
def bxs : List Bx := flatT (rootF idl P) 0 (-1)
theorem mem_pre {Q : Tr → Prop} : ∀ (t : Tr), Tr.Ok Q t → ∀ s ∈ preT t, Q s := by
  intro t h
  induction h with
  | @mk t h1 h2 ih =>
    intro s hs
    obtain ⟨k, n, x, l⟩ := t
    rw [preT, preL_eq] at hs
    rcases List.mem_cons.1 hs with rfl | hs
    · exact h1
    · obtain ⟨u, hu, hs⟩ := List.mem_flatMap.1 hs
      exact ih u hu s hs
/-- BoxesKinds. -/
theorem kinds_law (ho : ∀ n, 0 ≤ P.ou n) (i : Nat) (h : i < (bxs idl P).length) (h0 : 0 < i) : ∃ j, ∃ hj : j < (bxs idl P).length, (bxs idl P)[i].par = (j : Int) ∧ PairOk P (bxs idl P)[j].kind (bxs idl P)[i].kind (bxs idl P)[i].node (bxs idl P)[j].kids.length := by
  obtain ⟨hf, _⟩ := flatT_ok (rootF idl P) 0 (-1)
  obtain ⟨j, hj, h1, h2, h3⟩ := flatT_par (rootF idl P) 0 (-1) i h h0
  refine ⟨j, hj, by rw [show (bxs idl P)[i].par = _ from h2]; simp, ?_⟩
  obtain ⟨_, _, _, h6, h7, h8⟩ := hf.kid j hj _ h3
  simp only [Nat.zero_add, Nat.sub_zero] at h6 h8
  have hq := mem_pre _ (root_ok idl P ho) _ (List.getElem_mem h7)
  have := hq _ h8
  obtain ⟨e1, e2, _, _⟩ := hf.same i h h6
  obtain ⟨e3, _, _, e4⟩ := hf.same j hj h7
  change PairOk P (flatT (rootF idl P) 0 (-1))[j].kind (flatT (rootF idl P) 0 (-1))[i].kind (flatT (rootF idl P) 0 (-1))[i].node (flatT (rootF idl P) 0 (-1))[j].kids.length
  rw [e1, e2, e3, e4]
  exact this
theorem bxs_nodes : (bxs idl P).flatMap (fun b => nodeL b.node) = preN (rootF idl P) := by
  obtain ⟨hf, _⟩ := flatT_ok (rootF idl P) 0 (-1)
  have : (bxs idl P).map (·.node) = (preT (rootF idl P)).map (·.node) := by
    refine List.ext_getElem (by simp [bxs, hf.len]) fun i h1 h2 => ?_
    simp only [List.getElem_map]
    exact (hf.same i (by simpa [bxs] using h1) (by simpa using h2)).2.1
  unfold preN
  have e : ∀ l : List Bx, l.flatMap (fun b => nodeL b.node) = (l.map (·.node)).flatMap nodeL := fun l => by rw [List.flatMap_map]
  rw [e, this, List.flatMap_map]
/-- BoxesOnce: the boxes' nodes, in the document's order. -/
theorem once_law {N : Nat} {lev : Nat → Nat} (D : DocT P N lev) (hN : 0 < N) : ((bxs idl P).flatMap fun b => nodeL b.node).Sublist (0 :: dscF P 41 0) := by
  rw [bxs_nodes]; exact root_sub P D idl hN
/-- BoxesHidden: who has a box is the root, or shown below it. -/
theorem hidden_law (i : Nat) (h : i < (bxs idl P).length) (h0 : 0 ≤ (bxs idl P)[i].node) : (bxs idl P)[i].node.toNat = 0 ∨ Sh P 0 (bxs idl P)[i].node.toNat := by
  obtain ⟨hf, _⟩ := flatT_ok (rootF idl P) 0 (-1)
  have hl := hf.len
  have hi : i < (preT (rootF idl P)).length := by rw [← hl]; exact h
  have e : (bxs idl P)[i].node = (preT (rootF idl P))[i].node := (hf.same i h hi).2.1
  rw [e] at h0 ⊢
  exact mem_pre _ (root_nodes P idl) _ (List.getElem_mem hi) h0
theorem bxs_first : ∃ h : 0 < (bxs idl P).length, (bxs idl P)[0].node = 0 ∧ (bxs idl P)[0].par = -1 := by
  obtain ⟨hf, h1, h2⟩ := flatT_ok (rootF idl P) 0 (-1)
  have hl := hf.len
  refine ⟨h1, ?_, h2⟩
  have hi : 0 < (preT (rootF idl P)).length := by rw [← hl]; exact h1
  have e : (bxs idl P)[0].node = (preT (rootF idl P))[0].node := (hf.same 0 h1 hi).2.1
  rw [e]
  have hp : (preT (rootF idl P))[0]? = some (rootF idl P) := by cases rootF idl P; rw [preT]; rfl
  obtain ⟨hp1, hp2⟩ := List.getElem?_eq_some_iff.1 hp
  rw [hp2]
  exact (contr_kind idl P 0 _).1
theorem bxs_kids : ((bxs idl P).map fun b => b.kids.length).sum + 1 = (bxs idl P).length := by
  obtain ⟨hf, _⟩ := flatT_ok (rootF idl P) 0 (-1)
  have : (bxs idl P).map (fun b => b.kids.length) = (preT (rootF idl P)).map fun s => s.kids.length := by
    refine List.ext_getElem (by simp [bxs, hf.len]) fun i h1 h2 => ?_
    simp only [List.getElem_map]
    exact (hf.same i (by simpa [bxs] using h1) (by simpa using h2)).2.2.2
  rw [this, preT_kids]
  exact (flatT_len _ _ _).symm
end
end Go.Proofs.YtbpkffoooieejaaDoor
/- How many nodes lie below a node, how many boxes there are. No program in sight. -/
namespace Go.Proofs.YtbpkffoooieejaaDoor
theorem nodupN_len : ∀ (N : Nat) (l : List Nat), l.Nodup → (∀ x ∈ l, x < N) → l.length ≤ N
  | 0, l, _, h => by
    cases l with
    | nil => exact Nat.le_refl _
    | cons x l => exact absurd (h x (by simp)) (Nat.not_lt_zero _)
  | N + 1, l, hn, h => by
    by_cases hm : N ∈ l
    · have h1 := nodupN_len N (l.erase N) (hn.erase N) fun x hx => by
        have hx2 := List.mem_of_mem_erase hx
        have hne : x ≠ N := fun e => by
          subst e
          exact (List.Nodup.mem_erase_iff hn).1 hx |>.1 rfl
        have := h x hx2
        omega
      have h2 := List.length_erase_of_mem hm
      omega
    · have h1 := nodupN_len N l hn fun x hx => by
        have hne : x ≠ N := fun e => hm (e ▸ hx)
        have := h x hx
        omega
      omega
section
variable (P : Pg) {N : Nat} {lev : Nat → Nat} (par : Nat → Int)
def ancF : Nat → Nat → Nat
  | 0, x => x
  | i + 1, x => (par (ancF i x)).toNat
variable (D : DocT P N lev) (hp : ∀ n, n < N → ∀ k ∈ P.kd n, par k = (n : Int)) (hnd : ∀ n, n < N → (P.kd n).Nodup)
include D in
theorem dsc_lt (d : Nat) : ∀ n, n < N → ∀ x ∈ dscF P d n, x < N ∧ lev n < lev x := by
  induction d with
  | zero => intro n _ x hx; cases hx
  | succ d ih =>
    intro n hn x hx
    rw [dscF] at hx
    obtain ⟨k, hk, hx⟩ := List.mem_flatMap.1 hx
    obtain ⟨h1, h2⟩ := D.kid n hn k hk
    rcases List.mem_cons.1 hx with rfl | hx
    · exact ⟨h1, by omega⟩
    · obtain ⟨h3, h4⟩ := ih k h1 x hx
      exact ⟨h3, by omega⟩
include D hp in
theorem dsc_anc (d : Nat) : ∀ n, n < N → ∀ x ∈ n :: dscF P d n, ancF par (lev x - lev n) x = n := by
  induction d with
  | zero =>
    intro n _ x hx
    obtain rfl : x = n := by simpa [dscF] using hx
    rw [Nat.sub_self]; rfl
  | succ d ih =>
    intro n hn x hx
    rcases List.mem_cons.1 hx with rfl | hx
    · rw [Nat.sub_self]; rfl
    · rw [dscF] at hx
      obtain ⟨k, hk, hx⟩ := List.mem_flatMap.1 hx
      obtain ⟨h1, h2⟩ := D.kid n hn k hk
      have h3 := ih k h1 x hx
      have h4 : lev k ≤ lev x := by
        rcases List.mem_cons.1 hx with rfl | hx
        · exact Nat.le_refl _
        · exact Nat.le_of_lt (dsc_lt P D d k h1 x hx).2
      rw [show lev x - lev n = (lev x - lev k) + 1 by omega, ancF, h3, hp n hn k hk]
      simp
include D hp hnd in
theorem dsc_nodup (d : Nat) : ∀ n, n < N → (dscF P d n).Nodup := by
  induction d with
  | zero => intro n _; exact List.nodup_nil
  | succ d ih =>
    intro n hn
    rw [dscF]
    have key : ∀ l : List Nat, l.Nodup → (∀ k ∈ l, k ∈ P.kd n) → (l.flatMap fun k => k :: dscF P d k).Nodup := by
      intro l
      induction l with
      | nil => intro _ _; exact List.nodup_nil
      | cons k l ihl =>
        intro hl hm
        have hl2 := List.nodup_cons.1 hl
        obtain ⟨h1, h2⟩ := D.kid n hn k (hm k (by simp))
        rw [List.flatMap_cons, List.nodup_append]
        refine ⟨List.nodup_cons.2 ⟨fun h => ?_, ih k h1⟩, ihl hl2.2 fun j hj => hm j (by simp [hj]), fun a ha b hb e => ?_⟩
        · have := (dsc_lt P D d k h1 k h).2; omega
        · subst e
          obtain ⟨k', hk', hb⟩ := List.mem_flatMap.1 hb
          obtain ⟨h3, h4⟩ := D.kid n hn k' (hm k' (by simp [hk']))
          have e1 := dsc_anc P par D hp d k h1 a ha
          have e2 := dsc_anc P par D hp d k' h3 a hb
          rw [h2] at e1
          rw [h4, e1] at e2
          subst e2
          exact hl2.1 hk'
    exact key _ (hnd n hn) fun k hk => hk
include D hp hnd in
theorem dsc_len (d n : Nat) (hn : n < N) : (dscF P d n).length ≤ N := nodupN_len N _ (dsc_nodup P par D hp hnd d n hn) fun x hx => (dsc_lt P D d n hn x hx).1
theorem cont_dsc (d : Nat) : ∀ n, (contF P d n).Sublist (dscF P d n) := by
  induction d with
  | zero => intro n; exact List.Sublist.refl _
  | succ d ih =>
    intro n
    rw [contF, dscF]
    refine flatMap_sub _ fun k _ => ?_
    unfold contOne
    split
    · simp
    · split
      · simp
      · split
        · exact (ih k).cons _
        · simp
include D hp hnd in
theorem cont_len (d n : Nat) (hn : n < N) : (contF P d n).length ≤ N := Nat.le_trans (cont_dsc P d n).length_le (dsc_len P par D hp hnd d n hn)
/-- What a node and all below it weigh. -/
def wgt (n : Nat) : Nat := 1 + (dscF P 41 n).length
theorem szL_app (a b : List Tr) : szL (a ++ b) = szL a + szL b := by
  induction a with
  | nil => rw [List.nil_append, szL]; omega
  | cons t a ih => rw [List.cons_append, szL, szL, ih]; omega
theorem szL_one (t : Tr) : szL [t] = szT t := by rw [szL, szL]; omega
theorem split_sz {α : Type} {alone : α → Bool} {one : α → Tr} {run : List α → Tr × Bool} {c : α → Nat} : ∀ (m : Nat) (l : List α), (∀ x ∈ l, szT (one x) ≤ c x) → (∀ r : List α, r ≠ [] → (∀ x ∈ r, x ∈ l) → szT (run r).1 ≤ (r.map c).sum) → szL (splitF alone one run m l) ≤ (l.map c).sum
  | 0, _, _, _ => by rw [splitF, szL]; exact Nat.zero_le _
  | _ + 1, [], _, _ => by rw [splitF, szL]; exact Nat.zero_le _
  | m + 1, x :: l, h1, h2 => by
    rw [splitF]
    cases hx : alone x
    · have hk : 0 < (x :: l).findIdx alone := by rw [List.findIdx_cons, hx]; exact Nat.succ_pos _
      have ih := split_sz (alone := alone) (one := one) (run := run) (c := c) m ((x :: l).drop ((x :: l).findIdx alone)) (fun y hy => h1 y (List.mem_of_mem_drop hy)) fun r hr hm => h2 r hr fun y hy => List.mem_of_mem_drop (hm y hy)
      have e : ((x :: l).map c).sum = (((x :: l).take ((x :: l).findIdx alone)).map c).sum + (((x :: l).drop ((x :: l).findIdx alone)).map c).sum := by
        rw [← List.sum_append, ← List.map_append, List.take_append_drop]
      rw [e]
      simp only [Bool.false_eq_true, if_false]
      rw [szL_app]
      have h3 : szL (if (run ((x :: l).take ((x :: l).findIdx alone))).2 = true then [(run ((x :: l).take ((x :: l).findIdx alone))).1] else []) ≤ (((x :: l).take ((x :: l).findIdx alone)).map c).sum := by
        split
        · rw [szL_one]
          refine h2 _ (fun e => ?_) fun y hy => List.mem_of_mem_take hy
          have := congrArg List.length e
          rw [List.length_take] at this
          simp at this
          omega
        · rw [szL]; exact Nat.zero_le _
      omega
    · have ih := split_sz (alone := alone) (one := one) (run := run) (c := c) m l (fun y hy => h1 y (by simp [hy])) fun r hr hm => h2 r hr fun y hy => by simp [hm y hy]
      have h4 := h1 x (by simp)
      simp only [if_true, List.map_cons, List.sum_cons]
      rw [szL]
      omega
theorem szL_map (g : Nat → Tr) (l : List Nat) : szL (l.map g) = (l.map fun k => szT (g k)).sum := by
  induction l with
  | nil => rw [List.map_nil, szL]; rfl
  | cons k l ih => rw [List.map_cons, szL, ih, List.map_cons, List.sum_cons]
theorem szL_sum (l : List Tr) : szL l = (l.map szT).sum := by
  induction l with
  | nil => rw [szL]; rfl
  | cons k l ih => rw [szL, ih, List.map_cons, List.sum_cons]
variable (idl : ByteArray → Bool)
theorem row_sz (alone : Tr → Bool) (l : List Tr) : szL (rowF idl P alone l) ≤ szL l + l.length := by
  have h := split_sz (alone := alone) (one := fun t => t) (run := linesF idl P) (c := fun t => szT t + 1) l.length l (fun x _ => Nat.le_succ _) fun r hr _ => by
    unfold linesF anonF
    rw [szT, szL_sum]
    have : ∀ (r : List Tr), (r.map fun t => szT t + 1).sum = (r.map szT).sum + r.length := by
      intro r
      induction r with
      | nil => rfl
      | cons t r ih => rw [List.map_cons, List.sum_cons, ih, List.map_cons, List.sum_cons, List.length_cons]; omega
    rw [this]
    cases r with
    | nil => exact absurd rfl hr
    | cons t r => simp; omega
  have : ∀ (r : List Tr), (r.map fun t => szT t + 1).sum = szL r + r.length := by
    intro r
    induction r with
    | nil => rw [szL]; rfl
    | cons t r ih => rw [List.map_cons, List.sum_cons, ih, szL, List.length_cons]; omega
  rw [this] at h
  exact h
theorem contr_sz (n : Int) (l : List Tr) : szT (contrF idl P n l) ≤ 1 + szL l + l.length := by
  unfold contrF
  split
  · have := row_sz P idl (blockyF P 1) l
    rw [szT]; omega
  · rw [szT]; omega
theorem sum_mono {α : Type} {f g : α → Nat} : ∀ (l : List α), (∀ x ∈ l, f x ≤ g x) → (l.map f).sum ≤ (l.map g).sum
  | [], _ => Nat.le_refl _
  | x :: l, h => by
    have h1 := h x (by simp)
    have h2 := sum_mono l fun y hy => h y (by simp [hy])
    rw [List.map_cons, List.sum_cons, List.map_cons, List.sum_cons]
    omega
include D in
theorem cont_wgt (n : Nat) (hn : n < N) : ((contF P 41 n).map (wgt P)).sum + 1 ≤ wgt P n := by
  have h := (cont_sub P D 41 n hn (by omega)).length_le
  have : ∀ l : List Nat, (l.flatMap fun k => k :: dscF P 41 k).length = (l.map (wgt P)).sum := by
    intro l
    induction l with
    | nil => rfl
    | cons k l ih => rw [List.flatMap_cons, List.length_append, ih, List.map_cons, List.sum_cons, List.length_cons]; unfold wgt; omega
  rw [this] at h
  unfold wgt at h ⊢
  omega
theorem sum_ten (l : List Nat) (f : Nat → Nat) : (l.map fun k => 10 * f k).sum = 10 * (l.map f).sum := by
  induction l with
  | nil => rfl
  | cons k l ih => rw [List.map_cons, List.sum_cons, ih, List.map_cons, List.sum_cons]; omega
/-- Boxes of a list of nodes, each of which is light enough. -/
theorem boxes_sz {g : Nat → Tr} {l : List Nat} (h : ∀ k ∈ l, szT (g k) + 5 ≤ 10 * wgt P k) : szL (l.map g) + 5 * l.length ≤ 10 * (l.map (wgt P)).sum := by
  rw [szL_map]
  induction l with
  | nil => simp
  | cons k l ih =>
    have h1 := h k (by simp)
    have h2 := ih fun j hj => h j (by simp [hj])
    rw [List.map_cons, List.sum_cons, List.map_cons, List.sum_cons, List.length_cons]
    omega
include D in
theorem box_sz (d : Nat) : ∀ n, n < N → szT (boxF idl P d n) + 5 ≤ 10 * wgt P n := by
  have leaf : ∀ (n : Nat) (k m : Int) (x : ByteArray), szT (.mk k m x []) + 5 ≤ 10 * wgt P n := fun n k m x => by
    rw [szT, szL]; unfold wgt; omega
  induction d with
  | zero => intro n _; exact leaf _ _ _ _
  | succ d ih =>
    intro n hn
    have hw := cont_wgt P D n hn
    have hb : ∀ m, m < N → szL ((contF P 41 m).map (boxF idl P d)) + 5 * (contF P 41 m).length ≤ 10 * ((contF P 41 m).map (wgt P)).sum := fun m hm => boxes_sz P fun k hk => ih k (cont_lt P D 41 m hm k hk).1
    have hbn := hb n hn
    have hlen : ((contF P 41 n).map (boxF idl P d)).length = (contF P 41 n).length := by simp
    rw [boxF]
    split
    · exact leaf _ _ _ _
    · split
      · exact leaf _ _ _ _
      · split
        · rw [szT]; omega
        · split
          · have := contr_sz P idl (-1) ((contF P 41 n).map (boxF idl P d))
            rw [szT, szL_one]; omega
          · split
            · have := row_sz P idl (flexAlone P) ((contF P 41 n).map (boxF idl P d))
              rw [szT]; omega
            · split
              · have cellRun : ∀ (r : List Nat), r ≠ [] → (∀ x ∈ r, x < N) → szT (cellF idl P (boxF idl P d) (-1) r) + 2 ≤ (r.map fun k => 10 * wgt P k).sum := fun r hr hm => by
                  have h1 := boxes_sz P (g := boxF idl P d) (l := r) fun k hk => ih k (hm k hk)
                  have h2 := contr_sz P idl (-1) (r.map (boxF idl P d))
                  have h3 : 0 < r.length := List.length_pos_iff.2 hr
                  rw [List.length_map] at h2
                  rw [sum_ten]
                  unfold cellF
                  rw [szT, szL_one]; omega
                have cells : ∀ x, x < N → szL (cellsF idl P (boxF idl P d) (contF P 41 x)) ≤ 10 * ((contF P 41 x).map (wgt P)).sum := fun x hx => by
                  rw [← sum_ten]
                  refine split_sz _ _ (fun y hy => ?_) fun r hr hm => ?_
                  · have hy := (cont_lt P D 41 x hx y hy).1
                    have h1 := hb y hy
                    have h2 := cont_wgt P D y hy
                    have h3 := contr_sz P idl (-1) ((contF P 41 y).map (boxF idl P d))
                    rw [List.length_map] at h3
                    unfold cellF
                    rw [szT, szL_one]; omega
                  · have := cellRun r hr fun y hy => (cont_lt P D 41 x hx y (hm y hy)).1
                    show szT (cellF idl P (boxF idl P d) (-1) r) ≤ _
                    omega
                have rows : szL (rowsF idl P (boxF idl P d) (contF P 41 n)) ≤ 10 * ((contF P 41 n).map (wgt P)).sum := by
                  rw [← sum_ten]
                  refine split_sz _ _ (fun y hy => ?_) fun r hr hm => ?_
                  · have hy := (cont_lt P D 41 n hn y hy).1
                    have h1 := cells y hy
                    have h2 := cont_wgt P D y hy
                    rw [szT]; omega
                  · have := cellRun r hr fun y hy => (cont_lt P D 41 n hn y (hm y hy)).1
                    show szT (anonF 8 [cellF idl P (boxF idl P d) (-1) r]) ≤ _
                    unfold anonF
                    rw [szT, szL_one]; omega
                rw [szT]; omega
              · have := contr_sz P idl n ((contF P 41 n).map (boxF idl P d))
                omega
include D hp hnd in
theorem root_sz (hN : 0 < N) : szT (rootF idl P) ≤ 10 * (N + 1) := by
  have hw := cont_wgt P D 0 hN
  have h1 := boxes_sz P (g := boxF idl P 41) (l := contF P 41 0) fun k hk => box_sz P D idl 41 k (cont_lt P D 41 0 hN k hk).1
  have h2 := contr_sz P idl 0 ((contF P 41 0).map (boxF idl P 41))
  have h3 := dsc_len P par D hp hnd 41 0 hN
  rw [List.length_map] at h2
  unfold rootF
  have hw0 : wgt P 0 = 1 + (dscF P 41 0).length := rfl
  rw [hw0] at hw
  omega
end
end Go.Proofs.YtbpkffoooieejaaDoor
/- Documents as trees: who is above whom. No program in sight. -/
namespace Go.Proofs.YtbpkffoooieejaaDoor
section
variable (par : Nat → Int)
/-- How many are above a node; the nodes from it up. -/
def upF : Nat → Nat → Nat
  | 0, _ => 0
  | f + 1, n => if 0 ≤ par n then upF f (par n).toNat + 1 else 0
def upL : Nat → Nat → List Nat
  | 0, n => [n]
  | f + 1, n => if 0 ≤ par n then n :: upL f (par n).toNat else [n]
theorem up_stable : ∀ (f n : Nat), upF par f n < f → upF par (f + 1) n = upF par f n
  | 0, _, h => absurd h (Nat.not_lt_zero _)
  | f + 1, n, h => by
    rw [upF]
    conv => rhs; rw [upF]
    rw [upF] at h
    split
    · rename_i h0
      rw [if_pos h0] at h
      rw [up_stable f _ (by omega)]
    · rfl
theorem lev_kid {N k i : Nat} (h : upF par (N + 1) k ≤ N) (hp : par k = (i : Int)) : upF par (N + 1) k = upF par (N + 1) i + 1 := by
  rw [upF] at h ⊢
  rw [if_pos (by omega), hp] at h ⊢
  rw [Int.toNat_natCast] at h ⊢
  rw [up_stable par N i (by omega)]
theorem upL_len : ∀ (f n : Nat), (upL par f n).length = upF par f n + 1
  | 0, _ => rfl
  | f + 1, n => by
    rw [upL, upF]
    split
    · rw [List.length_cons, upL_len f]
    · rfl
theorem upL_mem_par : ∀ (f n : Nat), ∀ k ∈ (upL par f n).dropLast, 0 ≤ par k
  | 0, n, k, h => by cases h
  | f + 1, n, k, h => by
    rw [upL] at h
    split at h
    · rename_i h0
      cases hq : upL par f (par n).toNat with
      | nil => rw [hq] at h; cases h
      | cons a l =>
        rw [hq, List.dropLast_cons_cons] at h
        rcases List.mem_cons.1 h with rfl | h
        · exact h0
        · exact upL_mem_par f (par n).toNat k (by rw [hq]; exact h)
    · cases h
end
section
variable (P : Pg) (par : Nat → Int)
/-- Who is shown below the root has none above that is hidden. -/
theorem sh_up (hk : ∀ n, ∀ k ∈ P.kd n, par k = (n : Int)) (h0 : par 0 = -1) {n : Nat} (h : Sh P 0 n) : ∀ f, ∀ k ∈ upL par f n, k = 0 ∨ okN P k := by
  generalize hz : (0 : Nat) = z at h
  induction h with
  | @kid k hkd hok =>
    subst hz
    intro f j hj
    have hp := hk _ k hkd
    cases f with
    | zero =>
      obtain rfl : j = k := by simpa [upL] using hj
      exact .inr hok
    | succ f =>
      rw [upL, if_pos (by omega), hp] at hj
      rcases List.mem_cons.1 hj with rfl | hj
      · exact .inr hok
      · have : upL par f ((0 : Nat) : Int).toNat = [0] := by
          cases f with
          | zero => rfl
          | succ f => rw [upL]; exact if_neg (by show ¬ 0 ≤ par 0; omega)
        rw [this] at hj
        exact .inl (by simpa using hj)
  | @step m k hs hkd hok ih =>
    intro f j hj
    have hp := hk _ k hkd
    cases f with
    | zero =>
      obtain rfl : j = k := by simpa [upL] using hj
      exact .inr hok
    | succ f =>
      rw [upL, if_pos (by omega), hp] at hj
      rcases List.mem_cons.1 hj with rfl | hj
      · exact .inr hok
      · rw [Int.toNat_natCast] at hj
        exact ih f j hj
end
/-- The walk of the statement BoxesOnce: from the first one on that is it. -/
theorem sub_next : ∀ (r : List Nat) (x : Nat) (l : List Nat), (x :: l).Sublist r → ∃ m, ∃ h : m < r.length, r[m] = x ∧ (∀ j (hj : j < m), r[j]'(by omega) ≠ x) ∧ l.Sublist (r.drop (m + 1))
  | [], _, _, h => by cases h
  | y :: r, x, l, h => by
    by_cases e : y = x
    · subst e
      exact ⟨0, by simp, rfl, fun j hj => absurd hj (Nat.not_lt_zero _), by simpa using List.cons_sublist_cons.1 h⟩
    · have h2 : (x :: l).Sublist r := by
        cases h with
        | cons _ h => exact h
        | cons_cons _ h => exact absurd rfl e
      obtain ⟨m, hm, h3, h4, h5⟩ := sub_next r x l h2
      refine ⟨m + 1, by simpa using hm, h3, fun j hj => ?_, by simpa using h5⟩
      cases j with
      | zero => exact e
      | succ j => exact h4 j (by omega)
end Go.Proofs.YtbpkffoooieejaaDoor
/- A law's wrap where tables are listed and the world's shape is wanted: both at once. No program in sight. -/
namespace Go.Proofs.YtbpkffoooieejaaDoor
variable {H : Type} {enc : TypeId × Value → H}
theorem hand_and_shaped {a : Assume} {C : Checked} {os : Os} {f : FuncId} {fn : Func} {s : ChangeSpec} {conds : List PathCond} {apart fresh handsOn again : Bool} {X : World → Array Value → Prop}
    (hX : ∀ (w w' : World) (args : Array Value), w.heap = w'.heap → X w args → X w' args)
    (own : ownKnob C.prog.godebug = none) (started : os.Started) (noInit : C.prog.inits.idxOf? f = none) (hfn : C.prog.funcs[f]? = some fn)
    (witness : ∃ (w : World) (tape : Tape) (i : Input), w.os = os ∧ (w.forCall tape i).Shaped C.prog ∧ i.vars = [] ∧ Input.okWide C.prog (w.forCall tape i) .any w.heap.size f i ∧
      ((s.pre enc C.prog fn conds apart (w.forCall tape i).memory i.args ∧ X (w.forCall tape i).memory i.args) ∧ sizedMet enc C.prog fn (OpenSpec.ofChange s) apart (w.forCall tape i).memory i.args) ∧ a.holds C.prog (lone (Frame.enter C.prog f i.args .normal) [] (w.forCall tape i)))
    (contract : ∀ (W : World) (base : Nat) (args : Array Value) (ds gs : List (DataW H)) (before : List MemPlace),
      (∀ (j : Nat) t v, fn.params[j]? = some t → args[j]? = some v → Value.okWide C.prog W .any base t v) →
      DataW.Whole enc C.prog fn.params.toList s.vars apart W args.toList ds gs before →
      X W args → W.ShapedOpen C.prog →
      Calls C.prog f args W fun e W' => ∃ v, e = .returned v ∧ s.post enc C.prog fn apart fresh handsOn again W args v W') :
    ReturnsInHanded a C os f .any (fun w args => (s.pre enc C.prog fn conds apart w args ∧ X w args) ∧ sizedMet enc C.prog fn (OpenSpec.ofChange s) apart w args) (s.post enc C.prog fn apart fresh handsOn again) := by
  refine returnsInHanded_of_calls own started noInit witness ?_
  intro w tape i _ hsh _ hok hpre _
  obtain ⟨_, _, _, fn', hfn', _, _, _, _, hval⟩ := hok
  have e : fn' = fn := Option.some.inj (hfn'.symm.trans hfn)
  subst e
  obtain ⟨⟨⟨ds, gs, before, hw, hc⟩, hx⟩, hz⟩ := hpre
  have hw' := DataW.Whole.of_heap (w' := w.forCall tape i) (by rfl) hw
  refine (contract (w.forCall tape i) w.heap.size i.args ds gs before hval hw' (hX _ _ _ (by rfl) hx) hsh).mono fun e W' ⟨v, he, hp⟩ => ?_
  subst he
  exact ChangeSpec.post_blind hp
end Go.Proofs.YtbpkffoooieejaaDoor
/- The closed facts of a row, with what is said of the head of the dump proved apart (the kernel takes too much room for a long string's letters). -/
namespace Go.Proofs.YtbpkffoooieejaaDoor
open Go

/-- The letters of the dump's head. -/
def headCodes : List Nat := [104, 97, 114, 110, 101, 115, 115, 32, 55, 54, 55, 98, 51, 48, 53, 51, 54, 48, 98, 54, 56, 98, 50, 99, 98, 55, 56, 53, 51, 102, 52, 97, 50, 53, 48, 48, 55, 54, 49, 56, 51, 102, 56, 48, 51, 102, 97, 52, 52, 101, 57, 98, 97, 98, 49, 99, 50, 57, 102, 99, 48, 99, 101, 102, 55, 101, 48, 99, 50, 100, 49, 56, 32, 99, 117, 116, 32, 97, 116, 32, 99, 108, 101, 114, 101, 115, 116, 111, 114, 121, 47, 99, 108, 101, 114, 101, 115, 116, 111, 114, 121, 107, 101, 101, 112, 51, 46, 83, 116, 97, 99, 107, 65, 108, 108, 32, 99, 108, 101, 114, 101, 115, 116, 111, 114, 121, 47, 99, 108, 101, 114, 101, 115, 116, 111, 114, 121, 107, 101, 101, 112, 51, 46, 66, 111, 120, 101, 115, 75, 105, 110, 100, 115, 32, 99, 108, 101, 114, 101, 115, 116, 111, 114, 121, 47, 99, 108, 101, 114, 101, 115, 116, 111, 114, 121, 107, 101, 101, 112, 51, 46, 66, 111, 120, 101, 115, 79, 110, 99, 101, 32, 99, 108, 101, 114, 101, 115, 116, 111, 114, 121, 47, 99, 108, 101, 114, 101, 115, 116, 111, 114, 121, 107, 101, 101, 112, 51, 46, 66, 111, 120, 101, 115, 72, 105, 100, 100, 101, 110]
theorem head_bytes : Tryd.prog.initOrder.toByteArray = (headCodes.map Char.ofNat).utf8Encode := by kernel_rfl
theorem head_is : Tryd.prog.initOrder = String.ofList (headCodes.map Char.ofNat) := String.toByteArray_inj.1 (head_bytes.trans (String.toByteArray_ofList).symm)
theorem head_list : Tryd.prog.initOrder.toList = headCodes.map Char.ofNat := by rw [head_is, String.toList_ofList]
def headWords : List (List Char) := behindMainWord (wordsSigns (headCodes.map Char.ofNat))
theorem head_words : behindMainWord (wordsSigns Tryd.prog.initOrder.toList) = headWords := by rw [head_list]; rfl
section
variable {P : Program} {c : List Char} {rest : List (List Char)}
theorem make_of (h : behindMainWord (wordsSigns P.initOrder.toList) = c :: rest) (h1 : (c == "gc".toList || c == "spec".toList) = false) (h2 : (c == "cut".toList) = true) : P.make = some .cut := by
  unfold Program.make
  rw [h]
  simp only [h1, h2, Bool.true_or, if_true, Bool.false_eq_true, if_false]
theorem lifts_empty_of (h : behindMainWord (wordsSigns P.initOrder.toList) = c :: rest) (h1 : (stripLifts liftWords (c :: rest)).1 = []) : P.headLifts = [] := by
  unfold Program.headLifts
  rw [h]
  simp only [h1, ite_self]
theorem lifts_of (h : behindMainWord (wordsSigns P.initOrder.toList) = c :: rest) (h0 : P.headLifts = []) (h1 : ((c :: rest).head? == some "carried".toList) = false) : P.liftsFinal = false := by
  unfold Program.liftsFinal
  rw [h, h0]
  simp only [h1, Bool.false_and, List.contains_nil, Bool.or_false]
theorem may_of (h : behindMainWord (wordsSigns P.initOrder.toList) = c :: rest)
    (h3 : ((stripLifts liftWords (c :: rest)).2.head? == some "cut".toList &&
      ((stripLifts liftWords (c :: rest)).1.contains "finals" || !P.laysLater) && ((stripLifts liftWords (c :: rest)).1.contains "reflectrows" || !P.bearsReflect) &&
      ((stripLifts liftWords (c :: rest)).1.contains "reflectrows" || !(stripLifts liftWords (c :: rest)).1.contains "leanrows") &&
      P.doorFits (stripLifts liftWords (c :: rest)).1) = true) : P.mayEnter = true := by
  unfold Program.mayEnter
  rw [h]
  simp only [h3, Bool.or_true]
end
theorem words_are : behindMainWord (wordsSigns Tryd.prog.initOrder.toList) = headWords.headD [] :: headWords.tail := by rw [head_words]; kernel_rfl
theorem make_is : Tryd.prog.make = some .cut := make_of words_are (by kernel_rfl) (by kernel_rfl)
theorem lifts_empty : Tryd.prog.headLifts = [] := lifts_empty_of words_are (by kernel_rfl)
theorem lifts_is : Tryd.prog.liftsFinal = false := lifts_of words_are lifts_empty (by kernel_rfl)
theorem may_enter : Tryd.prog.mayEnter = true := may_of words_are (by kernel_rfl)

end Go.Proofs.YtbpkffoooieejaaDoor
/- Plain facts on numbers and lists: cutting a number, parts of a number, margins that meet. No program in sight. -/
namespace Go.Proofs.YtbpkffoooieejaaDoor

/-- A number between -2^24 and 2^24. -/
def cut (n : Int) : Int := min (max n (-16777216)) 16777216
theorem cut_lo (n : Int) : -16777216 ≤ cut n := by unfold cut; omega
theorem cut_hi (n : Int) : cut n ≤ 16777216 := by unfold cut; omega
theorem cut_mono {a b : Int} (h : a ≤ b) : cut a ≤ cut b := by unfold cut; omega
theorem cut_of {n : Int} (h : -16777216 ≤ n) (h' : n ≤ 16777216) : cut n = n := by unfold cut; omega
theorem cut_cut (n : Int) : cut (cut n) = cut n := cut_of (cut_lo n) (cut_hi n)
theorem cut_nonneg {n : Int} (h : 0 ≤ n) : 0 ≤ cut n := by unfold cut; omega

/-- A part of a number, down above 0. -/
def partOf (n up down : Int) : Int := cut (cut n * cut up / cut down)
theorem mul_bound {a b : Int} (ha : -16777216 ≤ a) (ha' : a ≤ 16777216) (hb : -16777216 ≤ b) (hb' : b ≤ 16777216) : -281474976710656 ≤ a * b ∧ a * b ≤ 281474976710656 := by
  have h1 : 0 ≤ (16777216 - a) * (16777216 + b) := Int.mul_nonneg (by omega) (by omega)
  have h2 : 0 ≤ (16777216 + a) * (16777216 - b) := Int.mul_nonneg (by omega) (by omega)
  have h3 : 0 ≤ (16777216 - a) * (16777216 - b) := Int.mul_nonneg (by omega) (by omega)
  have h4 : 0 ≤ (16777216 + a) * (16777216 + b) := Int.mul_nonneg (by omega) (by omega)
  have e1 : (16777216 - a) * (16777216 + b) = 281474976710656 + 16777216 * b - 16777216 * a - a * b := by
    simp only [Int.sub_mul, Int.mul_add]; omega
  have e2 : (16777216 + a) * (16777216 - b) = 281474976710656 - 16777216 * b + 16777216 * a - a * b := by
    simp only [Int.add_mul, Int.mul_sub]; omega
  have e3 : (16777216 - a) * (16777216 - b) = 281474976710656 - 16777216 * b - 16777216 * a + a * b := by
    simp only [Int.sub_mul, Int.mul_sub]; omega
  have e4 : (16777216 + a) * (16777216 + b) = 281474976710656 + 16777216 * b + 16777216 * a + a * b := by
    simp only [Int.add_mul, Int.mul_add]; omega
  omega
theorem cut_mul_bound (a b : Int) : -281474976710656 ≤ cut a * cut b ∧ cut a * cut b ≤ 281474976710656 :=
  mul_bound (cut_lo a) (cut_hi a) (cut_lo b) (cut_hi b)
theorem part_mono {a b u d : Int} (h : a ≤ b) (hu : 0 ≤ u) (hd : 1 ≤ d) : partOf a u d ≤ partOf b u d := by
  unfold partOf
  refine cut_mono (Int.ediv_le_ediv (by unfold cut; omega) ?_)
  exact Int.mul_le_mul_of_nonneg_right (cut_mono h) (cut_nonneg hu)
theorem part_self {n d : Int} (hd : 1 ≤ d) : partOf n d d = cut n := by
  unfold partOf
  rw [Int.mul_ediv_cancel _ (by unfold cut; omega), cut_cut]

/-! Margins that meet. -/
def most (l : List Int) : Int := l.foldl (fun a n => max a (cut n)) 0
def least (l : List Int) : Int := l.foldl (fun a n => min a (cut n)) 0
def meet (l : List Int) : Int := cut (most l + least l)
theorem foldl_max_eq (l : List Int) : ∀ a : Int, a ≤ l.foldl (fun a n => max a (cut n)) a ∧ (∀ n ∈ l, cut n ≤ l.foldl (fun a n => max a (cut n)) a) ∧
    (l.foldl (fun a n => max a (cut n)) a = a ∨ ∃ n ∈ l, l.foldl (fun a n => max a (cut n)) a = cut n) := by
  induction l with
  | nil => intro a; simp
  | cons x l ih =>
    intro a
    obtain ⟨h1, h2, h3⟩ := ih (max a (cut x))
    simp only [List.foldl_cons]
    refine ⟨by omega, ?_, ?_⟩
    · intro n hn
      rcases List.mem_cons.1 hn with rfl | hn
      · omega
      · exact h2 n hn
    · rcases h3 with h3 | ⟨n, hn, h3⟩
      · by_cases hx : cut x ≤ a
        · left; rw [h3]; omega
        · right; exact ⟨x, by simp, by rw [h3]; omega⟩
      · right; exact ⟨n, by simp [hn], h3⟩
theorem foldl_min_eq (l : List Int) : ∀ a : Int, l.foldl (fun a n => min a (cut n)) a ≤ a ∧ (∀ n ∈ l, l.foldl (fun a n => min a (cut n)) a ≤ cut n) ∧
    (l.foldl (fun a n => min a (cut n)) a = a ∨ ∃ n ∈ l, l.foldl (fun a n => min a (cut n)) a = cut n) := by
  induction l with
  | nil => intro a; simp
  | cons x l ih =>
    intro a
    obtain ⟨h1, h2, h3⟩ := ih (min a (cut x))
    simp only [List.foldl_cons]
    refine ⟨by omega, ?_, ?_⟩
    · intro n hn
      rcases List.mem_cons.1 hn with rfl | hn
      · omega
      · exact h2 n hn
    · rcases h3 with h3 | ⟨n, hn, h3⟩
      · by_cases hx : a ≤ cut x
        · left; rw [h3]; omega
        · right; exact ⟨x, by simp, by rw [h3]; omega⟩
      · right; exact ⟨n, by simp [hn], h3⟩
theorem most_le {l m : List Int} (h : ∀ n ∈ l, n ∈ m) : most l ≤ most m := by
  obtain ⟨h1, h2, h3⟩ := foldl_max_eq l 0
  obtain ⟨k1, k2, k3⟩ := foldl_max_eq m 0
  unfold most
  rcases h3 with h3 | ⟨n, hn, h3⟩
  · rw [h3]; exact k1
  · rw [h3]; exact k2 n (h n hn)
theorem least_le {l m : List Int} (h : ∀ n ∈ l, n ∈ m) : least m ≤ least l := by
  obtain ⟨h1, h2, h3⟩ := foldl_min_eq l 0
  obtain ⟨k1, k2, k3⟩ := foldl_min_eq m 0
  unfold least
  rcases h3 with h3 | ⟨n, hn, h3⟩
  · rw [h3]; exact k1
  · rw [h3]; exact k2 n (h n hn)
theorem meet_same {l m : List Int} (h : ∀ n, n ∈ l ↔ n ∈ m) : meet l = meet m := by
  have a1 := most_le fun n hn => (h n).1 hn
  have a2 := most_le fun n hn => (h n).2 hn
  have b1 := least_le fun n hn => (h n).1 hn
  have b2 := least_le fun n hn => (h n).2 hn
  unfold meet
  rw [show most l = most m by omega, show least l = least m by omega]
theorem meet_order (a b : List Int) : meet (a ++ b) = meet ((b ++ a) ++ b) := meet_same fun n => by
  simp only [List.mem_append]
  exact ⟨fun h => h.elim (fun h => .inl (.inr h)) (fun h => .inr h), fun h => h.elim (fun h => h.elim .inr .inl) .inr⟩
theorem most_bound (l : List Int) : 0 ≤ most l ∧ most l ≤ 16777216 := by
  obtain ⟨h1, h2, h3⟩ := foldl_max_eq l 0
  unfold most
  refine ⟨h1, ?_⟩
  rcases h3 with h3 | ⟨n, _, h3⟩
  · rw [h3]; omega
  · rw [h3]; exact cut_hi n
theorem least_bound (l : List Int) : -16777216 ≤ least l ∧ least l ≤ 0 := by
  obtain ⟨h1, h2, h3⟩ := foldl_min_eq l 0
  unfold least
  refine ⟨?_, h1⟩
  rcases h3 with h3 | ⟨n, _, h3⟩
  · rw [h3]; omega
  · rw [h3]; exact cut_lo n
/-- The number at place k (0 behind the end). A plain definition, so that the walk leaves it alone. -/
def at0 (l : List Int) (k : Nat) : Int := l.getD k 0
theorem at0_of (l : List Int) (k : Nat) (h : k < l.length) : at0 l k = l[k] := by simp [at0, List.getD, List.getElem?_eq_getElem h]
theorem most_take (l : List Int) (k : Nat) (h : k < l.length) : most (l.take (k + 1)) = max (most (l.take k)) (cut (at0 l k)) := by
  unfold most; rw [List.take_succ_eq_append_getElem h, List.foldl_append, at0_of l k h]; rfl
theorem least_take (l : List Int) (k : Nat) (h : k < l.length) : least (l.take (k + 1)) = min (least (l.take k)) (cut (at0 l k)) := by
  unfold least; rw [List.take_succ_eq_append_getElem h, List.foldl_append, at0_of l k h]; rfl
/-! Go's division, rounded down. -/
theorem tdiv_exact {n d : Int} (hd : 1 ≤ d) (h : n.tmod d = 0) : n.tdiv d = n / d := by
  have e := Int.mul_tdiv_add_tmod n d
  rw [h, Int.add_zero] at e
  exact ((Int.ediv_eq_of_eq_mul_right (by omega) e.symm)).symm
theorem tdiv_down {n d : Int} (hd : 1 ≤ d) (hn : n < 0) (h : n.tmod d ≠ 0) : n.tdiv d - 1 = n / d := by
  have e := Int.mul_tdiv_add_tmod n d
  have h1 : n.tmod d ≤ 0 := by
    have := Int.tmod_nonneg d (show 0 ≤ -n by omega)
    rw [Int.neg_tmod] at this; omega
  have h2 : -d < n.tmod d := by
    have := Int.tmod_lt_of_pos (-n) (show 0 < d by omega)
    rw [Int.neg_tmod] at this; omega
  have e2 : n = (d + n.tmod d) + d * (n.tdiv d - 1) := by rw [Int.mul_sub, Int.mul_one]; omega
  rw [e2, Int.add_mul_ediv_left _ _ (by omega), Int.ediv_eq_zero_of_lt (by omega) (by omega)]
  rw [← e2]; omega
theorem tdiv_bd {n d : Int} (hd : 1 ≤ d) (h1 : -9223372036854775808 < n) (h2 : n ≤ 9223372036854775807) : -9223372036854775808 < n / d ∧ n / d ≤ 9223372036854775807 := by
  have a1 : n / d ≤ 9223372036854775807 := Int.ediv_le_of_le_mul (by omega) (by have := Int.mul_le_mul_of_nonneg_left hd (show (0 : Int) ≤ 9223372036854775807 by omega); omega)
  have a2 : -9223372036854775807 ≤ n / d := Int.le_ediv_of_mul_le (by omega) (by have := Int.mul_le_mul_of_nonneg_left hd (show (0 : Int) ≤ 9223372036854775807 by omega); omega)
  omega
end Go.Proofs.YtbpkffoooieejaaDoor
/- Words for memory and small lemmas that the walks use (most of them copied from the guide's pages of lemmas to copy). No program in sight. -/
namespace Go.Proofs.YtbpkffoooieejaaDoor
open Go.RowKit Go.ChangeShapes Go.WideShapes Go.Deep
theorem block_of_add (a : Addr) (n : Nat) : (a.add n).block = a.block := by unfold Addr.add; split <;> rfl
theorem add_of_add (a : Addr) (i j : Nat) : (a.add i).add j = a.add (i + j) := by
  unfold Addr.add
  by_cases hi : i = 0 <;> by_cases hj : j = 0 <;> simp [hi, hj, Nat.add_assoc]

def Reads (w : World) (B size : Nat) (A : Option Addr) (n : Nat) (xs : List Value) : Prop :=
  xs.length = n * size ∧ (0 < n → ∃ ad, A = some ad ∧ ad.block < B ∧ ∀ j u, xs[j]? = some u → w.cell? (ad.add j) = some u)

section
variable {w w' : World} {B B' size n : Nat} {A : Option Addr} {xs : List Value}
theorem Reads.none_ : Reads w B size A 0 [] := ⟨by simp, fun h => absurd h (by omega)⟩
theorem Reads.at_ {k : Nat} (h : Reads w B 1 A n xs) (hk : k < n) : ∃ ad u, A = some ad ∧ ad.block < B ∧ xs[k]? = some u ∧ w.cell? (ad.add k) = some u := by
  obtain ⟨ad, e, hb, hc⟩ := h.2 (by omega)
  have hl : k < xs.length := by have := h.1; omega
  exact ⟨ad, xs[k], e, hb, List.getElem?_eq_getElem hl, hc k _ (List.getElem?_eq_getElem hl)⟩
theorem Reads.keep (h : Reads w B size A n xs) (hk : ∀ p : Addr, p.block < B → w'.cell? p = w.cell? p) : Reads w' B size A n xs :=
  ⟨h.1, fun hn => by
    obtain ⟨ad, e, hb, hc⟩ := h.2 hn
    exact ⟨ad, e, hb, fun j u hu => (hk _ (by rw [block_of_add]; exact hb)).trans (hc j u hu)⟩⟩
theorem Reads.more (h : Reads w B size A n xs) (hB : B ≤ B') : Reads w B' size A n xs :=
  ⟨h.1, fun hn => by
    obtain ⟨ad, e, hb, hc⟩ := h.2 hn
    exact ⟨ad, e, by omega, hc⟩⟩
theorem Reads.below (h : Reads w B size A n xs) (hb : Below B w w') : Reads w' B size A n xs := h.keep fun _ hp => hb.cell hp
theorem Reads.drew (h : Reads w B size A n xs) : Reads w.drew B size A n xs := h
theorem Reads.drewN (h : Reads w B size A n xs) (k : Nat) : Reads (w.drewN k) B size A n xs := h
theorem Reads.alloc (h : Reads w B size A n xs) (hB : B ≤ w.heap.size) (o : Obj) : Reads (w.alloc o) B size A n xs := h.keep fun p hp => World.cell?_alloc_lt w o p (by omega)
theorem Reads.setCell (h : Reads w B size A n xs) {p : Addr} (hB : B ≤ p.block) (u : Value) : Reads (w.setCell p u) B size A n xs :=
  h.keep fun q hq => World.cell?_setCell_other w p q u (fun e => by subst e; omega)
theorem Reads.grown (h : Reads w B size A n xs) {row : Option Nat} (hg : w.grownBy w' row) (hB : B ≤ w.heap.size) (hr : ∀ g, row = some g → B ≤ g) : Reads w' B size A n xs :=
  h.keep fun p hp => World.cell?_of_block (hg.block p.block (by omega) (fun e => by have := hr _ e.symm; omega))
theorem Reads.cut (h : Reads w B size A n xs) {k cap : Nat} (hk : k ≤ n) (hc : n ≤ cap) :
    Reads w B size (if cap = k then A else A.map (·.add (k * size))) (n - k) (xs.drop (k * size)) := by
  refine ⟨by rw [List.length_drop, h.1, Nat.sub_mul], fun hn => ?_⟩
  obtain ⟨ad, rfl, hb, hcell⟩ := h.2 (by omega)
  rw [if_neg (by omega)]
  refine ⟨ad.add (k * size), rfl, by rw [block_of_add]; exact hb, fun j u hu => ?_⟩
  rw [add_of_add]
  exact hcell _ u (by rw [← hu, List.getElem?_drop])
theorem Reads.of_own {base : Nat} {e : TypeId} {c : Nat} (h : w.ownsRow base e size (.slice A n c) n xs) : Reads w w.heap.size size A n xs := by
  refine ⟨h.1, fun hn => ?_⟩
  obtain ⟨g, cap, hv, _, hlt⟩ := h.form hn
  have hA : A = some ⟨g, 0, none⟩ := by injection hv
  subst hA
  exact ⟨_, rfl, hlt, h.cells (g := g) rfl⟩
end

def Blk (w : World) (g : Nat) (t : TypeId) (cs : Array Value) : Prop := w.heap[g]? = some (.cells cs t (0, 0))

section
variable {w w' : World} {g : Nat} {t : TypeId} {cs : Array Value}
theorem Blk.lt (h : Blk w g t cs) : g < w.heap.size := by
  rcases Nat.lt_or_ge g w.heap.size with hlt | hge
  · exact hlt
  · unfold Blk at h; rw [Array.getElem?_eq_none hge] at h; cases h
theorem Blk.cell (h : Blk w g t cs) (i : Nat) : w.cell? ⟨g, i, none⟩ = cs[i]? := cell_of_row w g i cs t (0, 0) h
theorem Blk.frozen (h : Blk w g t cs) (i : Nat) : w.frozen? ⟨g, i, none⟩ = false := by
  unfold Blk at h
  simp [World.frozen?, h]
theorem Blk.new (w : World) (t : TypeId) (cs : Array Value) : Blk (w.alloc (.cells cs t)) w.heap.size t cs := heap_alloc_new w _
theorem Blk.drew (h : Blk w g t cs) : Blk w.drew g t cs := h
theorem Blk.drewN (h : Blk w g t cs) (n : Nat) : Blk (w.drewN n) g t cs := h
theorem Blk.alloc (h : Blk w g t cs) (o : Obj) : Blk (w.alloc o) g t cs := (Below.heap_alloc w o g h.lt).trans h
theorem Blk.set_ (h : Blk w g t cs) (i : Nat) (u : Value) : Blk (w.setCell ⟨g, i, none⟩ u) g t (cs.setIfInBounds i u) := by
  unfold Blk at h ⊢
  simp [World.setCell, Array.getElem?_modify, h]
theorem Blk.far (h : Blk w g t cs) {p : Addr} (hp : g ≠ p.block) (u : Value) : Blk (w.setCell p u) g t cs := (Below.heap_setCell w p u g hp).trans h
theorem Blk.below {B : Nat} (h : Blk w g t cs) (hb : Below B w w') (hg : g < B) : Blk w' g t cs := (hb.block g hg).trans h
theorem Blk.grown {row : Option Nat} (h : Blk w g t cs) (hb : w.grownBy w' row) (hg : some g ≠ row) : Blk w' g t cs := (hb.block g h.lt hg).trans h
theorem Blk.ne_ {g' : Nat} {t' : TypeId} {cs' : Array Value} (h : Blk w g t cs) (h' : Blk w g' t' cs') (hne : t ≠ t') : g ≠ g' := by
  rintro rfl
  unfold Blk at h h'
  rw [h] at h'
  injection h' with h'
  injection h' with _ ht
  exact hne ht
theorem own_blk_ne {base : Nat} {e : TypeId} {size n : Nat} {v : Value} {xs : List Value} (h : w.ownsRow base e size v n xs) (hg : Blk w g t cs) (hne : e ≠ t) : v.ownBlock ≠ some g := by
  rcases h.2 with ⟨rfl, _⟩ | ⟨g', cap, cur, rfl, _, hh, _⟩
  · simp [Value.ownBlock]
  · intro he
    have : g' = g := by simpa [Value.ownBlock] using he
    subst this
    exact Blk.ne_ (t := e) hh hg hne rfl
end

section
variable {P : Program} (w : World)

theorem run_append_of_nil (base : Nat) (t ty e : TypeId) (i : TypeInfo) (size : Nat) (ht : P.underlying t = some (.slice e)) (hi : P.info? e = some i)
    (v : Value) (n : Nat) (xs : List Value) (hown : w.ownsRow base e size v n xs) (c : Nat) : (Builtin.append_ #[t, t] ty #[v, .slice none 0 c]).run P w = .ok v w := by
  rcases hown.2 with ⟨rfl, rfl⟩ | ⟨g, cap, cur, rfl, _, _, hnc, _⟩
  · simp [Builtin.append_, run_underlying ht, sizeOf, typeInfo, hi, Builtin.lenOf, Builtin.firstCells]
  · simp [Builtin.append_, run_underlying ht, sizeOf, typeInfo, hi, Builtin.lenOf, Builtin.firstCells, hnc, storeCells]

theorem run_append_any (base : Nat) (t ty e : TypeId) (i : TypeInfo) (z : Value) (size bytes : Nat) (ht : P.underlying t = some (.slice e)) (hi : P.info? e = some i) (hz : i.zero = some z)
    (hsize : i.size = size) (hby : i.bytes = bytes) (hzs : z.cells.size = size) (hsz : 0 < size)
    (v : Value) (n : Nat) (xs : List Value) (hown : w.ownsRow base e size v n xs)
    (B : Nat) (A : Option Addr) (m c : Nat) (news : List Value) (hr : Reads w B size A m news) (h1 : ∀ u ∈ news, u.oneCell' = true)
    (h63 : n + m ≤ maxLen) (hbytes : (n + m) * bytes ≤ 140737488355328) (hbase : base ≤ w.heap.size) :
    ∃ v' w', (Builtin.append_ #[t, t] ty #[v, .slice A m c]).run P w = .ok v' w' ∧ w'.ownsRow base e size v' (n + m) (xs ++ news) ∧ w.grownBy w' v.ownBlock ∧
      (v'.ownBlock = v.ownBlock ∨ v'.ownBlock = some w.heap.size) := by
  rcases A with _ | ad
  · have hm : m = 0 := by
      rcases Nat.eq_zero_or_pos m with h0 | h0
      · exact h0
      · obtain ⟨ad, h, _⟩ := hr.2 h0
        cases h
    subst hm
    have hn : news = [] := List.eq_nil_of_length_eq_zero (by simpa using hr.1)
    subst hn
    exact ⟨v, w, run_append_of_nil w base t ty e i size ht hi v n xs hown c, by simpa using hown, World.grownBy.refl w _, .inl rfl⟩
  · have hcells : ∀ j u, news[j]? = some u → w.cell? (ad.add j) = some u := by
      intro j u hu
      rcases Nat.eq_zero_or_pos m with h0 | h0
      · subst h0
        have hn : news = [] := List.eq_nil_of_length_eq_zero (by simpa using hr.1)
        subst hn
        simp at hu
      · obtain ⟨ad', h, _, hc⟩ := hr.2 h0
        injection h with h
        subst h
        exact hc j u hu
    obtain ⟨v', w', hrun, h2, h3, _, h5⟩ := run_append_own_at (P := P) w base t ty e i z size bytes ht hi hz hsize hby hzs hsz v n xs hown ad m c news hr.1 hcells h1 h63 hbytes hbase
    exact ⟨v', w', hrun, h2, h3, h5⟩

theorem wp_append_any {o : Oper} {a : Act} {K : Act → World → Prop} {Q : Exit → Act → World → Prop} (s x : Operand) (t : TypeId)
    (ho : o.op = .call { callee := .builtin .append, args := #[s, x], argTypes := #[t, t] })
    (base : Nat) (e : TypeId) (i : TypeInfo) (z : Value) (size bytes : Nat) (ht : P.underlying t = some (.slice e)) (hi : P.info? e = some i) (hz : i.zero = some z)
    (hsize : i.size = size) (hby : i.bytes = bytes) (hzs : z.cells.size = size) (hsz : 0 < size)
    (v : Value) (n : Nat) (xs : List Value) (hs : a.eval s = v) (hown : w.ownsRow base e size v n xs)
    (B : Nat) (A : Option Addr) (m c : Nat) (news : List Value) (hx : a.eval x = .slice A m c) (hr : Reads w B size A m news) (h1 : ∀ u ∈ news, u.oneCell' = true)
    (h63 : n + m ≤ maxLen) (hbytes : (n + m) * bytes ≤ 140737488355328) (hbase : base ≤ w.heap.size)
    (h : ∀ v' w', w'.ownsRow base e size v' (n + m) (xs ++ news) → w.grownBy w' v.ownBlock → (v'.ownBlock = v.ownBlock ∨ v'.ownBlock = some w.heap.size) → K (a.put o.dst v') w') : o.wp P a w K Q := by
  obtain ⟨v', w', hrun, h2, h3, h4⟩ := run_append_any (P := P) w base t o.type e i z size bytes ht hi hz hsize hby hzs hsz v n xs hown B A m c news hr h1 h63 hbytes hbase
  unfold Oper.wp execOp
  simp only [ho, resolve, invoke, builtin, Sem.run_bind, Sem.run_pure, Result.andThen_ok, List.map_toArray, List.map_cons, List.map_nil, hs, hx, hrun]
  exact h v' w' h2 h3 h4

theorem wpList_append_any {ops : Array Oper} {rest : List Oper} {o : Oper} {a : Act} {Q : Exit → Act → World → Prop} (hgd : o.guard = none) (s x : Operand) (t : TypeId)
    (ho : o.op = .call { callee := .builtin .append, args := #[s, x], argTypes := #[t, t] })
    (base : Nat) (e : TypeId) (i : TypeInfo) (z : Value) (size bytes : Nat) (ht : P.underlying t = some (.slice e)) (hi : P.info? e = some i) (hz : i.zero = some z)
    (hsize : i.size = size) (hby : i.bytes = bytes) (hzs : z.cells.size = size) (hsz : 0 < size)
    (v : Value) (n : Nat) (xs : List Value) (hs : a.eval s = v) (hown : w.ownsRow base e size v n xs)
    (B : Nat) (A : Option Addr) (m c : Nat) (news : List Value) (hx : a.eval x = .slice A m c) (hr : Reads w B size A m news) (h1 : ∀ u ∈ news, u.oneCell' = true)
    (h63 : n + m ≤ maxLen) (hbytes : (n + m) * bytes ≤ 140737488355328) (hbase : base ≤ w.heap.size)
    (h : ∀ v' w', w'.ownsRow base e size v' (n + m) (xs ++ news) → w.grownBy w' v.ownBlock → (v'.ownBlock = v.ownBlock ∨ v'.ownBlock = some w.heap.size) → wpList P ops Q rest (a.put o.dst v') w') : wpList P ops Q (o :: rest) a w :=
  wpList_plain hgd fun _ hK => wp_append_any w s x t ho base e i z size bytes ht hi hz hsize hby hzs hsz v n xs hs hown B A m c news hx hr h1 h63 hbytes hbase fun v' w' h2 h3 h4 => hK _ _ (h v' w' h2 h3 h4)

theorem step_append_any {ops : Array Oper} {o : Oper} {a : Act} {K : Act → World → Prop} {Q : Exit → Act → World → Prop} {E : Prop} (hgd : o.guard = none) (s x : Operand) (t : TypeId)
    (ho : o.op = .call { callee := .builtin .append, args := #[s, x], argTypes := #[t, t] })
    (base : Nat) (e : TypeId) (i : TypeInfo) (z : Value) (size bytes : Nat) (ht : P.underlying t = some (.slice e)) (hi : P.info? e = some i) (hz : i.zero = some z)
    (hsize : i.size = size) (hby : i.bytes = bytes) (hzs : z.cells.size = size) (hsz : 0 < size)
    (v : Value) (n : Nat) (xs : List Value) (hs : a.eval s = v) (hown : w.ownsRow base e size v n xs)
    (B : Nat) (A : Option Addr) (m c : Nat) (news : List Value) (hx : a.eval x = .slice A m c) (hr : Reads w B size A m news) (h1 : ∀ u ∈ news, u.oneCell' = true)
    (h63 : n + m ≤ maxLen) (hbytes : (n + m) * bytes ≤ 140737488355328) (hbase : base ≤ w.heap.size)
    (h : ∀ v' w', w'.ownsRow base e size v' (n + m) (xs ++ news) → w.grownBy w' v.ownBlock → (v'.ownBlock = v.ownBlock ∨ v'.ownBlock = some w.heap.size) → K (a.put o.dst v') w') :
    if Region.wanted o (yielded ops a.tmps) = true then Oper.wp P o a w K Q else E := by
  have hw : Region.wanted o (yielded ops a.tmps) = true := by simp [Region.wanted, hgd]
  rw [if_pos hw]
  exact wp_append_any w s x t ho base e i z size bytes ht hi hz hsize hby hzs hsz v n xs hs hown B A m c news hx hr h1 h63 hbytes hbase h
end

theorem Reads.int_at {w : World} {B n : Nat} {A : Option Addr} {kd : IntKind} {xs : List Int} {k : Nat} (h : Reads w B 1 A n (xs.map (Value.int kd))) (hk : k < n) :
    ∃ ad, A = some ad ∧ ad.block < B ∧ w.cell? (ad.add k) = some (.int kd (at0 xs k)) := by
  obtain ⟨ad, u, rfl, hb, hx, hc⟩ := h.at_ hk
  refine ⟨ad, rfl, hb, ?_⟩
  have hl : xs.length = n := by have := h.1; simpa using this
  rw [hc]
  simp [List.getElem?_eq_getElem (show k < xs.length by omega)] at hx
  simp [at0, List.getD, List.getElem?_eq_getElem (show k < xs.length by omega), hx]
theorem Reads.take {w : World} {B n size : Nat} {A : Option Addr} {xs : List Value} (h : Reads w B size A n xs) {k : Nat} (hk : k ≤ n) : Reads w B size A k (xs.take (k * size)) := by
  have hks : k * size ≤ n * size := Nat.mul_le_mul_right _ hk
  refine ⟨by rw [List.length_take, h.1]; omega, fun h0 => ?_⟩
  obtain ⟨ad, rfl, hb, hc⟩ := h.2 (by omega)
  refine ⟨ad, rfl, hb, fun j u hu => hc j u ?_⟩
  rw [List.getElem?_take] at hu
  split at hu
  · exact hu
  · cases hu
theorem Reads.take1 {w : World} {B n : Nat} {A : Option Addr} {kd : IntKind} {xs : List Int} (h : Reads w B 1 A n (xs.map (Value.int kd))) {k : Nat} (hk : k ≤ n) : Reads w B 1 A k ((xs.take k).map (Value.int kd)) := by
  have := h.take hk
  rwa [Nat.mul_one, ← List.map_take] at this
theorem ints_one (kd : IntKind) (xs : List Int) : ∀ u ∈ xs.map (Value.int kd), u.oneCell' = true := by
  intro u hu
  obtain ⟨x, _, rfl⟩ := List.mem_map.1 hu
  rfl
section
variable {P : Program}
theorem own_ge {w : World} {base size n : Nat} {e : TypeId} {v : Value} {xs : List Value} (h : w.ownsRow base e size v n xs) : ∀ k, v.ownBlock = some k → base ≤ k := by
  intro k hk
  rcases h.2 with ⟨rfl, _⟩ | ⟨g, cap, cur, rfl, hg, _⟩
  · simp [Value.ownBlock] at hk
  · simp [Value.ownBlock] at hk; omega
theorem own_below {a w w' : World} {base B size n : Nat} {e : TypeId} {v : Value} {xs : List Value} (h : w.ownsRow base e size v n xs) (hb : Below B a w) (hBb : B ≤ base) (hB : B ≤ a.heap.size) (hg : w.grownBy w' v.ownBlock) : Below B a w' :=
  hb.grown hg (Nat.le_trans hB hb.size) (fun k hk => Nat.le_trans hBb (own_ge h k hk))
theorem own_none (w : World) (base size : Nat) (e : TypeId) : w.ownsRow base e size (.slice none 0 0) 0 [] := ⟨by simp, .inl ⟨rfl, rfl⟩⟩
/-- An append of a source that reads as a list to a row of the call's own; below B nothing turns. -/
theorem wpList_app {ops : Array Oper} {rest : List Oper} {o : Oper} {a : Act} {Q : Exit → Act → World → Prop} {w : World} (hgd : o.guard = none) (s x : Operand) (t : TypeId)
    (ho : o.op = .call { callee := .builtin .append, args := #[s, x], argTypes := #[t, t] })
    (base : Nat) (e : TypeId) (i : TypeInfo) (z : Value) (size bytes : Nat) (ht : P.underlying t = some (.slice e)) (hi : P.info? e = some i) (hz : i.zero = some z)
    (hsize : i.size = size) (hby : i.bytes = bytes) (hzs : z.cells.size = size) (hsz : 0 < size)
    (v : Value) (n : Nat) (xs : List Value) (hs : a.eval s = v) (hown : w.ownsRow base e size v n xs)
    (B : Nat) (A : Option Addr) (m c : Nat) (news : List Value) (hx : a.eval x = .slice A m c) (hr : Reads w B size A m news) (h1 : ∀ u ∈ news, u.oneCell' = true)
    (h63 : n + m ≤ maxLen) (hbytes : (n + m) * bytes ≤ 140737488355328) (w0 : World) (hb : Below base w0 w) (hbase : base ≤ w0.heap.size)
    (h : ∀ v' w', w'.ownsRow base e size v' (n + m) (xs ++ news) → Below base w0 w' → wpList P ops Q rest (a.put o.dst v') w') : wpList P ops Q (o :: rest) a w :=
  wpList_append_any w hgd s x t ho base e i z size bytes ht hi hz hsize hby hzs hsz v n xs hs hown B A m c news hx hr h1 h63 hbytes (Nat.le_trans hbase hb.size)
    fun v' w' h2 hg _ => h v' w' h2 (own_below hown hb (Nat.le_refl _) hbase hg)
/-- What the call owns, as a slice that is read from now on. -/
theorem own_reads {w : World} {base e : Nat} {size n : Nat} {v : Value} {xs : List Value} (h : w.ownsRow base e size v n xs) : ∃ A c, v = .slice A n c ∧ n ≤ c ∧ Reads w w.heap.size size A n xs := by
  rcases h.2 with ⟨rfl, hn⟩ | ⟨g, cap, cur, rfl, hg, hh, hnc, r⟩
  · subst hn
    have hx : xs = [] := List.eq_nil_of_length_eq_zero (by simpa using h.1)
    subst hx
    exact ⟨none, 0, rfl, Nat.le_refl _, Reads.none_⟩
  · exact ⟨_, _, rfl, hnc, Reads.of_own h⟩
end
theorem madeCells_rep (z : Value) (m : Nat) : (madeCells #[z] m).toList = List.replicate m z := by
  refine List.eq_replicate_iff.2 ⟨by simp [madeCells], fun b hb => ?_⟩
  simp [madeCells, Nat.mod_one] at hb
  exact hb.2.symm
theorem own_mono {w : World} {base base' size n : Nat} {e : TypeId} {v : Value} {xs : List Value} (h : w.ownsRow base e size v n xs) (hb : base' ≤ base) : w.ownsRow base' e size v n xs := by
  refine ⟨h.1, ?_⟩
  rcases h.2 with h2 | ⟨g, cap, cur, hv, hg, r⟩
  · exact .inl h2
  · exact .inr ⟨g, cap, cur, hv, Nat.le_trans hb hg, r⟩
theorem outs_set (l : List Int) (k m : Nat) (hk : k < m) (hl : l.length = m) : (l.take k ++ List.replicate (m - k) 0).set k (at0 l k) = l.take (k + 1) ++ List.replicate (m - (k + 1)) 0 := by
  have e : m - k = (m - (k + 1)) + 1 := by omega
  have hlen : (l.take k).length = k := by simp; omega
  rw [e, List.replicate_succ, List.set_append_right _ _ (by omega), hlen, Nat.sub_self, List.set_cons_zero, List.take_succ_eq_append_getElem (by omega), at0_of l k (by omega), List.append_assoc]
  rfl
/-- A string out of bytes. -/
def bytesStr (l : List UInt8) : ByteArray := ⟨l.toArray⟩
def byteNums (l : List UInt8) : List Int := l.map fun c => (c.toNat : Int)
theorem strOfNums_byteNums (l : List UInt8) : strOfNums (byteNums l) = bytesStr l := by
  unfold strOfNums byteNums bytesStr
  congr 2
  rw [List.map_map]
  conv => rhs; rw [← List.map_id l]
  apply List.map_congr_left
  intro c _
  simp
theorem bytesStr_data (l : List UInt8) : (bytesStr l).data.toList = l := rfl
theorem bytesStr_toList (s : ByteArray) : bytesStr s.data.toList = s := by
  show ByteArray.mk s.data.toList.toArray = s
  rw [Array.toArray_toList]
theorem bytesStr_size (l : List UInt8) : (bytesStr l).size = l.length := by simp [bytesStr, ByteArray.size]
theorem bytesStr_append (l m : List UInt8) : bytesStr (l ++ m) = bytesStr l ++ bytesStr m := by
  unfold bytesStr; rw [ByteArray.mk_append_mk]
theorem append_toList (s t : ByteArray) : (s ++ t).data.toList = s.data.toList ++ t.data.toList := by simp
theorem size_eq (s : ByteArray) : s.data.toList.length = s.size := by rw [Array.length_toList]; rfl
theorem run_convert_reads {P : Program} (src dst e : TypeId) (hs : P.underlying src = some (.slice e)) (he : P.underlying e = some (.int .u8)) (hd : P.underlying dst = some .string)
    {w : World} {B n c : Nat} {A : Option Addr} {l : List UInt8} (h : Reads w B 1 A n ((byteNums l).map (Value.int .u8))) :
    (convert src dst (.slice A n c)).run P w = .ok (.string (bytesStr l)) w := by
  have hl : l.length = n := by have := h.1; simpa [byteNums] using this
  rcases A with _ | ad
  · have hn : n = 0 := by
      rcases Nat.eq_zero_or_pos n with h0 | h0
      · exact h0
      · obtain ⟨_, h1, _⟩ := h.2 h0; cases h1
    subst hn
    have hl0 : l = [] := List.eq_nil_of_length_eq_zero hl
    subst hl0
    rw [run_convert_bytes_nil w src e hs he _ c dst hd]
    rfl
  · have hload : (loadCells ad n).run P w = .ok ((byteNums l).map (Value.int .u8)).toArray w := by
      have := run_loadCells_list (P := P) w ad ((byteNums l).map (Value.int .u8)) (fun j v hj => by
        obtain ⟨ad', e1, _, hc⟩ := h.2 (by
          rcases Nat.eq_zero_or_pos n with h0 | h0
          · subst h0
            have hl0 : l = [] := List.eq_nil_of_length_eq_zero hl
            subst hl0
            simp [byteNums] at hj
          · exact h0)
        injection e1 with e1
        subst e1
        exact hc j v hj)
      simpa [byteNums, hl] using this
    rw [run_convert_bytes_string w src dst e _ n c hs he hd, run_bytesToString w _ n c (byteNums l) hload, foldl_push_bytes]
    rw [← strOfNums_byteNums]
    simp [strOfNums, ByteArray.empty, ByteArray.emptyWithCapacity]
    rfl
theorem Reads.lit1 (w : World) (e : TypeId) (v : Value) : Reads (w.alloc (.cells #[v] e)) (w.heap.size + 1) 1 (some ⟨w.heap.size, 0, none⟩) 1 [v] := by
  refine ⟨rfl, fun _ => ⟨_, rfl, by simp, fun j u hj => ?_⟩⟩
  cases j with
  | zero => simp at hj; subst hj; exact (Blk.new w e #[v]).cell 0
  | succ j => simp at hj
theorem below_then {B : Nat} {a b c : World} (h : Below B a b) (hB : B ≤ a.heap.size) (k : Below b.heap.size b c) : Below B a c := h.trans (k.mono (Nat.le_trans hB h.size))
theorem below_on {a b c : World} (h : Below a.heap.size a b) (k : Below b.heap.size b c) : Below a.heap.size a c := below_then h (Nat.le_refl _) k
theorem box_cell {w w1 : World} {cs : Array Value} {t : TypeId} {B : Nat} (hb : Below B (w.alloc (.cells cs t)) w1) (hB : w.heap.size < B) (j : Nat) : w1.cell? ⟨w.heap.size, j, none⟩ = cs[j]? :=
  (hb.cell (p := ⟨w.heap.size, j, none⟩) hB).trans ((Blk.new w t cs).cell j)
theorem own_far {w : World} {base size n : Nat} {e : TypeId} {v : Value} {xs : List Value} (h : w.ownsRow base e size v n xs) {p : Addr} (hne : v.ownBlock ≠ some p.block) (u : Value) : (w.setCell p u).ownsRow base e size v n xs :=
  h.kept (row := some p.block) ⟨rfl, rfl, rfl, by simp [World.setCell], fun k _ hk => Below.heap_setCell _ _ _ _ (fun e => hk (by rw [e]))⟩ (.inr hne)
theorem own_keep {w w' : World} {base B size n : Nat} {e : TypeId} {v : Value} {xs : List Value} (h : w.ownsRow base e size v n xs) (hb : Below B w w') (hB : ∀ k, v.ownBlock = some k → k < B) : w'.ownsRow base e size v n xs := by
  refine ⟨h.1, ?_⟩
  rcases h.2 with h2 | ⟨g, cap, cur, rfl, hg, hh, r⟩
  · exact .inl h2
  · exact .inr ⟨g, cap, cur, rfl, hg, (hb.block g (hB g rfl)).trans hh, r⟩
theorem own_lt {w : World} {base size n : Nat} {e : TypeId} {v : Value} {xs : List Value} (h : w.ownsRow base e size v n xs) : ∀ k, v.ownBlock = some k → k < w.heap.size := fun k hk => (h.lt k hk).2
theorem Reads.lit (w : World) (e : TypeId) (cs : Array Value) (size n : Nat) (hs : cs.size = n * size) : Reads (w.alloc (.cells cs e)) (w.heap.size + 1) size (some ⟨w.heap.size, 0, none⟩) n cs.toList := by
  refine ⟨by simpa using hs, fun _ => ⟨_, rfl, by simp, fun j u hj => ?_⟩⟩
  have := (Blk.new w e cs).cell j
  rw [show (⟨w.heap.size, 0, none⟩ : Addr).add j = ⟨w.heap.size, j, none⟩ by unfold Addr.add; split <;> simp_all]
  rw [this, ← hj]; simp
@[go_sem high] theorem run_min_ints4 {P : Program} (w : World) (ts : Array TypeId) (t : TypeId) (k k2 k3 k4 : IntKind) (x y z u : Int) :
    (Builtin.min_ ts t #[.int k x, .int k2 y, .int k3 z, .int k4 u]).run P w = .ok (.int k (min x (min y (min z u)))) w := by
  rw [show min x (min y (min z u)) = min (min (min x y) z) u by omega]
  have e : ∀ a b : Int, (if b < a then b else a) = min a b := fun a b => by
    rw [Int.min_def]
    split <;> split <;> omega
  simp [Builtin.min_, Builtin.min2, e]
theorem ret_int {k : IntKind} {a b : Int} (h : a = b) : Ending.returned (.int k a) = .returned (.int k b) := by rw [h]
theorem ret_sb {s s' : ByteArray} {b b' : Bool} (h : s = s') (h2 : b = b') : Ending.returned (.tuple #[.string s, .bool b]) = .returned (.tuple #[.string s', .bool b']) := by rw [h, h2]
theorem ret_iib {k k' : IntKind} {a a' b b' : Int} {c c' : Bool} (h : a = a') (h2 : b = b') (h3 : c = c') : Ending.returned (.tuple #[.int k a, .int k' b, .bool c]) = .returned (.tuple #[.int k a', .int k' b', .bool c']) := by rw [h, h2, h3]
theorem ret_ii {k k' : IntKind} {a a' b b' : Int} (h : a = a') (h2 : b = b') : Ending.returned (.tuple #[.int k a, .int k' b]) = .returned (.tuple #[.int k a', .int k' b']) := by rw [h, h2]
theorem ret_bool {a b : Bool} (h : a = b) : Ending.returned (.bool a) = .returned (.bool b) := by rw [h]
theorem hide {p : Prop} (h : p) : Hid p := h
theorem unhide {p : Prop} (h : Hid p) : p := h

theorem quiet_add {P : Program} {f : FuncId} {args : Array Value} {w : World} {a n : Nat} {v : Value}
    (h : Calls P f args (w.drewN (a + n)) fun e w' => e = .returned v ∧ ∃ m, w' = (w.drewN (a + n)).drewN m) :
    Calls P f args (w.drewN (a + n)) fun e w'' => e = .returned v ∧ ∃ m, w'' = w.drewN (a + m) :=
  h.mono fun _ _ ⟨he, m, hm⟩ => ⟨he, n + m, by rw [hm, World.drewN_drewN, Nat.add_assoc]⟩
theorem quiet_add_same {P : Program} {f : FuncId} {args : Array Value} {w : World} {a n : Nat} {v : Value}
    (h : Calls P f args (w.drewN (a + n)) fun e w' => e = .returned v ∧ w' = w.drewN (a + n)) :
    Calls P f args (w.drewN (a + n)) fun e w'' => e = .returned v ∧ ∃ m, w'' = w.drewN (a + m) :=
  h.mono fun _ _ ⟨he, hm⟩ => ⟨he, n, hm⟩
theorem quiet_add_left {P : Program} {f : FuncId} {args : Array Value} {w : World} {a n : Nat} {v : Value}
    (h : Calls P f args (w.drewN (a + n)) fun e w' => e = .returned v ∧ w.drewN (a + n) = w') :
    Calls P f args (w.drewN (a + n)) fun e w'' => e = .returned v ∧ ∃ m, w'' = w.drewN (a + m) :=
  h.mono fun _ _ ⟨he, hm⟩ => ⟨he, n, hm.symm⟩
theorem quiet_left {P : Program} {f : FuncId} {args : Array Value} {w : World} {n : Nat} {v : Value}
    (h : Calls P f args (w.drewN n) fun e w' => e = .returned v ∧ w.drewN n = w') : Calls P f args (w.drewN n) fun e w'' => e = .returned v ∧ ∃ m, w'' = w.drewN m :=
  h.mono fun _ _ ⟨he, hm⟩ => ⟨he, n, hm.symm⟩

theorem results_tmp4 {fn : Func} {t u v x : Tmp} (h : fn.results = #[.tmp t, .tmp u, .tmp v, .tmp x]) (tmps : Array Value) (P : Program) (w : World) :
    (results fn tmps).run P w = .ok (.tuple #[tmps.getD t undef, tmps.getD u undef, tmps.getD v undef, tmps.getD x undef]) w := by simp [results, h]
theorem results_tmp5 {fn : Func} {t u v x y : Tmp} (h : fn.results = #[.tmp t, .tmp u, .tmp v, .tmp x, .tmp y]) (tmps : Array Value) (P : Program) (w : World) :
    (results fn tmps).run P w = .ok (.tuple #[tmps.getD t undef, tmps.getD u undef, tmps.getD v undef, tmps.getD x undef, tmps.getD y undef]) w := by simp [results, h]

theorem below_drewN {B : Nat} {a w : World} (h : Below B a w) (n : Nat) : Below B a (w.drewN n) := ⟨h.os, h.tape, h.output, h.size, h.block⟩
theorem rowIs_drewN {w : World} {b : Nat} {t : TypeId} {n : Nat} {f : Nat → Value} (h : w.rowIs b t n f) (k : Nat) : (w.drewN k).rowIs b t n f := h
theorem grown_trans {a b c : World} (h : Grown a b) (k : Grown b c) : Grown a c :=
  ⟨World.keptBut_trans h.1 k.1, fun x => (k.2.1 x).trans (h.2.1 x), Nat.le_trans h.2.2 k.2.2⟩

theorem only_drewN {a w : World} {row : Option Nat} (h : a.grownBy w row) (n : Nat) : a.grownBy (w.drewN n) row := ⟨h.os, h.tape, h.output, h.size, h.block⟩
theorem only_drew {a w : World} {row : Option Nat} (h : a.grownBy w row) : a.grownBy w.drew row := ⟨h.os, h.tape, h.output, h.size, h.block⟩
theorem only_alloc {a w : World} {row : Option Nat} (h : a.grownBy w row) (o : Obj) : a.grownBy (w.alloc o) row :=
  ⟨h.os, h.tape, h.output, Nat.le_trans h.size (by simp), fun i hi hne => (Below.heap_alloc w o i (Nat.lt_of_lt_of_le hi h.size)).trans (h.block i hi hne)⟩
theorem only_setCell {a w : World} {g : Nat} (h : a.grownBy w (some g)) {p : Addr} (hp : p.block = g ∨ a.heap.size ≤ p.block) (u : Value) : a.grownBy (w.setCell p u) (some g) :=
  ⟨h.os, h.tape, h.output, by simpa [World.setCell] using h.size, fun i hi hne => (Below.heap_setCell w p u i (by
    rintro rfl
    rcases hp with hp | hp
    · exact hne (by rw [hp])
    · omega)).trans (h.block i hi hne)⟩
theorem only_of_below {a w : World} (h : Below a.heap.size a w) (row : Option Nat) : a.grownBy w row := ⟨h.os, h.tape, h.output, h.size, fun i hi _ => h.block i hi⟩

theorem run_make_rowN {P : Program} (t e : TypeId) (i : TypeInfo) (z : Value) (ht : P.underlying t = some (.slice e)) (hi : P.info? e = some i) (hz : i.zero = some z)
    (kl kc : IntKind) (n c : Nat) (hnc : n ≤ c) (hbytes : i.bytes * c ≤ 281474976710656) (h63 : c ≤ 9223372036854775807) (w : World) :
    (Instr.makeSlice t (.int kl (n : Int)) (.int kc (c : Int))).run P w = .ok (.slice (some ⟨w.heap.size, 0, none⟩) n c) (w.alloc (.cells (madeCells z.cells (c * i.size)) e)) := by
  have hb : (i.bytes : Int) * (c : Int) ≤ 281474976710656 := by
    have h : ((i.bytes * c : Nat) : Int) ≤ 281474976710656 := by omega
    rwa [Int.natCast_mul] at h
  have hr := run_make (P := P) w t e i z ht hi hz kl kc n c (by omega) (by omega) hb (by omega)
  simp only [Int.toNat_natCast] at hr
  exact hr
theorem run_makeMap_hint {P : Program} (t k e : TypeId) (kd : IntKind) (n : Int) (ht : P.underlying t = some (.map k e)) (w : World) :
    (Instr.makeMap t (some (.int kd n))).run P w = .ok (.map (some w.heap.size)) (w.alloc (.map #[] 0)) := by
  simp [Instr.makeMap, run_underlying ht]; rfl

section
variable {H : Type} {enc : TypeId × Value → H} {P : Program}
theorem post_of_below {f : Func} {s : ChangeSpec} {apart fresh handsOn again : Bool} {W W' : World} {args : Array Value} {v : Value} {ds gs : List (DataW H)} {before pa pv : List MemPlace}
    (hW : DataW.Whole enc P f.params.toList s.vars apart W args.toList ds gs before)
    (hres : ∀ (b : Nat) (sp : Nat → Bool) (hd : Bool), DataW.TrodAll enc P W' b sp hd f.resultTypes.toList (v.resultList f.resultTypes.size) (s.fn H (ds ++ gs)).results [])
    (hargs : ∀ sp : Nat → Bool, (∀ p ∈ before, sp p.block = true) → DataW.TrodAll enc P W' 0 sp true f.params.toList args.toList (s.fn H (ds ++ gs)).args pa)
    (hvars : ∀ sp : Nat → Bool, (∀ p ∈ before, sp p.block = true) → DataW.TrodVars enc P W' sp s.vars (s.fn H (ds ++ gs)).vars pv)
    (hps : before = pa ++ pv) (hb : Below W.heap.size W W')
    (hok : ∀ (j : Nat) (t : TypeId) (r : Value), f.resultTypes[j]? = some t → (v.resultList f.resultTypes.size)[j]? = some r → Value.okWide P W' .any 0 t r) :
    s.post enc P f apart fresh handsOn again W args v W' := by
  have hlt : ∀ p ∈ before, p.block < W.heap.size := fun p hp => hW.lt p hp
  have hold : ∀ p ∈ before, (fun b => decide (b < W.heap.size)) p.block = true := fun p hp => by simpa using hlt p hp
  refine ⟨ds, gs, before, [], pa, pv, hW, hres _ _ _, hargs _ hold, hvars _ hold, World.keptBut_mono (fun p hp => ⟨hp, ?_⟩) (hb.frame (· ∈ before)), fun _ => ?_⟩
  · rw [hps, List.mem_append] at hp
    exact Or.inr hp
  · obtain ⟨_, _, _, _, _, hz, hn⟩ := hW
    refine ⟨hok, _, _, ([] ++ pa) ++ pv, ⟨[] ++ pa, pv, trodAll_append (hargs _ (fun _ _ => rfl)) (hres _ _ _), hvars _ (fun _ _ => rfl), rfl, ?_, ?_⟩, ?_⟩
    · intro b off hp
      have hin : MemPlace.cell b off ∈ before := by rw [hps]; simpa using hp
      rw [hb.frozen (hlt _ hin)]
      exact hz b off hin
    · intro ha
      have := hn ha
      rw [hps] at this
      simpa using this
    · intro p hp _
      rw [hps]
      simpa using hp
end

section
variable {H : Type} {enc : TypeId × Value → H} {P : Program} {w : World} {base : Nat} {spare : Nat → Bool} {held : Bool}
theorem open_slice_fields {t e : TypeId} {fs : Array Field} {fuel : Nat} {cs : List Value} {x : DataW H × List MemPlace} (ht : P.underlying t = some (.slice e)) (he : P.underlying e = some (.struct fs))
    (hone : oneCellFields P fs = true) (hC : P.cellsOf e = fs.size) (h : DataW.trod enc P w base spare held fuel t cs = some x) :
    (cs = [.slice none 0 0] ∧ x = (.nil, [])) ∨
    ∃ (a : Addr) (len cap m : Nat) (D : Nat → DataW H) (Pl : Nat → List MemPlace), cs = [.slice (some a) len cap] ∧ base ≤ a.block ∧ len ≤ cap ∧ cap ≤ maxLen ∧ m = (if spare a.block then cap else len) ∧
      x = (.slice ((List.range len).map D) ((List.range (m - len)).map fun j => D (len + j)), MemPlace.row a (m * fs.size) ++ (List.range m).flatMap Pl) ∧
      ∀ i, i < m → ∃ (ys : List (DataW H × List MemPlace)) (n : Nat), D i = .agg (ys.map (·.1)) ∧ Pl i = ys.flatMap (·.2) ∧ ys.length = fs.size ∧
        ∀ (j : Nat) (f : Field), fs[j]? = some f → ∃ (v : Value) (y : DataW H × List MemPlace), w.cell? (a.add (i * fs.size + j)) = some v ∧ ys[j]? = some y ∧ DataW.trod enc P w base spare held n f.type [v] = some y := by
  rcases open_slice ht h with h0 | ⟨a, len, cap, m, n, D, Pl, hcs, hb, hl, hm, hmm, hx, hi⟩
  · exact .inl h0
  · refine .inr ⟨a, len, cap, m, D, Pl, hcs, hb, hl, hm, hmm, by rw [hC] at hx; exact hx, fun i him => ?_⟩
    obtain ⟨cs', hc, ht'⟩ := hi i him
    rw [hC] at hc
    obtain ⟨ys, n', hn', hy, hlen, hyl, hf⟩ := DataW.trod_struct he ht'
    obtain ⟨_, hcl, hat⟩ := World.cells?_some hc
    simp only [Prod.mk.injEq] at hy
    refine ⟨ys, n', hy.1, hy.2, hyl, fun j f hj => ?_⟩
    obtain ⟨ho, hk⟩ := hone_of hone j f hj
    have hjl : j < fs.size := (Array.getElem?_eq_some_iff.1 hj).1
    have hcell := hat j hjl
    have hv : cs'[j]? = some (cs'[j]'(by omega)) := List.getElem?_eq_getElem (by omega)
    have h1 := hf j f hj
    rw [ho, hk] at h1
    have hone' : (cs'.drop j).take 1 = [cs'[j]'(by omega)] := by
      rw [List.drop_eq_getElem_cons (by omega)]
      rfl
    rw [hone'] at h1
    have hys : ys[j]? = some (ys[j]'(by omega)) := List.getElem?_eq_getElem (by omega)
    refine ⟨_, _, ?_, hys, h1.trans hys⟩
    rw [← Go.Deep.add_add, hcell, hv]
end

end Go.Proofs.YtbpkffoooieejaaDoor
/- Words for structs and arrays that lie whole in a block: loads, stores, results. No program in sight. -/
namespace Go.Proofs.YtbpkffoooieejaaDoor
open Go.RowKit
section
variable {P : Program}
theorem grown_setCells (g : Nat) : ∀ (vs : List Value) (o : Nat) (w : World), w.grownBy (w.setCells g o vs) (some g)
  | [], o, w => World.grownBy.refl w _
  | v :: r, o, w => by
    have h1 := grown_setCells g r (o + 1) (w.setCell ⟨g, o, none⟩ v)
    exact ⟨h1.os, h1.tape, h1.output, by
      show w.heap.size ≤ ((w.setCell ⟨g, o, none⟩ v).setCells g (o + 1) r).heap.size
      exact Nat.le_trans (by simp [World.setCell]) h1.size, fun k hk hne => (h1.block k (by simpa [World.setCell] using hk) hne).trans (Below.heap_setCell w _ v k (fun e => hne (by rw [e])))⟩
theorem blk_setCells {g : Nat} {t : TypeId} : ∀ (vs : List Value) (o : Nat) (w : World) (cs : Array Value), o + vs.length ≤ cs.size → Blk w g t cs →
    Blk (w.setCells g o vs) g t (cs.toList.take o ++ vs ++ cs.toList.drop (o + vs.length)).toArray
  | [], o, w, cs, _, h => by
    have e : (cs.toList.take o ++ [] ++ cs.toList.drop (o + ([] : List Value).length)).toArray = cs := by simp
    rw [e]; exact h
  | v :: r, o, w, cs, hl, h => by
    have hs : o < cs.size := by simp at hl; omega
    have h1 := blk_setCells r (o + 1) _ _ (by simp at hl ⊢; omega) (h.set_ o v)
    have e : (((cs.setIfInBounds o v).toList.take (o + 1)) ++ r ++ (cs.setIfInBounds o v).toList.drop (o + 1 + r.length)) = (cs.toList.take o ++ (v :: r) ++ cs.toList.drop (o + (v :: r).length)) := by
      rw [Array.toList_setIfInBounds, List.take_set, List.drop_set_of_lt (by omega), List.take_succ_eq_append_getElem (by simpa using hs), List.set_append_right _ _ (by simp; exact Nat.min_le_left _ _)]
      have hlt : (cs.toList.take o).length = o := by simp; omega
      rw [hlt, Nat.sub_self]
      simp [Nat.add_assoc, Nat.add_comm 1 r.length]
    rw [e] at h1
    exact h1
theorem blk_setWhole {g : Nat} {t : TypeId} {w : World} {cs cs' : Array Value} (h : Blk w g t cs) (hs : cs'.size = cs.size) : Blk (w.setCells g 0 cs'.toList) g t cs' := by
  have := blk_setCells cs'.toList 0 w cs (by simp [hs]) h
  simpa [hs, List.drop_of_length_le] using this
theorem there_of_blk {g : Nat} {t : TypeId} {w : World} {cs : Array Value} (h : Blk w g t cs) (n : Nat) (hn : n = cs.size) : w.there g 0 n := fun j hj => by
  refine ⟨?_, h.frozen _⟩
  rw [Nat.zero_add, h.cell j, Array.getElem?_eq_getElem (by omega)]; rfl
theorem below_grown {B g : Nat} {a b c : World} (h : Below B a b) (hB : B ≤ a.heap.size) (k : b.grownBy c (some g)) (hg : B ≤ g) : Below B a c :=
  ⟨k.os.trans h.os, k.tape.trans h.tape, k.output.trans h.output, Nat.le_trans h.size k.size, fun i hi => (k.block i (by have := h.size; omega) (fun e => by cases e; omega)).trans (h.block i hi)⟩
theorem blk_grown {g r : Nat} {t : TypeId} {cs : Array Value} {b c : World} (h : Blk b r t cs) (k : b.grownBy c (some g)) (hne : r ≠ g) : Blk c r t cs :=
  (k.block r h.lt (fun e => hne (by cases e; rfl))).trans h
/-- A whole struct or array is stored into its block. -/
theorem wp_store_blk {op : Oper} {a : Act} {w : World} {K : Act → World → Prop} {Q : Exit → Act → World → Prop} (ty : TypeId) (x y : Operand) (ho : op.op = .store ty x y)
    (g : Nat) (t : TypeId) (cs cs' : Array Value) (hx : a.eval x = .pointer (some ⟨g, 0, none⟩)) (hy : a.eval y = .agg cs') (hb : Blk w g t cs) (hs : cs'.size = cs.size)
    (hi : (P.info? ty).map (·.size) = some cs'.size) (h1 : cs'.all (·.oneCell') = true)
    (h : ∀ w', Blk w' g t cs' → w.grownBy w' (some g) → K (a.put op.dst undef) w') : op.wp P a w K Q :=
  wp_store_mid ty x y ho g 0 cs' hx hy (there_of_blk hb _ hs) hi h1 (h _ (blk_setWhole hb hs) (grown_setCells g _ 0 w))
theorem wpList_store_blk {ops : Array Oper} {rest : List Oper} {op : Oper} {a : Act} {w : World} {Q : Exit → Act → World → Prop} (hgd : op.guard = none) (ty : TypeId) (x y : Operand) (ho : op.op = .store ty x y)
    (g : Nat) (t : TypeId) (cs cs' : Array Value) (hx : a.eval x = .pointer (some ⟨g, 0, none⟩)) (hy : a.eval y = .agg cs') (hb : Blk w g t cs) (hs : cs'.size = cs.size)
    (hi : (P.info? ty).map (·.size) = some cs'.size) (h1 : cs'.all (·.oneCell') = true)
    (h : ∀ w', Blk w' g t cs' → w.grownBy w' (some g) → wpList P ops Q rest (a.put op.dst undef) w') : wpList P ops Q (op :: rest) a w :=
  wpList_plain hgd fun _ hK => wp_store_blk ty x y ho g t cs cs' hx hy hb hs hi h1 fun w' h2 h3 => hK _ _ (h w' h2 h3)
theorem step_store_blk {ops : Array Oper} {op : Oper} {a : Act} {w : World} {K : Act → World → Prop} {Q : Exit → Act → World → Prop} {E : Prop} (hgd : op.guard = none) (ty : TypeId) (x y : Operand) (ho : op.op = .store ty x y)
    (g : Nat) (t : TypeId) (cs cs' : Array Value) (hx : a.eval x = .pointer (some ⟨g, 0, none⟩)) (hy : a.eval y = .agg cs') (hb : Blk w g t cs) (hs : cs'.size = cs.size)
    (hi : (P.info? ty).map (·.size) = some cs'.size) (h1 : cs'.all (·.oneCell') = true)
    (h : ∀ w', Blk w' g t cs' → w.grownBy w' (some g) → K (a.put op.dst undef) w') : if Region.wanted op (yielded ops a.tmps) = true then Oper.wp P op a w K Q else E := by
  rw [if_pos (by simp [Region.wanted, hgd])]
  exact wp_store_blk ty x y ho g t cs cs' hx hy hb hs hi h1 h
theorem step_load_blk {ops : Array Oper} {op : Oper} {a : Act} {w : World} {K : Act → World → Prop} {Q : Exit → Act → World → Prop} {E : Prop} (hgd : op.guard = none) (ty : TypeId) (x : Operand) (ho : op.op = .load ty x)
    (g : Nat) (hx : a.eval x = .pointer (some ⟨g, 0, none⟩)) (t : TypeId) (cs : Array Value) (d : TypeDesc) (hb : Blk w g t cs)
    (hu : P.underlying ty = some d) (hd : (match d with | .struct _ | .array _ _ => true | _ => false) = true) (hi : (P.info? ty).map (·.size) = some cs.size)
    (h : K (a.put op.dst (.agg cs)) w) : if Region.wanted op (yielded ops a.tmps) = true then Oper.wp P op a w K Q else E := by
  rw [if_pos (by simp [Region.wanted, hgd])]
  exact wp_load_row ty x ho g hx t cs (0, 0) d hb hu hd hi h
/-- One cell of a block is stored into. -/
theorem run_storeVar_one (w : World) (b o : Nat) (ty : TypeId) (v : Value) (hvc : v.cells = #[v]) (hv : v.oneCell' = true) (ht : w.there b o 1) (hi : (P.info? ty).map (·.size) = some 1) :
    (storeVar ty ⟨b, o, none⟩ v).run P w = .ok () (w.setCell ⟨b, o, none⟩ v) := by
  have := run_storeCells_cells (P := P) b o [v] 0 w (fun j hj => by simpa using (ht j (by simpa using hj)).1) (fun j hj => by simpa using (ht j (by simpa using hj)).2)
    (fun u hu => by simp at hu; rw [hu]; exact hv)
  cases hq : P.info? ty with
  | none => simp [hq] at hi
  | some i =>
    have hs : 1 = i.size := by simp [hq] at hi; omega
    simp only [Nat.add_zero] at this
    simp [storeVar, sizeOf, typeInfo, hq, hvc, ← hs, this, World.setCells]
theorem wp_store_fld {op : Oper} {a : Act} {w : World} {K : Act → World → Prop} {Q : Exit → Act → World → Prop} (ty : TypeId) (x y : Operand) (ho : op.op = .store ty x y)
    (g i : Nat) (t : TypeId) (cs : Array Value) (v : Value) (hx : a.eval x = .pointer (some ⟨g, i, none⟩)) (hy : a.eval y = v) (hb : Blk w g t cs) (hs : i < cs.size)
    (hi : (P.info? ty).map (·.size) = some 1) (hvc : v.cells = #[v]) (hv : v.oneCell' = true)
    (h : ∀ w', Blk w' g t (cs.setIfInBounds i v) → w.grownBy w' (some g) → K (a.put op.dst undef) w') : op.wp P a w K Q := by
  have ht : w.there g i 1 := fun j hj => by
    obtain rfl : j = 0 := by omega
    refine ⟨?_, hb.frozen _⟩
    rw [Nat.add_zero, hb.cell i, Array.getElem?_eq_getElem hs]; rfl
  have hg : w.grownBy (w.setCell ⟨g, i, none⟩ v) (some g) := grown_setCells g [v] i w
  unfold Oper.wp execOp
  simp only [ho, hx, hy, Instr.storeAt, Instr.sureAddr, Sem.run_bind, Sem.run_pure, Result.andThen_ok, run_storeVar_one w g i ty v hvc hv ht hi]
  exact h _ (hb.set_ i v) hg
theorem wpList_store_fld {ops : Array Oper} {rest : List Oper} {op : Oper} {a : Act} {w : World} {Q : Exit → Act → World → Prop} (hgd : op.guard = none) (ty : TypeId) (x y : Operand) (ho : op.op = .store ty x y)
    (g i : Nat) (t : TypeId) (cs : Array Value) (v : Value) (hx : a.eval x = .pointer (some ⟨g, i, none⟩)) (hy : a.eval y = v) (hb : Blk w g t cs) (hs : i < cs.size)
    (hi : (P.info? ty).map (·.size) = some 1) (hvc : v.cells = #[v]) (hv : v.oneCell' = true)
    (h : ∀ w', Blk w' g t (cs.setIfInBounds i v) → w.grownBy w' (some g) → wpList P ops Q rest (a.put op.dst undef) w') : wpList P ops Q (op :: rest) a w :=
  wpList_plain hgd fun _ hK => wp_store_fld ty x y ho g i t cs v hx hy hb hs hi hvc hv fun w' h2 h3 => hK _ _ (h w' h2 h3)
/-- Under an S that gives a whole block its load may be taken first. -/
theorem yieldsIf_load_blk {ops : Array Oper} {S : World → Prop} {op : Oper} {a : Act} (hw : Region.wanted op (yielded ops a.tmps) = true) (ty : TypeId) (x : Operand) (ho : op.op = .load ty x)
    (g : Nat) (hx : a.eval x = .pointer (some ⟨g, 0, none⟩)) (t : TypeId) (cs : Array Value) (d : TypeDesc) (hS : ∀ w, S w → Blk w g t cs)
    (hu : P.underlying ty = some d) (hd : (match d with | .struct _ | .array _ _ => true | _ => false) = true) (hi : (P.info? ty).map (·.size) = some cs.size) : YieldsIf P ops S op (.agg cs) a :=
  .inl ⟨hw, fun w hw' => by
    unfold execOp
    simp only [ho, hx, Instr.loadAt, Instr.sureAddr, Sem.run_bind, Sem.run_pure, Result.andThen_ok, run_loadVar_row w g t ty cs (0, 0) d (hS w hw') hu hd hi]⟩
theorem yieldsIf_build {ops : Array Oper} {S : World → Prop} {op : Oper} {a : Act} (hw : Region.wanted op (yielded ops a.tmps) = true) (t : TypeId) (parts : Array (Nat × Operand)) (ho : op.op = .build t parts)
    (vals : List (Nat × Value)) (hv : parts.toList.map (fun p => (p.1, a.eval p.2)) = vals) (cells : Array Value) (hc' : P.built t vals = some cells) : YieldsIf P ops S op (.agg cells) a :=
  .inl ⟨hw, fun w _ => by
    have hc : P.built t (parts.map fun (i, x) => (i, a.eval x)).toList = some cells := by rw [Array.toList_map]; exact (congrArg (P.built t) hv).trans hc'
    unfold execOp
    simp only [ho, Sem.run_bind, run_build w t _ cells hc, Result.andThen_ok]
    rfl⟩
theorem yieldsIf_move {ops : Array Oper} {S : World → Prop} {op : Oper} {a : Act} (hw : Region.wanted op (yielded ops a.tmps) = true) (x : Operand) (ho : op.op = .move x) (v : Value) (hx : a.eval x = v) : YieldsIf P ops S op v a :=
  .inl ⟨hw, fun w _ => by
    unfold execOp
    simp only [ho, hx]
    rfl⟩
/-- A function's results that lie in blocks. -/
theorem res_row {w : World} {ty : TypeId} {g : Nat} {t : TypeId} {cs : Array Value} {d : TypeDesc} (hb : Blk w g t cs) (hu : P.underlying ty = some d) (hd : (match d with | .struct _ | .array _ _ => true | _ => false) = true) (hi : (P.info? ty).map (·.size) = some cs.size) :
    (loadVar ty ⟨g, 0, none⟩).run P w = .ok (.agg cs) w := run_loadVar_row w g t ty cs (0, 0) d hb hu hd hi
theorem results_rows2 {fn : Func} {p q : Tmp} {ty ty2 : TypeId} (h : fn.results = #[.cell p ty, .cell q ty2]) (tmps : Array Value) (w : World) (g g2 : Nat) (t t2 : TypeId) (cs cs2 : Array Value) (d d2 : TypeDesc)
    (hp : tmps.getD p undef = .pointer (some ⟨g, 0, none⟩)) (hq : tmps.getD q undef = .pointer (some ⟨g2, 0, none⟩)) (hb : Blk w g t cs) (hb2 : Blk w g2 t2 cs2)
    (hu : P.underlying ty = some d) (hd : (match d with | .struct _ | .array _ _ => true | _ => false) = true) (hi : (P.info? ty).map (·.size) = some cs.size)
    (hu2 : P.underlying ty2 = some d2) (hd2 : (match d2 with | .struct _ | .array _ _ => true | _ => false) = true) (hi2 : (P.info? ty2).map (·.size) = some cs2.size) :
    (results fn tmps).run P w = .ok (.tuple #[.agg cs, .agg cs2]) w := by
  have hp' : tmps[p]?.getD undef = .pointer (some ⟨g, 0, none⟩) := by simpa using hp
  have hq' : tmps[q]?.getD undef = .pointer (some ⟨g2, 0, none⟩) := by simpa using hq
  simp [results, h, hp', hq', asAddr, res_row hb hu hd hi, res_row hb2 hu2 hd2 hi2]
theorem results_rows3 {fn : Func} {p q r : Tmp} {ty : TypeId} (h : fn.results = #[.cell p ty, .cell q ty, .cell r ty]) (tmps : Array Value) (w : World) (g g2 g3 : Nat) (t t2 t3 : TypeId) (cs cs2 cs3 : Array Value) (d : TypeDesc)
    (hp : tmps.getD p undef = .pointer (some ⟨g, 0, none⟩)) (hq : tmps.getD q undef = .pointer (some ⟨g2, 0, none⟩)) (hr : tmps.getD r undef = .pointer (some ⟨g3, 0, none⟩)) (hb : Blk w g t cs) (hb2 : Blk w g2 t2 cs2) (hb3 : Blk w g3 t3 cs3)
    (hu : P.underlying ty = some d) (hd : (match d with | .struct _ | .array _ _ => true | _ => false) = true) (hi : (P.info? ty).map (·.size) = some cs.size) (hi2 : (P.info? ty).map (·.size) = some cs2.size) (hi3 : (P.info? ty).map (·.size) = some cs3.size) :
    (results fn tmps).run P w = .ok (.tuple #[.agg cs, .agg cs2, .agg cs3]) w := by
  have hp' : tmps[p]?.getD undef = .pointer (some ⟨g, 0, none⟩) := by simpa using hp
  have hq' : tmps[q]?.getD undef = .pointer (some ⟨g2, 0, none⟩) := by simpa using hq
  have hr' : tmps[r]?.getD undef = .pointer (some ⟨g3, 0, none⟩) := by simpa using hr
  simp [results, h, hp', hq', hr', asAddr, res_row hb hu hd hi, res_row hb2 hu hd hi2, res_row hb3 hu hd hi3]
end
end Go.Proofs.YtbpkffoooieejaaDoor
/- More words for memory: what lies in a block of the call's own, whole; copying into it. No program in sight. -/
namespace Go.Proofs.YtbpkffoooieejaaDoor
open Go.RowKit
/-- A block known whole is a row of the call's own. -/
theorem own_of_blk {w : World} {base g n size : Nat} {e : TypeId} {cs : Array Value} (h : Blk w g e cs) (hb : base ≤ g) (hc : n ≤ maxLen) (hs : cs.size = n * size) : w.ownsRow base e size (.slice (some ⟨g, 0, none⟩) n n) n cs.toList :=
  ⟨by simpa using hs, .inr ⟨g, n, cs, rfl, hb, h, Nat.le_refl _, hc, hs, List.take_of_length_le (by simp [hs])⟩⟩
/-- The cells of a list of integers. -/
def intsA (xs : List Int) : Array Value := (xs.map (Value.int .i64)).toArray
theorem intsA_size (xs : List Int) : (intsA xs).size = xs.length := by simp [intsA]
theorem intsA_list (xs : List Int) : (intsA xs).toList = xs.map (Value.int .i64) := by simp [intsA]
theorem intsA_at (xs : List Int) (k : Nat) (h : k < xs.length) : (intsA xs)[k]? = some (.int .i64 (at0 xs k)) := by
  simp [intsA, List.getElem?_eq_getElem h, at0]
theorem intsA_set (xs : List Int) (k : Nat) (x : Int) : (intsA xs).setIfInBounds k (.int .i64 x) = intsA (xs.set k x) := by
  apply Array.ext'
  simp [intsA, List.map_set]
theorem made_ints (m : Nat) : madeCells #[.int .i64 0] m = intsA (List.replicate m 0) := by
  apply Array.ext'
  rw [intsA_list, madeCells_rep, List.map_replicate]
theorem splice_ints (xs ys : List Int) (k : Nat) : (splice (xs.map (Value.int .i64)) k (ys.map (Value.int .i64))).toArray = intsA (xs.take k ++ ys ++ xs.drop (k + ys.length)) := by
  simp [splice, intsA, List.map_take, List.map_drop]
/-- A copy into a block of the call's own, as its run says it: for a region that draws its order. -/
theorem copy_run {P : Program} (w : World) (T ty elem : TypeId) (hu : P.underlying T = some (.slice elem)) (hsz : (P.info? elem).map (·.size) = some 1) (g off dLen dCap : Nat) (ad : Addr) (sLen sCap : Nat) (t : TypeId) (cur cs : List Value)
    (hg : Blk w g t cur.toArray) (hn : cs.length = Nat.min sLen dLen) (hsrc : ∀ j v, cs[j]? = some v → w.cell? (ad.add j) = some v) (hfit : off + cs.length ≤ cur.length) (h1 : ∀ v ∈ cs, v.oneCell' = true) :
    ∃ w', (Builtin.copy_ #[T, T] ty #[.slice (some ⟨g, off, none⟩) dLen dCap, .slice (some ad) sLen sCap]).run P w = .ok (.int .i64 (cs.length : Nat)) w' ∧ Blk w' g t (splice cur off cs).toArray ∧ ∀ B w0, Below B w0 w → B ≤ g → Below B w0 w' := by
  by_cases h0 : cs.length = 0
  · obtain rfl : cs = [] := List.eq_nil_of_length_eq_zero h0
    have hrun := run_copy_none (P := P) w T T ty elem (some ⟨g, off, none⟩) (some ad) dLen dCap sLen sCap hu hsz (by simpa using hn.symm)
    exact ⟨w, hrun, by simpa [splice] using hg, fun _ _ h _ => h⟩
  · have hrun := run_copy_row (P := P) w T T ty elem g off dLen dCap ad sLen sCap cur.toArray t cs hu hsz hg hn hsrc (by simpa using hfit) h1
    exact ⟨_, hrun, by unfold Blk; simpa [splice] using setRow_heap w g _ _ t _ hg, fun B w0 hb hB => below_setRow hb hB _⟩
/-- The same, of a source that reads as a list, all of it. -/
theorem copy_reads {P : Program} (w : World) (T ty elem : TypeId) (hu : P.underlying T = some (.slice elem)) (hsz : (P.info? elem).map (·.size) = some 1) (g off m dCap : Nat) (A : Option Addr) (sCap B : Nat) (t : TypeId) (cur cs : List Value)
    (hg : Blk w g t cur.toArray) (hr : Reads w B 1 A m cs) (hfit : off + m ≤ cur.length) (h1 : ∀ v ∈ cs, v.oneCell' = true) :
    ∃ w', (Builtin.copy_ #[T, T] ty #[.slice (some ⟨g, off, none⟩) m dCap, .slice A m sCap]).run P w = .ok (.int .i64 (m : Nat)) w' ∧ Blk w' g t (splice cur off cs).toArray ∧ ∀ B w0, Below B w0 w → B ≤ g → Below B w0 w' := by
  have hl : cs.length = m := by have := hr.1; simpa using this
  rcases Nat.eq_zero_or_pos m with h0 | h0
  · subst h0
    obtain rfl : cs = [] := List.eq_nil_of_length_eq_zero hl
    have hrun := run_copy_none (P := P) w T T ty elem (some ⟨g, off, none⟩) A 0 dCap 0 sCap hu hsz rfl
    exact ⟨w, hrun, by simpa [splice] using hg, fun _ _ h _ => h⟩
  · obtain ⟨ad, rfl, _, hc⟩ := hr.2 h0
    obtain ⟨w', h2, h3, h4⟩ := copy_run (P := P) w T ty elem hu hsz g off m dCap ad m sCap t cur cs hg (by rw [hl]; exact (Nat.min_self m).symm) hc (by omega) h1
    exact ⟨w', by rw [h2, hl], h3, h4⟩
/-- A block known whole reads as one element. -/
theorem reads_blk {w : World} {g : Nat} {e : TypeId} {cs : Array Value} (hb : Blk w g e cs) (size : Nat) (hcs : cs.size = size) : Reads w (g + 1) size (some ⟨g, 0, none⟩) 1 cs.toList := by
  refine ⟨by simp [hcs], fun _ => ⟨_, rfl, by simp, fun j u hj => ?_⟩⟩
  rw [show (⟨g, 0, none⟩ : Addr).add j = ⟨g, j, none⟩ by unfold Addr.add; split <;> simp_all]
  rw [hb.cell j, ← hj]; simp
/-- One element, which lies in a block of its own, is appended to a row of the call's own. -/
theorem wpList_app1 {P : Program} {w : World} {ops : Array Oper} {rest : List Oper} {o : Oper} {a : Act} {Q : Exit → Act → World → Prop} (hgd : o.guard = none) (s x : Operand) (t : TypeId)
    (ho : o.op = .call { callee := .builtin .append, args := #[s, x], argTypes := #[t, t] }) (base : Nat) (e : TypeId) (z : Value) (size bytes : Nat) (ht : P.underlying t = some (.slice e))
    (hinfo : (P.info? e).map (fun i => (i.zero, i.size, i.bytes)) = some (some z, size, bytes)) (hzs : z.cells.size = size) (hsz : 0 < size)
    (v : Value) (n : Nat) (xs : List Value) (hs : a.eval s = v) (hown : w.ownsRow base e size v n xs) (g c : Nat) (cs : Array Value) (hb : Blk w g e cs) (hcs : cs.size = size) (hx : a.eval x = .slice (some ⟨g, 0, none⟩) 1 c)
    (h1 : cs.toList.all (·.oneCell') = true) (hn : n ≤ 1000000) (hby : bytes ≤ 1000) (hbase : base ≤ w.heap.size)
    (h : ∀ v' w', w'.ownsRow base e size v' (n + 1) (xs ++ cs.toList) → w.grownBy w' v.ownBlock → wpList P ops Q rest (a.put o.dst v') w') : wpList P ops Q (o :: rest) a w := by
  obtain ⟨i, hi, hz, hsize, hbytes⟩ := info_parts hinfo
  refine wpList_append_any w hgd s x t ho base e i z size bytes ht hi hz hsize hbytes hzs hsz v n xs hs hown (g + 1) (some ⟨g, 0, none⟩) 1 c cs.toList hx (reads_blk hb size hcs) (List.all_eq_true.1 h1) (by simp only [maxLen]; omega) ?_ hbase fun v' w' h2 h3 _ => h v' w' h2 h3
  have := Nat.mul_le_mul (show n + 1 ≤ 1000001 by omega) hby
  omega
/-- A record is stored into the midst of a block. -/
theorem wp_store_rec {P : Program} {op : Oper} {a : Act} {w : World} {K : Act → World → Prop} {Q : Exit → Act → World → Prop} (ty : TypeId) (x y : Operand) (ho : op.op = .store ty x y)
    (g i : Nat) (t : TypeId) (cs : List Value) (vs : Array Value) (hx : a.eval x = .pointer (some ⟨g, i, none⟩)) (hy : a.eval y = .agg vs) (hb : Blk w g t cs.toArray) (hs : i + vs.size ≤ cs.length)
    (hi : (P.info? ty).map (·.size) = some vs.size) (h1 : vs.toList.all (·.oneCell') = true)
    (h : ∀ w', Blk w' g t (cs.take i ++ vs.toList ++ cs.drop (i + vs.toList.length)).toArray → w.grownBy w' (some g) → K (a.put op.dst undef) w') : op.wp P a w K Q := by
  have ht : w.there g i vs.size := fun j hj => by
    refine ⟨?_, hb.frozen _⟩
    rw [hb.cell, List.getElem?_toArray, List.getElem?_eq_getElem (by omega)]; rfl
  have hb2 := blk_setCells vs.toList i w cs.toArray (by simpa using hs) hb
  exact wp_store_mid ty x y ho g i vs hx hy ht hi (by rw [← Array.all_toList]; exact h1) (h _ (by simpa using hb2) (grown_setCells g _ i w))
theorem step_store_rec {P : Program} {ops : Array Oper} {op : Oper} {a : Act} {w : World} {K : Act → World → Prop} {Q : Exit → Act → World → Prop} {E : Prop} (hgd : op.guard = none) (ty : TypeId) (x y : Operand) (ho : op.op = .store ty x y)
    (g i : Nat) (t : TypeId) (cs : List Value) (vs : Array Value) (hx : a.eval x = .pointer (some ⟨g, i, none⟩)) (hy : a.eval y = .agg vs) (hb : Blk w g t cs.toArray) (hs : i + vs.size ≤ cs.length)
    (hi : (P.info? ty).map (·.size) = some vs.size) (h1 : vs.toList.all (·.oneCell') = true)
    (h : ∀ w', Blk w' g t (cs.take i ++ vs.toList ++ cs.drop (i + vs.toList.length)).toArray → w.grownBy w' (some g) → K (a.put op.dst undef) w') : if Region.wanted op (yielded ops a.tmps) = true then Oper.wp P op a w K Q else E := by
  rw [if_pos (by simp [Region.wanted, hgd])]
  exact wp_store_rec ty x y ho g i t cs vs hx hy hb hs hi h1 h
theorem step_store_fld {P : Program} {ops : Array Oper} {op : Oper} {a : Act} {w : World} {K : Act → World → Prop} {Q : Exit → Act → World → Prop} {E : Prop} (hgd : op.guard = none) (ty : TypeId) (x y : Operand) (ho : op.op = .store ty x y)
    (g i : Nat) (t : TypeId) (cs : Array Value) (v : Value) (hx : a.eval x = .pointer (some ⟨g, i, none⟩)) (hy : a.eval y = v) (hb : Blk w g t cs) (hs : i < cs.size)
    (hi : (P.info? ty).map (·.size) = some 1) (hvc : v.cells = #[v]) (hv : v.oneCell' = true)
    (h : ∀ w', Blk w' g t (cs.setIfInBounds i v) → w.grownBy w' (some g) → K (a.put op.dst undef) w') : if Region.wanted op (yielded ops a.tmps) = true then Oper.wp P op a w K Q else E := by
  rw [if_pos (by simp [Region.wanted, hgd])]
  exact wp_store_fld ty x y ho g i t cs v hx hy hb hs hi hvc hv h
theorem setCells9 (w : World) (g o : Nat) (v0 v1 v2 v3 v4 v5 v6 v7 v8 : Value) :
    ((((((((w.setCell ⟨g, o, none⟩ v0).setCell ⟨g, o + 1, none⟩ v1).setCell ⟨g, o + 2, none⟩ v2).setCell ⟨g, o + 3, none⟩ v3).setCell ⟨g, o + 4, none⟩ v4).setCell ⟨g, o + 5, none⟩ v5).setCell ⟨g, o + 6, none⟩ v6).setCell ⟨g, o + 7, none⟩ v7).setCell ⟨g, o + 8, none⟩ v8 =
      w.setCells g o [v0, v1, v2, v3, v4, v5, v6, v7, v8] := rfl
end Go.Proofs.YtbpkffoooieejaaDoor
/- Opening a law's arguments: what the walk is told of them. No program in sight. -/
namespace Go.Proofs.YtbpkffoooieejaaDoor
open Go.RowKit Go.ChangeShapes Go.WideShapes Go.Deep Go.ChangeAt
section
variable {H : Type} {enc : TypeId × Value → H} {P : Program} {w : World} {base : Nat} {spare : Nat → Bool} {held : Bool}
theorem cell_lt {w : World} {p : Addr} {v : Value} (h : w.cell? p = some v) : p.block < w.heap.size := by
  unfold World.cell? at h
  rcases Nat.lt_or_ge p.block w.heap.size with hlt | hge
  · exact hlt
  · rw [Array.getElem?_eq_none hge] at h; cases h
/-- A slice of integers that came in reads as a list. -/
theorem open_ints_reads {r : Reach} {b0 : Nat} {t e : TypeId} {k : IntKind} {v : Value} {d : DataW H} {ps : List MemPlace} (ht : P.underlying t = some (.slice e)) (he : P.underlying e = some (.int k)) (hc : P.cellsOf e = 1)
    (hval : Value.okWide P w r b0 t v) (hd : DataW.Trod enc P w base spare held t v d ps) :
    ∃ (A : Option Addr) (n c : Nat) (xs : List Int), v = .slice A n c ∧ n ≤ c ∧ c ≤ maxLen ∧ Reads w w.heap.size 1 A n (xs.map (.int k)) ∧ ∀ x ∈ xs, (Lit.int k x).wf = true := by
  obtain ⟨A, n, c, rfl⟩ := okWide_slice ht hval
  obtain ⟨fuel, hf⟩ := hd
  rcases open_ints ht he hc hf with ⟨hcs, _⟩ | ⟨x, l, c', zs, hcs, _, hl, hm, hz, _, hcell, hwz⟩
  · simp [Value.cells] at hcs
    obtain ⟨rfl, rfl, rfl⟩ := hcs
    exact ⟨none, 0, 0, [], rfl, Nat.le_refl _, Nat.zero_le _, by simpa using Reads.none_, by simp⟩
  · simp [Value.cells] at hcs
    obtain ⟨rfl, rfl, rfl⟩ := hcs
    have hzl : n ≤ zs.length := by rw [hz]; split <;> omega
    refine ⟨some x, n, c, zs.take n, rfl, hl, hm, ⟨by simp; omega, fun hn => ⟨x, rfl, ?_, fun j u hj => ?_⟩⟩, fun y hy => hwz y (List.mem_of_mem_take hy)⟩
    · have := hcell 0 (by omega)
      have h2 := cell_lt this
      rwa [block_of_add] at h2
    · rw [List.getElem?_map, List.getElem?_take] at hj
      split at hj
      · rename_i hjn
        rw [hcell j (by omega), ← hj]
        simp [List.getD, List.getElem?_eq_getElem (show j < zs.length by omega)]
      · cases hj
theorem wf_i64 {x : Int} (h : (Lit.int .i64 x).wf = true) : -9223372036854775808 ≤ x ∧ x ≤ 9223372036854775807 := by
  simp [Lit.wf, IntKind.min, IntKind.max, IntKind.signed, IntKind.bits] at h
  omega
/-- A slice of records of integers: the cell of field j of record k. -/
def Recs (w : World) (B size : Nat) (A : Option Addr) (n : Nat) (R : Nat → Nat → Int) : Prop :=
  ∀ k, k < n → ∃ g off, A = some ⟨g, off, none⟩ ∧ g < B ∧ ∀ j, j < size → w.cell? ⟨g, off + k * size + j, none⟩ = some (.int .i64 (R k j))
theorem Recs.below {w w' : World} {B size n : Nat} {A : Option Addr} {R : Nat → Nat → Int} (h : Recs w B size A n R) (hb : Below B w w') : Recs w' B size A n R := by
  intro k hk
  obtain ⟨g, off, hA, hg, hc⟩ := h k hk
  exact ⟨g, off, hA, hg, fun j hj => (hb.cell (p := ⟨g, off + k * size + j, none⟩) hg).trans (hc j hj)⟩
theorem Recs.drewN {w : World} {B size n : Nat} {A : Option Addr} {R : Nat → Nat → Int} (h : Recs w B size A n R) (k : Nat) : Recs (w.drewN k) B size A n R := h
theorem open_recs {r : Reach} {b0 : Nat} {t e : TypeId} {fs : Array Field} {v : Value} {d : DataW H} {ps : List MemPlace} (ht : P.underlying t = some (.slice e)) (he : P.underlying e = some (.struct fs))
    (hone : oneCellFields P fs = true) (hC : P.cellsOf e = fs.size) (hpos : 0 < fs.size) {ti : TypeId} (hU : P.underlying ti = some (.int .i64)) (hty : fs.toList.map (·.type) = List.replicate fs.size ti)
    (hval : Value.okWide P w r b0 t v) (hd : DataW.Trod enc P w base spare held t v d ps) :
    ∃ (A : Option Addr) (n c : Nat) (R : Nat → Nat → Int), v = .slice A n c ∧ n ≤ c ∧ c ≤ maxLen ∧ Recs w w.heap.size fs.size A n R ∧ ∀ k j, -9223372036854775808 ≤ R k j ∧ R k j ≤ 9223372036854775807 := by
  have hint : ∀ (j : Nat) (f : Field), fs[j]? = some f → P.underlying f.type = some (.int .i64) := by
    intro j f hj
    have h1 : (fs.toList.map (·.type))[j]? = some f.type := by rw [List.getElem?_map, Array.getElem?_toList, hj]; rfl
    rw [hty, List.getElem?_replicate] at h1
    split at h1
    · injection h1 with h1; rw [← h1]; exact hU
    · cases h1
  obtain ⟨A, n, c, rfl⟩ := okWide_slice ht hval
  obtain ⟨fuel, hf⟩ := hd
  rcases open_slice_fields ht he hone hC hf with ⟨hcs, _⟩ | ⟨a, l, c', m, D, Pl, hcs, _, hl, hm, hmm, _, hel⟩
  · simp [Value.cells] at hcs
    obtain ⟨rfl, rfl, rfl⟩ := hcs
    exact ⟨none, 0, 0, fun _ _ => 0, rfl, Nat.le_refl _, Nat.zero_le _, fun k hk => by omega, fun _ _ => by dsimp only; omega⟩
  · simp [Value.cells] at hcs
    obtain ⟨rfl, rfl, rfl⟩ := hcs
    have hnm : n ≤ m := by rw [hmm]; split <;> omega
    have hx : ∀ k j, k < n → j < fs.size → ∃ x, w.cell? (a.add (k * fs.size + j)) = some (.int .i64 x) ∧ (Lit.int .i64 x).wf = true := by
      intro k j hk hj
      obtain ⟨ys, n', _, _, _, hfd⟩ := hel k (by omega)
      obtain ⟨v, y, hc, _, hy⟩ := hfd j fs[j] (Array.getElem?_eq_getElem hj)
      obtain ⟨x, hv, _, hwf⟩ := DataW.trod_int (hint j fs[j] (Array.getElem?_eq_getElem hj)) hy
      simp at hv
      subst hv
      exact ⟨x, hc, hwf⟩
    refine ⟨some a, n, c, fun k j => if h : k < n ∧ j < fs.size then Classical.choose (hx k j h.1 h.2) else 0, rfl, hl, hm, ?_, ?_⟩
    · intro k hk
      obtain ⟨x, hc, _⟩ := hx k 0 hk (by omega)
      have hlt := cell_lt hc
      rw [block_of_add] at hlt
      obtain ⟨g, off, spot⟩ := a
      have hspot : spot = none := by
        have h1 := hx 0 0 (by omega) (by omega)
        obtain ⟨x1, hc1, _⟩ := h1
        simp [Addr.add] at hc1
        simpa using World.cell?_spot hc1
      subst hspot
      refine ⟨g, off, rfl, hlt, fun j hj => ?_⟩
      have hadd : ∀ i, (⟨g, off, none⟩ : Addr).add i = ⟨g, off + i, none⟩ := fun i => by unfold Addr.add; split <;> simp_all
      have h2 := Classical.choose_spec (hx k j hk hj)
      simp only [dif_pos (show k < n ∧ j < fs.size from ⟨hk, hj⟩)]
      rw [Nat.add_assoc, ← hadd]
      exact h2.1
    · intro k j
      by_cases h : k < n ∧ j < fs.size
      · simp only [dif_pos h]
        exact wf_i64 (Classical.choose_spec (hx k j h.1 h.2)).2
      · simp only [dif_neg h]; omega
end
end Go.Proofs.YtbpkffoooieejaaDoor
/- Boxes that came in: how they lie in memory. No program in sight. -/
namespace Go.Proofs.YtbpkffoooieejaaDoor
open Go.RowKit
structure Bo where
  kind : Int
  node : Int
  par : Int
  kids : List Int
  text : ByteArray
def bo0 : Bo := ⟨0, 0, 0, [], ByteArray.empty⟩
def boAt (l : List Bo) (k : Nat) : Bo := l.getD k bo0
theorem boAt_of (l : List Bo) (k : Nat) (h : k < l.length) : boAt l k = l[k] := by simp [boAt, List.getD, List.getElem?_eq_getElem h]
/-- A box from the place off of block g on; its kids. -/
structure BoxC (w : World) (B g off : Nat) (x : Bo) (Ak : Option Addr) (ck : Nat) : Prop where
  c0 : w.cell? ⟨g, off, none⟩ = some (.int .i64 x.kind)
  c1 : w.cell? ⟨g, off + 1, none⟩ = some (.int .i64 x.node)
  c2 : w.cell? ⟨g, off + 2, none⟩ = some (.int .i64 x.par)
  c3 : w.cell? ⟨g, off + 3, none⟩ = some (.slice Ak x.kids.length ck)
  c4 : w.cell? ⟨g, off + 4, none⟩ = some (.string x.text)
  kids : Reads w B 1 Ak x.kids.length (x.kids.map (Value.int .i64))
theorem BoxC.below {w w' : World} {B g off : Nat} {x : Bo} {Ak : Option Addr} {ck : Nat} (h : BoxC w B g off x Ak ck) (hb : Below B w w') (hg : g < B) : BoxC w' B g off x Ak ck :=
  ⟨(hb.cell (p := ⟨g, off, none⟩) hg).trans h.c0, (hb.cell (p := ⟨g, off + 1, none⟩) hg).trans h.c1, (hb.cell (p := ⟨g, off + 2, none⟩) hg).trans h.c2, (hb.cell (p := ⟨g, off + 3, none⟩) hg).trans h.c3, (hb.cell (p := ⟨g, off + 4, none⟩) hg).trans h.c4, h.kids.below hb⟩
/-- Boxes that came in. -/
def BoxIn (w : World) (B : Nat) (A : Option Addr) (l : List Bo) : Prop := ∀ k, k < l.length → ∃ g off Ak ck, A = some ⟨g, off, none⟩ ∧ g < B ∧ BoxC w B g (off + k * 5) (boAt l k) Ak ck ∧ (boAt l k).kids.length ≤ maxLen
theorem BoxIn.below {w w' : World} {B : Nat} {A : Option Addr} {l : List Bo} (h : BoxIn w B A l) (hb : Below B w w') : BoxIn w' B A l := fun k hk => by
  obtain ⟨g, off, Ak, ck, h1, h2, h3, h4⟩ := h k hk
  exact ⟨g, off, Ak, ck, h1, h2, h3.below hb h2, h4⟩
/-- What boxes.Check asks. -/
def kidAt (l : List Bo) (i j : Nat) : Int := (boAt l i).kids.getD j 0
def prevKid (l : List Bo) (i : Nat) : Nat → Int
  | 0 => i
  | j + 1 => kidAt l i j
def KidGood (l : List Bo) (i j : Nat) : Prop := prevKid l i j < kidAt l i j ∧ kidAt l i j < l.length ∧ (boAt l (kidAt l i j).toNat).par = i
def HeadGood (l : List Bo) (i : Nat) : Prop := 1 ≤ (boAt l i).kind ∧ (boAt l i).kind ≤ 9 ∧ -1 ≤ (boAt l i).node ∧ (i = 0 → (boAt l i).par = -1)
def BoxGood (l : List Bo) (i : Nat) : Prop := HeadGood l i ∧ ∀ j, j < (boAt l i).kids.length → KidGood l i j
def wsum (l : List Bo) : Nat → Int
  | 0 => 0
  | k + 1 => IntKind.i64.wrap (wsum l k + (boAt l k).kids.length)
def ChkOk (l : List Bo) : Prop := (∀ i, i < l.length → BoxGood l i) ∧ (l.length = 0 ∨ wsum l l.length = (l.length : Int) - 1)
theorem kidAt_nonneg {l : List Bo} {i : Nat} (n : Nat) (hn : n ≤ (boAt l i).kids.length) (h : ∀ j, j < n → KidGood l i j) : 0 ≤ prevKid l i n := by
  cases n with
  | zero => show (0 : Int) ≤ (i : Int); omega
  | succ j =>
    induction j with
    | zero =>
      have := (h 0 (by omega)).1
      show 0 ≤ kidAt l i 0
      have h0 : prevKid l i 0 = i := rfl
      omega
    | succ j ih =>
      have h1 := ih (by omega) fun m hm => h m (by omega)
      have h2 := (h (j + 1) (by omega)).1
      show 0 ≤ kidAt l i (j + 1)
      have h3 : prevKid l i (j + 1) = kidAt l i j := rfl
      have h4 : prevKid l i (j + 1) = kidAt l i j := rfl
      omega
theorem kid_cell {w : World} {B : Nat} {Ak : Option Addr} {xs : List Int} (h : Reads w B 1 Ak xs.length (xs.map (Value.int .i64))) (j : Nat) (hj : j < xs.length) : ∃ a : Addr, Ak = some a ∧ a.block < B ∧ w.cell? (a.add j) = some (.int .i64 (xs.getD j 0)) := by
  obtain ⟨_, h2⟩ := h
  obtain ⟨a, h3, h4, h5⟩ := h2 (by omega)
  refine ⟨a, h3, h4, h5 j _ ?_⟩
  simp [List.getElem?_map, List.getElem?_eq_getElem hj]
theorem kid_form {w : World} {B : Nat} {Ak : Option Addr} {xs : List Int} (h : Reads w B 1 Ak xs.length (xs.map (Value.int .i64))) (h0 : 0 < xs.length) : ∃ g off, Ak = some ⟨g, off, none⟩ ∧ g < B ∧ ∀ j, j < xs.length → w.cell? ⟨g, off + j, none⟩ = some (.int .i64 (xs.getD j 0)) := by
  obtain ⟨a, h1, h2, h3⟩ := kid_cell h 0 h0
  obtain ⟨g, off, spot⟩ := a
  have hspot : spot = none := by
    simp [Addr.add] at h3
    simpa using World.cell?_spot h3
  subst hspot
  refine ⟨g, off, h1, h2, fun j hj => ?_⟩
  obtain ⟨a, h4, _, h5⟩ := kid_cell h j hj
  rw [h1] at h4
  obtain rfl : (⟨g, off, none⟩ : Addr) = a := by injection h4
  have hadd : (⟨g, off, none⟩ : Addr).add j = ⟨g, off + j, none⟩ := by unfold Addr.add; split <;> simp_all
  rw [hadd] at h5
  exact h5
end Go.Proofs.YtbpkffoooieejaaDoor
/- The walk of boxes.Check. -/
namespace Go.Proofs.YtbpkffoooieejaaDoor
open Go.ChangeShapes Go.WideShapes Go.ChangeAt Go.RowKit
theorem wsum_i64 (l : List Bo) (k : Nat) : -9223372036854775808 ≤ wsum l k ∧ wsum l k ≤ 9223372036854775807 := by
  cases k with
  | zero => exact (show (-9223372036854775808 : Int) ≤ 0 ∧ (0 : Int) ≤ 9223372036854775807 by decide)
  | succ k =>
    simp only [wsum, IntKind.wrap, IntKind.bits, IntKind.signed]
    simp
    omega
def ChkPost (l : List Bo) (e : Ending) : Prop := ∃ r, e = .returned (.int .i64 r) ∧ (r = 0 ∨ r = 3) ∧ (r = 0 → ∀ i, i < l.length → BoxGood l i) ∧ (ChkOk l → r = 0)
theorem wrap_eq64 (x : Int) : IntKind.i64.wrap x = wrap64 x := by rw [IntKind.wrap_i64]; unfold wrap64; rfl
theorem chk_bad {l : List Bo} (h : ¬ ChkOk l) : ChkPost l (.returned (.int .i64 3)) := ⟨3, rfl, .inr rfl, fun h => absurd h (by decide), fun h2 => absurd h2 h⟩
theorem chk_good {l : List Bo} (h : ∀ i, i < l.length → BoxGood l i) : ChkPost l (.returned (.int .i64 0)) := ⟨0, rfl, .inl rfl, fun _ => h, fun _ => rfl⟩
set_option maxRecDepth 100000 in
set_option maxHeartbeats 40000000 in
theorem Check_any (l : List Bo) (A : Option Addr) (c : Nat) (w : World) (hI : BoxIn w w.heap.size A l) (hlen : l.length ≤ maxLen) :
    Calls Tryd.prog 13 #[.slice A l.length c] w fun e w' => ChkPost l e ∧ Below w.heap.size w w' := by
  unfold maxLen at hlen
  have HI := hide hI
  clear hI
  go_enter Tryd.func13, Tryd.ntmps13
  have Bi := Below.refl w.heap.size w
  go_wp2_with fail
  go_loopw [3, 11] (fun s i wr => ∃ k : Nat, k ≤ l.length ∧ i = .int .i64 k ∧ s = .int .i64 (wsum l k) ∧ (∀ m, m < k → BoxGood l m) ∧ Below w.heap.size w wr) (fun _ i _ => l.length - (intOf i).toNat)
  case atStart => exact ⟨0, Nat.zero_le _, rfl, rfl, fun m hm => absurd hm (Nat.not_lt_zero _), Bi⟩
  case round =>
    clear Bi
    obtain ⟨k, hk, rfl, rfl, hgood, hbel⟩ := hrel
    have HG := hide hgood
    clear hgood
    by_cases hlt : k < l.length
    · obtain ⟨g, off, Ak, ck, rfl, hg, hbc, hml⟩ := HI.out k hlt
      obtain ⟨d0, d1, d2, d3, d4, _⟩ := hbc.below hbel hg
      have HKD := hide hbc.kids
      have HHD := hide (show HeadGood l k ↔ 1 ≤ (boAt l k).kind ∧ (boAt l k).kind ≤ 9 ∧ -1 ≤ (boAt l k).node ∧ (k = 0 → (boAt l k).par = -1) from Iff.rfl)
      have HBG := hide (show BoxGood l k ↔ HeadGood l k ∧ ∀ j, j < (boAt l k).kids.length → KidGood l k j from Iff.rfl)
      have HKA := hide (fun j => show kidAt l k j = (boAt l k).kids.getD j 0 from rfl)
      have HWS := hide (show wsum l (k + 1) = IntKind.i64.wrap (wsum l k + (boAt l k).kids.length) from rfl)
      have hws := wsum_i64 l k
      clear hbc
      generalize hx : boAt l k = x at *
      obtain ⟨kd, nd, pr, kids, tx⟩ := x
      simp only at d0 d1 d2 d3 d4 hml
      obtain ⟨nk, hnk⟩ : ∃ nk, kids.length = nk := ⟨_, rfl⟩
      rw [hnk] at d3 hml
      have HNK := hide hnk
      clear hnk
      have hbA := hbel.alloc hbel.size (.cells #[.int .i64 kd, .int .i64 nd, .int .i64 pr, .slice Ak nk ck, .string tx] 45)
      unfold maxLen at hml
      by_cases hh : HeadGood l k
      · have hh2 := HHD.out.1 hh
        simp only at hh2
        obtain ⟨f1, f2, f3, f4⟩ := hh2
        have n1 : ¬ kd < 1 := by omega
        have n2 : ¬ 9 < kd := by omega
        have n3 : ¬ nd < -1 := by omega
        by_cases hk0 : k = 0
        · subst hk0
          obtain rfl : pr = -1 := f4 rfl
          simp only [Nat.zero_mul, Nat.add_zero] at d0 d1 d2 d3 d4
          generalize wr = wo at *
          go_wp2_with fail
          go_loopw [6, 42] (fun la i Wd => ∃ j : Nat, j ≤ nk ∧ i = .int .i64 j ∧ la = .int .i64 (prevKid l 0 j) ∧ (∀ m, m < j → KidGood l 0 m) ∧ Below w.heap.size w Wd ∧ Wd.cell? ⟨wo.heap.size, 3, none⟩ = some (.slice Ak nk ck)) (fun _ i _ => nk - (intOf i).toNat)
          case atStart => exact ⟨0, Nat.zero_le _, rfl, rfl, fun m hm => absurd hm (Nat.not_lt_zero _), hbA, (Blk.new wo _ _).cell 3⟩
          case round =>
            clear hbA d0 d1 d2 d3 d4 hbel
            obtain ⟨j, hj, rfl, rfl, hkg, hbi, hbox⟩ := hrel
            have HKG := hide hkg
            clear hkg
            by_cases hjl : j < nk
            · obtain ⟨gk, ok, rfl, hgk, hck⟩ := kid_form HKD.out (by have := HNK.out; show 0 < kids.length; omega)
              have q0 := (hbi.cell (p := ⟨gk, ok + j, none⟩) hgk).trans (hck j (by have := HNK.out; show j < kids.length; omega))
              clear hck
              change wr.cell? ⟨gk, ok + j, none⟩ = some (.int .i64 (kids.getD j 0)) at q0
              have e0 : kids.getD j 0 = kidAt l 0 j := (HKA.out j).symm
              rw [e0] at q0
              have hbadk := fun h : ¬ KidGood l 0 j => (fun hc : ChkOk l => h ((HBG.out.1 (hc.1 0 hlt)).2 j (by have := HNK.out; show j < kids.length; omega)))
              have hpn := kidAt_nonneg (l := l) (i := 0) j (by rw [hx]; have := HNK.out; show j ≤ kids.length; omega) HKG.out
              have HKK := hide (show KidGood l 0 j ↔ prevKid l 0 j < kidAt l 0 j ∧ kidAt l 0 j < l.length ∧ (boAt l (kidAt l 0 j).toNat).par = ((0 : Nat) : Int) from Iff.rfl)
              have HPK := hide (show prevKid l 0 (j + 1) = kidAt l 0 j from rfl)
              generalize kidAt l 0 j = kj at *
              generalize prevKid l 0 j = pj at *
              by_cases t1 : kj ≤ pj
              · have hbad := hbadk fun h => by have := (HKK.out.1 h).1; omega
                go_wp2_with fail
                go_ret
                exact ⟨chk_bad hbad, hbi⟩
              · by_cases t2 : (l.length : Int) ≤ kj
                · have hbad := hbadk fun h => by have := (HKK.out.1 h).2.1; omega
                  go_wp2_with fail
                  go_ret
                  exact ⟨chk_bad hbad, hbi⟩
                · obtain ⟨m, rfl⟩ : ∃ m : Nat, kj = (m : Int) := ⟨kj.toNat, by omega⟩
                  have hml2 : m < l.length := by omega
                  have t3 : ¬ l.length ≤ m := by omega
                  obtain ⟨g2, off2, Ak2, ck2, hA2, hg2, hbc2, _⟩ := HI.out m hml2
                  injection hA2 with hA2
                  injection hA2 with e1 e2 _
                  subst e1 e2
                  have p2 := (hbc2.below hbi hg2).c2
                  have HPA := hide (show (boAt l ((m : Int)).toNat).par = (boAt l m).par from by rw [Int.toNat_natCast])
                  clear hbc2
                  generalize hpm : (boAt l m).par = pm at *
                  by_cases t4 : pm = 0
                  · have hgd : KidGood l 0 j := HKK.out.2 ⟨by omega, by omega, by rw [HPA.out, t4]; rfl⟩
                    have hbeq : (pm != (0 : Int)) = false := by simpa using t4
                    go_wp2_with fail
                    go_roundw
                    case rel => exact ⟨j + 1, by omega, by go_num, by rw [HPK.out], fun q hq => by
                      rcases Nat.lt_or_ge q j with h | h
                      · exact HKG.out q h
                      · obtain rfl : q = j := by omega
                        exact hgd, hbi, hbox⟩
                    case measure => simp only [intOf]; omega
                  · have hbad := hbadk fun h => t4 (by rw [← HPA.out]; exact (HKK.out.1 h).2.2.trans rfl)
                    have hbeq : (pm != (0 : Int)) = true := by simpa using t4
                    go_wp2_with fail
                    go_ret
                    exact ⟨chk_bad hbad, hbi⟩
            · obtain rfl : j = nk := by omega
              have hall : BoxGood l 0 := HBG.out.2 ⟨hh, fun m hm => HKG.out m (by have := HNK.out; change m < kids.length at hm; omega)⟩
              have hw2 : wsum l (0 + 1) = IntKind.i64.wrap (wsum l 0 + (j : Int)) := by rw [HWS.out]; show IntKind.i64.wrap (wsum l 0 + (kids.length : Int)) = _; rw [HNK.out]
              have HW2 := hide hw2
              clear hw2
              go_wp2_with fail
              go_roundw
              case rel => exact ⟨0 + 1, by omega, by go_num, by rw [HW2.out, wrap_eq64], fun q hq => by
                rcases Nat.lt_or_ge q 0 with h | h
                · exact HG.out q h
                · obtain rfl : q = 0 := by omega
                  exact hall, hbi⟩
              case measure => simp only [intOf]; omega
        · have hk1 : ((k : Int) == 0) = false := by simpa using hk0
          generalize wr = wo at *
          go_wp2_with fail
          go_loopw [6, 42] (fun la i Wd => ∃ j : Nat, j ≤ nk ∧ i = .int .i64 j ∧ la = .int .i64 (prevKid l k j) ∧ (∀ m, m < j → KidGood l k m) ∧ Below w.heap.size w Wd ∧ Wd.cell? ⟨wo.heap.size, 3, none⟩ = some (.slice Ak nk ck)) (fun _ i _ => nk - (intOf i).toNat)
          case atStart => exact ⟨0, Nat.zero_le _, rfl, rfl, fun m hm => absurd hm (Nat.not_lt_zero _), hbA, (Blk.new wo _ _).cell 3⟩
          case round =>
            clear hbA d0 d1 d2 d3 d4 hbel
            obtain ⟨j, hj, rfl, rfl, hkg, hbi, hbox⟩ := hrel
            have HKG := hide hkg
            clear hkg
            by_cases hjl : j < nk
            · obtain ⟨gk, ok, rfl, hgk, hck⟩ := kid_form HKD.out (by have := HNK.out; show 0 < kids.length; omega)
              have q0 := (hbi.cell (p := ⟨gk, ok + j, none⟩) hgk).trans (hck j (by have := HNK.out; show j < kids.length; omega))
              clear hck
              change wr.cell? ⟨gk, ok + j, none⟩ = some (.int .i64 (kids.getD j 0)) at q0
              have e0 : kids.getD j 0 = kidAt l k j := (HKA.out j).symm
              rw [e0] at q0
              have hbadk := fun h : ¬ KidGood l k j => (fun hc : ChkOk l => h ((HBG.out.1 (hc.1 k hlt)).2 j (by have := HNK.out; show j < kids.length; omega)))
              have hpn := kidAt_nonneg (l := l) (i := k) j (by rw [hx]; have := HNK.out; show j ≤ kids.length; omega) HKG.out
              have HKK := hide (show KidGood l k j ↔ prevKid l k j < kidAt l k j ∧ kidAt l k j < l.length ∧ (boAt l (kidAt l k j).toNat).par = k from Iff.rfl)
              have HPK := hide (show prevKid l k (j + 1) = kidAt l k j from rfl)
              generalize kidAt l k j = kj at *
              generalize prevKid l k j = pj at *
              by_cases t1 : kj ≤ pj
              · have hbad := hbadk fun h => by have := (HKK.out.1 h).1; omega
                go_wp2_with fail
                go_ret
                exact ⟨chk_bad hbad, hbi⟩
              · by_cases t2 : (l.length : Int) ≤ kj
                · have hbad := hbadk fun h => by have := (HKK.out.1 h).2.1; omega
                  go_wp2_with fail
                  go_ret
                  exact ⟨chk_bad hbad, hbi⟩
                · obtain ⟨m, rfl⟩ : ∃ m : Nat, kj = (m : Int) := ⟨kj.toNat, by omega⟩
                  have hml2 : m < l.length := by omega
                  have t3 : ¬ l.length ≤ m := by omega
                  obtain ⟨g2, off2, Ak2, ck2, hA2, hg2, hbc2, _⟩ := HI.out m hml2
                  injection hA2 with hA2
                  injection hA2 with e1 e2 _
                  subst e1 e2
                  have p2 := (hbc2.below hbi hg2).c2
                  have HPA := hide (show (boAt l ((m : Int)).toNat).par = (boAt l m).par from by rw [Int.toNat_natCast])
                  clear hbc2
                  generalize hpm : (boAt l m).par = pm at *
                  by_cases t4 : pm = k
                  · have hgd : KidGood l k j := HKK.out.2 ⟨by omega, by omega, by rw [HPA.out]; exact t4⟩
                    have hbeq : (pm != (k : Int)) = false := by simpa using t4
                    go_wp2_with fail
                    go_roundw
                    case rel => exact ⟨j + 1, by omega, by go_num, by rw [HPK.out], fun q hq => by
                      rcases Nat.lt_or_ge q j with h | h
                      · exact HKG.out q h
                      · obtain rfl : q = j := by omega
                        exact hgd, hbi, hbox⟩
                    case measure => simp only [intOf]; omega
                  · have hbad := hbadk fun h => t4 (by rw [← HPA.out]; exact (HKK.out.1 h).2.2)
                    have hbeq : (pm != (k : Int)) = true := by simpa using t4
                    go_wp2_with fail
                    go_ret
                    exact ⟨chk_bad hbad, hbi⟩
            · obtain rfl : j = nk := by omega
              have hall : BoxGood l k := HBG.out.2 ⟨hh, fun m hm => HKG.out m (by have := HNK.out; change m < kids.length at hm; omega)⟩
              have hw2 : wsum l (k + 1) = IntKind.i64.wrap (wsum l k + (j : Int)) := by rw [HWS.out]; show IntKind.i64.wrap (wsum l k + (kids.length : Int)) = _; rw [HNK.out]
              have HW2 := hide hw2
              clear hw2
              go_wp2_with fail
              go_roundw
              case rel => exact ⟨k + 1, by omega, by go_num, by rw [HW2.out, wrap_eq64], fun q hq => by
                rcases Nat.lt_or_ge q k with h | h
                · exact HG.out q h
                · obtain rfl : q = k := by omega
                  exact hall, hbi⟩
              case measure => simp only [intOf]; omega
      · have hbad : ¬ ChkOk l := fun h => hh ((HBG.out.1 (h.1 k hlt)).1)
        have hh2 := fun h => hh (HHD.out.2 h)
        simp only at hh2
        by_cases k1 : kd < 1
        · go_wp2_with fail
          go_ret
          exact ⟨chk_bad hbad, hbA⟩
        · by_cases k2 : 9 < kd
          · go_wp2_with fail
            go_ret
            exact ⟨chk_bad hbad, hbA⟩
          · by_cases k3 : nd < -1
            · go_wp2_with fail
              go_ret
              exact ⟨chk_bad hbad, hbA⟩
            · by_cases k4 : k = 0 ∧ pr ≠ -1
              · obtain ⟨rfl, k5⟩ := k4
                have k6 : (pr != -1) = true := by simpa using k5
                simp only [Nat.zero_mul, Nat.add_zero] at d0 d1 d2 d3 d4
                go_wp2_with fail
                go_ret
                exact ⟨chk_bad hbad, hbA⟩
              · exact absurd ⟨by omega, by omega, by omega, fun h => by
                  rcases Classical.em (pr = -1) with e | e
                  · exact e
                  · exact absurd ⟨h, e⟩ k4⟩ hh2
    · obtain rfl : k = l.length := by omega
      have hws := wsum_i64 l l.length
      by_cases hz : l.length = 0
      · have hz2 : ¬ 0 < l.length := by omega
        go_wp2_with fail
        go_ret
        exact ⟨chk_good HG.out, hbel⟩
      · have hz2 : 0 < l.length := by omega
        by_cases hs : wsum l l.length = (l.length : Int) - 1
        · have hs2 : (wsum l l.length != (l.length : Int) - 1) = false := by simpa using hs
          go_wp2_with fail
          go_ret
          exact ⟨chk_good HG.out, hbel⟩
        · have hs2 : (wsum l l.length != (l.length : Int) - 1) = true := by simpa using hs
          have hbad : ¬ ChkOk l := fun h => h.2.elim hz hs
          go_wp2_with fail
          go_ret
          exact ⟨chk_bad hbad, hbel⟩
end Go.Proofs.YtbpkffoooieejaaDoor
/- Documents that came in: how their nodes lie in memory. No program in sight. -/
namespace Go.Proofs.YtbpkffoooieejaaDoor
open Go.RowKit
structure Nd where
  kind : Int
  name : ByteArray
  attrs : List (ByteArray × ByteArray)
  text : ByteArray
  par : Int
  kids : List Int
def nd0 : Nd := ⟨0, ByteArray.empty, [], ByteArray.empty, 0, []⟩
def ndAt (l : List Nd) (k : Nat) : Nd := l.getD k nd0
def atCells (l : List (ByteArray × ByteArray)) : List Value := l.flatMap fun a => [.string a.1, .string a.2]
def atAt (l : List (ByteArray × ByteArray)) (k : Nat) : ByteArray × ByteArray := l.getD k (ByteArray.empty, ByteArray.empty)
/-- Attributes that lie somewhere. -/
def AttrIn (w : World) (B : Nat) (A : Option Addr) (l : List (ByteArray × ByteArray)) : Prop := ∀ k, k < l.length → ∃ g off, A = some ⟨g, off, none⟩ ∧ g < B ∧ w.cell? ⟨g, off + k * 2, none⟩ = some (.string (atAt l k).1) ∧ w.cell? ⟨g, off + k * 2 + 1, none⟩ = some (.string (atAt l k).2) ∧ (atAt l k).1.size ≤ maxLen ∧ (atAt l k).2.size ≤ maxLen
theorem AttrIn.below {w w' : World} {B : Nat} {A : Option Addr} {l : List (ByteArray × ByteArray)} (h : AttrIn w B A l) (hb : Below B w w') : AttrIn w' B A l := fun k hk => by
  obtain ⟨g, off, h1, h2, h3, h4, h5⟩ := h k hk
  exact ⟨g, off, h1, h2, (hb.cell (p := ⟨g, off + k * 2, none⟩) h2).trans h3, (hb.cell (p := ⟨g, off + k * 2 + 1, none⟩) h2).trans h4, h5⟩
/-- A node from the place off of block g on. -/
structure NdC (w : World) (B g off : Nat) (x : Nd) (Aa : Option Addr) (ca : Nat) (Ak : Option Addr) (ck : Nat) : Prop where
  c0 : w.cell? ⟨g, off, none⟩ = some (.int .i64 x.kind)
  c1 : w.cell? ⟨g, off + 1, none⟩ = some (.string x.name)
  c2 : w.cell? ⟨g, off + 2, none⟩ = some (.slice Aa x.attrs.length ca)
  c3 : w.cell? ⟨g, off + 3, none⟩ = some (.string x.text)
  c4 : w.cell? ⟨g, off + 4, none⟩ = some (.int .i64 x.par)
  c5 : w.cell? ⟨g, off + 5, none⟩ = some (.slice Ak x.kids.length ck)
  atts : AttrIn w B Aa x.attrs
  kids : Reads w B 1 Ak x.kids.length (x.kids.map (Value.int .i64))
theorem NdC.below {w w' : World} {B g off : Nat} {x : Nd} {Aa : Option Addr} {ca : Nat} {Ak : Option Addr} {ck : Nat} (h : NdC w B g off x Aa ca Ak ck) (hb : Below B w w') (hg : g < B) : NdC w' B g off x Aa ca Ak ck :=
  ⟨(hb.cell (p := ⟨g, off, none⟩) hg).trans h.c0, (hb.cell (p := ⟨g, off + 1, none⟩) hg).trans h.c1, (hb.cell (p := ⟨g, off + 2, none⟩) hg).trans h.c2, (hb.cell (p := ⟨g, off + 3, none⟩) hg).trans h.c3, (hb.cell (p := ⟨g, off + 4, none⟩) hg).trans h.c4, (hb.cell (p := ⟨g, off + 5, none⟩) hg).trans h.c5, h.atts.below hb, h.kids.below hb⟩
/-- What is short enough of a node. -/
structure NdS (x : Nd) (ca ck : Nat) : Prop where
  name : x.name.size ≤ maxLen
  text : x.text.size ≤ maxLen
  atts : x.attrs.length ≤ ca
  attc : ca ≤ maxLen
  kids : x.kids.length ≤ ck
  kidc : ck ≤ maxLen
def NdIn (w : World) (B : Nat) (A : Option Addr) (l : List Nd) : Prop := ∀ k, k < l.length → ∃ g off Aa ca Ak ck, A = some ⟨g, off, none⟩ ∧ g < B ∧ NdC w B g (off + k * 6) (ndAt l k) Aa ca Ak ck ∧ NdS (ndAt l k) ca ck
theorem NdIn.below {w w' : World} {B : Nat} {A : Option Addr} {l : List Nd} (h : NdIn w B A l) (hb : Below B w w') : NdIn w' B A l := fun k hk => by
  obtain ⟨g, off, Aa, ca, Ak, ck, h1, h2, h3, h4⟩ := h k hk
  exact ⟨g, off, Aa, ca, Ak, ck, h1, h2, h3.below hb h2, h4⟩
end Go.Proofs.YtbpkffoooieejaaDoor
/- Who is whose kid: the plain law of dom.kids. No program in sight. -/
namespace Go.Proofs.YtbpkffoooieejaaDoor
open Go.RowKit
def kvA (KV : Nat → Value) (n : Nat) : Array Value := ((List.range n).map KV).toArray
theorem kvA_size (KV : Nat → Value) (n : Nat) : (kvA KV n).size = n := by simp [kvA]
theorem kvA_at (KV : Nat → Value) (n f : Nat) (h : f < n) : (kvA KV n)[f]? = some (KV f) := by simp [kvA, h]
theorem kvA_const (z : Value) (n : Nat) : madeCells #[z] n = kvA (fun _ => z) n := by
  apply Array.toList_inj.1
  rw [madeCells_rep]
  simp [kvA, List.map_const']
theorem kvA_set (KV : Nat → Value) (n p : Nat) (v : Value) : (kvA KV n).setIfInBounds p v = kvA (fun f => if f = p then v else KV f) n := by
  apply Array.ext
  · simp [kvA]
  · intro i h1 h2
    simp [kvA] at h2
    simp only [kvA, List.setIfInBounds_toArray, List.getElem_toArray, List.getElem_set, List.getElem_map, List.getElem_range]
    by_cases h : p = i
    · subst h; simp
    · rw [if_neg h, if_neg (fun e => h e.symm)]
theorem bsz {B : Nat} {w w' : World} (h : Below B w w') (hB : B ≤ w.heap.size) : B ≤ w'.heap.size := Nat.le_trans hB h.size
section
variable (l : List Nd)
def kdAt (i m : Nat) : Int := (ndAt l i).kids.getD m 0
/-- Who is a kid of those ahead of i, or among the first m kids of i. -/
def snF (i m j : Nat) : Bool := (List.range i).any (fun i' => (ndAt l i').kids.contains (j : Int)) || ((ndAt l i).kids.take m).contains (j : Int)
structure KidOne (i m : Nat) : Prop where
  lo : 0 ≤ kdAt l i m
  hi : kdAt l i m < l.length
  par : (ndAt l (kdAt l i m).toNat).par = i
  new : snF l i m (kdAt l i m).toNat = false
structure KidsOk : Prop where
  kid : ∀ i, i < l.length → ∀ k ∈ (ndAt l i).kids, 0 ≤ k ∧ k < l.length ∧ (ndAt l k.toNat).par = i
  nodup : ∀ i, i < l.length → (ndAt l i).kids.Nodup
  par : ∀ i, i < l.length → (ndAt l i).par = -1 ∨ (0 ≤ (ndAt l i).par ∧ (ndAt l i).par < l.length)
  root : (ndAt l 0).par = -1
theorem sn_zero : snF l 0 0 = fun _ => false := by funext j; simp [snF]
theorem sn_next (i : Nat) : snF l (i + 1) 0 = snF l i (ndAt l i).kids.length := by
  funext j
  simp [snF, List.range_succ, List.any_append]
theorem sn_step (i m : Nat) (hm : m < (ndAt l i).kids.length) (h : KidOne l i m) (n : Nat) : (kvA (fun f => .bool (snF l i m f)) n).setIfInBounds (kdAt l i m).toNat (.bool true) = kvA (fun f => .bool (snF l i (m + 1) f)) n := by
  rw [kvA_set]
  have h0 := h.lo
  congr 1
  funext f
  have hk : kdAt l i m = (ndAt l i).kids[m] := by unfold kdAt; rw [List.getD, List.getElem?_eq_getElem hm]; rfl
  have ht : ((ndAt l i).kids.take (m + 1)) = (ndAt l i).kids.take m ++ [kdAt l i m] := by rw [List.take_succ_eq_append_getElem hm, hk]
  unfold snF
  rw [ht]
  by_cases e : f = (kdAt l i m).toNat
  · have e2 : (f : Int) = kdAt l i m := by omega
    rw [if_pos e]
    simp [e2]
  · have e2 : ¬ (f : Int) = kdAt l i m := by omega
    rw [if_neg e]
    simp [e2]
theorem kids_law (h1 : ∀ i, i < l.length → ∀ m, m < (ndAt l i).kids.length → KidOne l i m) (h2 : ∀ i, i < l.length → (ndAt l i).par ≠ -1 → snF l l.length 0 i = true) (h3 : (ndAt l 0).par = -1) : KidsOk l := by
  have key : ∀ i, i < l.length → ∀ k ∈ (ndAt l i).kids, 0 ≤ k ∧ k < l.length ∧ (ndAt l k.toNat).par = i := fun i hi k hk => by
    obtain ⟨m, hm, rfl⟩ := List.getElem_of_mem hk
    have h := h1 i hi m hm
    have hk : kdAt l i m = (ndAt l i).kids[m] := by unfold kdAt; rw [List.getD, List.getElem?_eq_getElem hm]; rfl
    rw [← hk]
    exact ⟨h.lo, h.hi, h.par⟩
  refine ⟨key, fun i hi => ?_, fun i hi => ?_, h3⟩
  · rw [List.nodup_iff_pairwise_ne, List.pairwise_iff_getElem]
    intro a b ha hb hab e
    have h := (h1 i hi b hb).new
    have hk : kdAt l i b = (ndAt l i).kids[b] := by unfold kdAt; rw [List.getD, List.getElem?_eq_getElem hb]; rfl
    have h0 := (h1 i hi b hb).lo
    unfold snF at h
    rw [Bool.or_eq_false_iff] at h
    have h4 := h.2
    rw [show ((kdAt l i b).toNat : Int) = kdAt l i b by omega, hk] at h4
    have : (ndAt l i).kids[b] ∈ (ndAt l i).kids.take b := by
      rw [← e]
      exact List.mem_take_iff_getElem.2 ⟨a, by omega, rfl⟩
    rw [List.contains_eq_mem] at h4
    exact absurd this (by simpa using h4)
  · by_cases e : (ndAt l i).par = -1
    · exact .inl e
    · have h := h2 i hi e
      unfold snF at h
      simp only [List.take_zero, List.contains_nil, Bool.or_false, List.any_eq_true, List.mem_range] at h
      obtain ⟨i', hi', hc⟩ := h
      have h4 := key i' hi' (i : Int) (by simpa using hc)
      rw [Int.toNat_natCast] at h4
      exact .inr (by omega)
end
end Go.Proofs.YtbpkffoooieejaaDoor
/- Contracts of the library at this dump, laid by the shelf (lay-shelf.mjs, lay-plain.mjs): no walk. -/
namespace Go.Proofs
open Go.Shelf
def Tryd.lays137_ren : Go.Shelf.Ren := ⟨fun | 137 => 99 | 217 => 113 | 266 => 126 | n => n, fun | 9 => 9 | 5 => 5 | 3 => 3 | n => n, fun | n => n⟩
theorem Tryd.lays137 : Go.Proofs.Lays.n137 Tryd.prog Tryd.lays137_ren := {
  mixed := by kernel_rfl
  f137 := Tryd.func99.trans (congrArg some (by kernel_rfl))
  f217 := Tryd.func113.trans (congrArg some (by kernel_rfl))
  f266 := Tryd.func126.trans (congrArg some (by kernel_rfl))
  t3 := Tryd.underlying3
  a3 := Tryd.isAgg3
  z3 := Tryd.sizeOf3
  v3 := Tryd.zeroValue3
  t5 := Tryd.underlying5
  a5 := Tryd.isAgg5
  z5 := Tryd.sizeOf5
  v5 := Tryd.zeroValue5
  t9 := Tryd.underlying9
  a9 := Tryd.isAgg9
  z9 := Tryd.sizeOf9
  v9 := Tryd.zeroValue9 }
open Go.RowKit in
theorem Tryd.strings_IndexByte (s : ByteArray) (c : Int) (w : World) :
    Calls Tryd.prog 99 #[.string s, .int .u8 c] w fun e w' => e = .returned (.int .i64 (Lib.indexByte s.data.toList c.toNat.toUInt8)) ∧ w' = w := Any.strings_IndexByte Tryd.lays137 s c w
def Tryd.lays144_ren : Go.Shelf.Ren := ⟨fun | 144 => 53 | 143 => 80 | 219 => 103 | 217 => 113 | 225 => 121 | 224 => 122 | 267 => 123 | 266 => 126 | 314 => 131 | n => n, fun | 9 => 9 | 4 => 4 | 3 => 3 | 5 => 5 | 46 => 102 | 146 => 173 | 51 => 126 | n => n, fun | 1 => 1 | n => n⟩
theorem Tryd.lays144 : Go.Proofs.Lays.n144 Tryd.prog Tryd.lays144_ren := {
  mixed := by kernel_rfl
  f143 := Tryd.func80.trans (congrArg some (by kernel_rfl))
  f144 := Tryd.func53.trans (congrArg some (by kernel_rfl))
  f217 := Tryd.func113.trans (congrArg some (by kernel_rfl))
  f219 := Tryd.func103.trans (congrArg some (by kernel_rfl))
  f224 := Tryd.func122.trans (congrArg some (by kernel_rfl))
  f225 := Tryd.func121.trans (congrArg some (by kernel_rfl))
  f266 := Tryd.func126.trans (congrArg some (by kernel_rfl))
  f267 := Tryd.func123.trans (congrArg some (by kernel_rfl))
  f314 := Tryd.func131.trans (congrArg some (by kernel_rfl))
  t3 := Tryd.underlying3
  a3 := Tryd.isAgg3
  z3 := Tryd.sizeOf3
  v3 := Tryd.zeroValue3
  t4 := Tryd.underlying4
  a4 := Tryd.isAgg4
  z4 := Tryd.sizeOf4
  v4 := Tryd.zeroValue4
  t5 := Tryd.underlying5
  a5 := Tryd.isAgg5
  z5 := Tryd.sizeOf5
  v5 := Tryd.zeroValue5
  t9 := Tryd.underlying9
  a9 := Tryd.isAgg9
  z9 := Tryd.sizeOf9
  v9 := Tryd.zeroValue9
  t46 := Tryd.underlying102
  a46 := Tryd.isAgg102
  z46 := Tryd.sizeOf102
  v46 := Tryd.zeroValue102
  t51 := Tryd.underlying126
  a51 := Tryd.isAgg126
  z51 := Tryd.sizeOf126
  v51 := Tryd.zeroValue126
  t146 := Tryd.underlying173
  a146 := Tryd.isAgg173
  z146 := Tryd.sizeOf173
  v146 := Tryd.zeroValue173
  g1 := by kernel_rfl }
open Go.RowKit Go.Lib in
theorem Tryd.strings_Contains (s sub : ByteArray) (m : Int) (w : World) (hs : s.size < 4294967281) (hm : w.cell? ⟨1, 0, none⟩ = some (.int .i64 m)) :
    Calls Tryd.prog 53 #[.string s, .string sub] w fun e w' => e = .returned (.bool (Lib.contains s.data.toList sub.data.toList)) ∧ w' = w := Any.strings_Contains Tryd.lays144 s sub m w hs hm
def Tryd.lays146_ren : Go.Shelf.Ren := ⟨fun | 146 => 84 | 221 => 104 | 268 => 124 | 138 => 125 | 143 => 80 | 195 => 132 | 197 => 128 | 218 => 133 | 219 => 103 | 260 => 134 | 217 => 113 | 225 => 121 | 224 => 122 | 267 => 123 | 266 => 126 | 314 => 131 | n => n, fun | 9 => 9 | 31 => 133 | 3 => 3 | 4 => 4 | 0 => 0 | 105 => 170 | 21 => 21 | 5 => 5 | 46 => 102 | 119 => 177 | 139 => 180 | 138 => 179 | 146 => 173 | 51 => 126 | n => n, fun | 1 => 1 | 3 => 2 | 4 => 3 | n => n⟩
theorem Tryd.lays146 : Go.Proofs.Lays.n146 Tryd.prog Tryd.lays146_ren := {
  mixed := by kernel_rfl
  f138 := Tryd.func125.trans (congrArg some (by kernel_rfl))
  f143 := Tryd.func80.trans (congrArg some (by kernel_rfl))
  f146 := Tryd.func84.trans (congrArg some (by kernel_rfl))
  f195 := Tryd.func132.trans (congrArg some (by kernel_rfl))
  f197 := Tryd.func128.trans (congrArg some (by kernel_rfl))
  f217 := Tryd.func113.trans (congrArg some (by kernel_rfl))
  f218 := Tryd.func133.trans (congrArg some (by kernel_rfl))
  f219 := Tryd.func103.trans (congrArg some (by kernel_rfl))
  f221 := Tryd.func104.trans (congrArg some (by kernel_rfl))
  f224 := Tryd.func122.trans (congrArg some (by kernel_rfl))
  f225 := Tryd.func121.trans (congrArg some (by kernel_rfl))
  f260 := Tryd.func134.trans (congrArg some (by kernel_rfl))
  f266 := Tryd.func126.trans (congrArg some (by kernel_rfl))
  f267 := Tryd.func123.trans (congrArg some (by kernel_rfl))
  f268 := Tryd.func124.trans (congrArg some (by kernel_rfl))
  f314 := Tryd.func131.trans (congrArg some (by kernel_rfl))
  t0 := Tryd.underlying0
  a0 := Tryd.isAgg0
  z0 := Tryd.sizeOf0
  v0 := Tryd.zeroValue0
  t3 := Tryd.underlying3
  a3 := Tryd.isAgg3
  z3 := Tryd.sizeOf3
  v3 := Tryd.zeroValue3
  t4 := Tryd.underlying4
  a4 := Tryd.isAgg4
  z4 := Tryd.sizeOf4
  v4 := Tryd.zeroValue4
  t5 := Tryd.underlying5
  a5 := Tryd.isAgg5
  z5 := Tryd.sizeOf5
  v5 := Tryd.zeroValue5
  t9 := Tryd.underlying9
  a9 := Tryd.isAgg9
  z9 := Tryd.sizeOf9
  v9 := Tryd.zeroValue9
  t21 := Tryd.underlying21
  a21 := Tryd.isAgg21
  z21 := Tryd.sizeOf21
  v21 := Tryd.zeroValue21
  t31 := Tryd.underlying133
  a31 := Tryd.isAgg133
  z31 := Tryd.sizeOf133
  v31 := Tryd.zeroValue133
  t46 := Tryd.underlying102
  a46 := Tryd.isAgg102
  z46 := Tryd.sizeOf102
  v46 := Tryd.zeroValue102
  t51 := Tryd.underlying126
  a51 := Tryd.isAgg126
  z51 := Tryd.sizeOf126
  v51 := Tryd.zeroValue126
  t105 := Tryd.underlying170
  a105 := Tryd.isAgg170
  z105 := Tryd.sizeOf170
  v105 := Tryd.zeroValue170
  t119 := Tryd.underlying177
  a119 := Tryd.isAgg177
  z119 := Tryd.sizeOf177
  t138 := Tryd.underlying179
  a138 := Tryd.isAgg179
  z138 := Tryd.sizeOf179
  v138 := Tryd.zeroValue179
  t139 := Tryd.underlying180
  a139 := Tryd.isAgg180
  z139 := Tryd.sizeOf180
  v139 := Tryd.zeroValue180
  t146 := Tryd.underlying173
  a146 := Tryd.isAgg173
  z146 := Tryd.sizeOf173
  v146 := Tryd.zeroValue173
  g1 := by kernel_rfl
  g3 := by kernel_rfl
  g4 := by kernel_rfl }
open Go.RowKit Go.Lib in
theorem Tryd.strings_Split (s sep : ByteArray) (m : Int) (w : World) (hs : s.size < 4294967281) (hm : w.cell? ⟨1, 0, none⟩ = some (.int .i64 m)) (h1 : 1 ≤ sep.size) :
    Calls Tryd.prog 84 #[.string s, .string sep] w fun e w' =>
      e = .returned (.slice (some ⟨w.heap.size, 0, none⟩) (Lib.countB s sep + 1) (Lib.countB s sep + 1)) ∧ w' = w.alloc (.cells ((Lib.splitB sep 0 (Lib.countB s sep) s).map Value.string).toArray 9) := Any.strings_Split Tryd.lays146 (by kernel_rfl) s sep m w hs hm h1
def Tryd.lays112_ren : Go.Shelf.Ren := ⟨fun | 112 => 27 | n => n, fun | 28 => 35 | 3 => 3 | 4 => 4 | 0 => 0 | n => n, fun | n => n⟩
theorem Tryd.lays112 : Go.Proofs.Lays.n112 Tryd.prog Tryd.lays112_ren := {
  mixed := by kernel_rfl
  f112 := Tryd.func27.trans (congrArg some (by kernel_rfl))
  t0 := Tryd.underlying0
  a0 := Tryd.isAgg0
  z0 := Tryd.sizeOf0
  v0 := Tryd.zeroValue0
  t3 := Tryd.underlying3
  a3 := Tryd.isAgg3
  z3 := Tryd.sizeOf3
  v3 := Tryd.zeroValue3
  t4 := Tryd.underlying4
  a4 := Tryd.isAgg4
  z4 := Tryd.sizeOf4
  v4 := Tryd.zeroValue4
  t28 := Tryd.underlying35
  a28 := Tryd.isAgg35
  z28 := Tryd.sizeOf35
  v28 := Tryd.zeroValue35 }
open Go.RowKit Go.Lib Go.Sort in
theorem Tryd.slices_Reverse_int_empty (a : Option Addr) (cap : Nat) (w : World) :
    Calls Tryd.prog 27 #[.slice a 0 cap] w fun e w' => e = .returned (.tuple #[]) ∧ w' = w := Any.slices_Reverse_int_empty Tryd.lays112 a cap w
open Go.RowKit Go.Lib Go.Sort in
theorem Tryd.slices_Reverse_int_cells (b off n c : Nat) (zs : List Int) (w : World) (hz : n ≤ zs.length) (hbig : n ≤ 9223372036854775807) (hc : ∀ j, j < zs.length → w.cell? ⟨b, off + j, none⟩ = some (.int .i64 (zs.getD j 0))) (hf : ∀ j, j < n → w.frozen? ⟨b, off + j, none⟩ = false) :
    Calls Tryd.prog 27 #[.slice (some ⟨b, off, none⟩) n c] w fun e w' => e = .returned (.tuple #[]) ∧ ∃ q, w' = (w.drewN q).setCells b off ((zs.take n).reverse.map (Value.int .i64)) := Any.slices_Reverse_int_cells Tryd.lays112 b off n c zs w hz hbig hc hf
def Tryd.lays160_ren : Go.Shelf.Ren := ⟨fun | 160 => 100 | 232 => 115 | 231 => 114 | 227 => 116 | 234 => 118 | 233 => 117 | 236 => 120 | 235 => 119 | 228 => 127 | 271 => 130 | 151 => 129 | 197 => 128 | 120 => 136 | 152 => 135 | 260 => 134 | 137 => 99 | 119 => 137 | 224 => 122 | 225 => 121 | 217 => 113 | 266 => 126 | n => n, fun | 9 => 9 | 4 => 4 | 3 => 3 | 5 => 5 | 117 => 164 | 116 => 163 | 0 => 0 | 124 => 167 | 21 => 21 | 105 => 170 | 46 => 102 | 119 => 177 | 139 => 180 | 138 => 179 | n => n, fun | 3 => 2 | 4 => 3 | n => n⟩
theorem Tryd.lays160 : Go.Proofs.Lays.n160 Tryd.prog Tryd.lays160_ren := {
  mixed := by kernel_rfl
  f119 := Tryd.func137.trans (congrArg some (by kernel_rfl))
  f120 := Tryd.func136.trans (congrArg some (by kernel_rfl))
  f137 := Tryd.func99.trans (congrArg some (by kernel_rfl))
  f151 := Tryd.func129.trans (congrArg some (by kernel_rfl))
  f152 := Tryd.func135.trans (congrArg some (by kernel_rfl))
  f160 := Tryd.func100.trans (congrArg some (by kernel_rfl))
  f197 := Tryd.func128.trans (congrArg some (by kernel_rfl))
  f217 := Tryd.func113.trans (congrArg some (by kernel_rfl))
  f224 := Tryd.func122.trans (congrArg some (by kernel_rfl))
  f225 := Tryd.func121.trans (congrArg some (by kernel_rfl))
  f227 := Tryd.func116.trans (congrArg some (by kernel_rfl))
  f228 := Tryd.func127.trans (congrArg some (by kernel_rfl))
  f231 := Tryd.func114.trans (congrArg some (by kernel_rfl))
  f232 := Tryd.func115.trans (congrArg some (by kernel_rfl))
  f233 := Tryd.func117.trans (congrArg some (by kernel_rfl))
  f234 := Tryd.func118.trans (congrArg some (by kernel_rfl))
  f235 := Tryd.func119.trans (congrArg some (by kernel_rfl))
  f236 := Tryd.func120.trans (congrArg some (by kernel_rfl))
  f260 := Tryd.func134.trans (congrArg some (by kernel_rfl))
  f266 := Tryd.func126.trans (congrArg some (by kernel_rfl))
  f271 := Tryd.func130.trans (congrArg some (by kernel_rfl))
  t0 := Tryd.underlying0
  a0 := Tryd.isAgg0
  z0 := Tryd.sizeOf0
  v0 := Tryd.zeroValue0
  t3 := Tryd.underlying3
  a3 := Tryd.isAgg3
  z3 := Tryd.sizeOf3
  v3 := Tryd.zeroValue3
  t4 := Tryd.underlying4
  a4 := Tryd.isAgg4
  z4 := Tryd.sizeOf4
  v4 := Tryd.zeroValue4
  t5 := Tryd.underlying5
  a5 := Tryd.isAgg5
  z5 := Tryd.sizeOf5
  v5 := Tryd.zeroValue5
  t9 := Tryd.underlying9
  a9 := Tryd.isAgg9
  z9 := Tryd.sizeOf9
  v9 := Tryd.zeroValue9
  t21 := Tryd.underlying21
  a21 := Tryd.isAgg21
  z21 := Tryd.sizeOf21
  v21 := Tryd.zeroValue21
  t46 := Tryd.underlying102
  a46 := Tryd.isAgg102
  z46 := Tryd.sizeOf102
  v46 := Tryd.zeroValue102
  t105 := Tryd.underlying170
  a105 := Tryd.isAgg170
  z105 := Tryd.sizeOf170
  v105 := Tryd.zeroValue170
  t116 := Tryd.underlying163
  a116 := Tryd.isAgg163
  z116 := Tryd.sizeOf163
  t117 := Tryd.underlying164
  a117 := Tryd.isAgg164
  z117 := Tryd.sizeOf164
  v117 := Tryd.zeroValue164
  t119 := Tryd.underlying177
  a119 := Tryd.isAgg177
  z119 := Tryd.sizeOf177
  t124 := Tryd.underlying167
  a124 := Tryd.isAgg167
  z124 := Tryd.sizeOf167
  v124 := Tryd.zeroValue167
  t138 := Tryd.underlying179
  a138 := Tryd.isAgg179
  z138 := Tryd.sizeOf179
  v138 := Tryd.zeroValue179
  t139 := Tryd.underlying180
  a139 := Tryd.isAgg180
  z139 := Tryd.sizeOf180
  v139 := Tryd.zeroValue180
  g3 := by kernel_rfl
  g4 := by kernel_rfl }
end Go.Proofs
/- Frags that came in; the walk of stack.Check. -/
namespace Go.Proofs.YtbpkffoooieejaaDoor
open Go.ChangeShapes Go.WideShapes Go.ChangeAt Go.RowKit
structure Fr where
  box : Int
  node : Int
  par : Int
  x : Int
  y : Int
  w : Int
  h : Int
  text : ByteArray
def frA (x : Fr) : Array Value := #[.int .i64 x.box, .int .i64 x.node, .int .i64 x.par, .int .i64 x.x, .int .i64 x.y, .int .i64 x.w, .int .i64 x.h, .string x.text]
def fr0 : Fr := ⟨0, 0, 0, 0, 0, 0, 0, ByteArray.empty⟩
def frAt (l : List Fr) (k : Nat) : Fr := l.getD k fr0
def FragIn (w : World) (B : Nat) (A : Option Addr) (l : List Fr) : Prop := ∀ k, k < l.length → ∃ g off, A = some ⟨g, off, none⟩ ∧ g < B ∧ ∀ j, j < 8 → w.cell? ⟨g, off + k * 8 + j, none⟩ = (frA (frAt l k))[j]?
theorem FragIn.below {w w' : World} {B : Nat} {A : Option Addr} {l : List Fr} (h : FragIn w B A l) (hb : Below B w w') : FragIn w' B A l := fun k hk => by
  obtain ⟨g, off, h1, h2, h3⟩ := h k hk
  exact ⟨g, off, h1, h2, fun j hj => (hb.cell (p := ⟨g, off + k * 8 + j, none⟩) h2).trans (h3 j hj)⟩
def FragGood (l : List Bo) (fs : List Fr) (i : Nat) : Prop := 0 ≤ (frAt fs i).box ∧ (frAt fs i).box < l.length ∧ (i = 0 → (frAt fs i).par = -1) ∧ (0 < i → 0 ≤ (frAt fs i).par ∧ (frAt fs i).par < i)
def FragsOk (l : List Bo) (fs : List Fr) : Prop := (∀ i, i < fs.length → FragGood l fs i) ∧ 0 < fs.length
def StPost (l : List Bo) (fs : List Fr) (e : Ending) : Prop := ∃ r, e = .returned (.int .i64 r) ∧ (r = 0 ∨ r = 3) ∧ (r = 0 → FragsOk l fs)
theorem st_bad {l : List Bo} {fs : List Fr} (r : Int) (h : r ≠ 0) (h3 : r = 0 ∨ r = 3 := by decide) : StPost l fs (.returned (.int .i64 r)) := ⟨r, rfl, h3, fun e => absurd e h⟩
theorem BoxIn.mono {w : World} {B B' : Nat} {A : Option Addr} {l : List Bo} (h : BoxIn w B A l) (hB : B ≤ B') : BoxIn w B' A l := fun k hk => by
  obtain ⟨g, off, Ak, ck, h1, h2, h3, h4⟩ := h k hk
  refine ⟨g, off, Ak, ck, h1, Nat.lt_of_lt_of_le h2 hB, ⟨h3.c0, h3.c1, h3.c2, h3.c3, h3.c4, h3.kids.1, fun hn => ?_⟩, h4⟩
  obtain ⟨ad, e1, e2, e3⟩ := h3.kids.2 hn
  exact ⟨ad, e1, Nat.lt_of_lt_of_le e2 hB, e3⟩
set_option maxRecDepth 100000 in
set_option maxHeartbeats 40000000 in
theorem stCheck_any (l : List Bo) (fs : List Fr) (AB AF : Option Addr) (cB cF : Nat) (lw lh : Int) (w : World) (hB : BoxIn w w.heap.size AB l) (hF : FragIn w w.heap.size AF fs) (hlB : l.length ≤ maxLen) (hlF : fs.length ≤ maxLen) :
    Calls Tryd.prog 15 #[.agg #[.slice AB l.length cB, .slice AF fs.length cF, .int .i64 lw, .int .i64 lh]] w fun e w' => StPost l fs e ∧ Below w.heap.size w w' := by
  have hb0 := (Below.refl w.heap.size w).alloc (Nat.le_refl _) (.cells #[.slice AB l.length cB, .slice AF fs.length cF, .int .i64 lw, .int .i64 lh] 26)
  have hX := Blk.new w 26 #[.slice AB l.length cB, .slice AF fs.length cF, .int .i64 lw, .int .i64 lh]
  have HC := hide (Check_any l AB cB (w.alloc (.cells #[.slice AB l.length cB, .slice AF fs.length cF, .int .i64 lw, .int .i64 lh] 26)) ((hB.below hb0).mono hb0.size) hlB)
  unfold maxLen at hlB hlF
  have x0 : (w.alloc (.cells #[.slice AB l.length cB, .slice AF fs.length cF, .int .i64 lw, .int .i64 lh] 26)).cell? ⟨w.heap.size, 0, none⟩ = some (.slice AB l.length cB) := hX.cell 0
  have x1 : (w.alloc (.cells #[.slice AB l.length cB, .slice AF fs.length cF, .int .i64 lw, .int .i64 lh] 26)).cell? ⟨w.heap.size, 1, none⟩ = some (.slice AF fs.length cF) := hX.cell 1
  have hlt := hX.lt
  have HB := hide hB
  have HF := hide hF
  clear hX hB hF
  go_enter Tryd.func15, Tryd.ntmps15
  go_wp2_with fail
  refine HC.out.mono ?_
  clear HC
  rintro e w1 ⟨⟨r, rfl, hr, _, _⟩, hb1⟩
  have b1 := below_then hb0 (Nat.le_refl _) hb1
  have y0 := (hb1.cell (p := ⟨w.heap.size, 0, none⟩) hlt).trans x0
  have y1 := (hb1.cell (p := ⟨w.heap.size, 1, none⟩) hlt).trans x1
  have hlt1 := Nat.lt_of_lt_of_le hlt hb1.size
  clear x0 x1 hb1 hb0 hlt
  by_cases hr0 : r = 0
  · subst hr0
    go_wp2_with fail
    go_loopw [15] (fun i wr => ∃ k : Nat, k ≤ fs.length ∧ i = .int .i64 k ∧ (∀ m, m < k → FragGood l fs m) ∧ Below w.heap.size w wr ∧ wr.cell? ⟨w.heap.size, 0, none⟩ = some (.slice AB l.length cB) ∧ wr.cell? ⟨w.heap.size, 1, none⟩ = some (.slice AF fs.length cF)) (fun i _ => fs.length - (intOf i).toNat)
    case atStart => exact ⟨0, Nat.zero_le _, rfl, fun m hm => absurd hm (Nat.not_lt_zero _), b1, y0, y1⟩
    case round =>
      clear y0 y1
      obtain ⟨k, hk, rfl, hgood, hbel, y0, y1⟩ := hrel
      have HG := hide hgood
      clear hgood
      have hwz := cell_lt y0
      by_cases hlt : k < fs.length
      · obtain ⟨g, off, rfl, hg, hc⟩ := HF.out k hlt
        have cc : ∀ j, j < 8 → wr.cell? ⟨g, off + k * 8 + j, none⟩ = (frA (frAt fs k))[j]? := fun j hj => (hbel.cell (p := ⟨g, off + k * 8 + j, none⟩) hg).trans (hc j hj)
        have HFG := hide (show FragGood l fs k ↔ 0 ≤ (frAt fs k).box ∧ (frAt fs k).box < l.length ∧ (k = 0 → (frAt fs k).par = -1) ∧ (0 < k → 0 ≤ (frAt fs k).par ∧ (frAt fs k).par < k) from Iff.rfl)
        clear hc
        generalize frAt fs k = x at *
        obtain ⟨fb, fn, fp, fx, fy, fw, fh, ft⟩ := x
        have d0 : wr.cell? ⟨g, off + k * 8, none⟩ = some (.int .i64 fb) := cc 0 (by omega)
        have d1 : wr.cell? ⟨g, off + k * 8 + 1, none⟩ = some (.int .i64 fn) := cc 1 (by omega)
        have d2 : wr.cell? ⟨g, off + k * 8 + 2, none⟩ = some (.int .i64 fp) := cc 2 (by omega)
        have d3 : wr.cell? ⟨g, off + k * 8 + 3, none⟩ = some (.int .i64 fx) := cc 3 (by omega)
        have d4 : wr.cell? ⟨g, off + k * 8 + 4, none⟩ = some (.int .i64 fy) := cc 4 (by omega)
        have d5 : wr.cell? ⟨g, off + k * 8 + 5, none⟩ = some (.int .i64 fw) := cc 5 (by omega)
        have d6 : wr.cell? ⟨g, off + k * 8 + 6, none⟩ = some (.int .i64 fh) := cc 6 (by omega)
        have d7 : wr.cell? ⟨g, off + k * 8 + 7, none⟩ = some (.string ft) := cc 7 (by omega)
        clear cc
        have HFG2 := hide (show FragGood l fs k ↔ 0 ≤ fb ∧ fb < l.length ∧ (k = 0 → fp = -1) ∧ (0 < k → 0 ≤ fp ∧ fp < k) from HFG.out)
        clear HFG
        have HFG := HFG2
        clear HFG2
        have hbF := hbel.alloc hbel.size (.cells #[.int .i64 fb, .int .i64 fn, .int .i64 fp, .int .i64 fx, .int .i64 fy, .int .i64 fw, .int .i64 fh, .string ft] 37)
        have hbR := (Below.refl wr.heap.size wr).alloc (Nat.le_refl _) (.cells #[.int .i64 fb, .int .i64 fn, .int .i64 fp, .int .i64 fx, .int .i64 fy, .int .i64 fw, .int .i64 fh, .string ft] 37)
        have hY := Blk.new wr 37 #[.int .i64 fb, .int .i64 fn, .int .i64 fp, .int .i64 fx, .int .i64 fy, .int .i64 fw, .int .i64 fh, .string ft]
        have u0 : (wr.alloc (.cells #[.int .i64 fb, .int .i64 fn, .int .i64 fp, .int .i64 fx, .int .i64 fy, .int .i64 fw, .int .i64 fh, .string ft] 37)).cell? ⟨wr.heap.size, 0, none⟩ = some (.int .i64 fb) := hY.cell 0
        have u1 : (wr.alloc (.cells #[.int .i64 fb, .int .i64 fn, .int .i64 fp, .int .i64 fx, .int .i64 fy, .int .i64 fw, .int .i64 fh, .string ft] 37)).cell? ⟨wr.heap.size, 1, none⟩ = some (.int .i64 fn) := hY.cell 1
        have u2 : (wr.alloc (.cells #[.int .i64 fb, .int .i64 fn, .int .i64 fp, .int .i64 fx, .int .i64 fy, .int .i64 fw, .int .i64 fh, .string ft] 37)).cell? ⟨wr.heap.size, 2, none⟩ = some (.int .i64 fp) := hY.cell 2
        have v0 := (hbR.cell (p := ⟨w.heap.size, 0, none⟩) hwz).trans y0
        have v1 := (hbR.cell (p := ⟨w.heap.size, 1, none⟩) hwz).trans y1
        clear hY
        go_wp2_with fail
        generalize hwd : wr.alloc (.cells #[.int .i64 fb, .int .i64 fn, .int .i64 fp, .int .i64 fx, .int .i64 fy, .int .i64 fw, .int .i64 fh, .string ft] 37) = wf at *
        clear hwd d0 d1 d2 d3 d4 d5 d6 d7 hbR
        by_cases t1 : fb < 0
        · have e1 : decide (fb < 0) = true := decide_eq_true t1
          go_quiet (fail)
          go_wp2_with fail
          go_ret
          exact ⟨st_bad 3 (by decide), below_drewN hbF nq⟩
        · have e1 : decide (fb < 0) = false := decide_eq_false t1
          by_cases t2 : (l.length : Int) ≤ fb
          · have e2 : decide ((l.length : Int) ≤ fb) = true := decide_eq_true t2
            go_quiet (fail)
            go_wp2_with fail
            go_ret
            exact ⟨st_bad 3 (by decide), below_drewN hbF nq⟩
          · have e2 : decide ((l.length : Int) ≤ fb) = false := decide_eq_false t2
            obtain ⟨m, rfl⟩ : ∃ m : Nat, fb = (m : Int) := ⟨fb.toNat, by omega⟩
            have hml : m < l.length := by omega
            have e3 : decide (l.length ≤ m) = false := decide_eq_false (by omega)
            obtain ⟨g2, off2, Ak, ck, rfl, hg2, hbc, _⟩ := HB.out m hml
            have p1 := (hbc.below hbF hg2).c1
            clear hbc
            generalize (boAt l m).node = nd at *
            by_cases t3 : fn = nd
            · subst t3
              by_cases t4 : k = 0
              · subst t4
                by_cases t5 : fp = -1
                · subst t5
                  go_quiet (fail)
                  go_wp2_with fail
                  go_roundw
                  case rel => exact ⟨0 + 1, by omega, by go_num, fun q hq => by
                    rcases Nat.lt_or_ge q 0 with h | h
                    · exact HG.out q h
                    · obtain rfl : q = 0 := by omega
                      exact HFG.out.2 ⟨by omega, by omega, fun _ => rfl, fun h => absurd h (Nat.lt_irrefl _)⟩, below_drewN hbF nq, v0, v1⟩
                  case measure => simp only [intOf]; omega
                · have e5 : (fp != -1) = true := by simpa using t5
                  go_quiet (fail)
                  go_wp2_with fail
                  go_ret
                  exact ⟨st_bad 3 (by decide), below_drewN hbF nq⟩
              · have e4 : ((k : Int) == 0) = false := by simpa using t4
                have e6 : decide ((0 : Int) < (k : Int)) = true := decide_eq_true (by omega)
                have e7 : decide (0 < k) = true := decide_eq_true (by omega)
                by_cases t6 : fp < 0
                · have e8 : decide (fp < 0) = true := decide_eq_true t6
                  go_quiet (fail)
                  go_wp2_with fail
                  go_ret
                  exact ⟨st_bad 3 (by decide), below_drewN hbF nq⟩
                · have e8 : decide (fp < 0) = false := decide_eq_false t6
                  by_cases t7 : (k : Int) ≤ fp
                  · have e9 : decide ((k : Int) ≤ fp) = true := decide_eq_true t7
                    go_quiet (fail)
                    go_wp2_with fail
                    go_ret
                    exact ⟨st_bad 3 (by decide), below_drewN hbF nq⟩
                  · have e9 : decide ((k : Int) ≤ fp) = false := decide_eq_false t7
                    go_quiet (fail)
                    go_wp2_with fail
                    go_roundw
                    case rel => exact ⟨k + 1, by omega, by go_num, fun q hq => by
                      rcases Nat.lt_or_ge q k with h | h
                      · exact HG.out q h
                      · obtain rfl : q = k := by omega
                        exact HFG.out.2 ⟨by omega, by omega, fun h => absurd h t4, fun _ => ⟨by omega, by omega⟩⟩, below_drewN hbF nq, v0, v1⟩
                    case measure => simp only [intOf]; omega
            · have e3' : (fn != nd) = true := by simpa using t3
              go_quiet (fail)
              go_wp2_with fail
              go_ret
              exact ⟨st_bad 3 (by decide), below_drewN hbF nq⟩
      · obtain rfl : k = fs.length := by omega
        by_cases hz : fs.length = 0
        · have hz1 : (fs.length == 0) = true := by simpa using hz
          go_wp2_with fail
          go_ret
          exact ⟨st_bad 3 (by decide), hbel⟩
        · have hz1 : (fs.length == 0) = false := by simpa using hz
          have hz2 : 0 < fs.length := by omega
          obtain ⟨g, off, rfl, hg, hc⟩ := HF.out 0 hz2
          have c0 := (hbel.cell (p := ⟨g, off + 0 * 8 + 0, none⟩) hg).trans (hc 0 (by omega))
          have c1 : wr.cell? ⟨g, off, none⟩ = some (.int .i64 (frAt fs 0).box) := c0
          clear c0 hc
          generalize (frAt fs 0).box = bx at *
          by_cases hb : bx = 0
          · have hb2 : (bx != 0) = false := by simpa using hb
            go_wp2_with fail
            go_ret
            exact ⟨⟨0, rfl, .inl rfl, fun _ => ⟨HG.out, hz2⟩⟩, hbel⟩
          · have hb2 : (bx != 0) = true := by simpa using hb
            go_wp2_with fail
            go_ret
            exact ⟨st_bad 3 (by decide), hbel⟩
  · go_wp2_with fail
    go_ret
    exact ⟨st_bad r hr0 hr, b1⟩
end Go.Proofs.YtbpkffoooieejaaDoor
/- The order of painting: a plain law on trees of frags. No program in sight. -/
namespace Go.Proofs.YtbpkffoooieejaaDoor
section
variable (n : Nat) (kids : Nat → List Nat) (own : Nat → Bool) (srt : List Nat → List Nat)
def belF : Nat → Nat → List Nat
  | 0, _ => []
  | d + 1, f => (kids f).flatMap fun k => k :: (if own k then [] else belF d k)
def seqF : Nat → Nat → List Nat
  | 0, f => [f]
  | d + 1, f => f :: (if own f then (srt (belF kids own n f)).flatMap (seqF d) else [])
def stepsL (g : Nat → Nat → List (Nat × Nat)) : List Nat → Nat → List (Nat × Nat)
  | [], _ => []
  | k :: l, at_ => g k at_ ++ stepsL g l (at_ + (g k at_).length)
def stepsF : Nat → Nat → Nat → List (Nat × Nat)
  | 0, f, at_ => [(f, at_ + 1)]
  | d + 1, f, at_ => (f, at_ + 1 + (if own f then stepsL (stepsF d) (srt (belF kids own n f)) (at_ + 1) else []).length) :: (if own f then stepsL (stepsF d) (srt (belF kids own n f)) (at_ + 1) else [])
def descF : Nat → Nat → List Nat
  | 0, _ => []
  | d + 1, f => (kids f).flatMap fun k => k :: descF d k
theorem stepsL_fst (d : Nat) (ih : ∀ f a, (stepsF n kids own srt d f a).map (·.1) = seqF n kids own srt d f) : ∀ (l : List Nat) (a : Nat), (stepsL (stepsF n kids own srt d) l a).map (·.1) = l.flatMap (seqF n kids own srt d)
  | [], _ => rfl
  | k :: l, a => by rw [stepsL, List.map_append, ih, stepsL_fst d ih l, List.flatMap_cons]
theorem stepsF_fst (d : Nat) : ∀ f a, (stepsF n kids own srt d f a).map (·.1) = seqF n kids own srt d f := by
  induction d with
  | zero => intro f a; rfl
  | succ d ih =>
    intro f a
    rw [stepsF, seqF, List.map_cons]
    congr 1
    split
    · exact stepsL_fst n kids own srt d ih _ _
    · rfl
theorem stepsF_len (d f a : Nat) : (stepsF n kids own srt d f a).length = (seqF n kids own srt d f).length := by rw [← stepsF_fst n kids own srt d f a, List.length_map]
/-- Where steps end: each behind itself, all within the whole, one within the other; and what a step begins is the whole of it. -/
def Lam (a : Nat) (s : List (Nat × Nat)) : Prop :=
  ∀ i (h : i < s.length), a + i < s[i].2 ∧ s[i].2 ≤ a + s.length ∧ ∀ k (hk : k < s.length), i < k → a + k < s[i].2 → s[k].2 ≤ s[i].2
theorem Lam.append {a : Nat} {s t : List (Nat × Nat)} (hs : Lam a s) (ht : Lam (a + s.length) t) : Lam a (s ++ t) := by
  intro i h
  by_cases hi : i < s.length
  · obtain ⟨h1, h2, h3⟩ := hs i hi
    rw [List.getElem_append_left hi]
    refine ⟨h1, by rw [List.length_append]; omega, fun k hk hik hak => ?_⟩
    have hks : k < s.length := by omega
    rw [List.getElem_append_left hks]
    exact h3 k hks hik hak
  · rw [List.length_append] at h
    obtain ⟨h1, h2, h3⟩ := ht (i - s.length) (by omega)
    rw [List.getElem_append_right (by omega)]
    refine ⟨by omega, by rw [List.length_append]; omega, fun k hk hik hak => ?_⟩
    rw [List.length_append] at hk
    rw [List.getElem_append_right (by omega)]
    exact h3 (k - s.length) (by omega) (by omega) (by omega)
theorem Lam.cons {a f : Nat} {s : List (Nat × Nat)} (hs : Lam (a + 1) s) : Lam a ((f, a + 1 + s.length) :: s) := by
  intro i h
  cases i with
  | zero =>
    refine ⟨by simp only [List.getElem_cons_zero]; omega, by simp only [List.getElem_cons_zero, List.length_cons]; omega, fun k hk hik hak => ?_⟩
    obtain ⟨j, rfl⟩ : ∃ j, k = j + 1 := ⟨k - 1, by omega⟩
    have hj : j < s.length := by simpa using hk
    have h2 := (hs j hj).2.1
    simp only [List.getElem_cons_zero, List.getElem_cons_succ]
    omega
  | succ i =>
    have hi : i < s.length := by simpa using h
    obtain ⟨h1, h2, h3⟩ := hs i hi
    simp only [List.getElem_cons_succ, List.length_cons]
    refine ⟨by omega, by omega, fun k hk hik hak => ?_⟩
    obtain ⟨j, rfl⟩ : ∃ j, k = j + 1 := ⟨k - 1, by omega⟩
    simp only [List.getElem_cons_succ]
    exact h3 j (by omega) (by omega) (by omega)
theorem stepsL_lam (d : Nat) (ih : ∀ f a, Lam a (stepsF n kids own srt d f a)) : ∀ (l : List Nat) (a : Nat), Lam a (stepsL (stepsF n kids own srt d) l a)
  | [], _ => fun _ h => absurd h (Nat.not_lt_zero _)
  | k :: l, a => (ih k a).append (stepsL_lam d ih l _)
theorem stepsF_lam (d : Nat) : ∀ f a, Lam a (stepsF n kids own srt d f a) := by
  induction d with
  | zero => exact fun f a => Lam.cons (s := []) (fun i h => absurd h (Nat.not_lt_zero _))
  | succ d ih =>
    intro f a
    rw [stepsF]
    refine Lam.cons ?_
    split
    · exact stepsL_lam n kids own srt d ih _ _
    · exact fun i h => absurd h (Nat.not_lt_zero _)
/-- What a step begins: the steps of its own frag. -/
def Blks (N : Nat) (a : Nat) (s : List (Nat × Nat)) : Prop :=
  ∀ i (h : i < s.length), ∃ d, (s.drop i).take (s[i].2 - (a + i)) = stepsF n kids own srt d s[i].1 (a + i) ∧ N ≤ d + s[i].1
theorem Blks.append {N a : Nat} {s t : List (Nat × Nat)} (hl : Lam a s) (hs : Blks n kids own srt N a s) (ht : Blks n kids own srt N (a + s.length) t) : Blks n kids own srt N a (s ++ t) := by
  intro i h
  by_cases hi : i < s.length
  · obtain ⟨d, h1, h2⟩ := hs i hi
    obtain ⟨l1, l2, _⟩ := hl i hi
    refine ⟨d, ?_, ?_⟩
    · rw [List.getElem_append_left hi, List.drop_append_of_le_length (by omega), List.take_append_of_le_length (by rw [List.length_drop]; omega)]
      exact h1
    · rw [List.getElem_append_left hi]; exact h2
  · rw [List.length_append] at h
    obtain ⟨d, h1, h2⟩ := ht (i - s.length) (by omega)
    refine ⟨d, ?_, ?_⟩
    · rw [List.getElem_append_right (by omega), List.drop_append, List.drop_eq_nil_of_le (by omega), List.nil_append]
      rw [show a + s.length + (i - s.length) = a + i by omega] at h1
      exact h1
    · rw [List.getElem_append_right (by omega)]; exact h2
variable (hk : ∀ f k, k ∈ kids f → f < k ∧ k < n) (hs : ∀ l, (srt l).Perm l)
include hk
theorem belF_mem (d : Nat) : ∀ f k, k ∈ belF kids own d f → f < k ∧ k < n := by
  induction d with
  | zero => intro f k h; cases h
  | succ d ih =>
    intro f k h
    rw [belF, List.mem_flatMap] at h
    obtain ⟨j, hj, h⟩ := h
    have h1 := hk f j hj
    rcases List.mem_cons.1 h with rfl | h
    · exact h1
    · split at h
      · cases h
      · have := ih j k h; omega
include hs
theorem stepsL_blks (d : Nat) (ih : ∀ f a, n ≤ d + f → Blks n kids own srt n a (stepsF n kids own srt d f a)) : ∀ (l : List Nat) (a : Nat), (∀ k ∈ l, n ≤ d + k) → Blks n kids own srt n a (stepsL (stepsF n kids own srt d) l a)
  | [], _, _ => fun i h => absurd h (Nat.not_lt_zero _)
  | k :: l, a, h =>
    have _h1 := hs
    have _h2 := hk
    Blks.append n kids own srt (stepsF_lam n kids own srt d k a) (ih k a (h k (by simp))) (stepsL_blks d ih l _ fun j hj => h j (by simp [hj]))
theorem stepsF_blks (d : Nat) : ∀ f a, n ≤ d + f → Blks n kids own srt n a (stepsF n kids own srt d f a) := by
  induction d with
  | zero =>
    intro f a h i hi
    have hi0 : i = 0 := by simp only [stepsF, List.length_cons, List.length_nil] at hi; omega
    subst hi0
    refine ⟨0, ?_, h⟩
    simp [stepsF]
  | succ d ih =>
    intro f a h i hi
    cases i with
    | zero =>
      refine ⟨d + 1, ?_, by simp only [stepsF, List.getElem_cons_zero]; omega⟩
      simp only [stepsF, List.getElem_cons_zero, List.drop_zero, Nat.add_zero]
      refine List.take_of_length_le ?_
      rw [List.length_cons]; omega
    | succ i =>
      by_cases ho : own f = true
      · have hl := stepsL_blks n kids own srt hk hs d ih (srt (belF kids own n f)) (a + 1) fun k hk2 => by
          have := belF_mem n kids own hk n f k ((hs _).mem_iff.1 hk2)
          omega
        have e : stepsF n kids own srt (d + 1) f a = (f, a + 1 + (stepsL (stepsF n kids own srt d) (srt (belF kids own n f)) (a + 1)).length) :: stepsL (stepsF n kids own srt d) (srt (belF kids own n f)) (a + 1) := by rw [stepsF]; simp only [ho, if_true]
        generalize stepsL (stepsF n kids own srt d) (srt (belF kids own n f)) (a + 1) = t at *
        have hi2 := hi
        rw [e, List.length_cons] at hi2
        obtain ⟨d', h1, h2⟩ := hl i (by omega)
        refine ⟨d', ?_, ?_⟩
        · simp only [e, List.getElem_cons_succ, List.drop_succ_cons]
          rw [show a + (i + 1) = a + 1 + i by omega]
          exact h1
        · simp only [e, List.getElem_cons_succ]; exact h2
      · exfalso
        rw [stepsF] at hi
        simp only [ho, List.length_cons] at hi
        simp at hi
/-- All below a frag stands behind it, if it has steps of its own. -/
theorem bel_perm (d : Nat) (ih : ∀ f e, n ≤ d + f → n ≤ e + f → (seqF n kids own srt d f).Perm (f :: if own f then descF kids e f else [])) (e : Nat) : ∀ f e', n ≤ e + f → n ≤ e' + f → n ≤ d + f + 1 → ((belF kids own e f).flatMap (seqF n kids own srt d)).Perm (descF kids e' f) := by
  have _h1 := hs
  induction e with
  | zero =>
    intro f e' h h' _
    have h0 : kids f = [] := by
      cases hq : kids f with
      | nil => rfl
      | cons k l => have := hk f k (by rw [hq]; simp); omega
    cases e' with
    | zero => exact List.Perm.refl _
    | succ e' => rw [belF, descF, h0]; exact List.Perm.refl _
  | succ e ihe =>
    intro f e' h h' hd
    cases e' with
    | zero =>
      have h0 : kids f = [] := by
        cases hq : kids f with
        | nil => rfl
        | cons k l => have := hk f k (by rw [hq]; simp); omega
      rw [belF, descF, h0]; exact List.Perm.refl _
    | succ e' =>
      rw [belF, descF, List.flatMap_assoc]
      have hp : ∀ l : List Nat, (∀ k ∈ l, f < k) → (l.flatMap fun x => List.flatMap (seqF n kids own srt d) (x :: if own x then [] else belF kids own e x)).Perm (l.flatMap fun k => k :: descF kids e' k) := by
        intro l
        induction l with
        | nil => intro _; exact List.Perm.refl _
        | cons k l ihl =>
          intro hl
          rw [List.flatMap_cons, List.flatMap_cons]
          refine List.Perm.append ?_ (ihl fun j hj => hl j (by simp [hj]))
          have hfk := hl k (by simp)
          show (seqF n kids own srt d k ++ List.flatMap (seqF n kids own srt d) (if own k = true then [] else belF kids own e k)).Perm (k :: descF kids e' k)
          have h1 := ih k e' (by omega) (by omega)
          by_cases ho : own k = true
          · simp only [ho, if_true, List.flatMap_nil, List.append_nil] at h1 ⊢
            exact h1
          · have ho : own k = false := by simpa using ho
            simp only [ho, Bool.false_eq_true, if_false] at h1 ⊢
            have h2 := ihe k e' (by omega) (by omega) (by omega)
            exact (List.Perm.append h1 h2)
      exact hp _ fun k hq => (hk f k hq).1
theorem seqF_perm (d : Nat) : ∀ f e, n ≤ d + f → n ≤ e + f → (seqF n kids own srt d f).Perm (f :: if own f then descF kids e f else []) := by
  induction d with
  | zero =>
    intro f e h h'
    have h0 : kids f = [] := by
      cases hq : kids f with
      | nil => rfl
      | cons k l => have := hk f k (by rw [hq]; simp); omega
    have h1 : descF kids e f = [] := by
      cases e with
      | zero => rfl
      | succ e => rw [descF, h0]; rfl
    rw [seqF, h1]
    split <;> exact List.Perm.refl _
  | succ d ih =>
    intro f e h h'
    rw [seqF]
    refine List.Perm.cons _ ?_
    split
    · exact ((hs _).flatMap_right _).trans (bel_perm n kids own srt hk hs d ih n f e (by omega) h' (by omega))
    · exact List.Perm.refl _
end
section
variable (n : Nat) (par : Nat → Nat)
def kidsF (f : Nat) : List Nat := (List.range n).filter fun i => decide (0 < i) && par i == f
theorem kidsF_mem (f k : Nat) : k ∈ kidsF n par f ↔ k < n ∧ 0 < k ∧ par k = f := by
  simp [kidsF]
variable (hp : ∀ i, 0 < i → i < n → par i < i)
include hp
theorem kidsF_lt (f k : Nat) (h : k ∈ kidsF n par f) : f < k ∧ k < n := by
  obtain ⟨h1, h2, rfl⟩ := (kidsF_mem n par f k).1 h
  exact ⟨hp k h2 h1, h1⟩
theorem desc_lt (e : Nat) : ∀ f i, i ∈ descF (kidsF n par) e f → f < i ∧ i < n := by
  induction e with
  | zero => intro f i h; cases h
  | succ e ih =>
    intro f i h
    rw [descF, List.mem_flatMap] at h
    obtain ⟨j, hj, h⟩ := h
    have h1 := kidsF_lt n par hp f j hj
    rcases List.mem_cons.1 h with rfl | h
    · exact h1
    · have := ih j i h; omega
theorem desc_par (e : Nat) : ∀ f i, i ∈ descF (kidsF n par) e f → par i = f ∨ par i ∈ descF (kidsF n par) e f := by
  have _h1 := hp
  induction e with
  | zero => intro f i h; cases h
  | succ e ih =>
    intro f i h
    rw [descF, List.mem_flatMap] at h
    obtain ⟨j, hj, h⟩ := h
    rcases List.mem_cons.1 h with rfl | h
    · exact .inl ((kidsF_mem n par f i).1 hj).2.2
    · right
      rw [descF, List.mem_flatMap]
      refine ⟨j, hj, ?_⟩
      rcases ih j i h with h | h
      · rw [h]; simp
      · simp [h]
theorem desc_fuel (e : Nat) : ∀ e' f, n ≤ e + f → n ≤ e' + f → descF (kidsF n par) e f = descF (kidsF n par) e' f := by
  induction e with
  | zero =>
    intro e' f h h'
    have h0 : kidsF n par f = [] := by
      cases hq : kidsF n par f with
      | nil => rfl
      | cons k l => have := kidsF_lt n par hp f k (by rw [hq]; simp); omega
    cases e' with
    | zero => rfl
    | succ e' => rw [descF, descF, h0]; rfl
  | succ e ih =>
    intro e' f h h'
    cases e' with
    | zero =>
      have h0 : kidsF n par f = [] := by
        cases hq : kidsF n par f with
        | nil => rfl
        | cons k l => have := kidsF_lt n par hp f k (by rw [hq]; simp); omega
      rw [descF, descF, h0]; rfl
    | succ e' =>
      rw [descF, descF]
      have : ∀ l : List Nat, (∀ k ∈ l, f < k) → (l.flatMap fun k => k :: descF (kidsF n par) e k) = l.flatMap fun k => k :: descF (kidsF n par) e' k := by
        intro l
        induction l with
        | nil => intro _; rfl
        | cons k l ihl =>
          intro hl
          have := hl k (by simp)
          rw [List.flatMap_cons, List.flatMap_cons, ihl fun j hj => hl j (by simp [hj]), ih e' k (by omega) (by omega)]
      exact this _ fun k hk => (kidsF_lt n par hp f k hk).1
theorem desc_kid (i : Nat) (h0 : 0 < i) (hi : i < n) : i ∈ descF (kidsF n par) n (par i) := by
  obtain ⟨m, rfl⟩ : ∃ m, n = m + 1 := ⟨n - 1, by omega⟩
  rw [descF, List.mem_flatMap]
  exact ⟨i, (kidsF_mem _ par _ i).2 ⟨hi, h0, rfl⟩, by simp⟩
theorem desc_up (i k : Nat) (h : i ∈ descF (kidsF n par) n k) (h0 : 0 < k) (hk : k < n) : i ∈ descF (kidsF n par) n (par k) := by
  obtain ⟨m, rfl⟩ : ∃ m, n = m + 1 := ⟨n - 1, by omega⟩
  have e := desc_fuel (m + 1) par hp (m + 1) m k (by omega) (by omega)
  rw [descF, List.mem_flatMap]
  exact ⟨k, (kidsF_mem _ par _ k).2 ⟨hk, h0, rfl⟩, by rw [← e]; simp [h]⟩
theorem desc_all (i : Nat) (h0 : 0 < i) (hi : i < n) : i ∈ descF (kidsF n par) n 0 := by
  have key : ∀ j, j < n → i ∈ descF (kidsF n par) n j → i ∈ descF (kidsF n par) n 0 := by
    intro j
    induction j using Nat.strongRecOn with
    | ind j ih =>
      intro hj h
      rcases Nat.eq_zero_or_pos j with rfl | hj0
      · exact h
      · have h1 := hp j hj0 hj
        exact ih (par j) h1 (by omega) (desc_up n par hp i j h hj0 hj)
  have h1 := hp i h0 hi
  exact key (par i) (by omega) (desc_kid n par hp i h0 hi)
theorem desc_chain (e k k' : Nat) (hkk : k < k') : ∀ i, (i = k ∨ i ∈ descF (kidsF n par) e k) → (i = k' ∨ i ∈ descF (kidsF n par) e k') → k' ∈ descF (kidsF n par) e k := by
  intro i
  induction i using Nat.strongRecOn with
  | ind i ih =>
    intro h h'
    rcases h' with rfl | h'
    · rcases h with rfl | h
      · omega
      · exact h
    · have h1 := desc_lt n par hp e k' i h'
      have h2 := desc_par n par hp e k' i h'
      rcases h with rfl | h
      · omega
      · have h3 := desc_par n par hp e k i h
        exact ih (par i) (hp i (by omega) h1.2) h3 h2
theorem desc_nodup (e : Nat) : ∀ f, (descF (kidsF n par) e f).Nodup := by
  induction e with
  | zero => intro f; exact List.nodup_nil
  | succ e ih =>
    intro f
    rw [descF]
    have hn : (kidsF n par f).Nodup := List.Nodup.sublist List.filter_sublist List.nodup_range
    have : ∀ l : List Nat, l.Nodup → (∀ k ∈ l, k ∈ kidsF n par f) → (l.flatMap fun k => k :: descF (kidsF n par) e k).Nodup := by
      intro l
      induction l with
      | nil => intro _ _; exact List.nodup_nil
      | cons k l ihl =>
        intro hl hm
        rw [List.flatMap_cons, List.nodup_append]
        have hl := List.nodup_cons.1 hl
        refine ⟨List.nodup_cons.2 ⟨fun h => ?_, ih k⟩, ihl hl.2 fun j hj => hm j (by simp [hj]), fun a ha b hb => ?_⟩
        · have := desc_lt n par hp e k k h; omega
        · rintro rfl
          obtain ⟨k', hk', hb⟩ := List.mem_flatMap.1 hb
          have hne : k ≠ k' := by rintro rfl; exact hl.1 hk'
          have p1 := ((kidsF_mem n par f k).1 (hm k (by simp))).2.2
          have p2 := ((kidsF_mem n par f k').1 (hm k' (by simp [hk']))).2.2
          have l1 := kidsF_lt n par hp f k (hm k (by simp))
          have l2 := kidsF_lt n par hp f k' (hm k' (by simp [hk']))
          rcases Nat.lt_or_ge k k' with hlt | hge
          · have h1 := desc_chain n par hp e k k' hlt a (List.mem_cons.1 ha) (List.mem_cons.1 hb)
            rcases desc_par n par hp e k k' h1 with h | h
            · omega
            · have := desc_lt n par hp e k _ h; omega
          · have h1 := desc_chain n par hp e k' k (by omega) a (List.mem_cons.1 hb) (List.mem_cons.1 ha)
            rcases desc_par n par hp e k' k h1 with h | h
            · omega
            · have := desc_lt n par hp e k' _ h; omega
    exact this _ hn fun k h => h
variable (own : Nat → Bool) (srt : List Nat → List Nat) (hs : ∀ l, (srt l).Perm l)
/-- The order of a whole tree. -/
def ordF : List (Nat × Nat) := stepsF n (kidsF n par) own srt n 0 0
include hs
theorem ord_perm (h0 : 0 < n) (ho : own 0 = true) : ((ordF n par own srt).map (·.1)).Perm (List.range n) := by
  unfold ordF
  rw [stepsF_fst]
  refine (seqF_perm n _ own srt (kidsF_lt n par hp) hs n 0 n (by omega) (by omega)).trans ?_
  rw [if_pos ho]
  refine (List.perm_ext_iff_of_nodup (List.nodup_cons.2 ⟨fun h => ?_, desc_nodup n par hp n 0⟩) List.nodup_range).2 fun a => ?_
  · have := desc_lt n par hp n 0 0 h; omega
  · rw [List.mem_cons, List.mem_range]
    constructor
    · rintro (rfl | h)
      · exact h0
      · exact (desc_lt n par hp n 0 a h).2
    · intro h
      rcases Nat.eq_zero_or_pos a with rfl | ha
      · exact .inl rfl
      · exact .inr (desc_all n par hp a ha h)
theorem ord_len (h0 : 0 < n) (ho : own 0 = true) : (ordF n par own srt).length = n := by
  have := (ord_perm n par hp own srt hs h0 ho).length_eq
  simpa using this
theorem ord_first (h0 : 0 < n) (ho : own 0 = true) : ∃ r, ordF n par own srt = (0, n) :: r := by
  have hl := ord_len n par hp own srt hs h0 ho
  unfold ordF at *
  obtain ⟨m, hm⟩ : ∃ m, n = m + 1 := ⟨n - 1, by omega⟩
  have e : ∀ d, d = m + 1 → stepsF n (kidsF n par) own srt d 0 0 = (0, 0 + 1 + (if own 0 then stepsL (stepsF n (kidsF n par) own srt m) (srt (belF (kidsF n par) own n 0)) (0 + 1) else []).length) :: (if own 0 then stepsL (stepsF n (kidsF n par) own srt m) (srt (belF (kidsF n par) own n 0)) (0 + 1) else []) := by
    rintro d rfl; rfl
  rw [e n hm] at hl ⊢
  rw [List.length_cons] at hl
  generalize (if own 0 then stepsL (stepsF n (kidsF n par) own srt m) (srt (belF (kidsF n par) own n 0)) (0 + 1) else []) = t at *
  exact ⟨t, by rw [show 0 + 1 + t.length = n by omega]⟩
theorem ord_lam : Lam 0 (ordF n par own srt) :=
  have _h1 := hs
  have _h2 := hp
  stepsF_lam n _ own srt n 0 0
/-- What has steps of its own has all below it within them. -/
theorem ord_below (h0 : 0 < n) (ho : own 0 = true) (i k a b : Nat) (ha : a < (ordF n par own srt).length) (hb : b < (ordF n par own srt).length) (hk : (ordF n par own srt)[a].1 = k) (hi : (ordF n par own srt)[b].1 = i)
    (hd : i ∈ descF (kidsF n par) n k) (hw : a + 1 < (ordF n par own srt)[a].2) : a < b ∧ b < (ordF n par own srt)[a].2 := by
  have hlam := ord_lam n par hp own srt hs
  have hnd : ((ordF n par own srt).map (·.1)).Nodup := (ord_perm n par hp own srt hs h0 ho).nodup_iff.2 List.nodup_range
  obtain ⟨d, h1, h2⟩ := stepsF_blks n _ own srt (kidsF_lt n par hp) hs n 0 0 (by omega) a ha
  change List.take ((ordF n par own srt)[a].2 - (0 + a)) (List.drop a (ordF n par own srt)) = stepsF n (kidsF n par) own srt d (ordF n par own srt)[a].1 (0 + a) at h1
  change n ≤ d + (ordF n par own srt)[a].1 at h2
  obtain ⟨l1, l2, _⟩ := hlam a ha
  generalize ordF n par own srt = S at *
  rw [hk] at h1 h2
  rw [Nat.zero_add] at h1 l1 l2
  have hdl := desc_lt n par hp n k i hd
  have hlen : (stepsF n (kidsF n par) own srt d k a).length = S[a].2 - a := by
    rw [← h1, List.length_take, List.length_drop]; omega
  have hown : own k = true := by
    cases hq : own k with
    | true => rfl
    | false =>
      exfalso
      cases d with
      | zero => rw [stepsF] at hlen; simp at hlen; omega
      | succ d => rw [stepsF] at hlen; simp [hq] at hlen; omega
  have hseq := seqF_perm n _ own srt (kidsF_lt n par hp) hs d k n h2 (by omega)
  rw [if_pos hown] at hseq
  have hin : i ∈ (stepsF n (kidsF n par) own srt d k a).map (·.1) := by
    rw [stepsF_fst]
    exact hseq.mem_iff.2 (by simp [hd])
  rw [← h1] at hin
  obtain ⟨j, hj, hje⟩ := List.getElem_of_mem hin
  simp only [List.getElem_map, List.getElem_take, List.getElem_drop] at hje
  have hj2 : j < S[a].2 - a := by
    simp only [List.length_map, List.length_take, List.length_drop] at hj; omega
  have hpos : a + j = b := by
    have e1 : (S.map (·.1))[a + j]'(by simp; omega) = (S.map (·.1))[b]'(by simpa using hb) := by
      simp only [List.getElem_map]; rw [hje, hi]
    exact (List.getElem_inj hnd).1 e1
  have hj0 : j ≠ 0 := by
    rintro rfl
    have : k = i := by
      rw [← hk, ← hje]; rfl
    omega
  omega
end
end Go.Proofs.YtbpkffoooieejaaDoor
/- What belongs to a frag: how much it is. No program in sight. -/
namespace Go.Proofs.YtbpkffoooieejaaDoor
theorem nodup_len : ∀ (n : Nat) (l : List Nat), l.Nodup → (∀ x ∈ l, x < n) → l.length ≤ n
  | 0, l, _, h => by
    cases l with
    | nil => simp
    | cons a l => exact absurd (h a (by simp)) (Nat.not_lt_zero _)
  | n + 1, l, hn, h => by
    have h1 := nodup_len n (l.erase n) (hn.erase n) fun x hx => by
      have h2 := h x (List.mem_of_mem_erase hx)
      have h3 : x ≠ n := (hn.mem_erase_iff.1 hx).1
      omega
    rw [List.length_erase] at h1
    split at h1 <;> omega
theorem bel_sub (kids : Nat → List Nat) (own : Nat → Bool) (d : Nat) : ∀ f, (belF kids own d f).Sublist (descF kids d f) := by
  induction d with
  | zero => intro f; exact List.Sublist.refl _
  | succ d ih =>
    intro f
    rw [belF, descF]
    induction kids f with
    | nil => exact List.Sublist.refl _
    | cons k l ihl =>
      rw [List.flatMap_cons, List.flatMap_cons]
      refine List.Sublist.append (List.Sublist.cons_cons k ?_) ihl
      split
      · exact List.nil_sublist _
      · exact ih k
theorem desc_len (n : Nat) (par : Nat → Nat) (hp : ∀ i, 0 < i → i < n → par i < i) (e f : Nat) : (descF (kidsF n par) e f).length ≤ n :=
  nodup_len n _ (desc_nodup n par hp e f) fun i hi => (desc_lt n par hp e f i hi).2
theorem bel_len (n : Nat) (par : Nat → Nat) (hp : ∀ i, 0 < i → i < n → par i < i) (own : Nat → Bool) (d f : Nat) : (belF (kidsF n par) own d f).length ≤ n :=
  Nat.le_trans (bel_sub _ own d f).length_le (desc_len n par hp d f)
/-- What the first kids bring. -/
def belP (kids : Nat → List Nat) (own : Nat → Bool) (d f j : Nat) : List Nat := ((kids f).take j).flatMap fun k => k :: (if own k then [] else belF kids own d k)
theorem belP_zero (kids : Nat → List Nat) (own : Nat → Bool) (d f : Nat) : belP kids own d f 0 = [] := by simp [belP]
theorem belP_all (kids : Nat → List Nat) (own : Nat → Bool) (d f : Nat) : belP kids own d f (kids f).length = belF kids own (d + 1) f := by rw [belP, List.take_length, belF]
theorem belP_succ (kids : Nat → List Nat) (own : Nat → Bool) (d f j k : Nat) (hj : (kids f)[j]? = some k) : belP kids own d f (j + 1) = belP kids own d f j ++ k :: (if own k then [] else belF kids own d k) := by
  rw [belP, belP, List.take_add_one, hj, List.flatMap_append]
  simp
theorem belP_len (kids : Nat → List Nat) (own : Nat → Bool) (d f j : Nat) : (belP kids own d f j).length ≤ (belF kids own (d + 1) f).length := by
  rw [belF, belP]
  conv => rhs; rw [← List.take_append_drop j (kids f), List.flatMap_append, List.length_append]
  exact Nat.le_add_right _ _
end Go.Proofs.YtbpkffoooieejaaDoor
/- One element is appended in a region that draws its order; rows of other types stay. No program in sight. -/
namespace Go.Proofs.YtbpkffoooieejaaDoor
open Go.RowKit
theorem step_app1 {P : Program} {w : World} {ops : Array Oper} {o : Oper} {a : Act} {K : Act → World → Prop} {Q : Exit → Act → World → Prop} {E : Prop} (hgd : o.guard = none) (s x : Operand) (t : TypeId)
    (ho : o.op = .call { callee := .builtin .append, args := #[s, x], argTypes := #[t, t] }) (base : Nat) (e : TypeId) (z : Value) (size bytes : Nat) (ht : P.underlying t = some (.slice e))
    (hinfo : (P.info? e).map (fun i => (i.zero, i.size, i.bytes)) = some (some z, size, bytes)) (hzs : z.cells.size = size) (hsz : 0 < size)
    (v : Value) (n : Nat) (xs : List Value) (hs : a.eval s = v) (hown : w.ownsRow base e size v n xs) (g c : Nat) (cs : Array Value) (hb : Blk w g e cs) (hcs : cs.size = size) (hx : a.eval x = .slice (some ⟨g, 0, none⟩) 1 c)
    (h1 : cs.toList.all (·.oneCell') = true) (hn : n ≤ 1000000) (hby : bytes ≤ 1000) (hbase : base ≤ w.heap.size)
    (h : ∀ v' w', w'.ownsRow base e size v' (n + 1) (xs ++ cs.toList) → w.grownBy w' v.ownBlock → K (a.put o.dst v') w') : if Region.wanted o (yielded ops a.tmps) = true then Oper.wp P o a w K Q else E := by
  obtain ⟨i, hi, hz, hsize, hbytes⟩ := info_parts hinfo
  refine step_append_any w hgd s x t ho base e i z size bytes ht hi hz hsize hbytes hzs hsz v n xs hs hown (g + 1) (some ⟨g, 0, none⟩) 1 c cs.toList hx (reads_blk hb size hcs) (List.all_eq_true.1 h1) (by simp only [maxLen]; omega) ?_ hbase fun v' w' h2 h3 _ => h v' w' h2 h3
  have := Nat.mul_le_mul (show n + 1 ≤ 1000001 by omega) hby
  omega
theorem own_other {w w' : World} {b1 b2 s1 s2 n1 n2 : Nat} {e1 e2 : TypeId} {v1 v2 : Value} {x1 x2 : List Value} (h1 : w.ownsRow b1 e1 s1 v1 n1 x1) (h2 : w.ownsRow b2 e2 s2 v2 n2 x2) (hne : e1 ≠ e2) (hg : w.grownBy w' v2.ownBlock) : w'.ownsRow b1 e1 s1 v1 n1 x1 := by
  rcases h2.2 with ⟨rfl, _⟩ | ⟨g, cap, cur, rfl, _, hh, _⟩
  · by_cases hb : v1.ownBlock = none
    · exact h1.kept hg (.inl hb)
    · exact h1.kept hg (.inr (by simpa [Value.ownBlock] using hb))
  · exact h1.kept hg (.inr (own_blk_ne h1 hh hne))
end Go.Proofs.YtbpkffoooieejaaDoor
/- Styles by value, where no fix is in the program: an array of 59 values of two cells. The walk of boxes.Out. -/
namespace Go.Proofs.YtbpkffoooieejaaDoor
open Go.ChangeShapes Go.WideShapes Go.ChangeAt Go.RowKit
/-- The cells of a style. -/
def styA (R : Nat → Int) : Array Value := ((List.range 118).map fun j => Value.int .i64 (R j)).toArray
theorem styA_size (R : Nat → Int) : (styA R).size = 118 := by simp [styA]
theorem styA_at (R : Nat → Int) {j : Nat} (h : j < 118) : (styA R)[j]? = some (.int .i64 (R j)) := by simp [styA, h]
theorem sty_cell {w : World} {g j : Nat} {t : TypeId} {R : Nat → Int} (h : Blk w g t (styA R)) (hj : j < 118) : w.cell? ⟨g, j, none⟩ = some (.int .i64 (R j)) := by rw [h.cell, styA_at R hj]
/-- Who is out of the flow. -/
def outF (R : Nat → Int) : Int := if R 3 = 2 ∨ R 3 = 3 then 2 else if R 5 = 1 ∨ R 5 = 2 then 1 else 0
theorem Out_any (R : Nat → Int) (w : World) : Calls Tryd.prog 11 #[.agg (styA R)] w fun e w' => e = .returned (.int .i64 (outF R)) ∧ w' = w.alloc (.cells (styA R) 50) := by
  have hB := Blk.new w 50 (styA R)
  have q3 := sty_cell hB (j := 3) (by omega)
  have q5 := sty_cell hB (j := 5) (by omega)
  have HO := hide (show outF R = if R 3 = 2 ∨ R 3 = 3 then 2 else if R 5 = 1 ∨ R 5 = 2 then 1 else 0 from rfl)
  clear hB
  generalize outF R = o at *
  generalize R 3 = a at *
  generalize R 5 = b at *
  by_cases a2 : a = 2
  · subst a2
    have h : o = 2 := HO.out
    go_enter Tryd.func11, Tryd.ntmps11
    go_wp2
    go_ret
    exact ⟨rfl, rfl⟩
  · by_cases a3 : a = 3
    · subst a3
      have h : o = 2 := HO.out
      go_enter Tryd.func11, Tryd.ntmps11
      go_wp2
      go_ret
      exact ⟨rfl, rfl⟩
    · rw [if_neg (by omega)] at HO
      have g2 : (a == 2) = false := by simpa using a2
      have g3 : (a == 3) = false := by simpa using a3
      by_cases b1 : b = 1
      · subst b1
        have h : o = 1 := HO.out
        go_enter Tryd.func11, Tryd.ntmps11
        go_wp2
        go_ret
        exact ⟨rfl, rfl⟩
      · by_cases b2 : b = 2
        · subst b2
          have h : o = 1 := HO.out
          go_enter Tryd.func11, Tryd.ntmps11
          go_wp2
          go_ret
          exact ⟨rfl, rfl⟩
        · rw [if_neg (by omega)] at HO
          have g4 : (b == 1) = false := by simpa using b1
          have g5 : (b == 2) = false := by simpa using b2
          have h := HO.out
          go_enter Tryd.func11, Tryd.ntmps11
          go_wp2
          go_ret
          exact ⟨by rw [h]; rfl, rfl⟩
end Go.Proofs.YtbpkffoooieejaaDoor
/- The walks of stack.floor and stack.marked: a mark, whatever it is. -/
namespace Go.Proofs.YtbpkffoooieejaaDoor
open Go.ChangeShapes Go.WideShapes Go.ChangeAt Go.RowKit
theorem floor_any (n : Int) (w : World) : Calls Tryd.prog 30 #[.int .i64 n, .int .i64 1000] w fun e w' => (∃ r, e = .returned (.int .i64 r)) ∧ w' = w := by
  go_enter Tryd.func30, Tryd.ntmps30
  go_wp2
  all_goals go_ret
  all_goals exact ⟨⟨_, rfl⟩, rfl⟩
theorem mk_u : Tryd.prog.underlying 69 = some (.struct (Tryd.prog.fieldsOf 69)) := by kernel_rfl
theorem mk_i (a b c : Int) : (Tryd.prog.info? 69).map (·.size) = some (#[Value.int .i64 a, .int .i64 b, .int .i64 c] : Array Value).size := by kernel_rfl
theorem sty_u : Tryd.prog.underlying 50 = some (.array 59 48) := by kernel_rfl
theorem sty_i (R : Nat → Int) : (Tryd.prog.info? 50).map (·.size) = some (styA R).size := by rw [styA_size]; kernel_rfl
theorem wpList_load_sty {ops : Array Oper} {rest : List Oper} {o : Oper} {a : Act} {w : World} {Q : Exit → Act → World → Prop} (hgd : o.guard = none) (x : Operand) (ho : o.op = .load 50 x)
    (g : Nat) (hx : a.eval x = .pointer (some ⟨g, 0, none⟩)) (R : Nat → Int) (hg : Blk w g 50 (styA R))
    (h : wpList Tryd.prog ops Q rest (a.put o.dst (.agg (styA R))) w) : wpList Tryd.prog ops Q (o :: rest) a w :=
  wpList_load_row hgd 50 x ho g hx _ (styA R) (0, 0) _ hg sty_u rfl (sty_i R) h
theorem blk_two (w : World) (o : Obj) (cs : Array Value) (t : TypeId) : Blk ((w.alloc o).alloc (.cells cs t)) (w.heap.size + 1) t cs := by
  have h := Blk.new (w.alloc o) t cs
  rwa [show (w.alloc o).heap.size = w.heap.size + 1 by simp] at h
set_option maxRecDepth 100000 in
set_option maxHeartbeats 4000000 in
theorem marked_any (kind : Int) (R : Nat → Int) (w : World) : Calls Tryd.prog 17 #[.int .i64 kind, .agg (styA R)] w fun e w' => (∃ i z p, e = .returned (.agg #[.int .i64 i, .int .i64 z, .int .i64 p])) ∧ Below w.heap.size w w' := by
  have hB := Blk.new w 50 (styA R)
  have hb := (Below.refl w.heap.size w).alloc (Nat.le_refl _) (.cells (styA R) 50)
  have HB := hide hB
  have q3 := styA_at R (j := 3) (by omega)
  have q62 := styA_at R (j := 62) (by omega)
  have q63 := styA_at R (j := 63) (by omega)
  have q65 := styA_at R (j := 65) (by omega)
  have q69 := styA_at R (j := 69) (by omega)
  have hs : (w.alloc (.cells (styA R) 50)).heap.size = w.heap.size + 1 := by simp
  clear hB
  generalize R 3 = r3 at *
  generalize R 62 = r62 at *
  generalize R 63 = r63 at *
  generalize R 65 = r65 at *
  generalize R 69 = r69 at *
  have HBk := hide ((HB.out.alloc (.cells #[.int .i64 0, .int .i64 0, .int .i64 0] 69)).alloc (.cells #[.int .i64 0, .int .i64 0, .int .i64 1] 69))
  go_enter Tryd.func17, Tryd.ntmps17
  go_wp2_with (first | (go_at_call 11; refine (Out_any _ _).mono ?_; rintro e w9 ⟨rfl, rfl⟩) | (go_at_call 30; refine (floor_any _ _).mono ?_; rintro e w9 ⟨⟨r, rfl⟩, rfl⟩) | (refine wpList_load_sty rfl _ rfl w.heap.size rfl R HBk.out ?_) | fail)
  all_goals
    first
    | (refine bodyPost_ret (results_cell_row rfl _ _ (w.heap.size + 1) 69 #[.int .i64 _, .int .i64 _, .int .i64 _] (0, 0) _ rfl ((blk_two w _ _ _).alloc _) mk_u rfl (mk_i _ _ _)) rfl ?_
       exact ⟨⟨_, _, _, rfl⟩, by go_grown⟩)
    | (refine bodyPost_ret (results_cell_row rfl _ _ (w.heap.size + 1) 69 #[.int .i64 _, .int .i64 _, .int .i64 _] (0, 0) _ rfl (((blk_two w _ _ _).alloc _).alloc _) mk_u rfl (mk_i _ _ _)) rfl ?_
       exact ⟨⟨_, _, _, rfl⟩, by go_grown⟩)
end Go.Proofs.YtbpkffoooieejaaDoor
