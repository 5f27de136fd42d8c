/- Plain facts on how wide parts and groups of parts are, and on the least and the greatest width. No program in sight. -/
import Derived.Test.YtadlabndbomgmaaLinesPlain
namespace Go.Proofs.Ytadlabndbomgmaa
open Go.Lib
def ItOk (x : It) : Prop := x.text.size ≤ 60 ∧ 0 ≤ x.size ∧ x.size ≤ 65535 ∧ 0 ≤ x.spacing ∧ x.spacing ≤ 255 ∧ 0 ≤ x.height ∧ x.height ≤ 65535 ∧ -128 ≤ x.shift ∧ x.shift ≤ 127 ∧ 0 ≤ x.w ∧ x.w ≤ 65535 ∧ 0 ≤ x.h ∧ x.h ≤ 65535
def ItsOk (xs : List It) : Prop := xs.length ≤ 25 ∧ ∀ x ∈ xs, ItOk x
theorem it0_ok : ItOk it0 := by
  have h : (ByteArray.empty).size = 0 := rfl
  unfold ItOk it0
  simp only [h]
  omega
theorem itAt_ok {xs : List It} (h : ItsOk xs) (k : Nat) : ItOk (itAt xs k) := by
  by_cases hk : k < xs.length
  · rw [itAt_of xs k hk]; exact h.2 _ (List.getElem_mem hk)
  · have : itAt xs k = it0 := by simp [itAt, List.getD, List.getElem?_eq_none (Nat.le_of_not_lt hk)]
    rw [this]; exact it0_ok
theorem wideS_pos (size sp : Int) (h : 0 ≤ sp) (l : List Int) : 0 ≤ wideS size sp l := by
  induction l with
  | nil => exact Int.le_refl _
  | cons r l ih => have := adv_bd r size; simp only [wideS] at ih ⊢; omega
theorem txW_eq {x : It} (hx : ItOk x) (t : ByteArray) (ht : t.size ≤ 60) : txW x t = wideS x.size x.spacing (runesL t.data.toList) ∧ 0 ≤ txW x t ∧ txW x t ≤ 7895000 := by
  unfold ItOk at hx
  have hl := runesL_len t.data.toList.length t.data.toList (Nat.le_refl _)
  have ht2 : t.data.toList.length ≤ 60 := by rw [Array.length_toList]; exact ht
  have hc : cut x.spacing = x.spacing := by unfold cut; omega
  have hs : sizeF x.size = x.size := by unfold sizeF cut; omega
  have h0 := wideS_pos x.size x.spacing (by omega) (runesL t.data.toList)
  have h1 := (wideS_bd x.size x.spacing 65535 (by omega) (by omega) (by omega) (runesL t.data.toList)).2
  have e : txW x t = cut (wideS x.size x.spacing (runesL t.data.toList)) := by unfold txW widthF; rw [hc]
  rw [e]
  generalize wideS x.size x.spacing (runesL t.data.toList) = n at *
  generalize (runesL t.data.toList).length = k at *
  unfold cut
  omega
theorem txW_space {x : It} (hx : ItOk x) (t : ByteArray) (ht : t.size ≤ 60) (he : spaceEnd t = true) : txW x (t.extract 0 (t.size - 1)) ≤ txW x t ∧ 0 ≤ txW x (t.extract 0 (t.size - 1)) := by
  unfold spaceEnd at he
  have he2 : t.data.toList.getLast? = some 32 := by simpa using he
  have hne : t.data.toList ≠ [] := by intro h; rw [h] at he2; cases he2
  have hsz : t.data.toList.length = t.size := Array.length_toList
  have e1 : t.data.toList = t.data.toList.dropLast ++ [32] := by
    have h1 := List.dropLast_concat_getLast hne
    have h2 : t.data.toList.getLast hne = 32 := by rw [List.getLast?_eq_some_getLast hne] at he2; injection he2
    rw [h2] at h1; exact h1.symm
  have e2 : (t.extract 0 (t.size - 1)).data.toList = t.data.toList.dropLast := by
    simp
  have hs2 : (t.extract 0 (t.size - 1)).size ≤ 60 := by
    have := congrArg List.length e2
    rw [List.length_dropLast] at this
    show (t.extract 0 (t.size - 1)).data.size ≤ 60
    rw [← Array.length_toList, this]
    omega
  have h1 := txW_eq hx t ht
  have h2 := txW_eq hx _ hs2
  have hr : runesL t.data.toList = runesL (t.extract 0 (t.size - 1)).data.toList ++ [32] := by
    rw [e2]
    conv => lhs; rw [e1]
    exact runes_space _ _ (Nat.le_refl _)
  rw [hr, wideS_append] at h1
  have h3 := wideS_pos x.size x.spacing (by unfold ItOk at hx; omega) [32]
  omega
theorem pcs_le (s : ByteArray) : ∀ (l : List Nat) (a : Nat), ∀ p ∈ pcs s a l, p.size ≤ s.size
  | [], _ => by intro p hp; simp [pcs] at hp
  | b :: r, a => by
    intro p hp
    simp only [pcs] at hp
    split at hp
    · rcases List.mem_cons.1 hp with rfl | hp
      · simp only [ByteArray.size_extract]; omega
      · exact pcs_le s r b p hp
    · exact pcs_le s r a p hp
theorem pieces_le (s : ByteArray) (wr ke : Bool) : ∀ p ∈ piecesF s wr ke, p.size ≤ s.size := pcs_le s _ 0
theorem pieces_count (s : ByteArray) (wr ke : Bool) : (piecesF s wr ke).length ≤ s.size := by
  have h1 := pieces_join s wr ke
  have h2 := pieces_some s wr ke
  have h3 : ∀ l : List ByteArray, (∀ p ∈ l, 0 < p.size) → l.length ≤ ((l.map (·.data.toList)).flatten).length := by
    intro l
    induction l with
    | nil => intro _; exact Nat.zero_le _
    | cons p l ih =>
      intro h
      have h4 := ih fun q hq => h q (by simp [hq])
      have h5 := h p (by simp)
      have h6 : p.data.toList.length = p.size := Array.length_toList
      simp only [List.map_cons, List.flatten_cons, List.length_append, List.length_cons]
      omega
  have h4 := h3 _ h2
  rw [h1] at h4
  have h5 : s.data.toList.length = s.size := Array.length_toList
  omega
/-- A part's width and its last blank's. -/
def PtOk (xs : List It) (p : Pt) : Prop := 0 ≤ p.w ∧ p.w ≤ 16777216 ∧ 0 ≤ tailF xs p ∧ tailF xs p ≤ p.w ∧ p.t.size ≤ 60
theorem textParts_mem (i : Nat) (x : It) : ∀ (l : List ByteArray) (n : Nat), ∀ p ∈ textParts i x n l, p.i = i ∧ p.t ∈ l ∧ p.w = txW x p.t
  | [], _ => by intro p hp; simp [textParts] at hp
  | t :: r, n => by
    intro p hp
    simp only [textParts, List.mem_cons] at hp
    rcases hp with rfl | hp
    · exact ⟨rfl, by simp, rfl⟩
    · obtain ⟨h1, h2, h3⟩ := textParts_mem i x r (n - 1) p hp
      exact ⟨h1, by simp [h2], h3⟩
theorem textParts_len (i : Nat) (x : It) : ∀ (l : List ByteArray) (n : Nat), (textParts i x n l).length = l.length
  | [], _ => rfl
  | _ :: r, n => by simp [textParts, textParts_len i x r (n - 1)]
theorem tail_zero (xs : List It) (p : Pt) (h : pKind xs p ≠ 1) : tailF xs p = 0 := by
  unfold tailF collF
  simp [h]
theorem partsOf_ok {xs : List It} (h : ItsOk xs) (i : Nat) : ∀ p ∈ partsOf i (itAt xs i), p.i = i ∧ PtOk xs p := by
  have hx := itAt_ok h i
  intro p hp
  unfold partsOf at hp
  have hxw : 0 ≤ (itAt xs i).w ∧ (itAt xs i).w ≤ 65535 := by unfold ItOk at hx; omega
  by_cases h1 : (itAt xs i).kind = 1
  · rw [if_pos h1] at hp
    obtain ⟨e1, e2, e3⟩ := textParts_mem i _ _ _ p hp
    have hsz : p.t.size ≤ 60 := Nat.le_trans (pieces_le _ _ _ _ e2) hx.1
    have hw := txW_eq hx p.t hsz
    refine ⟨e1, by omega, by omega, ?_, ?_, hsz⟩
    · unfold tailF
      split
      · rename_i hc
        rw [e1, e3]
        have hs : spaceEnd p.t = true := by
          rw [Bool.and_eq_true] at hc
          have := hc.2
          unfold endsF at this
          rw [Bool.and_eq_true] at this
          exact this.2
        have := txW_space hx p.t hsz hs
        omega
      · exact Int.le_refl _
    · unfold tailF
      split
      · rename_i hc
        rw [e1, e3]
        have hs : spaceEnd p.t = true := by
          rw [Bool.and_eq_true] at hc
          have := hc.2
          unfold endsF at this
          rw [Bool.and_eq_true] at this
          exact this.2
        have := txW_space hx p.t hsz hs
        omega
      · omega
  · rw [if_neg h1] at hp
    have key : ∀ w : Int, 0 ≤ w → w ≤ 16777216 → p = ⟨i, ByteArray.empty, w, true⟩ → p.i = i ∧ PtOk xs p := by
      intro w hw0 hw1 e
      have e1 : p.i = i := by rw [e]
      have e2 : tailF xs p = 0 := tail_zero xs p (by unfold pKind; rw [e1]; exact h1)
      refine ⟨e1, ?_, ?_, ?_, ?_, ?_⟩
      · rw [e]; exact hw0
      · rw [e]; exact hw1
      · rw [e2]; exact Int.le_refl _
      · rw [e2, e]; exact hw0
      · rw [e]; exact Nat.zero_le _
    by_cases h2 : (itAt xs i).kind = 6 ∨ (itAt xs i).kind = 7 ∨ (itAt xs i).kind = 5
    · rw [if_pos h2] at hp
      exact key 0 (Int.le_refl _) (by decide) (by simpa using hp)
    · rw [if_neg h2] at hp
      by_cases h3 : (itAt xs i).kind = 4
      · rw [if_pos h3] at hp
        exact key (max 0 (cut (itAt xs i).w)) (by omega) (by unfold cut; omega) (by simpa using hp)
      · rw [if_neg h3] at hp
        exact key (cut (itAt xs i).w) (by unfold cut; omega) (by unfold cut; omega) (by simpa using hp)
theorem partsOf_len {xs : List It} (h : ItsOk xs) (i : Nat) : (partsOf i (itAt xs i)).length ≤ 60 := by
  have hx := itAt_ok h i
  unfold partsOf
  split
  · rw [textParts_len]; exact Nat.le_trans (pieces_count _ _ _) hx.1
  · split
    · simp
    · split <;> simp
theorem partsTo_ok {xs : List It} (h : ItsOk xs) (k : Nat) (hk : k ≤ xs.length) : (∀ p ∈ partsTo xs k, p.i < k ∧ PtOk xs p) ∧ (partsTo xs k).length ≤ k * 60 := by
  induction k with
  | zero => exact ⟨fun p hp => by simp [partsTo] at hp, by simp [partsTo]⟩
  | succ k ih =>
    obtain ⟨h1, h2⟩ := ih (by omega)
    have h3 := partsOf_len h k
    rw [partsTo_next]
    refine ⟨fun p hp => ?_, by rw [List.length_append, Nat.succ_mul]; omega⟩
    rcases List.mem_append.1 hp with hp | hp
    · have := h1 p hp; exact ⟨by omega, this.2⟩
    · have := partsOf_ok h k p hp; exact ⟨by omega, this.2⟩
theorem widthG_cons (p : Pt) (r : List Pt) : widthG (p :: r) = p.w + widthG r := by simp [widthG]
theorem widthG_append (l r : List Pt) : widthG (l ++ r) = widthG l + widthG r := by simp [widthG]
theorem widthG_rev (l : List Pt) : widthG l.reverse = widthG l := by
  induction l with
  | nil => rfl
  | cons p l ih => rw [List.reverse_cons, widthG_append, ih, widthG_cons]; simp [widthG]; omega
theorem tailG_ok {xs : List It} (l : List Pt) (h : ∀ p ∈ l, PtOk xs p) : 0 ≤ tailG xs l ∧ tailG xs l ≤ widthG l ∧ widthG l ≤ 16777216 * l.length ∧ 0 ≤ widthG l := by
  induction l with
  | nil => simp [tailG, widthG]
  | cons p l ih =>
    have h1 := h p (by simp)
    have h2 := ih fun q hq => h q (by simp [hq])
    unfold PtOk at h1
    rw [widthG_cons, List.length_cons]
    simp only [tailG]
    split <;> omega
/-- The least and the greatest width of groups: width, last blank, must the line end? -/
structure Sz where
  least : Int
  most : Int
  sum : Int
  fin : Int
def szStep (st : Sz) (g : Int × Int × Bool) : Sz :=
  let fin := st.sum + g.1 - g.2.1
  if g.2.2 then ⟨max st.least (g.1 - g.2.1), max st.most fin, 0, 0⟩ else ⟨max st.least (g.1 - g.2.1), st.most, st.sum + g.1, fin⟩
def szTo (gs : List (Int × Int × Bool)) : Sz := gs.foldl szStep ⟨0, 0, 0, 0⟩
theorem szTo_snoc (gs : List (Int × Int × Bool)) (g : Int × Int × Bool) : szTo (gs ++ [g]) = szStep (szTo gs) g := by simp [szTo]
def SzOk (n : Nat) (s : Sz) : Prop := 0 ≤ s.least ∧ s.least ≤ max s.most s.fin ∧ 0 ≤ s.fin ∧ s.fin ≤ s.sum ∧ 0 ≤ s.most ∧ s.least ≤ 100000000000 * n ∧ s.most ≤ 100000000000 * n ∧ s.sum ≤ 100000000000 * n
def GsOk (gs : List (Int × Int × Bool)) : Prop := ∀ g ∈ gs, 0 ≤ g.2.1 ∧ g.2.1 ≤ g.1 ∧ g.1 ≤ 100000000000
theorem szTo_ok (gs : List (Int × Int × Bool)) (h : GsOk gs) (k : Nat) (hk : k ≤ gs.length) : SzOk k (szTo (gs.take k)) := by
  induction k with
  | zero => simp [szTo, SzOk]
  | succ k ih =>
    have h1 := ih (by omega)
    have hlt : k < gs.length := by omega
    have h2 := h _ (List.getElem_mem hlt)
    rw [List.take_succ_eq_append_getElem hlt, szTo_snoc]
    generalize szTo (gs.take k) = s at *
    generalize gs[k] = g at *
    obtain ⟨w, t, m⟩ := g
    unfold SzOk at h1 ⊢
    simp only at h2
    unfold szStep
    cases m <;> simp only [if_true, if_false, Bool.false_eq_true] <;> omega
theorem sizes_law (gs : List (Int × Int × Bool)) (h : GsOk gs) : 0 ≤ cut (szTo gs).least ∧ cut (szTo gs).least ≤ cut (max (szTo gs).most (szTo gs).fin) := by
  have := szTo_ok gs h gs.length (Nat.le_refl _)
  rw [List.take_length] at this
  unfold SzOk at this
  unfold cut
  omega
section
variable (xs : List It)
def gData (ps : List Pt) (g : Nat × Nat) : Int × Int × Bool := (widthG (segP ps g), tailG xs (segP ps g).reverse, pKind xs (ptAt ps (g.2 - 1)) == 6)
def groupsD : List (Int × Int × Bool) := (groupsTo xs (partsTo xs xs.length) (partsTo xs xs.length).length).1.map (gData xs (partsTo xs xs.length))
end
theorem groups_ok (xs : List It) (ps : List Pt) (k : Nat) (hk : k ≤ ps.length) : (groupsTo xs ps k).2 ≤ k ∧ (∀ g ∈ (groupsTo xs ps k).1, g.1 < g.2 ∧ g.2 ≤ k) ∧ (groupsTo xs ps k).1.length ≤ k := by
  induction k with
  | zero => simp [groupsTo]
  | succ k ih =>
    obtain ⟨h1, h2, h3⟩ := ih (by omega)
    simp only [groupsTo]
    split
    · refine ⟨Nat.le_refl _, fun g hg => ?_, by simp; omega⟩
      rcases List.mem_append.1 hg with hg | hg
      · have := h2 g hg; omega
      · obtain rfl : g = ((groupsTo xs ps k).2, k + 1) := by simpa using hg
        simp only; omega
    · exact ⟨by omega, fun g hg => by have := h2 g hg; omega, by omega⟩
theorem segP_mem {ps : List Pt} {g : Nat × Nat} : ∀ p ∈ segP ps g, p ∈ ps := fun _ hp => List.mem_of_mem_drop (List.mem_of_mem_take hp)
theorem groupsD_ok {xs : List It} (h : ItsOk xs) : GsOk (groupsD xs) := by
  obtain ⟨h1, h2⟩ := partsTo_ok h xs.length (Nat.le_refl _)
  intro g hg
  unfold groupsD at hg
  obtain ⟨q, hq, rfl⟩ := List.mem_map.1 hg
  have h3 : ∀ p ∈ (segP (partsTo xs xs.length) q).reverse, PtOk xs p := fun p hp => (h1 p (segP_mem p (List.mem_reverse.1 hp))).2
  have h4 := tailG_ok _ h3
  rw [widthG_rev] at h4
  have h5 : (segP (partsTo xs xs.length) q).length ≤ (partsTo xs xs.length).length := by unfold segP; rw [List.length_take, List.length_drop]; omega
  have h6 := h.1
  have h7 : (segP (partsTo xs xs.length) q).reverse.length ≤ 1500 := by rw [List.length_reverse]; omega
  unfold gData
  simp only
  generalize (segP (partsTo xs xs.length) q).reverse.length = n at *
  omega
end Go.Proofs.Ytadlabndbomgmaa
