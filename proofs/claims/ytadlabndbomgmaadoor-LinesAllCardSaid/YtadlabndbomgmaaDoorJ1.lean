/- Parts of the proof, joined: BreaksPlain, HandAS, Joined, Plain, Bits, FloatsPlain, FontPlain, RasterPlain, GlyphPlain, Share, ShelfA, ShelfC, Sums, TextPlain, FitPlain, LinesPlain, SizesPlain, BrkPlain, WhitePlain, WhiteTwicePlain. -/
import Derived.Lib.OthersKept
import Derived.Lib.DecodeN
import Derived.Lib.Bytealg
import Derived.Handed
import Derived.HandedShaped
import Derived.Test.YtadlabndbomgmaaDoorRows
import Derived.JoinedOf
import Derived.KernelRfl
import Derived.WalkKit
import Derived.Laws.Bits64b
import Derived.Laws.Shifts
import Derived.Shelf.Strings.Builder1
import Derived.Shelf.Strings.Builder2
import Derived.Shelf.Small.Utf8
import Derived.Shelf.Small.Strs
import Derived.Shelf.Strings.BuilderF
import Derived.Shelf.Strings.BuilderK
import Derived.Shelf.Utf8.RuneCount
import Derived.Shelf.Strings.Search1
import Derived.Shelf.Strings.Search2
import Derived.Shelf.Strings.Search3
import Derived.Shelf.Strings.Count
import Derived.Shelf.LaysM
import Derived.Shelf.Strings.Shaped
import Derived.Shelf.Strings.Prefix
import Derived.Shelf.Strings.Split
import Derived.Shelf.Strings.Replace
import Derived.Shelf.Strings.SplitShaped
import Derived.Shelf.Unicode.Decode
import Derived.Shelf.Strings.Runes
import Derived.Shelf.Strings.RuneCount
import Derived.Shelf.Strings.Explode
import Derived.Shelf.Unicode.DecodeSlow
import Derived.Shelf.Unicode.DecodeAny
import Derived.Test.YtadlabndbomgmaaDoorProg
import Derived.Lib.MapLaws
import Derived.Lib.ValidLaws
import Derived.Lib.TrimUEq
import Derived.Lib.IndexBytes
import Derived.Lib.IndexMore
import Derived.Lib.Strings
set_option linter.unusedVariables false
set_option linter.unusedSimpArgs false
/- Plain facts on where a text may be broken. No program in sight. -/
namespace Go.Proofs.YtadlabndbomgmaaDoor
def otherF (r : Int) : Bool := (r != 32 && r != 45) && r != 10
def wideF (a b : Int) : Bool := (decide (4352 ≤ a) && otherF b) || (decide (4352 ≤ b) && otherF a)
def isLetterF (r : Int) : Bool := (decide (97 ≤ r) && decide (r ≤ 122)) || (decide (65 ≤ r) && decide (r ≤ 90))
def mayF (a b : Int) : Bool := if a = 32 then b != 32 else if a = 45 then isLetterF b else wideF a b
/-- One step: may (must) the text be broken at this place? -/
def brkStep (wr ke : Bool) (pos : Nat) (last r : Int) : List (Nat × Bool) :=
  if decide (0 < pos) && ((ke && last == 10) || (wr && mayF last r)) then [(pos, ke && last == 10)] else []
def brkEnd (ke : Bool) (n : Nat) (last : Int) : List (Nat × Bool) := if ke && last == 10 then [(n, true)] else []
def brk (s : ByteArray) (wr ke : Bool) : Nat → Nat → Int → List (Nat × Bool)
  | 0, _, _ => []
  | f + 1, pos, last => if pos < s.size then brkStep wr ke pos last (Utf8.decode s pos).1 ++ brk s wr ke f (pos + (Utf8.decode s pos).2) (Utf8.decode s pos).1 else brkEnd ke s.size last
def brkAll (s : ByteArray) (wr ke : Bool) : List (Nat × Bool) := brk s wr ke (s.size + 1) 0 0
theorem brk_step (s : ByteArray) (wr ke : Bool) (f pos : Nat) (last : Int) (h : pos < s.size) : brk s wr ke (f + 1) pos last = brkStep wr ke pos last (Utf8.decode s pos).1 ++ brk s wr ke f (pos + (Utf8.decode s pos).2) (Utf8.decode s pos).1 := by
  simp [brk, h]
theorem brk_end (s : ByteArray) (wr ke : Bool) (f pos : Nat) (last : Int) (h : ¬ pos < s.size) : brk s wr ke (f + 1) pos last = brkEnd ke s.size last := by
  simp [brk, h]
theorem get_bang (s : ByteArray) (i : Nat) (h : i < s.size) : s.get! i = s[i] := by
  simp [ByteArray.get!, getElem!_pos, h]
  rfl
set_option maxHeartbeats 1000000 in
theorem decN_facts (n b0 b1 b2 b3 : Nat) (hn : 1 ≤ n) :
    1 ≤ (Lib.decodeN n b0 b1 b2 b3).2 ∧ (Lib.decodeN n b0 b1 b2 b3).2 ≤ n ∧ ((Lib.decodeN n b0 b1 b2 b3).1 = 10 → b0 = 10) ∧ (b0 = 10 → Lib.decodeN n b0 b1 b2 b3 = (10, 1)) ∧
      (2 ≤ (Lib.decodeN n b0 b1 b2 b3).2 → b1 / 64 = 2) ∧ (3 ≤ (Lib.decodeN n b0 b1 b2 b3).2 → b2 / 64 = 2) ∧ (4 ≤ (Lib.decodeN n b0 b1 b2 b3).2 → b3 / 64 = 2) ∧ (Lib.decodeN n b0 b1 b2 b3).2 ≤ 4 := by
  unfold Lib.decodeN
  repeat' split
  all_goals (refine ⟨?_, ?_, ?_, ?_, ?_, ?_, ?_, ?_⟩ <;> (intros; try simp only at *; try omega))
  all_goals (try (apply Prod.ext <;> simp only <;> omega))
theorem dec_facts (s : ByteArray) (pos : Nat) (h : pos < s.size) :
    1 ≤ (Utf8.decode s pos).2 ∧ pos + (Utf8.decode s pos).2 ≤ s.size ∧ ((Utf8.decode s pos).1 = 10 → s[pos].toNat = 10) ∧ (s[pos].toNat = 10 → Utf8.decode s pos = (10, 1)) ∧
      ∀ j, pos < j → (hj : j < pos + (Utf8.decode s pos).2) → (hs : j < s.size) → s[j].toNat ≠ 10 := by
  have h0 := decN_facts (s.size - pos) (s.get! pos).toNat (s.get! (pos + 1)).toNat (s.get! (pos + 2)).toNat (s.get! (pos + 3)).toNat (by omega)
  rw [← Lib.decode_at] at h0
  obtain ⟨h1, h2, h3, h4, h5, h6, h7, h8⟩ := h0
  rw [get_bang s pos h] at h3 h4
  refine ⟨h1, by omega, h3, h4, fun j hj1 hj2 hj3 => ?_⟩
  have : j = pos + 1 ∨ j = pos + 2 ∨ j = pos + 3 := by omega
  rcases this with rfl | rfl | rfl
  · have := h5 (by omega); rw [get_bang s _ hj3] at this; omega
  · have := h6 (by omega); rw [get_bang s _ hj3] at this; omega
  · have := h7 (by omega); rw [get_bang s _ hj3] at this; omega
theorem ten_iff (s : ByteArray) (pos : Nat) (h : pos < s.size) : (((Utf8.decode s pos).1 : Int) == 10) = (s[pos].toNat == 10) := by
  obtain ⟨_, _, h3, h4, _⟩ := dec_facts s pos h
  rw [Bool.eq_iff_iff]
  simp only [beq_iff_eq]
  constructor
  · intro hh; exact h3 (by omega)
  · intro hh; rw [h4 hh]; rfl
/-! The places rise. -/
def rises (n : Nat) : Nat → List (Nat × Bool) → Prop
  | _, [] => True
  | lo, (a, _) :: r => lo < a ∧ a ≤ n ∧ rises n a r
theorem rises_lo {n lo lo' : Nat} (h : lo' ≤ lo) : ∀ {l : List (Nat × Bool)}, rises n lo l → rises n lo' l
  | [], _ => trivial
  | (a, _) :: _, hr => ⟨by have := hr.1; omega, hr.2.1, hr.2.2⟩
theorem brk_rises (s : ByteArray) (wr ke : Bool) : ∀ (f pos lo : Nat) (last : Int), pos ≤ s.size → (lo < pos ∨ (pos = 0 ∧ lo = 0 ∧ last = 0)) → rises s.size lo (brk s wr ke f pos last)
  | 0, _, _, _, _, _ => trivial
  | f + 1, pos, lo, last, hp, hlo => by
    by_cases h : pos < s.size
    · rw [brk_step s wr ke f pos last h]
      obtain ⟨h1, h2, _⟩ := dec_facts s pos h
      have ih := brk_rises s wr ke f (pos + (Utf8.decode s pos).2) pos (Utf8.decode s pos).1 h2 (.inl (by omega))
      unfold brkStep
      split
      · rename_i hc
        have h0 : 0 < pos := by
          rw [Bool.and_eq_true] at hc
          exact of_decide_eq_true hc.1
        exact ⟨by omega, by omega, ih⟩
      · exact rises_lo (by omega) ih
    · rw [brk_end s wr ke f pos last h]
      unfold brkEnd
      split
      · rename_i hc
        refine ⟨?_, Nat.le_refl _, trivial⟩
        rcases hlo with hlo | ⟨_, _, hl⟩
        · omega
        · rw [hl] at hc; simp at hc
      · trivial
theorem brkAll_rises (s : ByteArray) (wr ke : Bool) : rises s.size 0 (brkAll s wr ke) := brk_rises s wr ke _ _ _ _ (Nat.zero_le _) (.inr ⟨rfl, rfl, rfl⟩)
/-! What must be broken. -/
def musts (l : List (Nat × Bool)) : Nat := (l.filter (·.2)).length
def tens (s : ByteArray) (pos : Nat) : Nat := (s.data.toList.drop pos).count 10
theorem tens_step (s : ByteArray) (pos : Nat) (h : pos < s.size) : tens s pos = (if s[pos].toNat = 10 then 1 else 0) + tens s (pos + 1) := by
  unfold tens
  have hl : pos < s.data.toList.length := by rw [Array.length_toList]; exact h
  rw [List.drop_eq_getElem_cons hl, List.count_cons]
  have e : s.data.toList[pos] = s[pos] := rfl
  rw [e, Nat.add_comm]
  congr 1
  by_cases hh : s[pos].toNat = 10
  · have : s[pos] = 10 := UInt8.toNat_inj.1 hh
    simp [this]
  · have : s[pos] ≠ 10 := fun e => hh (by rw [e]; rfl)
    simp [hh, this]
theorem tens_skip (s : ByteArray) : ∀ (k pos : Nat), pos + k ≤ s.size → (∀ j, pos ≤ j → j < pos + k → (hs : j < s.size) → s[j].toNat ≠ 10) → tens s pos = tens s (pos + k)
  | 0, _, _, _ => rfl
  | k + 1, pos, h, hn => by
    rw [tens_step s pos (by omega), if_neg (hn pos (Nat.le_refl _) (by omega) (by omega)), Nat.zero_add, tens_skip s k (pos + 1) (by omega) (fun j a b => hn j (by omega) (by omega))]
    congr 1; omega
theorem tens_rune (s : ByteArray) (pos : Nat) (h : pos < s.size) : tens s pos = (if ((Utf8.decode s pos).1 : Int) == 10 then 1 else 0) + tens s (pos + (Utf8.decode s pos).2) := by
  obtain ⟨h1, h2, h3, h4, h5⟩ := dec_facts s pos h
  rw [ten_iff s pos h, tens_step s pos h]
  have e := tens_skip s ((Utf8.decode s pos).2 - 1) (pos + 1) (by omega) (fun j a b hs => h5 j (by omega) (by omega) hs)
  rw [e, show pos + 1 + ((Utf8.decode s pos).2 - 1) = pos + (Utf8.decode s pos).2 by omega]
  simp
theorem tens_end (s : ByteArray) (pos : Nat) (h : s.size ≤ pos) : tens s pos = 0 := by
  unfold tens
  rw [List.drop_of_length_le (by rw [Array.length_toList]; exact h)]
  rfl
theorem brk_musts (s : ByteArray) (wr : Bool) : ∀ (f pos : Nat) (last : Int), pos ≤ s.size → s.size < pos + f → (pos = 0 → last = 0) → musts (brk s wr true f pos last) = (if last == 10 then 1 else 0) + tens s pos
  | 0, pos, _, hp, hf, _ => by omega
  | f + 1, pos, last, hp, hf, hl => by
    by_cases h : pos < s.size
    · rw [brk_step s wr true f pos last h]
      obtain ⟨h1, h2, _⟩ := dec_facts s pos h
      have ih := brk_musts s wr f (pos + (Utf8.decode s pos).2) (Utf8.decode s pos).1 h2 (by omega) (fun h => by omega)
      have e : musts (brkStep wr true pos last (Utf8.decode s pos).1 ++ brk s wr true f (pos + (Utf8.decode s pos).2) (Utf8.decode s pos).1) = musts (brkStep wr true pos last (Utf8.decode s pos).1) + musts (brk s wr true f (pos + (Utf8.decode s pos).2) (Utf8.decode s pos).1) := by
        simp [musts]
      rw [e, ih, ← tens_rune s pos h]
      congr 1
      unfold brkStep
      cases hc : (last == 10)
      · simp only [Bool.and_false, Bool.false_or]
        split <;> simp [musts]
      · have h0 : 0 < pos := by
          rcases Nat.eq_zero_or_pos pos with h0 | h0
          · have := hl h0; subst this; simp at hc
          · exact h0
        simp [musts, h0]
    · rw [brk_end s wr true f pos last h, tens_end s pos (by omega)]
      unfold brkEnd
      cases hc : (last == 10) <;> simp [musts]
theorem brk_none (s : ByteArray) (wr : Bool) : ∀ (f pos : Nat) (last : Int), musts (brk s wr false f pos last) = 0
  | 0, _, _ => rfl
  | f + 1, pos, last => by
    by_cases h : pos < s.size
    · rw [brk_step s wr false f pos last h]
      have ih := brk_none s wr f (pos + (Utf8.decode s pos).2) (Utf8.decode s pos).1
      unfold brkStep
      split <;> simpa [musts] using ih
    · rw [brk_end s wr false f pos last h]
      simp [brkEnd, musts]
theorem brkAll_musts (s : ByteArray) (wr ke : Bool) : musts (brkAll s wr ke) = if ke then Lib.countByte s.data.toList 10 else 0 := by
  cases ke
  · exact brk_none s wr _ _ _
  · have := brk_musts s wr (s.size + 1) 0 0 (Nat.zero_le _) (by omega) (fun _ => rfl)
    rw [brkAll, this]
    simp [tens, Lib.countByte]
/-- Where a text must be broken a line feed stands ahead. -/
theorem brk_ten (s : ByteArray) (wr ke : Bool) : ∀ (f pos : Nat) (last : Int), pos ≤ s.size → (pos = 0 → last = 0) → (last = 10 → ∃ h : pos - 1 < s.size, s[pos - 1].toNat = 10) → ∀ b ∈ brk s wr ke f pos last, b.2 = true → ∃ h : b.1 - 1 < s.size, s[b.1 - 1].toNat = 10
  | 0, _, _, _, _, _, b, hb, _ => by cases hb
  | f + 1, pos, last, hp, hl, ht, b, hb, hm => by
    by_cases h : pos < s.size
    · rw [brk_step s wr ke f pos last h] at hb
      obtain ⟨h1, h2, h3, h4, _⟩ := dec_facts s pos h
      rcases List.mem_append.1 hb with hb | hb
      · unfold brkStep at hb
        split at hb
        · simp only [List.mem_singleton] at hb
          subst hb
          simp only [Bool.and_eq_true, beq_iff_eq] at hm
          exact ht hm.2
        · cases hb
      · refine brk_ten s wr ke f _ _ h2 (fun h => by omega) (fun hr => ?_) b hb hm
        have hr' : (Utf8.decode s pos).1 = 10 := by omega
        have h10 := h3 hr'
        have hw := h4 h10
        have hw2 : (Utf8.decode s pos).2 = 1 := by rw [hw]
        refine ⟨by omega, ?_⟩
        simp only [hw2, Nat.add_sub_cancel]
        exact h10
    · rw [brk_end s wr ke f pos last h] at hb
      unfold brkEnd at hb
      split at hb
      · rename_i hc
        simp only [List.mem_singleton] at hb
        subst hb
        simp only [Bool.and_eq_true, beq_iff_eq] at hc
        have hp' : pos = s.size := by omega
        have hq := ht hc.2
        simp only [hp'] at hq
        exact hq
      · cases hb
theorem brkAll_ten (s : ByteArray) (wr ke : Bool) : ∀ b ∈ brkAll s wr ke, b.2 = true → ∃ h : b.1 - 1 < s.size, s[b.1 - 1].toNat = 10 :=
  brk_ten s wr ke _ _ _ (Nat.zero_le _) (fun _ => rfl) (fun h => by simp at h)
/-! The pieces. -/
def pcs (s : ByteArray) : Nat → List Nat → List ByteArray
  | _, [] => []
  | from_, b :: r => if from_ < b then s.extract from_ b :: pcs s b r else pcs s from_ r
def lastOf : Nat → List Nat → Nat
  | from_, [] => from_
  | from_, b :: r => if from_ < b then lastOf b r else lastOf from_ r
theorem pcs_append (s : ByteArray) : ∀ (l m : List Nat) (a : Nat), pcs s a (l ++ m) = pcs s a l ++ pcs s (lastOf a l) m
  | [], _, _ => rfl
  | b :: r, m, a => by
    simp only [List.cons_append, pcs, lastOf]
    split
    · rw [pcs_append s r m b]; rfl
    · exact pcs_append s r m a
theorem lastOf_append : ∀ (l m : List Nat) (a : Nat), lastOf a (l ++ m) = lastOf (lastOf a l) m
  | [], _, _ => rfl
  | b :: r, m, a => by
    simp only [List.cons_append, lastOf]
    split
    · exact lastOf_append r m b
    · exact lastOf_append r m a
theorem pcs_mem (s : ByteArray) : ∀ (l : List Nat) (a : Nat), (∀ b ∈ l, b ≤ s.size) → ∀ p ∈ pcs s a l, 0 < p.size
  | [], _, _, p, hp => by cases hp
  | b :: r, a, hb, p, hp => by
    simp only [pcs] at hp
    split at hp
    · rename_i hlt
      rcases List.mem_cons.1 hp with rfl | hp
      · have := hb b (by simp)
        simp [ByteArray.size_extract]
        omega
      · exact pcs_mem s r b (fun x hx => hb x (by simp [hx])) p hp
    · exact pcs_mem s r a (fun x hx => hb x (by simp [hx])) p hp
theorem lastOf_le (n : Nat) : ∀ (l : List Nat) (a : Nat), a ≤ n → (∀ b ∈ l, b ≤ n) → a ≤ lastOf a l ∧ lastOf a l ≤ n
  | [], _, h, _ => ⟨Nat.le_refl _, h⟩
  | b :: r, a, h, hb => by
    simp only [lastOf]
    split
    · have := lastOf_le n r b (hb b (by simp)) (fun x hx => hb x (by simp [hx])); omega
    · exact lastOf_le n r a h (fun x hx => hb x (by simp [hx]))
theorem pcs_join (s : ByteArray) : ∀ (l : List Nat) (a : Nat), a ≤ s.size → (∀ b ∈ l, b ≤ s.size) → ((pcs s a l).map (·.data.toList)).flatten = (s.data.toList.drop a).take (lastOf a l - a)
  | [], a, _, _ => by simp [pcs, lastOf]
  | b :: r, a, ha, hb => by
    simp only [pcs, lastOf]
    split
    · rename_i hlt
      have hbs := hb b (by simp)
      have ih := pcs_join s r b hbs (fun x hx => hb x (by simp [hx]))
      have h2 := lastOf_le s.size r b hbs (fun x hx => hb x (by simp [hx]))
      rw [List.map_cons, List.flatten_cons, ih]
      have e1 : (s.extract a b).data.toList = (s.data.toList.drop a).take (b - a) := by
        simp [ByteArray.data_extract, Array.toList_extract]
      have e2 : s.data.toList.drop b = (s.data.toList.drop a).drop (b - a) := by rw [List.drop_drop]; congr 1; omega
      rw [e1, e2, ← List.take_add]
      congr 1; omega
    · exact pcs_join s r a ha (fun x hx => hb x (by simp [hx]))
/-- All pieces of a text. -/
def brkEnds (s : ByteArray) (wr ke : Bool) : List Nat := (brkAll s wr ke).map (·.1) ++ [s.size]
def piecesF (s : ByteArray) (wr ke : Bool) : List ByteArray := pcs s 0 (brkEnds s wr ke)
theorem rises_le {n : Nat} : ∀ {l : List (Nat × Bool)} {lo : Nat}, rises n lo l → ∀ b ∈ l.map (·.1), b ≤ n
  | [], _, _, b, hb => by cases hb
  | (a, _) :: r, _, h, b, hb => by
    rcases List.mem_cons.1 hb with rfl | hb
    · exact h.2.1
    · exact rises_le h.2.2 b hb
theorem ends_le (s : ByteArray) (wr ke : Bool) : ∀ b ∈ brkEnds s wr ke, b ≤ s.size := by
  intro b hb
  rcases List.mem_append.1 hb with hb | hb
  · exact rises_le (brkAll_rises s wr ke) b hb
  · simp at hb; omega
theorem pieces_join (s : ByteArray) (wr ke : Bool) : ((piecesF s wr ke).map (·.data.toList)).flatten = s.data.toList := by
  unfold piecesF
  rw [pcs_join s _ 0 (Nat.zero_le _) (ends_le s wr ke)]
  have h1 := lastOf_le s.size (brkEnds s wr ke) 0 (Nat.zero_le _) (ends_le s wr ke)
  have h2 : lastOf 0 (brkEnds s wr ke) = s.size := by
    unfold brkEnds at h1 ⊢
    rw [lastOf_append] at h1 ⊢
    simp only [lastOf] at h1 ⊢
    have h3 := lastOf_le s.size ((brkAll s wr ke).map (·.1)) 0 (Nat.zero_le _) (rises_le (brkAll_rises s wr ke))
    split <;> omega
  rw [h2, Nat.sub_zero, List.drop_zero, List.take_of_length_le (by rw [Array.length_toList]; exact Nat.le_refl _)]
theorem pieces_some (s : ByteArray) (wr ke : Bool) : ∀ p ∈ piecesF s wr ke, 0 < p.size := pcs_mem s _ 0 (ends_le s wr ke)
def modeW (m : Int) : Bool := m == 0 || m == 3
def modeK (m : Int) : Bool := m == 1 || m == 3
end Go.Proofs.YtadlabndbomgmaaDoor
/- A law's wrap where tables are listed and the world's shape is wanted: both at once. No program in sight. -/
namespace Go.Proofs.YtadlabndbomgmaaDoor
variable {H : Type} {enc : TypeId × Value → H}
theorem hand_and_shaped {a : Assume} {C : Checked} {os : Os} {f : FuncId} {fn : Func} {s : ChangeSpec} {conds : List PathCond} {apart fresh handsOn again : Bool} {X : World → Array Value → Prop}
    (hX : ∀ (w w' : World) (args : Array Value), w.heap = w'.heap → X w args → X w' args)
    (own : ownKnob C.prog.godebug = none) (started : os.Started) (noInit : C.prog.inits.idxOf? f = none) (hfn : C.prog.funcs[f]? = some fn)
    (witness : ∃ (w : World) (tape : Tape) (i : Input), w.os = os ∧ (w.forCall tape i).Shaped C.prog ∧ i.vars = [] ∧ Input.okWide C.prog (w.forCall tape i) .any w.heap.size f i ∧
      ((s.pre enc C.prog fn conds apart (w.forCall tape i).memory i.args ∧ X (w.forCall tape i).memory i.args) ∧ sizedMet enc C.prog fn (OpenSpec.ofChange s) apart (w.forCall tape i).memory i.args) ∧ a.holds C.prog (lone (Frame.enter C.prog f i.args .normal) [] (w.forCall tape i)))
    (contract : ∀ (W : World) (base : Nat) (args : Array Value) (ds gs : List (DataW H)) (before : List MemPlace),
      (∀ (j : Nat) t v, fn.params[j]? = some t → args[j]? = some v → Value.okWide C.prog W .any base t v) →
      DataW.Whole enc C.prog fn.params.toList s.vars apart W args.toList ds gs before →
      X W args → W.ShapedOpen C.prog →
      Calls C.prog f args W fun e W' => ∃ v, e = .returned v ∧ s.post enc C.prog fn apart fresh handsOn again W args v W') :
    ReturnsInHanded a C os f .any (fun w args => (s.pre enc C.prog fn conds apart w args ∧ X w args) ∧ sizedMet enc C.prog fn (OpenSpec.ofChange s) apart w args) (s.post enc C.prog fn apart fresh handsOn again) := by
  refine returnsInHanded_of_calls own started noInit witness ?_
  intro w tape i _ hsh _ hok hpre _
  obtain ⟨_, _, _, fn', hfn', _, _, _, _, hval⟩ := hok
  have e : fn' = fn := Option.some.inj (hfn'.symm.trans hfn)
  subst e
  obtain ⟨⟨⟨ds, gs, before, hw, hc⟩, hx⟩, hz⟩ := hpre
  have hw' := DataW.Whole.of_heap (w' := w.forCall tape i) (by rfl) hw
  refine (contract (w.forCall tape i) w.heap.size i.args ds gs before hval hw' (hX _ _ _ (by rfl) hx) hsh).mono fun e W' ⟨v, he, hp⟩ => ?_
  subst he
  exact ChangeSpec.post_blind hp
end Go.Proofs.YtadlabndbomgmaaDoor
/- The closed facts of a row, with what is said of the head of the dump proved apart (the kernel takes too much room for a long string's letters). -/
namespace Go.Proofs.YtadlabndbomgmaaDoor
open Go

/-- The letters of the dump's head. -/
def headCodes : List Nat := [104, 97, 114, 110, 101, 115, 115, 32, 52, 98, 53, 55, 99, 50, 102, 53, 55, 98, 97, 97, 56, 101, 102, 51, 50, 101, 98, 97, 48, 54, 56, 56, 55, 50, 102, 50, 102, 53, 53, 53, 50, 97, 99, 48, 53, 53, 54, 57, 57, 98, 57, 48, 101, 48, 56, 56, 51, 53, 98, 53, 99, 49, 102, 49, 99, 100, 49, 52, 54, 99, 53, 98, 32, 99, 117, 116, 32, 97, 116, 32, 99, 108, 101, 114, 101, 115, 116, 111, 114, 121, 47, 99, 108, 101, 114, 101, 115, 116, 111, 114, 121, 107, 101, 101, 112, 51, 46, 70, 111, 110, 116, 74, 111, 105, 110, 101, 100, 32, 99, 108, 101, 114, 101, 115, 116, 111, 114, 121, 47, 99, 108, 101, 114, 101, 115, 116, 111, 114, 121, 107, 101, 101, 112, 51, 46, 70, 111, 110, 116, 70, 105, 116, 77, 111, 115, 116, 32, 99, 108, 101, 114, 101, 115, 116, 111, 114, 121, 47, 99, 108, 101, 114, 101, 115, 116, 111, 114, 121, 107, 101, 101, 112, 51, 46, 73, 116, 101, 109, 115, 80, 97, 105, 114, 115, 32, 99, 108, 101, 114, 101, 115, 116, 111, 114, 121, 47, 99, 108, 101, 114, 101, 115, 116, 111, 114, 121, 107, 101, 101, 112, 51, 46, 76, 105, 110, 101, 115, 65, 108, 108]
theorem head_bytes : Tryd.prog.initOrder.toByteArray = (headCodes.map Char.ofNat).utf8Encode := by kernel_rfl
theorem head_is : Tryd.prog.initOrder = String.ofList (headCodes.map Char.ofNat) := String.toByteArray_inj.1 (head_bytes.trans (String.toByteArray_ofList).symm)
theorem head_list : Tryd.prog.initOrder.toList = headCodes.map Char.ofNat := by rw [head_is, String.toList_ofList]
def headWords : List (List Char) := behindMainWord (wordsSigns (headCodes.map Char.ofNat))
theorem head_words : behindMainWord (wordsSigns Tryd.prog.initOrder.toList) = headWords := by rw [head_list]; rfl
section
variable {P : Program} {c : List Char} {rest : List (List Char)}
theorem make_of (h : behindMainWord (wordsSigns P.initOrder.toList) = c :: rest) (h1 : (c == "gc".toList || c == "spec".toList) = false) (h2 : (c == "cut".toList) = true) : P.make = some .cut := by
  unfold Program.make
  rw [h]
  simp only [h1, h2, Bool.true_or, if_true, Bool.false_eq_true, if_false]
theorem lifts_empty_of (h : behindMainWord (wordsSigns P.initOrder.toList) = c :: rest) (h1 : (stripLifts liftWords (c :: rest)).1 = []) : P.headLifts = [] := by
  unfold Program.headLifts
  rw [h]
  simp only [h1, ite_self]
theorem lifts_of (h : behindMainWord (wordsSigns P.initOrder.toList) = c :: rest) (h0 : P.headLifts = []) (h1 : ((c :: rest).head? == some "carried".toList) = false) : P.liftsFinal = false := by
  unfold Program.liftsFinal
  rw [h, h0]
  simp only [h1, Bool.false_and, List.contains_nil, Bool.or_false]
theorem may_of (h : behindMainWord (wordsSigns P.initOrder.toList) = c :: rest)
    (h3 : ((stripLifts liftWords (c :: rest)).2.head? == some "cut".toList &&
      ((stripLifts liftWords (c :: rest)).1.contains "finals" || !P.laysLater) && ((stripLifts liftWords (c :: rest)).1.contains "reflectrows" || !P.bearsReflect) &&
      ((stripLifts liftWords (c :: rest)).1.contains "reflectrows" || !(stripLifts liftWords (c :: rest)).1.contains "leanrows") &&
      P.doorFits (stripLifts liftWords (c :: rest)).1) = true) : P.mayEnter = true := by
  unfold Program.mayEnter
  rw [h]
  simp only [h3, Bool.or_true]
end
theorem words_are : behindMainWord (wordsSigns Tryd.prog.initOrder.toList) = headWords.headD [] :: headWords.tail := by rw [head_words]; kernel_rfl
theorem make_is : Tryd.prog.make = some .cut := make_of words_are (by kernel_rfl) (by kernel_rfl)
theorem lifts_empty : Tryd.prog.headLifts = [] := lifts_empty_of words_are (by kernel_rfl)
theorem lifts_is : Tryd.prog.liftsFinal = false := lifts_of words_are lifts_empty (by kernel_rfl)
theorem may_enter : Tryd.prog.mayEnter = true := may_of words_are (by kernel_rfl)

end Go.Proofs.YtadlabndbomgmaaDoor
/- Plain facts on numbers and lists: cutting a number, parts of a number, margins that meet. No program in sight. -/
namespace Go.Proofs.YtadlabndbomgmaaDoor

/-- A number between -2^24 and 2^24. -/
def cut (n : Int) : Int := min (max n (-16777216)) 16777216
theorem cut_lo (n : Int) : -16777216 ≤ cut n := by unfold cut; omega
theorem cut_hi (n : Int) : cut n ≤ 16777216 := by unfold cut; omega
theorem cut_mono {a b : Int} (h : a ≤ b) : cut a ≤ cut b := by unfold cut; omega
theorem cut_of {n : Int} (h : -16777216 ≤ n) (h' : n ≤ 16777216) : cut n = n := by unfold cut; omega
theorem cut_cut (n : Int) : cut (cut n) = cut n := cut_of (cut_lo n) (cut_hi n)
theorem cut_nonneg {n : Int} (h : 0 ≤ n) : 0 ≤ cut n := by unfold cut; omega

/-- A part of a number, down above 0. -/
def partOf (n up down : Int) : Int := cut (cut n * cut up / cut down)
theorem mul_bound {a b : Int} (ha : -16777216 ≤ a) (ha' : a ≤ 16777216) (hb : -16777216 ≤ b) (hb' : b ≤ 16777216) : -281474976710656 ≤ a * b ∧ a * b ≤ 281474976710656 := by
  have h1 : 0 ≤ (16777216 - a) * (16777216 + b) := Int.mul_nonneg (by omega) (by omega)
  have h2 : 0 ≤ (16777216 + a) * (16777216 - b) := Int.mul_nonneg (by omega) (by omega)
  have h3 : 0 ≤ (16777216 - a) * (16777216 - b) := Int.mul_nonneg (by omega) (by omega)
  have h4 : 0 ≤ (16777216 + a) * (16777216 + b) := Int.mul_nonneg (by omega) (by omega)
  have e1 : (16777216 - a) * (16777216 + b) = 281474976710656 + 16777216 * b - 16777216 * a - a * b := by
    simp only [Int.sub_mul, Int.mul_add]; omega
  have e2 : (16777216 + a) * (16777216 - b) = 281474976710656 - 16777216 * b + 16777216 * a - a * b := by
    simp only [Int.add_mul, Int.mul_sub]; omega
  have e3 : (16777216 - a) * (16777216 - b) = 281474976710656 - 16777216 * b - 16777216 * a + a * b := by
    simp only [Int.sub_mul, Int.mul_sub]; omega
  have e4 : (16777216 + a) * (16777216 + b) = 281474976710656 + 16777216 * b + 16777216 * a + a * b := by
    simp only [Int.add_mul, Int.mul_add]; omega
  omega
theorem cut_mul_bound (a b : Int) : -281474976710656 ≤ cut a * cut b ∧ cut a * cut b ≤ 281474976710656 :=
  mul_bound (cut_lo a) (cut_hi a) (cut_lo b) (cut_hi b)
theorem part_mono {a b u d : Int} (h : a ≤ b) (hu : 0 ≤ u) (hd : 1 ≤ d) : partOf a u d ≤ partOf b u d := by
  unfold partOf
  refine cut_mono (Int.ediv_le_ediv (by unfold cut; omega) ?_)
  exact Int.mul_le_mul_of_nonneg_right (cut_mono h) (cut_nonneg hu)
theorem part_self {n d : Int} (hd : 1 ≤ d) : partOf n d d = cut n := by
  unfold partOf
  rw [Int.mul_ediv_cancel _ (by unfold cut; omega), cut_cut]

/-! Margins that meet. -/
def most (l : List Int) : Int := l.foldl (fun a n => max a (cut n)) 0
def least (l : List Int) : Int := l.foldl (fun a n => min a (cut n)) 0
def meet (l : List Int) : Int := cut (most l + least l)
theorem foldl_max_eq (l : List Int) : ∀ a : Int, a ≤ l.foldl (fun a n => max a (cut n)) a ∧ (∀ n ∈ l, cut n ≤ l.foldl (fun a n => max a (cut n)) a) ∧
    (l.foldl (fun a n => max a (cut n)) a = a ∨ ∃ n ∈ l, l.foldl (fun a n => max a (cut n)) a = cut n) := by
  induction l with
  | nil => intro a; simp
  | cons x l ih =>
    intro a
    obtain ⟨h1, h2, h3⟩ := ih (max a (cut x))
    simp only [List.foldl_cons]
    refine ⟨by omega, ?_, ?_⟩
    · intro n hn
      rcases List.mem_cons.1 hn with rfl | hn
      · omega
      · exact h2 n hn
    · rcases h3 with h3 | ⟨n, hn, h3⟩
      · by_cases hx : cut x ≤ a
        · left; rw [h3]; omega
        · right; exact ⟨x, by simp, by rw [h3]; omega⟩
      · right; exact ⟨n, by simp [hn], h3⟩
theorem foldl_min_eq (l : List Int) : ∀ a : Int, l.foldl (fun a n => min a (cut n)) a ≤ a ∧ (∀ n ∈ l, l.foldl (fun a n => min a (cut n)) a ≤ cut n) ∧
    (l.foldl (fun a n => min a (cut n)) a = a ∨ ∃ n ∈ l, l.foldl (fun a n => min a (cut n)) a = cut n) := by
  induction l with
  | nil => intro a; simp
  | cons x l ih =>
    intro a
    obtain ⟨h1, h2, h3⟩ := ih (min a (cut x))
    simp only [List.foldl_cons]
    refine ⟨by omega, ?_, ?_⟩
    · intro n hn
      rcases List.mem_cons.1 hn with rfl | hn
      · omega
      · exact h2 n hn
    · rcases h3 with h3 | ⟨n, hn, h3⟩
      · by_cases hx : a ≤ cut x
        · left; rw [h3]; omega
        · right; exact ⟨x, by simp, by rw [h3]; omega⟩
      · right; exact ⟨n, by simp [hn], h3⟩
theorem most_le {l m : List Int} (h : ∀ n ∈ l, n ∈ m) : most l ≤ most m := by
  obtain ⟨h1, h2, h3⟩ := foldl_max_eq l 0
  obtain ⟨k1, k2, k3⟩ := foldl_max_eq m 0
  unfold most
  rcases h3 with h3 | ⟨n, hn, h3⟩
  · rw [h3]; exact k1
  · rw [h3]; exact k2 n (h n hn)
theorem least_le {l m : List Int} (h : ∀ n ∈ l, n ∈ m) : least m ≤ least l := by
  obtain ⟨h1, h2, h3⟩ := foldl_min_eq l 0
  obtain ⟨k1, k2, k3⟩ := foldl_min_eq m 0
  unfold least
  rcases h3 with h3 | ⟨n, hn, h3⟩
  · rw [h3]; exact k1
  · rw [h3]; exact k2 n (h n hn)
theorem meet_same {l m : List Int} (h : ∀ n, n ∈ l ↔ n ∈ m) : meet l = meet m := by
  have a1 := most_le fun n hn => (h n).1 hn
  have a2 := most_le fun n hn => (h n).2 hn
  have b1 := least_le fun n hn => (h n).1 hn
  have b2 := least_le fun n hn => (h n).2 hn
  unfold meet
  rw [show most l = most m by omega, show least l = least m by omega]
theorem meet_order (a b : List Int) : meet (a ++ b) = meet ((b ++ a) ++ b) := meet_same fun n => by
  simp only [List.mem_append]
  exact ⟨fun h => h.elim (fun h => .inl (.inr h)) (fun h => .inr h), fun h => h.elim (fun h => h.elim .inr .inl) .inr⟩
theorem most_bound (l : List Int) : 0 ≤ most l ∧ most l ≤ 16777216 := by
  obtain ⟨h1, h2, h3⟩ := foldl_max_eq l 0
  unfold most
  refine ⟨h1, ?_⟩
  rcases h3 with h3 | ⟨n, _, h3⟩
  · rw [h3]; omega
  · rw [h3]; exact cut_hi n
theorem least_bound (l : List Int) : -16777216 ≤ least l ∧ least l ≤ 0 := by
  obtain ⟨h1, h2, h3⟩ := foldl_min_eq l 0
  unfold least
  refine ⟨?_, h1⟩
  rcases h3 with h3 | ⟨n, _, h3⟩
  · rw [h3]; omega
  · rw [h3]; exact cut_lo n
/-- The number at place k (0 behind the end). A plain definition, so that the walk leaves it alone. -/
def at0 (l : List Int) (k : Nat) : Int := l.getD k 0
theorem at0_of (l : List Int) (k : Nat) (h : k < l.length) : at0 l k = l[k] := by simp [at0, List.getD, List.getElem?_eq_getElem h]
theorem most_take (l : List Int) (k : Nat) (h : k < l.length) : most (l.take (k + 1)) = max (most (l.take k)) (cut (at0 l k)) := by
  unfold most; rw [List.take_succ_eq_append_getElem h, List.foldl_append, at0_of l k h]; rfl
theorem least_take (l : List Int) (k : Nat) (h : k < l.length) : least (l.take (k + 1)) = min (least (l.take k)) (cut (at0 l k)) := by
  unfold least; rw [List.take_succ_eq_append_getElem h, List.foldl_append, at0_of l k h]; rfl
/-! Go's division, rounded down. -/
theorem tdiv_exact {n d : Int} (hd : 1 ≤ d) (h : n.tmod d = 0) : n.tdiv d = n / d := by
  have e := Int.mul_tdiv_add_tmod n d
  rw [h, Int.add_zero] at e
  exact ((Int.ediv_eq_of_eq_mul_right (by omega) e.symm)).symm
theorem tdiv_down {n d : Int} (hd : 1 ≤ d) (hn : n < 0) (h : n.tmod d ≠ 0) : n.tdiv d - 1 = n / d := by
  have e := Int.mul_tdiv_add_tmod n d
  have h1 : n.tmod d ≤ 0 := by
    have := Int.tmod_nonneg d (show 0 ≤ -n by omega)
    rw [Int.neg_tmod] at this; omega
  have h2 : -d < n.tmod d := by
    have := Int.tmod_lt_of_pos (-n) (show 0 < d by omega)
    rw [Int.neg_tmod] at this; omega
  have e2 : n = (d + n.tmod d) + d * (n.tdiv d - 1) := by rw [Int.mul_sub, Int.mul_one]; omega
  rw [e2, Int.add_mul_ediv_left _ _ (by omega), Int.ediv_eq_zero_of_lt (by omega) (by omega)]
  rw [← e2]; omega
theorem tdiv_bd {n d : Int} (hd : 1 ≤ d) (h1 : -9223372036854775808 < n) (h2 : n ≤ 9223372036854775807) : -9223372036854775808 < n / d ∧ n / d ≤ 9223372036854775807 := by
  have a1 : n / d ≤ 9223372036854775807 := Int.ediv_le_of_le_mul (by omega) (by have := Int.mul_le_mul_of_nonneg_left hd (show (0 : Int) ≤ 9223372036854775807 by omega); omega)
  have a2 : -9223372036854775807 ≤ n / d := Int.le_ediv_of_mul_le (by omega) (by have := Int.mul_le_mul_of_nonneg_left hd (show (0 : Int) ≤ 9223372036854775807 by omega); omega)
  omega
end Go.Proofs.YtadlabndbomgmaaDoor
/- Bits of integers: the lower eight; what is laid beside. No program in sight. -/
namespace Go.Proofs.YtadlabndbomgmaaDoor
theorem ofInt_nat (x : Int) : ((BitVec.ofInt 64 x).toNat : Int) = x % 18446744073709551616 := by
  rw [BitVec.toNat_ofInt]
  have : (0 : Int) ≤ x % ((2 ^ 64 : Nat) : Int) := Int.emod_nonneg _ (by decide)
  rw [Int.toNat_of_nonneg this]; rfl
theorem and255 (x : Int) : bits .and .i64 x 255 = x % 256 := by
  have h1 := ofInt_nat x
  have h2 : (BitVec.ofInt 64 (255 : Int)).toNat = 255 := by decide
  show IntKind.i64.wrap ((BitVec.ofInt 64 x &&& BitVec.ofInt 64 255).toNat : Int) = _
  rw [BitVec.toNat_and, h2, show (255 : Nat) = 2 ^ 8 - 1 from rfl, Nat.and_two_pow_sub_one_eq_mod]
  generalize (BitVec.ofInt 64 x).toNat = n at *
  rw [IntKind.wrap_i64]
  omega
theorem and1 (x : Int) : bits .and .i64 x 1 = x % 2 := by
  have h1 := ofInt_nat x
  have h2 : (BitVec.ofInt 64 (1 : Int)).toNat = 1 := by decide
  show IntKind.i64.wrap ((BitVec.ofInt 64 x &&& BitVec.ofInt 64 1).toNat : Int) = _
  rw [BitVec.toNat_and, h2, show (1 : Nat) = 2 ^ 1 - 1 from rfl, Nat.and_two_pow_sub_one_eq_mod]
  generalize (BitVec.ofInt 64 x).toNat = n at *
  rw [IntKind.wrap_i64]
  omega
theorem ofInt_of_nat (a : Nat) (h : a < 18446744073709551616) : (BitVec.ofInt 64 (a : Int)).toNat = a := by
  rw [BitVec.ofInt_natCast, BitVec.toNat_ofNat]; exact Nat.mod_eq_of_lt (by omega)
theorem or_nat (a b : Nat) (ha : a < 4611686018427387904) (hb : b < 4611686018427387904) : bits .or .i64 (a : Int) (b : Int) = ((a ||| b : Nat) : Int) := by
  have hx : a ||| b < 2 ^ 62 := Nat.or_lt_two_pow (by omega) (by omega)
  show IntKind.i64.wrap ((BitVec.ofInt 64 (a : Int) ||| BitVec.ofInt 64 (b : Int)).toNat : Int) = _
  rw [BitVec.toNat_or, ofInt_of_nat a (by omega), ofInt_of_nat b (by omega), IntKind.wrap_i64]
  omega
/-- What lies beside: the lower k bits, and a number above them. -/
theorem or_beside (a m k : Nat) (ha : a < 2 ^ k) (hk : k ≤ 24) (hm : m ≤ 255) : bits .or .i64 (a : Int) ((m : Int) * 2 ^ k) = (a : Int) + (m : Int) * 2 ^ k := by
  have h24 : (2 : Nat) ^ k ≤ 2 ^ 24 := Nat.pow_le_pow_right (by decide) hk
  have e : ((m : Int) * 2 ^ k) = ((m * 2 ^ k : Nat) : Int) := by simp
  have hmk : m * 2 ^ k ≤ 255 * 2 ^ 24 := Nat.mul_le_mul hm h24
  have h3 : a ||| m * 2 ^ k = a + m * 2 ^ k := by
    have := Nat.shiftLeft_add_eq_or_of_lt ha m
    rw [Nat.shiftLeft_eq] at this
    rw [Nat.or_comm, ← this]; omega
  rw [e, or_nat a (m * 2 ^ k) (by omega) (by omega), h3]
  omega
theorem or1 (m : Int) (h : 0 ≤ m) (h' : m ≤ 255) : bits .or .i64 m 1 = m + (1 - m % 2) := by
  have hall : ∀ n : Fin 256, bits .or .i64 (n.val : Int) 1 = (n.val : Int) + (1 - (n.val : Int) % 2) := by decide +kernel
  have := hall ⟨m.toNat, by omega⟩
  simpa [Int.toNat_of_nonneg h] using this
/-- The lower eight bits set; the lower eight bits struck. -/
theorem or255 (x : Int) (h : -9223372036854775808 ≤ x ∧ x ≤ 9223372036854775807) : bits .or .i64 x 255 = x / 256 * 256 + 255 := by
  have h1 := ofInt_nat x
  have h2 : (BitVec.ofInt 64 (255 : Int)).toNat = 255 := by decide
  show IntKind.i64.wrap ((BitVec.ofInt 64 x ||| BitVec.ofInt 64 255).toNat : Int) = _
  rw [BitVec.toNat_or, h2]
  generalize (BitVec.ofInt 64 x).toNat = n at *
  have h3 : n ||| 255 = n / 256 * 256 + 255 := by
    have e := Nat.shiftLeft_add_eq_or_of_lt (show (255 : Nat) < 2 ^ 8 by decide) (n / 256)
    rw [Nat.shiftLeft_eq] at e
    have e2 := Nat.shiftLeft_add_eq_or_of_lt (show n % 256 < 2 ^ 8 by omega) (n / 256)
    rw [Nat.shiftLeft_eq] at e2
    have e3 : n % 256 ||| 255 = 255 := by
      have hall : ∀ k : Fin 256, k.val ||| 255 = 255 := by decide +kernel
      exact hall ⟨n % 256, by omega⟩
    have hn : n = n / 256 * 256 ||| n % 256 := by rw [show (256 : Nat) = 2 ^ 8 from rfl]; rw [← e2]; omega
    rw [show n ||| 255 = (n / 256 * 256 ||| n % 256) ||| 255 from by rw [← hn], Nat.or_assoc, e3, show (256 : Nat) = 2 ^ 8 from rfl, ← e]
  rw [h3, IntKind.wrap_i64]
  omega
theorem andNot255 (x : Int) (h : -9223372036854775808 ≤ x ∧ x ≤ 9223372036854775807) : bits .andNot .i64 x 255 = x / 256 * 256 := by
  have h1 := ofInt_nat x
  show IntKind.i64.wrap ((BitVec.ofInt 64 x &&& ~~~(BitVec.ofInt 64 255)).toNat : Int) = _
  have h4 : (BitVec.ofInt 64 x &&& ~~~(BitVec.ofInt 64 255)) = ((BitVec.ofInt 64 x) >>> 8) <<< 8 := by
    generalize BitVec.ofInt 64 x = v
    apply BitVec.eq_of_getLsbD_eq
    intro i hi
    simp only [BitVec.getLsbD_and, BitVec.getLsbD_not, BitVec.getLsbD_shiftLeft, BitVec.getLsbD_ushiftRight]
    have h5 : (BitVec.ofInt 64 255).getLsbD i = decide (i < 8) := by
      have hall : ∀ k : Fin 64, (BitVec.ofInt 64 255).getLsbD k.val = decide (k.val < 8) := by decide +kernel
      exact hall ⟨i, hi⟩
    rw [h5]
    by_cases h8 : i < 8
    · simp [h8]
    · simp [h8, hi]
      rw [show 8 + (i - 8) = i by omega]
      exact (BitVec.getLsbD_eq_getElem hi).symm
  rw [h4]
  have h6 : (((BitVec.ofInt 64 x) >>> 8) <<< 8).toNat = (BitVec.ofInt 64 x).toNat / 256 * 256 := by
    rw [BitVec.toNat_shiftLeft, BitVec.toNat_ushiftRight, Nat.shiftRight_eq_div_pow, Nat.shiftLeft_eq]
    have := (BitVec.ofInt 64 x).isLt
    rw [Nat.mod_eq_of_lt (by omega)]
  rw [h6]
  generalize (BitVec.ofInt 64 x).toNat = n at *
  rw [IntKind.wrap_i64]
  omega
end Go.Proofs.YtadlabndbomgmaaDoor
/- Plain facts on what floats. No program in sight. -/
namespace Go.Proofs.YtadlabndbomgmaaDoor
/-- What floats: a rectangle at a side (1: left). -/
structure Fl where
  x : Int
  y : Int
  w : Int
  h : Int
  side : Int
def Fl.cells (f : Fl) : List Value := [.int .i64 f.x, .int .i64 f.y, .int .i64 f.w, .int .i64 f.h, .int .i64 f.side]
def flCells : List Fl → List Value
  | [] => []
  | f :: l => f.cells ++ flCells l
theorem flCells_append (l m : List Fl) : flCells (l ++ m) = flCells l ++ flCells m := by
  induction l with
  | nil => rfl
  | cons f l ih => simp [flCells, ih]
theorem flCells_length (l : List Fl) : (flCells l).length = l.length * 5 := by
  induction l with
  | nil => rfl
  | cons f l ih => simp [flCells, Fl.cells, ih]; omega
theorem flCells_at (l : List Fl) : ∀ (k : Nat) (h : k < l.length) (j : Nat), j < 5 → (flCells l)[k * 5 + j]? = (l[k]).cells[j]? := by
  induction l with
  | nil => intro k h; simp at h
  | cons f l ih =>
    intro k h j hj
    cases k with
    | zero => simp only [flCells, Nat.zero_mul, Nat.zero_add, List.getElem_cons_zero]; rw [List.getElem?_append_left (by simp [Fl.cells]; omega)]
    | succ k =>
      have e : (k + 1) * 5 + j = 5 + (k * 5 + j) := by omega
      have hl : f.cells.length = 5 := rfl
      rw [e]
      simp only [flCells, List.getElem_cons_succ]
      rw [List.getElem?_append_right (by omega), hl, Nat.add_sub_cancel_left]
      exact ih k (by simpa using h) j hj
/-- Is it met by a stretch? -/
def metF (y h : Int) (f : Fl) : Bool := decide (0 < f.h) && decide (f.y < y + max 1 h) && decide (y < f.y + f.h)
def estep (y h : Int) (s : Int × Int × Bool) (f : Fl) : Int × Int × Bool :=
  if metF y h f then (if f.side == 1 then (max s.1 (f.x + f.w), s.2.1, true) else (s.1, min s.2.1 f.x, true)) else s
def edgesF (width y h : Int) (fs : List Fl) : Int × Int × Bool := fs.foldl (estep y h) (0, width, false)
theorem edgesF_take (width y h : Int) (fs : List Fl) (k : Nat) (hk : k < fs.length) : edgesF width y h (fs.take (k + 1)) = estep y h (edgesF width y h (fs.take k)) fs[k] := by
  unfold edgesF; rw [List.take_succ_eq_append_getElem hk, List.foldl_append]; rfl
/-- What the edges are: nobody who is met lies between; who is not met, does not move them. -/
theorem foldl_estep (y h : Int) (fs : List Fl) : ∀ s : Int × Int × Bool,
    s.1 ≤ (fs.foldl (estep y h) s).1 ∧ (fs.foldl (estep y h) s).2.1 ≤ s.2.1 ∧ (s.2.2 = true → (fs.foldl (estep y h) s).2.2 = true) ∧
    (∀ f ∈ fs, metF y h f = true → (fs.foldl (estep y h) s).2.2 = true ∧ (f.side = 1 → f.x + f.w ≤ (fs.foldl (estep y h) s).1) ∧ (f.side ≠ 1 → (fs.foldl (estep y h) s).2.1 ≤ f.x)) ∧
    ((∀ f ∈ fs, metF y h f = false) → fs.foldl (estep y h) s = s) := by
  induction fs with
  | nil => intro s; simp
  | cons f fs ih =>
    intro s
    obtain ⟨h1, h2, h3, h4, h5⟩ := ih (estep y h s f)
    simp only [List.foldl_cons]
    have g : s.1 ≤ (estep y h s f).1 ∧ (estep y h s f).2.1 ≤ s.2.1 ∧ (s.2.2 = true → (estep y h s f).2.2 = true) ∧
        (metF y h f = true → (estep y h s f).2.2 = true ∧ (f.side = 1 → f.x + f.w ≤ (estep y h s f).1) ∧ (f.side ≠ 1 → (estep y h s f).2.1 ≤ f.x)) ∧
        (metF y h f = false → estep y h s f = s) := by
      unfold estep
      by_cases hm : metF y h f = true
      · by_cases hs : f.side = 1
        · simp only [if_pos hm, hs, beq_self_eq_true, if_true]; refine ⟨by omega, by omega, fun _ => trivial, fun _ => ⟨trivial, fun _ => by omega, fun h => absurd rfl h⟩, fun h => by rw [hm] at h; cases h⟩
        · have hs' : (f.side == 1) = false := by simpa using hs
          simp only [if_pos hm, hs', Bool.false_eq_true, if_false]; refine ⟨by omega, by omega, fun _ => trivial, fun _ => ⟨trivial, fun h => absurd h hs, fun _ => by omega⟩, fun h => by rw [hm] at h; cases h⟩
      · simp only [if_neg hm]; exact ⟨by omega, by omega, fun h => h, fun h => absurd h hm, fun _ => by first | rfl | trivial⟩
    obtain ⟨g1, g2, g3, g4, g5⟩ := g
    refine ⟨by omega, by omega, fun h => h3 (g3 h), ?_, ?_⟩
    · intro q hq hm
      rcases List.mem_cons.1 hq with rfl | hq
      · obtain ⟨a1, a2, a3⟩ := g4 hm
        exact ⟨h3 a1, fun h => by have := a2 h; omega, fun h => by have := a3 h; omega⟩
      · exact h4 q hq hm
    · intro hn
      rw [h5 fun q hq => hn q (by simp [hq]), g5 (hn f (by simp))]
theorem edgesF_met {width y h : Int} {fs : List Fl} {f : Fl} (hf : f ∈ fs) (hm : metF y h f = true) :
    (edgesF width y h fs).2.2 = true ∧ (f.side = 1 → f.x + f.w ≤ (edgesF width y h fs).1) ∧ (f.side ≠ 1 → (edgesF width y h fs).2.1 ≤ f.x) := (foldl_estep y h fs (0, width, false)).2.2.2.1 f hf hm
theorem edgesF_none {width y h : Int} {fs : List Fl} (hn : ∀ f ∈ fs, metF y h f = false) : edgesF width y h fs = (0, width, false) := (foldl_estep y h fs (0, width, false)).2.2.2.2 hn
theorem edgesF_bd (width y h : Int) (fs : List Fl) : 0 ≤ (edgesF width y h fs).1 ∧ (edgesF width y h fs).2.1 ≤ width := ⟨(foldl_estep y h fs (0, width, false)).1, (foldl_estep y h fs (0, width, false)).2.1⟩
theorem edgesF_not {width y h : Int} {fs : List Fl} (hn : (edgesF width y h fs).2.2 = false) : (∀ f ∈ fs, metF y h f = false) ∧ edgesF width y h fs = (0, width, false) := by
  have a : ∀ f ∈ fs, metF y h f = false := by
    intro f hf
    cases hm : metF y h f
    · rfl
    · have := (edgesF_met (width := width) hf hm).1; rw [hn] at this; cases this
  exact ⟨a, edgesF_none a⟩
/-- Who is met, if somebody is. -/
theorem edgesF_some {width y h : Int} {fs : List Fl} (hn : (edgesF width y h fs).2.2 = true) : ∃ f ∈ fs, metF y h f = true := by
  by_cases hx : ∃ f ∈ fs, metF y h f = true
  · exact hx
  · have : ∀ f ∈ fs, metF y h f = false := fun f hf => by
      cases hm : metF y h f
      · rfl
      · exact absurd ⟨f, hf, hm⟩ hx
    rw [edgesF_none this] at hn; cases hn
theorem metF_true {y h : Int} {f : Fl} (hm : metF y h f = true) : 0 < f.h ∧ f.y < y + max 1 h ∧ y < f.y + f.h := by
  simpa [metF, and_assoc] using hm
theorem metF_mk {y h : Int} {f : Fl} (h1 : 0 < f.h) (h2 : f.y < y + max 1 h) (h3 : y < f.y + f.h) : metF y h f = true := by
  simp [metF, h1, h2, h3]
theorem edgesF_range {width y h : Int} {fs : List Fl} (hw : -16777216 ≤ width) (hok : ∀ f ∈ fs, -16777216 ≤ f.x ∧ f.x + f.w ≤ 33554432) :
    (edgesF width y h fs).1 ≤ 33554432 ∧ -16777216 ≤ (edgesF width y h fs).2.1 := by
  suffices H : ∀ s : Int × Int × Bool, s.1 ≤ 33554432 → -16777216 ≤ s.2.1 → (fs.foldl (estep y h) s).1 ≤ 33554432 ∧ -16777216 ≤ (fs.foldl (estep y h) s).2.1 from H (0, width, false) (by simp) hw
  induction fs with
  | nil => intro s h1 h2; exact ⟨h1, h2⟩
  | cons f fs ih =>
    intro s h1 h2
    have h3 := hok f (by simp)
    refine ih (fun q hq => hok q (by simp [hq])) (estep y h s f) ?_ ?_
    · unfold estep
      by_cases hm : metF y h f = true
      · rw [if_pos hm]
        by_cases hs : (f.side == 1) = true
        · rw [if_pos hs]; show max s.1 (f.x + f.w) ≤ _; omega
        · rw [if_neg hs]; exact h1
      · rw [if_neg hm]; exact h1
    · unfold estep
      by_cases hm : metF y h f = true
      · rw [if_pos hm]
        by_cases hs : (f.side == 1) = true
        · rw [if_pos hs]; exact h2
        · rw [if_neg hs]; show _ ≤ min s.2.1 f.x; omega
      · rw [if_neg hm]; exact h2
/-- The bounds that numbers keep: of k rectangles, each of a size up to S. -/
def FlOk (S : Int) (k : Nat) (f : Fl) : Prop := -16777216 ≤ f.x ∧ f.x ≤ 16777216 ∧ f.x + f.w ≤ 16777216 ∧ 0 ≤ f.w ∧ f.w ≤ 16777216 ∧ 0 ≤ f.h ∧ f.h ≤ S ∧ -16777216 ≤ f.y ∧ f.y + f.h ≤ S * (k + 1)
/-- The next place. -/
def lstep (y : Int) (s : Int) (f : Fl) : Int := if y < f.y + f.h ∧ (s < 0 ∨ f.y + f.h < s) then f.y + f.h else s
def leastF (y : Int) (fs : List Fl) : Int := fs.foldl (lstep y) (-1)
def nextF (y : Int) (fs : List Fl) : Int := max (leastF y fs) (y + 1)
theorem leastF_take (y : Int) (fs : List Fl) (k : Nat) (hk : k < fs.length) : leastF y (fs.take (k + 1)) = lstep y (leastF y (fs.take k)) fs[k] := by
  unfold leastF; rw [List.take_succ_eq_append_getElem hk, List.foldl_append]; rfl
theorem foldl_lstep (y M : Int) (fs : List Fl) (hM : ∀ f ∈ fs, f.y + f.h ≤ M) : ∀ s : Int, s ≤ max M (-1) → -16777217 ≤ s → (∀ f ∈ fs, -16777216 ≤ f.y + f.h) → fs.foldl (lstep y) s ≤ max M (-1) ∧ -16777217 ≤ fs.foldl (lstep y) s := by
  induction fs with
  | nil => intro s hs hl _; exact ⟨hs, hl⟩
  | cons f fs ih =>
    intro s hs hl hf
    simp only [List.foldl_cons]
    have h1 := hM f (by simp)
    have h2 := hf f (by simp)
    refine ih (fun q hq => hM q (by simp [hq])) _ ?_ ?_ (fun q hq => hf q (by simp [hq]))
    · unfold lstep; split <;> omega
    · unfold lstep; split <;> omega
theorem nextF_gt (y : Int) (fs : List Fl) : y + 1 ≤ nextF y fs := by unfold nextF; omega
theorem nextF_le {y M : Int} {fs : List Fl} (h0 : 0 ≤ M) (hM : ∀ f ∈ fs, f.y + f.h ≤ M) (hl : ∀ f ∈ fs, -16777216 ≤ f.y + f.h) (hy : y + 1 ≤ M) : nextF y fs ≤ M := by
  have := (foldl_lstep y M fs hM (-1) (by omega) (by omega) hl).1
  unfold nextF leastF; omega
theorem leastF_ge {y : Int} {fs : List Fl} (hl : ∀ f ∈ fs, -16777216 ≤ f.y + f.h) : -16777217 ≤ leastF y fs := by
  suffices h : ∀ s : Int, -16777217 ≤ s → -16777217 ≤ fs.foldl (lstep y) s from h (-1) (by omega)
  induction fs with
  | nil => intro s hs; exact hs
  | cons f fs ih =>
    intro s hs
    have h2 := hl f (by simp)
    exact ih (fun q hq => hl q (by simp [hq])) _ (by unfold lstep; split <;> omega)
/-- The lowest place that is not above one that came ahead. -/
def topY (y : Int) (fs : List Fl) : Int := fs.foldl (fun a f => max a f.y) y
theorem topY_take (y : Int) (fs : List Fl) (k : Nat) (hk : k < fs.length) : topY y (fs.take (k + 1)) = max (topY y (fs.take k)) fs[k].y := by
  unfold topY; rw [List.take_succ_eq_append_getElem hk, List.foldl_append]; rfl
theorem topY_spec (fs : List Fl) : ∀ y : Int, y ≤ topY y fs ∧ (∀ f ∈ fs, f.y ≤ topY y fs) ∧ ∀ M, y ≤ M → (∀ f ∈ fs, f.y ≤ M) → topY y fs ≤ M := by
  induction fs with
  | nil => intro y; exact ⟨Int.le_refl _, by simp, fun M h _ => h⟩
  | cons f fs ih =>
    intro y
    obtain ⟨h1, h2, h3⟩ := ih (max y f.y)
    refine ⟨by show y ≤ topY (max y f.y) fs; omega, ?_, ?_⟩
    · intro q hq
      show q.y ≤ topY (max y f.y) fs
      rcases List.mem_cons.1 hq with rfl | hq
      · omega
      · exact h2 q hq
    · intro M hy hM
      exact h3 M (by have := hM f (by simp); omega) fun q hq => hM q (by simp [hq])
/-- Where a rectangle is placed. -/
structure Placed (width : Int) (fs : List Fl) (side y w h M x y' : Int) : Prop where
  above : ∀ f ∈ fs, f.y ≤ y'
  low : y ≤ y'
  high : y' ≤ M
  at_ : x = if side = 2 then (edgesF width y' h fs).2.1 - w else (edgesF width y' h fs).1
  room : (edgesF width y' h fs).2.2 = false ∨ w ≤ (edgesF width y' h fs).2.1 - (edgesF width y' h fs).1
/-- What holds of what has been placed, one behind the other. -/
structure GoodFl (width : Int) (fs : List Fl) : Prop where
  bd : ∀ f ∈ fs, ((-16777216 ≤ f.x ∧ f.x ≤ 16777216 ∧ 0 ≤ f.w ∧ f.w ≤ 16777216) ∧ (-16777216 ≤ f.y ∧ f.y ≤ 1000000000000) ∧ 0 ≤ f.h ∧ f.h ≤ 16777216) ∧ f.y + f.h ≤ 65536 * fs.length + 32767
  up : fs.Pairwise fun a b => a.y ≤ b.y
  inside : ∀ f ∈ fs, f.w ≤ width → 0 ≤ f.x ∧ f.x + f.w ≤ width
  apart : fs.Pairwise fun q r => ¬ (0 < r.w ∧ 0 < r.h ∧ 0 < q.w ∧ 0 < q.h ∧ r.x < q.x + q.w ∧ q.x < r.x + r.w ∧ r.y < q.y + q.h ∧ q.y < r.y + r.h)
  sides : ∀ f ∈ fs, f.side = 1 ∨ f.side = 2
theorem GoodFl.nil (width : Int) : GoodFl width [] := ⟨by simp, .nil, by simp, .nil, by simp⟩
theorem GoodFl.step {width : Int} {fs : List Fl} (g : GoodFl width fs) (hw : 0 ≤ width ∧ width ≤ 16777216) (hl : fs.length ≤ 1000) {side y w h x y' : Int} (hs : side = 1 ∨ side = 2) (hy : -32768 ≤ y ∧ y ≤ 32767) (hwd : 0 ≤ w ∧ w ≤ 32767) (hh : 0 ≤ h ∧ h ≤ 32767)
    (p : Placed width fs side y w h (65536 * fs.length + 32767) x y') : GoodFl width (fs ++ [⟨x, y', w, h, side⟩]) := by
  obtain ⟨e1, e2⟩ := edgesF_bd width y' h fs
  have p3 := p.high
  have p2 := p.low
  have hx : (-16777216 ≤ x ∧ x ≤ 16777216) ∧ (w ≤ width → 0 ≤ x ∧ x + w ≤ width) ∧ ((edgesF width y' h fs).2.2 = true → (edgesF width y' h fs).1 ≤ x ∧ x + w ≤ (edgesF width y' h fs).2.1) := by
    have ha := p.at_
    rcases p.room with hm | hr
    · obtain ⟨_, he⟩ := edgesF_not hm
      rw [he] at ha
      refine ⟨?_, ?_, fun h => by rw [hm] at h; cases h⟩
      · rcases hs with rfl | rfl <;> simp at ha <;> omega
      · intro hww; rcases hs with rfl | rfl <;> simp at ha <;> omega
    · rcases hs with rfl | rfl
      · simp at ha; omega
      · simp at ha; omega
  refine ⟨?_, ?_, ?_, ?_, ?_⟩
  · intro f hf
    rw [List.length_append]
    rcases List.mem_append.1 hf with hf | hf
    · have := g.bd f hf; simp only [List.length_cons, List.length_nil]; omega
    · simp at hf; subst hf; simp only [List.length_cons, List.length_nil]; omega
  · rw [List.pairwise_append]
    refine ⟨g.up, List.pairwise_singleton _ _, ?_⟩
    intro a ha b hb
    simp at hb; subst hb
    exact p.above a ha
  · intro f hf
    rcases List.mem_append.1 hf with hf | hf
    · exact g.inside f hf
    · simp at hf; subst hf; exact hx.2.1
  · rw [List.pairwise_append]
    refine ⟨g.apart, List.pairwise_singleton _ _, ?_⟩
    intro q hq r hr
    simp at hr; subst hr
    rintro ⟨h1, h2, h3, h4, h5, h6, h7, h8⟩
    dsimp only at h1 h2 h5 h6 h7 h8
    obtain ⟨m1, m2, m3⟩ := edgesF_met (width := width) hq (metF_mk (y := y') (h := h) h4 (by omega) h7)
    obtain ⟨x1, x2⟩ := hx.2.2 m1
    rcases g.sides q hq with hs1 | hs1
    · have := m2 hs1; omega
    · have := m3 (by omega); omega
  · intro f hf
    rcases List.mem_append.1 hf with hf | hf
    · exact g.sides f hf
    · simp at hf; subst hf; exact hs
theorem not6 {a b c d e f : Bool} (h : ¬ (a = true ∧ b = true ∧ c = true ∧ d = true ∧ e = true ∧ f = true)) :
    a = false ∨ (a = true ∧ b = false) ∨ (a = true ∧ b = true ∧ c = false) ∨ (a = true ∧ b = true ∧ c = true ∧ d = false) ∨ (a = true ∧ b = true ∧ c = true ∧ d = true ∧ e = false) ∨ (a = true ∧ b = true ∧ c = true ∧ d = true ∧ e = true ∧ f = false) := by
  cases a <;> cases b <;> cases c <;> cases d <;> cases e <;> cases f <;> simp_all
theorem not5 {a b c d e : Bool} (h : ¬ (a = true ∧ b = true ∧ c = true ∧ d = true ∧ e = true)) :
    a = false ∨ (a = true ∧ b = false) ∨ (a = true ∧ b = true ∧ c = false) ∨ (a = true ∧ b = true ∧ c = true ∧ d = false) ∨ (a = true ∧ b = true ∧ c = true ∧ d = true ∧ e = false) := by
  cases a <;> cases b <;> cases c <;> cases d <;> cases e <;> simp_all
end Go.Proofs.YtadlabndbomgmaaDoor
/- Plain facts on letters: how wide a rune is, the runes of a text, its dots. No program in sight. -/
namespace Go.Proofs.YtadlabndbomgmaaDoor
def narrowL : List Int := [32, 105, 108, 106, 46, 44, 39, 33, 124, 58]
def wideL : List Int := [109, 119, 77, 87, 64]
def fourthsF (r : Int) : Int := if r < 32 ∨ r = 127 then 0 else if 4352 ≤ r then 4 else if r ∈ narrowL then 1 else if r ∈ wideL then 3 else 2
theorem fourths_bd (r : Int) : 0 ≤ fourthsF r ∧ fourthsF r ≤ 4 := by
  unfold fourthsF
  split
  · omega
  · split
    · omega
    · split
      · omega
      · split <;> omega
def sizeF (n : Int) : Int := max 0 (cut n)
theorem sizeF_bd (n : Int) : 0 ≤ sizeF n ∧ sizeF n ≤ 16777216 := by
  have h := cut_hi n
  unfold sizeF; omega
theorem cut_size (n : Int) : cut (sizeF n) = sizeF n := by
  have h := sizeF_bd n
  exact cut_of (by omega) (by omega)
theorem size_size (n : Int) : sizeF (sizeF n) = sizeF n := by
  have h := sizeF_bd n
  have e := cut_size n
  show max 0 (cut (sizeF n)) = sizeF n
  rw [e]; omega
theorem part_of (n up down : Int) (h1 : cut n = n) (h2 : cut up = up) (h3 : cut down = down) (h4 : 0 < down) : partOf n up down = cut (n * up / down) := by
  unfold partOf
  rw [h1, h2, h3]
def advF (r size : Int) : Int := partOf (sizeF size) (fourthsF r) 4
def ascF (size : Int) : Int := partOf (sizeF size) 3 4
theorem adv_eq (r size : Int) : advF r size = sizeF size * fourthsF r / 4 := by
  have h1 := sizeF_bd size
  have h2 := fourths_bd r
  have h3 : 0 ≤ sizeF size * fourthsF r := Int.mul_nonneg (by omega) (by omega)
  have h4 : sizeF size * fourthsF r ≤ sizeF size * 4 := Int.mul_le_mul (Int.le_refl _) (by omega) (by omega) (by omega)
  unfold advF
  rw [part_of _ _ _ (cut_size _) (cut_of (by omega) (by omega)) (cut_of (by omega) (by omega)) (by omega), cut_of (by omega) (by omega)]
theorem asc_eq (size : Int) : ascF size = sizeF size * 3 / 4 := by
  have h1 := sizeF_bd size
  unfold ascF
  rw [part_of _ _ _ (cut_size _) (cut_of (by omega) (by omega)) (cut_of (by omega) (by omega)) (by omega), cut_of (by omega) (by omega)]
theorem adv_bd (r size : Int) : 0 ≤ advF r size ∧ advF r size ≤ sizeF size := by
  have h1 := sizeF_bd size
  have h2 := fourths_bd r
  have h3 : 0 ≤ sizeF size * fourthsF r := Int.mul_nonneg (by omega) (by omega)
  have h4 : sizeF size * fourthsF r ≤ sizeF size * 4 := Int.mul_le_mul (Int.le_refl _) (by omega) (by omega) (by omega)
  rw [adv_eq]; omega
theorem asc_bd (size : Int) : 0 ≤ ascF size ∧ ascF size ≤ sizeF size := by
  have h1 := sizeF_bd size
  rw [asc_eq]; omega
theorem adv_size (r n : Int) : advF r (sizeF n) = advF r n := by unfold advF; rw [size_size]
/-! The runes of a text. -/
theorem decode_wd (s : ByteArray) (pos : Nat) (h : pos < s.size) : 1 ≤ (Utf8.decode s pos).2 ∧ pos + (Utf8.decode s pos).2 ≤ s.size ∧ (Utf8.decode s pos).1 ≤ 1114111 := by
  have h0 := Lib.decode_at s pos
  rw [h0]
  unfold Lib.decodeN
  have hb : (s.get! pos).toNat < 256 := UInt8.toNat_lt _
  generalize (s.get! pos).toNat = b0 at *
  generalize (s.get! (pos + 1)).toNat = b1 at *
  generalize (s.get! (pos + 2)).toNat = b2 at *
  generalize (s.get! (pos + 3)).toNat = b3 at *
  clear h0
  repeat' split
  all_goals (refine ⟨?_, ?_, ?_⟩ <;> simp only <;> omega)
def runesF (s : ByteArray) : Nat → Nat → List Int
  | 0, _ => []
  | f + 1, pos => if pos < s.size then ((Utf8.decode s pos).1 : Int) :: runesF s f (pos + (Utf8.decode s pos).2) else []
theorem runes_fuel (s : ByteArray) : ∀ (f g pos : Nat), s.size - pos ≤ f → s.size - pos ≤ g → runesF s f pos = runesF s g pos
  | 0, 0, _, _, _ => rfl
  | 0, g + 1, pos, h, _ => by simp only [runesF]; rw [if_neg (by omega)]
  | f + 1, 0, pos, _, h => by simp only [runesF]; rw [if_neg (by omega)]
  | f + 1, g + 1, pos, h1, h2 => by
    simp only [runesF]
    by_cases h : pos < s.size
    · have h3 := decode_wd s pos h
      rw [if_pos h, if_pos h, runes_fuel s f g (pos + (Utf8.decode s pos).2) (by omega) (by omega)]
    · rw [if_neg h, if_neg h]
def runesAt (s : ByteArray) (pos : Nat) : List Int := runesF s (s.size - pos) pos
theorem runesAt_step (s : ByteArray) (pos : Nat) (h : pos < s.size) : runesAt s pos = ((Utf8.decode s pos).1 : Int) :: runesAt s (pos + (Utf8.decode s pos).2) := by
  have h3 := decode_wd s pos h
  unfold runesAt
  rw [show s.size - pos = (s.size - pos - 1) + 1 by omega]
  simp only [runesF]
  rw [if_pos h, runes_fuel s _ (s.size - (pos + (Utf8.decode s pos).2)) (pos + (Utf8.decode s pos).2) (by omega) (by omega)]
theorem runesAt_end (s : ByteArray) (pos : Nat) (h : s.size ≤ pos) : runesAt s pos = [] := by
  unfold runesAt
  rw [show s.size - pos = 0 by omega]; rfl
theorem runesAt_len (s : ByteArray) : ∀ (f pos : Nat), s.size - pos ≤ f → (runesAt s pos).length ≤ f
  | 0, pos, h => by rw [runesAt_end s pos (by omega)]; simp
  | f + 1, pos, h => by
    by_cases hp : pos < s.size
    · have h3 := decode_wd s pos hp
      rw [runesAt_step s pos hp]
      have := runesAt_len s f (pos + (Utf8.decode s pos).2) (by omega)
      simp; omega
    · rw [runesAt_end s pos (by omega)]; simp
/-- How wide runes are, one behind the other. -/
def wideS (size sp : Int) : List Int → Int
  | [] => 0
  | r :: l => advF r size + sp + wideS size sp l
theorem wideS_append (size sp : Int) (l m : List Int) : wideS size sp (l ++ m) = wideS size sp l + wideS size sp m := by
  induction l with
  | nil => simp [wideS]
  | cons r l ih => simp only [List.cons_append, wideS, ih]; omega
end Go.Proofs.YtadlabndbomgmaaDoor
/- Plain facts on pictures: commands, what is clipped, groups, colors one over the other. No program in sight. -/
namespace Go.Proofs.YtadlabndbomgmaaDoor
/-- A rectangle. -/
structure Rc where
  x : Int
  y : Int
  w : Int
  h : Int
def rc0 : Rc := ⟨0, 0, 0, 0⟩
def allR : Rc := ⟨-16777216, -16777216, 33554432, 33554432⟩
def meetR (a b : Rc) : Rc :=
  if min (a.x + a.w) (b.x + b.w) - max a.x b.x ≤ 0 ∨ min (a.y + a.h) (b.y + b.h) - max a.y b.y ≤ 0 then rc0
  else ⟨max a.x b.x, max a.y b.y, min (a.x + a.w) (b.x + b.w) - max a.x b.x, min (a.y + a.h) (b.y + b.h) - max a.y b.y⟩
def inR (r : Rc) (x y : Int) : Bool := ((decide (r.x ≤ x) && decide (x - r.x < r.w)) && decide (r.y ≤ y)) && decide (y - r.y < r.h)
theorem inR_iff (r : Rc) (x y : Int) : inR r x y = true ↔ (r.x ≤ x ∧ x - r.x < r.w) ∧ r.y ≤ y ∧ y - r.y < r.h := by
  simp [inR, and_assoc]
theorem in_meet (a b : Rc) (x y : Int) : inR (meetR a b) x y = (inR a x y && inR b x y) := by
  rw [Bool.eq_iff_iff, Bool.and_eq_true, inR_iff, inR_iff, inR_iff]
  unfold meetR
  split
  · simp only [rc0]; omega
  · simp only; omega
/-- Rectangles whose sums are tame. -/
def Rc.ok (r : Rc) : Prop := (-16777216 ≤ r.x ∧ r.x ≤ 16777216) ∧ (-16777216 ≤ r.y ∧ r.y ≤ 16777216) ∧ (-16777216 ≤ r.w ∧ r.w ≤ 50331648) ∧ (-16777216 ≤ r.h ∧ r.h ≤ 50331648)
/-- Clips: their ends are tame. -/
def Rc.clip (r : Rc) : Prop := (-16777216 ≤ r.x ∧ r.x ≤ 16777216) ∧ (-16777216 ≤ r.y ∧ r.y ≤ 16777216) ∧ (0 ≤ r.w ∧ r.x + r.w ≤ 33554432) ∧ (0 ≤ r.h ∧ r.y + r.h ≤ 33554432)
theorem allR_clip : allR.clip := by simp [Rc.clip, allR]
theorem meet_clip {a b : Rc} (ha : a.clip) (hb : (-16777216 ≤ b.x ∧ b.x ≤ 16777216) ∧ (-16777216 ≤ b.y ∧ b.y ≤ 16777216)) : (meetR a b).clip := by
  unfold Rc.clip at *
  unfold meetR
  split
  · simp [rc0]
  · simp only; omega
/-- A command. -/
structure Cm where
  do_ : Int
  node : Int
  x : Int
  y : Int
  w : Int
  h : Int
  c : Int
  n : Int
  t : ByteArray
def rectC (c : Cm) : Rc := ⟨cut c.x, cut c.y, cut c.w, cut c.h⟩
theorem rectC_bd (c : Cm) : (-16777216 ≤ (rectC c).x ∧ (rectC c).x ≤ 16777216) ∧ (-16777216 ≤ (rectC c).y ∧ (rectC c).y ≤ 16777216) := by
  have h1 := cut_lo c.x
  have h2 := cut_hi c.x
  have h3 := cut_lo c.y
  have h4 := cut_hi c.y
  simp only [rectC]; omega
def partN (n : Int) : Int := min (max n 0) 1000
theorem partN_0 : partN 0 = 0 := by decide
theorem partN_1 : partN 1000 = 1000 := by decide
structure Dr where
  c : Cm
  clip : Rc
  n : Int
abbrev Lay := List (Rc × Int)
/-- What a list of commands comes to: an error, the layers that are open, what is drawn. -/
def flatS : Lay → List Dr → List Cm → Int × Lay × List Dr
  | ar, out, [] => (0, ar, out)
  | ar, out, c :: l =>
    if c.do_ = 1 ∨ c.do_ = 2 then flatS ar (out ++ [⟨c, (ar.headD (rc0, 0)).1, (ar.headD (rc0, 0)).2⟩]) l
    else if c.do_ = 3 then flatS ((meetR (ar.headD (rc0, 0)).1 (rectC c), (ar.headD (rc0, 0)).2) :: ar) out l
    else if c.do_ = 4 then flatS (((ar.headD (rc0, 0)).1, (ar.headD (rc0, 0)).2 * partN c.n / 1000) :: ar) out l
    else if c.do_ = 5 then (if ar.length = 1 then (3, [], []) else flatS ar.tail out l)
    else (7, [], [])
def flatF (l : List Cm) : Int × List Dr :=
  if (flatS [(allR, 1000)] [] l).1 ≠ 0 then ((flatS [(allR, 1000)] [] l).1, [])
  else if 1 < (flatS [(allR, 1000)] [] l).2.1.length then (3, []) else (0, (flatS [(allR, 1000)] [] l).2.2)
theorem flatS_append : ∀ (l m : List Cm) (ar : Lay) (out : List Dr), flatS ar out (l ++ m) = if (flatS ar out l).1 = 0 then flatS (flatS ar out l).2.1 (flatS ar out l).2.2 m else flatS ar out l
  | [], m, ar, out => by simp [flatS]
  | c :: l, m, ar, out => by
    simp only [List.cons_append, flatS]
    split
    · exact flatS_append l m _ _
    · split
      · exact flatS_append l m _ _
      · split
        · exact flatS_append l m _ _
        · split
          · split
            · simp
            · exact flatS_append l m _ _
          · simp
/-- Two lists of layers, of what is drawn, alike but for clips and parts. -/
def lays (ρ : Rc × Int → Rc × Int → Prop) : Lay → Lay → Prop
  | [], [] => True
  | a :: l, b :: m => ρ a b ∧ lays ρ l m
  | _, _ => False
def draws (ρ : Rc × Int → Rc × Int → Prop) : List Dr → List Dr → Prop
  | [], [] => True
  | a :: l, b :: m => (a.c = b.c ∧ ρ (a.clip, a.n) (b.clip, b.n)) ∧ draws ρ l m
  | _, _ => False
theorem draws_snoc {ρ : Rc × Int → Rc × Int → Prop} {l m : List Dr} {a b : Dr} (h : draws ρ l m) (h1 : a.c = b.c) (h2 : ρ (a.clip, a.n) (b.clip, b.n)) : draws ρ (l ++ [a]) (m ++ [b]) := by
  induction l generalizing m with
  | nil =>
    cases m with
    | nil => exact ⟨⟨h1, h2⟩, trivial⟩
    | cons _ _ => exact h.elim
  | cons c l ih =>
    cases m with
    | nil => exact h.elim
    | cons d m => exact ⟨h.1, ih h.2⟩
theorem draws_len {ρ : Rc × Int → Rc × Int → Prop} {l m : List Dr} (h : draws ρ l m) : l.length = m.length := by
  induction l generalizing m with
  | nil =>
    cases m with
    | nil => rfl
    | cons _ _ => exact h.elim
  | cons c l ih =>
    cases m with
    | nil => exact h.elim
    | cons d m => simp [ih h.2]
theorem lays_len {ρ : Rc × Int → Rc × Int → Prop} {l m : Lay} (h : lays ρ l m) : l.length = m.length := by
  induction l generalizing m with
  | nil =>
    cases m with
    | nil => rfl
    | cons _ _ => exact h.elim
  | cons c l ih =>
    cases m with
    | nil => exact h.elim
    | cons d m => simp [ih h.2]
theorem flat_rel (ρ : Rc × Int → Rc × Int → Prop) (hclip : ∀ a n b m r, ρ (a, n) (b, m) → ρ (meetR a r, n) (meetR b r, m)) (hgroup : ∀ a n b m p, ρ (a, n) (b, m) → ρ (a, n * partN p / 1000) (b, m * partN p / 1000)) (base : Lay) :
    ∀ (l : List Cm) (ar ar' : Lay) (out out' : List Dr), ar ≠ [] → lays ρ ar ar' → draws ρ out out' → (flatS ar out l).1 = 0 →
      ∃ ar2 ar2' out2 out2', flatS ar out l = (0, ar2, out2) ∧ flatS (ar' ++ base) out' l = (0, ar2' ++ base, out2') ∧ ar2 ≠ [] ∧ lays ρ ar2 ar2' ∧ draws ρ out2 out2'
  | [], ar, ar', out, out', hne, hl, hd, _ => ⟨ar, ar', out, out', rfl, rfl, hne, hl, hd⟩
  | c :: l, ar, ar', out, out', hne, hl, hd, h0 => by
    cases ar with
    | nil => exact absurd rfl hne
    | cons a ar =>
      cases ar' with
      | nil => exact hl.elim
      | cons b ar' =>
        obtain ⟨ac, an⟩ := a
        obtain ⟨bc, bn⟩ := b
        simp only [flatS, List.headD_cons, List.cons_append, List.tail_cons] at h0 ⊢
        by_cases h1 : c.do_ = 1 ∨ c.do_ = 2
        · rw [if_pos h1] at h0 ⊢
          rw [if_pos h1]
          exact flat_rel ρ hclip hgroup base l ((ac, an) :: ar) ((bc, bn) :: ar') _ _ (by simp) hl (draws_snoc (a := ⟨c, ac, an⟩) (b := ⟨c, bc, bn⟩) hd rfl hl.1) h0
        · rw [if_neg h1] at h0 ⊢
          rw [if_neg h1]
          by_cases h2 : c.do_ = 3
          · rw [if_pos h2] at h0 ⊢
            rw [if_pos h2]
            exact flat_rel ρ hclip hgroup base l ((meetR ac (rectC c), an) :: (ac, an) :: ar) ((meetR bc (rectC c), bn) :: (bc, bn) :: ar') _ _ (by simp) ⟨hclip _ _ _ _ _ hl.1, hl⟩ hd h0
          · rw [if_neg h2] at h0 ⊢
            rw [if_neg h2]
            by_cases h3 : c.do_ = 4
            · rw [if_pos h3] at h0 ⊢
              rw [if_pos h3]
              exact flat_rel ρ hclip hgroup base l ((ac, an * partN c.n / 1000) :: (ac, an) :: ar) ((bc, bn * partN c.n / 1000) :: (bc, bn) :: ar') _ _ (by simp) ⟨hgroup _ _ _ _ _ hl.1, hl⟩ hd h0
            · rw [if_neg h3] at h0 ⊢
              rw [if_neg h3]
              by_cases h4 : c.do_ = 5
              · rw [if_pos h4] at h0 ⊢
                rw [if_pos h4]
                by_cases h5 : ((ac, an) :: ar).length = 1
                · rw [if_pos h5] at h0; simp at h0
                · rw [if_neg h5] at h0 ⊢
                  have hlen := lays_len hl
                  have h6 : ¬ ((bc, bn) :: (ar' ++ base)).length = 1 := by simp at h5 hlen ⊢; intro h; rw [h] at hlen; simp at hlen; exact absurd hlen h5
                  rw [if_neg h6]
                  exact flat_rel ρ hclip hgroup base l ar ar' _ _ (by intro h; rw [h] at h5; simp at h5) hl.2 hd h0
              · rw [if_neg h4] at h0; simp at h0
/-! Colors. -/
def chan (v : Int) (m : Int) : Int := v / m % 256
theorem chan_bd (v m : Int) : 0 ≤ chan v m ∧ chan v m ≤ 255 := by unfold chan; omega
def alphaF (top n : Int) : Int := top % 256 * partN n / 1000
theorem alphaF_bd (top n : Int) : 0 ≤ alphaF top n ∧ alphaF top n ≤ 255 := by
  have h1 : 0 ≤ partN n ∧ partN n ≤ 1000 := by unfold partN; omega
  have h2 : 0 ≤ top % 256 * partN n := Int.mul_nonneg (by omega) (by omega)
  have h3 : top % 256 * partN n ≤ 255 * 1000 := Int.mul_le_mul (by omega) (by omega) (by omega) (by omega)
  unfold alphaF; omega
def mixF (a b al : Int) : Int := (a * al + b * (255 - al) + 127) / 255
theorem mix_sum (a b al : Int) : a * al + b * (255 - al) = b * 255 + (a - b) * al := by
  rw [Int.mul_sub, Int.sub_mul]; omega
theorem mix_bd {a b al : Int} (ha : 0 ≤ al ∧ al ≤ 255) : min a b ≤ mixF a b al ∧ mixF a b al ≤ max a b := by
  unfold mixF
  rw [mix_sum]
  rcases Int.le_total b a with h | h
  · have h1 : 0 ≤ (a - b) * al := Int.mul_nonneg (by omega) (by omega)
    have h2 : (a - b) * al ≤ (a - b) * 255 := Int.mul_le_mul (Int.le_refl _) (by omega) (by omega) (by omega)
    omega
  · have h1 : 0 ≤ (b - a) * al := Int.mul_nonneg (by omega) (by omega)
    have h2 : (b - a) * al ≤ (b - a) * 255 := Int.mul_le_mul (Int.le_refl _) (by omega) (by omega) (by omega)
    have h3 : (a - b) * al = -((b - a) * al) := by rw [← Int.neg_mul]; congr 1; omega
    omega
theorem mix_chan (a b al m : Int) (ha : 0 ≤ al ∧ al ≤ 255) : 0 ≤ mixF (chan a m) (chan b m) al ∧ mixF (chan a m) (chan b m) al ≤ 255 := by
  have h1 := chan_bd a m
  have h2 := chan_bd b m
  have h3 := mix_bd (a := chan a m) (b := chan b m) ha
  omega
/-- A color over another one. -/
def overF (top under n : Int) : Int :=
  255 + mixF (chan top 256) (chan under 256) (alphaF top n) * 256 + mixF (chan top 65536) (chan under 65536) (alphaF top n) * 65536 + mixF (chan top 16777216) (chan under 16777216) (alphaF top n) * 16777216
theorem mix_0 (a b : Int) (h : 0 ≤ b ∧ b ≤ 255) : mixF a b 0 = b := by unfold mixF; omega
theorem mix_255 (a b : Int) (h : 0 ≤ a ∧ a ≤ 255) : mixF a b 255 = a := by unfold mixF; omega
theorem over_0 {top under n : Int} (h : alphaF top n = 0) : overF top under n = (under / 256 * 256 + 255) % 4294967296 := by
  unfold overF
  rw [h, mix_0 _ _ (chan_bd _ _), mix_0 _ _ (chan_bd _ _), mix_0 _ _ (chan_bd _ _)]
  unfold chan; omega
theorem over_255 {top under n : Int} (h : alphaF top n = 255) : overF top under n = (top / 256 * 256 + 255) % 4294967296 := by
  unfold overF
  rw [h, mix_255 _ _ (chan_bd _ _), mix_255 _ _ (chan_bd _ _), mix_255 _ _ (chan_bd _ _)]
  unfold chan; omega
theorem over_bd (top under n : Int) : 0 ≤ overF top under n ∧ overF top under n ≤ 4294967295 := by
  have h := alphaF_bd top n
  have h1 := mix_chan top under _ 256 h
  have h2 := mix_chan top under _ 65536 h
  have h3 := mix_chan top under _ 16777216 h
  unfold overF; omega
theorem over_chan (top under n : Int) : chan (overF top under n) 256 = mixF (chan top 256) (chan under 256) (alphaF top n) ∧ chan (overF top under n) 65536 = mixF (chan top 65536) (chan under 65536) (alphaF top n) ∧ chan (overF top under n) 16777216 = mixF (chan top 16777216) (chan under 16777216) (alphaF top n) := by
  have h := alphaF_bd top n
  have h1 := mix_chan top under _ 256 h
  have h2 := mix_chan top under _ 65536 h
  have h3 := mix_chan top under _ 16777216 h
  unfold overF
  generalize mixF (chan top 256) (chan under 256) (alphaF top n) = a at *
  generalize mixF (chan top 65536) (chan under 65536) (alphaF top n) = b at *
  generalize mixF (chan top 16777216) (chan under 16777216) (alphaF top n) = c at *
  unfold chan; omega
/-! Pixels. -/
section
variable (gl : Cm → Int → Int → Bool)
def coversF (d : Dr) (x y : Int) : Bool := if inR d.clip x y then (if d.c.do_ = 1 then inR (rectC d.c) x y else gl d.c x y) else false
def pixF : List Dr → Int → Int → Int → Int
  | [], _, _, color => color
  | d :: l, x, y, color => pixF l x y (if coversF gl d x y then overF d.c.c color d.n else color)
def white : Int := 4294967295
theorem pixF_append : ∀ (l m : List Dr) (x y color : Int), pixF gl (l ++ m) x y color = pixF gl m x y (pixF gl l x y color)
  | [], _, _, _, _ => rfl
  | d :: l, m, x, y, color => pixF_append l m x y _
theorem pix_bd : ∀ (l : List Dr) (x y color : Int), (0 ≤ color ∧ color ≤ 4294967295) → 0 ≤ pixF gl l x y color ∧ pixF gl l x y color ≤ 4294967295
  | [], _, _, _, h => h
  | d :: l, x, y, color, h => by
    refine pix_bd l x y _ ?_
    split
    · exact over_bd _ _ _
    · exact h
/-- What is covered alike has the same color. -/
theorem pix_rel (ρ : Rc × Int → Rc × Int → Prop) (x y : Int) (hρ : ∀ a n b m, ρ (a, n) (b, m) → inR a x y = inR b x y ∧ n = m) (l m : List Dr) (color : Int) (h : draws ρ l m) : pixF gl l x y color = pixF gl m x y color := by
  induction l generalizing m color with
  | nil =>
    cases m with
    | nil => rfl
    | cons _ _ => exact h.elim
  | cons a l ih =>
    cases m with
    | nil => exact h.elim
    | cons b m =>
      have h1 := hρ _ _ _ _ h.1.2
      have h2 : coversF gl a x y = coversF gl b x y := by unfold coversF; rw [h1.1, h.1.1]
      simp only [pixF]
      rw [h2, h.1.1, h1.2]
      exact ih m _ h.2
/-- Where nothing is covered all is as it was. -/
theorem pix_none (x y : Int) : ∀ (m : List Dr) (color : Int), (∀ b ∈ m, coversF gl b x y = false) → pixF gl m x y color = color
  | [], _, _ => rfl
  | b :: m, color, h => by
    simp only [pixF]
    rw [if_neg (by rw [h b (by simp)]; simp)]
    exact pix_none x y m color fun d hd => h d (by simp [hd])
theorem pix_clear (x y : Int) : ∀ (m : List Dr), (∀ b ∈ m, b.n = 0) → pixF gl m x y white = white
  | [], _ => rfl
  | b :: m, h => by
    simp only [pixF]
    have e : (if coversF gl b x y then overF b.c.c white b.n else white) = white := by
      split
      · rw [over_0 (by rw [h b (by simp)]; simp [alphaF, partN_0])]; decide
      · rfl
    rw [e]
    exact pix_clear x y m fun d hd => h d (by simp [hd])
/-- A picture. -/
def drawF (l : List Dr) (wd ht : Nat) : List Int := (List.range (wd * ht)).map fun (i : Nat) => pixF gl l ((i : Int) % wd * 64 + 32) ((i : Int) / wd * 64 + 32) white
end
/-! What is clipped; groups. -/
def clipRel (r : Rc) (a b : Rc × Int) : Prop := (∀ x y, inR b.1 x y = (inR a.1 x y && inR r x y)) ∧ a.2 = b.2
theorem draws_mem {ρ : Rc × Int → Rc × Int → Prop} {l m : List Dr} (h : draws ρ l m) (b : Dr) (hb : b ∈ m) : ∃ a, a ∈ l ∧ a.c = b.c ∧ ρ (a.clip, a.n) (b.clip, b.n) := by
  induction l generalizing m with
  | nil =>
    cases m with
    | nil => simp at hb
    | cons _ _ => exact h.elim
  | cons a l ih =>
    cases m with
    | nil => exact h.elim
    | cons c m =>
      rcases List.mem_cons.1 hb with rfl | hb
      · exact ⟨a, by simp, h.1⟩
      · obtain ⟨d, hd, h1⟩ := ih h.2 hb
        exact ⟨d, by simp [hd], h1⟩
theorem flatF_ok {l : List Cm} (h : (flatF l).1 = 0) : ∃ a, (flatS [(allR, 1000)] [] l).1 = 0 ∧ flatS [(allR, 1000)] [] l = (0, a, (flatF l).2) ∧ a.length ≤ 1 := by
  unfold flatF at h ⊢
  by_cases h1 : (flatS [(allR, 1000)] [] l).1 ≠ 0
  · rw [if_pos h1] at h; exact absurd h h1
  · rw [if_neg h1] at h ⊢
    by_cases h2 : 1 < (flatS [(allR, 1000)] [] l).2.1.length
    · rw [if_pos h2] at h; simp at h
    · rw [if_neg h2]
      have h3 : (flatS [(allR, 1000)] [] l).1 = 0 := by simpa using h1
      exact ⟨(flatS [(allR, 1000)] [] l).2.1, h3, by rw [← h3], by omega⟩
/-- A list, wrapped into a command that opens a layer, and one that ends it. -/
theorem wrapped {ρ : Rc × Int → Rc × Int → Prop} (hclip : ∀ a n b m r, ρ (a, n) (b, m) → ρ (meetR a r, n) (meetR b r, m)) (hgroup : ∀ a n b m p, ρ (a, n) (b, m) → ρ (a, n * partN p / 1000) (b, m * partN p / 1000))
    {l : List Cm} {c d : Cm} (top : Rc × Int) (hc : ∀ m, flatS [(allR, 1000)] [] (c :: m) = flatS [top, (allR, 1000)] [] m) (hd : d.do_ = 5) (hρ : ρ (allR, 1000) top) (h : (flatF l).1 = 0) :
    (flatF (c :: (l ++ [d]))).1 = 0 ∧ draws ρ (flatF l).2 (flatF (c :: (l ++ [d]))).2 := by
  obtain ⟨a, h1, h2, h3⟩ := flatF_ok h
  obtain ⟨ar2, ar2', out2, out2', e1, e2, hne, hl, hdr⟩ := flat_rel ρ hclip hgroup [(allR, 1000)] l [(allR, 1000)] [top] [] [] (by simp) ⟨hρ, trivial⟩ trivial h1
  rw [h2] at e1
  injection e1 with _ e1
  injection e1 with e3 e4
  subst e3 e4
  have hlen := lays_len hl
  have ha : a.length = 1 := by
    cases a with
    | nil => exact absurd rfl hne
    | cons _ _ => simp at h3 ⊢; exact h3
  obtain ⟨t, rfl⟩ : ∃ t, ar2' = [t] := by
    match ar2', hlen with
    | [], hl => simp [ha] at hl
    | [t], _ => exact ⟨t, rfl⟩
    | _ :: _ :: _, hl => simp [ha] at hl
  have h4 : flatS [(allR, 1000)] [] (c :: (l ++ [d])) = (0, [(allR, 1000)], out2') := by
    rw [hc, flatS_append]
    have e2' : flatS [top, (allR, 1000)] [] l = (0, [t, (allR, 1000)], out2') := e2
    rw [e2']
    simp [flatS, hd]
  have h5 : flatF (c :: (l ++ [d])) = (0, out2') := by unfold flatF; rw [h4]; simp
  rw [h5]
  exact ⟨rfl, hdr⟩
theorem clip_law {l : List Cm} {c d : Cm} (hc : c.do_ = 3) (hd : d.do_ = 5) (h : (flatF l).1 = 0) : (flatF (c :: (l ++ [d]))).1 = 0 ∧ draws (clipRel (rectC c)) (flatF l).2 (flatF (c :: (l ++ [d]))).2 :=
  wrapped (ρ := clipRel (rectC c)) (fun a n b m r hr => ⟨fun x y => by rw [in_meet, in_meet, hr.1]; cases inR a x y <;> cases inR r x y <;> cases inR (rectC c) x y <;> rfl, hr.2⟩)
    (fun a n b m p hr => ⟨hr.1, by rw [show n = m from hr.2]⟩) (meetR allR (rectC c), 1000) (fun m => by simp [flatS, hc]) hd ⟨fun x y => in_meet _ _ x y, rfl⟩ h
def groupRel (one : Bool) (a b : Rc × Int) : Prop := a.1 = b.1 ∧ if one then a.2 = b.2 else b.2 = 0
theorem group_law {l : List Cm} {c d : Cm} (one : Bool) (hc : c.do_ = 4) (hn : c.n = if one then 1000 else 0) (hd : d.do_ = 5) (h : (flatF l).1 = 0) : (flatF (c :: (l ++ [d]))).1 = 0 ∧ draws (groupRel one) (flatF l).2 (flatF (c :: (l ++ [d]))).2 :=
  wrapped (ρ := groupRel one) (fun a n b m r hr => ⟨by rw [show a = b from hr.1], hr.2⟩)
    (fun a n b m p hr => ⟨hr.1, by
      have h2 := hr.2
      cases one
      · have h3 : m = 0 := h2
        rw [h3]; simp
      · have h3 : n = m := h2
        rw [h3]; simp⟩) (allR, if one then 1000 else 0) (fun m => by cases one <;> simp [flatS, hc, hn, partN_0, partN_1]) hd ⟨rfl, by cases one <;> simp⟩ h
theorem draw_at (gl : Cm → Int → Int → Bool) (l : List Dr) (wd ht i : Nat) (h : i < wd * ht) : at0 (drawF gl l wd ht) i = pixF gl l ((i : Int) % wd * 64 + 32) ((i : Int) / wd * 64 + 32) white := by
  rw [at0_of _ i (by simpa [drawF] using h)]; simp [drawF]
theorem draw_len (gl : Cm → Int → Int → Bool) (l : List Dr) (wd ht : Nat) : (drawF gl l wd ht).length = wd * ht := by simp [drawF]
/-- Beyond a clip nothing is painted; within all is as it was. -/
theorem clip_pix (gl : Cm → Int → Int → Bool) {l : List Cm} {c d : Cm} (hc : c.do_ = 3) (hd : d.do_ = 5) (h : (flatF l).1 = 0) (x y : Int) :
    pixF gl (flatF (c :: (l ++ [d]))).2 x y white = if inR (rectC c) x y then pixF gl (flatF l).2 x y white else white := by
  have h1 := (clip_law hc hd h).2
  cases hi : inR (rectC c) x y
  · simp only [Bool.false_eq_true, if_false]
    refine pix_none gl x y _ _ fun b hb => ?_
    obtain ⟨a, _, _, h2, _⟩ := draws_mem h1 b hb
    have h3 : inR b.clip x y = (inR a.clip x y && inR (rectC c) x y) := h2 x y
    unfold coversF
    rw [h3, hi]; simp
  · simp only [if_true]
    exact (pix_rel gl (clipRel (rectC c)) x y (fun a n b m hr => ⟨by rw [hr.1, hi, Bool.and_true], hr.2⟩) _ _ _ h1).symm
theorem group_one (gl : Cm → Int → Int → Bool) {l : List Cm} {c d : Cm} (hc : c.do_ = 4) (hn : c.n = 1000) (hd : d.do_ = 5) (h : (flatF l).1 = 0) (x y : Int) : pixF gl (flatF (c :: (l ++ [d]))).2 x y white = pixF gl (flatF l).2 x y white :=
  (pix_rel gl (groupRel true) x y (fun a n b m hr => ⟨by rw [show a = b from hr.1], hr.2⟩) _ _ _ (group_law true hc hn hd h).2).symm
theorem group_none (gl : Cm → Int → Int → Bool) {l : List Cm} {c d : Cm} (hc : c.do_ = 4) (hn : c.n = 0) (hd : d.do_ = 5) (h : (flatF l).1 = 0) (x y : Int) : pixF gl (flatF (c :: (l ++ [d]))).2 x y white = white :=
  pix_clear gl x y _ fun b hb => by
    obtain ⟨a, _, _, _, h2⟩ := draws_mem (group_law false hc hn hd h).2 b hb
    exact h2
end Go.Proofs.YtadlabndbomgmaaDoor
/- Plain facts on glyphs: has a text a dot at a place? No program in sight. -/
namespace Go.Proofs.YtadlabndbomgmaaDoor
def rowD (r k : Int) : Int := if r = 32 ∨ fourthsF r = 0 then 0 else (r + 1) * (k + 3) * 37 % 256 + (1 - (r + 1) * (k + 3) * 37 % 256 % 2)
theorem rowD_bd (r k : Int) : 0 ≤ rowD r k ∧ rowD r k ≤ 256 := by unfold rowD; split <;> omega
def dotF (r k j : Int) : Bool := rowD r k / 2 ^ (7 - j).toNat % 2 == 1
def hereF (size top x y left r : Int) : Bool := inR ⟨left, top, advF r size, size⟩ x y && dotF r (partOf (y - top) 8 size) (partOf (x - left) 8 (advF r size))
def glyphS (size sp top x y : Int) : Int → List Int → Bool
  | _, [] => false
  | left, r :: l => if hereF size top x y left r then true else glyphS size sp top x y (left + (advF r size + sp)) l
def glyphF (c : Cm) (x y : Int) : Bool := glyphS (sizeF c.n) (cut c.h) (cut c.y - ascF (sizeF c.n)) x y (cut c.x) (runesAt c.t 0)
/-- A part of eight, of what is within. -/
theorem part8 {a w : Int} (h0 : 0 ≤ a) (h1 : a < w) (h2 : w ≤ 16777216) : 0 ≤ partOf a 8 w ∧ partOf a 8 w ≤ 7 := by
  rw [part_of _ _ _ (cut_of (by omega) (by omega)) (cut_of (by omega) (by omega)) (cut_of (by omega) (by omega)) (by omega)]
  have h3 : 0 ≤ a * 8 / w := Int.ediv_nonneg (by omega) (by omega)
  have h4 : a * 8 / w < 8 := Int.ediv_lt_of_lt_mul (by omega) (by omega)
  rw [cut_of (by omega) (by omega)]
  omega
end Go.Proofs.YtadlabndbomgmaaDoor
/- Plain facts on sharing a number out by weights. No program in sight. -/
namespace Go.Proofs.YtadlabndbomgmaaDoor

/-- The weight at place k. -/
def wt (k : Nat) (x : Int) : Int := if 1000 ≤ k then 0 else max 0 (cut x)
/-- The sum of the first k weights. -/
def wsum (ws : List Int) : Nat → Int
  | 0 => 0
  | k + 1 => wsum ws k + wt k (at0 ws k)
theorem wt_bd (k : Nat) (x : Int) : 0 ≤ wt k x ∧ wt k x ≤ 16777216 := by unfold wt cut; split <;> omega
theorem wsum_nonneg (ws : List Int) (k : Nat) : 0 ≤ wsum ws k := by
  induction k with
  | zero => simp [wsum]
  | succ k ih => have := wt_bd k (at0 ws k); simp only [wsum]; omega
theorem wsum_le (ws : List Int) (k : Nat) : wsum ws k ≤ 16777216000 := by
  suffices h : wsum ws k ≤ 16777216 * (min k 1000 : Nat) by omega
  induction k with
  | zero => simp [wsum]
  | succ k ih =>
    simp only [wsum]
    by_cases hk : 1000 ≤ k
    · have : wt k (at0 ws k) = 0 := by unfold wt; rw [if_pos hk]
      omega
    · have := wt_bd k (at0 ws k); omega
theorem wsum_mono (ws : List Int) {j k : Nat} (h : j ≤ k) : wsum ws j ≤ wsum ws k := by
  induction h with
  | refl => exact Int.le_refl _
  | step _ ih => rename_i m _; have := wt_bd m (at0 ws m); simp only [wsum]; omega
/-- What the first k places have together. -/
def upTo (n : Int) (ws : List Int) (k : Nat) : Int := cut n * wsum ws k / wsum ws ws.length
/-- A number, shared out. -/
def shared (n : Int) (ws : List Int) : List Int :=
  if wsum ws ws.length = 0 then List.replicate ws.length 0 else (List.range ws.length).map fun k => upTo n ws (k + 1) - upTo n ws k
theorem shared_length (n : Int) (ws : List Int) : (shared n ws).length = ws.length := by unfold shared; split <;> simp
theorem mul_wsum_bound (n : Int) (ws : List Int) (k : Nat) : -281474976710656000 ≤ cut n * wsum ws k ∧ cut n * wsum ws k ≤ 281474976710656000 := by
  have h0 := wsum_nonneg ws k
  have h1 := wsum_le ws k
  have l := cut_lo n
  have u := cut_hi n
  have a1 : cut n * wsum ws k ≤ 16777216 * wsum ws k := Int.mul_le_mul_of_nonneg_right u h0
  have a2 : (-16777216) * wsum ws k ≤ cut n * wsum ws k := Int.mul_le_mul_of_nonneg_right l h0
  omega
theorem upTo_zero (n : Int) (ws : List Int) : upTo n ws 0 = 0 := by simp [upTo, wsum]
theorem upTo_all (n : Int) (ws : List Int) (h : wsum ws ws.length ≠ 0) : upTo n ws ws.length = cut n := by
  unfold upTo; exact Int.mul_ediv_cancel _ h
theorem upTo_bound (n : Int) (ws : List Int) (k : Nat) : -281474976710656000 ≤ upTo n ws k ∧ upTo n ws k ≤ 281474976710656000 := by
  have h := mul_wsum_bound n ws k
  have h0 := wsum_nonneg ws ws.length
  unfold upTo
  by_cases hz : wsum ws ws.length = 0
  · rw [hz]; simp
  · refine ⟨Int.le_ediv_of_mul_le (by omega) ?_, Int.ediv_le_of_le_mul (by omega) ?_⟩
    · have : -281474976710656000 * wsum ws ws.length ≤ -281474976710656000 * 1 := by
        have := Int.mul_le_mul_of_nonneg_left (show (1 : Int) ≤ wsum ws ws.length by omega) (show (0 : Int) ≤ 281474976710656000 by omega)
        omega
      omega
    · have := Int.mul_le_mul_of_nonneg_left (show (1 : Int) ≤ wsum ws ws.length by omega) (show (0 : Int) ≤ 281474976710656000 by omega)
      omega
theorem upTo_step_nonneg {n : Int} (ws : List Int) (h : 0 ≤ n) (k : Nat) : upTo n ws k ≤ upTo n ws (k + 1) := by
  unfold upTo
  have h0 := wsum_nonneg ws ws.length
  by_cases hz : wsum ws ws.length = 0
  · rw [hz]; simp
  · exact Int.ediv_le_ediv (by omega) (Int.mul_le_mul_of_nonneg_left (wsum_mono ws (Nat.le_succ k)) (cut_nonneg h))
theorem upTo_step_nonpos {n : Int} (ws : List Int) (h : n ≤ 0) (k : Nat) : upTo n ws (k + 1) ≤ upTo n ws k := by
  unfold upTo
  have h0 := wsum_nonneg ws ws.length
  by_cases hz : wsum ws ws.length = 0
  · rw [hz]; simp
  · refine Int.ediv_le_ediv (by omega) ?_
    have := Int.mul_le_mul_of_nonneg_left (wsum_mono ws (show k ≤ k + 1 by omega)) (show 0 ≤ -(cut n) by unfold cut; omega)
    rw [Int.neg_mul, Int.neg_mul] at this
    omega
theorem upTo_step_same (n : Int) (ws : List Int) (k : Nat) (h : wt k (at0 ws k) = 0) : upTo n ws (k + 1) = upTo n ws k := by
  unfold upTo; simp only [wsum]; rw [h, Int.add_zero]
/-- At each place. -/
theorem shared_at (n : Int) (ws : List Int) (k : Nat) (hk : k < ws.length) :
    (shared n ws)[k]? = some (if wsum ws ws.length = 0 then 0 else upTo n ws (k + 1) - upTo n ws k) := by
  unfold shared; split
  · simp [hk]
  · simp [hk]
theorem shared_getD (n : Int) (ws : List Int) (k : Nat) (hk : k < ws.length) :
    at0 (shared n ws) k = (if wsum ws ws.length = 0 then 0 else upTo n ws (k + 1) - upTo n ws k) := by
  simp [at0, List.getD, shared_at n ws k hk]
theorem shared_nonneg {n : Int} (ws : List Int) (h : 0 ≤ n) (k : Nat) : 0 ≤ at0 (shared n ws) k := by
  by_cases hk : k < ws.length
  · rw [shared_getD n ws k hk]; split
    · omega
    · have := upTo_step_nonneg ws h k; omega
  · simp [at0, List.getD, List.getElem?_eq_none (show (shared n ws).length ≤ k by rw [shared_length]; omega)]
theorem shared_nonpos {n : Int} (ws : List Int) (h : n ≤ 0) (k : Nat) : at0 (shared n ws) k ≤ 0 := by
  by_cases hk : k < ws.length
  · rw [shared_getD n ws k hk]; split
    · omega
    · have := upTo_step_nonpos ws h k; omega
  · simp [at0, List.getD, List.getElem?_eq_none (show (shared n ws).length ≤ k by rw [shared_length]; omega)]
theorem shared_idle (n : Int) (ws : List Int) (k : Nat) (hk : k < ws.length) (h : wt k (at0 ws k) = 0) : at0 (shared n ws) k = 0 := by
  rw [shared_getD n ws k hk]; split
  · rfl
  · have := upTo_step_same n ws k h; omega
theorem sum_map_steps (f : Nat → Int) (m : Nat) : ((List.range m).map fun k => f (k + 1) - f k).sum = f m - f 0 := by
  induction m with
  | zero => simp
  | succ m ih => rw [List.range_succ, List.map_append, List.sum_append, ih]; simp; omega
theorem shared_sum (n : Int) (ws : List Int) : (shared n ws).sum = if wsum ws ws.length = 0 then 0 else cut n := by
  unfold shared; split
  · have : ∀ m : Nat, (List.replicate m (0 : Int)).sum = 0 := fun m => by induction m <;> simp_all [List.replicate_succ]
    exact this _
  · rename_i h
    rw [sum_map_steps, upTo_all n ws h, upTo_zero]; omega
/-- There is some weight, if one of the first places has one. -/
theorem wsum_pos (ws : List Int) (k m : Nat) (hk : k < m) (h : 0 < wt k (at0 ws k)) : 0 < wsum ws m := by
  have h1 := wsum_mono ws (show k + 1 ≤ m by omega)
  have h2 := wsum_nonneg ws k
  simp only [wsum] at h1
  omega
theorem wsum_zero (ws : List Int) (m : Nat) (h : ∀ k, k < m → wt k (at0 ws k) = 0) : wsum ws m = 0 := by
  induction m with
  | zero => rfl
  | succ m ih => simp only [wsum]; rw [ih fun k hk => h k (by omega), h m (by omega)]; rfl
end Go.Proofs.YtadlabndbomgmaaDoor
/- Contracts of the library at this dump, laid by the shelf (lay-shelf.mjs, lay-plain.mjs): no walk. -/
namespace Go.Proofs
open Go.Shelf
def Tryd.lays119_ren : Go.Shelf.Ren := ⟨fun | 119 => 105 | n => n, fun | 21 => 21 | 4 => 4 | n => n, fun | n => n⟩
theorem Tryd.lays119 : Go.Proofs.Lays.n119 Tryd.prog Tryd.lays119_ren := {
  mixed := by kernel_rfl
  f119 := Tryd.func105.trans (congrArg some (by kernel_rfl))
  t4 := Tryd.underlying4
  a4 := Tryd.isAgg4
  z4 := Tryd.sizeOf4
  v4 := Tryd.zeroValue4
  t21 := Tryd.underlying21
  a21 := Tryd.isAgg21
  z21 := Tryd.sizeOf21
  v21 := Tryd.zeroValue21 }
theorem Tryd.utf8_ValidRune (r : Int) (w : World) :
    Calls Tryd.prog 105 #[.int .i32 r] w fun e w' => e = .returned (.bool (Lib.validRune r)) ∧ w' = w := Any.utf8_ValidRune Tryd.lays119 r w
def Tryd.lays137_ren : Go.Shelf.Ren := ⟨fun | 137 => 104 | 217 => 100 | 266 => 112 | n => n, fun | 9 => 9 | 5 => 5 | 3 => 3 | n => n, fun | n => n⟩
theorem Tryd.lays137 : Go.Proofs.Lays.n137 Tryd.prog Tryd.lays137_ren := {
  mixed := by kernel_rfl
  f137 := Tryd.func104.trans (congrArg some (by kernel_rfl))
  f217 := Tryd.func100.trans (congrArg some (by kernel_rfl))
  f266 := Tryd.func112.trans (congrArg some (by kernel_rfl))
  t3 := Tryd.underlying3
  a3 := Tryd.isAgg3
  z3 := Tryd.sizeOf3
  v3 := Tryd.zeroValue3
  t5 := Tryd.underlying5
  a5 := Tryd.isAgg5
  z5 := Tryd.sizeOf5
  v5 := Tryd.zeroValue5
  t9 := Tryd.underlying9
  a9 := Tryd.isAgg9
  z9 := Tryd.sizeOf9
  v9 := Tryd.zeroValue9 }
open Go.RowKit in
theorem Tryd.strings_IndexByte (s : ByteArray) (c : Int) (w : World) :
    Calls Tryd.prog 104 #[.string s, .int .u8 c] w fun e w' => e = .returned (.int .i64 (Lib.indexByte s.data.toList c.toNat.toUInt8)) ∧ w' = w := Any.strings_IndexByte Tryd.lays137 s c w
def Tryd.lays100_ren : Go.Shelf.Ren := ⟨fun | 100 => 92 | 207 => 109 | n => n, fun | 9 => 9 | 4 => 4 | 3 => 3 | n => n, fun | n => n⟩
theorem Tryd.lays100 : Go.Proofs.Lays.n100 Tryd.prog Tryd.lays100_ren := {
  mixed := by kernel_rfl
  f100 := Tryd.func92.trans (congrArg some (by kernel_rfl))
  f207 := Tryd.func109.trans (congrArg some (by kernel_rfl))
  t3 := Tryd.underlying3
  a3 := Tryd.isAgg3
  z3 := Tryd.sizeOf3
  v3 := Tryd.zeroValue3
  t4 := Tryd.underlying4
  a4 := Tryd.isAgg4
  z4 := Tryd.sizeOf4
  v4 := Tryd.zeroValue4
  t9 := Tryd.underlying9
  a9 := Tryd.isAgg9
  z9 := Tryd.sizeOf9
  v9 := Tryd.zeroValue9 }
open Go.RowKit Go.Lib in
theorem Tryd.strings_HasSuffix (s p : ByteArray) (w : World) (hs : s.size ≤ 9223372036854775807) :
    Calls Tryd.prog 92 #[.string s, .string p] w fun e w' => e = .returned (.bool (Lib.hasSuffix s.data.toList p.data.toList)) ∧ w' = w := Any.strings_HasSuffix Tryd.lays100 s p w hs
def Tryd.lays151_ren : Go.Shelf.Ren := ⟨fun | 151 => 57 | 152 => 82 | 137 => 104 | 119 => 105 | 224 => 102 | 225 => 101 | 217 => 100 | 266 => 112 | n => n, fun | 9 => 9 | 21 => 21 | 4 => 4 | 3 => 3 | 5 => 5 | 0 => 0 | 46 => 62 | n => n, fun | n => n⟩
theorem Tryd.lays151 : Go.Proofs.Lays.n151 Tryd.prog Tryd.lays151_ren := {
  mixed := by kernel_rfl
  f119 := Tryd.func105.trans (congrArg some (by kernel_rfl))
  f137 := Tryd.func104.trans (congrArg some (by kernel_rfl))
  f151 := Tryd.func57.trans (congrArg some (by kernel_rfl))
  f152 := Tryd.func82.trans (congrArg some (by kernel_rfl))
  f217 := Tryd.func100.trans (congrArg some (by kernel_rfl))
  f224 := Tryd.func102.trans (congrArg some (by kernel_rfl))
  f225 := Tryd.func101.trans (congrArg some (by kernel_rfl))
  f266 := Tryd.func112.trans (congrArg some (by kernel_rfl))
  t0 := Tryd.underlying0
  a0 := Tryd.isAgg0
  z0 := Tryd.sizeOf0
  v0 := Tryd.zeroValue0
  t3 := Tryd.underlying3
  a3 := Tryd.isAgg3
  z3 := Tryd.sizeOf3
  v3 := Tryd.zeroValue3
  t4 := Tryd.underlying4
  a4 := Tryd.isAgg4
  z4 := Tryd.sizeOf4
  v4 := Tryd.zeroValue4
  t5 := Tryd.underlying5
  a5 := Tryd.isAgg5
  z5 := Tryd.sizeOf5
  v5 := Tryd.zeroValue5
  t9 := Tryd.underlying9
  a9 := Tryd.isAgg9
  z9 := Tryd.sizeOf9
  v9 := Tryd.zeroValue9
  t21 := Tryd.underlying21
  a21 := Tryd.isAgg21
  z21 := Tryd.sizeOf21
  v21 := Tryd.zeroValue21
  t46 := Tryd.underlying62
  a46 := Tryd.isAgg62
  z46 := Tryd.sizeOf62
  v46 := Tryd.zeroValue62 }
open Go.RowKit Go.Lib in
theorem Tryd.strings_ContainsRune_ascii (s : ByteArray) (r : Int) (w : World) (h0 : 0 ≤ r) (h1 : r < 128) :
    Calls Tryd.prog 57 #[.string s, .int .i32 r] w fun e w' => e = .returned (.bool (decide (0 ≤ Lib.indexByte s.data.toList r.toNat.toUInt8))) ∧ w' = w := Any.strings_ContainsRune_ascii Tryd.lays151 s r w h0 h1
end Go.Proofs
/- Contracts of the library at this dump, laid by the shelf (lay-shelf.mjs, lay-plain.mjs): no walk. -/
namespace Go.Proofs
open Go.Shelf
def Tryd.lays155_ren : Go.Shelf.Ren := ⟨fun | 155 => 21 | 154 => 35 | 138 => 52 | 165 => 53 | 143 => 54 | 166 => 55 | 197 => 14 | 169 => 56 | 195 => 77 | 218 => 78 | 240 => 79 | 241 => 80 | 219 => 81 | 260 => 26 | 276 => 98 | 277 => 99 | 217 => 100 | 225 => 101 | 224 => 102 | 267 => 103 | 266 => 112 | 314 => 113 | n => n, fun | 9 => 9 | 3 => 3 | 4 => 4 | 72 => 108 | 0 => 0 | 76 => 111 | 105 => 30 | 21 => 21 | 5 => 5 | 70 => 105 | 20 => 20 | 37 => 106 | 75 => 110 | 127 => 140 | 164 => 159 | 46 => 62 | 119 => 58 | 139 => 61 | 138 => 60 | 146 => 167 | 51 => 166 | 80 => 113 | n => n, fun | 1 => 2 | 3 => 0 | 4 => 1 | n => n⟩
theorem Tryd.lays155 : Go.Proofs.Lays.n155 Tryd.prog Tryd.lays155_ren := {
  mixed := by kernel_rfl
  f138 := Tryd.func52.trans (congrArg some (by kernel_rfl))
  f143 := Tryd.func54.trans (congrArg some (by kernel_rfl))
  f154 := Tryd.func35.trans (congrArg some (by kernel_rfl))
  f155 := Tryd.func21.trans (congrArg some (by kernel_rfl))
  f165 := Tryd.func53.trans (congrArg some (by kernel_rfl))
  f166 := Tryd.func55.trans (congrArg some (by kernel_rfl))
  f169 := Tryd.func56.trans (congrArg some (by kernel_rfl))
  f195 := Tryd.func77.trans (congrArg some (by kernel_rfl))
  f197 := Tryd.func14.trans (congrArg some (by kernel_rfl))
  f217 := Tryd.func100.trans (congrArg some (by kernel_rfl))
  f218 := Tryd.func78.trans (congrArg some (by kernel_rfl))
  f219 := Tryd.func81.trans (congrArg some (by kernel_rfl))
  f224 := Tryd.func102.trans (congrArg some (by kernel_rfl))
  f225 := Tryd.func101.trans (congrArg some (by kernel_rfl))
  f240 := Tryd.func79.trans (congrArg some (by kernel_rfl))
  f241 := Tryd.func80.trans (congrArg some (by kernel_rfl))
  f260 := Tryd.func26.trans (congrArg some (by kernel_rfl))
  f266 := Tryd.func112.trans (congrArg some (by kernel_rfl))
  f267 := Tryd.func103.trans (congrArg some (by kernel_rfl))
  f276 := Tryd.func98.trans (congrArg some (by kernel_rfl))
  f277 := Tryd.func99.trans (congrArg some (by kernel_rfl))
  f314 := Tryd.func113.trans (congrArg some (by kernel_rfl))
  t0 := Tryd.underlying0
  a0 := Tryd.isAgg0
  z0 := Tryd.sizeOf0
  v0 := Tryd.zeroValue0
  t3 := Tryd.underlying3
  a3 := Tryd.isAgg3
  z3 := Tryd.sizeOf3
  v3 := Tryd.zeroValue3
  t4 := Tryd.underlying4
  a4 := Tryd.isAgg4
  z4 := Tryd.sizeOf4
  v4 := Tryd.zeroValue4
  t5 := Tryd.underlying5
  a5 := Tryd.isAgg5
  z5 := Tryd.sizeOf5
  v5 := Tryd.zeroValue5
  t9 := Tryd.underlying9
  a9 := Tryd.isAgg9
  z9 := Tryd.sizeOf9
  v9 := Tryd.zeroValue9
  t20 := Tryd.underlying20
  a20 := Tryd.isAgg20
  z20 := Tryd.sizeOf20
  v20 := Tryd.zeroValue20
  t21 := Tryd.underlying21
  a21 := Tryd.isAgg21
  z21 := Tryd.sizeOf21
  v21 := Tryd.zeroValue21
  t37 := Tryd.underlying106
  a37 := Tryd.isAgg106
  z37 := Tryd.sizeOf106
  v37 := Tryd.zeroValue106
  t46 := Tryd.underlying62
  a46 := Tryd.isAgg62
  z46 := Tryd.sizeOf62
  v46 := Tryd.zeroValue62
  t51 := Tryd.underlying166
  a51 := Tryd.isAgg166
  z51 := Tryd.sizeOf166
  v51 := Tryd.zeroValue166
  t70 := Tryd.underlying105
  a70 := Tryd.isAgg105
  z70 := Tryd.sizeOf105
  v70 := Tryd.zeroValue105
  t72 := Tryd.underlying108
  a72 := Tryd.isAgg108
  z72 := Tryd.sizeOf108
  v72 := Tryd.zeroValue108
  t75 := Tryd.underlying110
  a75 := Tryd.isAgg110
  z75 := Tryd.sizeOf110
  v75 := Tryd.zeroValue110
  t76 := Tryd.underlying111
  a76 := Tryd.isAgg111
  z76 := Tryd.sizeOf111
  v76 := Tryd.zeroValue111
  t105 := Tryd.underlying30
  a105 := Tryd.isAgg30
  z105 := Tryd.sizeOf30
  v105 := Tryd.zeroValue30
  t119 := Tryd.underlying58
  a119 := Tryd.isAgg58
  z119 := Tryd.sizeOf58
  t127 := Tryd.underlying140
  a127 := Tryd.isAgg140
  z127 := Tryd.sizeOf140
  v127 := Tryd.zeroValue140
  t138 := Tryd.underlying60
  a138 := Tryd.isAgg60
  z138 := Tryd.sizeOf60
  v138 := Tryd.zeroValue60
  t139 := Tryd.underlying61
  a139 := Tryd.isAgg61
  z139 := Tryd.sizeOf61
  v139 := Tryd.zeroValue61
  t146 := Tryd.underlying167
  a146 := Tryd.isAgg167
  z146 := Tryd.sizeOf167
  v146 := Tryd.zeroValue167
  t164 := Tryd.underlying159
  a164 := Tryd.isAgg159
  z164 := Tryd.sizeOf159
  v164 := Tryd.zeroValue159
  g1 := by kernel_rfl
  g3 := by kernel_rfl
  g4 := by kernel_rfl }
theorem Tryd.Builder_Extra_155 : Builder.Extra Tryd.prog Tryd.lays155_ren := {
  sizeBuilder := by kernel_rfl
  liesBuilder := by kernel_rfl
  t5 := Tryd.underlying5
  a5 := Tryd.isAgg5
  z5 := Tryd.sizeOf5
  v5 := Tryd.zeroValue5
  infoByte := by kernel_rfl
  cellsByte := by kernel_rfl
  sizeByte := by kernel_rfl
  neB5 := by decide }
open Go.RowKit Go.Lib in
theorem Tryd.strings_ReplaceAll (s old new : ByteArray) (m : Int) (w : World) (hs : s.size < 4294967281) (hm : w.cell? ⟨2, 0, none⟩ = some (.int .i64 m)) (h1 : 1 ≤ old.size) (hlen : s.size + Lib.countB s old * new.size ≤ 140737488355328) :
    Calls Tryd.prog 21 #[.string s, .string old, .string new] w fun e w' =>
      e = .returned (.string ⟨(Lib.replaceAll s.data.toList old.data.toList new.data.toList).toArray⟩) ∧ Below w.heap.size w w' := Any.strings_ReplaceAll Tryd.lays155 Tryd.Builder_Extra_155 s old new m w hs hm h1 hlen
end Go.Proofs
/- Plain facts: sums of a list's beginnings; is some number above 0? No program in sight. -/
namespace Go.Proofs.YtadlabndbomgmaaDoor
/-- The sum of the first k numbers. -/
def psum (l : List Int) (k : Nat) : Int := (l.take k).sum
theorem psum_zero (l : List Int) : psum l 0 = 0 := rfl
theorem psum_succ (l : List Int) (k : Nat) (h : k < l.length) : psum l (k + 1) = psum l k + at0 l k := by
  unfold psum; rw [List.take_succ_eq_append_getElem h, List.sum_append, at0_of l k h]; simp
theorem psum_all (l : List Int) : psum l l.length = l.sum := by unfold psum; rw [List.take_length]
theorem psum_shared (n : Int) (ws : List Int) (k : Nat) (hk : k ≤ ws.length) : psum (shared n ws) k = if wsum ws ws.length = 0 then 0 else upTo n ws k := by
  induction k with
  | zero => rw [psum_zero, upTo_zero, ite_self]
  | succ k ih =>
    rw [psum_succ _ _ (by rw [shared_length]; omega), ih (by omega), shared_getD n ws k (by omega)]
    split
    · rfl
    · omega
theorem psum_shared_bound (n : Int) (ws : List Int) (k : Nat) (hk : k ≤ ws.length) : -281474976710656000 ≤ psum (shared n ws) k ∧ psum (shared n ws) k ≤ 281474976710656000 := by
  rw [psum_shared n ws k hk]
  have := upTo_bound n ws k
  split
  · omega
  · exact this
/-- Is one of the first k numbers above 0? -/
def somePos (ws : List Int) : Nat → Bool
  | 0 => false
  | k + 1 => somePos ws k || decide (0 < at0 ws k)
theorem somePos_true {ws : List Int} {m : Nat} (h : somePos ws m = true) : ∃ k, k < m ∧ 0 < at0 ws k := by
  induction m with
  | zero => cases h
  | succ m ih =>
    simp only [somePos, Bool.or_eq_true, decide_eq_true_eq] at h
    rcases h with h | h
    · obtain ⟨k, h1, h2⟩ := ih h; exact ⟨k, by omega, h2⟩
    · exact ⟨m, by omega, h⟩
theorem somePos_false {ws : List Int} {m : Nat} (h : somePos ws m = false) : ∀ k, k < m → at0 ws k ≤ 0 := by
  induction m with
  | zero => intro k hk; omega
  | succ m ih =>
    simp only [somePos, Bool.or_eq_false_iff, decide_eq_false_iff_not] at h
    intro k hk
    by_cases e : k = m
    · subst e; omega
    · exact ih h.1 k (by omega)
theorem wt_idle (k : Nat) {x : Int} (h : x ≤ 0) : wt k x = 0 := by unfold wt cut; split <;> omega
theorem wt_pos {k : Nat} {x : Int} (hk : k < 1000) (h : 0 < x) : 0 < wt k x := by unfold wt cut; split <;> omega
theorem shared_sum_some (n : Int) (ws : List Int) (hl : ws.length ≤ 1000) (h : somePos ws ws.length = true) : (shared n ws).sum = cut n := by
  obtain ⟨k, hk, hx⟩ := somePos_true h
  have := wsum_pos ws k ws.length hk (wt_pos (by omega) hx)
  rw [shared_sum, if_neg (by omega)]
theorem shared_sum_none (n : Int) (ws : List Int) (h : somePos ws ws.length = false) : (shared n ws).sum = 0 := by
  have := wsum_zero ws ws.length fun k hk => wt_idle k (somePos_false h k hk)
  rw [shared_sum, if_pos this]
end Go.Proofs.YtadlabndbomgmaaDoor
/- Plain facts on texts that are valid: the runes of two texts, one behind the other; of a piece; widths. No program in sight. -/
namespace Go.Proofs.YtadlabndbomgmaaDoor
open Go.Lib
/-- The runes of a list of bytes. -/
def runesG : Nat → List UInt8 → List Int
  | 0, _ => []
  | f + 1, l => if l = [] then [] else ((decodeL l).1 : Int) :: runesG f (l.drop (decodeL l).2)
def runesL (l : List UInt8) : List Int := runesG l.length l
theorem runesG_fuel : ∀ (f g : Nat) (l : List UInt8), l.length ≤ f → l.length ≤ g → runesG f l = runesG g l
  | 0, 0, _, _, _ => rfl
  | 0, g + 1, l, h, _ => by
    obtain rfl : l = [] := List.eq_nil_of_length_eq_zero (by omega)
    simp [runesG]
  | f + 1, 0, l, _, h => by
    obtain rfl : l = [] := List.eq_nil_of_length_eq_zero (by omega)
    simp [runesG]
  | f + 1, g + 1, l, h1, h2 => by
    simp only [runesG]
    by_cases hne : l = []
    · rw [if_pos hne, if_pos hne]
    · have hw := decodeL_width l
      have hl : 0 < l.length := List.length_pos_iff.2 hne
      rw [if_neg hne, if_neg hne, runesG_fuel f g _ (by rw [List.length_drop]; omega) (by rw [List.length_drop]; omega)]
theorem runesL_nil : runesL [] = [] := rfl
theorem runesL_step (l : List UInt8) (hne : l ≠ []) : runesL l = ((decodeL l).1 : Int) :: runesL (l.drop (decodeL l).2) := by
  have hl : 0 < l.length := List.length_pos_iff.2 hne
  have hw := decodeL_width l
  obtain ⟨n, hn⟩ : ∃ n, l.length = n + 1 := ⟨l.length - 1, by omega⟩
  unfold runesL
  rw [hn]
  simp only [runesG]
  rw [if_neg hne, runesG_fuel n _ _ (by rw [List.length_drop]; omega) (Nat.le_refl _)]
theorem runesAt_list (s : ByteArray) : ∀ (f pos : Nat), s.size - pos ≤ f → runesAt s pos = runesL (s.data.toList.drop pos)
  | 0, pos, h => by
    rw [runesAt_end s pos (by omega), List.drop_of_length_le (by rw [Array.length_toList]; show s.size ≤ pos; omega)]; rfl
  | f + 1, pos, h => by
    by_cases hp : pos < s.size
    · have hw := decode_wd s pos hp
      rw [runesAt_step s pos hp, runesL_step _ (by
        intro e
        have := congrArg List.length e
        rw [List.length_drop, Array.length_toList] at this
        have h9 : s.data.size - pos = 0 := this
        have : s.data.size = s.size := rfl
        omega), decodeL_drop, List.drop_drop, runesAt_list s f _ (by omega)]
    · rw [runesAt_end s pos (by omega), List.drop_of_length_le (by rw [Array.length_toList]; show s.size ≤ pos; omega)]; rfl
theorem runes_all (s : ByteArray) : runesAt s 0 = runesL s.data.toList := by rw [runesAt_list s s.size 0 (by omega), List.drop_zero]
/-- A step that is no error reads no further than its own bytes. -/
theorem decodeN_same (n n' b0 b1 b2 b3 c1 c2 c3 : Nat) (hw : (decodeN n b0 b1 b2 b3).2 ≤ n') (h1 : 1 < (decodeN n b0 b1 b2 b3).2 → b1 = c1) (h2 : 2 < (decodeN n b0 b1 b2 b3).2 → b2 = c2) (h3 : 3 < (decodeN n b0 b1 b2 b3).2 → b3 = c3)
    (hne : ¬ ((decodeN n b0 b1 b2 b3).1 = 65533 ∧ (decodeN n b0 b1 b2 b3).2 = 1)) : decodeN n' b0 c1 c2 c3 = decodeN n b0 b1 b2 b3 := by
  rcases decodeN_shape n b0 b1 b2 b3 with ⟨c, e⟩ | ⟨k1, k2, k3, kv, e⟩ | ⟨k1, k2, k3, k4, kv, ks, e⟩ | ⟨k1, k2, k3, k4, k5, kv, kw, e⟩ | e
  · rw [e]; unfold decodeN; rw [if_pos c]
  · rw [e] at hw h1 ⊢
    obtain rfl := h1 (by simp)
    simp only at hw
    unfold decodeN
    rw [if_neg (by omega), if_pos ⟨k1, by omega, k3⟩, if_pos kv]
  · rw [e] at hw h1 h2 ⊢
    obtain rfl := h1 (by simp)
    obtain rfl := h2 (by simp)
    simp only at hw
    unfold decodeN
    rw [if_neg (by omega), if_neg (by omega), if_pos ⟨k1, ⟨by omega, k3⟩, by omega, k4⟩, if_pos ⟨kv, by omega⟩]
  · rw [e] at hw h1 h2 h3 ⊢
    obtain rfl := h1 (by simp)
    obtain rfl := h2 (by simp)
    obtain rfl := h3 (by simp)
    simp only at hw
    unfold decodeN
    rw [if_neg (by omega), if_neg (by omega), if_neg (by omega), if_pos ⟨k1, ⟨by omega, k3⟩, ⟨by omega, k4⟩, by omega, k5⟩, if_pos ⟨kv, by omega⟩]
  · rw [e] at hne; exact absurd ⟨rfl, rfl⟩ hne
theorem decodeL_pre (l p : List UInt8) (hp : (decodeL l).2 ≤ p.length) (he : p.take (decodeL l).2 = l.take (decodeL l).2) (hne : ¬ ((decodeL l).1 = 65533 ∧ (decodeL l).2 = 1)) : decodeL p = decodeL l := by
  have hw1 := decodeL_width l
  have hg : ∀ i, i < (decodeL l).2 → p.getD i 0 = l.getD i 0 := fun i hi => by
    have h1 : (p.take (decodeL l).2)[i]? = (l.take (decodeL l).2)[i]? := by rw [he]
    rw [List.getElem?_take_of_lt hi, List.getElem?_take_of_lt hi] at h1
    simp only [List.getD, h1]
  rw [decodeL_N p, decodeL_N l, hg 0 (by omega)]
  refine decodeN_same _ _ _ _ _ _ _ _ _ (by rw [← decodeL_N]; exact hp) (fun h => ?_) (fun h => ?_) (fun h => ?_) (by rw [← decodeL_N]; exact hne)
  · rw [← decodeL_N] at h; rw [hg 1 h]
  · rw [← decodeL_N] at h; rw [hg 2 h]
  · rw [← decodeL_N] at h; rw [hg 3 h]
/-- A text that is valid: each step is no error. -/
theorem valid_head {l : List UInt8} (hne : l ≠ []) (h : validD l = true) : ¬ ((decodeL l).1 = 65533 ∧ (decodeL l).2 = 1) ∧ validD (l.drop (decodeL l).2) = true := by
  rw [validD_step l hne] at h
  split at h
  · cases h
  · exact ⟨by assumption, h⟩
theorem runes_append : ∀ (f : Nat) (a b : List UInt8), a.length ≤ f → validD a = true → runesL (a ++ b) = runesL a ++ runesL b
  | 0, a, b, h, _ => by
    obtain rfl : a = [] := List.eq_nil_of_length_eq_zero (by omega)
    rfl
  | f + 1, a, b, h, hv => by
    by_cases hne : a = []
    · subst hne; rfl
    · obtain ⟨h1, h2⟩ := valid_head hne hv
      have hl := decodeL_le a hne
      have hw := decodeL_width a
      have e : decodeL (a ++ b) = decodeL a := decodeL_pre a (a ++ b) (by rw [List.length_append]; omega) (by rw [List.take_append_of_le_length hl]) h1
      rw [runesL_step a hne, runesL_step (a ++ b) (by simp [hne]), e, List.drop_append_of_le_length hl, runes_append f _ b (by rw [List.length_drop]; omega) h2]
      rfl
theorem runesL_len : ∀ (f : Nat) (l : List UInt8), l.length ≤ f → (runesL l).length ≤ f
  | 0, l, h => by
    obtain rfl : l = [] := List.eq_nil_of_length_eq_zero (by omega)
    simp [runesL_nil]
  | f + 1, l, h => by
    by_cases hne : l = []
    · subst hne; simp [runesL_nil]
    · have hw := decodeL_width l
      rw [runesL_step l hne]
      have := runesL_len f (l.drop (decodeL l).2) (by rw [List.length_drop]; omega)
      simp; omega
/-! Widths. -/
def widthF (size sp : Int) (l : List Int) : Int := cut (wideS size (cut sp) l)
theorem wideS_bd (size sp : Int) (M : Int) (hs : sizeF size ≤ M) (hsp : -M ≤ sp ∧ sp ≤ M) (hM : 0 ≤ M) : ∀ l : List Int, -(M * l.length) ≤ wideS size sp l ∧ wideS size sp l ≤ 2 * (M * l.length)
  | [] => by simp [wideS]
  | r :: l => by
    have ih := wideS_bd size sp M hs hsp hM l
    have ha := adv_bd r size
    simp only [wideS, List.length_cons]
    have e : M * ((l.length + 1 : Nat) : Int) = M * (l.length : Int) + M := by rw [Int.natCast_add, Int.mul_add]; simp
    rw [e]
    omega
/-- Two texts, one behind the other, are as wide as both. -/
theorem width_joined (size sp : Int) (hs : sizeF size ≤ 32767) (hsp : -128 ≤ sp ∧ sp ≤ 127) (a b : List Int) (ha : a.length ≤ 100) (hb : b.length ≤ 100) : widthF size sp (a ++ b) = widthF size sp a + widthF size sp b := by
  have hc : cut sp = sp := cut_of (by omega) (by omega)
  have h1 := wideS_bd size sp 32767 hs (by omega) (by omega) a
  have h2 := wideS_bd size sp 32767 hs (by omega) (by omega) b
  unfold widthF
  rw [hc, wideS_append, cut_of (by omega) (by omega), cut_of (by omega) (by omega), cut_of (by omega) (by omega)]
end Go.Proofs.YtadlabndbomgmaaDoor
/- Plain facts on what fits: as much as has room; one rune more has none. No program in sight. -/
namespace Go.Proofs.YtadlabndbomgmaaDoor
open Go.Lib
theorem valid_append : ∀ (f : Nat) (a b : List UInt8), a.length ≤ f → validD a = true → validD (a ++ b) = validD b
  | 0, a, b, h, _ => by
    obtain rfl : a = [] := List.eq_nil_of_length_eq_zero (by omega)
    rfl
  | f + 1, a, b, h, hv => by
    by_cases hne : a = []
    · subst hne; rfl
    · obtain ⟨h1, h2⟩ := valid_head hne hv
      have hl := decodeL_le a hne
      have hw := decodeL_width a
      have e : decodeL (a ++ b) = decodeL a := decodeL_pre a (a ++ b) (by rw [List.length_append]; omega) (by rw [List.take_append_of_le_length hl]) h1
      rw [validD_step (a ++ b) (by simp [hne]), e, if_neg h1, List.drop_append_of_le_length hl, valid_append f _ b (by rw [List.length_drop]; omega) h2]
/-- One rune alone. -/
theorem one_rune {q : List UInt8} (hne : q ≠ []) (hv : validD q = true) : runesL (q.take (decodeL q).2) = [((decodeL q).1 : Int)] ∧ validD (q.take (decodeL q).2) = true := by
  obtain ⟨h1, _⟩ := valid_head hne hv
  have hl := decodeL_le q hne
  have hw := decodeL_width q
  have hlen : (q.take (decodeL q).2).length = (decodeL q).2 := by rw [List.length_take]; omega
  have e : decodeL (q.take (decodeL q).2) = decodeL q := decodeL_pre q _ (by omega) (by rw [List.take_take, Nat.min_self]) h1
  have hn2 : q.take (decodeL q).2 ≠ [] := fun h => by rw [h] at hlen; simp at hlen; omega
  have hd : (q.take (decodeL q).2).drop (decodeL q).2 = [] := List.drop_of_length_le (by omega)
  constructor
  · rw [runesL_step _ hn2, e, hd]; rfl
  · rw [validD_step _ hn2, e, if_neg h1, hd]; rfl
/-- As much as has room, from a place on. -/
def fitG (size sp room : Int) (s : ByteArray) : Nat → Nat → Int → Nat
  | 0, _, _ => s.size
  | f + 1, pos, acc => if pos < s.size then (if room < cut (acc + (advF ((Utf8.decode s pos).1 : Int) size + sp)) then pos else fitG size sp room s f (pos + (Utf8.decode s pos).2) (acc + (advF ((Utf8.decode s pos).1 : Int) size + sp))) else s.size
def fitF (size sp room : Int) (s : ByteArray) : Nat := fitG size sp room s s.size 0 0
theorem bytes_len (s : ByteArray) : s.data.toList.length = s.size := by rw [Array.length_toList]; rfl
def FitOk (size sp room : Int) (s : ByteArray) (k : Nat) : Prop :=
  k ≤ s.size ∧ cut (wideS size sp (runesL (s.data.toList.take k))) ≤ room ∧ (k < s.size → room < cut (wideS size sp (runesL (s.data.toList.take (k + (Utf8.decode s k).2)))))
theorem fit_to (size sp room : Int) (s : ByteArray) : ∀ (f pos : Nat) (acc : Int), s.size - pos ≤ f → pos ≤ s.size → validD (s.data.toList.take pos) = true → validD (s.data.toList.drop pos) = true → acc = wideS size sp (runesL (s.data.toList.take pos)) → cut acc ≤ room → FitOk size sp room s (fitG size sp room s f pos acc)
  | 0, pos, acc, hf, hp, _, _, ha, hc => by
    obtain rfl : pos = s.size := by omega
    unfold fitG
    exact ⟨Nat.le_refl _, by rw [← ha]; exact hc, fun h => absurd h (Nat.lt_irrefl _)⟩
  | f + 1, pos, acc, hf, hp, hv1, hv2, ha, hc => by
    unfold fitG
    by_cases hlt : pos < s.size
    · rw [if_pos hlt]
      have hw := decode_wd s pos hlt
      have hne : s.data.toList.drop pos ≠ [] := fun e => by
        have := congrArg List.length e
        rw [List.length_drop, bytes_len] at this
        simp at this; omega
      have hd := decodeL_drop s pos
      obtain ⟨o1, o2⟩ := one_rune hne hv2
      obtain ⟨_, h2⟩ := valid_head hne hv2
      rw [hd] at o1 o2 h2
      have ht : s.data.toList.take (pos + (Utf8.decode s pos).2) = s.data.toList.take pos ++ (s.data.toList.drop pos).take (Utf8.decode s pos).2 := List.take_add
      have hr : runesL (s.data.toList.take (pos + (Utf8.decode s pos).2)) = runesL (s.data.toList.take pos) ++ [((Utf8.decode s pos).1 : Int)] := by
        rw [ht, runes_append _ _ _ (Nat.le_refl _) hv1, o1]
      have hacc : acc + (advF ((Utf8.decode s pos).1 : Int) size + sp) = wideS size sp (runesL (s.data.toList.take (pos + (Utf8.decode s pos).2))) := by
        rw [hr, wideS_append, ha]; simp [wideS]
      by_cases hrm : room < cut (acc + (advF ((Utf8.decode s pos).1 : Int) size + sp))
      · rw [if_pos hrm]
        exact ⟨hp, by rw [← ha]; exact hc, fun _ => by rw [← hacc]; exact hrm⟩
      · rw [if_neg hrm]
        refine fit_to size sp room s f _ _ (by omega) (by omega) ?_ ?_ hacc (by omega)
        · rw [ht, valid_append _ _ _ (Nat.le_refl _) hv1, o2]
        · rw [List.drop_drop] at h2; exact h2
    · rw [if_neg hlt]
      obtain rfl : pos = s.size := by omega
      exact ⟨Nat.le_refl _, by rw [← ha]; exact hc, fun h => absurd h (Nat.lt_irrefl _)⟩
theorem fit_law (size sp room : Int) (s : ByteArray) (hr : 0 ≤ room) (hv : validD s.data.toList = true) : FitOk size sp room s (fitF size sp room s) :=
  fit_to size sp room s s.size 0 0 (by omega) (Nat.zero_le _) rfl (by rw [List.drop_zero]; exact hv) rfl (by rw [show cut 0 = 0 from rfl]; exact hr)
end Go.Proofs.YtadlabndbomgmaaDoor
/- Plain facts on items of lines: the parts they are cut into, groups of parts, widths. No program in sight. -/
namespace Go.Proofs.YtadlabndbomgmaaDoor
open Go.Lib
/-- A blank behind a text is a rune of its own, whatever stands ahead. -/
theorem decodeL_space (l : List UInt8) (hne : l ≠ []) : decodeL (l ++ [32]) = decodeL l := by
  have key : ∀ n b0 b1 b2 b3 c1 c2 c3 : Nat, 1 ≤ n → (1 < n → b1 = c1) → (2 < n → b2 = c2) → (3 < n → b3 = c3) → (n = 1 → b1 = 32) → (n = 2 → b2 = 32) → (n = 3 → b3 = 32) → decodeN (n + 1) b0 b1 b2 b3 = decodeN n b0 c1 c2 c3 := by
    intro n b0 b1 b2 b3 c1 c2 c3 hn e1 e2 e3 f1 f2 f3
    rcases (show n = 1 ∨ n = 2 ∨ n = 3 ∨ 3 < n by omega) with h | h | h | h
    · subst h
      have := f1 rfl
      subst this
      unfold decodeN
      simp
    · subst h
      have := f2 rfl
      have h1 := e1 (by omega)
      subst this h1
      unfold decodeN
      simp
    · subst h
      have := f3 rfl
      have h1 := e1 (by omega)
      have h2 := e2 (by omega)
      subst this h1 h2
      unfold decodeN
      simp
    · have h1 := e1 (by omega)
      have h2 := e2 (by omega)
      have h3 := e3 (by omega)
      subst h1 h2 h3
      unfold decodeN
      simp [show 1 < n by omega, show 2 < n by omega, h]
      have a1 : 0 < n := by omega
      have a2 : 2 < n + 1 := by omega
      have a3 : 3 < n + 1 := by omega
      simp [a1, a2, a3]
  have hl : 0 < l.length := List.length_pos_iff.2 hne
  have g : ∀ i, i < l.length → (l ++ [32]).getD i 0 = l.getD i 0 := fun i hi => by simp [List.getD, List.getElem?_append_left hi]
  have g2 : (l ++ [32]).getD l.length 0 = 32 := by simp [List.getD]
  rw [decodeL_N, decodeL_N l, List.length_append, List.length_singleton, g 0 hl]
  exact key _ _ _ _ _ _ _ _ hl (fun h => by rw [g 1 h]) (fun h => by rw [g 2 h]) (fun h => by rw [g 3 h]) (fun h => by rw [← h, g2]; rfl) (fun h => by rw [← h, g2]; rfl) (fun h => by rw [← h, g2]; rfl)
theorem decodeL_le (l : List UInt8) (hne : l ≠ []) : (decodeL l).2 ≤ l.length := by
  have hl : 0 < l.length := List.length_pos_iff.2 hne
  have := (decode_wd ⟨l.toArray⟩ 0 (by simpa [ByteArray.size] using hl)).2.1
  simpa [decodeL, ByteArray.size] using this
theorem runes_space : ∀ (f : Nat) (l : List UInt8), l.length ≤ f → runesL (l ++ [32]) = runesL l ++ [32]
  | 0, l, h => by
    obtain rfl : l = [] := List.eq_nil_of_length_eq_zero (by omega)
    kernel_rfl
  | f + 1, l, h => by
    by_cases hne : l = []
    · subst hne; kernel_rfl
    · have h1 := decodeL_width l
      have h2 := decodeL_le l hne
      rw [runesL_step (l ++ [32]) (by simp), runesL_step l hne, decodeL_space l hne, List.drop_append_of_le_length h2, runes_space f (l.drop (decodeL l).2) (by rw [List.length_drop]; omega)]
      rfl
/-- An item of lines. -/
structure It where
  kind : Int
  box : Int
  text : ByteArray
  size : Int
  spacing : Int
  height : Int
  mode : Int
  shift : Int
  w : Int
  h : Int
  side : Int
def it0 : It := ⟨0, 0, ByteArray.empty, 0, 0, 0, 0, 0, 0, 0, 0⟩
def itAt (xs : List It) (k : Nat) : It := xs.getD k it0
theorem itAt_of (xs : List It) (k : Nat) (h : k < xs.length) : itAt xs k = xs[k] := by simp [itAt, List.getD, List.getElem?_eq_getElem h]
/-- A part of an item: the item's number, its text, its width, whether it is the last one. -/
structure Pt where
  i : Nat
  t : ByteArray
  w : Int
  last : Bool
def txW (x : It) (t : ByteArray) : Int := widthF x.size x.spacing (runesL t.data.toList)
def textParts (i : Nat) (x : It) : Nat → List ByteArray → List Pt
  | _, [] => []
  | n, t :: r => ⟨i, t, txW x t, n == 1⟩ :: textParts i x (n - 1) r
def partsOf (i : Nat) (x : It) : List Pt :=
  if x.kind = 1 then textParts i x (piecesF x.text (modeW x.mode) (modeK x.mode)).length (piecesF x.text (modeW x.mode) (modeK x.mode))
  else if x.kind = 6 ∨ x.kind = 7 ∨ x.kind = 5 then [⟨i, ByteArray.empty, 0, true⟩]
  else if x.kind = 4 then [⟨i, ByteArray.empty, max 0 (cut x.w), true⟩]
  else [⟨i, ByteArray.empty, cut x.w, true⟩]
def partsTo (xs : List It) (k : Nat) : List Pt := (List.range k).flatMap fun i => partsOf i (itAt xs i)
theorem partsTo_next (xs : List It) (k : Nat) : partsTo xs (k + 1) = partsTo xs k ++ partsOf k (itAt xs k) := by simp [partsTo, List.range_succ]
def pt0 : Pt := ⟨0, ByteArray.empty, 0, false⟩
def ptAt (ps : List Pt) (k : Nat) : Pt := ps.getD k pt0
theorem ptAt_of (ps : List Pt) (k : Nat) (h : k < ps.length) : ptAt ps k = ps[k] := by simp [ptAt, List.getD, List.getElem?_eq_getElem h]
section
variable (xs : List It)
def pKind (p : Pt) : Int := (itAt xs p.i).kind
def pMode (p : Pt) : Int := (itAt xs p.i).mode
def solidF (p : Pt) : Bool := pKind xs p == 1 || pKind xs p == 4
def collF (p : Pt) : Bool := pKind xs p == 1 && (pMode xs p == 0 || pMode xs p == 2)
def spaceEnd (t : ByteArray) : Bool := t.data.toList.getLast? == some 32
def endsF (p : Pt) : Bool := pKind xs p == 1 && spaceEnd p.t
def tailF (p : Pt) : Int := if collF xs p && endsF xs p then p.w - txW (itAt xs p.i) (p.t.extract 0 (p.t.size - 1)) else 0
/-- Is it passed by on the way back, on the way on? -/
def skipA (k : Int) : Bool := k == 3 || k == 7 || k == 5
def skipB (k : Int) : Bool := k == 2 || k == 7 || k == 5
def widthG (ps : List Pt) : Int := (ps.map (·.w)).sum
def tailG : List Pt → Int
  | [] => 0
  | p :: r => if skipA (pKind xs p) then tailG r else tailF xs p
/-- The nearest part back from k - 1 that is not passed by: one more than its place, or 0. -/
def downF (ps : List Pt) : Nat → Nat
  | 0 => 0
  | k + 1 => if skipA (pKind xs (ptAt ps k)) then downF ps k else k + 1
/-- The nearest part on from k, of the f next ones, that is not passed by. -/
def upF (ps : List Pt) : Nat → Nat → Nat
  | 0, k => k
  | f + 1, k => if skipB (pKind xs (ptAt ps k)) then upF ps f (k + 1) else k
def mayAt (ps : List Pt) (a b : Nat) : Bool :=
  if pKind xs (ptAt ps a) = 4 ∨ pKind xs (ptAt ps b) = 4 then true
  else (pKind xs (ptAt ps a) == 1 && pKind xs (ptAt ps b) == 1) && (!(ptAt ps a).last || (endsF xs (ptAt ps a) && (pMode xs (ptAt ps a) == 0 || pMode xs (ptAt ps a) == 3)))
def mayEndF (ps : List Pt) (k : Nat) : Bool :=
  if pKind xs (ptAt ps (k - 1)) = 2 ∨ pKind xs (ptAt ps k) = 3 then false
  else if downF xs ps k = 0 ∨ upF xs ps (ps.length - k) k = ps.length then false
  else mayAt xs ps (downF xs ps k - 1) (upF xs ps (ps.length - k) k)
def cutsAt (ps : List Pt) (k : Nat) : Bool := k == ps.length || pKind xs (ptAt ps (k - 1)) == 6 || mayEndF xs ps k
/-- The groups that end at k or ahead, and where the next one begins. -/
def groupsTo (ps : List Pt) : Nat → List (Nat × Nat) × Nat
  | 0 => ([], 0)
  | k + 1 => let g := groupsTo ps k; if cutsAt xs ps (k + 1) then (g.1 ++ [(g.2, k + 1)], k + 1) else g
def segP (ps : List Pt) (g : Nat × Nat) : List Pt := (ps.drop g.1).take (g.2 - g.1)
end
end Go.Proofs.YtadlabndbomgmaaDoor
/- Plain facts on how wide parts and groups of parts are, and on the least and the greatest width. No program in sight. -/
namespace Go.Proofs.YtadlabndbomgmaaDoor
open Go.Lib
def ItOk (x : It) : Prop := x.text.size ≤ 200 ∧ 0 ≤ x.size ∧ x.size ≤ 65535 ∧ (60 < x.text.size → x.size ≤ 255) ∧ 0 ≤ x.spacing ∧ x.spacing ≤ 255 ∧ 0 ≤ x.height ∧ x.height ≤ 65535 ∧ -128 ≤ x.shift ∧ x.shift ≤ 127 ∧ 0 ≤ x.w ∧ x.w ≤ 65535 ∧ 0 ≤ x.h ∧ x.h ≤ 65535
def ItsOk (xs : List It) : Prop := xs.length ≤ 25 ∧ ∀ x ∈ xs, ItOk x
theorem it0_ok : ItOk it0 := by
  have h : (ByteArray.empty).size = 0 := rfl
  unfold ItOk it0
  simp only [h]
  omega
theorem itAt_ok {xs : List It} (h : ItsOk xs) (k : Nat) : ItOk (itAt xs k) := by
  by_cases hk : k < xs.length
  · rw [itAt_of xs k hk]; exact h.2 _ (List.getElem_mem hk)
  · have : itAt xs k = it0 := by simp [itAt, List.getD, List.getElem?_eq_none (Nat.le_of_not_lt hk)]
    rw [this]; exact it0_ok
theorem wideS_pos (size sp : Int) (h : 0 ≤ sp) (l : List Int) : 0 ≤ wideS size sp l := by
  induction l with
  | nil => exact Int.le_refl _
  | cons r l ih => have := adv_bd r size; simp only [wideS] at ih ⊢; omega
theorem txW_eq {x : It} (hx : ItOk x) (t : ByteArray) (ht : t.size ≤ x.text.size) : txW x t = wideS x.size x.spacing (runesL t.data.toList) ∧ 0 ≤ txW x t ∧ txW x t ≤ 7895000 := by
  unfold ItOk at hx
  have hl := runesL_len t.data.toList.length t.data.toList (Nat.le_refl _)
  have ht2 : t.data.toList.length ≤ x.text.size := by rw [Array.length_toList]; exact ht
  have hc : cut x.spacing = x.spacing := by unfold cut; omega
  have hs : sizeF x.size = x.size := by unfold sizeF cut; omega
  have h0 := wideS_pos x.size x.spacing (by omega) (runesL t.data.toList)
  have e : txW x t = cut (wideS x.size x.spacing (runesL t.data.toList)) := by unfold txW widthF; rw [hc]
  rw [e]
  by_cases h60 : 60 < x.text.size
  · have h2 := hx.2.2.2.1 h60
    have h1 := (wideS_bd x.size x.spacing 255 (by omega) (by omega) (by omega) (runesL t.data.toList)).2
    generalize wideS x.size x.spacing (runesL t.data.toList) = n at *
    generalize (runesL t.data.toList).length = k at *
    unfold cut
    omega
  · have h1 := (wideS_bd x.size x.spacing 65535 (by omega) (by omega) (by omega) (runesL t.data.toList)).2
    generalize wideS x.size x.spacing (runesL t.data.toList) = n at *
    generalize (runesL t.data.toList).length = k at *
    unfold cut
    omega
theorem txW_space {x : It} (hx : ItOk x) (t : ByteArray) (ht : t.size ≤ x.text.size) (he : spaceEnd t = true) : txW x (t.extract 0 (t.size - 1)) ≤ txW x t ∧ 0 ≤ txW x (t.extract 0 (t.size - 1)) := by
  unfold spaceEnd at he
  have he2 : t.data.toList.getLast? = some 32 := by simpa using he
  have hne : t.data.toList ≠ [] := by intro h; rw [h] at he2; cases he2
  have hsz : t.data.toList.length = t.size := Array.length_toList
  have e1 : t.data.toList = t.data.toList.dropLast ++ [32] := by
    have h1 := List.dropLast_concat_getLast hne
    have h2 : t.data.toList.getLast hne = 32 := by rw [List.getLast?_eq_some_getLast hne] at he2; injection he2
    rw [h2] at h1; exact h1.symm
  have e2 : (t.extract 0 (t.size - 1)).data.toList = t.data.toList.dropLast := by
    simp
  have hs2 : (t.extract 0 (t.size - 1)).size ≤ x.text.size := by
    have := congrArg List.length e2
    rw [List.length_dropLast] at this
    show (t.extract 0 (t.size - 1)).data.size ≤ x.text.size
    rw [← Array.length_toList, this]
    omega
  have h1 := txW_eq hx t ht
  have h2 := txW_eq hx _ hs2
  have hr : runesL t.data.toList = runesL (t.extract 0 (t.size - 1)).data.toList ++ [32] := by
    rw [e2]
    conv => lhs; rw [e1]
    exact runes_space _ _ (Nat.le_refl _)
  rw [hr, wideS_append] at h1
  have h3 := wideS_pos x.size x.spacing (by unfold ItOk at hx; omega) [32]
  omega
theorem pcs_le (s : ByteArray) : ∀ (l : List Nat) (a : Nat), ∀ p ∈ pcs s a l, p.size ≤ s.size
  | [], _ => by intro p hp; simp [pcs] at hp
  | b :: r, a => by
    intro p hp
    simp only [pcs] at hp
    split at hp
    · rcases List.mem_cons.1 hp with rfl | hp
      · simp only [ByteArray.size_extract]; omega
      · exact pcs_le s r b p hp
    · exact pcs_le s r a p hp
theorem pieces_le (s : ByteArray) (wr ke : Bool) : ∀ p ∈ piecesF s wr ke, p.size ≤ s.size := pcs_le s _ 0
theorem pieces_count (s : ByteArray) (wr ke : Bool) : (piecesF s wr ke).length ≤ s.size := by
  have h1 := pieces_join s wr ke
  have h2 := pieces_some s wr ke
  have h3 : ∀ l : List ByteArray, (∀ p ∈ l, 0 < p.size) → l.length ≤ ((l.map (·.data.toList)).flatten).length := by
    intro l
    induction l with
    | nil => intro _; exact Nat.zero_le _
    | cons p l ih =>
      intro h
      have h4 := ih fun q hq => h q (by simp [hq])
      have h5 := h p (by simp)
      have h6 : p.data.toList.length = p.size := Array.length_toList
      simp only [List.map_cons, List.flatten_cons, List.length_append, List.length_cons]
      omega
  have h4 := h3 _ h2
  rw [h1] at h4
  have h5 : s.data.toList.length = s.size := Array.length_toList
  omega
/-- A part's width and its last blank's. -/
def PtOk (xs : List It) (p : Pt) : Prop := 0 ≤ p.w ∧ p.w ≤ 16777216 ∧ 0 ≤ tailF xs p ∧ tailF xs p ≤ p.w ∧ p.t.size ≤ 200
theorem textParts_mem (i : Nat) (x : It) : ∀ (l : List ByteArray) (n : Nat), ∀ p ∈ textParts i x n l, p.i = i ∧ p.t ∈ l ∧ p.w = txW x p.t
  | [], _ => by intro p hp; simp [textParts] at hp
  | t :: r, n => by
    intro p hp
    simp only [textParts, List.mem_cons] at hp
    rcases hp with rfl | hp
    · exact ⟨rfl, by simp, rfl⟩
    · obtain ⟨h1, h2, h3⟩ := textParts_mem i x r (n - 1) p hp
      exact ⟨h1, by simp [h2], h3⟩
theorem textParts_len (i : Nat) (x : It) : ∀ (l : List ByteArray) (n : Nat), (textParts i x n l).length = l.length
  | [], _ => rfl
  | _ :: r, n => by simp [textParts, textParts_len i x r (n - 1)]
theorem tail_zero (xs : List It) (p : Pt) (h : pKind xs p ≠ 1) : tailF xs p = 0 := by
  unfold tailF collF
  simp [h]
theorem partsOf_ok {xs : List It} (h : ItsOk xs) (i : Nat) : ∀ p ∈ partsOf i (itAt xs i), p.i = i ∧ PtOk xs p := by
  have hx := itAt_ok h i
  intro p hp
  unfold partsOf at hp
  have hxw : 0 ≤ (itAt xs i).w ∧ (itAt xs i).w ≤ 65535 := by unfold ItOk at hx; omega
  by_cases h1 : (itAt xs i).kind = 1
  · rw [if_pos h1] at hp
    obtain ⟨e1, e2, e3⟩ := textParts_mem i _ _ _ p hp
    have hsz : p.t.size ≤ (itAt xs i).text.size := pieces_le _ _ _ _ e2
    have hw := txW_eq hx p.t hsz
    refine ⟨e1, by omega, by omega, ?_, ?_, Nat.le_trans hsz hx.1⟩
    · unfold tailF
      split
      · rename_i hc
        rw [e1, e3]
        have hs : spaceEnd p.t = true := by
          rw [Bool.and_eq_true] at hc
          have := hc.2
          unfold endsF at this
          rw [Bool.and_eq_true] at this
          exact this.2
        have := txW_space hx p.t hsz hs
        omega
      · exact Int.le_refl _
    · unfold tailF
      split
      · rename_i hc
        rw [e1, e3]
        have hs : spaceEnd p.t = true := by
          rw [Bool.and_eq_true] at hc
          have := hc.2
          unfold endsF at this
          rw [Bool.and_eq_true] at this
          exact this.2
        have := txW_space hx p.t hsz hs
        omega
      · omega
  · rw [if_neg h1] at hp
    have key : ∀ w : Int, 0 ≤ w → w ≤ 16777216 → p = ⟨i, ByteArray.empty, w, true⟩ → p.i = i ∧ PtOk xs p := by
      intro w hw0 hw1 e
      have e1 : p.i = i := by rw [e]
      have e2 : tailF xs p = 0 := tail_zero xs p (by unfold pKind; rw [e1]; exact h1)
      refine ⟨e1, ?_, ?_, ?_, ?_, ?_⟩
      · rw [e]; exact hw0
      · rw [e]; exact hw1
      · rw [e2]; exact Int.le_refl _
      · rw [e2, e]; exact hw0
      · rw [e]; exact Nat.zero_le _
    by_cases h2 : (itAt xs i).kind = 6 ∨ (itAt xs i).kind = 7 ∨ (itAt xs i).kind = 5
    · rw [if_pos h2] at hp
      exact key 0 (Int.le_refl _) (by decide) (by simpa using hp)
    · rw [if_neg h2] at hp
      by_cases h3 : (itAt xs i).kind = 4
      · rw [if_pos h3] at hp
        exact key (max 0 (cut (itAt xs i).w)) (by omega) (by unfold cut; omega) (by simpa using hp)
      · rw [if_neg h3] at hp
        exact key (cut (itAt xs i).w) (by unfold cut; omega) (by unfold cut; omega) (by simpa using hp)
theorem partsOf_len {xs : List It} (h : ItsOk xs) (i : Nat) : (partsOf i (itAt xs i)).length ≤ 200 := by
  have hx := itAt_ok h i
  unfold partsOf
  split
  · rw [textParts_len]; exact Nat.le_trans (pieces_count _ _ _) hx.1
  · split
    · simp
    · split <;> simp
theorem partsTo_ok {xs : List It} (h : ItsOk xs) (k : Nat) (hk : k ≤ xs.length) : (∀ p ∈ partsTo xs k, p.i < k ∧ PtOk xs p) ∧ (partsTo xs k).length ≤ k * 200 := by
  induction k with
  | zero => exact ⟨fun p hp => by simp [partsTo] at hp, by simp [partsTo]⟩
  | succ k ih =>
    obtain ⟨h1, h2⟩ := ih (by omega)
    have h3 := partsOf_len h k
    rw [partsTo_next]
    refine ⟨fun p hp => ?_, by rw [List.length_append, Nat.succ_mul]; omega⟩
    rcases List.mem_append.1 hp with hp | hp
    · have := h1 p hp; exact ⟨by omega, this.2⟩
    · have := partsOf_ok h k p hp; exact ⟨by omega, this.2⟩
theorem widthG_cons (p : Pt) (r : List Pt) : widthG (p :: r) = p.w + widthG r := by simp [widthG]
theorem widthG_append (l r : List Pt) : widthG (l ++ r) = widthG l + widthG r := by simp [widthG]
theorem widthG_rev (l : List Pt) : widthG l.reverse = widthG l := by
  induction l with
  | nil => rfl
  | cons p l ih => rw [List.reverse_cons, widthG_append, ih, widthG_cons]; simp [widthG]; omega
theorem tailG_ok {xs : List It} (l : List Pt) (h : ∀ p ∈ l, PtOk xs p) : 0 ≤ tailG xs l ∧ tailG xs l ≤ widthG l ∧ widthG l ≤ 16777216 * l.length ∧ 0 ≤ widthG l := by
  induction l with
  | nil => simp [tailG, widthG]
  | cons p l ih =>
    have h1 := h p (by simp)
    have h2 := ih fun q hq => h q (by simp [hq])
    unfold PtOk at h1
    rw [widthG_cons, List.length_cons]
    simp only [tailG]
    split <;> omega
/-- The least and the greatest width of groups: width, last blank, must the line end? -/
structure Sz where
  least : Int
  most : Int
  sum : Int
  fin : Int
def szStep (st : Sz) (g : Int × Int × Bool) : Sz :=
  let fin := st.sum + g.1 - g.2.1
  if g.2.2 then ⟨max st.least (g.1 - g.2.1), max st.most fin, 0, 0⟩ else ⟨max st.least (g.1 - g.2.1), st.most, st.sum + g.1, fin⟩
def szTo (gs : List (Int × Int × Bool)) : Sz := gs.foldl szStep ⟨0, 0, 0, 0⟩
theorem szTo_snoc (gs : List (Int × Int × Bool)) (g : Int × Int × Bool) : szTo (gs ++ [g]) = szStep (szTo gs) g := by simp [szTo]
def SzOk (n : Nat) (s : Sz) : Prop := 0 ≤ s.least ∧ s.least ≤ max s.most s.fin ∧ 0 ≤ s.fin ∧ s.fin ≤ s.sum ∧ 0 ≤ s.most ∧ s.least ≤ 100000000000 * n ∧ s.most ≤ 100000000000 * n ∧ s.sum ≤ 100000000000 * n
def GsOk (gs : List (Int × Int × Bool)) : Prop := ∀ g ∈ gs, 0 ≤ g.2.1 ∧ g.2.1 ≤ g.1 ∧ g.1 ≤ 100000000000
theorem szTo_ok (gs : List (Int × Int × Bool)) (h : GsOk gs) (k : Nat) (hk : k ≤ gs.length) : SzOk k (szTo (gs.take k)) := by
  induction k with
  | zero => simp [szTo, SzOk]
  | succ k ih =>
    have h1 := ih (by omega)
    have hlt : k < gs.length := by omega
    have h2 := h _ (List.getElem_mem hlt)
    rw [List.take_succ_eq_append_getElem hlt, szTo_snoc]
    generalize szTo (gs.take k) = s at *
    generalize gs[k] = g at *
    obtain ⟨w, t, m⟩ := g
    unfold SzOk at h1 ⊢
    simp only at h2
    unfold szStep
    cases m <;> simp only [if_true, if_false, Bool.false_eq_true] <;> omega
theorem sizes_law (gs : List (Int × Int × Bool)) (h : GsOk gs) : 0 ≤ cut (szTo gs).least ∧ cut (szTo gs).least ≤ cut (max (szTo gs).most (szTo gs).fin) := by
  have := szTo_ok gs h gs.length (Nat.le_refl _)
  rw [List.take_length] at this
  unfold SzOk at this
  unfold cut
  omega
section
variable (xs : List It)
def gData (ps : List Pt) (g : Nat × Nat) : Int × Int × Bool := (widthG (segP ps g), tailG xs (segP ps g).reverse, pKind xs (ptAt ps (g.2 - 1)) == 6)
def groupsD : List (Int × Int × Bool) := (groupsTo xs (partsTo xs xs.length) (partsTo xs xs.length).length).1.map (gData xs (partsTo xs xs.length))
end
theorem groups_ok (xs : List It) (ps : List Pt) (k : Nat) (hk : k ≤ ps.length) : (groupsTo xs ps k).2 ≤ k ∧ (∀ g ∈ (groupsTo xs ps k).1, g.1 < g.2 ∧ g.2 ≤ k) ∧ (groupsTo xs ps k).1.length ≤ k := by
  induction k with
  | zero => simp [groupsTo]
  | succ k ih =>
    obtain ⟨h1, h2, h3⟩ := ih (by omega)
    simp only [groupsTo]
    split
    · refine ⟨Nat.le_refl _, fun g hg => ?_, by simp; omega⟩
      rcases List.mem_append.1 hg with hg | hg
      · have := h2 g hg; omega
      · obtain rfl : g = ((groupsTo xs ps k).2, k + 1) := by simpa using hg
        simp only; omega
    · exact ⟨by omega, fun g hg => by have := h2 g hg; omega, by omega⟩
theorem segP_mem {ps : List Pt} {g : Nat × Nat} : ∀ p ∈ segP ps g, p ∈ ps := fun _ hp => List.mem_of_mem_drop (List.mem_of_mem_take hp)
theorem groupsD_ok {xs : List It} (h : ItsOk xs) : GsOk (groupsD xs) := by
  obtain ⟨h1, h2⟩ := partsTo_ok h xs.length (Nat.le_refl _)
  intro g hg
  unfold groupsD at hg
  obtain ⟨q, hq, rfl⟩ := List.mem_map.1 hg
  have h3 : ∀ p ∈ (segP (partsTo xs xs.length) q).reverse, PtOk xs p := fun p hp => (h1 p (segP_mem p (List.mem_reverse.1 hp))).2
  have h4 := tailG_ok _ h3
  rw [widthG_rev] at h4
  have h5 : (segP (partsTo xs xs.length) q).length ≤ (partsTo xs xs.length).length := by unfold segP; rw [List.length_take, List.length_drop]; omega
  have h6 := h.1
  have h7 : (segP (partsTo xs xs.length) q).reverse.length ≤ 5000 := by rw [List.length_reverse]; omega
  unfold gData
  simp only
  generalize (segP (partsTo xs xs.length) q).reverse.length = n at *
  omega
end Go.Proofs.YtadlabndbomgmaaDoor
/- Lines as they are broken where nothing floats: a plain model. No program in sight. -/
namespace Go.Proofs.YtadlabndbomgmaaDoor
section
variable (xs : List It)
def toldF (p : Pt) : Bool := if pKind xs p == 1 || pKind xs p == 4 || pKind xs p == 6 then true else if pKind xs p == 2 || pKind xs p == 3 then p.w != 0 else false
/-- Is a text one blank? (as the walk asks it) -/
def isSp (t : ByteArray) : Bool := t.toList == [32]
def cleanF : Bool → List Pt → List Pt
  | _, [] => []
  | full, p :: r => if !full && (collF xs p && isSp p.t) then cleanF full r else p :: cleanF (full || solidF xs p) r
/-- A piece of a line that is told; the line. -/
structure Pc where
  item : Int
  x : Int
  w : Int
  t : ByteArray
structure Ln where
  x : Int
  y : Int
  w : Int
  h : Int
  base : Int
  pcs : List Pc
  last : Bool
def aboveF (size height : Int) : Int := ascF size + partOf (height - size) 1 2
def metStep (st : Int × Int) (p : Pt) : Int × Int :=
  let x := itAt xs p.i
  if pKind xs p == 1 then (max st.1 (aboveF x.size x.height + x.shift), max st.2 (x.height - aboveF x.size x.height - x.shift))
  else if pKind xs p == 4 then (max st.1 (x.h + x.shift), max st.2 (-x.shift))
  else st
def metTo (size height : Int) (ps : List Pt) : Int × Int := ps.foldl (metStep xs) (aboveF size height, height - aboveF size height)
/-- One more than the place of the last solid part, or 0. -/
def solidTo : List Pt → Nat → Nat
  | _, 0 => 0
  | ps, k + 1 => if solidF xs (ptAt ps k) then k + 1 else solidTo ps k
def cutPt (p : Pt) : Pt := ⟨p.i, p.t.extract 0 (p.t.size - 1), p.w - tailF xs p, p.last⟩
def trimF (ps : List Pt) : List Pt :=
  let e := solidTo xs ps ps.length
  if e = 0 then ps else if tailF xs (ptAt ps (e - 1)) = 0 then ps else ps.set (e - 1) (cutPt xs (ptAt ps (e - 1)))
/-- Which parts get a gap behind them; the gaps; the pieces of the line. -/
def gapWs (ps : List Pt) (m : Nat) : List Int := (List.range ps.length).map fun k => if k < m && endsF xs (ptAt ps k) then 1 else 0
def gapsF (al : Int) (last : Bool) (ps : List Pt) (m : Nat) (free : Int) : List Int :=
  if al = 3 ∧ last = false then shared free (gapWs xs ps m) else List.replicate ps.length 0
def tellTo (ps : List Pt) (gaps : List Int) : Nat → Int × List Pc
  | 0 => (0, [])
  | k + 1 =>
    let s := tellTo ps gaps k
    (s.1 + ((ptAt ps k).w + at0 gaps k), if pKind xs (ptAt ps k) = 5 then s.2 else s.2 ++ [⟨(ptAt ps k).i, cut s.1, cut (ptAt ps k).w, (ptAt ps k).t⟩])
def freeF (left right : Int) (ps : List Pt) : Int := max 0 (right - left - widthG ps)
def shiftF (al free : Int) : Int := if al = 1 then free else if al = 2 then partOf free 1 2 else 0
def highF (sz ht : Int) (line : List Pt) : Int := max 0 ((metTo xs sz ht line).1 + (metTo xs sz ht line).2)
def toldTo (al left right : Int) (line : List Pt) (last : Bool) : Int × List Pc :=
  tellTo xs (trimF xs line) (gapsF xs al last (trimF xs line) (solidTo xs line line.length - 1) (freeF left right (trimF xs line))) (trimF xs line).length
/-- The line that is told. -/
def lnOf (sz ht al y left right : Int) (line : List Pt) (last : Bool) : Ln :=
  ⟨cut (left + shiftF al (freeF left right (trimF xs line))), cut y, cut (toldTo xs al left right line last).1, cut (highF xs sz ht line), cut (metTo xs sz ht line).1, (toldTo xs al left right line last).2, last⟩
/-- The breaker's state, where nothing floats and nothing is indented. -/
structure BSt where
  y : Int
  line : List Pt
  full : Bool
  out : List Ln
def endF (sz ht al W : Int) (last : Bool) (st : BSt) : BSt :=
  if st.line.any (toldF xs) then ⟨st.y + highF xs sz ht st.line, [], false, st.out ++ [lnOf xs sz ht al st.y 0 W st.line last]⟩ else ⟨st.y, [], false, st.out⟩
def lastMust (c : List Pt) : Bool := match c.getLast? with | some p => pKind xs p == 6 | none => false
def appF (sz ht al W : Int) (st : BSt) (c : List Pt) : BSt :=
  if lastMust xs c then endF xs sz ht al W true ⟨st.y, st.line ++ c, st.full || c.any (solidF xs), st.out⟩ else ⟨st.y, st.line ++ c, st.full || c.any (solidF xs), st.out⟩
/-- Is there room? -/
def fitsF (W : Int) (line : List Pt) (full : Bool) (c : List Pt) : Bool := decide (widthG line + widthG c - tailG xs c.reverse ≤ W) || (!c.any (solidF xs) && full)
def putF (sz ht al W : Int) (st : BSt) (g : List Pt) : BSt :=
  if !fitsF xs W st.line st.full (cleanF xs st.full g) && st.full then appF xs sz ht al W (endF xs sz ht al W false st) (cleanF xs false g) else appF xs sz ht al W st (cleanF xs st.full g)
def segsF : List (List Pt) := (groupsTo xs (partsTo xs xs.length) (partsTo xs xs.length).length).1.map (segP (partsTo xs xs.length))
def lastLn (l : List Ln) : List Ln := match l.getLast? with | some x => l.dropLast ++ [{ x with last := true }] | none => []
def runF (sz ht al W y : Int) (gs : List (List Pt)) : BSt := gs.foldl (putF xs sz ht al W) ⟨y, [], false, []⟩
def finF (sz ht al W : Int) (st : BSt) : List Ln := if st.line ≠ [] then (endF xs sz ht al W true st).out else lastLn st.out
def breakF (sz ht al W y : Int) : List Ln := finF xs sz ht al W (runF xs sz ht al W y (segsF xs))
end
end Go.Proofs.YtadlabndbomgmaaDoor
/- Plain facts on blanks that are collapsed. No program in sight. -/
namespace Go.Proofs.YtadlabndbomgmaaDoor
/-- Is a byte a blank? -/
def isBl (x : Int) : Bool := decide (0 ≤ Lib.indexByte [32, 9, 10, 12, 13] x.toNat.toUInt8)
def keepsM (mode : Int) : Bool := mode == 1 || mode == 3
def wstep (p : List UInt8 × Bool) (c : UInt8) : List UInt8 × Bool := if isBl c.toNat then (if p.2 then p else (p.1 ++ [32], true)) else (p.1 ++ [c], false)
def wfold (b : Bool) (l : List UInt8) : List UInt8 × Bool := l.foldl wstep ([], b)
/-- What is collapsed. -/
def colS (mode : Int) (l : List UInt8) (b : Bool) : List UInt8 := if keepsM mode then l else (wfold b l).1
def colB (mode : Int) (l : List UInt8) (b : Bool) : Bool := if keepsM mode then false else (wfold b l).2
theorem wstep_len (p : List UInt8 × Bool) (c : UInt8) : (wstep p c).1.length ≤ p.1.length + 1 := by
  unfold wstep
  by_cases h : isBl c.toNat = true
  · rw [if_pos h]
    by_cases h2 : p.2 = true
    · rw [if_pos h2]; omega
    · rw [if_neg h2]; simp
  · rw [if_neg h]; simp
theorem foldl_wstep_len (l : List UInt8) : ∀ p : List UInt8 × Bool, (l.foldl wstep p).1.length ≤ p.1.length + l.length := by
  induction l with
  | nil => intro p; simp
  | cons c l ih => intro p; have h1 := ih (wstep p c); have h2 := wstep_len p c; simp only [List.foldl_cons, List.length_cons]; omega
theorem wfold_len (b : Bool) (l : List UInt8) : (wfold b l).1.length ≤ l.length := by
  have := foldl_wstep_len l ([], b); simpa [wfold] using this
theorem wfold_take (b : Bool) (l : List UInt8) (k : Nat) (h : k < l.length) : wfold b (l.take (k + 1)) = wstep (wfold b (l.take k)) l[k] := by
  unfold wfold; rw [List.take_succ_eq_append_getElem h, List.foldl_append]; rfl
theorem wstep_split (p : List UInt8 × Bool) (c : UInt8) : wstep p c = (p.1 ++ (wstep ([], p.2) c).1, (wstep ([], p.2) c).2) := by
  unfold wstep
  by_cases h : isBl c.toNat = true
  · simp only [if_pos h]
    by_cases h2 : p.2 = true
    · simp only [if_pos h2, List.append_nil]
    · simp only [if_neg h2, List.nil_append]
  · simp only [if_neg h, List.nil_append]
theorem foldl_wstep (l : List UInt8) : ∀ p : List UInt8 × Bool, l.foldl wstep p = (p.1 ++ (wfold p.2 l).1, (wfold p.2 l).2) := by
  induction l with
  | nil => intro p; simp [wfold]
  | cons c l ih =>
    intro p
    unfold wfold
    simp only [List.foldl_cons]
    rw [ih (wstep p c), ih (wstep ([], p.2) c)]
    have e := wstep_split p c
    rw [e]
    simp [List.append_assoc]
theorem wfold_append (b : Bool) (l m : List UInt8) : wfold b (l ++ m) = ((wfold b l).1 ++ (wfold (wfold b l).2 m).1, (wfold (wfold b l).2 m).2) := by
  unfold wfold
  rw [List.foldl_append, foldl_wstep m]
  rfl
theorem colS_append (mode : Int) (l m : List UInt8) (b : Bool) : colS mode (l ++ m) b = colS mode l b ++ colS mode m (colB mode l b) := by
  unfold colS colB
  by_cases h : keepsM mode = true
  · simp only [if_pos h]
  · simp only [if_neg h, wfold_append]
theorem colB_append (mode : Int) (l m : List UInt8) (b : Bool) : colB mode (l ++ m) b = colB mode m (colB mode l b) := by
  unfold colB
  by_cases h : keepsM mode = true
  · simp only [if_pos h]
  · simp only [if_neg h, wfold_append]
theorem colS_len (mode : Int) (l : List UInt8) (b : Bool) : (colS mode l b).length ≤ l.length := by
  unfold colS
  split
  · exact Nat.le_refl _
  · exact wfold_len b l
end Go.Proofs.YtadlabndbomgmaaDoor
/- Plain facts: what is collapsed stays as it is; no blanks stand side by side. No program in sight. -/
namespace Go.Proofs.YtadlabndbomgmaaDoor
theorem isBl_32 : isBl ((32 : UInt8).toNat) = true := by decide +kernel
/-- No two blanks side by side, none first where b says so, and each a space. -/
def Tidy : Bool → List UInt8 → Prop
  | _, [] => True
  | b, c :: r => if isBl c.toNat then c = 32 ∧ b = false ∧ Tidy true r else Tidy false r
theorem wfold_cons (b : Bool) (c : UInt8) (l : List UInt8) : wfold b (c :: l) = ((wstep ([], b) c).1 ++ (wfold (wstep ([], b) c).2 l).1, (wfold (wstep ([], b) c).2 l).2) := by
  show List.foldl wstep ([], b) (c :: l) = _
  rw [List.foldl_cons, foldl_wstep]
theorem wfold_skip {c : UInt8} (h : isBl c.toNat = true) (l : List UInt8) : wfold true (c :: l) = wfold true l := by
  rw [wfold_cons]; unfold wstep; simp only [h, if_true]; rfl
theorem wfold_blank {c : UInt8} (h : isBl c.toNat = true) (l : List UInt8) : wfold false (c :: l) = (32 :: (wfold true l).1, (wfold true l).2) := by
  rw [wfold_cons]; unfold wstep; simp only [h, if_true, Bool.false_eq_true, if_false]; rfl
theorem wfold_sign {c : UInt8} (h : isBl c.toNat = false) (b : Bool) (l : List UInt8) : wfold b (c :: l) = (c :: (wfold false l).1, (wfold false l).2) := by
  rw [wfold_cons]; unfold wstep; simp only [h, Bool.false_eq_true, if_false]; rfl
theorem wfold_tidy (l : List UInt8) : ∀ b, Tidy b (wfold b l).1 ∧ wfold b (wfold b l).1 = wfold b l := by
  induction l with
  | nil => intro b; exact ⟨trivial, rfl⟩
  | cons c l ih =>
    intro b
    cases h : isBl c.toNat
    · rw [wfold_sign h]
      refine ⟨?_, ?_⟩
      · show Tidy b (c :: (wfold false l).1)
        unfold Tidy; rw [h]; exact (ih false).1
      · show wfold b (c :: (wfold false l).1) = _
        rw [wfold_sign h, (ih false).2]
    · cases b
      · rw [wfold_blank h]
        refine ⟨?_, ?_⟩
        · show Tidy false (32 :: (wfold true l).1)
          unfold Tidy; rw [isBl_32]; exact ⟨rfl, rfl, (ih true).1⟩
        · show wfold false (32 :: (wfold true l).1) = _
          rw [wfold_blank isBl_32, (ih true).2]
      · rw [wfold_skip h]; exact ih true
theorem Tidy.none : ∀ (l : List UInt8) (b : Bool), Tidy b l → Lib.index l [32, 32] = -1
  | [], _, _ => rfl
  | c :: r, b, h => by
    unfold Tidy at h
    have hr : ∃ b', Tidy b' r := by
      split at h
      · exact ⟨_, h.2.2⟩
      · exact ⟨_, h⟩
    obtain ⟨b', hr'⟩ := hr
    have ih := Tidy.none r b' hr'
    have hp : ([32, 32] : List UInt8).isPrefixOf (c :: r) = false := by
      cases hc : isBl c.toNat
      · have : ((32 : UInt8) == c) = false := by
          rw [beq_eq_false_iff_ne]; rintro rfl; rw [isBl_32] at hc; cases hc
        simp [List.isPrefixOf, this]
      · rw [hc] at h
        obtain ⟨_, _, h2⟩ := h
        cases r with
        | nil => simp [List.isPrefixOf]
        | cons d r =>
          unfold Tidy at h2
          have : ((32 : UInt8) == d) = false := by
            rw [beq_eq_false_iff_ne]; rintro rfl; rw [isBl_32] at h2; exact absurd h2.2.1 (by decide)
          simp [List.isPrefixOf, this]
    show (if ([32, 32] : List UInt8).isPrefixOf (c :: r) then (0 : Int) else if Lib.index r [32, 32] == -1 then -1 else Lib.index r [32, 32] + 1) = -1
    rw [hp, ih]; rfl
theorem Tidy.first {l : List UInt8} (h : Tidy true l) : Lib.hasPrefix l [32] = false := by
  cases l with
  | nil => rfl
  | cons c r =>
    unfold Tidy at h
    have : ((32 : UInt8) == c) = false := by
      rw [beq_eq_false_iff_ne]; rintro rfl; rw [isBl_32] at h; exact absurd h.2.1 (by decide)
    simp [Lib.hasPrefix, List.isPrefixOf, this]
theorem col_twice (m : Int) (l : List UInt8) (b : Bool) : colS m (colS m l b) b = colS m l b ∧ colB m (colS m l b) b = colB m l b := by
  unfold colS colB
  by_cases h : keepsM m = true
  · simp only [if_pos h]; exact ⟨trivial, trivial⟩
  · simp only [if_neg h]
    rw [(wfold_tidy l b).2]; exact ⟨rfl, rfl⟩
theorem col_none {m : Int} (h : keepsM m = false) (l : List UInt8) (b : Bool) : Lib.contains (colS m l b) [32, 32] = false ∧ (b = true → Lib.hasPrefix (colS m l b) [32] = false) := by
  have e : colS m l b = (wfold b l).1 := by unfold colS; rw [h]; rfl
  rw [e]
  have ht := (wfold_tidy l b).1
  refine ⟨?_, fun hb => ?_⟩
  · unfold Lib.contains; rw [Tidy.none _ _ ht]; decide
  · subst hb; exact ht.first
end Go.Proofs.YtadlabndbomgmaaDoor
