/- Parts of the proof, joined: BreaksPlain, Joined, Plain, Bits, FloatsPlain, FontPlain, Kit, Fix, Floats, FloatsPlace, FAll, KitS, KitT, Ends, Open, RasterPlain, GlyphPlain, Share, ShareWalk, ShelfA, IndexRune, Font, ShelfF, StepApp, Sums, TakeAt, TakeCall. -/
import Derived.Lib.OthersKept
import Derived.Lib.DecodeN
import Derived.Lib.Bytealg
import Derived.Test.YtadlabndbomgmaaRows
import Derived.JoinedOf
import Derived.KernelRfl
import Derived.WalkKit
import Derived.Laws.Bits64b
import Derived.Laws.Shifts
import Derived.ProofKit
import Derived.WalkLawsBesides
import Derived.WalkSpells
import Derived.Below
import Derived.Laws.OwnMore
import Derived.Deep.AppendLies
import Derived.Deep.Draws
import Derived.Laws.Rows
import Derived.Maps.AppendAt
import Derived.RegionTactic
import Derived.OwnWalk
import Derived.Calls
import Derived.Tactics
import Derived.Deep.OwnRows
import Derived.Laws.AppendOwn
import Derived.ChangeSame
import Derived.Lib.Hide
import Derived.Lib.MinMax
import Derived.Deep.Slices
import Derived.Deep.Fields
import Derived.Deep.QuietTactic
import Derived.Laws.MakeOwn
import Derived.Laws.Entries
import Derived.Laws.BytesArg
import Derived.Test.YtadlabndbomgmaaProg
import Derived.BigQuiet
import Derived.Handy
import Derived.Deep.MidRow
import Derived.Deep.Upon
import Derived.Deep.RegionLaw
import Derived.Deep.RegionHeld3
import Derived.Laws.CopyOwn
import Derived.IntWalk
import Derived.OpenShut
import Derived.ShutString
import Derived.ChangeOld
import Derived.Carry
import Derived.Shelf.Strings.Builder1
import Derived.Shelf.Strings.Builder2
import Derived.Shelf.Strings.OnBuilder
import Derived.Shelf.Small.Utf8
import Derived.Shelf.Small.Strs
import Derived.Shelf.Strings.BuilderF
import Derived.Shelf.Strings.BuilderK
import Derived.Shelf.Utf8.RuneCount
import Derived.Shelf.Strings.Search1
import Derived.Shelf.Strings.Search2
import Derived.Shelf.Strings.Search3
import Derived.Shelf.Strings.Count
import Derived.Shelf.LaysM
import Derived.Shelf.Strings.Shaped
import Derived.Shelf.Strings.Prefix
import Derived.Shelf.Strings.Split
import Derived.Shelf.Strings.Runes
import Derived.Shelf.Strings.RuneCount
import Derived.Shelf.Bits.Mul64
import Derived.Ground.Names2Prog
import Derived.Shelf.Slices.Clone
import Derived.Ground.SlgnProg
import Derived.Shelf.SlicesE.Clone
set_option linter.unusedVariables false
set_option linter.unusedSimpArgs false
/- Plain facts on where a text may be broken. No program in sight. -/
namespace Go.Proofs.Ytadlabndbomgmaa
def otherF (r : Int) : Bool := (r != 32 && r != 45) && r != 10
def wideF (a b : Int) : Bool := (decide (4352 ≤ a) && otherF b) || (decide (4352 ≤ b) && otherF a)
def isLetterF (r : Int) : Bool := (decide (97 ≤ r) && decide (r ≤ 122)) || (decide (65 ≤ r) && decide (r ≤ 90))
def mayF (a b : Int) : Bool := if a = 32 then b != 32 else if a = 45 then isLetterF b else wideF a b
/-- One step: may (must) the text be broken at this place? -/
def brkStep (wr ke : Bool) (pos : Nat) (last r : Int) : List (Nat × Bool) :=
  if decide (0 < pos) && ((ke && last == 10) || (wr && mayF last r)) then [(pos, ke && last == 10)] else []
def brkEnd (ke : Bool) (n : Nat) (last : Int) : List (Nat × Bool) := if ke && last == 10 then [(n, true)] else []
def brk (s : ByteArray) (wr ke : Bool) : Nat → Nat → Int → List (Nat × Bool)
  | 0, _, _ => []
  | f + 1, pos, last => if pos < s.size then brkStep wr ke pos last (Utf8.decode s pos).1 ++ brk s wr ke f (pos + (Utf8.decode s pos).2) (Utf8.decode s pos).1 else brkEnd ke s.size last
def brkAll (s : ByteArray) (wr ke : Bool) : List (Nat × Bool) := brk s wr ke (s.size + 1) 0 0
theorem brk_step (s : ByteArray) (wr ke : Bool) (f pos : Nat) (last : Int) (h : pos < s.size) : brk s wr ke (f + 1) pos last = brkStep wr ke pos last (Utf8.decode s pos).1 ++ brk s wr ke f (pos + (Utf8.decode s pos).2) (Utf8.decode s pos).1 := by
  simp [brk, h]
theorem brk_end (s : ByteArray) (wr ke : Bool) (f pos : Nat) (last : Int) (h : ¬ pos < s.size) : brk s wr ke (f + 1) pos last = brkEnd ke s.size last := by
  simp [brk, h]
theorem get_bang (s : ByteArray) (i : Nat) (h : i < s.size) : s.get! i = s[i] := by
  simp [ByteArray.get!, getElem!_pos, h]
  rfl
set_option maxHeartbeats 1000000 in
theorem decN_facts (n b0 b1 b2 b3 : Nat) (hn : 1 ≤ n) :
    1 ≤ (Lib.decodeN n b0 b1 b2 b3).2 ∧ (Lib.decodeN n b0 b1 b2 b3).2 ≤ n ∧ ((Lib.decodeN n b0 b1 b2 b3).1 = 10 → b0 = 10) ∧ (b0 = 10 → Lib.decodeN n b0 b1 b2 b3 = (10, 1)) ∧
      (2 ≤ (Lib.decodeN n b0 b1 b2 b3).2 → b1 / 64 = 2) ∧ (3 ≤ (Lib.decodeN n b0 b1 b2 b3).2 → b2 / 64 = 2) ∧ (4 ≤ (Lib.decodeN n b0 b1 b2 b3).2 → b3 / 64 = 2) ∧ (Lib.decodeN n b0 b1 b2 b3).2 ≤ 4 := by
  unfold Lib.decodeN
  repeat' split
  all_goals (refine ⟨?_, ?_, ?_, ?_, ?_, ?_, ?_, ?_⟩ <;> (intros; try simp only at *; try omega))
  all_goals (try (apply Prod.ext <;> simp only <;> omega))
theorem dec_facts (s : ByteArray) (pos : Nat) (h : pos < s.size) :
    1 ≤ (Utf8.decode s pos).2 ∧ pos + (Utf8.decode s pos).2 ≤ s.size ∧ ((Utf8.decode s pos).1 = 10 → s[pos].toNat = 10) ∧ (s[pos].toNat = 10 → Utf8.decode s pos = (10, 1)) ∧
      ∀ j, pos < j → (hj : j < pos + (Utf8.decode s pos).2) → (hs : j < s.size) → s[j].toNat ≠ 10 := by
  have h0 := decN_facts (s.size - pos) (s.get! pos).toNat (s.get! (pos + 1)).toNat (s.get! (pos + 2)).toNat (s.get! (pos + 3)).toNat (by omega)
  rw [← Lib.decode_at] at h0
  obtain ⟨h1, h2, h3, h4, h5, h6, h7, h8⟩ := h0
  rw [get_bang s pos h] at h3 h4
  refine ⟨h1, by omega, h3, h4, fun j hj1 hj2 hj3 => ?_⟩
  have : j = pos + 1 ∨ j = pos + 2 ∨ j = pos + 3 := by omega
  rcases this with rfl | rfl | rfl
  · have := h5 (by omega); rw [get_bang s _ hj3] at this; omega
  · have := h6 (by omega); rw [get_bang s _ hj3] at this; omega
  · have := h7 (by omega); rw [get_bang s _ hj3] at this; omega
theorem ten_iff (s : ByteArray) (pos : Nat) (h : pos < s.size) : (((Utf8.decode s pos).1 : Int) == 10) = (s[pos].toNat == 10) := by
  obtain ⟨_, _, h3, h4, _⟩ := dec_facts s pos h
  rw [Bool.eq_iff_iff]
  simp only [beq_iff_eq]
  constructor
  · intro hh; exact h3 (by omega)
  · intro hh; rw [h4 hh]; rfl
/-! The places rise. -/
def rises (n : Nat) : Nat → List (Nat × Bool) → Prop
  | _, [] => True
  | lo, (a, _) :: r => lo < a ∧ a ≤ n ∧ rises n a r
theorem rises_lo {n lo lo' : Nat} (h : lo' ≤ lo) : ∀ {l : List (Nat × Bool)}, rises n lo l → rises n lo' l
  | [], _ => trivial
  | (a, _) :: _, hr => ⟨by have := hr.1; omega, hr.2.1, hr.2.2⟩
theorem brk_rises (s : ByteArray) (wr ke : Bool) : ∀ (f pos lo : Nat) (last : Int), pos ≤ s.size → (lo < pos ∨ (pos = 0 ∧ lo = 0 ∧ last = 0)) → rises s.size lo (brk s wr ke f pos last)
  | 0, _, _, _, _, _ => trivial
  | f + 1, pos, lo, last, hp, hlo => by
    by_cases h : pos < s.size
    · rw [brk_step s wr ke f pos last h]
      obtain ⟨h1, h2, _⟩ := dec_facts s pos h
      have ih := brk_rises s wr ke f (pos + (Utf8.decode s pos).2) pos (Utf8.decode s pos).1 h2 (.inl (by omega))
      unfold brkStep
      split
      · rename_i hc
        have h0 : 0 < pos := by
          rw [Bool.and_eq_true] at hc
          exact of_decide_eq_true hc.1
        exact ⟨by omega, by omega, ih⟩
      · exact rises_lo (by omega) ih
    · rw [brk_end s wr ke f pos last h]
      unfold brkEnd
      split
      · rename_i hc
        refine ⟨?_, Nat.le_refl _, trivial⟩
        rcases hlo with hlo | ⟨_, _, hl⟩
        · omega
        · rw [hl] at hc; simp at hc
      · trivial
theorem brkAll_rises (s : ByteArray) (wr ke : Bool) : rises s.size 0 (brkAll s wr ke) := brk_rises s wr ke _ _ _ _ (Nat.zero_le _) (.inr ⟨rfl, rfl, rfl⟩)
/-! What must be broken. -/
def musts (l : List (Nat × Bool)) : Nat := (l.filter (·.2)).length
def tens (s : ByteArray) (pos : Nat) : Nat := (s.data.toList.drop pos).count 10
theorem tens_step (s : ByteArray) (pos : Nat) (h : pos < s.size) : tens s pos = (if s[pos].toNat = 10 then 1 else 0) + tens s (pos + 1) := by
  unfold tens
  have hl : pos < s.data.toList.length := by rw [Array.length_toList]; exact h
  rw [List.drop_eq_getElem_cons hl, List.count_cons]
  have e : s.data.toList[pos] = s[pos] := rfl
  rw [e, Nat.add_comm]
  congr 1
  by_cases hh : s[pos].toNat = 10
  · have : s[pos] = 10 := UInt8.toNat_inj.1 hh
    simp [this]
  · have : s[pos] ≠ 10 := fun e => hh (by rw [e]; rfl)
    simp [hh, this]
theorem tens_skip (s : ByteArray) : ∀ (k pos : Nat), pos + k ≤ s.size → (∀ j, pos ≤ j → j < pos + k → (hs : j < s.size) → s[j].toNat ≠ 10) → tens s pos = tens s (pos + k)
  | 0, _, _, _ => rfl
  | k + 1, pos, h, hn => by
    rw [tens_step s pos (by omega), if_neg (hn pos (Nat.le_refl _) (by omega) (by omega)), Nat.zero_add, tens_skip s k (pos + 1) (by omega) (fun j a b => hn j (by omega) (by omega))]
    congr 1; omega
theorem tens_rune (s : ByteArray) (pos : Nat) (h : pos < s.size) : tens s pos = (if ((Utf8.decode s pos).1 : Int) == 10 then 1 else 0) + tens s (pos + (Utf8.decode s pos).2) := by
  obtain ⟨h1, h2, h3, h4, h5⟩ := dec_facts s pos h
  rw [ten_iff s pos h, tens_step s pos h]
  have e := tens_skip s ((Utf8.decode s pos).2 - 1) (pos + 1) (by omega) (fun j a b hs => h5 j (by omega) (by omega) hs)
  rw [e, show pos + 1 + ((Utf8.decode s pos).2 - 1) = pos + (Utf8.decode s pos).2 by omega]
  simp
theorem tens_end (s : ByteArray) (pos : Nat) (h : s.size ≤ pos) : tens s pos = 0 := by
  unfold tens
  rw [List.drop_of_length_le (by rw [Array.length_toList]; exact h)]
  rfl
theorem brk_musts (s : ByteArray) (wr : Bool) : ∀ (f pos : Nat) (last : Int), pos ≤ s.size → s.size < pos + f → (pos = 0 → last = 0) → musts (brk s wr true f pos last) = (if last == 10 then 1 else 0) + tens s pos
  | 0, pos, _, hp, hf, _ => by omega
  | f + 1, pos, last, hp, hf, hl => by
    by_cases h : pos < s.size
    · rw [brk_step s wr true f pos last h]
      obtain ⟨h1, h2, _⟩ := dec_facts s pos h
      have ih := brk_musts s wr f (pos + (Utf8.decode s pos).2) (Utf8.decode s pos).1 h2 (by omega) (fun h => by omega)
      have e : musts (brkStep wr true pos last (Utf8.decode s pos).1 ++ brk s wr true f (pos + (Utf8.decode s pos).2) (Utf8.decode s pos).1) = musts (brkStep wr true pos last (Utf8.decode s pos).1) + musts (brk s wr true f (pos + (Utf8.decode s pos).2) (Utf8.decode s pos).1) := by
        simp [musts]
      rw [e, ih, ← tens_rune s pos h]
      congr 1
      unfold brkStep
      cases hc : (last == 10)
      · simp only [Bool.and_false, Bool.false_or]
        split <;> simp [musts]
      · have h0 : 0 < pos := by
          rcases Nat.eq_zero_or_pos pos with h0 | h0
          · have := hl h0; subst this; simp at hc
          · exact h0
        simp [musts, h0]
    · rw [brk_end s wr true f pos last h, tens_end s pos (by omega)]
      unfold brkEnd
      cases hc : (last == 10) <;> simp [musts]
theorem brk_none (s : ByteArray) (wr : Bool) : ∀ (f pos : Nat) (last : Int), musts (brk s wr false f pos last) = 0
  | 0, _, _ => rfl
  | f + 1, pos, last => by
    by_cases h : pos < s.size
    · rw [brk_step s wr false f pos last h]
      have ih := brk_none s wr f (pos + (Utf8.decode s pos).2) (Utf8.decode s pos).1
      unfold brkStep
      split <;> simpa [musts] using ih
    · rw [brk_end s wr false f pos last h]
      simp [brkEnd, musts]
theorem brkAll_musts (s : ByteArray) (wr ke : Bool) : musts (brkAll s wr ke) = if ke then Lib.countByte s.data.toList 10 else 0 := by
  cases ke
  · exact brk_none s wr _ _ _
  · have := brk_musts s wr (s.size + 1) 0 0 (Nat.zero_le _) (by omega) (fun _ => rfl)
    rw [brkAll, this]
    simp [tens, Lib.countByte]
/-- Where a text must be broken a line feed stands ahead. -/
theorem brk_ten (s : ByteArray) (wr ke : Bool) : ∀ (f pos : Nat) (last : Int), pos ≤ s.size → (pos = 0 → last = 0) → (last = 10 → ∃ h : pos - 1 < s.size, s[pos - 1].toNat = 10) → ∀ b ∈ brk s wr ke f pos last, b.2 = true → ∃ h : b.1 - 1 < s.size, s[b.1 - 1].toNat = 10
  | 0, _, _, _, _, _, b, hb, _ => by cases hb
  | f + 1, pos, last, hp, hl, ht, b, hb, hm => by
    by_cases h : pos < s.size
    · rw [brk_step s wr ke f pos last h] at hb
      obtain ⟨h1, h2, h3, h4, _⟩ := dec_facts s pos h
      rcases List.mem_append.1 hb with hb | hb
      · unfold brkStep at hb
        split at hb
        · simp only [List.mem_singleton] at hb
          subst hb
          simp only [Bool.and_eq_true, beq_iff_eq] at hm
          exact ht hm.2
        · cases hb
      · refine brk_ten s wr ke f _ _ h2 (fun h => by omega) (fun hr => ?_) b hb hm
        have hr' : (Utf8.decode s pos).1 = 10 := by omega
        have h10 := h3 hr'
        have hw := h4 h10
        have hw2 : (Utf8.decode s pos).2 = 1 := by rw [hw]
        refine ⟨by omega, ?_⟩
        simp only [hw2, Nat.add_sub_cancel]
        exact h10
    · rw [brk_end s wr ke f pos last h] at hb
      unfold brkEnd at hb
      split at hb
      · rename_i hc
        simp only [List.mem_singleton] at hb
        subst hb
        simp only [Bool.and_eq_true, beq_iff_eq] at hc
        have hp' : pos = s.size := by omega
        have hq := ht hc.2
        simp only [hp'] at hq
        exact hq
      · cases hb
theorem brkAll_ten (s : ByteArray) (wr ke : Bool) : ∀ b ∈ brkAll s wr ke, b.2 = true → ∃ h : b.1 - 1 < s.size, s[b.1 - 1].toNat = 10 :=
  brk_ten s wr ke _ _ _ (Nat.zero_le _) (fun _ => rfl) (fun h => by simp at h)
/-! The pieces. -/
def pcs (s : ByteArray) : Nat → List Nat → List ByteArray
  | _, [] => []
  | from_, b :: r => if from_ < b then s.extract from_ b :: pcs s b r else pcs s from_ r
def lastOf : Nat → List Nat → Nat
  | from_, [] => from_
  | from_, b :: r => if from_ < b then lastOf b r else lastOf from_ r
theorem pcs_append (s : ByteArray) : ∀ (l m : List Nat) (a : Nat), pcs s a (l ++ m) = pcs s a l ++ pcs s (lastOf a l) m
  | [], _, _ => rfl
  | b :: r, m, a => by
    simp only [List.cons_append, pcs, lastOf]
    split
    · rw [pcs_append s r m b]; rfl
    · exact pcs_append s r m a
theorem lastOf_append : ∀ (l m : List Nat) (a : Nat), lastOf a (l ++ m) = lastOf (lastOf a l) m
  | [], _, _ => rfl
  | b :: r, m, a => by
    simp only [List.cons_append, lastOf]
    split
    · exact lastOf_append r m b
    · exact lastOf_append r m a
theorem pcs_mem (s : ByteArray) : ∀ (l : List Nat) (a : Nat), (∀ b ∈ l, b ≤ s.size) → ∀ p ∈ pcs s a l, 0 < p.size
  | [], _, _, p, hp => by cases hp
  | b :: r, a, hb, p, hp => by
    simp only [pcs] at hp
    split at hp
    · rename_i hlt
      rcases List.mem_cons.1 hp with rfl | hp
      · have := hb b (by simp)
        simp [ByteArray.size_extract]
        omega
      · exact pcs_mem s r b (fun x hx => hb x (by simp [hx])) p hp
    · exact pcs_mem s r a (fun x hx => hb x (by simp [hx])) p hp
theorem lastOf_le (n : Nat) : ∀ (l : List Nat) (a : Nat), a ≤ n → (∀ b ∈ l, b ≤ n) → a ≤ lastOf a l ∧ lastOf a l ≤ n
  | [], _, h, _ => ⟨Nat.le_refl _, h⟩
  | b :: r, a, h, hb => by
    simp only [lastOf]
    split
    · have := lastOf_le n r b (hb b (by simp)) (fun x hx => hb x (by simp [hx])); omega
    · exact lastOf_le n r a h (fun x hx => hb x (by simp [hx]))
theorem pcs_join (s : ByteArray) : ∀ (l : List Nat) (a : Nat), a ≤ s.size → (∀ b ∈ l, b ≤ s.size) → ((pcs s a l).map (·.data.toList)).flatten = (s.data.toList.drop a).take (lastOf a l - a)
  | [], a, _, _ => by simp [pcs, lastOf]
  | b :: r, a, ha, hb => by
    simp only [pcs, lastOf]
    split
    · rename_i hlt
      have hbs := hb b (by simp)
      have ih := pcs_join s r b hbs (fun x hx => hb x (by simp [hx]))
      have h2 := lastOf_le s.size r b hbs (fun x hx => hb x (by simp [hx]))
      rw [List.map_cons, List.flatten_cons, ih]
      have e1 : (s.extract a b).data.toList = (s.data.toList.drop a).take (b - a) := by
        simp [ByteArray.data_extract, Array.toList_extract]
      have e2 : s.data.toList.drop b = (s.data.toList.drop a).drop (b - a) := by rw [List.drop_drop]; congr 1; omega
      rw [e1, e2, ← List.take_add]
      congr 1; omega
    · exact pcs_join s r a ha (fun x hx => hb x (by simp [hx]))
/-- All pieces of a text. -/
def brkEnds (s : ByteArray) (wr ke : Bool) : List Nat := (brkAll s wr ke).map (·.1) ++ [s.size]
def piecesF (s : ByteArray) (wr ke : Bool) : List ByteArray := pcs s 0 (brkEnds s wr ke)
theorem rises_le {n : Nat} : ∀ {l : List (Nat × Bool)} {lo : Nat}, rises n lo l → ∀ b ∈ l.map (·.1), b ≤ n
  | [], _, _, b, hb => by cases hb
  | (a, _) :: r, _, h, b, hb => by
    rcases List.mem_cons.1 hb with rfl | hb
    · exact h.2.1
    · exact rises_le h.2.2 b hb
theorem ends_le (s : ByteArray) (wr ke : Bool) : ∀ b ∈ brkEnds s wr ke, b ≤ s.size := by
  intro b hb
  rcases List.mem_append.1 hb with hb | hb
  · exact rises_le (brkAll_rises s wr ke) b hb
  · simp at hb; omega
theorem pieces_join (s : ByteArray) (wr ke : Bool) : ((piecesF s wr ke).map (·.data.toList)).flatten = s.data.toList := by
  unfold piecesF
  rw [pcs_join s _ 0 (Nat.zero_le _) (ends_le s wr ke)]
  have h1 := lastOf_le s.size (brkEnds s wr ke) 0 (Nat.zero_le _) (ends_le s wr ke)
  have h2 : lastOf 0 (brkEnds s wr ke) = s.size := by
    unfold brkEnds at h1 ⊢
    rw [lastOf_append] at h1 ⊢
    simp only [lastOf] at h1 ⊢
    have h3 := lastOf_le s.size ((brkAll s wr ke).map (·.1)) 0 (Nat.zero_le _) (rises_le (brkAll_rises s wr ke))
    split <;> omega
  rw [h2, Nat.sub_zero, List.drop_zero, List.take_of_length_le (by rw [Array.length_toList]; exact Nat.le_refl _)]
theorem pieces_some (s : ByteArray) (wr ke : Bool) : ∀ p ∈ piecesF s wr ke, 0 < p.size := pcs_mem s _ 0 (ends_le s wr ke)
def modeW (m : Int) : Bool := m == 0 || m == 3
def modeK (m : Int) : Bool := m == 1 || m == 3
end Go.Proofs.Ytadlabndbomgmaa
/- The closed facts of a row, with what is said of the head of the dump proved apart (the kernel takes too much room for a long string's letters). -/
namespace Go.Proofs.Ytadlabndbomgmaa
open Go

/-- The letters of the dump's head. -/
def headCodes : List Nat := [104, 97, 114, 110, 101, 115, 115, 32, 54, 48, 48, 49, 55, 55, 101, 50, 101, 48, 98, 50, 97, 102, 99, 98, 100, 51, 99, 48, 49, 97, 57, 55, 48, 97, 100, 97, 49, 54, 98, 102, 49, 97, 97, 56, 102, 100, 50, 57, 101, 101, 101, 101, 53, 55, 55, 48, 54, 52, 57, 101, 55, 53, 57, 57, 56, 50, 57, 102, 52, 98, 102, 98, 32, 99, 117, 116, 32, 97, 116, 32, 99, 108, 101, 114, 101, 115, 116, 111, 114, 121, 47, 99, 108, 101, 114, 101, 115, 116, 111, 114, 121, 107, 101, 101, 112, 51, 46, 77, 97, 114, 103, 105, 110, 115, 79, 114, 100, 101, 114, 32, 99, 108, 101, 114, 101, 115, 116, 111, 114, 121, 47, 99, 108, 101, 114, 101, 115, 116, 111, 114, 121, 107, 101, 101, 112, 51, 46, 70, 105, 120, 77, 111, 110, 111, 116, 111, 110, 101, 32, 99, 108, 101, 114, 101, 115, 116, 111, 114, 121, 47, 99, 108, 101, 114, 101, 115, 116, 111, 114, 121, 107, 101, 101, 112, 51, 46, 87, 104, 105, 116, 101, 74, 111, 105, 110, 101, 100, 32, 99, 108, 101, 114, 101, 115, 116, 111, 114, 121, 47, 99, 108, 101, 114, 101, 115, 116, 111, 114, 121, 107, 101, 101, 112, 51, 46, 70, 105, 120, 87, 104, 111, 108, 101, 32, 99, 108, 101, 114, 101, 115, 116, 111, 114, 121, 47, 99, 108, 101, 114, 101, 115, 116, 111, 114, 121, 107, 101, 101, 112, 51, 46, 70, 108, 111, 97, 116, 115, 65, 112, 97, 114, 116, 32, 99, 108, 101, 114, 101, 115, 116, 111, 114, 121, 47, 99, 108, 101, 114, 101, 115, 116, 111, 114, 121, 107, 101, 101, 112, 51, 46, 70, 108, 111, 97, 116, 115, 82, 111, 111, 109, 32, 99, 108, 101, 114, 101, 115, 116, 111, 114, 121, 47, 99, 108, 101, 114, 101, 115, 116, 111, 114, 121, 107, 101, 101, 112, 51, 46, 87, 105, 100, 116, 104, 115, 65, 100, 100, 32, 99, 108, 101, 114, 101, 115, 116, 111, 114, 121, 47, 99, 108, 101, 114, 101, 115, 116, 111, 114, 121, 107, 101, 101, 112, 51, 46, 87, 105, 100, 116, 104, 115, 66, 111, 117, 110, 100, 32, 99, 108, 101, 114, 101, 115, 116, 111, 114, 121, 47, 99, 108, 101, 114, 101, 115, 116, 111, 114, 121, 107, 101, 101, 112, 51, 46, 66, 114, 101, 97, 107, 115, 87, 104, 111, 108, 101, 32, 99, 108, 101, 114, 101, 115, 116, 111, 114, 121, 47, 99, 108, 101, 114, 101, 115, 116, 111, 114, 121, 107, 101, 101, 112, 51, 46, 87, 104, 105, 116, 101, 84, 119, 105, 99, 101, 32, 99, 108, 101, 114, 101, 115, 116, 111, 114, 121, 47, 99, 108, 101, 114, 101, 115, 116, 111, 114, 121, 107, 101, 101, 112, 51, 46, 70, 108, 101, 120, 66, 111, 117, 110, 100, 115, 32, 99, 108, 101, 114, 101, 115, 116, 111, 114, 121, 47, 99, 108, 101, 114, 101, 115, 116, 111, 114, 121, 107, 101, 101, 112, 51, 46, 70, 108, 101, 120, 70, 105, 108, 108, 101, 100, 32, 99, 108, 101, 114, 101, 115, 116, 111, 114, 121, 47, 99, 108, 101, 114, 101, 115, 116, 111, 114, 121, 107, 101, 101, 112, 51, 46, 66, 114, 101, 97, 107, 115, 77, 117, 115, 116, 32, 99, 108, 101, 114, 101, 115, 116, 111, 114, 121, 47, 99, 108, 101, 114, 101, 115, 116, 111, 114, 121, 107, 101, 101, 112, 51, 46, 70, 108, 101, 120, 82, 111, 119, 115, 65, 108, 108, 32, 99, 108, 101, 114, 101, 115, 116, 111, 114, 121, 47, 99, 108, 101, 114, 101, 115, 116, 111, 114, 121, 107, 101, 101, 112, 51, 46, 70, 108, 101, 120, 83, 112, 114, 101, 97, 100, 65, 108, 108, 32, 99, 108, 101, 114, 101, 115, 116, 111, 114, 121, 47, 99, 108, 101, 114, 101, 115, 116, 111, 114, 121, 107, 101, 101, 112, 51, 46, 84, 97, 98, 108, 101, 83, 112, 97, 110, 115, 32, 99, 108, 101, 114, 101, 115, 116, 111, 114, 121, 47, 99, 108, 101, 114, 101, 115, 116, 111, 114, 121, 107, 101, 101, 112, 51, 46, 83, 105, 122, 101, 115, 79, 114, 100, 101, 114, 32, 99, 108, 101, 114, 101, 115, 116, 111, 114, 121, 47, 99, 108, 101, 114, 101, 115, 116, 111, 114, 121, 107, 101, 101, 112, 51, 46, 84, 97, 98, 108, 101, 70, 117, 108, 108, 32, 99, 108, 101, 114, 101, 115, 116, 111, 114, 121, 47, 99, 108, 101, 114, 101, 115, 116, 111, 114, 121, 107, 101, 101, 112, 51, 46, 76, 105, 110, 101, 115, 74, 117, 115, 116, 105, 102, 105, 101, 100, 32, 99, 108, 101, 114, 101, 115, 116, 111, 114, 121, 47, 99, 108, 101, 114, 101, 115, 116, 111, 114, 121, 107, 101, 101, 112, 51, 46, 76, 105, 110, 101, 115, 79, 110, 101, 32, 99, 108, 101, 114, 101, 115, 116, 111, 114, 121, 47, 99, 108, 101, 114, 101, 115, 116, 111, 114, 121, 107, 101, 101, 112, 51, 46, 76, 105, 110, 101, 115, 70, 105, 116]
theorem head_bytes : Try.prog.initOrder.toByteArray = (headCodes.map Char.ofNat).utf8Encode := by kernel_rfl
theorem head_is : Try.prog.initOrder = String.ofList (headCodes.map Char.ofNat) := String.toByteArray_inj.1 (head_bytes.trans (String.toByteArray_ofList).symm)
theorem head_list : Try.prog.initOrder.toList = headCodes.map Char.ofNat := by rw [head_is, String.toList_ofList]
def headWords : List (List Char) := behindMainWord (wordsSigns (headCodes.map Char.ofNat))
theorem head_words : behindMainWord (wordsSigns Try.prog.initOrder.toList) = headWords := by rw [head_list]; rfl
section
variable {P : Program} {c : List Char} {rest : List (List Char)}
theorem make_of (h : behindMainWord (wordsSigns P.initOrder.toList) = c :: rest) (h1 : (c == "gc".toList || c == "spec".toList) = false) (h2 : (c == "cut".toList) = true) : P.make = some .cut := by
  unfold Program.make
  rw [h]
  simp only [h1, h2, Bool.true_or, if_true, Bool.false_eq_true, if_false]
theorem lifts_empty_of (h : behindMainWord (wordsSigns P.initOrder.toList) = c :: rest) (h1 : (stripLifts liftWords (c :: rest)).1 = []) : P.headLifts = [] := by
  unfold Program.headLifts
  rw [h]
  simp only [h1, ite_self]
theorem lifts_of (h : behindMainWord (wordsSigns P.initOrder.toList) = c :: rest) (h0 : P.headLifts = []) (h1 : ((c :: rest).head? == some "carried".toList) = false) : P.liftsFinal = false := by
  unfold Program.liftsFinal
  rw [h, h0]
  simp only [h1, Bool.false_and, List.contains_nil, Bool.or_false]
theorem may_of (h : behindMainWord (wordsSigns P.initOrder.toList) = c :: rest)
    (h3 : ((stripLifts liftWords (c :: rest)).2.head? == some "cut".toList &&
      ((stripLifts liftWords (c :: rest)).1.contains "finals" || !P.laysLater) && ((stripLifts liftWords (c :: rest)).1.contains "reflectrows" || !P.bearsReflect) &&
      ((stripLifts liftWords (c :: rest)).1.contains "reflectrows" || !(stripLifts liftWords (c :: rest)).1.contains "leanrows") &&
      P.doorFits (stripLifts liftWords (c :: rest)).1) = true) : P.mayEnter = true := by
  unfold Program.mayEnter
  rw [h]
  simp only [h3, Bool.or_true]
end
theorem words_are : behindMainWord (wordsSigns Try.prog.initOrder.toList) = headWords.headD [] :: headWords.tail := by rw [head_words]; kernel_rfl
theorem make_is : Try.prog.make = some .cut := make_of words_are (by kernel_rfl) (by kernel_rfl)
theorem lifts_empty : Try.prog.headLifts = [] := lifts_empty_of words_are (by kernel_rfl)
theorem lifts_is : Try.prog.liftsFinal = false := lifts_of words_are lifts_empty (by kernel_rfl)
theorem may_enter : Try.prog.mayEnter = true := may_of words_are (by kernel_rfl)

end Go.Proofs.Ytadlabndbomgmaa
/- Plain facts on numbers and lists: cutting a number, parts of a number, margins that meet. No program in sight. -/
namespace Go.Proofs.Ytadlabndbomgmaa

/-- A number between -2^24 and 2^24. -/
def cut (n : Int) : Int := min (max n (-16777216)) 16777216
theorem cut_lo (n : Int) : -16777216 ≤ cut n := by unfold cut; omega
theorem cut_hi (n : Int) : cut n ≤ 16777216 := by unfold cut; omega
theorem cut_mono {a b : Int} (h : a ≤ b) : cut a ≤ cut b := by unfold cut; omega
theorem cut_of {n : Int} (h : -16777216 ≤ n) (h' : n ≤ 16777216) : cut n = n := by unfold cut; omega
theorem cut_cut (n : Int) : cut (cut n) = cut n := cut_of (cut_lo n) (cut_hi n)
theorem cut_nonneg {n : Int} (h : 0 ≤ n) : 0 ≤ cut n := by unfold cut; omega

/-- A part of a number, down above 0. -/
def partOf (n up down : Int) : Int := cut (cut n * cut up / cut down)
theorem mul_bound {a b : Int} (ha : -16777216 ≤ a) (ha' : a ≤ 16777216) (hb : -16777216 ≤ b) (hb' : b ≤ 16777216) : -281474976710656 ≤ a * b ∧ a * b ≤ 281474976710656 := by
  have h1 : 0 ≤ (16777216 - a) * (16777216 + b) := Int.mul_nonneg (by omega) (by omega)
  have h2 : 0 ≤ (16777216 + a) * (16777216 - b) := Int.mul_nonneg (by omega) (by omega)
  have h3 : 0 ≤ (16777216 - a) * (16777216 - b) := Int.mul_nonneg (by omega) (by omega)
  have h4 : 0 ≤ (16777216 + a) * (16777216 + b) := Int.mul_nonneg (by omega) (by omega)
  have e1 : (16777216 - a) * (16777216 + b) = 281474976710656 + 16777216 * b - 16777216 * a - a * b := by
    simp only [Int.sub_mul, Int.mul_add]; omega
  have e2 : (16777216 + a) * (16777216 - b) = 281474976710656 - 16777216 * b + 16777216 * a - a * b := by
    simp only [Int.add_mul, Int.mul_sub]; omega
  have e3 : (16777216 - a) * (16777216 - b) = 281474976710656 - 16777216 * b - 16777216 * a + a * b := by
    simp only [Int.sub_mul, Int.mul_sub]; omega
  have e4 : (16777216 + a) * (16777216 + b) = 281474976710656 + 16777216 * b + 16777216 * a + a * b := by
    simp only [Int.add_mul, Int.mul_add]; omega
  omega
theorem cut_mul_bound (a b : Int) : -281474976710656 ≤ cut a * cut b ∧ cut a * cut b ≤ 281474976710656 :=
  mul_bound (cut_lo a) (cut_hi a) (cut_lo b) (cut_hi b)
theorem part_mono {a b u d : Int} (h : a ≤ b) (hu : 0 ≤ u) (hd : 1 ≤ d) : partOf a u d ≤ partOf b u d := by
  unfold partOf
  refine cut_mono (Int.ediv_le_ediv (by unfold cut; omega) ?_)
  exact Int.mul_le_mul_of_nonneg_right (cut_mono h) (cut_nonneg hu)
theorem part_self {n d : Int} (hd : 1 ≤ d) : partOf n d d = cut n := by
  unfold partOf
  rw [Int.mul_ediv_cancel _ (by unfold cut; omega), cut_cut]

/-! Margins that meet. -/
def most (l : List Int) : Int := l.foldl (fun a n => max a (cut n)) 0
def least (l : List Int) : Int := l.foldl (fun a n => min a (cut n)) 0
def meet (l : List Int) : Int := cut (most l + least l)
theorem foldl_max_eq (l : List Int) : ∀ a : Int, a ≤ l.foldl (fun a n => max a (cut n)) a ∧ (∀ n ∈ l, cut n ≤ l.foldl (fun a n => max a (cut n)) a) ∧
    (l.foldl (fun a n => max a (cut n)) a = a ∨ ∃ n ∈ l, l.foldl (fun a n => max a (cut n)) a = cut n) := by
  induction l with
  | nil => intro a; simp
  | cons x l ih =>
    intro a
    obtain ⟨h1, h2, h3⟩ := ih (max a (cut x))
    simp only [List.foldl_cons]
    refine ⟨by omega, ?_, ?_⟩
    · intro n hn
      rcases List.mem_cons.1 hn with rfl | hn
      · omega
      · exact h2 n hn
    · rcases h3 with h3 | ⟨n, hn, h3⟩
      · by_cases hx : cut x ≤ a
        · left; rw [h3]; omega
        · right; exact ⟨x, by simp, by rw [h3]; omega⟩
      · right; exact ⟨n, by simp [hn], h3⟩
theorem foldl_min_eq (l : List Int) : ∀ a : Int, l.foldl (fun a n => min a (cut n)) a ≤ a ∧ (∀ n ∈ l, l.foldl (fun a n => min a (cut n)) a ≤ cut n) ∧
    (l.foldl (fun a n => min a (cut n)) a = a ∨ ∃ n ∈ l, l.foldl (fun a n => min a (cut n)) a = cut n) := by
  induction l with
  | nil => intro a; simp
  | cons x l ih =>
    intro a
    obtain ⟨h1, h2, h3⟩ := ih (min a (cut x))
    simp only [List.foldl_cons]
    refine ⟨by omega, ?_, ?_⟩
    · intro n hn
      rcases List.mem_cons.1 hn with rfl | hn
      · omega
      · exact h2 n hn
    · rcases h3 with h3 | ⟨n, hn, h3⟩
      · by_cases hx : a ≤ cut x
        · left; rw [h3]; omega
        · right; exact ⟨x, by simp, by rw [h3]; omega⟩
      · right; exact ⟨n, by simp [hn], h3⟩
theorem most_le {l m : List Int} (h : ∀ n ∈ l, n ∈ m) : most l ≤ most m := by
  obtain ⟨h1, h2, h3⟩ := foldl_max_eq l 0
  obtain ⟨k1, k2, k3⟩ := foldl_max_eq m 0
  unfold most
  rcases h3 with h3 | ⟨n, hn, h3⟩
  · rw [h3]; exact k1
  · rw [h3]; exact k2 n (h n hn)
theorem least_le {l m : List Int} (h : ∀ n ∈ l, n ∈ m) : least m ≤ least l := by
  obtain ⟨h1, h2, h3⟩ := foldl_min_eq l 0
  obtain ⟨k1, k2, k3⟩ := foldl_min_eq m 0
  unfold least
  rcases h3 with h3 | ⟨n, hn, h3⟩
  · rw [h3]; exact k1
  · rw [h3]; exact k2 n (h n hn)
theorem meet_same {l m : List Int} (h : ∀ n, n ∈ l ↔ n ∈ m) : meet l = meet m := by
  have a1 := most_le fun n hn => (h n).1 hn
  have a2 := most_le fun n hn => (h n).2 hn
  have b1 := least_le fun n hn => (h n).1 hn
  have b2 := least_le fun n hn => (h n).2 hn
  unfold meet
  rw [show most l = most m by omega, show least l = least m by omega]
theorem meet_order (a b : List Int) : meet (a ++ b) = meet ((b ++ a) ++ b) := meet_same fun n => by
  simp only [List.mem_append]
  exact ⟨fun h => h.elim (fun h => .inl (.inr h)) (fun h => .inr h), fun h => h.elim (fun h => h.elim .inr .inl) .inr⟩
theorem most_bound (l : List Int) : 0 ≤ most l ∧ most l ≤ 16777216 := by
  obtain ⟨h1, h2, h3⟩ := foldl_max_eq l 0
  unfold most
  refine ⟨h1, ?_⟩
  rcases h3 with h3 | ⟨n, _, h3⟩
  · rw [h3]; omega
  · rw [h3]; exact cut_hi n
theorem least_bound (l : List Int) : -16777216 ≤ least l ∧ least l ≤ 0 := by
  obtain ⟨h1, h2, h3⟩ := foldl_min_eq l 0
  unfold least
  refine ⟨?_, h1⟩
  rcases h3 with h3 | ⟨n, _, h3⟩
  · rw [h3]; omega
  · rw [h3]; exact cut_lo n
/-- The number at place k (0 behind the end). A plain definition, so that the walk leaves it alone. -/
def at0 (l : List Int) (k : Nat) : Int := l.getD k 0
theorem at0_of (l : List Int) (k : Nat) (h : k < l.length) : at0 l k = l[k] := by simp [at0, List.getD, List.getElem?_eq_getElem h]
theorem most_take (l : List Int) (k : Nat) (h : k < l.length) : most (l.take (k + 1)) = max (most (l.take k)) (cut (at0 l k)) := by
  unfold most; rw [List.take_succ_eq_append_getElem h, List.foldl_append, at0_of l k h]; rfl
theorem least_take (l : List Int) (k : Nat) (h : k < l.length) : least (l.take (k + 1)) = min (least (l.take k)) (cut (at0 l k)) := by
  unfold least; rw [List.take_succ_eq_append_getElem h, List.foldl_append, at0_of l k h]; rfl
/-! Go's division, rounded down. -/
theorem tdiv_exact {n d : Int} (hd : 1 ≤ d) (h : n.tmod d = 0) : n.tdiv d = n / d := by
  have e := Int.mul_tdiv_add_tmod n d
  rw [h, Int.add_zero] at e
  exact ((Int.ediv_eq_of_eq_mul_right (by omega) e.symm)).symm
theorem tdiv_down {n d : Int} (hd : 1 ≤ d) (hn : n < 0) (h : n.tmod d ≠ 0) : n.tdiv d - 1 = n / d := by
  have e := Int.mul_tdiv_add_tmod n d
  have h1 : n.tmod d ≤ 0 := by
    have := Int.tmod_nonneg d (show 0 ≤ -n by omega)
    rw [Int.neg_tmod] at this; omega
  have h2 : -d < n.tmod d := by
    have := Int.tmod_lt_of_pos (-n) (show 0 < d by omega)
    rw [Int.neg_tmod] at this; omega
  have e2 : n = (d + n.tmod d) + d * (n.tdiv d - 1) := by rw [Int.mul_sub, Int.mul_one]; omega
  rw [e2, Int.add_mul_ediv_left _ _ (by omega), Int.ediv_eq_zero_of_lt (by omega) (by omega)]
  rw [← e2]; omega
theorem tdiv_bd {n d : Int} (hd : 1 ≤ d) (h1 : -9223372036854775808 < n) (h2 : n ≤ 9223372036854775807) : -9223372036854775808 < n / d ∧ n / d ≤ 9223372036854775807 := by
  have a1 : n / d ≤ 9223372036854775807 := Int.ediv_le_of_le_mul (by omega) (by have := Int.mul_le_mul_of_nonneg_left hd (show (0 : Int) ≤ 9223372036854775807 by omega); omega)
  have a2 : -9223372036854775807 ≤ n / d := Int.le_ediv_of_mul_le (by omega) (by have := Int.mul_le_mul_of_nonneg_left hd (show (0 : Int) ≤ 9223372036854775807 by omega); omega)
  omega
end Go.Proofs.Ytadlabndbomgmaa
/- Bits of integers: the lower eight; what is laid beside. No program in sight. -/
namespace Go.Proofs.Ytadlabndbomgmaa
theorem ofInt_nat (x : Int) : ((BitVec.ofInt 64 x).toNat : Int) = x % 18446744073709551616 := by
  rw [BitVec.toNat_ofInt]
  have : (0 : Int) ≤ x % ((2 ^ 64 : Nat) : Int) := Int.emod_nonneg _ (by decide)
  rw [Int.toNat_of_nonneg this]; rfl
theorem and255 (x : Int) : bits .and .i64 x 255 = x % 256 := by
  have h1 := ofInt_nat x
  have h2 : (BitVec.ofInt 64 (255 : Int)).toNat = 255 := by decide
  show IntKind.i64.wrap ((BitVec.ofInt 64 x &&& BitVec.ofInt 64 255).toNat : Int) = _
  rw [BitVec.toNat_and, h2, show (255 : Nat) = 2 ^ 8 - 1 from rfl, Nat.and_two_pow_sub_one_eq_mod]
  generalize (BitVec.ofInt 64 x).toNat = n at *
  rw [IntKind.wrap_i64]
  omega
theorem and1 (x : Int) : bits .and .i64 x 1 = x % 2 := by
  have h1 := ofInt_nat x
  have h2 : (BitVec.ofInt 64 (1 : Int)).toNat = 1 := by decide
  show IntKind.i64.wrap ((BitVec.ofInt 64 x &&& BitVec.ofInt 64 1).toNat : Int) = _
  rw [BitVec.toNat_and, h2, show (1 : Nat) = 2 ^ 1 - 1 from rfl, Nat.and_two_pow_sub_one_eq_mod]
  generalize (BitVec.ofInt 64 x).toNat = n at *
  rw [IntKind.wrap_i64]
  omega
theorem ofInt_of_nat (a : Nat) (h : a < 18446744073709551616) : (BitVec.ofInt 64 (a : Int)).toNat = a := by
  rw [BitVec.ofInt_natCast, BitVec.toNat_ofNat]; exact Nat.mod_eq_of_lt (by omega)
theorem or_nat (a b : Nat) (ha : a < 4611686018427387904) (hb : b < 4611686018427387904) : bits .or .i64 (a : Int) (b : Int) = ((a ||| b : Nat) : Int) := by
  have hx : a ||| b < 2 ^ 62 := Nat.or_lt_two_pow (by omega) (by omega)
  show IntKind.i64.wrap ((BitVec.ofInt 64 (a : Int) ||| BitVec.ofInt 64 (b : Int)).toNat : Int) = _
  rw [BitVec.toNat_or, ofInt_of_nat a (by omega), ofInt_of_nat b (by omega), IntKind.wrap_i64]
  omega
/-- What lies beside: the lower k bits, and a number above them. -/
theorem or_beside (a m k : Nat) (ha : a < 2 ^ k) (hk : k ≤ 24) (hm : m ≤ 255) : bits .or .i64 (a : Int) ((m : Int) * 2 ^ k) = (a : Int) + (m : Int) * 2 ^ k := by
  have h24 : (2 : Nat) ^ k ≤ 2 ^ 24 := Nat.pow_le_pow_right (by decide) hk
  have e : ((m : Int) * 2 ^ k) = ((m * 2 ^ k : Nat) : Int) := by simp
  have hmk : m * 2 ^ k ≤ 255 * 2 ^ 24 := Nat.mul_le_mul hm h24
  have h3 : a ||| m * 2 ^ k = a + m * 2 ^ k := by
    have := Nat.shiftLeft_add_eq_or_of_lt ha m
    rw [Nat.shiftLeft_eq] at this
    rw [Nat.or_comm, ← this]; omega
  rw [e, or_nat a (m * 2 ^ k) (by omega) (by omega), h3]
  omega
theorem or1 (m : Int) (h : 0 ≤ m) (h' : m ≤ 255) : bits .or .i64 m 1 = m + (1 - m % 2) := by
  have hall : ∀ n : Fin 256, bits .or .i64 (n.val : Int) 1 = (n.val : Int) + (1 - (n.val : Int) % 2) := by decide +kernel
  have := hall ⟨m.toNat, by omega⟩
  simpa [Int.toNat_of_nonneg h] using this
/-- The lower eight bits set; the lower eight bits struck. -/
theorem or255 (x : Int) (h : -9223372036854775808 ≤ x ∧ x ≤ 9223372036854775807) : bits .or .i64 x 255 = x / 256 * 256 + 255 := by
  have h1 := ofInt_nat x
  have h2 : (BitVec.ofInt 64 (255 : Int)).toNat = 255 := by decide
  show IntKind.i64.wrap ((BitVec.ofInt 64 x ||| BitVec.ofInt 64 255).toNat : Int) = _
  rw [BitVec.toNat_or, h2]
  generalize (BitVec.ofInt 64 x).toNat = n at *
  have h3 : n ||| 255 = n / 256 * 256 + 255 := by
    have e := Nat.shiftLeft_add_eq_or_of_lt (show (255 : Nat) < 2 ^ 8 by decide) (n / 256)
    rw [Nat.shiftLeft_eq] at e
    have e2 := Nat.shiftLeft_add_eq_or_of_lt (show n % 256 < 2 ^ 8 by omega) (n / 256)
    rw [Nat.shiftLeft_eq] at e2
    have e3 : n % 256 ||| 255 = 255 := by
      have hall : ∀ k : Fin 256, k.val ||| 255 = 255 := by decide +kernel
      exact hall ⟨n % 256, by omega⟩
    have hn : n = n / 256 * 256 ||| n % 256 := by rw [show (256 : Nat) = 2 ^ 8 from rfl]; rw [← e2]; omega
    rw [show n ||| 255 = (n / 256 * 256 ||| n % 256) ||| 255 from by rw [← hn], Nat.or_assoc, e3, show (256 : Nat) = 2 ^ 8 from rfl, ← e]
  rw [h3, IntKind.wrap_i64]
  omega
theorem andNot255 (x : Int) (h : -9223372036854775808 ≤ x ∧ x ≤ 9223372036854775807) : bits .andNot .i64 x 255 = x / 256 * 256 := by
  have h1 := ofInt_nat x
  show IntKind.i64.wrap ((BitVec.ofInt 64 x &&& ~~~(BitVec.ofInt 64 255)).toNat : Int) = _
  have h4 : (BitVec.ofInt 64 x &&& ~~~(BitVec.ofInt 64 255)) = ((BitVec.ofInt 64 x) >>> 8) <<< 8 := by
    generalize BitVec.ofInt 64 x = v
    apply BitVec.eq_of_getLsbD_eq
    intro i hi
    simp only [BitVec.getLsbD_and, BitVec.getLsbD_not, BitVec.getLsbD_shiftLeft, BitVec.getLsbD_ushiftRight]
    have h5 : (BitVec.ofInt 64 255).getLsbD i = decide (i < 8) := by
      have hall : ∀ k : Fin 64, (BitVec.ofInt 64 255).getLsbD k.val = decide (k.val < 8) := by decide +kernel
      exact hall ⟨i, hi⟩
    rw [h5]
    by_cases h8 : i < 8
    · simp [h8]
    · simp [h8, hi]
      rw [show 8 + (i - 8) = i by omega]
      exact (BitVec.getLsbD_eq_getElem hi).symm
  rw [h4]
  have h6 : (((BitVec.ofInt 64 x) >>> 8) <<< 8).toNat = (BitVec.ofInt 64 x).toNat / 256 * 256 := by
    rw [BitVec.toNat_shiftLeft, BitVec.toNat_ushiftRight, Nat.shiftRight_eq_div_pow, Nat.shiftLeft_eq]
    have := (BitVec.ofInt 64 x).isLt
    rw [Nat.mod_eq_of_lt (by omega)]
  rw [h6]
  generalize (BitVec.ofInt 64 x).toNat = n at *
  rw [IntKind.wrap_i64]
  omega
end Go.Proofs.Ytadlabndbomgmaa
/- Plain facts on what floats. No program in sight. -/
namespace Go.Proofs.Ytadlabndbomgmaa
/-- What floats: a rectangle at a side (1: left). -/
structure Fl where
  x : Int
  y : Int
  w : Int
  h : Int
  side : Int
def Fl.cells (f : Fl) : List Value := [.int .i64 f.x, .int .i64 f.y, .int .i64 f.w, .int .i64 f.h, .int .i64 f.side]
def flCells : List Fl → List Value
  | [] => []
  | f :: l => f.cells ++ flCells l
theorem flCells_append (l m : List Fl) : flCells (l ++ m) = flCells l ++ flCells m := by
  induction l with
  | nil => rfl
  | cons f l ih => simp [flCells, ih]
theorem flCells_length (l : List Fl) : (flCells l).length = l.length * 5 := by
  induction l with
  | nil => rfl
  | cons f l ih => simp [flCells, Fl.cells, ih]; omega
theorem flCells_at (l : List Fl) : ∀ (k : Nat) (h : k < l.length) (j : Nat), j < 5 → (flCells l)[k * 5 + j]? = (l[k]).cells[j]? := by
  induction l with
  | nil => intro k h; simp at h
  | cons f l ih =>
    intro k h j hj
    cases k with
    | zero => simp only [flCells, Nat.zero_mul, Nat.zero_add, List.getElem_cons_zero]; rw [List.getElem?_append_left (by simp [Fl.cells]; omega)]
    | succ k =>
      have e : (k + 1) * 5 + j = 5 + (k * 5 + j) := by omega
      have hl : f.cells.length = 5 := rfl
      rw [e]
      simp only [flCells, List.getElem_cons_succ]
      rw [List.getElem?_append_right (by omega), hl, Nat.add_sub_cancel_left]
      exact ih k (by simpa using h) j hj
/-- Is it met by a stretch? -/
def metF (y h : Int) (f : Fl) : Bool := decide (0 < f.h) && decide (f.y < y + max 1 h) && decide (y < f.y + f.h)
def estep (y h : Int) (s : Int × Int × Bool) (f : Fl) : Int × Int × Bool :=
  if metF y h f then (if f.side == 1 then (max s.1 (f.x + f.w), s.2.1, true) else (s.1, min s.2.1 f.x, true)) else s
def edgesF (width y h : Int) (fs : List Fl) : Int × Int × Bool := fs.foldl (estep y h) (0, width, false)
theorem edgesF_take (width y h : Int) (fs : List Fl) (k : Nat) (hk : k < fs.length) : edgesF width y h (fs.take (k + 1)) = estep y h (edgesF width y h (fs.take k)) fs[k] := by
  unfold edgesF; rw [List.take_succ_eq_append_getElem hk, List.foldl_append]; rfl
/-- What the edges are: nobody who is met lies between; who is not met, does not move them. -/
theorem foldl_estep (y h : Int) (fs : List Fl) : ∀ s : Int × Int × Bool,
    s.1 ≤ (fs.foldl (estep y h) s).1 ∧ (fs.foldl (estep y h) s).2.1 ≤ s.2.1 ∧ (s.2.2 = true → (fs.foldl (estep y h) s).2.2 = true) ∧
    (∀ f ∈ fs, metF y h f = true → (fs.foldl (estep y h) s).2.2 = true ∧ (f.side = 1 → f.x + f.w ≤ (fs.foldl (estep y h) s).1) ∧ (f.side ≠ 1 → (fs.foldl (estep y h) s).2.1 ≤ f.x)) ∧
    ((∀ f ∈ fs, metF y h f = false) → fs.foldl (estep y h) s = s) := by
  induction fs with
  | nil => intro s; simp
  | cons f fs ih =>
    intro s
    obtain ⟨h1, h2, h3, h4, h5⟩ := ih (estep y h s f)
    simp only [List.foldl_cons]
    have g : s.1 ≤ (estep y h s f).1 ∧ (estep y h s f).2.1 ≤ s.2.1 ∧ (s.2.2 = true → (estep y h s f).2.2 = true) ∧
        (metF y h f = true → (estep y h s f).2.2 = true ∧ (f.side = 1 → f.x + f.w ≤ (estep y h s f).1) ∧ (f.side ≠ 1 → (estep y h s f).2.1 ≤ f.x)) ∧
        (metF y h f = false → estep y h s f = s) := by
      unfold estep
      by_cases hm : metF y h f = true
      · by_cases hs : f.side = 1
        · simp only [if_pos hm, hs, beq_self_eq_true, if_true]; refine ⟨by omega, by omega, fun _ => trivial, fun _ => ⟨trivial, fun _ => by omega, fun h => absurd rfl h⟩, fun h => by rw [hm] at h; cases h⟩
        · have hs' : (f.side == 1) = false := by simpa using hs
          simp only [if_pos hm, hs', Bool.false_eq_true, if_false]; refine ⟨by omega, by omega, fun _ => trivial, fun _ => ⟨trivial, fun h => absurd h hs, fun _ => by omega⟩, fun h => by rw [hm] at h; cases h⟩
      · simp only [if_neg hm]; exact ⟨by omega, by omega, fun h => h, fun h => absurd h hm, fun _ => by first | rfl | trivial⟩
    obtain ⟨g1, g2, g3, g4, g5⟩ := g
    refine ⟨by omega, by omega, fun h => h3 (g3 h), ?_, ?_⟩
    · intro q hq hm
      rcases List.mem_cons.1 hq with rfl | hq
      · obtain ⟨a1, a2, a3⟩ := g4 hm
        exact ⟨h3 a1, fun h => by have := a2 h; omega, fun h => by have := a3 h; omega⟩
      · exact h4 q hq hm
    · intro hn
      rw [h5 fun q hq => hn q (by simp [hq]), g5 (hn f (by simp))]
theorem edgesF_met {width y h : Int} {fs : List Fl} {f : Fl} (hf : f ∈ fs) (hm : metF y h f = true) :
    (edgesF width y h fs).2.2 = true ∧ (f.side = 1 → f.x + f.w ≤ (edgesF width y h fs).1) ∧ (f.side ≠ 1 → (edgesF width y h fs).2.1 ≤ f.x) := (foldl_estep y h fs (0, width, false)).2.2.2.1 f hf hm
theorem edgesF_none {width y h : Int} {fs : List Fl} (hn : ∀ f ∈ fs, metF y h f = false) : edgesF width y h fs = (0, width, false) := (foldl_estep y h fs (0, width, false)).2.2.2.2 hn
theorem edgesF_bd (width y h : Int) (fs : List Fl) : 0 ≤ (edgesF width y h fs).1 ∧ (edgesF width y h fs).2.1 ≤ width := ⟨(foldl_estep y h fs (0, width, false)).1, (foldl_estep y h fs (0, width, false)).2.1⟩
theorem edgesF_not {width y h : Int} {fs : List Fl} (hn : (edgesF width y h fs).2.2 = false) : (∀ f ∈ fs, metF y h f = false) ∧ edgesF width y h fs = (0, width, false) := by
  have a : ∀ f ∈ fs, metF y h f = false := by
    intro f hf
    cases hm : metF y h f
    · rfl
    · have := (edgesF_met (width := width) hf hm).1; rw [hn] at this; cases this
  exact ⟨a, edgesF_none a⟩
/-- Who is met, if somebody is. -/
theorem edgesF_some {width y h : Int} {fs : List Fl} (hn : (edgesF width y h fs).2.2 = true) : ∃ f ∈ fs, metF y h f = true := by
  by_cases hx : ∃ f ∈ fs, metF y h f = true
  · exact hx
  · have : ∀ f ∈ fs, metF y h f = false := fun f hf => by
      cases hm : metF y h f
      · rfl
      · exact absurd ⟨f, hf, hm⟩ hx
    rw [edgesF_none this] at hn; cases hn
theorem metF_true {y h : Int} {f : Fl} (hm : metF y h f = true) : 0 < f.h ∧ f.y < y + max 1 h ∧ y < f.y + f.h := by
  simpa [metF, and_assoc] using hm
theorem metF_mk {y h : Int} {f : Fl} (h1 : 0 < f.h) (h2 : f.y < y + max 1 h) (h3 : y < f.y + f.h) : metF y h f = true := by
  simp [metF, h1, h2, h3]
theorem edgesF_range {width y h : Int} {fs : List Fl} (hw : -16777216 ≤ width) (hok : ∀ f ∈ fs, -16777216 ≤ f.x ∧ f.x + f.w ≤ 33554432) :
    (edgesF width y h fs).1 ≤ 33554432 ∧ -16777216 ≤ (edgesF width y h fs).2.1 := by
  suffices H : ∀ s : Int × Int × Bool, s.1 ≤ 33554432 → -16777216 ≤ s.2.1 → (fs.foldl (estep y h) s).1 ≤ 33554432 ∧ -16777216 ≤ (fs.foldl (estep y h) s).2.1 from H (0, width, false) (by simp) hw
  induction fs with
  | nil => intro s h1 h2; exact ⟨h1, h2⟩
  | cons f fs ih =>
    intro s h1 h2
    have h3 := hok f (by simp)
    refine ih (fun q hq => hok q (by simp [hq])) (estep y h s f) ?_ ?_
    · unfold estep
      by_cases hm : metF y h f = true
      · rw [if_pos hm]
        by_cases hs : (f.side == 1) = true
        · rw [if_pos hs]; show max s.1 (f.x + f.w) ≤ _; omega
        · rw [if_neg hs]; exact h1
      · rw [if_neg hm]; exact h1
    · unfold estep
      by_cases hm : metF y h f = true
      · rw [if_pos hm]
        by_cases hs : (f.side == 1) = true
        · rw [if_pos hs]; exact h2
        · rw [if_neg hs]; show _ ≤ min s.2.1 f.x; omega
      · rw [if_neg hm]; exact h2
/-- The bounds that numbers keep: of k rectangles, each of a size up to S. -/
def FlOk (S : Int) (k : Nat) (f : Fl) : Prop := -16777216 ≤ f.x ∧ f.x ≤ 16777216 ∧ f.x + f.w ≤ 16777216 ∧ 0 ≤ f.w ∧ f.w ≤ 16777216 ∧ 0 ≤ f.h ∧ f.h ≤ S ∧ -16777216 ≤ f.y ∧ f.y + f.h ≤ S * (k + 1)
/-- The next place. -/
def lstep (y : Int) (s : Int) (f : Fl) : Int := if y < f.y + f.h ∧ (s < 0 ∨ f.y + f.h < s) then f.y + f.h else s
def leastF (y : Int) (fs : List Fl) : Int := fs.foldl (lstep y) (-1)
def nextF (y : Int) (fs : List Fl) : Int := max (leastF y fs) (y + 1)
theorem leastF_take (y : Int) (fs : List Fl) (k : Nat) (hk : k < fs.length) : leastF y (fs.take (k + 1)) = lstep y (leastF y (fs.take k)) fs[k] := by
  unfold leastF; rw [List.take_succ_eq_append_getElem hk, List.foldl_append]; rfl
theorem foldl_lstep (y M : Int) (fs : List Fl) (hM : ∀ f ∈ fs, f.y + f.h ≤ M) : ∀ s : Int, s ≤ max M (-1) → -16777217 ≤ s → (∀ f ∈ fs, -16777216 ≤ f.y + f.h) → fs.foldl (lstep y) s ≤ max M (-1) ∧ -16777217 ≤ fs.foldl (lstep y) s := by
  induction fs with
  | nil => intro s hs hl _; exact ⟨hs, hl⟩
  | cons f fs ih =>
    intro s hs hl hf
    simp only [List.foldl_cons]
    have h1 := hM f (by simp)
    have h2 := hf f (by simp)
    refine ih (fun q hq => hM q (by simp [hq])) _ ?_ ?_ (fun q hq => hf q (by simp [hq]))
    · unfold lstep; split <;> omega
    · unfold lstep; split <;> omega
theorem nextF_gt (y : Int) (fs : List Fl) : y + 1 ≤ nextF y fs := by unfold nextF; omega
theorem nextF_le {y M : Int} {fs : List Fl} (h0 : 0 ≤ M) (hM : ∀ f ∈ fs, f.y + f.h ≤ M) (hl : ∀ f ∈ fs, -16777216 ≤ f.y + f.h) (hy : y + 1 ≤ M) : nextF y fs ≤ M := by
  have := (foldl_lstep y M fs hM (-1) (by omega) (by omega) hl).1
  unfold nextF leastF; omega
theorem leastF_ge {y : Int} {fs : List Fl} (hl : ∀ f ∈ fs, -16777216 ≤ f.y + f.h) : -16777217 ≤ leastF y fs := by
  suffices h : ∀ s : Int, -16777217 ≤ s → -16777217 ≤ fs.foldl (lstep y) s from h (-1) (by omega)
  induction fs with
  | nil => intro s hs; exact hs
  | cons f fs ih =>
    intro s hs
    have h2 := hl f (by simp)
    exact ih (fun q hq => hl q (by simp [hq])) _ (by unfold lstep; split <;> omega)
/-- The lowest place that is not above one that came ahead. -/
def topY (y : Int) (fs : List Fl) : Int := fs.foldl (fun a f => max a f.y) y
theorem topY_take (y : Int) (fs : List Fl) (k : Nat) (hk : k < fs.length) : topY y (fs.take (k + 1)) = max (topY y (fs.take k)) fs[k].y := by
  unfold topY; rw [List.take_succ_eq_append_getElem hk, List.foldl_append]; rfl
theorem topY_spec (fs : List Fl) : ∀ y : Int, y ≤ topY y fs ∧ (∀ f ∈ fs, f.y ≤ topY y fs) ∧ ∀ M, y ≤ M → (∀ f ∈ fs, f.y ≤ M) → topY y fs ≤ M := by
  induction fs with
  | nil => intro y; exact ⟨Int.le_refl _, by simp, fun M h _ => h⟩
  | cons f fs ih =>
    intro y
    obtain ⟨h1, h2, h3⟩ := ih (max y f.y)
    refine ⟨by show y ≤ topY (max y f.y) fs; omega, ?_, ?_⟩
    · intro q hq
      show q.y ≤ topY (max y f.y) fs
      rcases List.mem_cons.1 hq with rfl | hq
      · omega
      · exact h2 q hq
    · intro M hy hM
      exact h3 M (by have := hM f (by simp); omega) fun q hq => hM q (by simp [hq])
/-- Where a rectangle is placed. -/
structure Placed (width : Int) (fs : List Fl) (side y w h M x y' : Int) : Prop where
  above : ∀ f ∈ fs, f.y ≤ y'
  low : y ≤ y'
  high : y' ≤ M
  at_ : x = if side = 2 then (edgesF width y' h fs).2.1 - w else (edgesF width y' h fs).1
  room : (edgesF width y' h fs).2.2 = false ∨ w ≤ (edgesF width y' h fs).2.1 - (edgesF width y' h fs).1
/-- What holds of what has been placed, one behind the other. -/
structure GoodFl (width : Int) (fs : List Fl) : Prop where
  bd : ∀ f ∈ fs, ((-16777216 ≤ f.x ∧ f.x ≤ 16777216 ∧ 0 ≤ f.w ∧ f.w ≤ 16777216) ∧ (-16777216 ≤ f.y ∧ f.y ≤ 1000000000000) ∧ 0 ≤ f.h ∧ f.h ≤ 16777216) ∧ f.y + f.h ≤ 65536 * fs.length + 32767
  up : fs.Pairwise fun a b => a.y ≤ b.y
  inside : ∀ f ∈ fs, f.w ≤ width → 0 ≤ f.x ∧ f.x + f.w ≤ width
  apart : fs.Pairwise fun q r => ¬ (0 < r.w ∧ 0 < r.h ∧ 0 < q.w ∧ 0 < q.h ∧ r.x < q.x + q.w ∧ q.x < r.x + r.w ∧ r.y < q.y + q.h ∧ q.y < r.y + r.h)
  sides : ∀ f ∈ fs, f.side = 1 ∨ f.side = 2
theorem GoodFl.nil (width : Int) : GoodFl width [] := ⟨by simp, .nil, by simp, .nil, by simp⟩
theorem GoodFl.step {width : Int} {fs : List Fl} (g : GoodFl width fs) (hw : 0 ≤ width ∧ width ≤ 16777216) (hl : fs.length ≤ 1000) {side y w h x y' : Int} (hs : side = 1 ∨ side = 2) (hy : -32768 ≤ y ∧ y ≤ 32767) (hwd : 0 ≤ w ∧ w ≤ 32767) (hh : 0 ≤ h ∧ h ≤ 32767)
    (p : Placed width fs side y w h (65536 * fs.length + 32767) x y') : GoodFl width (fs ++ [⟨x, y', w, h, side⟩]) := by
  obtain ⟨e1, e2⟩ := edgesF_bd width y' h fs
  have p3 := p.high
  have p2 := p.low
  have hx : (-16777216 ≤ x ∧ x ≤ 16777216) ∧ (w ≤ width → 0 ≤ x ∧ x + w ≤ width) ∧ ((edgesF width y' h fs).2.2 = true → (edgesF width y' h fs).1 ≤ x ∧ x + w ≤ (edgesF width y' h fs).2.1) := by
    have ha := p.at_
    rcases p.room with hm | hr
    · obtain ⟨_, he⟩ := edgesF_not hm
      rw [he] at ha
      refine ⟨?_, ?_, fun h => by rw [hm] at h; cases h⟩
      · rcases hs with rfl | rfl <;> simp at ha <;> omega
      · intro hww; rcases hs with rfl | rfl <;> simp at ha <;> omega
    · rcases hs with rfl | rfl
      · simp at ha; omega
      · simp at ha; omega
  refine ⟨?_, ?_, ?_, ?_, ?_⟩
  · intro f hf
    rw [List.length_append]
    rcases List.mem_append.1 hf with hf | hf
    · have := g.bd f hf; simp only [List.length_cons, List.length_nil]; omega
    · simp at hf; subst hf; simp only [List.length_cons, List.length_nil]; omega
  · rw [List.pairwise_append]
    refine ⟨g.up, List.pairwise_singleton _ _, ?_⟩
    intro a ha b hb
    simp at hb; subst hb
    exact p.above a ha
  · intro f hf
    rcases List.mem_append.1 hf with hf | hf
    · exact g.inside f hf
    · simp at hf; subst hf; exact hx.2.1
  · rw [List.pairwise_append]
    refine ⟨g.apart, List.pairwise_singleton _ _, ?_⟩
    intro q hq r hr
    simp at hr; subst hr
    rintro ⟨h1, h2, h3, h4, h5, h6, h7, h8⟩
    dsimp only at h1 h2 h5 h6 h7 h8
    obtain ⟨m1, m2, m3⟩ := edgesF_met (width := width) hq (metF_mk (y := y') (h := h) h4 (by omega) h7)
    obtain ⟨x1, x2⟩ := hx.2.2 m1
    rcases g.sides q hq with hs1 | hs1
    · have := m2 hs1; omega
    · have := m3 (by omega); omega
  · intro f hf
    rcases List.mem_append.1 hf with hf | hf
    · exact g.sides f hf
    · simp at hf; subst hf; exact hs
theorem not6 {a b c d e f : Bool} (h : ¬ (a = true ∧ b = true ∧ c = true ∧ d = true ∧ e = true ∧ f = true)) :
    a = false ∨ (a = true ∧ b = false) ∨ (a = true ∧ b = true ∧ c = false) ∨ (a = true ∧ b = true ∧ c = true ∧ d = false) ∨ (a = true ∧ b = true ∧ c = true ∧ d = true ∧ e = false) ∨ (a = true ∧ b = true ∧ c = true ∧ d = true ∧ e = true ∧ f = false) := by
  cases a <;> cases b <;> cases c <;> cases d <;> cases e <;> cases f <;> simp_all
theorem not5 {a b c d e : Bool} (h : ¬ (a = true ∧ b = true ∧ c = true ∧ d = true ∧ e = true)) :
    a = false ∨ (a = true ∧ b = false) ∨ (a = true ∧ b = true ∧ c = false) ∨ (a = true ∧ b = true ∧ c = true ∧ d = false) ∨ (a = true ∧ b = true ∧ c = true ∧ d = true ∧ e = false) := by
  cases a <;> cases b <;> cases c <;> cases d <;> cases e <;> simp_all
end Go.Proofs.Ytadlabndbomgmaa
/- Plain facts on letters: how wide a rune is, the runes of a text, its dots. No program in sight. -/
namespace Go.Proofs.Ytadlabndbomgmaa
def narrowL : List Int := [32, 105, 108, 106, 46, 44, 39, 33, 124, 58]
def wideL : List Int := [109, 119, 77, 87, 64]
def fourthsF (r : Int) : Int := if r < 32 ∨ r = 127 then 0 else if 4352 ≤ r then 4 else if r ∈ narrowL then 1 else if r ∈ wideL then 3 else 2
theorem fourths_bd (r : Int) : 0 ≤ fourthsF r ∧ fourthsF r ≤ 4 := by
  unfold fourthsF
  split
  · omega
  · split
    · omega
    · split
      · omega
      · split <;> omega
def sizeF (n : Int) : Int := max 0 (cut n)
theorem sizeF_bd (n : Int) : 0 ≤ sizeF n ∧ sizeF n ≤ 16777216 := by
  have h := cut_hi n
  unfold sizeF; omega
theorem cut_size (n : Int) : cut (sizeF n) = sizeF n := by
  have h := sizeF_bd n
  exact cut_of (by omega) (by omega)
theorem size_size (n : Int) : sizeF (sizeF n) = sizeF n := by
  have h := sizeF_bd n
  have e := cut_size n
  show max 0 (cut (sizeF n)) = sizeF n
  rw [e]; omega
theorem part_of (n up down : Int) (h1 : cut n = n) (h2 : cut up = up) (h3 : cut down = down) (h4 : 0 < down) : partOf n up down = cut (n * up / down) := by
  unfold partOf
  rw [h1, h2, h3]
def advF (r size : Int) : Int := partOf (sizeF size) (fourthsF r) 4
def ascF (size : Int) : Int := partOf (sizeF size) 3 4
theorem adv_eq (r size : Int) : advF r size = sizeF size * fourthsF r / 4 := by
  have h1 := sizeF_bd size
  have h2 := fourths_bd r
  have h3 : 0 ≤ sizeF size * fourthsF r := Int.mul_nonneg (by omega) (by omega)
  have h4 : sizeF size * fourthsF r ≤ sizeF size * 4 := Int.mul_le_mul (Int.le_refl _) (by omega) (by omega) (by omega)
  unfold advF
  rw [part_of _ _ _ (cut_size _) (cut_of (by omega) (by omega)) (cut_of (by omega) (by omega)) (by omega), cut_of (by omega) (by omega)]
theorem asc_eq (size : Int) : ascF size = sizeF size * 3 / 4 := by
  have h1 := sizeF_bd size
  unfold ascF
  rw [part_of _ _ _ (cut_size _) (cut_of (by omega) (by omega)) (cut_of (by omega) (by omega)) (by omega), cut_of (by omega) (by omega)]
theorem adv_bd (r size : Int) : 0 ≤ advF r size ∧ advF r size ≤ sizeF size := by
  have h1 := sizeF_bd size
  have h2 := fourths_bd r
  have h3 : 0 ≤ sizeF size * fourthsF r := Int.mul_nonneg (by omega) (by omega)
  have h4 : sizeF size * fourthsF r ≤ sizeF size * 4 := Int.mul_le_mul (Int.le_refl _) (by omega) (by omega) (by omega)
  rw [adv_eq]; omega
theorem asc_bd (size : Int) : 0 ≤ ascF size ∧ ascF size ≤ sizeF size := by
  have h1 := sizeF_bd size
  rw [asc_eq]; omega
theorem adv_size (r n : Int) : advF r (sizeF n) = advF r n := by unfold advF; rw [size_size]
/-! The runes of a text. -/
theorem decode_wd (s : ByteArray) (pos : Nat) (h : pos < s.size) : 1 ≤ (Utf8.decode s pos).2 ∧ pos + (Utf8.decode s pos).2 ≤ s.size ∧ (Utf8.decode s pos).1 ≤ 1114111 := by
  have h0 := Lib.decode_at s pos
  rw [h0]
  unfold Lib.decodeN
  have hb : (s.get! pos).toNat < 256 := UInt8.toNat_lt _
  generalize (s.get! pos).toNat = b0 at *
  generalize (s.get! (pos + 1)).toNat = b1 at *
  generalize (s.get! (pos + 2)).toNat = b2 at *
  generalize (s.get! (pos + 3)).toNat = b3 at *
  clear h0
  repeat' split
  all_goals (refine ⟨?_, ?_, ?_⟩ <;> simp only <;> omega)
def runesF (s : ByteArray) : Nat → Nat → List Int
  | 0, _ => []
  | f + 1, pos => if pos < s.size then ((Utf8.decode s pos).1 : Int) :: runesF s f (pos + (Utf8.decode s pos).2) else []
theorem runes_fuel (s : ByteArray) : ∀ (f g pos : Nat), s.size - pos ≤ f → s.size - pos ≤ g → runesF s f pos = runesF s g pos
  | 0, 0, _, _, _ => rfl
  | 0, g + 1, pos, h, _ => by simp only [runesF]; rw [if_neg (by omega)]
  | f + 1, 0, pos, _, h => by simp only [runesF]; rw [if_neg (by omega)]
  | f + 1, g + 1, pos, h1, h2 => by
    simp only [runesF]
    by_cases h : pos < s.size
    · have h3 := decode_wd s pos h
      rw [if_pos h, if_pos h, runes_fuel s f g (pos + (Utf8.decode s pos).2) (by omega) (by omega)]
    · rw [if_neg h, if_neg h]
def runesAt (s : ByteArray) (pos : Nat) : List Int := runesF s (s.size - pos) pos
theorem runesAt_step (s : ByteArray) (pos : Nat) (h : pos < s.size) : runesAt s pos = ((Utf8.decode s pos).1 : Int) :: runesAt s (pos + (Utf8.decode s pos).2) := by
  have h3 := decode_wd s pos h
  unfold runesAt
  rw [show s.size - pos = (s.size - pos - 1) + 1 by omega]
  simp only [runesF]
  rw [if_pos h, runes_fuel s _ (s.size - (pos + (Utf8.decode s pos).2)) (pos + (Utf8.decode s pos).2) (by omega) (by omega)]
theorem runesAt_end (s : ByteArray) (pos : Nat) (h : s.size ≤ pos) : runesAt s pos = [] := by
  unfold runesAt
  rw [show s.size - pos = 0 by omega]; rfl
theorem runesAt_len (s : ByteArray) : ∀ (f pos : Nat), s.size - pos ≤ f → (runesAt s pos).length ≤ f
  | 0, pos, h => by rw [runesAt_end s pos (by omega)]; simp
  | f + 1, pos, h => by
    by_cases hp : pos < s.size
    · have h3 := decode_wd s pos hp
      rw [runesAt_step s pos hp]
      have := runesAt_len s f (pos + (Utf8.decode s pos).2) (by omega)
      simp; omega
    · rw [runesAt_end s pos (by omega)]; simp
/-- How wide runes are, one behind the other. -/
def wideS (size sp : Int) : List Int → Int
  | [] => 0
  | r :: l => advF r size + sp + wideS size sp l
theorem wideS_append (size sp : Int) (l m : List Int) : wideS size sp (l ++ m) = wideS size sp l + wideS size sp m := by
  induction l with
  | nil => simp [wideS]
  | cons r l ih => simp only [List.cons_append, wideS, ih]; omega
end Go.Proofs.Ytadlabndbomgmaa
/- Words for memory and small lemmas that the walks use (most of them copied from the guide's pages of lemmas to copy). No program in sight. -/
namespace Go.Proofs.Ytadlabndbomgmaa
open Go.RowKit Go.ChangeShapes Go.WideShapes Go.Deep
theorem block_of_add (a : Addr) (n : Nat) : (a.add n).block = a.block := by unfold Addr.add; split <;> rfl
theorem add_of_add (a : Addr) (i j : Nat) : (a.add i).add j = a.add (i + j) := by
  unfold Addr.add
  by_cases hi : i = 0 <;> by_cases hj : j = 0 <;> simp [hi, hj, Nat.add_assoc]

def Reads (w : World) (B size : Nat) (A : Option Addr) (n : Nat) (xs : List Value) : Prop :=
  xs.length = n * size ∧ (0 < n → ∃ ad, A = some ad ∧ ad.block < B ∧ ∀ j u, xs[j]? = some u → w.cell? (ad.add j) = some u)

section
variable {w w' : World} {B B' size n : Nat} {A : Option Addr} {xs : List Value}
theorem Reads.none_ : Reads w B size A 0 [] := ⟨by simp, fun h => absurd h (by omega)⟩
theorem Reads.at_ {k : Nat} (h : Reads w B 1 A n xs) (hk : k < n) : ∃ ad u, A = some ad ∧ ad.block < B ∧ xs[k]? = some u ∧ w.cell? (ad.add k) = some u := by
  obtain ⟨ad, e, hb, hc⟩ := h.2 (by omega)
  have hl : k < xs.length := by have := h.1; omega
  exact ⟨ad, xs[k], e, hb, List.getElem?_eq_getElem hl, hc k _ (List.getElem?_eq_getElem hl)⟩
theorem Reads.keep (h : Reads w B size A n xs) (hk : ∀ p : Addr, p.block < B → w'.cell? p = w.cell? p) : Reads w' B size A n xs :=
  ⟨h.1, fun hn => by
    obtain ⟨ad, e, hb, hc⟩ := h.2 hn
    exact ⟨ad, e, hb, fun j u hu => (hk _ (by rw [block_of_add]; exact hb)).trans (hc j u hu)⟩⟩
theorem Reads.more (h : Reads w B size A n xs) (hB : B ≤ B') : Reads w B' size A n xs :=
  ⟨h.1, fun hn => by
    obtain ⟨ad, e, hb, hc⟩ := h.2 hn
    exact ⟨ad, e, by omega, hc⟩⟩
theorem Reads.below (h : Reads w B size A n xs) (hb : Below B w w') : Reads w' B size A n xs := h.keep fun _ hp => hb.cell hp
theorem Reads.drew (h : Reads w B size A n xs) : Reads w.drew B size A n xs := h
theorem Reads.drewN (h : Reads w B size A n xs) (k : Nat) : Reads (w.drewN k) B size A n xs := h
theorem Reads.alloc (h : Reads w B size A n xs) (hB : B ≤ w.heap.size) (o : Obj) : Reads (w.alloc o) B size A n xs := h.keep fun p hp => World.cell?_alloc_lt w o p (by omega)
theorem Reads.setCell (h : Reads w B size A n xs) {p : Addr} (hB : B ≤ p.block) (u : Value) : Reads (w.setCell p u) B size A n xs :=
  h.keep fun q hq => World.cell?_setCell_other w p q u (fun e => by subst e; omega)
theorem Reads.grown (h : Reads w B size A n xs) {row : Option Nat} (hg : w.grownBy w' row) (hB : B ≤ w.heap.size) (hr : ∀ g, row = some g → B ≤ g) : Reads w' B size A n xs :=
  h.keep fun p hp => World.cell?_of_block (hg.block p.block (by omega) (fun e => by have := hr _ e.symm; omega))
theorem Reads.cut (h : Reads w B size A n xs) {k cap : Nat} (hk : k ≤ n) (hc : n ≤ cap) :
    Reads w B size (if cap = k then A else A.map (·.add (k * size))) (n - k) (xs.drop (k * size)) := by
  refine ⟨by rw [List.length_drop, h.1, Nat.sub_mul], fun hn => ?_⟩
  obtain ⟨ad, rfl, hb, hcell⟩ := h.2 (by omega)
  rw [if_neg (by omega)]
  refine ⟨ad.add (k * size), rfl, by rw [block_of_add]; exact hb, fun j u hu => ?_⟩
  rw [add_of_add]
  exact hcell _ u (by rw [← hu, List.getElem?_drop])
theorem Reads.of_own {base : Nat} {e : TypeId} {c : Nat} (h : w.ownsRow base e size (.slice A n c) n xs) : Reads w w.heap.size size A n xs := by
  refine ⟨h.1, fun hn => ?_⟩
  obtain ⟨g, cap, hv, _, hlt⟩ := h.form hn
  have hA : A = some ⟨g, 0, none⟩ := by injection hv
  subst hA
  exact ⟨_, rfl, hlt, h.cells (g := g) rfl⟩
end

def Blk (w : World) (g : Nat) (t : TypeId) (cs : Array Value) : Prop := w.heap[g]? = some (.cells cs t (0, 0))

section
variable {w w' : World} {g : Nat} {t : TypeId} {cs : Array Value}
theorem Blk.lt (h : Blk w g t cs) : g < w.heap.size := by
  rcases Nat.lt_or_ge g w.heap.size with hlt | hge
  · exact hlt
  · unfold Blk at h; rw [Array.getElem?_eq_none hge] at h; cases h
theorem Blk.cell (h : Blk w g t cs) (i : Nat) : w.cell? ⟨g, i, none⟩ = cs[i]? := cell_of_row w g i cs t (0, 0) h
theorem Blk.frozen (h : Blk w g t cs) (i : Nat) : w.frozen? ⟨g, i, none⟩ = false := by
  unfold Blk at h
  simp [World.frozen?, h]
theorem Blk.new (w : World) (t : TypeId) (cs : Array Value) : Blk (w.alloc (.cells cs t)) w.heap.size t cs := heap_alloc_new w _
theorem Blk.drew (h : Blk w g t cs) : Blk w.drew g t cs := h
theorem Blk.drewN (h : Blk w g t cs) (n : Nat) : Blk (w.drewN n) g t cs := h
theorem Blk.alloc (h : Blk w g t cs) (o : Obj) : Blk (w.alloc o) g t cs := (Below.heap_alloc w o g h.lt).trans h
theorem Blk.set_ (h : Blk w g t cs) (i : Nat) (u : Value) : Blk (w.setCell ⟨g, i, none⟩ u) g t (cs.setIfInBounds i u) := by
  unfold Blk at h ⊢
  simp [World.setCell, Array.getElem?_modify, h]
theorem Blk.far (h : Blk w g t cs) {p : Addr} (hp : g ≠ p.block) (u : Value) : Blk (w.setCell p u) g t cs := (Below.heap_setCell w p u g hp).trans h
theorem Blk.below {B : Nat} (h : Blk w g t cs) (hb : Below B w w') (hg : g < B) : Blk w' g t cs := (hb.block g hg).trans h
theorem Blk.grown {row : Option Nat} (h : Blk w g t cs) (hb : w.grownBy w' row) (hg : some g ≠ row) : Blk w' g t cs := (hb.block g h.lt hg).trans h
theorem Blk.ne_ {g' : Nat} {t' : TypeId} {cs' : Array Value} (h : Blk w g t cs) (h' : Blk w g' t' cs') (hne : t ≠ t') : g ≠ g' := by
  rintro rfl
  unfold Blk at h h'
  rw [h] at h'
  injection h' with h'
  injection h' with _ ht
  exact hne ht
theorem own_blk_ne {base : Nat} {e : TypeId} {size n : Nat} {v : Value} {xs : List Value} (h : w.ownsRow base e size v n xs) (hg : Blk w g t cs) (hne : e ≠ t) : v.ownBlock ≠ some g := by
  rcases h.2 with ⟨rfl, _⟩ | ⟨g', cap, cur, rfl, _, hh, _⟩
  · simp [Value.ownBlock]
  · intro he
    have : g' = g := by simpa [Value.ownBlock] using he
    subst this
    exact Blk.ne_ (t := e) hh hg hne rfl
end

section
variable {P : Program} (w : World)

theorem run_append_of_nil (base : Nat) (t ty e : TypeId) (i : TypeInfo) (size : Nat) (ht : P.underlying t = some (.slice e)) (hi : P.info? e = some i)
    (v : Value) (n : Nat) (xs : List Value) (hown : w.ownsRow base e size v n xs) (c : Nat) : (Builtin.append_ #[t, t] ty #[v, .slice none 0 c]).run P w = .ok v w := by
  rcases hown.2 with ⟨rfl, rfl⟩ | ⟨g, cap, cur, rfl, _, _, hnc, _⟩
  · simp [Builtin.append_, run_underlying ht, sizeOf, typeInfo, hi, Builtin.lenOf, Builtin.firstCells]
  · simp [Builtin.append_, run_underlying ht, sizeOf, typeInfo, hi, Builtin.lenOf, Builtin.firstCells, hnc, storeCells]

theorem run_append_any (base : Nat) (t ty e : TypeId) (i : TypeInfo) (z : Value) (size bytes : Nat) (ht : P.underlying t = some (.slice e)) (hi : P.info? e = some i) (hz : i.zero = some z)
    (hsize : i.size = size) (hby : i.bytes = bytes) (hzs : z.cells.size = size) (hsz : 0 < size)
    (v : Value) (n : Nat) (xs : List Value) (hown : w.ownsRow base e size v n xs)
    (B : Nat) (A : Option Addr) (m c : Nat) (news : List Value) (hr : Reads w B size A m news) (h1 : ∀ u ∈ news, u.oneCell' = true)
    (h63 : n + m ≤ maxLen) (hbytes : (n + m) * bytes ≤ 140737488355328) (hbase : base ≤ w.heap.size) :
    ∃ v' w', (Builtin.append_ #[t, t] ty #[v, .slice A m c]).run P w = .ok v' w' ∧ w'.ownsRow base e size v' (n + m) (xs ++ news) ∧ w.grownBy w' v.ownBlock ∧
      (v'.ownBlock = v.ownBlock ∨ v'.ownBlock = some w.heap.size) := by
  rcases A with _ | ad
  · have hm : m = 0 := by
      rcases Nat.eq_zero_or_pos m with h0 | h0
      · exact h0
      · obtain ⟨ad, h, _⟩ := hr.2 h0
        cases h
    subst hm
    have hn : news = [] := List.eq_nil_of_length_eq_zero (by simpa using hr.1)
    subst hn
    exact ⟨v, w, run_append_of_nil w base t ty e i size ht hi v n xs hown c, by simpa using hown, World.grownBy.refl w _, .inl rfl⟩
  · have hcells : ∀ j u, news[j]? = some u → w.cell? (ad.add j) = some u := by
      intro j u hu
      rcases Nat.eq_zero_or_pos m with h0 | h0
      · subst h0
        have hn : news = [] := List.eq_nil_of_length_eq_zero (by simpa using hr.1)
        subst hn
        simp at hu
      · obtain ⟨ad', h, _, hc⟩ := hr.2 h0
        injection h with h
        subst h
        exact hc j u hu
    obtain ⟨v', w', hrun, h2, h3, _, h5⟩ := run_append_own_at (P := P) w base t ty e i z size bytes ht hi hz hsize hby hzs hsz v n xs hown ad m c news hr.1 hcells h1 h63 hbytes hbase
    exact ⟨v', w', hrun, h2, h3, h5⟩

theorem wp_append_any {o : Oper} {a : Act} {K : Act → World → Prop} {Q : Exit → Act → World → Prop} (s x : Operand) (t : TypeId)
    (ho : o.op = .call { callee := .builtin .append, args := #[s, x], argTypes := #[t, t] })
    (base : Nat) (e : TypeId) (i : TypeInfo) (z : Value) (size bytes : Nat) (ht : P.underlying t = some (.slice e)) (hi : P.info? e = some i) (hz : i.zero = some z)
    (hsize : i.size = size) (hby : i.bytes = bytes) (hzs : z.cells.size = size) (hsz : 0 < size)
    (v : Value) (n : Nat) (xs : List Value) (hs : a.eval s = v) (hown : w.ownsRow base e size v n xs)
    (B : Nat) (A : Option Addr) (m c : Nat) (news : List Value) (hx : a.eval x = .slice A m c) (hr : Reads w B size A m news) (h1 : ∀ u ∈ news, u.oneCell' = true)
    (h63 : n + m ≤ maxLen) (hbytes : (n + m) * bytes ≤ 140737488355328) (hbase : base ≤ w.heap.size)
    (h : ∀ v' w', w'.ownsRow base e size v' (n + m) (xs ++ news) → w.grownBy w' v.ownBlock → (v'.ownBlock = v.ownBlock ∨ v'.ownBlock = some w.heap.size) → K (a.put o.dst v') w') : o.wp P a w K Q := by
  obtain ⟨v', w', hrun, h2, h3, h4⟩ := run_append_any (P := P) w base t o.type e i z size bytes ht hi hz hsize hby hzs hsz v n xs hown B A m c news hr h1 h63 hbytes hbase
  unfold Oper.wp execOp
  simp only [ho, resolve, invoke, builtin, Sem.run_bind, Sem.run_pure, Result.andThen_ok, List.map_toArray, List.map_cons, List.map_nil, hs, hx, hrun]
  exact h v' w' h2 h3 h4

theorem wpList_append_any {ops : Array Oper} {rest : List Oper} {o : Oper} {a : Act} {Q : Exit → Act → World → Prop} (hgd : o.guard = none) (s x : Operand) (t : TypeId)
    (ho : o.op = .call { callee := .builtin .append, args := #[s, x], argTypes := #[t, t] })
    (base : Nat) (e : TypeId) (i : TypeInfo) (z : Value) (size bytes : Nat) (ht : P.underlying t = some (.slice e)) (hi : P.info? e = some i) (hz : i.zero = some z)
    (hsize : i.size = size) (hby : i.bytes = bytes) (hzs : z.cells.size = size) (hsz : 0 < size)
    (v : Value) (n : Nat) (xs : List Value) (hs : a.eval s = v) (hown : w.ownsRow base e size v n xs)
    (B : Nat) (A : Option Addr) (m c : Nat) (news : List Value) (hx : a.eval x = .slice A m c) (hr : Reads w B size A m news) (h1 : ∀ u ∈ news, u.oneCell' = true)
    (h63 : n + m ≤ maxLen) (hbytes : (n + m) * bytes ≤ 140737488355328) (hbase : base ≤ w.heap.size)
    (h : ∀ v' w', w'.ownsRow base e size v' (n + m) (xs ++ news) → w.grownBy w' v.ownBlock → (v'.ownBlock = v.ownBlock ∨ v'.ownBlock = some w.heap.size) → wpList P ops Q rest (a.put o.dst v') w') : wpList P ops Q (o :: rest) a w :=
  wpList_plain hgd fun _ hK => wp_append_any w s x t ho base e i z size bytes ht hi hz hsize hby hzs hsz v n xs hs hown B A m c news hx hr h1 h63 hbytes hbase fun v' w' h2 h3 h4 => hK _ _ (h v' w' h2 h3 h4)

theorem step_append_any {ops : Array Oper} {o : Oper} {a : Act} {K : Act → World → Prop} {Q : Exit → Act → World → Prop} {E : Prop} (hgd : o.guard = none) (s x : Operand) (t : TypeId)
    (ho : o.op = .call { callee := .builtin .append, args := #[s, x], argTypes := #[t, t] })
    (base : Nat) (e : TypeId) (i : TypeInfo) (z : Value) (size bytes : Nat) (ht : P.underlying t = some (.slice e)) (hi : P.info? e = some i) (hz : i.zero = some z)
    (hsize : i.size = size) (hby : i.bytes = bytes) (hzs : z.cells.size = size) (hsz : 0 < size)
    (v : Value) (n : Nat) (xs : List Value) (hs : a.eval s = v) (hown : w.ownsRow base e size v n xs)
    (B : Nat) (A : Option Addr) (m c : Nat) (news : List Value) (hx : a.eval x = .slice A m c) (hr : Reads w B size A m news) (h1 : ∀ u ∈ news, u.oneCell' = true)
    (h63 : n + m ≤ maxLen) (hbytes : (n + m) * bytes ≤ 140737488355328) (hbase : base ≤ w.heap.size)
    (h : ∀ v' w', w'.ownsRow base e size v' (n + m) (xs ++ news) → w.grownBy w' v.ownBlock → (v'.ownBlock = v.ownBlock ∨ v'.ownBlock = some w.heap.size) → K (a.put o.dst v') w') :
    if Region.wanted o (yielded ops a.tmps) = true then Oper.wp P o a w K Q else E := by
  have hw : Region.wanted o (yielded ops a.tmps) = true := by simp [Region.wanted, hgd]
  rw [if_pos hw]
  exact wp_append_any w s x t ho base e i z size bytes ht hi hz hsize hby hzs hsz v n xs hs hown B A m c news hx hr h1 h63 hbytes hbase h
end

theorem Reads.int_at {w : World} {B n : Nat} {A : Option Addr} {kd : IntKind} {xs : List Int} {k : Nat} (h : Reads w B 1 A n (xs.map (Value.int kd))) (hk : k < n) :
    ∃ ad, A = some ad ∧ ad.block < B ∧ w.cell? (ad.add k) = some (.int kd (at0 xs k)) := by
  obtain ⟨ad, u, rfl, hb, hx, hc⟩ := h.at_ hk
  refine ⟨ad, rfl, hb, ?_⟩
  have hl : xs.length = n := by have := h.1; simpa using this
  rw [hc]
  simp [List.getElem?_eq_getElem (show k < xs.length by omega)] at hx
  simp [at0, List.getD, List.getElem?_eq_getElem (show k < xs.length by omega), hx]
theorem Reads.take {w : World} {B n size : Nat} {A : Option Addr} {xs : List Value} (h : Reads w B size A n xs) {k : Nat} (hk : k ≤ n) : Reads w B size A k (xs.take (k * size)) := by
  have hks : k * size ≤ n * size := Nat.mul_le_mul_right _ hk
  refine ⟨by rw [List.length_take, h.1]; omega, fun h0 => ?_⟩
  obtain ⟨ad, rfl, hb, hc⟩ := h.2 (by omega)
  refine ⟨ad, rfl, hb, fun j u hu => hc j u ?_⟩
  rw [List.getElem?_take] at hu
  split at hu
  · exact hu
  · cases hu
theorem Reads.take1 {w : World} {B n : Nat} {A : Option Addr} {kd : IntKind} {xs : List Int} (h : Reads w B 1 A n (xs.map (Value.int kd))) {k : Nat} (hk : k ≤ n) : Reads w B 1 A k ((xs.take k).map (Value.int kd)) := by
  have := h.take hk
  rwa [Nat.mul_one, ← List.map_take] at this
theorem ints_one (kd : IntKind) (xs : List Int) : ∀ u ∈ xs.map (Value.int kd), u.oneCell' = true := by
  intro u hu
  obtain ⟨x, _, rfl⟩ := List.mem_map.1 hu
  rfl
section
variable {P : Program}
theorem own_ge {w : World} {base size n : Nat} {e : TypeId} {v : Value} {xs : List Value} (h : w.ownsRow base e size v n xs) : ∀ k, v.ownBlock = some k → base ≤ k := by
  intro k hk
  rcases h.2 with ⟨rfl, _⟩ | ⟨g, cap, cur, rfl, hg, _⟩
  · simp [Value.ownBlock] at hk
  · simp [Value.ownBlock] at hk; omega
theorem own_below {a w w' : World} {base B size n : Nat} {e : TypeId} {v : Value} {xs : List Value} (h : w.ownsRow base e size v n xs) (hb : Below B a w) (hBb : B ≤ base) (hB : B ≤ a.heap.size) (hg : w.grownBy w' v.ownBlock) : Below B a w' :=
  hb.grown hg (Nat.le_trans hB hb.size) (fun k hk => Nat.le_trans hBb (own_ge h k hk))
theorem own_none (w : World) (base size : Nat) (e : TypeId) : w.ownsRow base e size (.slice none 0 0) 0 [] := ⟨by simp, .inl ⟨rfl, rfl⟩⟩
/-- An append of a source that reads as a list to a row of the call's own; below B nothing turns. -/
theorem wpList_app {ops : Array Oper} {rest : List Oper} {o : Oper} {a : Act} {Q : Exit → Act → World → Prop} {w : World} (hgd : o.guard = none) (s x : Operand) (t : TypeId)
    (ho : o.op = .call { callee := .builtin .append, args := #[s, x], argTypes := #[t, t] })
    (base : Nat) (e : TypeId) (i : TypeInfo) (z : Value) (size bytes : Nat) (ht : P.underlying t = some (.slice e)) (hi : P.info? e = some i) (hz : i.zero = some z)
    (hsize : i.size = size) (hby : i.bytes = bytes) (hzs : z.cells.size = size) (hsz : 0 < size)
    (v : Value) (n : Nat) (xs : List Value) (hs : a.eval s = v) (hown : w.ownsRow base e size v n xs)
    (B : Nat) (A : Option Addr) (m c : Nat) (news : List Value) (hx : a.eval x = .slice A m c) (hr : Reads w B size A m news) (h1 : ∀ u ∈ news, u.oneCell' = true)
    (h63 : n + m ≤ maxLen) (hbytes : (n + m) * bytes ≤ 140737488355328) (w0 : World) (hb : Below base w0 w) (hbase : base ≤ w0.heap.size)
    (h : ∀ v' w', w'.ownsRow base e size v' (n + m) (xs ++ news) → Below base w0 w' → wpList P ops Q rest (a.put o.dst v') w') : wpList P ops Q (o :: rest) a w :=
  wpList_append_any w hgd s x t ho base e i z size bytes ht hi hz hsize hby hzs hsz v n xs hs hown B A m c news hx hr h1 h63 hbytes (Nat.le_trans hbase hb.size)
    fun v' w' h2 hg _ => h v' w' h2 (own_below hown hb (Nat.le_refl _) hbase hg)
/-- What the call owns, as a slice that is read from now on. -/
theorem own_reads {w : World} {base e : Nat} {size n : Nat} {v : Value} {xs : List Value} (h : w.ownsRow base e size v n xs) : ∃ A c, v = .slice A n c ∧ n ≤ c ∧ Reads w w.heap.size size A n xs := by
  rcases h.2 with ⟨rfl, hn⟩ | ⟨g, cap, cur, rfl, hg, hh, hnc, r⟩
  · subst hn
    have hx : xs = [] := List.eq_nil_of_length_eq_zero (by simpa using h.1)
    subst hx
    exact ⟨none, 0, rfl, Nat.le_refl _, Reads.none_⟩
  · exact ⟨_, _, rfl, hnc, Reads.of_own h⟩
end
theorem madeCells_rep (z : Value) (m : Nat) : (madeCells #[z] m).toList = List.replicate m z := by
  refine List.eq_replicate_iff.2 ⟨by simp [madeCells], fun b hb => ?_⟩
  simp [madeCells, Nat.mod_one] at hb
  exact hb.2.symm
theorem own_mono {w : World} {base base' size n : Nat} {e : TypeId} {v : Value} {xs : List Value} (h : w.ownsRow base e size v n xs) (hb : base' ≤ base) : w.ownsRow base' e size v n xs := by
  refine ⟨h.1, ?_⟩
  rcases h.2 with h2 | ⟨g, cap, cur, hv, hg, r⟩
  · exact .inl h2
  · exact .inr ⟨g, cap, cur, hv, Nat.le_trans hb hg, r⟩
theorem outs_set (l : List Int) (k m : Nat) (hk : k < m) (hl : l.length = m) : (l.take k ++ List.replicate (m - k) 0).set k (at0 l k) = l.take (k + 1) ++ List.replicate (m - (k + 1)) 0 := by
  have e : m - k = (m - (k + 1)) + 1 := by omega
  have hlen : (l.take k).length = k := by simp; omega
  rw [e, List.replicate_succ, List.set_append_right _ _ (by omega), hlen, Nat.sub_self, List.set_cons_zero, List.take_succ_eq_append_getElem (by omega), at0_of l k (by omega), List.append_assoc]
  rfl
/-- A string out of bytes. -/
def bytesStr (l : List UInt8) : ByteArray := ⟨l.toArray⟩
def byteNums (l : List UInt8) : List Int := l.map fun c => (c.toNat : Int)
theorem strOfNums_byteNums (l : List UInt8) : strOfNums (byteNums l) = bytesStr l := by
  unfold strOfNums byteNums bytesStr
  congr 2
  rw [List.map_map]
  conv => rhs; rw [← List.map_id l]
  apply List.map_congr_left
  intro c _
  simp
theorem bytesStr_data (l : List UInt8) : (bytesStr l).data.toList = l := rfl
theorem bytesStr_toList (s : ByteArray) : bytesStr s.data.toList = s := by
  show ByteArray.mk s.data.toList.toArray = s
  rw [Array.toArray_toList]
theorem bytesStr_size (l : List UInt8) : (bytesStr l).size = l.length := by simp [bytesStr, ByteArray.size]
theorem bytesStr_append (l m : List UInt8) : bytesStr (l ++ m) = bytesStr l ++ bytesStr m := by
  unfold bytesStr; rw [ByteArray.mk_append_mk]
theorem append_toList (s t : ByteArray) : (s ++ t).data.toList = s.data.toList ++ t.data.toList := by simp
theorem size_eq (s : ByteArray) : s.data.toList.length = s.size := by rw [Array.length_toList]; rfl
theorem run_convert_reads {P : Program} (src dst e : TypeId) (hs : P.underlying src = some (.slice e)) (he : P.underlying e = some (.int .u8)) (hd : P.underlying dst = some .string)
    {w : World} {B n c : Nat} {A : Option Addr} {l : List UInt8} (h : Reads w B 1 A n ((byteNums l).map (Value.int .u8))) :
    (convert src dst (.slice A n c)).run P w = .ok (.string (bytesStr l)) w := by
  have hl : l.length = n := by have := h.1; simpa [byteNums] using this
  rcases A with _ | ad
  · have hn : n = 0 := by
      rcases Nat.eq_zero_or_pos n with h0 | h0
      · exact h0
      · obtain ⟨_, h1, _⟩ := h.2 h0; cases h1
    subst hn
    have hl0 : l = [] := List.eq_nil_of_length_eq_zero hl
    subst hl0
    rw [run_convert_bytes_nil w src e hs he _ c dst hd]
    rfl
  · have hload : (loadCells ad n).run P w = .ok ((byteNums l).map (Value.int .u8)).toArray w := by
      have := run_loadCells_list (P := P) w ad ((byteNums l).map (Value.int .u8)) (fun j v hj => by
        obtain ⟨ad', e1, _, hc⟩ := h.2 (by
          rcases Nat.eq_zero_or_pos n with h0 | h0
          · subst h0
            have hl0 : l = [] := List.eq_nil_of_length_eq_zero hl
            subst hl0
            simp [byteNums] at hj
          · exact h0)
        injection e1 with e1
        subst e1
        exact hc j v hj)
      simpa [byteNums, hl] using this
    rw [run_convert_bytes_string w src dst e _ n c hs he hd, run_bytesToString w _ n c (byteNums l) hload, foldl_push_bytes]
    rw [← strOfNums_byteNums]
    simp [strOfNums, ByteArray.empty, ByteArray.emptyWithCapacity]
    rfl
theorem Reads.lit1 (w : World) (e : TypeId) (v : Value) : Reads (w.alloc (.cells #[v] e)) (w.heap.size + 1) 1 (some ⟨w.heap.size, 0, none⟩) 1 [v] := by
  refine ⟨rfl, fun _ => ⟨_, rfl, by simp, fun j u hj => ?_⟩⟩
  cases j with
  | zero => simp at hj; subst hj; exact (Blk.new w e #[v]).cell 0
  | succ j => simp at hj
theorem below_then {B : Nat} {a b c : World} (h : Below B a b) (hB : B ≤ a.heap.size) (k : Below b.heap.size b c) : Below B a c := h.trans (k.mono (Nat.le_trans hB h.size))
theorem below_on {a b c : World} (h : Below a.heap.size a b) (k : Below b.heap.size b c) : Below a.heap.size a c := below_then h (Nat.le_refl _) k
theorem box_cell {w w1 : World} {cs : Array Value} {t : TypeId} {B : Nat} (hb : Below B (w.alloc (.cells cs t)) w1) (hB : w.heap.size < B) (j : Nat) : w1.cell? ⟨w.heap.size, j, none⟩ = cs[j]? :=
  (hb.cell (p := ⟨w.heap.size, j, none⟩) hB).trans ((Blk.new w t cs).cell j)
theorem own_far {w : World} {base size n : Nat} {e : TypeId} {v : Value} {xs : List Value} (h : w.ownsRow base e size v n xs) {p : Addr} (hne : v.ownBlock ≠ some p.block) (u : Value) : (w.setCell p u).ownsRow base e size v n xs :=
  h.kept (row := some p.block) ⟨rfl, rfl, rfl, by simp [World.setCell], fun k _ hk => Below.heap_setCell _ _ _ _ (fun e => hk (by rw [e]))⟩ (.inr hne)
theorem own_keep {w w' : World} {base B size n : Nat} {e : TypeId} {v : Value} {xs : List Value} (h : w.ownsRow base e size v n xs) (hb : Below B w w') (hB : ∀ k, v.ownBlock = some k → k < B) : w'.ownsRow base e size v n xs := by
  refine ⟨h.1, ?_⟩
  rcases h.2 with h2 | ⟨g, cap, cur, rfl, hg, hh, r⟩
  · exact .inl h2
  · exact .inr ⟨g, cap, cur, rfl, hg, (hb.block g (hB g rfl)).trans hh, r⟩
theorem own_lt {w : World} {base size n : Nat} {e : TypeId} {v : Value} {xs : List Value} (h : w.ownsRow base e size v n xs) : ∀ k, v.ownBlock = some k → k < w.heap.size := fun k hk => (h.lt k hk).2
theorem Reads.lit (w : World) (e : TypeId) (cs : Array Value) (size n : Nat) (hs : cs.size = n * size) : Reads (w.alloc (.cells cs e)) (w.heap.size + 1) size (some ⟨w.heap.size, 0, none⟩) n cs.toList := by
  refine ⟨by simpa using hs, fun _ => ⟨_, rfl, by simp, fun j u hj => ?_⟩⟩
  have := (Blk.new w e cs).cell j
  rw [show (⟨w.heap.size, 0, none⟩ : Addr).add j = ⟨w.heap.size, j, none⟩ by unfold Addr.add; split <;> simp_all]
  rw [this, ← hj]; simp
@[go_sem high] theorem run_min_ints4 {P : Program} (w : World) (ts : Array TypeId) (t : TypeId) (k k2 k3 k4 : IntKind) (x y z u : Int) :
    (Builtin.min_ ts t #[.int k x, .int k2 y, .int k3 z, .int k4 u]).run P w = .ok (.int k (min x (min y (min z u)))) w := by
  rw [show min x (min y (min z u)) = min (min (min x y) z) u by omega]
  have e : ∀ a b : Int, (if b < a then b else a) = min a b := fun a b => by
    rw [Int.min_def]
    split <;> split <;> omega
  simp [Builtin.min_, Builtin.min2, e]
theorem ret_int {k : IntKind} {a b : Int} (h : a = b) : Ending.returned (.int k a) = .returned (.int k b) := by rw [h]
theorem ret_sb {s s' : ByteArray} {b b' : Bool} (h : s = s') (h2 : b = b') : Ending.returned (.tuple #[.string s, .bool b]) = .returned (.tuple #[.string s', .bool b']) := by rw [h, h2]
theorem ret_iib {k k' : IntKind} {a a' b b' : Int} {c c' : Bool} (h : a = a') (h2 : b = b') (h3 : c = c') : Ending.returned (.tuple #[.int k a, .int k' b, .bool c]) = .returned (.tuple #[.int k a', .int k' b', .bool c']) := by rw [h, h2, h3]
theorem ret_ii {k k' : IntKind} {a a' b b' : Int} (h : a = a') (h2 : b = b') : Ending.returned (.tuple #[.int k a, .int k' b]) = .returned (.tuple #[.int k a', .int k' b']) := by rw [h, h2]
theorem ret_bool {a b : Bool} (h : a = b) : Ending.returned (.bool a) = .returned (.bool b) := by rw [h]
theorem hide {p : Prop} (h : p) : Hid p := h
theorem unhide {p : Prop} (h : Hid p) : p := h

theorem quiet_add {P : Program} {f : FuncId} {args : Array Value} {w : World} {a n : Nat} {v : Value}
    (h : Calls P f args (w.drewN (a + n)) fun e w' => e = .returned v ∧ ∃ m, w' = (w.drewN (a + n)).drewN m) :
    Calls P f args (w.drewN (a + n)) fun e w'' => e = .returned v ∧ ∃ m, w'' = w.drewN (a + m) :=
  h.mono fun _ _ ⟨he, m, hm⟩ => ⟨he, n + m, by rw [hm, World.drewN_drewN, Nat.add_assoc]⟩
theorem quiet_add_same {P : Program} {f : FuncId} {args : Array Value} {w : World} {a n : Nat} {v : Value}
    (h : Calls P f args (w.drewN (a + n)) fun e w' => e = .returned v ∧ w' = w.drewN (a + n)) :
    Calls P f args (w.drewN (a + n)) fun e w'' => e = .returned v ∧ ∃ m, w'' = w.drewN (a + m) :=
  h.mono fun _ _ ⟨he, hm⟩ => ⟨he, n, hm⟩
theorem quiet_add_left {P : Program} {f : FuncId} {args : Array Value} {w : World} {a n : Nat} {v : Value}
    (h : Calls P f args (w.drewN (a + n)) fun e w' => e = .returned v ∧ w.drewN (a + n) = w') :
    Calls P f args (w.drewN (a + n)) fun e w'' => e = .returned v ∧ ∃ m, w'' = w.drewN (a + m) :=
  h.mono fun _ _ ⟨he, hm⟩ => ⟨he, n, hm.symm⟩
theorem quiet_left {P : Program} {f : FuncId} {args : Array Value} {w : World} {n : Nat} {v : Value}
    (h : Calls P f args (w.drewN n) fun e w' => e = .returned v ∧ w.drewN n = w') : Calls P f args (w.drewN n) fun e w'' => e = .returned v ∧ ∃ m, w'' = w.drewN m :=
  h.mono fun _ _ ⟨he, hm⟩ => ⟨he, n, hm.symm⟩

theorem results_tmp4 {fn : Func} {t u v x : Tmp} (h : fn.results = #[.tmp t, .tmp u, .tmp v, .tmp x]) (tmps : Array Value) (P : Program) (w : World) :
    (results fn tmps).run P w = .ok (.tuple #[tmps.getD t undef, tmps.getD u undef, tmps.getD v undef, tmps.getD x undef]) w := by simp [results, h]
theorem results_tmp5 {fn : Func} {t u v x y : Tmp} (h : fn.results = #[.tmp t, .tmp u, .tmp v, .tmp x, .tmp y]) (tmps : Array Value) (P : Program) (w : World) :
    (results fn tmps).run P w = .ok (.tuple #[tmps.getD t undef, tmps.getD u undef, tmps.getD v undef, tmps.getD x undef, tmps.getD y undef]) w := by simp [results, h]

theorem below_drewN {B : Nat} {a w : World} (h : Below B a w) (n : Nat) : Below B a (w.drewN n) := ⟨h.os, h.tape, h.output, h.size, h.block⟩
theorem rowIs_drewN {w : World} {b : Nat} {t : TypeId} {n : Nat} {f : Nat → Value} (h : w.rowIs b t n f) (k : Nat) : (w.drewN k).rowIs b t n f := h
theorem grown_trans {a b c : World} (h : Grown a b) (k : Grown b c) : Grown a c :=
  ⟨World.keptBut_trans h.1 k.1, fun x => (k.2.1 x).trans (h.2.1 x), Nat.le_trans h.2.2 k.2.2⟩

theorem only_drewN {a w : World} {row : Option Nat} (h : a.grownBy w row) (n : Nat) : a.grownBy (w.drewN n) row := ⟨h.os, h.tape, h.output, h.size, h.block⟩
theorem only_drew {a w : World} {row : Option Nat} (h : a.grownBy w row) : a.grownBy w.drew row := ⟨h.os, h.tape, h.output, h.size, h.block⟩
theorem only_alloc {a w : World} {row : Option Nat} (h : a.grownBy w row) (o : Obj) : a.grownBy (w.alloc o) row :=
  ⟨h.os, h.tape, h.output, Nat.le_trans h.size (by simp), fun i hi hne => (Below.heap_alloc w o i (Nat.lt_of_lt_of_le hi h.size)).trans (h.block i hi hne)⟩
theorem only_setCell {a w : World} {g : Nat} (h : a.grownBy w (some g)) {p : Addr} (hp : p.block = g ∨ a.heap.size ≤ p.block) (u : Value) : a.grownBy (w.setCell p u) (some g) :=
  ⟨h.os, h.tape, h.output, by simpa [World.setCell] using h.size, fun i hi hne => (Below.heap_setCell w p u i (by
    rintro rfl
    rcases hp with hp | hp
    · exact hne (by rw [hp])
    · omega)).trans (h.block i hi hne)⟩
theorem only_of_below {a w : World} (h : Below a.heap.size a w) (row : Option Nat) : a.grownBy w row := ⟨h.os, h.tape, h.output, h.size, fun i hi _ => h.block i hi⟩

theorem run_make_rowN {P : Program} (t e : TypeId) (i : TypeInfo) (z : Value) (ht : P.underlying t = some (.slice e)) (hi : P.info? e = some i) (hz : i.zero = some z)
    (kl kc : IntKind) (n c : Nat) (hnc : n ≤ c) (hbytes : i.bytes * c ≤ 281474976710656) (h63 : c ≤ 9223372036854775807) (w : World) :
    (Instr.makeSlice t (.int kl (n : Int)) (.int kc (c : Int))).run P w = .ok (.slice (some ⟨w.heap.size, 0, none⟩) n c) (w.alloc (.cells (madeCells z.cells (c * i.size)) e)) := by
  have hb : (i.bytes : Int) * (c : Int) ≤ 281474976710656 := by
    have h : ((i.bytes * c : Nat) : Int) ≤ 281474976710656 := by omega
    rwa [Int.natCast_mul] at h
  have hr := run_make (P := P) w t e i z ht hi hz kl kc n c (by omega) (by omega) hb (by omega)
  simp only [Int.toNat_natCast] at hr
  exact hr
theorem run_makeMap_hint {P : Program} (t k e : TypeId) (kd : IntKind) (n : Int) (ht : P.underlying t = some (.map k e)) (w : World) :
    (Instr.makeMap t (some (.int kd n))).run P w = .ok (.map (some w.heap.size)) (w.alloc (.map #[] 0)) := by
  simp [Instr.makeMap, run_underlying ht]; rfl

section
variable {H : Type} {enc : TypeId × Value → H} {P : Program}
theorem post_of_below {f : Func} {s : ChangeSpec} {apart fresh handsOn again : Bool} {W W' : World} {args : Array Value} {v : Value} {ds gs : List (DataW H)} {before pa pv : List MemPlace}
    (hW : DataW.Whole enc P f.params.toList s.vars apart W args.toList ds gs before)
    (hres : ∀ (b : Nat) (sp : Nat → Bool) (hd : Bool), DataW.TrodAll enc P W' b sp hd f.resultTypes.toList (v.resultList f.resultTypes.size) (s.fn H (ds ++ gs)).results [])
    (hargs : ∀ sp : Nat → Bool, (∀ p ∈ before, sp p.block = true) → DataW.TrodAll enc P W' 0 sp true f.params.toList args.toList (s.fn H (ds ++ gs)).args pa)
    (hvars : ∀ sp : Nat → Bool, (∀ p ∈ before, sp p.block = true) → DataW.TrodVars enc P W' sp s.vars (s.fn H (ds ++ gs)).vars pv)
    (hps : before = pa ++ pv) (hb : Below W.heap.size W W')
    (hok : ∀ (j : Nat) (t : TypeId) (r : Value), f.resultTypes[j]? = some t → (v.resultList f.resultTypes.size)[j]? = some r → Value.okWide P W' .any 0 t r) :
    s.post enc P f apart fresh handsOn again W args v W' := by
  have hlt : ∀ p ∈ before, p.block < W.heap.size := fun p hp => hW.lt p hp
  have hold : ∀ p ∈ before, (fun b => decide (b < W.heap.size)) p.block = true := fun p hp => by simpa using hlt p hp
  refine ⟨ds, gs, before, [], pa, pv, hW, hres _ _ _, hargs _ hold, hvars _ hold, World.keptBut_mono (fun p hp => ⟨hp, ?_⟩) (hb.frame (· ∈ before)), fun _ => ?_⟩
  · rw [hps, List.mem_append] at hp
    exact Or.inr hp
  · obtain ⟨_, _, _, _, _, hz, hn⟩ := hW
    refine ⟨hok, _, _, ([] ++ pa) ++ pv, ⟨[] ++ pa, pv, trodAll_append (hargs _ (fun _ _ => rfl)) (hres _ _ _), hvars _ (fun _ _ => rfl), rfl, ?_, ?_⟩, ?_⟩
    · intro b off hp
      have hin : MemPlace.cell b off ∈ before := by rw [hps]; simpa using hp
      rw [hb.frozen (hlt _ hin)]
      exact hz b off hin
    · intro ha
      have := hn ha
      rw [hps] at this
      simpa using this
    · intro p hp _
      rw [hps]
      simpa using hp
end

section
variable {H : Type} {enc : TypeId × Value → H} {P : Program} {w : World} {base : Nat} {spare : Nat → Bool} {held : Bool}
theorem open_slice_fields {t e : TypeId} {fs : Array Field} {fuel : Nat} {cs : List Value} {x : DataW H × List MemPlace} (ht : P.underlying t = some (.slice e)) (he : P.underlying e = some (.struct fs))
    (hone : oneCellFields P fs = true) (hC : P.cellsOf e = fs.size) (h : DataW.trod enc P w base spare held fuel t cs = some x) :
    (cs = [.slice none 0 0] ∧ x = (.nil, [])) ∨
    ∃ (a : Addr) (len cap m : Nat) (D : Nat → DataW H) (Pl : Nat → List MemPlace), cs = [.slice (some a) len cap] ∧ base ≤ a.block ∧ len ≤ cap ∧ cap ≤ maxLen ∧ m = (if spare a.block then cap else len) ∧
      x = (.slice ((List.range len).map D) ((List.range (m - len)).map fun j => D (len + j)), MemPlace.row a (m * fs.size) ++ (List.range m).flatMap Pl) ∧
      ∀ i, i < m → ∃ (ys : List (DataW H × List MemPlace)) (n : Nat), D i = .agg (ys.map (·.1)) ∧ Pl i = ys.flatMap (·.2) ∧ ys.length = fs.size ∧
        ∀ (j : Nat) (f : Field), fs[j]? = some f → ∃ (v : Value) (y : DataW H × List MemPlace), w.cell? (a.add (i * fs.size + j)) = some v ∧ ys[j]? = some y ∧ DataW.trod enc P w base spare held n f.type [v] = some y := by
  rcases open_slice ht h with h0 | ⟨a, len, cap, m, n, D, Pl, hcs, hb, hl, hm, hmm, hx, hi⟩
  · exact .inl h0
  · refine .inr ⟨a, len, cap, m, D, Pl, hcs, hb, hl, hm, hmm, by rw [hC] at hx; exact hx, fun i him => ?_⟩
    obtain ⟨cs', hc, ht'⟩ := hi i him
    rw [hC] at hc
    obtain ⟨ys, n', hn', hy, hlen, hyl, hf⟩ := DataW.trod_struct he ht'
    obtain ⟨_, hcl, hat⟩ := World.cells?_some hc
    simp only [Prod.mk.injEq] at hy
    refine ⟨ys, n', hy.1, hy.2, hyl, fun j f hj => ?_⟩
    obtain ⟨ho, hk⟩ := hone_of hone j f hj
    have hjl : j < fs.size := (Array.getElem?_eq_some_iff.1 hj).1
    have hcell := hat j hjl
    have hv : cs'[j]? = some (cs'[j]'(by omega)) := List.getElem?_eq_getElem (by omega)
    have h1 := hf j f hj
    rw [ho, hk] at h1
    have hone' : (cs'.drop j).take 1 = [cs'[j]'(by omega)] := by
      rw [List.drop_eq_getElem_cons (by omega)]
      rfl
    rw [hone'] at h1
    have hys : ys[j]? = some (ys[j]'(by omega)) := List.getElem?_eq_getElem (by omega)
    refine ⟨_, _, ?_, hys, h1.trans hys⟩
    rw [← Go.Deep.add_add, hcell, hv]
end

end Go.Proofs.Ytadlabndbomgmaa
/- Walks of the package fix: what Cut, floor, Part return. -/
namespace Go.Proofs.Ytadlabndbomgmaa
open Go.ChangeShapes Go.WideShapes Go.ChangeAt Go.RowKit
theorem cut_any (n : Int) (w : World) : Calls Try.prog 28 #[.int .i64 n] w fun e w' => e = .returned (.int .i64 (cut n)) ∧ w = w' := by
  go_enter Try.func28, Try.ntmps28
  go_wp2
  go_ret
  exact ⟨rfl, rfl⟩
theorem floor_any (n d : Int) (w : World) (h1 : -9223372036854775808 < n) (h2 : n ≤ 9223372036854775807) (hd : 1 ≤ d) (hd' : d ≤ 9223372036854775807) : Calls Try.prog 70 #[.int .i64 n, .int .i64 d] w fun e w' => e = .returned (.int .i64 (n / d)) ∧ w = w' := by
  have hdd : decide (d < 0) = false := by simp; omega
  by_cases hn : 0 ≤ n
  · have hnn : decide (n < 0) = false := by simp; omega
    go_enter Try.func70, Try.ntmps70
    go_wp2_with fail
    all_goals (go_ret; exact ⟨rfl, rfl⟩)
  · have hnn : decide (n < 0) = true := by simp; omega
    have hb := tdiv_bd hd h1 h2
    by_cases hm : n.tmod d = 0
    · have e := tdiv_exact hd hm
      have E := Lib.hid e
      have hm1 : (n.tmod d != 0) = false := by simp [hm]
      clear e hm
      go_enter Try.func70, Try.ntmps70
      go_wp2_with fail
      all_goals (go_ret; exact ⟨ret_int E.out, rfl⟩)
    · have e := tdiv_down hd (by omega) hm
      have hm1 : (n.tmod d != 0) = true := by simp [hm]
      have hb1 : -9223372036854775808 ≤ n.tdiv d - 1 := by omega
      have hb2 : n.tdiv d - 1 ≤ 9223372036854775807 := by omega
      have E := Lib.hid e
      clear e hm
      go_enter Try.func70, Try.ntmps70
      go_wp2_with fail
      all_goals (go_ret; exact ⟨ret_int E.out, rfl⟩)
theorem part_any (n up down : Int) (w : World) (hd : 1 ≤ down) : Calls Try.prog 27 #[.int .i64 n, .int .i64 up, .int .i64 down] w fun e w' => e = .returned (.int .i64 (partOf n up down)) ∧ w = w' := by
  have hb := cut_mul_bound n up
  have hc : 1 ≤ cut down := by unfold cut; omega
  have hc' := cut_hi down
  have e0 : cut n * cut up / cut down = cut n * cut up / cut down := rfl
  go_enter Try.func27, Try.ntmps27
  go_wp2_with (first | (go_at_call 28; refine (cut_any _ _).mono ?_; rintro e w' ⟨rfl, rfl⟩) | (go_at_call 70; refine (floor_any _ _ _ (by omega) (by omega) (by omega) (by omega)).mono ?_; rintro e w' ⟨rfl, rfl⟩))
  all_goals (go_ret)
  exact ⟨rfl, rfl⟩

theorem int_info : (Try.prog.info? 3).map (fun i => (i.zero, i.size, i.bytes)) = some (some (.int .i64 0), 1, 8) := by kernel_rfl
end Go.Proofs.Ytadlabndbomgmaa
/- Walks of the package floats. -/
namespace Go.Proofs.Ytadlabndbomgmaa
open Go.ChangeShapes Go.WideShapes Go.ChangeAt Go.RowKit
/-- The floats behind a pointer: block b is the struct, its slice a row of the call's own. -/
def FloatsAt (w : World) (B b : Nat) (width : Int) (fs : List Fl) : Prop :=
  ∃ A c, Blk w b 118 #[.int .i64 width, .slice A fs.length c] ∧ B ≤ b ∧ w.ownsRow B 120 5 (.slice A fs.length c) fs.length (flCells fs)
theorem FloatsAt.mk' {w : World} {B b n c : Nat} {A : Option Addr} {width : Int} {fs : List Fl} (h1 : Blk w b 118 #[.int .i64 width, .slice A n c]) (h2 : B ≤ b) (h3 : w.ownsRow B 120 5 (.slice A n c) n (flCells fs)) (hn : fs.length = n) : FloatsAt w B b width fs := by
  subst hn; exact ⟨A, c, h1, h2, h3⟩
theorem FloatsAt.below {w w' : World} {B b : Nat} {width : Int} {fs : List Fl} (h : FloatsAt w B b width fs) (hb : Below w.heap.size w w') : FloatsAt w' B b width fs := by
  obtain ⟨A, c, h1, h2, h3⟩ := h
  exact ⟨A, c, h1.below hb h1.lt, h2, own_keep h3 hb (own_lt h3)⟩
theorem floatCell {w : World} {B : Nat} {A : Option Addr} {c : Nat} {fs : List Fl} (h : w.ownsRow B 120 5 (.slice A fs.length c) fs.length (flCells fs)) {k : Nat} (hk : k < fs.length) :
    ∃ g, A = some ⟨g, 0, none⟩ ∧ B ≤ g ∧ g < w.heap.size ∧ w.cell? ⟨g, k * 5, none⟩ = some (.int .i64 fs[k].x) ∧ w.cell? ⟨g, k * 5 + 1, none⟩ = some (.int .i64 fs[k].y) ∧ w.cell? ⟨g, k * 5 + 2, none⟩ = some (.int .i64 fs[k].w) ∧ w.cell? ⟨g, k * 5 + 3, none⟩ = some (.int .i64 fs[k].h) ∧ w.cell? ⟨g, k * 5 + 4, none⟩ = some (.int .i64 fs[k].side) := by
  obtain ⟨g, cap, hv, hg, hlt⟩ := h.form (by omega)
  injection hv with hA _ _
  subst hA
  have hc : ∀ j, j < 5 → w.cell? ⟨g, k * 5 + j, none⟩ = fs[k].cells[j]? := fun j hj => by
    rw [h.cellAt _ (by omega), flCells_at fs k hk j hj]
  exact ⟨g, rfl, hg, hlt, hc 0 (by omega), hc 1 (by omega), hc 2 (by omega), hc 3 (by omega), hc 4 (by omega)⟩
set_option maxRecDepth 100000 in
theorem next_any (b : Nat) (B : Nat) (y width : Int) (fs : List Fl) (w : World) (hf : FloatsAt w B b width fs) (hn : fs.length ≤ 200) (hy : -16777216 ≤ y) (hy' : y ≤ 1000000000000) (hok : ∀ f ∈ fs, -16777216 ≤ f.y + f.h ∧ f.y + f.h ≤ 1000000000000) :
    Calls Try.prog 76 #[.pointer (some ⟨b, 0, none⟩), .int .i64 y] w fun e w' => e = .returned (.int .i64 (nextF y fs)) ∧ Below w.heap.size w w' := by
  obtain ⟨A, c, hb, hB, hown⟩ := hf
  have c0 : w.cell? ⟨b, 0, none⟩ = some (.int .i64 width) := hb.cell 0
  have c1 : w.cell? ⟨b, 1, none⟩ = some (.slice A fs.length c) := hb.cell 1
  have Hown := hide hown
  have Hok := hide hok
  clear hown hok
  go_enter Try.func76, Try.ntmps76
  go_wp2_with fail
  go_loopw [5, 7, 8, 14] (fun l p x i wr => ∃ k : Nat, k ≤ fs.length ∧ i = .int .i64 k ∧ l = .int .i64 (leastF y (fs.take k)) ∧ Below w.heap.size w wr) (fun _ _ _ i _ => fs.length - (intOf i).toNat)
  case atStart => exact ⟨0, Nat.zero_le _, rfl, rfl, Below.refl _ _⟩
  case round =>
    obtain ⟨k, hk, rfl, rfl, hbel⟩ := hrel
    by_cases hlt : k < fs.length
    · obtain ⟨g, rfl, _, hg, f0, f1, f2, f3, f4⟩ := floatCell Hown.out hlt
      have d0 := (hbel.cell (p := ⟨g, k * 5, none⟩) hg).trans f0
      have d1 := (hbel.cell (p := ⟨g, k * 5 + 1, none⟩) hg).trans f1
      have d2 := (hbel.cell (p := ⟨g, k * 5 + 2, none⟩) hg).trans f2
      have d3 := (hbel.cell (p := ⟨g, k * 5 + 3, none⟩) hg).trans f3
      have d4 := (hbel.cell (p := ⟨g, k * 5 + 4, none⟩) hg).trans f4
      have e1 := hide (leastF_take y fs k hlt)
      have ho := Hok.out fs[k] (List.getElem_mem hlt)
      generalize fs[k] = f at *
      obtain ⟨fx, fy, fw, fh, fsd⟩ := f
      clear f0 f1 f2 f3 f4
      dsimp only at d0 d1 d2 d3 d4 ho
      generalize leastF y (fs.take k) = l at *
      by_cases h1 : y < fy + fh
      · by_cases h2 : l < 0 ∨ fy + fh < l
        · have e2 := hide (show leastF y (fs.take (k + 1)) = fy + fh from by rw [e1.out]; unfold lstep; rw [if_pos ⟨h1, h2⟩])
          by_cases h3 : l < 0
          · have d2 := decide_eq_true h3
            clear h2
            go_wp2_with fail
            go_roundw
            case rel => exact ⟨k + 1, by omega, by go_num, by rw [e2.out], hbel.alloc hbel.size _⟩
            case measure => simp [intOf]; omega
          · have d2 := decide_eq_false h3
            have h4 : fy + fh < l := by omega
            clear h2
            go_wp2_with fail
            go_roundw
            case rel => exact ⟨k + 1, by omega, by go_num, by rw [e2.out], hbel.alloc hbel.size _⟩
            case measure => simp [intOf]; omega
        · have e2 := hide (show leastF y (fs.take (k + 1)) = l from by rw [e1.out]; unfold lstep; rw [if_neg (fun h => h2 h.2)])
          have h3 : ¬ l < 0 := by omega
          have h4 : ¬ fy + fh < l := by omega
          clear h2
          go_wp2_with fail
          go_roundw
          case rel => exact ⟨k + 1, by omega, by go_num, by rw [e2.out], hbel.alloc hbel.size _⟩
          case measure => simp [intOf]; omega
      · have e2 := hide (show leastF y (fs.take (k + 1)) = l from by rw [e1.out]; unfold lstep; rw [if_neg (fun h => h1 h.1)])
        go_wp2_with fail
        go_roundw
        case rel => exact ⟨k + 1, by omega, by go_num, by rw [e2.out], hbel.alloc hbel.size _⟩
        case measure => simp [intOf]; omega
    · have hk2 : k = fs.length := by omega
      have hfin := hide (show nextF y fs = max (leastF y fs) (y + 1) from rfl)
      subst hk2
      go_wp2
      go_ret
      exact ⟨ret_int (by rw [hfin.out]), hbel⟩
theorem floatMet_any (x y wd h sd Y H : Int) (w : World) (b1 : -4611686018427387904 ≤ y ∧ y ≤ 4611686018427387904) (b2 : 0 ≤ h ∧ h ≤ 16777216) (b3 : -4611686018427387904 ≤ Y ∧ Y ≤ 4611686018427387904) (b4 : H ≤ 16777216) :
    Calls Try.prog 117 #[.agg #[.int .i64 x, .int .i64 y, .int .i64 wd, .int .i64 h, .int .i64 sd], .int .i64 Y, .int .i64 H] w fun e w' => e = .returned (.bool (metF Y H ⟨x, y, wd, h, sd⟩)) ∧ Below w.heap.size w w' := by
  have hm := hide (show metF Y H ⟨x, y, wd, h, sd⟩ = (decide (0 < h) && decide (y < Y + max 1 H) && decide (Y < y + h)) from rfl)
  cases h1 : decide (0 < h) <;> cases h2 : decide (y < Y + max 1 H) <;> cases h3 : decide (Y < y + h)
  all_goals
    have hr := hide (hm.out.trans (by rw [h1, h2, h3]))
    clear hm
    go_enter Try.func117, Try.ntmps117
    go_wp2
    go_ret
    exact ⟨ret_bool (by rw [hr.out]; rfl), (Below.refl _ _).alloc (Nat.le_refl _) _⟩
/-- The bounds under which the walks of the rectangles go. -/
def FlBd (f : Fl) : Prop := (-16777216 ≤ f.x ∧ f.x ≤ 16777216 ∧ 0 ≤ f.w ∧ f.w ≤ 16777216) ∧ (-16777216 ≤ f.y ∧ f.y ≤ 1000000000000) ∧ 0 ≤ f.h ∧ f.h ≤ 16777216
set_option maxRecDepth 100000 in
theorem edges_any (b : Nat) (B : Nat) (y h width : Int) (fs : List Fl) (w : World) (hf : FloatsAt w B b width fs) (hn : fs.length ≤ 200) (hy : -16777216 ≤ y) (hy' : y ≤ 1000000000000) (hh : h ≤ 16777216)
    (hok : ∀ f ∈ fs, FlBd f) :
    Calls Try.prog 75 #[.pointer (some ⟨b, 0, none⟩), .int .i64 y, .int .i64 h] w fun e w' =>
      e = .returned (.tuple #[.int .i64 (edgesF width y h fs).1, .int .i64 (edgesF width y h fs).2.1, .bool (edgesF width y h fs).2.2]) ∧ Below w.heap.size w w' := by
  obtain ⟨A, c, hb, hB, hown⟩ := hf
  have c0 : w.cell? ⟨b, 0, none⟩ = some (.int .i64 width) := hb.cell 0
  have c1 : w.cell? ⟨b, 1, none⟩ = some (.slice A fs.length c) := hb.cell 1
  have Hown := hide hown
  have Hok := hide hok
  clear hown hok
  go_enter Try.func75, Try.ntmps75
  go_wp2_with fail
  go_loopw [6, 7, 8, 10, 20] (fun l r m p i wr => ∃ k : Nat, k ≤ fs.length ∧ i = .int .i64 k ∧ l = .int .i64 (edgesF width y h (fs.take k)).1 ∧ r = .int .i64 (edgesF width y h (fs.take k)).2.1 ∧ m = .bool (edgesF width y h (fs.take k)).2.2 ∧ Below w.heap.size w wr) (fun _ _ _ _ i _ => fs.length - (intOf i).toNat)
  case atStart => exact ⟨0, Nat.zero_le _, rfl, rfl, rfl, rfl, Below.refl _ _⟩
  case round =>
    obtain ⟨k, hk, rfl, rfl, rfl, rfl, hbel⟩ := hrel
    by_cases hlt : k < fs.length
    · obtain ⟨g, rfl, _, hg, f0, f1, f2, f3, f4⟩ := floatCell Hown.out hlt
      have d0 := (hbel.cell (p := ⟨g, k * 5, none⟩) hg).trans f0
      have d1 := (hbel.cell (p := ⟨g, k * 5 + 1, none⟩) hg).trans f1
      have d2 := (hbel.cell (p := ⟨g, k * 5 + 2, none⟩) hg).trans f2
      have d3 := (hbel.cell (p := ⟨g, k * 5 + 3, none⟩) hg).trans f3
      have d4 := (hbel.cell (p := ⟨g, k * 5 + 4, none⟩) hg).trans f4
      have e1 := hide (edgesF_take width y h fs k hlt)
      obtain ⟨⟨o1, o2, o3, o4⟩, ⟨o5, o6⟩, o7, o8⟩ := Hok.out fs[k] (List.getElem_mem hlt)
      generalize fs[k] = f at *
      obtain ⟨fx, fy, fw, fh, fsd⟩ := f
      clear f0 f1 f2 f3 f4
      dsimp only at d0 d1 d2 d3 d4 o1 o2 o3 o4 o5 o6 o7 o8
      generalize edgesF width y h (fs.take k) = s at *
      obtain ⟨l, r, m⟩ := s
      have hsz := hbel.size
      cases hm : metF y h ⟨fx, fy, fw, fh, fsd⟩
      · have e2 := hide (show edgesF width y h (fs.take (k + 1)) = (l, r, m) from by rw [e1.out]; unfold estep; rw [hm]; rfl)
        clear e1
        go_wp2_with (go_at_call 117; refine (floatMet_any _ _ _ _ _ _ _ _ (by omega) (by omega) (by omega) (by omega)).mono ?_; rintro e w1 ⟨rfl, hb1⟩; rw [hm])
        go_roundw
        case rel => exact ⟨k + 1, by omega, by go_num, by rw [e2.out], by rw [e2.out], by rw [e2.out], below_then (hbel.alloc hsz _) (Nat.le_refl _) hb1⟩
        case measure => simp [intOf]; omega
      · cases hs : (fsd == 1)
        · have e2 := hide (show edgesF width y h (fs.take (k + 1)) = (l, min r fx, true) from by rw [e1.out]; unfold estep; rw [hm]; simp only [if_true, hs, Bool.false_eq_true, if_false])
          clear e1
          go_wp2_with (go_at_call 117; refine (floatMet_any _ _ _ _ _ _ _ _ (by omega) (by omega) (by omega) (by omega)).mono ?_; rintro e w1 ⟨rfl, hb1⟩; rw [hm]; have q0 : w1.cell? ⟨wr.heap.size, 0, none⟩ = some (.int .i64 fx) := box_cell hb1 (by simp) 0; have q2 : w1.cell? ⟨wr.heap.size, 2, none⟩ = some (.int .i64 fw) := box_cell hb1 (by simp) 2; have q4 : w1.cell? ⟨wr.heap.size, 4, none⟩ = some (.int .i64 fsd) := box_cell hb1 (by simp) 4)
          go_roundw
          case rel => exact ⟨k + 1, by omega, by go_num, by rw [e2.out], by rw [e2.out], by rw [e2.out], below_then (hbel.alloc hsz _) (Nat.le_refl _) hb1⟩
          case measure => simp [intOf]; omega
        · have e2 := hide (show edgesF width y h (fs.take (k + 1)) = (max l (fx + fw), r, true) from by rw [e1.out]; unfold estep; rw [hm]; simp only [if_true, hs])
          clear e1
          go_wp2_with (go_at_call 117; refine (floatMet_any _ _ _ _ _ _ _ _ (by omega) (by omega) (by omega) (by omega)).mono ?_; rintro e w1 ⟨rfl, hb1⟩; rw [hm]; have q0 : w1.cell? ⟨wr.heap.size, 0, none⟩ = some (.int .i64 fx) := box_cell hb1 (by simp) 0; have q2 : w1.cell? ⟨wr.heap.size, 2, none⟩ = some (.int .i64 fw) := box_cell hb1 (by simp) 2; have q4 : w1.cell? ⟨wr.heap.size, 4, none⟩ = some (.int .i64 fsd) := box_cell hb1 (by simp) 4)
          go_roundw
          case rel => exact ⟨k + 1, by omega, by go_num, by rw [e2.out], by rw [e2.out], by rw [e2.out], below_then (hbel.alloc hsz _) (Nat.le_refl _) hb1⟩
          case measure => simp [intOf]; omega
    · have hk2 : k = fs.length := by omega
      have ht : fs.take k = fs := List.take_of_length_le (by omega)
      rw [ht]
      subst hk2
      clear ht
      generalize hE : edgesF width y h fs = s at *
      obtain ⟨l, r, m⟩ := s
      have E := hide hE
      clear hE
      go_wp2
      go_ret3
      exact ⟨ret_iib (by rw [E.out]) (by rw [E.out]) (by rw [E.out]), hbel⟩
theorem Edges_any (b : Nat) (B : Nat) (y h width : Int) (fs : List Fl) (w : World) (hf : FloatsAt w B b width fs) (hn : fs.length ≤ 200) (hok : ∀ f ∈ fs, FlBd f) :
    Calls Try.prog 39 #[.pointer (some ⟨b, 0, none⟩), .int .i64 y, .int .i64 h] w fun e w' =>
      e = .returned (.tuple #[.int .i64 (edgesF width (cut y) (cut h) fs).1, .int .i64 (edgesF width (cut y) (cut h) fs).2.1]) ∧ Below w.heap.size w w' := by
  have Hok := hide hok
  clear hok
  have b1 := cut_lo y
  have b2 := cut_hi y
  have b3 := cut_hi h
  go_enter Try.func39, Try.ntmps39
  go_wp2_with (first | (go_at_call 28; refine (cut_any _ _).mono ?_; rintro e w' ⟨rfl, rfl⟩) | (go_at_call 75; refine (edges_any b B (cut y) (cut h) width fs _ hf hn (by omega) (by omega) (by omega) Hok.out).mono ?_; rintro e w1 ⟨rfl, hb1⟩))
  go_ret2
  exact ⟨rfl, hb1⟩
theorem fWidth_any (b : Nat) (B : Nat) (width : Int) (fs : List Fl) (w : World) (hf : FloatsAt w B b width fs) :
    Calls Try.prog 38 #[.pointer (some ⟨b, 0, none⟩)] w fun e w' => e = .returned (.int .i64 width) ∧ w = w' := by
  obtain ⟨A, c, hb, hB, hown⟩ := hf
  have c0 : w.cell? ⟨b, 0, none⟩ = some (.int .i64 width) := hb.cell 0
  clear hown
  go_enter Try.func38, Try.ntmps38
  go_wp2
  go_ret
  exact ⟨rfl, rfl⟩
theorem New_any (width : Int) (w : World) :
    Calls Try.prog 34 #[.int .i64 width] w fun e w' => e = .returned (.pointer (some ⟨w.heap.size, 0, none⟩)) ∧ FloatsAt w' w.heap.size w.heap.size (max 0 (cut width)) [] ∧ Below w.heap.size w w' := by
  go_enter Try.func34, Try.ntmps34
  go_wp2_with (go_at_call 28; refine (cut_any _ _).mono ?_; rintro e w' ⟨rfl, rfl⟩)
  go_ret
  exact ⟨rfl, ⟨none, 0, Blk.new w _ _, Nat.le_refl _, own_none _ _ _ _⟩, (Below.refl _ _).alloc (Nat.le_refl _) _⟩
end Go.Proofs.Ytadlabndbomgmaa
/- The walk of floats.Place. -/
namespace Go.Proofs.Ytadlabndbomgmaa
open Go.ChangeShapes Go.WideShapes Go.ChangeAt Go.RowKit
theorem float_info : (Try.prog.info? 120).map (fun i => (i.zero, i.size, i.bytes)) = some (some (.agg #[.int .i64 0, .int .i64 0, .int .i64 0, .int .i64 0, .int .i64 0]), 5, 40) := by kernel_rfl
set_option maxRecDepth 100000 in
set_option maxHeartbeats 1000000 in
theorem Place_any (b B : Nat) (side y wd h width M : Int) (fs : List Fl) (w : World) (hf : FloatsAt w B b width fs) (hB : B ≤ w.heap.size) (hn : fs.length < 200) (hs : side = 1 ∨ side = 2) (h0 : 0 ≤ M) (hM : M ≤ 100000000000) (hy : cut y ≤ M)
    (hw : -16777216 ≤ width ∧ width ≤ 16777216) (hok : ∀ f ∈ fs, FlBd f ∧ f.y + f.h ≤ M) :
    Calls Try.prog 36 #[.pointer (some ⟨b, 0, none⟩), .int .i64 side, .int .i64 y, .int .i64 wd, .int .i64 h] w fun e w' =>
      ∃ x y' : Int, e = .returned (.tuple #[.int .i64 x, .int .i64 y', .int .i64 0]) ∧ FloatsAt w' B b width (fs ++ [⟨x, y', max 0 (cut wd), max 0 (cut h), side⟩]) ∧ Below B w w' ∧
        Placed width fs side (cut y) (max 0 (cut wd)) (max 0 (cut h)) M x y' := by
  have hfd := hide hf
  obtain ⟨A, c, hb, hBb, hown⟩ := hf
  have c0 : w.cell? ⟨b, 0, none⟩ = some (.int .i64 width) := hb.cell 0
  have c1 : w.cell? ⟨b, 1, none⟩ = some (.slice A fs.length c) := hb.cell 1
  have Hown := hide hown
  have Hok := hide hok
  have hs1 : (side != 1 && side != 2) = false := by rcases hs with rfl | rfl <;> decide
  have y1 := cut_lo y
  have y2 := cut_hi y
  have w2 := cut_hi wd
  have h2 := cut_hi h
  clear hown hok
  have hn1 : decide (200 ≤ (fs.length : Int)) = false := decide_eq_false (by omega)
  clear hs1
  have W0 := hide (show 0 ≤ max 0 (cut wd) ∧ max 0 (cut wd) ≤ 16777216 from by omega)
  have H0 := hide (show 0 ≤ max 0 (cut h) ∧ max 0 (cut h) ≤ 16777216 from by omega)
  have hsz0 : b < w.heap.size := hb.lt
  rcases hs with rfl | rfl
  all_goals
    go_enter Try.func36, Try.ntmps36
    go_wp2_with (go_at_call 28; refine (cut_any _ _).mono ?_; rintro e w' ⟨rfl, rfl⟩)
    generalize hW : max 0 (cut wd) = W at *
    generalize hH : max 0 (cut h) = H at *
    generalize hY : cut y = Y at *
    have EW := hide hW
    have EH := hide hH
    have EY := hide hY
    clear hW hH hY
    go_loopw [2, 14, 46] (fun l p i wr => ∃ k : Nat, k ≤ fs.length ∧ i = .int .i64 k ∧ l = .int .i64 (topY Y (fs.take k)) ∧ Below w.heap.size w wr) (fun _ _ i _ => fs.length - (intOf i).toNat)
    case atStart => exact ⟨0, Nat.zero_le _, rfl, rfl, Below.refl _ _⟩
    case round =>
      obtain ⟨k, hk, rfl, rfl, hbel⟩ := hrel
      by_cases hlt : k < fs.length
      · obtain ⟨g, rfl, _, hg, f0, f1, f2, f3, f4⟩ := floatCell Hown.out hlt
        have d0 := (hbel.cell (p := ⟨g, k * 5, none⟩) hg).trans f0
        have d1 := (hbel.cell (p := ⟨g, k * 5 + 1, none⟩) hg).trans f1
        have d2 := (hbel.cell (p := ⟨g, k * 5 + 2, none⟩) hg).trans f2
        have d3 := (hbel.cell (p := ⟨g, k * 5 + 3, none⟩) hg).trans f3
        have d4 := (hbel.cell (p := ⟨g, k * 5 + 4, none⟩) hg).trans f4
        have e1 := hide (topY_take Y fs k hlt)
        generalize fs[k] = f at *
        obtain ⟨fx, fy, fw, fh, fsd⟩ := f
        clear f0 f1 f2 f3 f4
        dsimp only at d0 d1 d2 d3 d4
        go_wp2_with fail
        go_roundw
        case rel => exact ⟨k + 1, by omega, by go_num, by rw [e1.out], hbel.alloc hbel.size _⟩
        case measure => simp [intOf]; omega
      · have hk2 : k = fs.length := by omega
        have ht : fs.take k = fs := List.take_of_length_le (by omega)
        rw [ht]
        subst hk2
        clear ht hlt hk
        have T := topY_spec fs Y
        have T1 := T.1
        have T2 := hide T.2.1
        have T3 := T.2.2 M hy (fun f hf => by have := Hok.out f hf; unfold FlBd at this; omega)
        clear T
        generalize topY Y fs = yy at *
        have hfr := hide (hfd.out.below hbel)
        have HokB := hide (fun f hf => (Hok.out f hf).1)
        have hn2 : fs.length ≤ 200 := by omega
        have H1 := H0.out
        have W1 := W0.out
        have e5 : ¬ (200 ≤ (fs.length : Int)) := by omega
        have hxw : ∀ f ∈ fs, -16777216 ≤ f.x ∧ f.x + f.w ≤ 33554432 := fun f hf => by have := HokB.out f hf; unfold FlBd at this; omega
        have Hxw := hide hxw
        have hne : ∀ f ∈ fs, -16777216 ≤ f.y + f.h ∧ f.y + f.h ≤ 1000000000000 := fun f hf => by have := Hok.out f hf; unfold FlBd at this; omega
        have Hne := hide hne
        clear hxw hne
        go_wp2_with fail
        refine (edges_any b B yy H width fs _ hfr.out hn2 (by omega) (by omega) (by omega) HokB.out).mono ?_
        rintro e w1 ⟨rfl, hb1⟩
        have hbel1 := below_on hbel hb1
        clear hb1 hfr hbel
        go_wp2_with fail
        go_loopw [2, 15, 16, 17] (fun yv l r m wr => ∃ y' : Int, yv = .int .i64 y' ∧ yy ≤ y' ∧ y' ≤ M ∧ l = .int .i64 (edgesF width y' H fs).1 ∧ r = .int .i64 (edgesF width y' H fs).2.1 ∧ m = .bool (edgesF width y' H fs).2.2 ∧ Below w.heap.size w wr) (fun yv _ _ _ _ => (M - intOf yv).toNat)
        case atStart => exact ⟨yy, rfl, Int.le_refl _, T3, rfl, rfl, rfl, hbel1⟩
        case round =>
          obtain ⟨y', rfl, g1, g2, rfl, rfl, rfl, hbelr⟩ := hrel
          obtain ⟨r1, r2⟩ := edgesF_range (y := y') (h := H) hw.1 Hxw.out
          obtain ⟨r3, r4⟩ := edgesF_bd width y' H fs
          have hsm := hide (fun (q : (edgesF width y' H fs).2.2 = true) => edgesF_some q)
          generalize hE : edgesF width y' H fs = s at *
          obtain ⟨l, r, m⟩ := s
          have E := hide hE
          clear hE
          dsimp only at r1 r2 r3 r4
          have hfr := hide (hfd.out.below hbelr)
          by_cases hgo : m = true ∧ r - l < W
          · obtain ⟨rfl, hlt2⟩ := hgo
            obtain ⟨f, hf, hm⟩ := hsm.out rfl
            obtain ⟨m1, m2, m3⟩ := metF_true hm
            have m4 := (Hok.out f hf).2
            have n1 := nextF_gt y' fs
            have n2 := nextF_le h0 (fun q hq => (Hok.out q hq).2) (fun q hq => (Hne.out q hq).1) (show y' + 1 ≤ M by omega)
            clear hm hsm
            go_wp2_with fail
            refine (next_any b B y' width fs _ hfr.out hn2 (by omega) (by omega) Hne.out).mono ?_
            rintro e w2 ⟨rfl, hb2⟩
            have hbel2 := below_on hbelr hb2
            have hfr2 := hide (hfd.out.below hbel2)
            clear hb2 hbelr hfr
            generalize nextF y' fs = y2 at *
            go_wp2_with fail
            refine (edges_any b B y2 H width fs _ hfr2.out hn2 (by omega) (by omega) (by omega) HokB.out).mono ?_
            rintro e w3 ⟨rfl, hb3⟩
            have hbel3 := below_on hbel2 hb3
            go_wp2_with fail
            go_roundw
            case rel => exact ⟨y2, rfl, by omega, n2, rfl, rfl, rfl, hbel3⟩
            case measure => simp [intOf]; omega
          · have c1r : wr.cell? ⟨b, 1, none⟩ = some (.slice A fs.length c) := (hbelr.cell (p := ⟨b, 1, none⟩) hsz0).trans c1
            have hbr : Blk wr b 118 #[.int .i64 width, .slice A fs.length c] := hb.below hbelr hsz0
            have fzr : wr.frozen? ⟨b, 1, none⟩ = false := hbr.frozen 1
            have hownr := hide (own_keep Hown.out hbelr (own_lt Hown.out))
            have hszr := hbelr.size
            obtain ⟨i0, hi0, hz0, hz1, hz2⟩ := info_parts float_info
            cases m
            · clear hgo hsm
              go_wp2_with (at_builtin; refine wpList_append_any _ rfl (.tmp 93) (.tmp 101) _ rfl B 120 i0 _ 5 40 Try.underlying116 hi0 hz0 hz1 hz2 rfl (by omega) _ fs.length _ rfl (hownr.out.alloc _) (wr.heap.size + 1) _ 1 1 _ rfl (Reads.lit wr _ _ 5 1 rfl) (by intro u hu; simp at hu; rcases hu with rfl | rfl | rfl | rfl | rfl <;> rfl) (by simp only [maxLen]; omega) (by omega) (by simp; omega) ?_; intro v2 w2 hown2 hg2 hat2; obtain ⟨A2, cc2, hv2, _, _⟩ := own_reads hown2; have hb2 := (hbr.alloc _).grown hg2 (Ne.symm (own_blk_ne hownr.out hbr (by decide))); have c12 : w2.cell? ⟨b, 1, none⟩ = some (.slice A fs.length c) := hb2.cell 1; have fz2 : w2.frozen? ⟨b, 1, none⟩ = false := hb2.frozen 1; have hbel2 : Below B w w2 := own_below (hownr.out.alloc _) ((hbelr.alloc hszr _).mono hB) (Nat.le_refl _) hB hg2; have HO2 := hide hown2; have HV2 := hide hv2; rw [hv2]; clear hown2 hg2 hat2 hv2)
              go_ret3
              refine ⟨_, y', rfl, ?_, hbel2.setCell hBb _, ?_⟩
              · rw [HV2.out] at HO2
                rw [EW.out, EH.out]
                exact FloatsAt.mk' (hb2.set_ 1 _) hBb (by rw [flCells_append]; exact own_far HO2.out (own_blk_ne HO2.out hb2 (by decide)) _) (by simp)
              · rw [EW.out, EH.out, EY.out]
                refine ⟨fun f hf => Int.le_trans (T2.out f hf) g1, by omega, g2, by rw [E.out]; rfl, by rw [E.out]; exact .inl rfl⟩
            · have hge : ¬ r - l < W := fun q => hgo ⟨rfl, q⟩
              clear hgo hsm
              go_wp2_with (at_builtin; refine wpList_append_any _ rfl (.tmp 93) (.tmp 101) _ rfl B 120 i0 _ 5 40 Try.underlying116 hi0 hz0 hz1 hz2 rfl (by omega) _ fs.length _ rfl (hownr.out.alloc _) (wr.heap.size + 1) _ 1 1 _ rfl (Reads.lit wr _ _ 5 1 rfl) (by intro u hu; simp at hu; rcases hu with rfl | rfl | rfl | rfl | rfl <;> rfl) (by simp only [maxLen]; omega) (by omega) (by simp; omega) ?_; intro v2 w2 hown2 hg2 hat2; obtain ⟨A2, cc2, hv2, _, _⟩ := own_reads hown2; have hb2 := (hbr.alloc _).grown hg2 (Ne.symm (own_blk_ne hownr.out hbr (by decide))); have c12 : w2.cell? ⟨b, 1, none⟩ = some (.slice A fs.length c) := hb2.cell 1; have fz2 : w2.frozen? ⟨b, 1, none⟩ = false := hb2.frozen 1; have hbel2 : Below B w w2 := own_below (hownr.out.alloc _) ((hbelr.alloc hszr _).mono hB) (Nat.le_refl _) hB hg2; have HO2 := hide hown2; have HV2 := hide hv2; rw [hv2]; clear hown2 hg2 hat2 hv2)
              go_ret3
              refine ⟨_, y', rfl, ?_, hbel2.setCell hBb _, ?_⟩
              · rw [HV2.out] at HO2
                rw [EW.out, EH.out]
                exact FloatsAt.mk' (hb2.set_ 1 _) hBb (by rw [flCells_append]; exact own_far HO2.out (own_blk_ne HO2.out hb2 (by decide)) _) (by simp)
              · rw [EW.out, EH.out, EY.out]
                refine ⟨fun f hf => Int.le_trans (T2.out f hf) g1, by omega, g2, by rw [E.out]; rfl, by rw [E.out]; exact .inr (by show W ≤ r - l; omega)⟩
end Go.Proofs.Ytadlabndbomgmaa
/- The walk of floats.All, under a name of its own (breaks.All is walked too). -/
namespace Go.Proofs.Ytadlabndbomgmaa
open Go.ChangeShapes Go.WideShapes Go.ChangeAt Go.RowKit
def Fl.rect (f : Fl) : List Value := [.int .i64 f.x, .int .i64 f.y, .int .i64 f.w, .int .i64 f.h]
def rcCells : List Fl → List Value
  | [] => []
  | f :: l => f.rect ++ rcCells l
theorem rcCells_append (l m : List Fl) : rcCells (l ++ m) = rcCells l ++ rcCells m := by
  induction l with
  | nil => rfl
  | cons f l ih => simp [rcCells, ih]
theorem rcCells_length (l : List Fl) : (rcCells l).length = l.length * 4 := by
  induction l with
  | nil => rfl
  | cons f l ih => simp [rcCells, Fl.rect, ih]; omega
theorem rcCells_at (l : List Fl) : ∀ (k : Nat) (h : k < l.length) (j : Nat), j < 4 → (rcCells l)[k * 4 + j]? = (l[k]).rect[j]? := by
  induction l with
  | nil => intro k h; simp at h
  | cons f l ih =>
    intro k h j hj
    cases k with
    | zero => simp only [rcCells, Nat.zero_mul, Nat.zero_add, List.getElem_cons_zero]; rw [List.getElem?_append_left (by simp [Fl.rect]; omega)]
    | succ k =>
      have e : (k + 1) * 4 + j = 4 + (k * 4 + j) := by omega
      have hl : f.rect.length = 4 := rfl
      rw [e]
      simp only [rcCells, List.getElem_cons_succ]
      rw [List.getElem?_append_right (by omega), hl, Nat.add_sub_cancel_left]
      exact ih k (by simpa using h) j hj
theorem rect_info : (Try.prog.info? 39).map (fun i => (i.zero, i.size, i.bytes)) = some (some (.agg #[.int .i64 0, .int .i64 0, .int .i64 0, .int .i64 0]), 4, 32) := by kernel_rfl
theorem lit_at {w : World} {n0 : Nat} (hn : w.heap.size = n0) (e : TypeId) (cs : Array Value) (size n : Nat) (hs : cs.size = n * size) : Reads (w.alloc (.cells cs e)) (n0 + 1) size (some ⟨n0, 0, none⟩) n cs.toList := by
  subst hn; exact Reads.lit w e cs size n hs
set_option maxRecDepth 100000 in
theorem fAll_any (b B : Nat) (width : Int) (fs : List Fl) (w : World) (hf : FloatsAt w B b width fs) (hn : fs.length ≤ 200) :
    Calls Try.prog 37 #[.pointer (some ⟨b, 0, none⟩)] w fun e w' => ∃ v, e = .returned v ∧ w'.ownsRow w.heap.size 39 4 v fs.length (rcCells fs) ∧ Below w.heap.size w w' := by
  obtain ⟨A, c, hb, hBb, hown⟩ := hf
  have c1 : w.cell? ⟨b, 1, none⟩ = some (.slice A fs.length c) := hb.cell 1
  obtain ⟨i0, hi0, hz0, hz1, hz2⟩ := info_parts rect_info
  have Hown := hide hown
  clear hown
  go_enter Try.func37, Try.ntmps37
  go_wp2_with fail
  go_loopw [3, 5, 11] (fun v p i wr => ∃ k : Nat, k ≤ fs.length ∧ i = .int .i64 k ∧ wr.ownsRow w.heap.size 39 4 v k (rcCells (fs.take k)) ∧ Below w.heap.size w wr) (fun _ _ i _ => fs.length - (intOf i).toNat)
  case atStart => exact ⟨0, Nat.zero_le _, rfl, own_none _ _ _ _, Below.refl _ _⟩
  case round =>
    obtain ⟨k, hk, rfl, hownr, hbel⟩ := hrel
    by_cases hlt : k < fs.length
    · obtain ⟨g, rfl, _, hg, f0, f1, f2, f3, f4⟩ := floatCell Hown.out hlt
      have d0 := (hbel.cell (p := ⟨g, k * 5, none⟩) hg).trans f0
      have d1 := (hbel.cell (p := ⟨g, k * 5 + 1, none⟩) hg).trans f1
      have d2 := (hbel.cell (p := ⟨g, k * 5 + 2, none⟩) hg).trans f2
      have d3 := (hbel.cell (p := ⟨g, k * 5 + 3, none⟩) hg).trans f3
      have d4 := (hbel.cell (p := ⟨g, k * 5 + 4, none⟩) hg).trans f4
      have e1 := hide (show rcCells (fs.take (k + 1)) = rcCells (fs.take k) ++ fs[k].rect from by rw [List.take_succ_eq_append_getElem hlt, rcCells_append]; simp [rcCells])
      generalize fs[k] = f at *
      obtain ⟨fx, fy, fw, fh, fsd⟩ := f
      clear f0 f1 f2 f3 f4
      dsimp only at d0 d1 d2 d3 d4
      have Hownr := hide hownr
      have hsz := hbel.size
      clear hownr
      go_wp2_with (at_builtin; refine wpList_app rfl (.tmp 15) (.tmp 18) _ rfl w.heap.size 39 i0 _ 4 32 Try.underlying35 hi0 hz0 hz1 hz2 rfl (by omega) _ k _ rfl ((Hownr.out.alloc _).alloc _) (wr.heap.size + 1 + 1) _ 1 1 _ rfl (lit_at (by simp) _ _ 4 1 rfl) (by intro u hu; simp at hu; rcases hu with rfl | rfl | rfl | rfl <;> rfl) (by simp only [maxLen]; omega) (by omega) w ((hbel.alloc hsz _).alloc (by simp; omega) _) (Nat.le_refl _) ?_; intro v2 w2 hown2 hbel2)
      go_roundw
      case rel => exact ⟨k + 1, by omega, by go_num, by rw [e1.out]; exact hown2, hbel2⟩
      case measure => simp [intOf]; omega
    · have hk2 : k = fs.length := by omega
      have ht : fs.take k = fs := List.take_of_length_le (by omega)
      rw [ht] at hownr
      subst hk2
      clear ht
      go_wp2
      go_ret
      exact ⟨_, rfl, hownr, hbel⟩
theorem rectCell {w : World} {B n c : Nat} {A : Option Addr} {fs : List Fl} (h : w.ownsRow B 39 4 (.slice A n c) n (rcCells fs)) {k : Nat} (hk : k < n) (hl : fs.length = n) :
    ∃ g, A = some ⟨g, 0, none⟩ ∧ B ≤ g ∧ g < w.heap.size ∧ w.cell? ⟨g, k * 4, none⟩ = some (.int .i64 (fs[k]'(by omega)).x) ∧ w.cell? ⟨g, k * 4 + 1, none⟩ = some (.int .i64 (fs[k]'(by omega)).y) ∧ w.cell? ⟨g, k * 4 + 2, none⟩ = some (.int .i64 (fs[k]'(by omega)).w) ∧ w.cell? ⟨g, k * 4 + 3, none⟩ = some (.int .i64 (fs[k]'(by omega)).h) := by
  obtain ⟨g, cap, hv, hg, hlt⟩ := h.form (by omega)
  injection hv with hA _ _
  subst hA
  have hc : ∀ j, j < 4 → w.cell? ⟨g, k * 4 + j, none⟩ = (fs[k]'(by omega)).rect[j]? := fun j hj => by
    rw [h.cellAt _ (by omega), rcCells_at fs k (by omega) j hj]
  exact ⟨g, rfl, hg, hlt, hc 0 (by omega), hc 1 (by omega), hc 2 (by omega), hc 3 (by omega)⟩
end Go.Proofs.Ytadlabndbomgmaa
/- Words for structs and arrays that lie whole in a block: loads, stores, results. No program in sight. -/
namespace Go.Proofs.Ytadlabndbomgmaa
open Go.RowKit
section
variable {P : Program}
theorem grown_setCells (g : Nat) : ∀ (vs : List Value) (o : Nat) (w : World), w.grownBy (w.setCells g o vs) (some g)
  | [], o, w => World.grownBy.refl w _
  | v :: r, o, w => by
    have h1 := grown_setCells g r (o + 1) (w.setCell ⟨g, o, none⟩ v)
    exact ⟨h1.os, h1.tape, h1.output, by
      show w.heap.size ≤ ((w.setCell ⟨g, o, none⟩ v).setCells g (o + 1) r).heap.size
      exact Nat.le_trans (by simp [World.setCell]) h1.size, fun k hk hne => (h1.block k (by simpa [World.setCell] using hk) hne).trans (Below.heap_setCell w _ v k (fun e => hne (by rw [e])))⟩
theorem blk_setCells {g : Nat} {t : TypeId} : ∀ (vs : List Value) (o : Nat) (w : World) (cs : Array Value), o + vs.length ≤ cs.size → Blk w g t cs →
    Blk (w.setCells g o vs) g t (cs.toList.take o ++ vs ++ cs.toList.drop (o + vs.length)).toArray
  | [], o, w, cs, _, h => by
    have e : (cs.toList.take o ++ [] ++ cs.toList.drop (o + ([] : List Value).length)).toArray = cs := by simp
    rw [e]; exact h
  | v :: r, o, w, cs, hl, h => by
    have hs : o < cs.size := by simp at hl; omega
    have h1 := blk_setCells r (o + 1) _ _ (by simp at hl ⊢; omega) (h.set_ o v)
    have e : (((cs.setIfInBounds o v).toList.take (o + 1)) ++ r ++ (cs.setIfInBounds o v).toList.drop (o + 1 + r.length)) = (cs.toList.take o ++ (v :: r) ++ cs.toList.drop (o + (v :: r).length)) := by
      rw [Array.toList_setIfInBounds, List.take_set, List.drop_set_of_lt (by omega), List.take_succ_eq_append_getElem (by simpa using hs), List.set_append_right _ _ (by simp; exact Nat.min_le_left _ _)]
      have hlt : (cs.toList.take o).length = o := by simp; omega
      rw [hlt, Nat.sub_self]
      simp [Nat.add_assoc, Nat.add_comm 1 r.length]
    rw [e] at h1
    exact h1
theorem blk_setWhole {g : Nat} {t : TypeId} {w : World} {cs cs' : Array Value} (h : Blk w g t cs) (hs : cs'.size = cs.size) : Blk (w.setCells g 0 cs'.toList) g t cs' := by
  have := blk_setCells cs'.toList 0 w cs (by simp [hs]) h
  simpa [hs, List.drop_of_length_le] using this
theorem there_of_blk {g : Nat} {t : TypeId} {w : World} {cs : Array Value} (h : Blk w g t cs) (n : Nat) (hn : n = cs.size) : w.there g 0 n := fun j hj => by
  refine ⟨?_, h.frozen _⟩
  rw [Nat.zero_add, h.cell j, Array.getElem?_eq_getElem (by omega)]; rfl
theorem below_grown {B g : Nat} {a b c : World} (h : Below B a b) (hB : B ≤ a.heap.size) (k : b.grownBy c (some g)) (hg : B ≤ g) : Below B a c :=
  ⟨k.os.trans h.os, k.tape.trans h.tape, k.output.trans h.output, Nat.le_trans h.size k.size, fun i hi => (k.block i (by have := h.size; omega) (fun e => by cases e; omega)).trans (h.block i hi)⟩
theorem blk_grown {g r : Nat} {t : TypeId} {cs : Array Value} {b c : World} (h : Blk b r t cs) (k : b.grownBy c (some g)) (hne : r ≠ g) : Blk c r t cs :=
  (k.block r h.lt (fun e => hne (by cases e; rfl))).trans h
/-- A whole struct or array is stored into its block. -/
theorem wp_store_blk {op : Oper} {a : Act} {w : World} {K : Act → World → Prop} {Q : Exit → Act → World → Prop} (ty : TypeId) (x y : Operand) (ho : op.op = .store ty x y)
    (g : Nat) (t : TypeId) (cs cs' : Array Value) (hx : a.eval x = .pointer (some ⟨g, 0, none⟩)) (hy : a.eval y = .agg cs') (hb : Blk w g t cs) (hs : cs'.size = cs.size)
    (hi : (P.info? ty).map (·.size) = some cs'.size) (h1 : cs'.all (·.oneCell') = true)
    (h : ∀ w', Blk w' g t cs' → w.grownBy w' (some g) → K (a.put op.dst undef) w') : op.wp P a w K Q :=
  wp_store_mid ty x y ho g 0 cs' hx hy (there_of_blk hb _ hs) hi h1 (h _ (blk_setWhole hb hs) (grown_setCells g _ 0 w))
theorem wpList_store_blk {ops : Array Oper} {rest : List Oper} {op : Oper} {a : Act} {w : World} {Q : Exit → Act → World → Prop} (hgd : op.guard = none) (ty : TypeId) (x y : Operand) (ho : op.op = .store ty x y)
    (g : Nat) (t : TypeId) (cs cs' : Array Value) (hx : a.eval x = .pointer (some ⟨g, 0, none⟩)) (hy : a.eval y = .agg cs') (hb : Blk w g t cs) (hs : cs'.size = cs.size)
    (hi : (P.info? ty).map (·.size) = some cs'.size) (h1 : cs'.all (·.oneCell') = true)
    (h : ∀ w', Blk w' g t cs' → w.grownBy w' (some g) → wpList P ops Q rest (a.put op.dst undef) w') : wpList P ops Q (op :: rest) a w :=
  wpList_plain hgd fun _ hK => wp_store_blk ty x y ho g t cs cs' hx hy hb hs hi h1 fun w' h2 h3 => hK _ _ (h w' h2 h3)
theorem step_store_blk {ops : Array Oper} {op : Oper} {a : Act} {w : World} {K : Act → World → Prop} {Q : Exit → Act → World → Prop} {E : Prop} (hgd : op.guard = none) (ty : TypeId) (x y : Operand) (ho : op.op = .store ty x y)
    (g : Nat) (t : TypeId) (cs cs' : Array Value) (hx : a.eval x = .pointer (some ⟨g, 0, none⟩)) (hy : a.eval y = .agg cs') (hb : Blk w g t cs) (hs : cs'.size = cs.size)
    (hi : (P.info? ty).map (·.size) = some cs'.size) (h1 : cs'.all (·.oneCell') = true)
    (h : ∀ w', Blk w' g t cs' → w.grownBy w' (some g) → K (a.put op.dst undef) w') : if Region.wanted op (yielded ops a.tmps) = true then Oper.wp P op a w K Q else E := by
  rw [if_pos (by simp [Region.wanted, hgd])]
  exact wp_store_blk ty x y ho g t cs cs' hx hy hb hs hi h1 h
theorem step_load_blk {ops : Array Oper} {op : Oper} {a : Act} {w : World} {K : Act → World → Prop} {Q : Exit → Act → World → Prop} {E : Prop} (hgd : op.guard = none) (ty : TypeId) (x : Operand) (ho : op.op = .load ty x)
    (g : Nat) (hx : a.eval x = .pointer (some ⟨g, 0, none⟩)) (t : TypeId) (cs : Array Value) (d : TypeDesc) (hb : Blk w g t cs)
    (hu : P.underlying ty = some d) (hd : (match d with | .struct _ | .array _ _ => true | _ => false) = true) (hi : (P.info? ty).map (·.size) = some cs.size)
    (h : K (a.put op.dst (.agg cs)) w) : if Region.wanted op (yielded ops a.tmps) = true then Oper.wp P op a w K Q else E := by
  rw [if_pos (by simp [Region.wanted, hgd])]
  exact wp_load_row ty x ho g hx t cs (0, 0) d hb hu hd hi h
/-- One cell of a block is stored into. -/
theorem run_storeVar_one (w : World) (b o : Nat) (ty : TypeId) (v : Value) (hvc : v.cells = #[v]) (hv : v.oneCell' = true) (ht : w.there b o 1) (hi : (P.info? ty).map (·.size) = some 1) :
    (storeVar ty ⟨b, o, none⟩ v).run P w = .ok () (w.setCell ⟨b, o, none⟩ v) := by
  have := run_storeCells_cells (P := P) b o [v] 0 w (fun j hj => by simpa using (ht j (by simpa using hj)).1) (fun j hj => by simpa using (ht j (by simpa using hj)).2)
    (fun u hu => by simp at hu; rw [hu]; exact hv)
  cases hq : P.info? ty with
  | none => simp [hq] at hi
  | some i =>
    have hs : 1 = i.size := by simp [hq] at hi; omega
    simp only [Nat.add_zero] at this
    simp [storeVar, sizeOf, typeInfo, hq, hvc, ← hs, this, World.setCells]
theorem wp_store_fld {op : Oper} {a : Act} {w : World} {K : Act → World → Prop} {Q : Exit → Act → World → Prop} (ty : TypeId) (x y : Operand) (ho : op.op = .store ty x y)
    (g i : Nat) (t : TypeId) (cs : Array Value) (v : Value) (hx : a.eval x = .pointer (some ⟨g, i, none⟩)) (hy : a.eval y = v) (hb : Blk w g t cs) (hs : i < cs.size)
    (hi : (P.info? ty).map (·.size) = some 1) (hvc : v.cells = #[v]) (hv : v.oneCell' = true)
    (h : ∀ w', Blk w' g t (cs.setIfInBounds i v) → w.grownBy w' (some g) → K (a.put op.dst undef) w') : op.wp P a w K Q := by
  have ht : w.there g i 1 := fun j hj => by
    obtain rfl : j = 0 := by omega
    refine ⟨?_, hb.frozen _⟩
    rw [Nat.add_zero, hb.cell i, Array.getElem?_eq_getElem hs]; rfl
  have hg : w.grownBy (w.setCell ⟨g, i, none⟩ v) (some g) := grown_setCells g [v] i w
  unfold Oper.wp execOp
  simp only [ho, hx, hy, Instr.storeAt, Instr.sureAddr, Sem.run_bind, Sem.run_pure, Result.andThen_ok, run_storeVar_one w g i ty v hvc hv ht hi]
  exact h _ (hb.set_ i v) hg
theorem wpList_store_fld {ops : Array Oper} {rest : List Oper} {op : Oper} {a : Act} {w : World} {Q : Exit → Act → World → Prop} (hgd : op.guard = none) (ty : TypeId) (x y : Operand) (ho : op.op = .store ty x y)
    (g i : Nat) (t : TypeId) (cs : Array Value) (v : Value) (hx : a.eval x = .pointer (some ⟨g, i, none⟩)) (hy : a.eval y = v) (hb : Blk w g t cs) (hs : i < cs.size)
    (hi : (P.info? ty).map (·.size) = some 1) (hvc : v.cells = #[v]) (hv : v.oneCell' = true)
    (h : ∀ w', Blk w' g t (cs.setIfInBounds i v) → w.grownBy w' (some g) → wpList P ops Q rest (a.put op.dst undef) w') : wpList P ops Q (op :: rest) a w :=
  wpList_plain hgd fun _ hK => wp_store_fld ty x y ho g i t cs v hx hy hb hs hi hvc hv fun w' h2 h3 => hK _ _ (h w' h2 h3)
/-- Under an S that gives a whole block its load may be taken first. -/
theorem yieldsIf_load_blk {ops : Array Oper} {S : World → Prop} {op : Oper} {a : Act} (hw : Region.wanted op (yielded ops a.tmps) = true) (ty : TypeId) (x : Operand) (ho : op.op = .load ty x)
    (g : Nat) (hx : a.eval x = .pointer (some ⟨g, 0, none⟩)) (t : TypeId) (cs : Array Value) (d : TypeDesc) (hS : ∀ w, S w → Blk w g t cs)
    (hu : P.underlying ty = some d) (hd : (match d with | .struct _ | .array _ _ => true | _ => false) = true) (hi : (P.info? ty).map (·.size) = some cs.size) : YieldsIf P ops S op (.agg cs) a :=
  .inl ⟨hw, fun w hw' => by
    unfold execOp
    simp only [ho, hx, Instr.loadAt, Instr.sureAddr, Sem.run_bind, Sem.run_pure, Result.andThen_ok, run_loadVar_row w g t ty cs (0, 0) d (hS w hw') hu hd hi]⟩
theorem yieldsIf_build {ops : Array Oper} {S : World → Prop} {op : Oper} {a : Act} (hw : Region.wanted op (yielded ops a.tmps) = true) (t : TypeId) (parts : Array (Nat × Operand)) (ho : op.op = .build t parts)
    (vals : List (Nat × Value)) (hv : parts.toList.map (fun p => (p.1, a.eval p.2)) = vals) (cells : Array Value) (hc' : P.built t vals = some cells) : YieldsIf P ops S op (.agg cells) a :=
  .inl ⟨hw, fun w _ => by
    have hc : P.built t (parts.map fun (i, x) => (i, a.eval x)).toList = some cells := by rw [Array.toList_map]; exact (congrArg (P.built t) hv).trans hc'
    unfold execOp
    simp only [ho, Sem.run_bind, run_build w t _ cells hc, Result.andThen_ok]
    rfl⟩
theorem yieldsIf_move {ops : Array Oper} {S : World → Prop} {op : Oper} {a : Act} (hw : Region.wanted op (yielded ops a.tmps) = true) (x : Operand) (ho : op.op = .move x) (v : Value) (hx : a.eval x = v) : YieldsIf P ops S op v a :=
  .inl ⟨hw, fun w _ => by
    unfold execOp
    simp only [ho, hx]
    rfl⟩
/-- A function's results that lie in blocks. -/
theorem res_row {w : World} {ty : TypeId} {g : Nat} {t : TypeId} {cs : Array Value} {d : TypeDesc} (hb : Blk w g t cs) (hu : P.underlying ty = some d) (hd : (match d with | .struct _ | .array _ _ => true | _ => false) = true) (hi : (P.info? ty).map (·.size) = some cs.size) :
    (loadVar ty ⟨g, 0, none⟩).run P w = .ok (.agg cs) w := run_loadVar_row w g t ty cs (0, 0) d hb hu hd hi
theorem results_rows2 {fn : Func} {p q : Tmp} {ty ty2 : TypeId} (h : fn.results = #[.cell p ty, .cell q ty2]) (tmps : Array Value) (w : World) (g g2 : Nat) (t t2 : TypeId) (cs cs2 : Array Value) (d d2 : TypeDesc)
    (hp : tmps.getD p undef = .pointer (some ⟨g, 0, none⟩)) (hq : tmps.getD q undef = .pointer (some ⟨g2, 0, none⟩)) (hb : Blk w g t cs) (hb2 : Blk w g2 t2 cs2)
    (hu : P.underlying ty = some d) (hd : (match d with | .struct _ | .array _ _ => true | _ => false) = true) (hi : (P.info? ty).map (·.size) = some cs.size)
    (hu2 : P.underlying ty2 = some d2) (hd2 : (match d2 with | .struct _ | .array _ _ => true | _ => false) = true) (hi2 : (P.info? ty2).map (·.size) = some cs2.size) :
    (results fn tmps).run P w = .ok (.tuple #[.agg cs, .agg cs2]) w := by
  have hp' : tmps[p]?.getD undef = .pointer (some ⟨g, 0, none⟩) := by simpa using hp
  have hq' : tmps[q]?.getD undef = .pointer (some ⟨g2, 0, none⟩) := by simpa using hq
  simp [results, h, hp', hq', asAddr, res_row hb hu hd hi, res_row hb2 hu2 hd2 hi2]
theorem results_rows3 {fn : Func} {p q r : Tmp} {ty : TypeId} (h : fn.results = #[.cell p ty, .cell q ty, .cell r ty]) (tmps : Array Value) (w : World) (g g2 g3 : Nat) (t t2 t3 : TypeId) (cs cs2 cs3 : Array Value) (d : TypeDesc)
    (hp : tmps.getD p undef = .pointer (some ⟨g, 0, none⟩)) (hq : tmps.getD q undef = .pointer (some ⟨g2, 0, none⟩)) (hr : tmps.getD r undef = .pointer (some ⟨g3, 0, none⟩)) (hb : Blk w g t cs) (hb2 : Blk w g2 t2 cs2) (hb3 : Blk w g3 t3 cs3)
    (hu : P.underlying ty = some d) (hd : (match d with | .struct _ | .array _ _ => true | _ => false) = true) (hi : (P.info? ty).map (·.size) = some cs.size) (hi2 : (P.info? ty).map (·.size) = some cs2.size) (hi3 : (P.info? ty).map (·.size) = some cs3.size) :
    (results fn tmps).run P w = .ok (.tuple #[.agg cs, .agg cs2, .agg cs3]) w := by
  have hp' : tmps[p]?.getD undef = .pointer (some ⟨g, 0, none⟩) := by simpa using hp
  have hq' : tmps[q]?.getD undef = .pointer (some ⟨g2, 0, none⟩) := by simpa using hq
  have hr' : tmps[r]?.getD undef = .pointer (some ⟨g3, 0, none⟩) := by simpa using hr
  simp [results, h, hp', hq', hr', asAddr, res_row hb hu hd hi, res_row hb2 hu hd hi2, res_row hb3 hu hd hi3]
end
end Go.Proofs.Ytadlabndbomgmaa
/- More words for memory: what lies in a block of the call's own, whole; copying into it. No program in sight. -/
namespace Go.Proofs.Ytadlabndbomgmaa
open Go.RowKit
/-- A block known whole is a row of the call's own. -/
theorem own_of_blk {w : World} {base g n size : Nat} {e : TypeId} {cs : Array Value} (h : Blk w g e cs) (hb : base ≤ g) (hc : n ≤ maxLen) (hs : cs.size = n * size) : w.ownsRow base e size (.slice (some ⟨g, 0, none⟩) n n) n cs.toList :=
  ⟨by simpa using hs, .inr ⟨g, n, cs, rfl, hb, h, Nat.le_refl _, hc, hs, List.take_of_length_le (by simp [hs])⟩⟩
/-- The cells of a list of integers. -/
def intsA (xs : List Int) : Array Value := (xs.map (Value.int .i64)).toArray
theorem intsA_size (xs : List Int) : (intsA xs).size = xs.length := by simp [intsA]
theorem intsA_list (xs : List Int) : (intsA xs).toList = xs.map (Value.int .i64) := by simp [intsA]
theorem intsA_at (xs : List Int) (k : Nat) (h : k < xs.length) : (intsA xs)[k]? = some (.int .i64 (at0 xs k)) := by
  simp [intsA, List.getElem?_eq_getElem h, at0]
theorem intsA_set (xs : List Int) (k : Nat) (x : Int) : (intsA xs).setIfInBounds k (.int .i64 x) = intsA (xs.set k x) := by
  apply Array.ext'
  simp [intsA, List.map_set]
theorem made_ints (m : Nat) : madeCells #[.int .i64 0] m = intsA (List.replicate m 0) := by
  apply Array.ext'
  rw [intsA_list, madeCells_rep, List.map_replicate]
theorem splice_ints (xs ys : List Int) (k : Nat) : (splice (xs.map (Value.int .i64)) k (ys.map (Value.int .i64))).toArray = intsA (xs.take k ++ ys ++ xs.drop (k + ys.length)) := by
  simp [splice, intsA, List.map_take, List.map_drop]
/-- A copy into a block of the call's own, as its run says it: for a region that draws its order. -/
theorem copy_run {P : Program} (w : World) (T ty elem : TypeId) (hu : P.underlying T = some (.slice elem)) (hsz : (P.info? elem).map (·.size) = some 1) (g off dLen dCap : Nat) (ad : Addr) (sLen sCap : Nat) (t : TypeId) (cur cs : List Value)
    (hg : Blk w g t cur.toArray) (hn : cs.length = Nat.min sLen dLen) (hsrc : ∀ j v, cs[j]? = some v → w.cell? (ad.add j) = some v) (hfit : off + cs.length ≤ cur.length) (h1 : ∀ v ∈ cs, v.oneCell' = true) :
    ∃ w', (Builtin.copy_ #[T, T] ty #[.slice (some ⟨g, off, none⟩) dLen dCap, .slice (some ad) sLen sCap]).run P w = .ok (.int .i64 (cs.length : Nat)) w' ∧ Blk w' g t (splice cur off cs).toArray ∧ ∀ B w0, Below B w0 w → B ≤ g → Below B w0 w' := by
  by_cases h0 : cs.length = 0
  · obtain rfl : cs = [] := List.eq_nil_of_length_eq_zero h0
    have hrun := run_copy_none (P := P) w T T ty elem (some ⟨g, off, none⟩) (some ad) dLen dCap sLen sCap hu hsz (by simpa using hn.symm)
    exact ⟨w, hrun, by simpa [splice] using hg, fun _ _ h _ => h⟩
  · have hrun := run_copy_row (P := P) w T T ty elem g off dLen dCap ad sLen sCap cur.toArray t cs hu hsz hg hn hsrc (by simpa using hfit) h1
    exact ⟨_, hrun, by unfold Blk; simpa [splice] using setRow_heap w g _ _ t _ hg, fun B w0 hb hB => below_setRow hb hB _⟩
/-- The same, of a source that reads as a list, all of it. -/
theorem copy_reads {P : Program} (w : World) (T ty elem : TypeId) (hu : P.underlying T = some (.slice elem)) (hsz : (P.info? elem).map (·.size) = some 1) (g off m dCap : Nat) (A : Option Addr) (sCap B : Nat) (t : TypeId) (cur cs : List Value)
    (hg : Blk w g t cur.toArray) (hr : Reads w B 1 A m cs) (hfit : off + m ≤ cur.length) (h1 : ∀ v ∈ cs, v.oneCell' = true) :
    ∃ w', (Builtin.copy_ #[T, T] ty #[.slice (some ⟨g, off, none⟩) m dCap, .slice A m sCap]).run P w = .ok (.int .i64 (m : Nat)) w' ∧ Blk w' g t (splice cur off cs).toArray ∧ ∀ B w0, Below B w0 w → B ≤ g → Below B w0 w' := by
  have hl : cs.length = m := by have := hr.1; simpa using this
  rcases Nat.eq_zero_or_pos m with h0 | h0
  · subst h0
    obtain rfl : cs = [] := List.eq_nil_of_length_eq_zero hl
    have hrun := run_copy_none (P := P) w T T ty elem (some ⟨g, off, none⟩) A 0 dCap 0 sCap hu hsz rfl
    exact ⟨w, hrun, by simpa [splice] using hg, fun _ _ h _ => h⟩
  · obtain ⟨ad, rfl, _, hc⟩ := hr.2 h0
    obtain ⟨w', h2, h3, h4⟩ := copy_run (P := P) w T ty elem hu hsz g off m dCap ad m sCap t cur cs hg (by rw [hl]; exact (Nat.min_self m).symm) hc (by omega) h1
    exact ⟨w', by rw [h2, hl], h3, h4⟩
/-- A block known whole reads as one element. -/
theorem reads_blk {w : World} {g : Nat} {e : TypeId} {cs : Array Value} (hb : Blk w g e cs) (size : Nat) (hcs : cs.size = size) : Reads w (g + 1) size (some ⟨g, 0, none⟩) 1 cs.toList := by
  refine ⟨by simp [hcs], fun _ => ⟨_, rfl, by simp, fun j u hj => ?_⟩⟩
  rw [show (⟨g, 0, none⟩ : Addr).add j = ⟨g, j, none⟩ by unfold Addr.add; split <;> simp_all]
  rw [hb.cell j, ← hj]; simp
/-- One element, which lies in a block of its own, is appended to a row of the call's own. -/
theorem wpList_app1 {P : Program} {w : World} {ops : Array Oper} {rest : List Oper} {o : Oper} {a : Act} {Q : Exit → Act → World → Prop} (hgd : o.guard = none) (s x : Operand) (t : TypeId)
    (ho : o.op = .call { callee := .builtin .append, args := #[s, x], argTypes := #[t, t] }) (base : Nat) (e : TypeId) (z : Value) (size bytes : Nat) (ht : P.underlying t = some (.slice e))
    (hinfo : (P.info? e).map (fun i => (i.zero, i.size, i.bytes)) = some (some z, size, bytes)) (hzs : z.cells.size = size) (hsz : 0 < size)
    (v : Value) (n : Nat) (xs : List Value) (hs : a.eval s = v) (hown : w.ownsRow base e size v n xs) (g c : Nat) (cs : Array Value) (hb : Blk w g e cs) (hcs : cs.size = size) (hx : a.eval x = .slice (some ⟨g, 0, none⟩) 1 c)
    (h1 : cs.toList.all (·.oneCell') = true) (hn : n ≤ 1000000) (hby : bytes ≤ 1000) (hbase : base ≤ w.heap.size)
    (h : ∀ v' w', w'.ownsRow base e size v' (n + 1) (xs ++ cs.toList) → w.grownBy w' v.ownBlock → wpList P ops Q rest (a.put o.dst v') w') : wpList P ops Q (o :: rest) a w := by
  obtain ⟨i, hi, hz, hsize, hbytes⟩ := info_parts hinfo
  refine wpList_append_any w hgd s x t ho base e i z size bytes ht hi hz hsize hbytes hzs hsz v n xs hs hown (g + 1) (some ⟨g, 0, none⟩) 1 c cs.toList hx (reads_blk hb size hcs) (List.all_eq_true.1 h1) (by simp only [maxLen]; omega) ?_ hbase fun v' w' h2 h3 _ => h v' w' h2 h3
  have := Nat.mul_le_mul (show n + 1 ≤ 1000001 by omega) hby
  omega
/-- A record is stored into the midst of a block. -/
theorem wp_store_rec {P : Program} {op : Oper} {a : Act} {w : World} {K : Act → World → Prop} {Q : Exit → Act → World → Prop} (ty : TypeId) (x y : Operand) (ho : op.op = .store ty x y)
    (g i : Nat) (t : TypeId) (cs : List Value) (vs : Array Value) (hx : a.eval x = .pointer (some ⟨g, i, none⟩)) (hy : a.eval y = .agg vs) (hb : Blk w g t cs.toArray) (hs : i + vs.size ≤ cs.length)
    (hi : (P.info? ty).map (·.size) = some vs.size) (h1 : vs.toList.all (·.oneCell') = true)
    (h : ∀ w', Blk w' g t (cs.take i ++ vs.toList ++ cs.drop (i + vs.toList.length)).toArray → w.grownBy w' (some g) → K (a.put op.dst undef) w') : op.wp P a w K Q := by
  have ht : w.there g i vs.size := fun j hj => by
    refine ⟨?_, hb.frozen _⟩
    rw [hb.cell, List.getElem?_toArray, List.getElem?_eq_getElem (by omega)]; rfl
  have hb2 := blk_setCells vs.toList i w cs.toArray (by simpa using hs) hb
  exact wp_store_mid ty x y ho g i vs hx hy ht hi (by rw [← Array.all_toList]; exact h1) (h _ (by simpa using hb2) (grown_setCells g _ i w))
theorem step_store_rec {P : Program} {ops : Array Oper} {op : Oper} {a : Act} {w : World} {K : Act → World → Prop} {Q : Exit → Act → World → Prop} {E : Prop} (hgd : op.guard = none) (ty : TypeId) (x y : Operand) (ho : op.op = .store ty x y)
    (g i : Nat) (t : TypeId) (cs : List Value) (vs : Array Value) (hx : a.eval x = .pointer (some ⟨g, i, none⟩)) (hy : a.eval y = .agg vs) (hb : Blk w g t cs.toArray) (hs : i + vs.size ≤ cs.length)
    (hi : (P.info? ty).map (·.size) = some vs.size) (h1 : vs.toList.all (·.oneCell') = true)
    (h : ∀ w', Blk w' g t (cs.take i ++ vs.toList ++ cs.drop (i + vs.toList.length)).toArray → w.grownBy w' (some g) → K (a.put op.dst undef) w') : if Region.wanted op (yielded ops a.tmps) = true then Oper.wp P op a w K Q else E := by
  rw [if_pos (by simp [Region.wanted, hgd])]
  exact wp_store_rec ty x y ho g i t cs vs hx hy hb hs hi h1 h
theorem step_store_fld {P : Program} {ops : Array Oper} {op : Oper} {a : Act} {w : World} {K : Act → World → Prop} {Q : Exit → Act → World → Prop} {E : Prop} (hgd : op.guard = none) (ty : TypeId) (x y : Operand) (ho : op.op = .store ty x y)
    (g i : Nat) (t : TypeId) (cs : Array Value) (v : Value) (hx : a.eval x = .pointer (some ⟨g, i, none⟩)) (hy : a.eval y = v) (hb : Blk w g t cs) (hs : i < cs.size)
    (hi : (P.info? ty).map (·.size) = some 1) (hvc : v.cells = #[v]) (hv : v.oneCell' = true)
    (h : ∀ w', Blk w' g t (cs.setIfInBounds i v) → w.grownBy w' (some g) → K (a.put op.dst undef) w') : if Region.wanted op (yielded ops a.tmps) = true then Oper.wp P op a w K Q else E := by
  rw [if_pos (by simp [Region.wanted, hgd])]
  exact wp_store_fld ty x y ho g i t cs v hx hy hb hs hi hvc hv h
theorem setCells9 (w : World) (g o : Nat) (v0 v1 v2 v3 v4 v5 v6 v7 v8 : Value) :
    ((((((((w.setCell ⟨g, o, none⟩ v0).setCell ⟨g, o + 1, none⟩ v1).setCell ⟨g, o + 2, none⟩ v2).setCell ⟨g, o + 3, none⟩ v3).setCell ⟨g, o + 4, none⟩ v4).setCell ⟨g, o + 5, none⟩ v5).setCell ⟨g, o + 6, none⟩ v6).setCell ⟨g, o + 7, none⟩ v7).setCell ⟨g, o + 8, none⟩ v8 =
      w.setCells g o [v0, v1, v2, v3, v4, v5, v6, v7, v8] := rfl
end Go.Proofs.Ytadlabndbomgmaa
/- The walk of breaker.ends. -/
namespace Go.Proofs.Ytadlabndbomgmaa
open Go.ChangeShapes Go.WideShapes Go.ChangeAt Go.RowKit
/-- The breaker's cells. -/
def brA (fp : Nat) (y sz ht al ind lf rt : Int) (line : Value) (full : Bool) (late out : Value) : Array Value := #[.pointer (some ⟨fp, 0, none⟩), .int .i64 y, .int .i64 sz, .int .i64 ht, .int .i64 al, .int .i64 ind, .int .i64 lf, .int .i64 rt, line, .bool full, late, out]
theorem own_stays {w w' : World} {base size n : Nat} {e : TypeId} {v : Value} {xs : List Value} {row : Option Nat} (h : w.ownsRow base e size v n xs) (hg : w.grownBy w' row) (hne : v.ownBlock ≠ row) : w'.ownsRow base e size v n xs :=
  h.kept hg (.inr hne)
theorem grownBy_trans {a b c : World} {row : Option Nat} (h : a.grownBy b row) (k : b.grownBy c row) : a.grownBy c row :=
  ⟨k.os.trans h.os, k.tape.trans h.tape, k.output.trans h.output, Nat.le_trans h.size k.size, fun i hi hr => (k.block i (Nat.lt_of_lt_of_le hi h.size) hr).trans (h.block i hi hr)⟩
theorem FloatsAt.grown {w w' : World} {B fp b : Nat} {W : Int} {fs : List Fl} {cs : Array Value} (h : FloatsAt w B fp W fs) (hb : Blk w b 174 cs) (g : w.grownBy w' (some b)) : FloatsAt w' B fp W fs := by
  obtain ⟨A, c, h1, h2, h3⟩ := h
  have ne1 : fp ≠ b := h1.ne_ hb (by decide)
  refine ⟨A, c, h1.grown g (fun e => ne1 (by injection e)), h2, ?_⟩
  exact own_stays h3 g (own_blk_ne h3 hb (by decide))
set_option maxRecDepth 100000 in
set_option maxHeartbeats 4000000 in
theorem bends_any (fp BF b : Nat) (W y sz ht al ind lf rt : Int) (line : Value) (full : Bool) (late out : Value) (fs : List Fl) (w : World) (hf : FloatsAt w BF fp W fs) (hb : Blk w b 174 (brA fp y sz ht al ind lf rt line full late out)) (hW : -16777216 ≤ W ∧ W ≤ 16777216)
    (hn : fs.length ≤ 200) (hok : ∀ f ∈ fs, FlBd f) (hi : -16777216 ≤ ind ∧ ind ≤ 16777216) :
    Calls Try.prog 135 #[.pointer (some ⟨b, 0, none⟩)] w fun e w' => e = .returned (.tuple #[]) ∧ Blk w' b 174 (brA fp y sz ht al ind ((edgesF W (cut y) (cut ht) fs).1 + ind) (edgesF W (cut y) (cut ht) fs).2.1 line full late out) ∧ w.grownBy w' (some b) := by
  have HE := hide (Edges_any fp BF y ht W fs w.drew hf hn hok)
  have HR := hide (edgesF_range (y := cut y) (h := cut ht) hW.1 (fun f hf => by have := hok f hf; unfold FlBd at this; omega))
  have HL := hide (edgesF_bd W (cut y) (cut ht) fs)
  have HB := hide hb.drew
  have HG := hide (only_drew (World.grownBy.refl w (some b)))
  have c0 : w.cell? ⟨b, 0, none⟩ = some (.pointer (some ⟨fp, 0, none⟩)) := hb.cell 0
  have c1 : w.cell? ⟨b, 1, none⟩ = some (.int .i64 y) := hb.cell 1
  have c3 : w.cell? ⟨b, 3, none⟩ = some (.int .i64 ht) := hb.cell 3
  clear hf hok hb
  generalize edgesF W (cut y) (cut ht) fs = E at *
  obtain ⟨el, er, em⟩ := E
  have hR := HR.out
  have hL := HL.out
  simp only at hR hL
  go_enter Try.func135, Try.ntmps135
  go_wp2_with fail
  go_region_held3 (fun X => X.cell? ⟨b, 0, none⟩ = some (.pointer (some ⟨fp, 0, none⟩)) ∧ X.cell? ⟨b, 1, none⟩ = some (.int .i64 y) ∧ X.cell? ⟨b, 3, none⟩ = some (.int .i64 ht)) (first | exact ⟨c0, c1, c3⟩ | exact ⟨r0, r1, r3⟩ | exact ⟨(HB5.out.set_ 6 _).cell 0, (HB5.out.set_ 6 _).cell 1, (HB5.out.set_ 6 _).cell 3⟩ | exact ⟨(HB5.out.set_ 7 _).cell 0, (HB5.out.set_ 7 _).cell 1, (HB5.out.set_ 7 _).cell 3⟩ | exact ⟨((HB5.out.set_ 6 _).set_ 7 _).cell 0, ((HB5.out.set_ 6 _).set_ 7 _).cell 1, ((HB5.out.set_ 6 _).set_ 7 _).cell 3⟩ | exact ⟨((HB5.out.set_ 7 _).set_ 6 _).cell 0, ((HB5.out.set_ 7 _).set_ 6 _).cell 1, ((HB5.out.set_ 7 _).set_ 6 _).cell 3⟩ | go_keep) ((go_at_call 39; refine HE.out.mono ?_; rintro e w5 ⟨rfl, hb5⟩; have HB5 := hide (HB.out.below hb5 HB.out.lt); have r0 : w5.cell? ⟨b, 0, none⟩ = some (.pointer (some ⟨fp, 0, none⟩)) := HB5.out.cell 0; have r1 : w5.cell? ⟨b, 1, none⟩ = some (.int .i64 y) := HB5.out.cell 1; have r3 : w5.cell? ⟨b, 3, none⟩ = some (.int .i64 ht) := HB5.out.cell 3; have r6 : w5.cell? ⟨b, 6, none⟩ = some (.int .i64 lf) := HB5.out.cell 6; have r7 : w5.cell? ⟨b, 7, none⟩ = some (.int .i64 rt) := HB5.out.cell 7; have fz6 : w5.frozen? ⟨b, 6, none⟩ = false := HB5.out.frozen 6; have fz7 : w5.frozen? ⟨b, 7, none⟩ = false := HB5.out.frozen 7))
  have HB7 := hide (show Blk ((w5.setCell ⟨b, 6, none⟩ (.int .i64 el)).setCell ⟨b, 7, none⟩ (.int .i64 er)) b 174 (brA fp y sz ht al ind el er line full late out) from (HB5.out.set_ 6 _).set_ 7 _)
  have g7 := hide (only_setCell (p := ⟨b, 7, none⟩) (only_setCell (p := ⟨b, 6, none⟩) (only_of_below hb5 (some b)) (.inl rfl) (.int .i64 el)) (.inl rfl) (.int .i64 er))
  generalize (w5.setCell ⟨b, 6, none⟩ (.int .i64 el)).setCell ⟨b, 7, none⟩ (.int .i64 er) = w7 at *
  clear r0 r1 r3 r6 r7 fz6 fz7 c0 c1 c3 hb5 HB HB5 HE
  have q5 : w7.cell? ⟨b, 5, none⟩ = some (.int .i64 ind) := HB7.out.cell 5
  have q6 : w7.cell? ⟨b, 6, none⟩ = some (.int .i64 el) := HB7.out.cell 6
  have fq6 : w7.frozen? ⟨b, 6, none⟩ = false := HB7.out.frozen 6
  have hwr : IntKind.i64.wrap (el + ind) = el + ind := IntWalk.i64_in _ (by omega)
  go_wp2_with fail
  go_region
  go_end0
  exact ⟨rfl, (HB7.out.set_ 6 _).drew, only_drew (grownBy_trans HG.out (only_setCell (p := ⟨b, 6, none⟩) g7.out (.inl rfl) _))⟩
end Go.Proofs.Ytadlabndbomgmaa
/- Opening a law's arguments: what the walk is told of them. No program in sight. -/
namespace Go.Proofs.Ytadlabndbomgmaa
open Go.RowKit Go.ChangeShapes Go.WideShapes Go.Deep Go.ChangeAt
section
variable {H : Type} {enc : TypeId × Value → H} {P : Program} {w : World} {base : Nat} {spare : Nat → Bool} {held : Bool}
theorem cell_lt {w : World} {p : Addr} {v : Value} (h : w.cell? p = some v) : p.block < w.heap.size := by
  unfold World.cell? at h
  rcases Nat.lt_or_ge p.block w.heap.size with hlt | hge
  · exact hlt
  · rw [Array.getElem?_eq_none hge] at h; cases h
/-- A slice of integers that came in reads as a list. -/
theorem open_ints_reads {r : Reach} {b0 : Nat} {t e : TypeId} {k : IntKind} {v : Value} {d : DataW H} {ps : List MemPlace} (ht : P.underlying t = some (.slice e)) (he : P.underlying e = some (.int k)) (hc : P.cellsOf e = 1)
    (hval : Value.okWide P w r b0 t v) (hd : DataW.Trod enc P w base spare held t v d ps) :
    ∃ (A : Option Addr) (n c : Nat) (xs : List Int), v = .slice A n c ∧ n ≤ c ∧ c ≤ maxLen ∧ Reads w w.heap.size 1 A n (xs.map (.int k)) ∧ ∀ x ∈ xs, (Lit.int k x).wf = true := by
  obtain ⟨A, n, c, rfl⟩ := okWide_slice ht hval
  obtain ⟨fuel, hf⟩ := hd
  rcases open_ints ht he hc hf with ⟨hcs, _⟩ | ⟨x, l, c', zs, hcs, _, hl, hm, hz, _, hcell, hwz⟩
  · simp [Value.cells] at hcs
    obtain ⟨rfl, rfl, rfl⟩ := hcs
    exact ⟨none, 0, 0, [], rfl, Nat.le_refl _, Nat.zero_le _, by simpa using Reads.none_, by simp⟩
  · simp [Value.cells] at hcs
    obtain ⟨rfl, rfl, rfl⟩ := hcs
    have hzl : n ≤ zs.length := by rw [hz]; split <;> omega
    refine ⟨some x, n, c, zs.take n, rfl, hl, hm, ⟨by simp; omega, fun hn => ⟨x, rfl, ?_, fun j u hj => ?_⟩⟩, fun y hy => hwz y (List.mem_of_mem_take hy)⟩
    · have := hcell 0 (by omega)
      have h2 := cell_lt this
      rwa [block_of_add] at h2
    · rw [List.getElem?_map, List.getElem?_take] at hj
      split at hj
      · rename_i hjn
        rw [hcell j (by omega), ← hj]
        simp [List.getD, List.getElem?_eq_getElem (show j < zs.length by omega)]
      · cases hj
theorem wf_i64 {x : Int} (h : (Lit.int .i64 x).wf = true) : -9223372036854775808 ≤ x ∧ x ≤ 9223372036854775807 := by
  simp [Lit.wf, IntKind.min, IntKind.max, IntKind.signed, IntKind.bits] at h
  omega
/-- A slice of records of integers: the cell of field j of record k. -/
def Recs (w : World) (B size : Nat) (A : Option Addr) (n : Nat) (R : Nat → Nat → Int) : Prop :=
  ∀ k, k < n → ∃ g off, A = some ⟨g, off, none⟩ ∧ g < B ∧ ∀ j, j < size → w.cell? ⟨g, off + k * size + j, none⟩ = some (.int .i64 (R k j))
theorem Recs.below {w w' : World} {B size n : Nat} {A : Option Addr} {R : Nat → Nat → Int} (h : Recs w B size A n R) (hb : Below B w w') : Recs w' B size A n R := by
  intro k hk
  obtain ⟨g, off, hA, hg, hc⟩ := h k hk
  exact ⟨g, off, hA, hg, fun j hj => (hb.cell (p := ⟨g, off + k * size + j, none⟩) hg).trans (hc j hj)⟩
theorem Recs.drewN {w : World} {B size n : Nat} {A : Option Addr} {R : Nat → Nat → Int} (h : Recs w B size A n R) (k : Nat) : Recs (w.drewN k) B size A n R := h
theorem open_recs {r : Reach} {b0 : Nat} {t e : TypeId} {fs : Array Field} {v : Value} {d : DataW H} {ps : List MemPlace} (ht : P.underlying t = some (.slice e)) (he : P.underlying e = some (.struct fs))
    (hone : oneCellFields P fs = true) (hC : P.cellsOf e = fs.size) (hpos : 0 < fs.size) {ti : TypeId} (hU : P.underlying ti = some (.int .i64)) (hty : fs.toList.map (·.type) = List.replicate fs.size ti)
    (hval : Value.okWide P w r b0 t v) (hd : DataW.Trod enc P w base spare held t v d ps) :
    ∃ (A : Option Addr) (n c : Nat) (R : Nat → Nat → Int), v = .slice A n c ∧ n ≤ c ∧ c ≤ maxLen ∧ Recs w w.heap.size fs.size A n R ∧ ∀ k j, -9223372036854775808 ≤ R k j ∧ R k j ≤ 9223372036854775807 := by
  have hint : ∀ (j : Nat) (f : Field), fs[j]? = some f → P.underlying f.type = some (.int .i64) := by
    intro j f hj
    have h1 : (fs.toList.map (·.type))[j]? = some f.type := by rw [List.getElem?_map, Array.getElem?_toList, hj]; rfl
    rw [hty, List.getElem?_replicate] at h1
    split at h1
    · injection h1 with h1; rw [← h1]; exact hU
    · cases h1
  obtain ⟨A, n, c, rfl⟩ := okWide_slice ht hval
  obtain ⟨fuel, hf⟩ := hd
  rcases open_slice_fields ht he hone hC hf with ⟨hcs, _⟩ | ⟨a, l, c', m, D, Pl, hcs, _, hl, hm, hmm, _, hel⟩
  · simp [Value.cells] at hcs
    obtain ⟨rfl, rfl, rfl⟩ := hcs
    exact ⟨none, 0, 0, fun _ _ => 0, rfl, Nat.le_refl _, Nat.zero_le _, fun k hk => by omega, fun _ _ => by dsimp only; omega⟩
  · simp [Value.cells] at hcs
    obtain ⟨rfl, rfl, rfl⟩ := hcs
    have hnm : n ≤ m := by rw [hmm]; split <;> omega
    have hx : ∀ k j, k < n → j < fs.size → ∃ x, w.cell? (a.add (k * fs.size + j)) = some (.int .i64 x) ∧ (Lit.int .i64 x).wf = true := by
      intro k j hk hj
      obtain ⟨ys, n', _, _, _, hfd⟩ := hel k (by omega)
      obtain ⟨v, y, hc, _, hy⟩ := hfd j fs[j] (Array.getElem?_eq_getElem hj)
      obtain ⟨x, hv, _, hwf⟩ := DataW.trod_int (hint j fs[j] (Array.getElem?_eq_getElem hj)) hy
      simp at hv
      subst hv
      exact ⟨x, hc, hwf⟩
    refine ⟨some a, n, c, fun k j => if h : k < n ∧ j < fs.size then Classical.choose (hx k j h.1 h.2) else 0, rfl, hl, hm, ?_, ?_⟩
    · intro k hk
      obtain ⟨x, hc, _⟩ := hx k 0 hk (by omega)
      have hlt := cell_lt hc
      rw [block_of_add] at hlt
      obtain ⟨g, off, spot⟩ := a
      have hspot : spot = none := by
        have h1 := hx 0 0 (by omega) (by omega)
        obtain ⟨x1, hc1, _⟩ := h1
        simp [Addr.add] at hc1
        simpa using World.cell?_spot hc1
      subst hspot
      refine ⟨g, off, rfl, hlt, fun j hj => ?_⟩
      have hadd : ∀ i, (⟨g, off, none⟩ : Addr).add i = ⟨g, off + i, none⟩ := fun i => by unfold Addr.add; split <;> simp_all
      have h2 := Classical.choose_spec (hx k j hk hj)
      simp only [dif_pos (show k < n ∧ j < fs.size from ⟨hk, hj⟩)]
      rw [Nat.add_assoc, ← hadd]
      exact h2.1
    · intro k j
      by_cases h : k < n ∧ j < fs.size
      · simp only [dif_pos h]
        exact wf_i64 (Classical.choose_spec (hx k j h.1 h.2)).2
      · simp only [dif_neg h]; omega
end
end Go.Proofs.Ytadlabndbomgmaa
/- Plain facts on pictures: commands, what is clipped, groups, colors one over the other. No program in sight. -/
namespace Go.Proofs.Ytadlabndbomgmaa
/-- A rectangle. -/
structure Rc where
  x : Int
  y : Int
  w : Int
  h : Int
def rc0 : Rc := ⟨0, 0, 0, 0⟩
def allR : Rc := ⟨-16777216, -16777216, 33554432, 33554432⟩
def meetR (a b : Rc) : Rc :=
  if min (a.x + a.w) (b.x + b.w) - max a.x b.x ≤ 0 ∨ min (a.y + a.h) (b.y + b.h) - max a.y b.y ≤ 0 then rc0
  else ⟨max a.x b.x, max a.y b.y, min (a.x + a.w) (b.x + b.w) - max a.x b.x, min (a.y + a.h) (b.y + b.h) - max a.y b.y⟩
def inR (r : Rc) (x y : Int) : Bool := ((decide (r.x ≤ x) && decide (x - r.x < r.w)) && decide (r.y ≤ y)) && decide (y - r.y < r.h)
theorem inR_iff (r : Rc) (x y : Int) : inR r x y = true ↔ (r.x ≤ x ∧ x - r.x < r.w) ∧ r.y ≤ y ∧ y - r.y < r.h := by
  simp [inR, and_assoc]
theorem in_meet (a b : Rc) (x y : Int) : inR (meetR a b) x y = (inR a x y && inR b x y) := by
  rw [Bool.eq_iff_iff, Bool.and_eq_true, inR_iff, inR_iff, inR_iff]
  unfold meetR
  split
  · simp only [rc0]; omega
  · simp only; omega
/-- Rectangles whose sums are tame. -/
def Rc.ok (r : Rc) : Prop := (-16777216 ≤ r.x ∧ r.x ≤ 16777216) ∧ (-16777216 ≤ r.y ∧ r.y ≤ 16777216) ∧ (-16777216 ≤ r.w ∧ r.w ≤ 50331648) ∧ (-16777216 ≤ r.h ∧ r.h ≤ 50331648)
/-- Clips: their ends are tame. -/
def Rc.clip (r : Rc) : Prop := (-16777216 ≤ r.x ∧ r.x ≤ 16777216) ∧ (-16777216 ≤ r.y ∧ r.y ≤ 16777216) ∧ (0 ≤ r.w ∧ r.x + r.w ≤ 33554432) ∧ (0 ≤ r.h ∧ r.y + r.h ≤ 33554432)
theorem allR_clip : allR.clip := by simp [Rc.clip, allR]
theorem meet_clip {a b : Rc} (ha : a.clip) (hb : (-16777216 ≤ b.x ∧ b.x ≤ 16777216) ∧ (-16777216 ≤ b.y ∧ b.y ≤ 16777216)) : (meetR a b).clip := by
  unfold Rc.clip at *
  unfold meetR
  split
  · simp [rc0]
  · simp only; omega
/-- A command. -/
structure Cm where
  do_ : Int
  node : Int
  x : Int
  y : Int
  w : Int
  h : Int
  c : Int
  n : Int
  t : ByteArray
def rectC (c : Cm) : Rc := ⟨cut c.x, cut c.y, cut c.w, cut c.h⟩
theorem rectC_bd (c : Cm) : (-16777216 ≤ (rectC c).x ∧ (rectC c).x ≤ 16777216) ∧ (-16777216 ≤ (rectC c).y ∧ (rectC c).y ≤ 16777216) := by
  have h1 := cut_lo c.x
  have h2 := cut_hi c.x
  have h3 := cut_lo c.y
  have h4 := cut_hi c.y
  simp only [rectC]; omega
def partN (n : Int) : Int := min (max n 0) 1000
theorem partN_0 : partN 0 = 0 := by decide
theorem partN_1 : partN 1000 = 1000 := by decide
structure Dr where
  c : Cm
  clip : Rc
  n : Int
abbrev Lay := List (Rc × Int)
/-- What a list of commands comes to: an error, the layers that are open, what is drawn. -/
def flatS : Lay → List Dr → List Cm → Int × Lay × List Dr
  | ar, out, [] => (0, ar, out)
  | ar, out, c :: l =>
    if c.do_ = 1 ∨ c.do_ = 2 then flatS ar (out ++ [⟨c, (ar.headD (rc0, 0)).1, (ar.headD (rc0, 0)).2⟩]) l
    else if c.do_ = 3 then flatS ((meetR (ar.headD (rc0, 0)).1 (rectC c), (ar.headD (rc0, 0)).2) :: ar) out l
    else if c.do_ = 4 then flatS (((ar.headD (rc0, 0)).1, (ar.headD (rc0, 0)).2 * partN c.n / 1000) :: ar) out l
    else if c.do_ = 5 then (if ar.length = 1 then (3, [], []) else flatS ar.tail out l)
    else (7, [], [])
def flatF (l : List Cm) : Int × List Dr :=
  if (flatS [(allR, 1000)] [] l).1 ≠ 0 then ((flatS [(allR, 1000)] [] l).1, [])
  else if 1 < (flatS [(allR, 1000)] [] l).2.1.length then (3, []) else (0, (flatS [(allR, 1000)] [] l).2.2)
theorem flatS_append : ∀ (l m : List Cm) (ar : Lay) (out : List Dr), flatS ar out (l ++ m) = if (flatS ar out l).1 = 0 then flatS (flatS ar out l).2.1 (flatS ar out l).2.2 m else flatS ar out l
  | [], m, ar, out => by simp [flatS]
  | c :: l, m, ar, out => by
    simp only [List.cons_append, flatS]
    split
    · exact flatS_append l m _ _
    · split
      · exact flatS_append l m _ _
      · split
        · exact flatS_append l m _ _
        · split
          · split
            · simp
            · exact flatS_append l m _ _
          · simp
/-- Two lists of layers, of what is drawn, alike but for clips and parts. -/
def lays (ρ : Rc × Int → Rc × Int → Prop) : Lay → Lay → Prop
  | [], [] => True
  | a :: l, b :: m => ρ a b ∧ lays ρ l m
  | _, _ => False
def draws (ρ : Rc × Int → Rc × Int → Prop) : List Dr → List Dr → Prop
  | [], [] => True
  | a :: l, b :: m => (a.c = b.c ∧ ρ (a.clip, a.n) (b.clip, b.n)) ∧ draws ρ l m
  | _, _ => False
theorem draws_snoc {ρ : Rc × Int → Rc × Int → Prop} {l m : List Dr} {a b : Dr} (h : draws ρ l m) (h1 : a.c = b.c) (h2 : ρ (a.clip, a.n) (b.clip, b.n)) : draws ρ (l ++ [a]) (m ++ [b]) := by
  induction l generalizing m with
  | nil =>
    cases m with
    | nil => exact ⟨⟨h1, h2⟩, trivial⟩
    | cons _ _ => exact h.elim
  | cons c l ih =>
    cases m with
    | nil => exact h.elim
    | cons d m => exact ⟨h.1, ih h.2⟩
theorem draws_len {ρ : Rc × Int → Rc × Int → Prop} {l m : List Dr} (h : draws ρ l m) : l.length = m.length := by
  induction l generalizing m with
  | nil =>
    cases m with
    | nil => rfl
    | cons _ _ => exact h.elim
  | cons c l ih =>
    cases m with
    | nil => exact h.elim
    | cons d m => simp [ih h.2]
theorem lays_len {ρ : Rc × Int → Rc × Int → Prop} {l m : Lay} (h : lays ρ l m) : l.length = m.length := by
  induction l generalizing m with
  | nil =>
    cases m with
    | nil => rfl
    | cons _ _ => exact h.elim
  | cons c l ih =>
    cases m with
    | nil => exact h.elim
    | cons d m => simp [ih h.2]
theorem flat_rel (ρ : Rc × Int → Rc × Int → Prop) (hclip : ∀ a n b m r, ρ (a, n) (b, m) → ρ (meetR a r, n) (meetR b r, m)) (hgroup : ∀ a n b m p, ρ (a, n) (b, m) → ρ (a, n * partN p / 1000) (b, m * partN p / 1000)) (base : Lay) :
    ∀ (l : List Cm) (ar ar' : Lay) (out out' : List Dr), ar ≠ [] → lays ρ ar ar' → draws ρ out out' → (flatS ar out l).1 = 0 →
      ∃ ar2 ar2' out2 out2', flatS ar out l = (0, ar2, out2) ∧ flatS (ar' ++ base) out' l = (0, ar2' ++ base, out2') ∧ ar2 ≠ [] ∧ lays ρ ar2 ar2' ∧ draws ρ out2 out2'
  | [], ar, ar', out, out', hne, hl, hd, _ => ⟨ar, ar', out, out', rfl, rfl, hne, hl, hd⟩
  | c :: l, ar, ar', out, out', hne, hl, hd, h0 => by
    cases ar with
    | nil => exact absurd rfl hne
    | cons a ar =>
      cases ar' with
      | nil => exact hl.elim
      | cons b ar' =>
        obtain ⟨ac, an⟩ := a
        obtain ⟨bc, bn⟩ := b
        simp only [flatS, List.headD_cons, List.cons_append, List.tail_cons] at h0 ⊢
        by_cases h1 : c.do_ = 1 ∨ c.do_ = 2
        · rw [if_pos h1] at h0 ⊢
          rw [if_pos h1]
          exact flat_rel ρ hclip hgroup base l ((ac, an) :: ar) ((bc, bn) :: ar') _ _ (by simp) hl (draws_snoc (a := ⟨c, ac, an⟩) (b := ⟨c, bc, bn⟩) hd rfl hl.1) h0
        · rw [if_neg h1] at h0 ⊢
          rw [if_neg h1]
          by_cases h2 : c.do_ = 3
          · rw [if_pos h2] at h0 ⊢
            rw [if_pos h2]
            exact flat_rel ρ hclip hgroup base l ((meetR ac (rectC c), an) :: (ac, an) :: ar) ((meetR bc (rectC c), bn) :: (bc, bn) :: ar') _ _ (by simp) ⟨hclip _ _ _ _ _ hl.1, hl⟩ hd h0
          · rw [if_neg h2] at h0 ⊢
            rw [if_neg h2]
            by_cases h3 : c.do_ = 4
            · rw [if_pos h3] at h0 ⊢
              rw [if_pos h3]
              exact flat_rel ρ hclip hgroup base l ((ac, an * partN c.n / 1000) :: (ac, an) :: ar) ((bc, bn * partN c.n / 1000) :: (bc, bn) :: ar') _ _ (by simp) ⟨hgroup _ _ _ _ _ hl.1, hl⟩ hd h0
            · rw [if_neg h3] at h0 ⊢
              rw [if_neg h3]
              by_cases h4 : c.do_ = 5
              · rw [if_pos h4] at h0 ⊢
                rw [if_pos h4]
                by_cases h5 : ((ac, an) :: ar).length = 1
                · rw [if_pos h5] at h0; simp at h0
                · rw [if_neg h5] at h0 ⊢
                  have hlen := lays_len hl
                  have h6 : ¬ ((bc, bn) :: (ar' ++ base)).length = 1 := by simp at h5 hlen ⊢; intro h; rw [h] at hlen; simp at hlen; exact absurd hlen h5
                  rw [if_neg h6]
                  exact flat_rel ρ hclip hgroup base l ar ar' _ _ (by intro h; rw [h] at h5; simp at h5) hl.2 hd h0
              · rw [if_neg h4] at h0; simp at h0
/-! Colors. -/
def chan (v : Int) (m : Int) : Int := v / m % 256
theorem chan_bd (v m : Int) : 0 ≤ chan v m ∧ chan v m ≤ 255 := by unfold chan; omega
def alphaF (top n : Int) : Int := top % 256 * partN n / 1000
theorem alphaF_bd (top n : Int) : 0 ≤ alphaF top n ∧ alphaF top n ≤ 255 := by
  have h1 : 0 ≤ partN n ∧ partN n ≤ 1000 := by unfold partN; omega
  have h2 : 0 ≤ top % 256 * partN n := Int.mul_nonneg (by omega) (by omega)
  have h3 : top % 256 * partN n ≤ 255 * 1000 := Int.mul_le_mul (by omega) (by omega) (by omega) (by omega)
  unfold alphaF; omega
def mixF (a b al : Int) : Int := (a * al + b * (255 - al) + 127) / 255
theorem mix_sum (a b al : Int) : a * al + b * (255 - al) = b * 255 + (a - b) * al := by
  rw [Int.mul_sub, Int.sub_mul]; omega
theorem mix_bd {a b al : Int} (ha : 0 ≤ al ∧ al ≤ 255) : min a b ≤ mixF a b al ∧ mixF a b al ≤ max a b := by
  unfold mixF
  rw [mix_sum]
  rcases Int.le_total b a with h | h
  · have h1 : 0 ≤ (a - b) * al := Int.mul_nonneg (by omega) (by omega)
    have h2 : (a - b) * al ≤ (a - b) * 255 := Int.mul_le_mul (Int.le_refl _) (by omega) (by omega) (by omega)
    omega
  · have h1 : 0 ≤ (b - a) * al := Int.mul_nonneg (by omega) (by omega)
    have h2 : (b - a) * al ≤ (b - a) * 255 := Int.mul_le_mul (Int.le_refl _) (by omega) (by omega) (by omega)
    have h3 : (a - b) * al = -((b - a) * al) := by rw [← Int.neg_mul]; congr 1; omega
    omega
theorem mix_chan (a b al m : Int) (ha : 0 ≤ al ∧ al ≤ 255) : 0 ≤ mixF (chan a m) (chan b m) al ∧ mixF (chan a m) (chan b m) al ≤ 255 := by
  have h1 := chan_bd a m
  have h2 := chan_bd b m
  have h3 := mix_bd (a := chan a m) (b := chan b m) ha
  omega
/-- A color over another one. -/
def overF (top under n : Int) : Int :=
  255 + mixF (chan top 256) (chan under 256) (alphaF top n) * 256 + mixF (chan top 65536) (chan under 65536) (alphaF top n) * 65536 + mixF (chan top 16777216) (chan under 16777216) (alphaF top n) * 16777216
theorem mix_0 (a b : Int) (h : 0 ≤ b ∧ b ≤ 255) : mixF a b 0 = b := by unfold mixF; omega
theorem mix_255 (a b : Int) (h : 0 ≤ a ∧ a ≤ 255) : mixF a b 255 = a := by unfold mixF; omega
theorem over_0 {top under n : Int} (h : alphaF top n = 0) : overF top under n = (under / 256 * 256 + 255) % 4294967296 := by
  unfold overF
  rw [h, mix_0 _ _ (chan_bd _ _), mix_0 _ _ (chan_bd _ _), mix_0 _ _ (chan_bd _ _)]
  unfold chan; omega
theorem over_255 {top under n : Int} (h : alphaF top n = 255) : overF top under n = (top / 256 * 256 + 255) % 4294967296 := by
  unfold overF
  rw [h, mix_255 _ _ (chan_bd _ _), mix_255 _ _ (chan_bd _ _), mix_255 _ _ (chan_bd _ _)]
  unfold chan; omega
theorem over_bd (top under n : Int) : 0 ≤ overF top under n ∧ overF top under n ≤ 4294967295 := by
  have h := alphaF_bd top n
  have h1 := mix_chan top under _ 256 h
  have h2 := mix_chan top under _ 65536 h
  have h3 := mix_chan top under _ 16777216 h
  unfold overF; omega
theorem over_chan (top under n : Int) : chan (overF top under n) 256 = mixF (chan top 256) (chan under 256) (alphaF top n) ∧ chan (overF top under n) 65536 = mixF (chan top 65536) (chan under 65536) (alphaF top n) ∧ chan (overF top under n) 16777216 = mixF (chan top 16777216) (chan under 16777216) (alphaF top n) := by
  have h := alphaF_bd top n
  have h1 := mix_chan top under _ 256 h
  have h2 := mix_chan top under _ 65536 h
  have h3 := mix_chan top under _ 16777216 h
  unfold overF
  generalize mixF (chan top 256) (chan under 256) (alphaF top n) = a at *
  generalize mixF (chan top 65536) (chan under 65536) (alphaF top n) = b at *
  generalize mixF (chan top 16777216) (chan under 16777216) (alphaF top n) = c at *
  unfold chan; omega
/-! Pixels. -/
section
variable (gl : Cm → Int → Int → Bool)
def coversF (d : Dr) (x y : Int) : Bool := if inR d.clip x y then (if d.c.do_ = 1 then inR (rectC d.c) x y else gl d.c x y) else false
def pixF : List Dr → Int → Int → Int → Int
  | [], _, _, color => color
  | d :: l, x, y, color => pixF l x y (if coversF gl d x y then overF d.c.c color d.n else color)
def white : Int := 4294967295
theorem pixF_append : ∀ (l m : List Dr) (x y color : Int), pixF gl (l ++ m) x y color = pixF gl m x y (pixF gl l x y color)
  | [], _, _, _, _ => rfl
  | d :: l, m, x, y, color => pixF_append l m x y _
theorem pix_bd : ∀ (l : List Dr) (x y color : Int), (0 ≤ color ∧ color ≤ 4294967295) → 0 ≤ pixF gl l x y color ∧ pixF gl l x y color ≤ 4294967295
  | [], _, _, _, h => h
  | d :: l, x, y, color, h => by
    refine pix_bd l x y _ ?_
    split
    · exact over_bd _ _ _
    · exact h
/-- What is covered alike has the same color. -/
theorem pix_rel (ρ : Rc × Int → Rc × Int → Prop) (x y : Int) (hρ : ∀ a n b m, ρ (a, n) (b, m) → inR a x y = inR b x y ∧ n = m) (l m : List Dr) (color : Int) (h : draws ρ l m) : pixF gl l x y color = pixF gl m x y color := by
  induction l generalizing m color with
  | nil =>
    cases m with
    | nil => rfl
    | cons _ _ => exact h.elim
  | cons a l ih =>
    cases m with
    | nil => exact h.elim
    | cons b m =>
      have h1 := hρ _ _ _ _ h.1.2
      have h2 : coversF gl a x y = coversF gl b x y := by unfold coversF; rw [h1.1, h.1.1]
      simp only [pixF]
      rw [h2, h.1.1, h1.2]
      exact ih m _ h.2
/-- Where nothing is covered all is as it was. -/
theorem pix_none (x y : Int) : ∀ (m : List Dr) (color : Int), (∀ b ∈ m, coversF gl b x y = false) → pixF gl m x y color = color
  | [], _, _ => rfl
  | b :: m, color, h => by
    simp only [pixF]
    rw [if_neg (by rw [h b (by simp)]; simp)]
    exact pix_none x y m color fun d hd => h d (by simp [hd])
theorem pix_clear (x y : Int) : ∀ (m : List Dr), (∀ b ∈ m, b.n = 0) → pixF gl m x y white = white
  | [], _ => rfl
  | b :: m, h => by
    simp only [pixF]
    have e : (if coversF gl b x y then overF b.c.c white b.n else white) = white := by
      split
      · rw [over_0 (by rw [h b (by simp)]; simp [alphaF, partN_0])]; decide
      · rfl
    rw [e]
    exact pix_clear x y m fun d hd => h d (by simp [hd])
/-- A picture. -/
def drawF (l : List Dr) (wd ht : Nat) : List Int := (List.range (wd * ht)).map fun (i : Nat) => pixF gl l ((i : Int) % wd * 64 + 32) ((i : Int) / wd * 64 + 32) white
end
/-! What is clipped; groups. -/
def clipRel (r : Rc) (a b : Rc × Int) : Prop := (∀ x y, inR b.1 x y = (inR a.1 x y && inR r x y)) ∧ a.2 = b.2
theorem draws_mem {ρ : Rc × Int → Rc × Int → Prop} {l m : List Dr} (h : draws ρ l m) (b : Dr) (hb : b ∈ m) : ∃ a, a ∈ l ∧ a.c = b.c ∧ ρ (a.clip, a.n) (b.clip, b.n) := by
  induction l generalizing m with
  | nil =>
    cases m with
    | nil => simp at hb
    | cons _ _ => exact h.elim
  | cons a l ih =>
    cases m with
    | nil => exact h.elim
    | cons c m =>
      rcases List.mem_cons.1 hb with rfl | hb
      · exact ⟨a, by simp, h.1⟩
      · obtain ⟨d, hd, h1⟩ := ih h.2 hb
        exact ⟨d, by simp [hd], h1⟩
theorem flatF_ok {l : List Cm} (h : (flatF l).1 = 0) : ∃ a, (flatS [(allR, 1000)] [] l).1 = 0 ∧ flatS [(allR, 1000)] [] l = (0, a, (flatF l).2) ∧ a.length ≤ 1 := by
  unfold flatF at h ⊢
  by_cases h1 : (flatS [(allR, 1000)] [] l).1 ≠ 0
  · rw [if_pos h1] at h; exact absurd h h1
  · rw [if_neg h1] at h ⊢
    by_cases h2 : 1 < (flatS [(allR, 1000)] [] l).2.1.length
    · rw [if_pos h2] at h; simp at h
    · rw [if_neg h2]
      have h3 : (flatS [(allR, 1000)] [] l).1 = 0 := by simpa using h1
      exact ⟨(flatS [(allR, 1000)] [] l).2.1, h3, by rw [← h3], by omega⟩
/-- A list, wrapped into a command that opens a layer, and one that ends it. -/
theorem wrapped {ρ : Rc × Int → Rc × Int → Prop} (hclip : ∀ a n b m r, ρ (a, n) (b, m) → ρ (meetR a r, n) (meetR b r, m)) (hgroup : ∀ a n b m p, ρ (a, n) (b, m) → ρ (a, n * partN p / 1000) (b, m * partN p / 1000))
    {l : List Cm} {c d : Cm} (top : Rc × Int) (hc : ∀ m, flatS [(allR, 1000)] [] (c :: m) = flatS [top, (allR, 1000)] [] m) (hd : d.do_ = 5) (hρ : ρ (allR, 1000) top) (h : (flatF l).1 = 0) :
    (flatF (c :: (l ++ [d]))).1 = 0 ∧ draws ρ (flatF l).2 (flatF (c :: (l ++ [d]))).2 := by
  obtain ⟨a, h1, h2, h3⟩ := flatF_ok h
  obtain ⟨ar2, ar2', out2, out2', e1, e2, hne, hl, hdr⟩ := flat_rel ρ hclip hgroup [(allR, 1000)] l [(allR, 1000)] [top] [] [] (by simp) ⟨hρ, trivial⟩ trivial h1
  rw [h2] at e1
  injection e1 with _ e1
  injection e1 with e3 e4
  subst e3 e4
  have hlen := lays_len hl
  have ha : a.length = 1 := by
    cases a with
    | nil => exact absurd rfl hne
    | cons _ _ => simp at h3 ⊢; exact h3
  obtain ⟨t, rfl⟩ : ∃ t, ar2' = [t] := by
    match ar2', hlen with
    | [], hl => simp [ha] at hl
    | [t], _ => exact ⟨t, rfl⟩
    | _ :: _ :: _, hl => simp [ha] at hl
  have h4 : flatS [(allR, 1000)] [] (c :: (l ++ [d])) = (0, [(allR, 1000)], out2') := by
    rw [hc, flatS_append]
    have e2' : flatS [top, (allR, 1000)] [] l = (0, [t, (allR, 1000)], out2') := e2
    rw [e2']
    simp [flatS, hd]
  have h5 : flatF (c :: (l ++ [d])) = (0, out2') := by unfold flatF; rw [h4]; simp
  rw [h5]
  exact ⟨rfl, hdr⟩
theorem clip_law {l : List Cm} {c d : Cm} (hc : c.do_ = 3) (hd : d.do_ = 5) (h : (flatF l).1 = 0) : (flatF (c :: (l ++ [d]))).1 = 0 ∧ draws (clipRel (rectC c)) (flatF l).2 (flatF (c :: (l ++ [d]))).2 :=
  wrapped (ρ := clipRel (rectC c)) (fun a n b m r hr => ⟨fun x y => by rw [in_meet, in_meet, hr.1]; cases inR a x y <;> cases inR r x y <;> cases inR (rectC c) x y <;> rfl, hr.2⟩)
    (fun a n b m p hr => ⟨hr.1, by rw [show n = m from hr.2]⟩) (meetR allR (rectC c), 1000) (fun m => by simp [flatS, hc]) hd ⟨fun x y => in_meet _ _ x y, rfl⟩ h
def groupRel (one : Bool) (a b : Rc × Int) : Prop := a.1 = b.1 ∧ if one then a.2 = b.2 else b.2 = 0
theorem group_law {l : List Cm} {c d : Cm} (one : Bool) (hc : c.do_ = 4) (hn : c.n = if one then 1000 else 0) (hd : d.do_ = 5) (h : (flatF l).1 = 0) : (flatF (c :: (l ++ [d]))).1 = 0 ∧ draws (groupRel one) (flatF l).2 (flatF (c :: (l ++ [d]))).2 :=
  wrapped (ρ := groupRel one) (fun a n b m r hr => ⟨by rw [show a = b from hr.1], hr.2⟩)
    (fun a n b m p hr => ⟨hr.1, by
      have h2 := hr.2
      cases one
      · have h3 : m = 0 := h2
        rw [h3]; simp
      · have h3 : n = m := h2
        rw [h3]; simp⟩) (allR, if one then 1000 else 0) (fun m => by cases one <;> simp [flatS, hc, hn, partN_0, partN_1]) hd ⟨rfl, by cases one <;> simp⟩ h
theorem draw_at (gl : Cm → Int → Int → Bool) (l : List Dr) (wd ht i : Nat) (h : i < wd * ht) : at0 (drawF gl l wd ht) i = pixF gl l ((i : Int) % wd * 64 + 32) ((i : Int) / wd * 64 + 32) white := by
  rw [at0_of _ i (by simpa [drawF] using h)]; simp [drawF]
theorem draw_len (gl : Cm → Int → Int → Bool) (l : List Dr) (wd ht : Nat) : (drawF gl l wd ht).length = wd * ht := by simp [drawF]
/-- Beyond a clip nothing is painted; within all is as it was. -/
theorem clip_pix (gl : Cm → Int → Int → Bool) {l : List Cm} {c d : Cm} (hc : c.do_ = 3) (hd : d.do_ = 5) (h : (flatF l).1 = 0) (x y : Int) :
    pixF gl (flatF (c :: (l ++ [d]))).2 x y white = if inR (rectC c) x y then pixF gl (flatF l).2 x y white else white := by
  have h1 := (clip_law hc hd h).2
  cases hi : inR (rectC c) x y
  · simp only [Bool.false_eq_true, if_false]
    refine pix_none gl x y _ _ fun b hb => ?_
    obtain ⟨a, _, _, h2, _⟩ := draws_mem h1 b hb
    have h3 : inR b.clip x y = (inR a.clip x y && inR (rectC c) x y) := h2 x y
    unfold coversF
    rw [h3, hi]; simp
  · simp only [if_true]
    exact (pix_rel gl (clipRel (rectC c)) x y (fun a n b m hr => ⟨by rw [hr.1, hi, Bool.and_true], hr.2⟩) _ _ _ h1).symm
theorem group_one (gl : Cm → Int → Int → Bool) {l : List Cm} {c d : Cm} (hc : c.do_ = 4) (hn : c.n = 1000) (hd : d.do_ = 5) (h : (flatF l).1 = 0) (x y : Int) : pixF gl (flatF (c :: (l ++ [d]))).2 x y white = pixF gl (flatF l).2 x y white :=
  (pix_rel gl (groupRel true) x y (fun a n b m hr => ⟨by rw [show a = b from hr.1], hr.2⟩) _ _ _ (group_law true hc hn hd h).2).symm
theorem group_none (gl : Cm → Int → Int → Bool) {l : List Cm} {c d : Cm} (hc : c.do_ = 4) (hn : c.n = 0) (hd : d.do_ = 5) (h : (flatF l).1 = 0) (x y : Int) : pixF gl (flatF (c :: (l ++ [d]))).2 x y white = white :=
  pix_clear gl x y _ fun b hb => by
    obtain ⟨a, _, _, _, h2⟩ := draws_mem (group_law false hc hn hd h).2 b hb
    exact h2
end Go.Proofs.Ytadlabndbomgmaa
/- Plain facts on glyphs: has a text a dot at a place? No program in sight. -/
namespace Go.Proofs.Ytadlabndbomgmaa
def rowD (r k : Int) : Int := if r = 32 ∨ fourthsF r = 0 then 0 else (r + 1) * (k + 3) * 37 % 256 + (1 - (r + 1) * (k + 3) * 37 % 256 % 2)
theorem rowD_bd (r k : Int) : 0 ≤ rowD r k ∧ rowD r k ≤ 256 := by unfold rowD; split <;> omega
def dotF (r k j : Int) : Bool := rowD r k / 2 ^ (7 - j).toNat % 2 == 1
def hereF (size top x y left r : Int) : Bool := inR ⟨left, top, advF r size, size⟩ x y && dotF r (partOf (y - top) 8 size) (partOf (x - left) 8 (advF r size))
def glyphS (size sp top x y : Int) : Int → List Int → Bool
  | _, [] => false
  | left, r :: l => if hereF size top x y left r then true else glyphS size sp top x y (left + (advF r size + sp)) l
def glyphF (c : Cm) (x y : Int) : Bool := glyphS (sizeF c.n) (cut c.h) (cut c.y - ascF (sizeF c.n)) x y (cut c.x) (runesAt c.t 0)
/-- A part of eight, of what is within. -/
theorem part8 {a w : Int} (h0 : 0 ≤ a) (h1 : a < w) (h2 : w ≤ 16777216) : 0 ≤ partOf a 8 w ∧ partOf a 8 w ≤ 7 := by
  rw [part_of _ _ _ (cut_of (by omega) (by omega)) (cut_of (by omega) (by omega)) (cut_of (by omega) (by omega)) (by omega)]
  have h3 : 0 ≤ a * 8 / w := Int.ediv_nonneg (by omega) (by omega)
  have h4 : a * 8 / w < 8 := Int.ediv_lt_of_lt_mul (by omega) (by omega)
  rw [cut_of (by omega) (by omega)]
  omega
end Go.Proofs.Ytadlabndbomgmaa
/- Plain facts on sharing a number out by weights. No program in sight. -/
namespace Go.Proofs.Ytadlabndbomgmaa

/-- The weight at place k. -/
def wt (k : Nat) (x : Int) : Int := if 1000 ≤ k then 0 else max 0 (cut x)
/-- The sum of the first k weights. -/
def wsum (ws : List Int) : Nat → Int
  | 0 => 0
  | k + 1 => wsum ws k + wt k (at0 ws k)
theorem wt_bd (k : Nat) (x : Int) : 0 ≤ wt k x ∧ wt k x ≤ 16777216 := by unfold wt cut; split <;> omega
theorem wsum_nonneg (ws : List Int) (k : Nat) : 0 ≤ wsum ws k := by
  induction k with
  | zero => simp [wsum]
  | succ k ih => have := wt_bd k (at0 ws k); simp only [wsum]; omega
theorem wsum_le (ws : List Int) (k : Nat) : wsum ws k ≤ 16777216000 := by
  suffices h : wsum ws k ≤ 16777216 * (min k 1000 : Nat) by omega
  induction k with
  | zero => simp [wsum]
  | succ k ih =>
    simp only [wsum]
    by_cases hk : 1000 ≤ k
    · have : wt k (at0 ws k) = 0 := by unfold wt; rw [if_pos hk]
      omega
    · have := wt_bd k (at0 ws k); omega
theorem wsum_mono (ws : List Int) {j k : Nat} (h : j ≤ k) : wsum ws j ≤ wsum ws k := by
  induction h with
  | refl => exact Int.le_refl _
  | step _ ih => rename_i m _; have := wt_bd m (at0 ws m); simp only [wsum]; omega
/-- What the first k places have together. -/
def upTo (n : Int) (ws : List Int) (k : Nat) : Int := cut n * wsum ws k / wsum ws ws.length
/-- A number, shared out. -/
def shared (n : Int) (ws : List Int) : List Int :=
  if wsum ws ws.length = 0 then List.replicate ws.length 0 else (List.range ws.length).map fun k => upTo n ws (k + 1) - upTo n ws k
theorem shared_length (n : Int) (ws : List Int) : (shared n ws).length = ws.length := by unfold shared; split <;> simp
theorem mul_wsum_bound (n : Int) (ws : List Int) (k : Nat) : -281474976710656000 ≤ cut n * wsum ws k ∧ cut n * wsum ws k ≤ 281474976710656000 := by
  have h0 := wsum_nonneg ws k
  have h1 := wsum_le ws k
  have l := cut_lo n
  have u := cut_hi n
  have a1 : cut n * wsum ws k ≤ 16777216 * wsum ws k := Int.mul_le_mul_of_nonneg_right u h0
  have a2 : (-16777216) * wsum ws k ≤ cut n * wsum ws k := Int.mul_le_mul_of_nonneg_right l h0
  omega
theorem upTo_zero (n : Int) (ws : List Int) : upTo n ws 0 = 0 := by simp [upTo, wsum]
theorem upTo_all (n : Int) (ws : List Int) (h : wsum ws ws.length ≠ 0) : upTo n ws ws.length = cut n := by
  unfold upTo; exact Int.mul_ediv_cancel _ h
theorem upTo_bound (n : Int) (ws : List Int) (k : Nat) : -281474976710656000 ≤ upTo n ws k ∧ upTo n ws k ≤ 281474976710656000 := by
  have h := mul_wsum_bound n ws k
  have h0 := wsum_nonneg ws ws.length
  unfold upTo
  by_cases hz : wsum ws ws.length = 0
  · rw [hz]; simp
  · refine ⟨Int.le_ediv_of_mul_le (by omega) ?_, Int.ediv_le_of_le_mul (by omega) ?_⟩
    · have : -281474976710656000 * wsum ws ws.length ≤ -281474976710656000 * 1 := by
        have := Int.mul_le_mul_of_nonneg_left (show (1 : Int) ≤ wsum ws ws.length by omega) (show (0 : Int) ≤ 281474976710656000 by omega)
        omega
      omega
    · have := Int.mul_le_mul_of_nonneg_left (show (1 : Int) ≤ wsum ws ws.length by omega) (show (0 : Int) ≤ 281474976710656000 by omega)
      omega
theorem upTo_step_nonneg {n : Int} (ws : List Int) (h : 0 ≤ n) (k : Nat) : upTo n ws k ≤ upTo n ws (k + 1) := by
  unfold upTo
  have h0 := wsum_nonneg ws ws.length
  by_cases hz : wsum ws ws.length = 0
  · rw [hz]; simp
  · exact Int.ediv_le_ediv (by omega) (Int.mul_le_mul_of_nonneg_left (wsum_mono ws (Nat.le_succ k)) (cut_nonneg h))
theorem upTo_step_nonpos {n : Int} (ws : List Int) (h : n ≤ 0) (k : Nat) : upTo n ws (k + 1) ≤ upTo n ws k := by
  unfold upTo
  have h0 := wsum_nonneg ws ws.length
  by_cases hz : wsum ws ws.length = 0
  · rw [hz]; simp
  · refine Int.ediv_le_ediv (by omega) ?_
    have := Int.mul_le_mul_of_nonneg_left (wsum_mono ws (show k ≤ k + 1 by omega)) (show 0 ≤ -(cut n) by unfold cut; omega)
    rw [Int.neg_mul, Int.neg_mul] at this
    omega
theorem upTo_step_same (n : Int) (ws : List Int) (k : Nat) (h : wt k (at0 ws k) = 0) : upTo n ws (k + 1) = upTo n ws k := by
  unfold upTo; simp only [wsum]; rw [h, Int.add_zero]
/-- At each place. -/
theorem shared_at (n : Int) (ws : List Int) (k : Nat) (hk : k < ws.length) :
    (shared n ws)[k]? = some (if wsum ws ws.length = 0 then 0 else upTo n ws (k + 1) - upTo n ws k) := by
  unfold shared; split
  · simp [hk]
  · simp [hk]
theorem shared_getD (n : Int) (ws : List Int) (k : Nat) (hk : k < ws.length) :
    at0 (shared n ws) k = (if wsum ws ws.length = 0 then 0 else upTo n ws (k + 1) - upTo n ws k) := by
  simp [at0, List.getD, shared_at n ws k hk]
theorem shared_nonneg {n : Int} (ws : List Int) (h : 0 ≤ n) (k : Nat) : 0 ≤ at0 (shared n ws) k := by
  by_cases hk : k < ws.length
  · rw [shared_getD n ws k hk]; split
    · omega
    · have := upTo_step_nonneg ws h k; omega
  · simp [at0, List.getD, List.getElem?_eq_none (show (shared n ws).length ≤ k by rw [shared_length]; omega)]
theorem shared_nonpos {n : Int} (ws : List Int) (h : n ≤ 0) (k : Nat) : at0 (shared n ws) k ≤ 0 := by
  by_cases hk : k < ws.length
  · rw [shared_getD n ws k hk]; split
    · omega
    · have := upTo_step_nonpos ws h k; omega
  · simp [at0, List.getD, List.getElem?_eq_none (show (shared n ws).length ≤ k by rw [shared_length]; omega)]
theorem shared_idle (n : Int) (ws : List Int) (k : Nat) (hk : k < ws.length) (h : wt k (at0 ws k) = 0) : at0 (shared n ws) k = 0 := by
  rw [shared_getD n ws k hk]; split
  · rfl
  · have := upTo_step_same n ws k h; omega
theorem sum_map_steps (f : Nat → Int) (m : Nat) : ((List.range m).map fun k => f (k + 1) - f k).sum = f m - f 0 := by
  induction m with
  | zero => simp
  | succ m ih => rw [List.range_succ, List.map_append, List.sum_append, ih]; simp; omega
theorem shared_sum (n : Int) (ws : List Int) : (shared n ws).sum = if wsum ws ws.length = 0 then 0 else cut n := by
  unfold shared; split
  · have : ∀ m : Nat, (List.replicate m (0 : Int)).sum = 0 := fun m => by induction m <;> simp_all [List.replicate_succ]
    exact this _
  · rename_i h
    rw [sum_map_steps, upTo_all n ws h, upTo_zero]; omega
/-- There is some weight, if one of the first places has one. -/
theorem wsum_pos (ws : List Int) (k m : Nat) (hk : k < m) (h : 0 < wt k (at0 ws k)) : 0 < wsum ws m := by
  have h1 := wsum_mono ws (show k + 1 ≤ m by omega)
  have h2 := wsum_nonneg ws k
  simp only [wsum] at h1
  omega
theorem wsum_zero (ws : List Int) (m : Nat) (h : ∀ k, k < m → wt k (at0 ws k) = 0) : wsum ws m = 0 := by
  induction m with
  | zero => rfl
  | succ m ih => simp only [wsum]; rw [ih fun k hk => h k (by omega), h m (by omega)]; rfl
end Go.Proofs.Ytadlabndbomgmaa
/- Walks: fix.share, fix.Share (what is shared out is a row of the call's own that reads as 'shared'), and the sum of a slice. -/
namespace Go.Proofs.Ytadlabndbomgmaa
open Go.ChangeShapes Go.WideShapes Go.ChangeAt Go.RowKit
set_option maxRecDepth 100000 in
theorem weight_any (k n c : Nat) (p : Addr) (A : Option Addr) (B : Nat) (ws : List Int) (w : World) (hp : w.cell? p = some (.slice A n c)) (hr : Reads w B 1 A n (ws.map (Value.int .i64))) (hk : k < n) :
    Calls Try.prog 73 #[.int .i64 k, .pointer (some p)] w fun e w' => e = .returned (.int .i64 (wt k (at0 ws k))) ∧ w = w' := by
  obtain ⟨ad, rfl, _, hc⟩ := hr.int_at hk
  clear hr
  have hx := Lib.hid (show wt k (at0 ws k) = if 1000 ≤ k then 0 else max 0 (cut (at0 ws k)) from rfl)
  generalize at0 ws k = x at *
  by_cases hk1 : 1000 ≤ k
  · go_enter Try.func73, Try.ntmps73
    go_wp2_with (go_at_call 28; refine (cut_any _ _).mono ?_; rintro e w' ⟨rfl, rfl⟩)
    go_ret
    exact ⟨ret_int (by rw [hx.out, if_pos hk1]), rfl⟩
  · go_enter Try.func73, Try.ntmps73
    go_wp2_with (go_at_call 28; refine (cut_any _ _).mono ?_; rintro e w' ⟨rfl, rfl⟩)
    go_ret
    exact ⟨ret_int (by rw [hx.out, if_neg hk1]), rfl⟩
theorem share_any (n s a : Int) (w : World) (h1 : -281474976710656000 ≤ n * s) (h2 : n * s ≤ 281474976710656000) (ha : 1 ≤ a) (ha' : a ≤ 9223372036854775807) :
    Calls Try.prog 74 #[.int .i64 n, .int .i64 s, .int .i64 a] w fun e w' => e = .returned (.int .i64 (n * s / a)) ∧ w = w' := by
  go_enter Try.func74, Try.ntmps74
  go_wp2_with (go_at_call 70; refine (floor_any _ _ _ (by omega) (by omega) (by omega) (by omega)).mono ?_; rintro e w' ⟨rfl, rfl⟩)
  go_ret
  exact ⟨rfl, rfl⟩
set_option maxRecDepth 100000 in
theorem Share_any (n : Int) (A : Option Addr) (m c : Nat) (ws : List Int) (w : World) (hr : Reads w w.heap.size 1 A m (ws.map (Value.int .i64))) (hm : m ≤ 1000000) :
    Calls Try.prog 32 #[.int .i64 n, .slice A m c] w fun e w' => ∃ v, e = .returned v ∧ w'.ownsRow w.heap.size 3 1 v m ((shared n ws).map (Value.int .i64)) ∧ Below w.heap.size w w' := by
  obtain ⟨i0, hi0, hz0, hz1, hz2⟩ := info_parts int_info
  have hmk := fun W => run_make_rowN (P := Try.prog) 22 3 i0 _ Try.underlying22 hi0 hz0 .i64 .i64 m m (Nat.le_refl _) (by rw [hz2]; omega) (by omega) W
  rw [hz1, Nat.mul_one] at hmk
  have HR := hide hr
  clear hr
  go_enter Try.func32, Try.ntmps32
  go_wp2_with (go_at_call 28; refine (cut_any _ _).mono ?_; rintro e w' ⟨rfl, rfl⟩)
  have hbox : ((w.alloc (.cells #[.slice A m c] 22)).alloc (.cells (madeCells #[.int .i64 0] m) 3)).cell? ⟨w.heap.size, 0, none⟩ = some (.slice A m c) := by
    rw [World.cell?_alloc_lt _ _ _ (by simp)]
    exact (Blk.new w 22 #[.slice A m c]).cell 0
  have hown : ((w.alloc (.cells #[.slice A m c] 22)).alloc (.cells (madeCells #[.int .i64 0] m) 3)).ownsRow (w.heap.size + 1) 3 1 (.slice (some ⟨w.heap.size + 1, 0, none⟩) m m) m ((List.replicate m 0).map (Value.int .i64)) := by
    have := World.ownsRow_lit (e := 3) (size := 1) (base := w.heap.size + 1) (w.alloc (.cells #[.slice A m c] 22)) (madeCells #[.int .i64 0] m) m (by simp) (by unfold maxLen; omega) (by simp [madeCells])
    rw [madeCells_rep] at this
    simpa using this
  have hbel : Below w.heap.size w ((w.alloc (.cells #[.slice A m c] 22)).alloc (.cells (madeCells #[.int .i64 0] m) 3)) := ((Below.refl _ _).alloc (Nat.le_refl _) _).alloc (by simp) _
  generalize (w.alloc (.cells #[.slice A m c] 22)).alloc (.cells (madeCells #[.int .i64 0] m) 3) = w2 at *
  have HR2 := hide (HR.out.below hbel)
  have HR0 := hide HR.out
  have Hown := hide hown
  have hl : ws.length = m := by have := HR.out.1; simpa using this
  have HL := hide hl
  clear HR hown hmk hl
  go_loop [7, 8, 21] (fun s x i => ∃ k : Nat, k ≤ m ∧ i = .int .i64 k ∧ s = .int .i64 (wsum ws k)) (fun _ _ i => m - (intOf i).toNat)
  case atStart => exact ⟨0, Nat.zero_le _, rfl, rfl⟩
  case round =>
    obtain ⟨k, hk, rfl, rfl⟩ := hrel
    have b1 := wsum_nonneg ws k
    have b2 := wsum_le ws k
    by_cases hlt : k < m
    · have e1 := Lib.hid (show wsum ws (k + 1) = wsum ws k + wt k (at0 ws k) from rfl)
      have b3 := wt_bd k (at0 ws k)
      go_wp2_with (go_at_call 73; refine (weight_any _ _ _ _ _ _ ws _ hbox HR2.out hlt).mono ?_; rintro e w' ⟨rfl, rfl⟩)
      go_round
      case rel => exact ⟨k + 1, by omega, by go_num, by rw [e1.out]⟩
      case measure => simp [intOf]; omega
    · have hk2 : k = m := by omega
      subst hk2
      have hl := HL.out
      by_cases hz : wsum ws k = 0
      · have hzb : (wsum ws k == 0) = true := by simpa using hz
        have hfin := hide (show shared n ws = List.replicate k 0 from by unfold shared; rw [hl, if_pos hz])
        clear hz hl
        go_wp2
        go_ret
        exact ⟨_, rfl, by rw [hfin.out]; exact own_mono Hown.out (Nat.le_succ _), hbel⟩
      · have hzb : (wsum ws k == 0) = false := by simpa using hz
        have hZ := hide hz
        have hwp : 1 ≤ wsum ws k := by omega
        clear hz hl
        go_wp2_with fail
        go_loopw [9, 10, 11, 12, 35] (fun s t x u i wr => ∃ j : Nat, j ≤ k ∧ i = .int .i64 j ∧ s = .int .i64 (wsum ws j) ∧ t = .int .i64 (upTo n ws j) ∧ wr.cell? ⟨w.heap.size, 0, none⟩ = some (.slice A k c) ∧
            wr.ownsRow (w.heap.size + 1) 3 1 (.slice (some ⟨w.heap.size + 1, 0, none⟩) k k) k (((shared n ws).take j ++ List.replicate (k - j) 0).map (Value.int .i64)) ∧ Below w.heap.size w wr) (fun _ _ _ _ i _ => k - (intOf i).toNat)
        case atStart => exact ⟨0, Nat.zero_le _, rfl, rfl, by rw [upTo_zero], hbox, by simpa using Hown.out, hbel⟩
        case round =>
          obtain ⟨j, hj, rfl, rfl, rfl, hboxr, hownr, hbelr⟩ := hrel
          have HRr := hide (show Reads wr w.heap.size 1 A k (ws.map (Value.int .i64)) from by
            have h0 := HR0.out.below hbelr
            exact h0)
          have b0 := upTo_bound n ws j
          have b1 := upTo_bound n ws (j + 1)
          have c1 := wsum_nonneg ws j
          have c2 := wsum_le ws j
          have c3 := wsum_nonneg ws (j + 1)
          have c4 := wsum_le ws (j + 1)
          have c5 := wsum_le ws k
          have c6 := mul_wsum_bound n ws (j + 1)
          have hlen : (((shared n ws).take j ++ List.replicate (k - j) 0).map (Value.int .i64)).length = k := by
            have := hownr.1; simpa using this
          have hfr := hownr.frozenAt j
          have Hownr := hide hownr
          clear hownr
          by_cases hlt : j < k
          · have hce : ∃ u, wr.cell? ⟨w.heap.size + 1, j, none⟩ = some u := by
              have h1 := Hownr.out.cellAt j (by omega)
              rw [List.getElem?_eq_getElem (by omega)] at h1
              exact ⟨_, h1⟩
            obtain ⟨u0, hce⟩ := hce
            have e1 := Lib.hid (show wsum ws (j + 1) = wsum ws j + wt j (at0 ws j) from rfl)
            have e2 := Lib.hid (show upTo n ws (j + 1) = cut n * wsum ws (j + 1) / wsum ws k from by unfold upTo; rw [HL.out])
            have e3 := Lib.hid (show upTo n ws (j + 1) - upTo n ws j = at0 (shared n ws) j from by
              rw [shared_getD n ws j (by rw [HL.out]; exact hlt), HL.out, if_neg hZ.out])
            have b3 := wt_bd j (at0 ws j)
            clear hlen
            go_wp2_with (first
              | (go_at_call 73; refine (weight_any _ _ _ _ _ _ ws _ hboxr HRr.out hlt).mono ?_; rintro e w' ⟨rfl, rfl⟩)
              | (go_at_call 74; rw [← e1.out]; refine (share_any _ _ _ _ c6.1 c6.2 hwp (by omega)).mono ?_; rintro e w' ⟨rfl, rfl⟩; rw [← e2.out]))
            go_roundw
            case rel =>
              refine ⟨j + 1, by omega, by go_num, rfl, rfl, ?_, ?_, hbelr.setCell (by simp) _⟩
              · rw [World.cell?_setCell_other _ _ _ _ (by simp)]; exact hboxr
              · have h1 := (Hownr.out.stored j (.int .i64 (at0 (shared n ws) j))).1
                rw [← List.map_set, outs_set _ _ _ hlt (by rw [shared_length, HL.out])] at h1
                rw [e3.out]; exact h1
            case measure => simp [intOf]; omega
          · have hjk : j = k := by omega
            subst hjk
            have hfin := hide (show (shared n ws).take j ++ List.replicate (j - j) 0 = shared n ws from by
              rw [Nat.sub_self, List.replicate_zero, List.append_nil, List.take_of_length_le (by rw [shared_length, HL.out]; exact Nat.le_refl _)])
            clear hlen
            go_wp2
            go_ret
            exact ⟨_, rfl, by rw [← hfin.out]; exact own_mono Hownr.out (Nat.le_succ _), hbelr⟩
end Go.Proofs.Ytadlabndbomgmaa
/- Contracts of the library at this dump, laid by the shelf (lay-shelf.mjs, lay-plain.mjs): no walk. -/
namespace Go.Proofs
open Go.Shelf
def Try.lays119_ren : Go.Shelf.Ren := ⟨fun | 119 => 173 | n => n, fun | 21 => 21 | 4 => 4 | n => n, fun | n => n⟩
theorem Try.lays119 : Go.Proofs.Lays.n119 Try.prog Try.lays119_ren := {
  mixed := by kernel_rfl
  f119 := Try.func173.trans (congrArg some (by kernel_rfl))
  t4 := Try.underlying4
  a4 := Try.isAgg4
  z4 := Try.sizeOf4
  v4 := Try.zeroValue4
  t21 := Try.underlying21
  a21 := Try.isAgg21
  z21 := Try.sizeOf21
  v21 := Try.zeroValue21 }
theorem Try.utf8_ValidRune (r : Int) (w : World) :
    Calls Try.prog 173 #[.int .i32 r] w fun e w' => e = .returned (.bool (Lib.validRune r)) ∧ w' = w := Any.utf8_ValidRune Try.lays119 r w
def Try.lays137_ren : Go.Shelf.Ren := ⟨fun | 137 => 116 | 217 => 145 | 266 => 165 | n => n, fun | 9 => 9 | 5 => 5 | 3 => 3 | n => n, fun | n => n⟩
theorem Try.lays137 : Go.Proofs.Lays.n137 Try.prog Try.lays137_ren := {
  mixed := by kernel_rfl
  f137 := Try.func116.trans (congrArg some (by kernel_rfl))
  f217 := Try.func145.trans (congrArg some (by kernel_rfl))
  f266 := Try.func165.trans (congrArg some (by kernel_rfl))
  t3 := Try.underlying3
  a3 := Try.isAgg3
  z3 := Try.sizeOf3
  v3 := Try.zeroValue3
  t5 := Try.underlying5
  a5 := Try.isAgg5
  z5 := Try.sizeOf5
  v5 := Try.zeroValue5
  t9 := Try.underlying9
  a9 := Try.isAgg9
  z9 := Try.sizeOf9
  v9 := Try.zeroValue9 }
open Go.RowKit in
theorem Try.strings_IndexByte (s : ByteArray) (c : Int) (w : World) :
    Calls Try.prog 116 #[.string s, .int .u8 c] w fun e w' => e = .returned (.int .i64 (Lib.indexByte s.data.toList c.toNat.toUInt8)) ∧ w' = w := Any.strings_IndexByte Try.lays137 s c w
def Try.lays100_ren : Go.Shelf.Ren := ⟨fun | 100 => 67 | 207 => 113 | n => n, fun | 9 => 9 | 4 => 4 | 3 => 3 | n => n, fun | n => n⟩
theorem Try.lays100 : Go.Proofs.Lays.n100 Try.prog Try.lays100_ren := {
  mixed := by kernel_rfl
  f100 := Try.func67.trans (congrArg some (by kernel_rfl))
  f207 := Try.func113.trans (congrArg some (by kernel_rfl))
  t3 := Try.underlying3
  a3 := Try.isAgg3
  z3 := Try.sizeOf3
  v3 := Try.zeroValue3
  t4 := Try.underlying4
  a4 := Try.isAgg4
  z4 := Try.sizeOf4
  v4 := Try.zeroValue4
  t9 := Try.underlying9
  a9 := Try.isAgg9
  z9 := Try.sizeOf9
  v9 := Try.zeroValue9 }
open Go.RowKit Go.Lib in
theorem Try.strings_HasSuffix (s p : ByteArray) (w : World) (hs : s.size ≤ 9223372036854775807) :
    Calls Try.prog 67 #[.string s, .string p] w fun e w' => e = .returned (.bool (Lib.hasSuffix s.data.toList p.data.toList)) ∧ w' = w := Any.strings_HasSuffix Try.lays100 s p w hs
def Try.lays151_ren : Go.Shelf.Ren := ⟨fun | 151 => 164 | 152 => 170 | 137 => 116 | 119 => 173 | 224 => 150 | 225 => 149 | 217 => 145 | 266 => 165 | n => n, fun | 9 => 9 | 21 => 21 | 4 => 4 | 3 => 3 | 5 => 5 | 0 => 0 | 46 => 186 | n => n, fun | n => n⟩
theorem Try.lays151 : Go.Proofs.Lays.n151 Try.prog Try.lays151_ren := {
  mixed := by kernel_rfl
  f119 := Try.func173.trans (congrArg some (by kernel_rfl))
  f137 := Try.func116.trans (congrArg some (by kernel_rfl))
  f151 := Try.func164.trans (congrArg some (by kernel_rfl))
  f152 := Try.func170.trans (congrArg some (by kernel_rfl))
  f217 := Try.func145.trans (congrArg some (by kernel_rfl))
  f224 := Try.func150.trans (congrArg some (by kernel_rfl))
  f225 := Try.func149.trans (congrArg some (by kernel_rfl))
  f266 := Try.func165.trans (congrArg some (by kernel_rfl))
  t0 := Try.underlying0
  a0 := Try.isAgg0
  z0 := Try.sizeOf0
  v0 := Try.zeroValue0
  t3 := Try.underlying3
  a3 := Try.isAgg3
  z3 := Try.sizeOf3
  v3 := Try.zeroValue3
  t4 := Try.underlying4
  a4 := Try.isAgg4
  z4 := Try.sizeOf4
  v4 := Try.zeroValue4
  t5 := Try.underlying5
  a5 := Try.isAgg5
  z5 := Try.sizeOf5
  v5 := Try.zeroValue5
  t9 := Try.underlying9
  a9 := Try.isAgg9
  z9 := Try.sizeOf9
  v9 := Try.zeroValue9
  t21 := Try.underlying21
  a21 := Try.isAgg21
  z21 := Try.sizeOf21
  v21 := Try.zeroValue21
  t46 := Try.underlying186
  a46 := Try.isAgg186
  z46 := Try.sizeOf186
  v46 := Try.zeroValue186 }
open Go.RowKit Go.Lib in
theorem Try.strings_ContainsRune_ascii (s : ByteArray) (r : Int) (w : World) (h0 : 0 ≤ r) (h1 : r < 128) :
    Calls Try.prog 164 #[.string s, .int .i32 r] w fun e w' => e = .returned (.bool (decide (0 ≤ Lib.indexByte s.data.toList r.toNat.toUInt8))) ∧ w' = w := Any.strings_ContainsRune_ascii Try.lays151 s r w h0 h1
end Go.Proofs
/- The walk of strings.ContainsRune at a rune that is not ASCII, in a text that is. -/
namespace Go.Proofs.Ytadlabndbomgmaa
open Go.ChangeShapes Go.WideShapes Go.ChangeAt Go.RowKit
theorem enc_is (r : Int) (h1 : 128 ≤ r) (h2 : r < 4352) : ∃ m : Nat, (Utf8.encode r).size = m + 1 ∧ 1 ≤ m ∧ m ≤ 2 ∧ ∀ h : m < (Utf8.encode r).size, 128 ≤ ((Utf8.encode r)[m]'h).toNat := by
  have hv : Utf8.valid r = true := by unfold Utf8.valid; simp; omega
  by_cases h : r.toNat < 0x800
  · have e : Utf8.encode r = ⟨#[UInt8.ofNat (0xC0 + r.toNat / 64), UInt8.ofNat (0x80 + r.toNat % 64)]⟩ := by
      unfold Utf8.encode
      simp only [hv, if_true]
      rw [if_neg (by omega), if_pos h]
    rw [e]
    refine ⟨1, rfl, by omega, by omega, fun _ => ?_⟩
    show 128 ≤ (UInt8.ofNat (0x80 + r.toNat % 64)).toNat
    rw [UInt8.toNat_ofNat']; omega
  · have e : Utf8.encode r = ⟨#[UInt8.ofNat (0xE0 + r.toNat / 4096), UInt8.ofNat (0x80 + r.toNat / 64 % 64), UInt8.ofNat (0x80 + r.toNat % 64)]⟩ := by
      unfold Utf8.encode
      simp only [hv, if_true]
      rw [if_neg (by omega), if_neg h, if_pos (by omega)]
    rw [e]
    refine ⟨2, rfl, by omega, by omega, fun _ => ?_⟩
    show 128 ≤ (UInt8.ofNat (0x80 + r.toNat % 64)).toNat
    rw [UInt8.toNat_ofNat']; omega
theorem indexByte_missing (c : UInt8) : ∀ l : List UInt8, (∀ b ∈ l, b ≠ c) → Lib.indexByte l c = -1
  | [], _ => rfl
  | b :: l, h => by
    have h1 := indexByte_missing c l fun x hx => h x (by simp [hx])
    have h2 : (b == c) = false := by simpa using h b (by simp)
    simp [Lib.indexByte, h1, h2]
set_option maxRecDepth 100000 in
set_option maxHeartbeats 1000000 in
theorem IndexRune_none (s : ByteArray) (r : Int) (w : World) (h1 : 128 ≤ r) (h2 : r < 4352) (hs : 3 ≤ s.size ∧ s.size ≤ 100) (hl : ∀ b ∈ s.data.toList, b.toNat < 128) :
    Calls Try.prog 170 #[.string s, .int .i32 r] w fun e w' => e = .returned (.int .i64 (-1)) ∧ ∃ k, w' = w.drewN k := by
  have hv : Lib.validRune r = true := by unfold Lib.validRune; simp; omega
  have HA := hide (show ∀ i, (h : i < s.size) → s[i].toNat < 128 from fun i h => hl _ (by rw [Array.mem_toList_iff]; exact Array.getElem_mem h))
  have HL := hide hl
  clear hl
  have z1 : (r == 65533) = false := beq_eq_false_iff_ne.2 (by omega)
  go_enter Try.func170, Try.ntmps170
  go_wp2_with (first | (go_at_call 173; refine (Try.utf8_ValidRune _ _).mono ?_; rintro e w' ⟨rfl, rfl⟩; rw [hv]) | fail)
  go_step3
  obtain ⟨m, hm, hm1, hm2, hmb⟩ := enc_is r h1 h2
  have HB := hide hmb
  clear hmb
  go_wp2_with fail
  generalize Utf8.encode r = rs at *
  have hsm : m < s.size := by omega
  have hrm : m < rs.size := by omega
  have hb1 := HA.out m hsm
  have hb2 := HB.out hrm
  have hne : ((s[m].toNat : Int) != (rs[m].toNat : Int)) = true := by rw [bne_iff_ne]; omega
  have hm0 : (0 : Int) ≤ (m : Int) := by omega
  have hms : (m : Int) < (s.size : Int) := by omega
  have hmr : (m : Int) < (rs.size : Int) := by omega
  have HM := hide hm
  clear hm
  refine wp_loop_rounds 1 ?_
  rw [rounds_succ]
  go_wp2_with fail
  go_step3
  go_wp2_with fail
  go_quiet (fail)
  go_wp2_with fail
  go_quiet ((go_at_call 116; exact quiet_add_same (Try.strings_IndexByte _ _ _)))
  have hib : Lib.indexByte (s.extract (m + 1) s.size).data.toList ((rs[m].toNat : Int)).toNat.toUInt8 = -1 := indexByte_missing _ _ fun b hb => by
    have h7 : b.toNat < 128 := HL.out b (by
      rw [Lib.extract_data] at hb
      exact List.mem_of_mem_drop (List.mem_of_mem_take hb))
    intro e
    have h8 : b.toNat = rs[m].toNat := by rw [e]; simp
    omega
  rw [hib]
  clear hib hne
  go_wp2_with fail
  rw [Exit.noGoto_ret]
  go_wp2_with fail
  repeat rw [Exit.noGoto_ret]
  go_ret
  exact ⟨rfl, _, rfl⟩
/-- Is a rune, that is no control, one of a text of ASCII? -/
def asIn (s : ByteArray) (r : Int) : Bool := (s.data.toList.map fun b => (b.toNat : Int)).contains r
theorem asIn_low (s : ByteArray) (r : Int) (h0 : 0 ≤ r) (h1 : r < 128) : decide (0 ≤ Lib.indexByte s.data.toList r.toNat.toUInt8) = asIn s r := by
  have hc : (r.toNat.toUInt8).toNat = r.toNat := by simp; omega
  have hm : asIn s r = true ↔ r.toNat.toUInt8 ∈ s.data.toList := by
    unfold asIn
    rw [List.contains_iff_mem, List.mem_map]
    constructor
    · rintro ⟨b, hb, e⟩
      have : b = r.toNat.toUInt8 := by apply UInt8.toNat_inj.1; rw [hc]; omega
      rw [← this]; exact hb
    · intro h
      exact ⟨_, h, by rw [hc]; omega⟩
  by_cases hin : r.toNat.toUInt8 ∈ s.data.toList
  · rw [hm.2 hin]
    refine decide_eq_true ?_
    have h2 := Lib.indexByte_ge s.data.toList r.toNat.toUInt8
    by_cases hn : Lib.indexByte s.data.toList r.toNat.toUInt8 = -1
    · obtain ⟨k, hk, e⟩ := List.getElem_of_mem hin
      exact absurd (by rw [List.getElem?_eq_getElem hk, e]) (Lib.indexByte_none hn k)
    · omega
  · rw [show asIn s r = false by cases h : asIn s r; rfl; exact absurd (hm.1 h) hin]
    rw [indexByte_missing _ _ fun b hb e => hin (by rw [← e]; exact hb)]
    rfl
theorem asIn_high (s : ByteArray) (r : Int) (h1 : 128 ≤ r) (hl : ∀ b ∈ s.data.toList, b.toNat < 128) : asIn s r = false := by
  cases h : asIn s r
  · rfl
  · unfold asIn at h
    rw [List.contains_iff_mem, List.mem_map] at h
    obtain ⟨b, hb, e⟩ := h
    have := hl b hb
    omega
theorem ContainsRune_any (s : ByteArray) (r : Int) (w : World) (h1 : 0 ≤ r) (h2 : r < 4352) (hs : 3 ≤ s.size ∧ s.size ≤ 100) (hl : ∀ b ∈ s.data.toList, b.toNat < 128) :
    Calls Try.prog 164 #[.string s, .int .i32 r] w fun e w' => e = .returned (.bool (asIn s r)) ∧ ∃ k, w' = w.drewN k := by
  by_cases h : r < 128
  · refine (Try.strings_ContainsRune_ascii s r w h1 h).mono ?_
    rintro e w' ⟨rfl, rfl⟩
    exact ⟨ret_bool (asIn_low s r h1 h), 0, rfl⟩
  · have hf := hide (asIn_high s r (by omega) hl)
    have HL := hide hl
    clear hl
    go_enter Try.func164, Try.ntmps164
    go_wp2_with fail
    refine (IndexRune_none s r w (by omega) h2 hs HL.out).mono ?_
    rintro e w' ⟨rfl, k, rfl⟩
    go_wp2_with fail
    go_ret
    exact ⟨ret_bool hf.out.symm, k, rfl⟩
def narrowS : ByteArray := ⟨#[32, 105, 108, 106, 46, 44, 39, 33, 124, 58]⟩
def wideS' : ByteArray := ⟨#[109, 119, 77, 87, 64]⟩
theorem narrow_ascii : ∀ b ∈ narrowS.data.toList, b.toNat < 128 := by decide
theorem wide_ascii : ∀ b ∈ wideS'.data.toList, b.toNat < 128 := by decide
theorem narrow_in (r : Int) : asIn narrowS r = decide (r ∈ narrowL) := by rw [Bool.eq_iff_iff, decide_eq_true_eq]; unfold asIn; rw [List.contains_iff_mem]; exact Iff.rfl
theorem wide_in (r : Int) : asIn wideS' r = decide (r ∈ wideL) := by rw [Bool.eq_iff_iff, decide_eq_true_eq]; unfold asIn; rw [List.contains_iff_mem]; exact Iff.rfl
end Go.Proofs.Ytadlabndbomgmaa
/- Walks of the package font: how wide a rune is; its dots. -/
namespace Go.Proofs.Ytadlabndbomgmaa
open Go.ChangeShapes Go.WideShapes Go.ChangeAt Go.RowKit
set_option maxRecDepth 100000 in
set_option maxHeartbeats 1000000 in
theorem fourths_any (r : Int) (w : World) : Calls Try.prog 144 #[.int .i32 r] w fun e w' => e = .returned (.int .i64 (fourthsF r)) ∧ ∃ k, w' = w.drewN k := by
  have hk := hide (show fourthsF r = if r < 32 ∨ r = 127 then 0 else if 4352 ≤ r then 4 else if r ∈ narrowL then 1 else if r ∈ wideL then 3 else 2 from rfl)
  have HN := hide narrow_ascii
  have HW := hide wide_ascii
  by_cases h1 : r < 32
  · have hr := hide (hk.out.trans (if_pos (.inl h1)))
    clear hk
    go_enter Try.func144, Try.ntmps144
    go_wp2_with fail
    go_ret
    exact ⟨ret_int hr.out.symm, 0, rfl⟩
  · by_cases h2 : r = 127
    · have hr := hide (hk.out.trans (if_pos (.inr h2)))
      clear hk
      have z1 : (r == 127) = true := by simp [h2]
      clear h2
      go_enter Try.func144, Try.ntmps144
      go_wp2_with fail
      go_ret
      exact ⟨ret_int hr.out.symm, 0, rfl⟩
    · have z1 : (r == 127) = false := beq_eq_false_iff_ne.2 h2
      have h12 : ¬ (r < 32 ∨ r = 127) := by omega
      by_cases h3 : 4352 ≤ r
      · have hr := hide (hk.out.trans ((if_neg h12).trans (if_pos h3)))
        clear hk h12 h2
        go_enter Try.func144, Try.ntmps144
        go_wp2_with fail
        go_ret
        exact ⟨ret_int hr.out.symm, 0, rfl⟩
      · have hN := narrow_in r
        have hW := wide_in r
        by_cases h4 : r ∈ narrowL
        · have hr := hide (hk.out.trans ((if_neg h12).trans ((if_neg h3).trans (if_pos h4))))
          rw [decide_eq_true h4] at hN
          have HNN := hide hN
          clear hk h12 h2 hN hW h4
          go_enter Try.func144, Try.ntmps144
          go_wp2_with (first | (go_at_call 164; refine (ContainsRune_any narrowS r _ (by omega) (by omega) (by decide) HN.out).mono ?_; rintro e w1 ⟨rfl, k1, rfl⟩; rw [HNN.out]) | fail)
          go_ret
          exact ⟨ret_int hr.out.symm, _, rfl⟩
        · by_cases h5 : r ∈ wideL
          · have hr := hide (hk.out.trans ((if_neg h12).trans ((if_neg h3).trans ((if_neg h4).trans (if_pos h5)))))
            rw [decide_eq_false h4] at hN
            rw [decide_eq_true h5] at hW
            have HNN := hide hN
            have HWW := hide hW
            clear hk h12 h2 hN hW h4 h5
            go_enter Try.func144, Try.ntmps144
            go_wp2_with fail
            refine (ContainsRune_any narrowS r _ (by omega) (by omega) (by decide) HN.out).mono ?_
            rintro e w1 ⟨rfl, k1, rfl⟩
            rw [HNN.out]
            go_wp2_with fail
            refine (ContainsRune_any wideS' r _ (by omega) (by omega) (by decide) HW.out).mono ?_
            rintro e w1 ⟨rfl, k2, rfl⟩
            rw [HWW.out]
            go_wp2_with fail
            go_ret
            exact ⟨ret_int hr.out.symm, _, rfl⟩
          · have hr := hide (hk.out.trans ((if_neg h12).trans ((if_neg h3).trans ((if_neg h4).trans (if_neg h5)))))
            rw [decide_eq_false h4] at hN
            rw [decide_eq_false h5] at hW
            have HNN := hide hN
            have HWW := hide hW
            clear hk h12 h2 hN hW h4 h5
            go_enter Try.func144, Try.ntmps144
            go_wp2_with fail
            refine (ContainsRune_any narrowS r _ (by omega) (by omega) (by decide) HN.out).mono ?_
            rintro e w1 ⟨rfl, k1, rfl⟩
            rw [HNN.out]
            go_wp2_with fail
            refine (ContainsRune_any wideS' r _ (by omega) (by omega) (by decide) HW.out).mono ?_
            rintro e w1 ⟨rfl, k2, rfl⟩
            rw [HWW.out]
            go_wp2_with fail
            go_ret
            exact ⟨ret_int hr.out.symm, _, rfl⟩
theorem fcut_any (n : Int) (w : World) : Calls Try.prog 143 #[.int .i64 n] w fun e w' => e = .returned (.int .i64 (sizeF n)) ∧ w = w' := by
  have hk := hide (show sizeF n = max 0 (cut n) from rfl)
  go_enter Try.func143, Try.ntmps143
  go_wp2_with (go_at_call 28; refine (cut_any _ _).mono ?_; rintro e w' ⟨rfl, rfl⟩)
  go_ret
  exact ⟨ret_int hk.out.symm, rfl⟩
theorem Advance_any (r size : Int) (w : World) : Calls Try.prog 115 #[.int .i32 r, .int .i64 size] w fun e w' => e = .returned (.int .i64 (advF r size)) ∧ ∃ k, w' = w.drewN k := by
  have hk := hide (show advF r size = partOf (sizeF size) (fourthsF r) 4 from rfl)
  go_enter Try.func115, Try.ntmps115
  go_wp2_with (first | (go_at_call 143; refine (fcut_any _ _).mono ?_; rintro e w' ⟨rfl, rfl⟩) | (go_at_call 144; refine (fourths_any _ _).mono ?_; rintro e w' ⟨rfl, k1, rfl⟩) | (go_at_call 27; refine (part_any _ _ _ _ (by omega)).mono ?_; rintro e w' ⟨rfl, rfl⟩) | fail)
  go_ret
  exact ⟨ret_int hk.out.symm, _, rfl⟩
theorem Ascent_any (size : Int) (w : World) : Calls Try.prog 172 #[.int .i64 size] w fun e w' => e = .returned (.int .i64 (ascF size)) ∧ w = w' := by
  have hk := hide (show ascF size = partOf (sizeF size) 3 4 from rfl)
  go_enter Try.func172, Try.ntmps172
  go_wp2_with (first | (go_at_call 143; refine (fcut_any _ _).mono ?_; rintro e w' ⟨rfl, rfl⟩) | (go_at_call 27; refine (part_any _ _ _ _ (by omega)).mono ?_; rintro e w' ⟨rfl, rfl⟩) | fail)
  go_ret
  exact ⟨ret_int hk.out.symm, rfl⟩
end Go.Proofs.Ytadlabndbomgmaa
/- Contracts of the library at this dump, laid by the shelf (lay-shelf.mjs, lay-plain.mjs): no walk. -/
namespace Go.Proofs
open Go.Shelf
def Try.lays102_ren : Go.Shelf.Ren := ⟨fun | 102 => 68 | 209 => 114 | 207 => 113 | n => n, fun | 9 => 9 | 4 => 4 | 3 => 3 | n => n, fun | n => n⟩
theorem Try.lays102 : Go.Proofs.Lays.n102 Try.prog Try.lays102_ren := {
  mixed := by kernel_rfl
  f102 := Try.func68.trans (congrArg some (by kernel_rfl))
  f207 := Try.func113.trans (congrArg some (by kernel_rfl))
  f209 := Try.func114.trans (congrArg some (by kernel_rfl))
  t3 := Try.underlying3
  a3 := Try.isAgg3
  z3 := Try.sizeOf3
  v3 := Try.zeroValue3
  t4 := Try.underlying4
  a4 := Try.isAgg4
  z4 := Try.sizeOf4
  v4 := Try.zeroValue4
  t9 := Try.underlying9
  a9 := Try.isAgg9
  z9 := Try.sizeOf9
  v9 := Try.zeroValue9 }
open Go.RowKit Go.Lib in
theorem Try.strings_TrimSuffix (s p : ByteArray) (w : World) (hs : s.size ≤ 9223372036854775807) :
    Calls Try.prog 68 #[.string s, .string p] w fun e w' => e = .returned (.string ⟨(Lib.trimSuffix s.data.toList p.data.toList).toArray⟩) ∧ w' = w := Any.strings_TrimSuffix Try.lays102 s p w hs
end Go.Proofs
/- One element is appended in a region that draws its order; rows of other types stay. No program in sight. -/
namespace Go.Proofs.Ytadlabndbomgmaa
open Go.RowKit
theorem step_app1 {P : Program} {w : World} {ops : Array Oper} {o : Oper} {a : Act} {K : Act → World → Prop} {Q : Exit → Act → World → Prop} {E : Prop} (hgd : o.guard = none) (s x : Operand) (t : TypeId)
    (ho : o.op = .call { callee := .builtin .append, args := #[s, x], argTypes := #[t, t] }) (base : Nat) (e : TypeId) (z : Value) (size bytes : Nat) (ht : P.underlying t = some (.slice e))
    (hinfo : (P.info? e).map (fun i => (i.zero, i.size, i.bytes)) = some (some z, size, bytes)) (hzs : z.cells.size = size) (hsz : 0 < size)
    (v : Value) (n : Nat) (xs : List Value) (hs : a.eval s = v) (hown : w.ownsRow base e size v n xs) (g c : Nat) (cs : Array Value) (hb : Blk w g e cs) (hcs : cs.size = size) (hx : a.eval x = .slice (some ⟨g, 0, none⟩) 1 c)
    (h1 : cs.toList.all (·.oneCell') = true) (hn : n ≤ 1000000) (hby : bytes ≤ 1000) (hbase : base ≤ w.heap.size)
    (h : ∀ v' w', w'.ownsRow base e size v' (n + 1) (xs ++ cs.toList) → w.grownBy w' v.ownBlock → K (a.put o.dst v') w') : if Region.wanted o (yielded ops a.tmps) = true then Oper.wp P o a w K Q else E := by
  obtain ⟨i, hi, hz, hsize, hbytes⟩ := info_parts hinfo
  refine step_append_any w hgd s x t ho base e i z size bytes ht hi hz hsize hbytes hzs hsz v n xs hs hown (g + 1) (some ⟨g, 0, none⟩) 1 c cs.toList hx (reads_blk hb size hcs) (List.all_eq_true.1 h1) (by simp only [maxLen]; omega) ?_ hbase fun v' w' h2 h3 _ => h v' w' h2 h3
  have := Nat.mul_le_mul (show n + 1 ≤ 1000001 by omega) hby
  omega
theorem own_other {w w' : World} {b1 b2 s1 s2 n1 n2 : Nat} {e1 e2 : TypeId} {v1 v2 : Value} {x1 x2 : List Value} (h1 : w.ownsRow b1 e1 s1 v1 n1 x1) (h2 : w.ownsRow b2 e2 s2 v2 n2 x2) (hne : e1 ≠ e2) (hg : w.grownBy w' v2.ownBlock) : w'.ownsRow b1 e1 s1 v1 n1 x1 := by
  rcases h2.2 with ⟨rfl, _⟩ | ⟨g, cap, cur, rfl, _, hh, _⟩
  · by_cases hb : v1.ownBlock = none
    · exact h1.kept hg (.inl hb)
    · exact h1.kept hg (.inr (by simpa [Value.ownBlock] using hb))
  · exact h1.kept hg (.inr (own_blk_ne h1 hh hne))
end Go.Proofs.Ytadlabndbomgmaa
/- Plain facts: sums of a list's beginnings; is some number above 0? No program in sight. -/
namespace Go.Proofs.Ytadlabndbomgmaa
/-- The sum of the first k numbers. -/
def psum (l : List Int) (k : Nat) : Int := (l.take k).sum
theorem psum_zero (l : List Int) : psum l 0 = 0 := rfl
theorem psum_succ (l : List Int) (k : Nat) (h : k < l.length) : psum l (k + 1) = psum l k + at0 l k := by
  unfold psum; rw [List.take_succ_eq_append_getElem h, List.sum_append, at0_of l k h]; simp
theorem psum_all (l : List Int) : psum l l.length = l.sum := by unfold psum; rw [List.take_length]
theorem psum_shared (n : Int) (ws : List Int) (k : Nat) (hk : k ≤ ws.length) : psum (shared n ws) k = if wsum ws ws.length = 0 then 0 else upTo n ws k := by
  induction k with
  | zero => rw [psum_zero, upTo_zero, ite_self]
  | succ k ih =>
    rw [psum_succ _ _ (by rw [shared_length]; omega), ih (by omega), shared_getD n ws k (by omega)]
    split
    · rfl
    · omega
theorem psum_shared_bound (n : Int) (ws : List Int) (k : Nat) (hk : k ≤ ws.length) : -281474976710656000 ≤ psum (shared n ws) k ∧ psum (shared n ws) k ≤ 281474976710656000 := by
  rw [psum_shared n ws k hk]
  have := upTo_bound n ws k
  split
  · omega
  · exact this
/-- Is one of the first k numbers above 0? -/
def somePos (ws : List Int) : Nat → Bool
  | 0 => false
  | k + 1 => somePos ws k || decide (0 < at0 ws k)
theorem somePos_true {ws : List Int} {m : Nat} (h : somePos ws m = true) : ∃ k, k < m ∧ 0 < at0 ws k := by
  induction m with
  | zero => cases h
  | succ m ih =>
    simp only [somePos, Bool.or_eq_true, decide_eq_true_eq] at h
    rcases h with h | h
    · obtain ⟨k, h1, h2⟩ := ih h; exact ⟨k, by omega, h2⟩
    · exact ⟨m, by omega, h⟩
theorem somePos_false {ws : List Int} {m : Nat} (h : somePos ws m = false) : ∀ k, k < m → at0 ws k ≤ 0 := by
  induction m with
  | zero => intro k hk; omega
  | succ m ih =>
    simp only [somePos, Bool.or_eq_false_iff, decide_eq_false_iff_not] at h
    intro k hk
    by_cases e : k = m
    · subst e; omega
    · exact ih h.1 k (by omega)
theorem wt_idle (k : Nat) {x : Int} (h : x ≤ 0) : wt k x = 0 := by unfold wt cut; split <;> omega
theorem wt_pos {k : Nat} {x : Int} (hk : k < 1000) (h : 0 < x) : 0 < wt k x := by unfold wt cut; split <;> omega
theorem shared_sum_some (n : Int) (ws : List Int) (hl : ws.length ≤ 1000) (h : somePos ws ws.length = true) : (shared n ws).sum = cut n := by
  obtain ⟨k, hk, hx⟩ := somePos_true h
  have := wsum_pos ws k ws.length hk (wt_pos (by omega) hx)
  rw [shared_sum, if_neg (by omega)]
theorem shared_sum_none (n : Int) (ws : List Int) (h : somePos ws ws.length = false) : (shared n ws).sum = 0 := by
  have := wsum_zero ws ws.length fun k hk => wt_idle k (somePos_false h k hk)
  rw [shared_sum, if_pos this]
end Go.Proofs.Ytadlabndbomgmaa
/- An operation of a region that may be taken first, its slot named. No program in sight. -/
namespace Go.Proofs.Ytadlabndbomgmaa
open Go.RowKit
section
variable {P : Program} {ops : Array Oper} {Q : Exit → Act → World → Prop} {md : Region.Mode} {S : World → Prop}
theorem take_at {i : Nat} {oi : Oper} {v : Value} {fuel : Nat} {listed : Array Bool} {a : Act} {w : World} (d : Option Tmp) (hi : ops[i]? = some oi) (hd : oi.dst = d)
    (hs : Region.noSelect ops = true) (hf : Region.free md ops listed i = true) (hr : (Region.ready md ops listed).contains i = true)
    (hQ : ∀ c a w, Q (.panic c) (a.put oi.dst v) w → Q (.panic c) a w) (hy : YieldsIf P ops S oi v a) (hS : S w)
    (h : wpAnyH P md ops Q S fuel (listed.setIfInBounds i true) (a.put d v) w) : wpAnyH P md ops Q S (fuel + 1) listed a w := by
  subst hd; exact wpAnyH_take hi hs hf hr hQ hy hS h
end
end Go.Proofs.Ytadlabndbomgmaa
/- A call that only computes may be taken first in a region that draws its order. No program in sight. -/
namespace Go.Proofs.Ytadlabndbomgmaa
open Go.RowKit
section
variable {P : Program} {ops : Array Oper} {Q : Exit → Act → World → Prop} {md : Region.Mode} {S : World → Prop}
/-- In every world that meets S the operation gives v and leaves the world as it is: by itself, or by a call that does so. -/
def Gives (P : Program) (S : World → Prop) (o : Oper) (v : Value) (a : Act) : Prop :=
  ∀ w, S w → (execOp a.eval o).run P w = .ok (.value v) w ∨ ∃ f args, (execOp a.eval o).run P w = .ok (.enter f args) w ∧ Calls P f args w fun e w' => e = .returned v ∧ w = w'
def Pays (P : Program) (ops : Array Oper) (S : World → Prop) (o : Oper) (v : Value) (a : Act) : Prop :=
  Region.wanted o (yielded ops a.tmps) = true ∧ Gives P S o v a
theorem Gives.wp {o : Oper} {v : Value} {a : Act} (h : Gives P S o v a) {K : Act → World → Prop} {w : World} (hS : S w) (hK : K (a.put o.dst v) w) : o.wp P a w K Q := by
  unfold Oper.wp
  rcases h w hS with e | ⟨f, args, e, hc⟩
  · rw [e]; exact hK
  · rw [e]
    refine Calls.mono hc ?_
    rintro e w' ⟨rfl, rfl⟩
    exact hK
theorem Pays.wpOp {i : Nat} {o : Oper} {v : Value} {a : Act} (hi : ops[i]? = some o) (hy : Pays P ops S o v a) {K : Act → World → Prop} {w : World} (hS : S w) (hK : K (a.put o.dst v) w) : wpOp P ops Q i K a w := by
  unfold Go.wpOp
  simp only [hi, hy.1, if_true]
  exact .inl (hy.2.wp hS hK)
theorem Pays.same {o : Oper} {v : Value} {a a' : Act} (hy : Pays P ops S o v a) (he : execOp a'.eval o = execOp a.eval o) (hw : Region.wanted o (yielded ops a'.tmps) = Region.wanted o (yielded ops a.tmps)) : Pays P ops S o v a' :=
  ⟨by rw [hw]; exact hy.1, fun w h => by rw [he]; exact hy.2 w h⟩
/-- Another operation, apart from the one that is taken first, goes as it went behind it. -/
theorem wpOp_before {j : Nat} {oi oj : Oper} {v : Value} (hj : ops[j]? = some oj) (hap : oi.apart ops oj = true) (hsi : ∀ cs b, oi.op ≠ .select cs b) (hsj : ∀ cs b, oj.op ≠ .select cs b)
    (hQ : ∀ c a w, Q (.panic c) (a.put oi.dst v) w → Q (.panic c) a w) {K : Act → World → Prop} {a : Act} {w : World} (hy : Pays P ops S oi v a) (h : wpOp P ops Q j K (a.put oi.dst v) w) :
    wpOp P ops Q j (fun a' w' => Pays P ops S oi v a' ∧ K (a'.put oi.dst v) w') a w := by
  obtain ⟨h1, h2, h3⟩ := Oper.apart_spec hap
  have on : ∀ u, Pays P ops S oi v (a.put oj.dst u) := fun u => hy.same (execOp_put oi hsi a oj.dst u h3) (wanted_put oi a oj.dst u h3)
  have back : ∀ u w', K ((a.put oi.dst v).put oj.dst u) w' → Pays P ops S oi v (a.put oj.dst u) ∧ K ((a.put oj.dst u).put oi.dst v) w' := fun u w' hk =>
    ⟨on u, by rw [← Act.put_comm a v u h2]; exact hk⟩
  unfold wpOp at *
  simp only [hj] at *
  rw [wanted_put oj a oi.dst v h1] at h
  by_cases hw : Region.wanted oj (yielded ops a.tmps) = true
  · simp only [hw, if_true] at h ⊢
    rcases h with h | ⟨ha, hl⟩
    · refine .inl ?_
      unfold Oper.wp at *
      rw [execOp_put oj hsj a oi.dst v h1] at h
      cases hr : (execOp a.eval oj).run P w with
      | ok n w' =>
        rw [hr] at h
        cases n with
        | value u => exact back u w' h
        | skip => exact back undef w' h
        | defer d =>
          refine ⟨(show Pays P ops S oi v { a with defers := d :: a.defers } from hy.same rfl rfl).same (execOp_put oi hsi _ oj.dst _ h3) (wanted_put oi _ oj.dst _ h3), ?_⟩
          simp only [Oper.upon] at h ⊢
          rw [← Act.put_comm _ v undef h2, ← Act.put_defers]
          exact h
        | enter f args =>
          refine Calls.mono h fun e w'' he => ?_
          cases e with
          | returned u => exact back u w'' he
          | panicked c => exact hQ _ _ _ he
          | outgrown => exact he
        | row r args => exact Rows.mono h fun u w'' he => back u w'' he
        | _ => exact h
      | halt x w' =>
        rw [hr] at h
        cases x with
        | panic u => exact hQ _ _ _ h
        | _ => exact h
    · exact .inr ⟨by unfold Oper.asks at *; rw [execOp_put oj hsj a oi.dst v h1] at ha; exact ha, hl⟩
  · simp only [hw] at h ⊢
    exact back undef w h
theorem unlisted_set {l : Array Bool} {i j : Nat} (h : (l.setIfInBounds j true).getD i true = false) : l.getD i true = false := by
  by_cases e : j = i
  · subst e
    rcases Nat.lt_or_ge j l.size with h' | h'
    · simp [h'] at h
    · simp at h
  · rwa [getD_set_ne true e] at h
theorem pays_first {i : Nat} {oi : Oper} {v : Value} (hi : ops[i]? = some oi) (hsel : ∀ (j : Nat) (o : Oper) cs b, ops[j]? = some o → o.op ≠ .select cs b) (hQ : ∀ c a w, Q (.panic c) (a.put oi.dst v) w → Q (.panic c) a w) :
    ∀ (fuel : Nat) (l : Array Bool) (a : Act) (w : World), (∀ j oj, ops[j]? = some oj → j ≠ i → l.getD j true = false → (∀ e ∈ oj.after, Region.binds md e = true → e.on ≠ i) → oi.apart ops oj = true) →
      i ∈ Region.ready md ops l → Pays P ops S oi v a → S w → wpAnyH P md ops Q S fuel (l.setIfInBounds i true) (a.put oi.dst v) w → wpAnyH P md ops Q S (fuel + 1) l a w := by
  intro fuel
  induction fuel with
  | zero =>
    intro l a w _ hr hy hS H
    refine ⟨fun h => absurd hr (by rw [h]; exact List.not_mem_nil), fun j hj => ?_⟩
    by_cases e : j = i
    · subst e; exact hy.wpOp hi hS ⟨hS, H⟩
    · have := ready_mono hj e
      rw [H.1] at this
      exact absurd this List.not_mem_nil
  | succ fuel ih =>
    intro l a w hfree hr hy hS H
    refine ⟨fun h => absurd hr (by rw [h]; exact List.not_mem_nil), fun j hj => ?_⟩
    by_cases e : j = i
    · subst e; exact hy.wpOp hi hS ⟨hS, H⟩
    · obtain ⟨hun, oj, hoj, hall⟩ := mem_ready.1 hj
      have h0 := (mem_ready.1 hr).1
      have hnot : ∀ e ∈ oj.after, Region.binds md e = true → e.on ≠ i := fun e he hb heq => by
        have h1 := hall e he hb
        rw [heq] at h1
        rcases Nat.lt_or_ge i l.size with h' | h'
        · simp [h'] at h0 h1; rw [h0] at h1; cases h1
        · simp [Array.getElem?_eq_none h'] at h1
      refine wpOp_mono (fun a' w' h3 => ⟨h3.2.1, ih (l.setIfInBounds j true) a' w' (fun k ok hk hki hu hno => hfree k ok hk hki (unlisted_set hu) hno) (ready_mono hr (Ne.symm e)) h3.1 h3.2.1 ?_⟩)
        (wpOp_before hoj (hfree j oj hoj e hun hnot) (fun cs b => hsel i oi cs b hi) (fun cs b => hsel j oj cs b hoj) hQ hy (H.2 j (ready_mono hj e)))
      rw [Array.setIfInBounds_comm _ _ e]
      exact h3.2.2
/-- The call, taken first, its slot named. -/
theorem call_at {i : Nat} {oi : Oper} {v : Value} {fuel : Nat} {l : Array Bool} {a : Act} {w : World} (d : Option Tmp) (hi : ops[i]? = some oi) (hd : oi.dst = d)
    (hs : Region.noSelect ops = true) (hf : Region.free md ops l i = true) (hr : (Region.ready md ops l).contains i = true)
    (hQ : ∀ c a w, Q (.panic c) (a.put oi.dst v) w → Q (.panic c) a w) (hw : Region.wanted oi (yielded ops a.tmps) = true) (f : FuncId) (args : Array Value) (he : ∀ W, S W → (execOp a.eval oi).run P W = .ok (.enter f args) W)
    (hc : ∀ W, S W → Calls P f args W fun e w' => e = .returned v ∧ W = w') (hS : S w)
    (h : wpAnyH P md ops Q S fuel (l.setIfInBounds i true) (a.put d v) w) : wpAnyH P md ops Q S (fuel + 1) l a w := by
  subst hd
  exact pays_first hi (Region.noSelect_spec hs) hQ fuel l a w (Region.free_spec hi hf) (by simpa using hr) ⟨hw, fun W hW => .inr ⟨f, args, he W hW, hc W hW⟩⟩ hS h
end
end Go.Proofs.Ytadlabndbomgmaa
