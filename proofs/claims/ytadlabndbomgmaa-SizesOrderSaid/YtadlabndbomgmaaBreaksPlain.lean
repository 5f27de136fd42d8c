/- Plain facts on where a text may be broken. No program in sight. -/
import Derived.Lib.OthersKept
import Derived.Lib.DecodeN
import Derived.Lib.Bytealg
namespace Go.Proofs.Ytadlabndbomgmaa
def otherF (r : Int) : Bool := (r != 32 && r != 45) && r != 10
def wideF (a b : Int) : Bool := (decide (4352 ≤ a) && otherF b) || (decide (4352 ≤ b) && otherF a)
def isLetterF (r : Int) : Bool := (decide (97 ≤ r) && decide (r ≤ 122)) || (decide (65 ≤ r) && decide (r ≤ 90))
def mayF (a b : Int) : Bool := if a = 32 then b != 32 else if a = 45 then isLetterF b else wideF a b
/-- One step: may (must) the text be broken at this place? -/
def brkStep (wr ke : Bool) (pos : Nat) (last r : Int) : List (Nat × Bool) :=
  if decide (0 < pos) && ((ke && last == 10) || (wr && mayF last r)) then [(pos, ke && last == 10)] else []
def brkEnd (ke : Bool) (n : Nat) (last : Int) : List (Nat × Bool) := if ke && last == 10 then [(n, true)] else []
def brk (s : ByteArray) (wr ke : Bool) : Nat → Nat → Int → List (Nat × Bool)
  | 0, _, _ => []
  | f + 1, pos, last => if pos < s.size then brkStep wr ke pos last (Utf8.decode s pos).1 ++ brk s wr ke f (pos + (Utf8.decode s pos).2) (Utf8.decode s pos).1 else brkEnd ke s.size last
def brkAll (s : ByteArray) (wr ke : Bool) : List (Nat × Bool) := brk s wr ke (s.size + 1) 0 0
theorem brk_step (s : ByteArray) (wr ke : Bool) (f pos : Nat) (last : Int) (h : pos < s.size) : brk s wr ke (f + 1) pos last = brkStep wr ke pos last (Utf8.decode s pos).1 ++ brk s wr ke f (pos + (Utf8.decode s pos).2) (Utf8.decode s pos).1 := by
  simp [brk, h]
theorem brk_end (s : ByteArray) (wr ke : Bool) (f pos : Nat) (last : Int) (h : ¬ pos < s.size) : brk s wr ke (f + 1) pos last = brkEnd ke s.size last := by
  simp [brk, h]
theorem get_bang (s : ByteArray) (i : Nat) (h : i < s.size) : s.get! i = s[i] := by
  simp [ByteArray.get!, getElem!_pos, h]
  rfl
set_option maxHeartbeats 1000000 in
theorem decN_facts (n b0 b1 b2 b3 : Nat) (hn : 1 ≤ n) :
    1 ≤ (Lib.decodeN n b0 b1 b2 b3).2 ∧ (Lib.decodeN n b0 b1 b2 b3).2 ≤ n ∧ ((Lib.decodeN n b0 b1 b2 b3).1 = 10 → b0 = 10) ∧ (b0 = 10 → Lib.decodeN n b0 b1 b2 b3 = (10, 1)) ∧
      (2 ≤ (Lib.decodeN n b0 b1 b2 b3).2 → b1 / 64 = 2) ∧ (3 ≤ (Lib.decodeN n b0 b1 b2 b3).2 → b2 / 64 = 2) ∧ (4 ≤ (Lib.decodeN n b0 b1 b2 b3).2 → b3 / 64 = 2) ∧ (Lib.decodeN n b0 b1 b2 b3).2 ≤ 4 := by
  unfold Lib.decodeN
  repeat' split
  all_goals (refine ⟨?_, ?_, ?_, ?_, ?_, ?_, ?_, ?_⟩ <;> (intros; try simp only at *; try omega))
  all_goals (try (apply Prod.ext <;> simp only <;> omega))
theorem dec_facts (s : ByteArray) (pos : Nat) (h : pos < s.size) :
    1 ≤ (Utf8.decode s pos).2 ∧ pos + (Utf8.decode s pos).2 ≤ s.size ∧ ((Utf8.decode s pos).1 = 10 → s[pos].toNat = 10) ∧ (s[pos].toNat = 10 → Utf8.decode s pos = (10, 1)) ∧
      ∀ j, pos < j → (hj : j < pos + (Utf8.decode s pos).2) → (hs : j < s.size) → s[j].toNat ≠ 10 := by
  have h0 := decN_facts (s.size - pos) (s.get! pos).toNat (s.get! (pos + 1)).toNat (s.get! (pos + 2)).toNat (s.get! (pos + 3)).toNat (by omega)
  rw [← Lib.decode_at] at h0
  obtain ⟨h1, h2, h3, h4, h5, h6, h7, h8⟩ := h0
  rw [get_bang s pos h] at h3 h4
  refine ⟨h1, by omega, h3, h4, fun j hj1 hj2 hj3 => ?_⟩
  have : j = pos + 1 ∨ j = pos + 2 ∨ j = pos + 3 := by omega
  rcases this with rfl | rfl | rfl
  · have := h5 (by omega); rw [get_bang s _ hj3] at this; omega
  · have := h6 (by omega); rw [get_bang s _ hj3] at this; omega
  · have := h7 (by omega); rw [get_bang s _ hj3] at this; omega
theorem ten_iff (s : ByteArray) (pos : Nat) (h : pos < s.size) : (((Utf8.decode s pos).1 : Int) == 10) = (s[pos].toNat == 10) := by
  obtain ⟨_, _, h3, h4, _⟩ := dec_facts s pos h
  rw [Bool.eq_iff_iff]
  simp only [beq_iff_eq]
  constructor
  · intro hh; exact h3 (by omega)
  · intro hh; rw [h4 hh]; rfl
/-! The places rise. -/
def rises (n : Nat) : Nat → List (Nat × Bool) → Prop
  | _, [] => True
  | lo, (a, _) :: r => lo < a ∧ a ≤ n ∧ rises n a r
theorem rises_lo {n lo lo' : Nat} (h : lo' ≤ lo) : ∀ {l : List (Nat × Bool)}, rises n lo l → rises n lo' l
  | [], _ => trivial
  | (a, _) :: _, hr => ⟨by have := hr.1; omega, hr.2.1, hr.2.2⟩
theorem brk_rises (s : ByteArray) (wr ke : Bool) : ∀ (f pos lo : Nat) (last : Int), pos ≤ s.size → (lo < pos ∨ (pos = 0 ∧ lo = 0 ∧ last = 0)) → rises s.size lo (brk s wr ke f pos last)
  | 0, _, _, _, _, _ => trivial
  | f + 1, pos, lo, last, hp, hlo => by
    by_cases h : pos < s.size
    · rw [brk_step s wr ke f pos last h]
      obtain ⟨h1, h2, _⟩ := dec_facts s pos h
      have ih := brk_rises s wr ke f (pos + (Utf8.decode s pos).2) pos (Utf8.decode s pos).1 h2 (.inl (by omega))
      unfold brkStep
      split
      · rename_i hc
        have h0 : 0 < pos := by
          rw [Bool.and_eq_true] at hc
          exact of_decide_eq_true hc.1
        exact ⟨by omega, by omega, ih⟩
      · exact rises_lo (by omega) ih
    · rw [brk_end s wr ke f pos last h]
      unfold brkEnd
      split
      · rename_i hc
        refine ⟨?_, Nat.le_refl _, trivial⟩
        rcases hlo with hlo | ⟨_, _, hl⟩
        · omega
        · rw [hl] at hc; simp at hc
      · trivial
theorem brkAll_rises (s : ByteArray) (wr ke : Bool) : rises s.size 0 (brkAll s wr ke) := brk_rises s wr ke _ _ _ _ (Nat.zero_le _) (.inr ⟨rfl, rfl, rfl⟩)
/-! What must be broken. -/
def musts (l : List (Nat × Bool)) : Nat := (l.filter (·.2)).length
def tens (s : ByteArray) (pos : Nat) : Nat := (s.data.toList.drop pos).count 10
theorem tens_step (s : ByteArray) (pos : Nat) (h : pos < s.size) : tens s pos = (if s[pos].toNat = 10 then 1 else 0) + tens s (pos + 1) := by
  unfold tens
  have hl : pos < s.data.toList.length := by rw [Array.length_toList]; exact h
  rw [List.drop_eq_getElem_cons hl, List.count_cons]
  have e : s.data.toList[pos] = s[pos] := rfl
  rw [e, Nat.add_comm]
  congr 1
  by_cases hh : s[pos].toNat = 10
  · have : s[pos] = 10 := UInt8.toNat_inj.1 hh
    simp [this]
  · have : s[pos] ≠ 10 := fun e => hh (by rw [e]; rfl)
    simp [hh, this]
theorem tens_skip (s : ByteArray) : ∀ (k pos : Nat), pos + k ≤ s.size → (∀ j, pos ≤ j → j < pos + k → (hs : j < s.size) → s[j].toNat ≠ 10) → tens s pos = tens s (pos + k)
  | 0, _, _, _ => rfl
  | k + 1, pos, h, hn => by
    rw [tens_step s pos (by omega), if_neg (hn pos (Nat.le_refl _) (by omega) (by omega)), Nat.zero_add, tens_skip s k (pos + 1) (by omega) (fun j a b => hn j (by omega) (by omega))]
    congr 1; omega
theorem tens_rune (s : ByteArray) (pos : Nat) (h : pos < s.size) : tens s pos = (if ((Utf8.decode s pos).1 : Int) == 10 then 1 else 0) + tens s (pos + (Utf8.decode s pos).2) := by
  obtain ⟨h1, h2, h3, h4, h5⟩ := dec_facts s pos h
  rw [ten_iff s pos h, tens_step s pos h]
  have e := tens_skip s ((Utf8.decode s pos).2 - 1) (pos + 1) (by omega) (fun j a b hs => h5 j (by omega) (by omega) hs)
  rw [e, show pos + 1 + ((Utf8.decode s pos).2 - 1) = pos + (Utf8.decode s pos).2 by omega]
  simp
theorem tens_end (s : ByteArray) (pos : Nat) (h : s.size ≤ pos) : tens s pos = 0 := by
  unfold tens
  rw [List.drop_of_length_le (by rw [Array.length_toList]; exact h)]
  rfl
theorem brk_musts (s : ByteArray) (wr : Bool) : ∀ (f pos : Nat) (last : Int), pos ≤ s.size → s.size < pos + f → (pos = 0 → last = 0) → musts (brk s wr true f pos last) = (if last == 10 then 1 else 0) + tens s pos
  | 0, pos, _, hp, hf, _ => by omega
  | f + 1, pos, last, hp, hf, hl => by
    by_cases h : pos < s.size
    · rw [brk_step s wr true f pos last h]
      obtain ⟨h1, h2, _⟩ := dec_facts s pos h
      have ih := brk_musts s wr f (pos + (Utf8.decode s pos).2) (Utf8.decode s pos).1 h2 (by omega) (fun h => by omega)
      have e : musts (brkStep wr true pos last (Utf8.decode s pos).1 ++ brk s wr true f (pos + (Utf8.decode s pos).2) (Utf8.decode s pos).1) = musts (brkStep wr true pos last (Utf8.decode s pos).1) + musts (brk s wr true f (pos + (Utf8.decode s pos).2) (Utf8.decode s pos).1) := by
        simp [musts]
      rw [e, ih, ← tens_rune s pos h]
      congr 1
      unfold brkStep
      cases hc : (last == 10)
      · simp only [Bool.and_false, Bool.false_or]
        split <;> simp [musts]
      · have h0 : 0 < pos := by
          rcases Nat.eq_zero_or_pos pos with h0 | h0
          · have := hl h0; subst this; simp at hc
          · exact h0
        simp [musts, h0]
    · rw [brk_end s wr true f pos last h, tens_end s pos (by omega)]
      unfold brkEnd
      cases hc : (last == 10) <;> simp [musts]
theorem brk_none (s : ByteArray) (wr : Bool) : ∀ (f pos : Nat) (last : Int), musts (brk s wr false f pos last) = 0
  | 0, _, _ => rfl
  | f + 1, pos, last => by
    by_cases h : pos < s.size
    · rw [brk_step s wr false f pos last h]
      have ih := brk_none s wr f (pos + (Utf8.decode s pos).2) (Utf8.decode s pos).1
      unfold brkStep
      split <;> simpa [musts] using ih
    · rw [brk_end s wr false f pos last h]
      simp [brkEnd, musts]
theorem brkAll_musts (s : ByteArray) (wr ke : Bool) : musts (brkAll s wr ke) = if ke then Lib.countByte s.data.toList 10 else 0 := by
  cases ke
  · exact brk_none s wr _ _ _
  · have := brk_musts s wr (s.size + 1) 0 0 (Nat.zero_le _) (by omega) (fun _ => rfl)
    rw [brkAll, this]
    simp [tens, Lib.countByte]
/-- Where a text must be broken a line feed stands ahead. -/
theorem brk_ten (s : ByteArray) (wr ke : Bool) : ∀ (f pos : Nat) (last : Int), pos ≤ s.size → (pos = 0 → last = 0) → (last = 10 → ∃ h : pos - 1 < s.size, s[pos - 1].toNat = 10) → ∀ b ∈ brk s wr ke f pos last, b.2 = true → ∃ h : b.1 - 1 < s.size, s[b.1 - 1].toNat = 10
  | 0, _, _, _, _, _, b, hb, _ => by cases hb
  | f + 1, pos, last, hp, hl, ht, b, hb, hm => by
    by_cases h : pos < s.size
    · rw [brk_step s wr ke f pos last h] at hb
      obtain ⟨h1, h2, h3, h4, _⟩ := dec_facts s pos h
      rcases List.mem_append.1 hb with hb | hb
      · unfold brkStep at hb
        split at hb
        · simp only [List.mem_singleton] at hb
          subst hb
          simp only [Bool.and_eq_true, beq_iff_eq] at hm
          exact ht hm.2
        · cases hb
      · refine brk_ten s wr ke f _ _ h2 (fun h => by omega) (fun hr => ?_) b hb hm
        have hr' : (Utf8.decode s pos).1 = 10 := by omega
        have h10 := h3 hr'
        have hw := h4 h10
        have hw2 : (Utf8.decode s pos).2 = 1 := by rw [hw]
        refine ⟨by omega, ?_⟩
        simp only [hw2, Nat.add_sub_cancel]
        exact h10
    · rw [brk_end s wr ke f pos last h] at hb
      unfold brkEnd at hb
      split at hb
      · rename_i hc
        simp only [List.mem_singleton] at hb
        subst hb
        simp only [Bool.and_eq_true, beq_iff_eq] at hc
        have hp' : pos = s.size := by omega
        have hq := ht hc.2
        simp only [hp'] at hq
        exact hq
      · cases hb
theorem brkAll_ten (s : ByteArray) (wr ke : Bool) : ∀ b ∈ brkAll s wr ke, b.2 = true → ∃ h : b.1 - 1 < s.size, s[b.1 - 1].toNat = 10 :=
  brk_ten s wr ke _ _ _ (Nat.zero_le _) (fun _ => rfl) (fun h => by simp at h)
/-! The pieces. -/
def pcs (s : ByteArray) : Nat → List Nat → List ByteArray
  | _, [] => []
  | from_, b :: r => if from_ < b then s.extract from_ b :: pcs s b r else pcs s from_ r
def lastOf : Nat → List Nat → Nat
  | from_, [] => from_
  | from_, b :: r => if from_ < b then lastOf b r else lastOf from_ r
theorem pcs_append (s : ByteArray) : ∀ (l m : List Nat) (a : Nat), pcs s a (l ++ m) = pcs s a l ++ pcs s (lastOf a l) m
  | [], _, _ => rfl
  | b :: r, m, a => by
    simp only [List.cons_append, pcs, lastOf]
    split
    · rw [pcs_append s r m b]; rfl
    · exact pcs_append s r m a
theorem lastOf_append : ∀ (l m : List Nat) (a : Nat), lastOf a (l ++ m) = lastOf (lastOf a l) m
  | [], _, _ => rfl
  | b :: r, m, a => by
    simp only [List.cons_append, lastOf]
    split
    · exact lastOf_append r m b
    · exact lastOf_append r m a
theorem pcs_mem (s : ByteArray) : ∀ (l : List Nat) (a : Nat), (∀ b ∈ l, b ≤ s.size) → ∀ p ∈ pcs s a l, 0 < p.size
  | [], _, _, p, hp => by cases hp
  | b :: r, a, hb, p, hp => by
    simp only [pcs] at hp
    split at hp
    · rename_i hlt
      rcases List.mem_cons.1 hp with rfl | hp
      · have := hb b (by simp)
        simp [ByteArray.size_extract]
        omega
      · exact pcs_mem s r b (fun x hx => hb x (by simp [hx])) p hp
    · exact pcs_mem s r a (fun x hx => hb x (by simp [hx])) p hp
theorem lastOf_le (n : Nat) : ∀ (l : List Nat) (a : Nat), a ≤ n → (∀ b ∈ l, b ≤ n) → a ≤ lastOf a l ∧ lastOf a l ≤ n
  | [], _, h, _ => ⟨Nat.le_refl _, h⟩
  | b :: r, a, h, hb => by
    simp only [lastOf]
    split
    · have := lastOf_le n r b (hb b (by simp)) (fun x hx => hb x (by simp [hx])); omega
    · exact lastOf_le n r a h (fun x hx => hb x (by simp [hx]))
theorem pcs_join (s : ByteArray) : ∀ (l : List Nat) (a : Nat), a ≤ s.size → (∀ b ∈ l, b ≤ s.size) → ((pcs s a l).map (·.data.toList)).flatten = (s.data.toList.drop a).take (lastOf a l - a)
  | [], a, _, _ => by simp [pcs, lastOf]
  | b :: r, a, ha, hb => by
    simp only [pcs, lastOf]
    split
    · rename_i hlt
      have hbs := hb b (by simp)
      have ih := pcs_join s r b hbs (fun x hx => hb x (by simp [hx]))
      have h2 := lastOf_le s.size r b hbs (fun x hx => hb x (by simp [hx]))
      rw [List.map_cons, List.flatten_cons, ih]
      have e1 : (s.extract a b).data.toList = (s.data.toList.drop a).take (b - a) := by
        simp [ByteArray.data_extract, Array.toList_extract]
      have e2 : s.data.toList.drop b = (s.data.toList.drop a).drop (b - a) := by rw [List.drop_drop]; congr 1; omega
      rw [e1, e2, ← List.take_add]
      congr 1; omega
    · exact pcs_join s r a ha (fun x hx => hb x (by simp [hx]))
/-- All pieces of a text. -/
def brkEnds (s : ByteArray) (wr ke : Bool) : List Nat := (brkAll s wr ke).map (·.1) ++ [s.size]
def piecesF (s : ByteArray) (wr ke : Bool) : List ByteArray := pcs s 0 (brkEnds s wr ke)
theorem rises_le {n : Nat} : ∀ {l : List (Nat × Bool)} {lo : Nat}, rises n lo l → ∀ b ∈ l.map (·.1), b ≤ n
  | [], _, _, b, hb => by cases hb
  | (a, _) :: r, _, h, b, hb => by
    rcases List.mem_cons.1 hb with rfl | hb
    · exact h.2.1
    · exact rises_le h.2.2 b hb
theorem ends_le (s : ByteArray) (wr ke : Bool) : ∀ b ∈ brkEnds s wr ke, b ≤ s.size := by
  intro b hb
  rcases List.mem_append.1 hb with hb | hb
  · exact rises_le (brkAll_rises s wr ke) b hb
  · simp at hb; omega
theorem pieces_join (s : ByteArray) (wr ke : Bool) : ((piecesF s wr ke).map (·.data.toList)).flatten = s.data.toList := by
  unfold piecesF
  rw [pcs_join s _ 0 (Nat.zero_le _) (ends_le s wr ke)]
  have h1 := lastOf_le s.size (brkEnds s wr ke) 0 (Nat.zero_le _) (ends_le s wr ke)
  have h2 : lastOf 0 (brkEnds s wr ke) = s.size := by
    unfold brkEnds at h1 ⊢
    rw [lastOf_append] at h1 ⊢
    simp only [lastOf] at h1 ⊢
    have h3 := lastOf_le s.size ((brkAll s wr ke).map (·.1)) 0 (Nat.zero_le _) (rises_le (brkAll_rises s wr ke))
    split <;> omega
  rw [h2, Nat.sub_zero, List.drop_zero, List.take_of_length_le (by rw [Array.length_toList]; exact Nat.le_refl _)]
theorem pieces_some (s : ByteArray) (wr ke : Bool) : ∀ p ∈ piecesF s wr ke, 0 < p.size := pcs_mem s _ 0 (ends_le s wr ke)
def modeW (m : Int) : Bool := m == 0 || m == 3
def modeK (m : Int) : Bool := m == 1 || m == 3
end Go.Proofs.Ytadlabndbomgmaa
