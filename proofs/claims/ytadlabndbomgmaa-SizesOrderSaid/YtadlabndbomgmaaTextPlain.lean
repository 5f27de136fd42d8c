/- Plain facts on texts that are valid: the runes of two texts, one behind the other; of a piece; widths. No program in sight. -/
import Derived.Lib.MapLaws
import Derived.Lib.ValidLaws
import Derived.Lib.TrimUEq
import Derived.Test.YtadlabndbomgmaaFontPlain
namespace Go.Proofs.Ytadlabndbomgmaa
open Go.Lib
/-- The runes of a list of bytes. -/
def runesG : Nat → List UInt8 → List Int
  | 0, _ => []
  | f + 1, l => if l = [] then [] else ((decodeL l).1 : Int) :: runesG f (l.drop (decodeL l).2)
def runesL (l : List UInt8) : List Int := runesG l.length l
theorem runesG_fuel : ∀ (f g : Nat) (l : List UInt8), l.length ≤ f → l.length ≤ g → runesG f l = runesG g l
  | 0, 0, _, _, _ => rfl
  | 0, g + 1, l, h, _ => by
    obtain rfl : l = [] := List.eq_nil_of_length_eq_zero (by omega)
    simp [runesG]
  | f + 1, 0, l, _, h => by
    obtain rfl : l = [] := List.eq_nil_of_length_eq_zero (by omega)
    simp [runesG]
  | f + 1, g + 1, l, h1, h2 => by
    simp only [runesG]
    by_cases hne : l = []
    · rw [if_pos hne, if_pos hne]
    · have hw := decodeL_width l
      have hl : 0 < l.length := List.length_pos_iff.2 hne
      rw [if_neg hne, if_neg hne, runesG_fuel f g _ (by rw [List.length_drop]; omega) (by rw [List.length_drop]; omega)]
theorem runesL_nil : runesL [] = [] := rfl
theorem runesL_step (l : List UInt8) (hne : l ≠ []) : runesL l = ((decodeL l).1 : Int) :: runesL (l.drop (decodeL l).2) := by
  have hl : 0 < l.length := List.length_pos_iff.2 hne
  have hw := decodeL_width l
  obtain ⟨n, hn⟩ : ∃ n, l.length = n + 1 := ⟨l.length - 1, by omega⟩
  unfold runesL
  rw [hn]
  simp only [runesG]
  rw [if_neg hne, runesG_fuel n _ _ (by rw [List.length_drop]; omega) (Nat.le_refl _)]
theorem runesAt_list (s : ByteArray) : ∀ (f pos : Nat), s.size - pos ≤ f → runesAt s pos = runesL (s.data.toList.drop pos)
  | 0, pos, h => by
    rw [runesAt_end s pos (by omega), List.drop_of_length_le (by rw [Array.length_toList]; show s.size ≤ pos; omega)]; rfl
  | f + 1, pos, h => by
    by_cases hp : pos < s.size
    · have hw := decode_wd s pos hp
      rw [runesAt_step s pos hp, runesL_step _ (by
        intro e
        have := congrArg List.length e
        rw [List.length_drop, Array.length_toList] at this
        have h9 : s.data.size - pos = 0 := this
        have : s.data.size = s.size := rfl
        omega), decodeL_drop, List.drop_drop, runesAt_list s f _ (by omega)]
    · rw [runesAt_end s pos (by omega), List.drop_of_length_le (by rw [Array.length_toList]; show s.size ≤ pos; omega)]; rfl
theorem runes_all (s : ByteArray) : runesAt s 0 = runesL s.data.toList := by rw [runesAt_list s s.size 0 (by omega), List.drop_zero]
/-- A step that is no error reads no further than its own bytes. -/
theorem decodeN_same (n n' b0 b1 b2 b3 c1 c2 c3 : Nat) (hw : (decodeN n b0 b1 b2 b3).2 ≤ n') (h1 : 1 < (decodeN n b0 b1 b2 b3).2 → b1 = c1) (h2 : 2 < (decodeN n b0 b1 b2 b3).2 → b2 = c2) (h3 : 3 < (decodeN n b0 b1 b2 b3).2 → b3 = c3)
    (hne : ¬ ((decodeN n b0 b1 b2 b3).1 = 65533 ∧ (decodeN n b0 b1 b2 b3).2 = 1)) : decodeN n' b0 c1 c2 c3 = decodeN n b0 b1 b2 b3 := by
  rcases decodeN_shape n b0 b1 b2 b3 with ⟨c, e⟩ | ⟨k1, k2, k3, kv, e⟩ | ⟨k1, k2, k3, k4, kv, ks, e⟩ | ⟨k1, k2, k3, k4, k5, kv, kw, e⟩ | e
  · rw [e]; unfold decodeN; rw [if_pos c]
  · rw [e] at hw h1 ⊢
    obtain rfl := h1 (by simp)
    simp only at hw
    unfold decodeN
    rw [if_neg (by omega), if_pos ⟨k1, by omega, k3⟩, if_pos kv]
  · rw [e] at hw h1 h2 ⊢
    obtain rfl := h1 (by simp)
    obtain rfl := h2 (by simp)
    simp only at hw
    unfold decodeN
    rw [if_neg (by omega), if_neg (by omega), if_pos ⟨k1, ⟨by omega, k3⟩, by omega, k4⟩, if_pos ⟨kv, by omega⟩]
  · rw [e] at hw h1 h2 h3 ⊢
    obtain rfl := h1 (by simp)
    obtain rfl := h2 (by simp)
    obtain rfl := h3 (by simp)
    simp only at hw
    unfold decodeN
    rw [if_neg (by omega), if_neg (by omega), if_neg (by omega), if_pos ⟨k1, ⟨by omega, k3⟩, ⟨by omega, k4⟩, by omega, k5⟩, if_pos ⟨kv, by omega⟩]
  · rw [e] at hne; exact absurd ⟨rfl, rfl⟩ hne
theorem decodeL_pre (l p : List UInt8) (hp : (decodeL l).2 ≤ p.length) (he : p.take (decodeL l).2 = l.take (decodeL l).2) (hne : ¬ ((decodeL l).1 = 65533 ∧ (decodeL l).2 = 1)) : decodeL p = decodeL l := by
  have hw1 := decodeL_width l
  have hg : ∀ i, i < (decodeL l).2 → p.getD i 0 = l.getD i 0 := fun i hi => by
    have h1 : (p.take (decodeL l).2)[i]? = (l.take (decodeL l).2)[i]? := by rw [he]
    rw [List.getElem?_take_of_lt hi, List.getElem?_take_of_lt hi] at h1
    simp only [List.getD, h1]
  rw [decodeL_N p, decodeL_N l, hg 0 (by omega)]
  refine decodeN_same _ _ _ _ _ _ _ _ _ (by rw [← decodeL_N]; exact hp) (fun h => ?_) (fun h => ?_) (fun h => ?_) (by rw [← decodeL_N]; exact hne)
  · rw [← decodeL_N] at h; rw [hg 1 h]
  · rw [← decodeL_N] at h; rw [hg 2 h]
  · rw [← decodeL_N] at h; rw [hg 3 h]
/-- A text that is valid: each step is no error. -/
theorem valid_head {l : List UInt8} (hne : l ≠ []) (h : validD l = true) : ¬ ((decodeL l).1 = 65533 ∧ (decodeL l).2 = 1) ∧ validD (l.drop (decodeL l).2) = true := by
  rw [validD_step l hne] at h
  split at h
  · cases h
  · exact ⟨by assumption, h⟩
theorem runes_append : ∀ (f : Nat) (a b : List UInt8), a.length ≤ f → validD a = true → runesL (a ++ b) = runesL a ++ runesL b
  | 0, a, b, h, _ => by
    obtain rfl : a = [] := List.eq_nil_of_length_eq_zero (by omega)
    rfl
  | f + 1, a, b, h, hv => by
    by_cases hne : a = []
    · subst hne; rfl
    · obtain ⟨h1, h2⟩ := valid_head hne hv
      have hl := decodeL_le a hne
      have hw := decodeL_width a
      have e : decodeL (a ++ b) = decodeL a := decodeL_pre a (a ++ b) (by rw [List.length_append]; omega) (by rw [List.take_append_of_le_length hl]) h1
      rw [runesL_step a hne, runesL_step (a ++ b) (by simp [hne]), e, List.drop_append_of_le_length hl, runes_append f _ b (by rw [List.length_drop]; omega) h2]
      rfl
theorem runesL_len : ∀ (f : Nat) (l : List UInt8), l.length ≤ f → (runesL l).length ≤ f
  | 0, l, h => by
    obtain rfl : l = [] := List.eq_nil_of_length_eq_zero (by omega)
    simp [runesL_nil]
  | f + 1, l, h => by
    by_cases hne : l = []
    · subst hne; simp [runesL_nil]
    · have hw := decodeL_width l
      rw [runesL_step l hne]
      have := runesL_len f (l.drop (decodeL l).2) (by rw [List.length_drop]; omega)
      simp; omega
/-! Widths. -/
def widthF (size sp : Int) (l : List Int) : Int := cut (wideS size (cut sp) l)
theorem wideS_bd (size sp : Int) (M : Int) (hs : sizeF size ≤ M) (hsp : -M ≤ sp ∧ sp ≤ M) (hM : 0 ≤ M) : ∀ l : List Int, -(M * l.length) ≤ wideS size sp l ∧ wideS size sp l ≤ 2 * (M * l.length)
  | [] => by simp [wideS]
  | r :: l => by
    have ih := wideS_bd size sp M hs hsp hM l
    have ha := adv_bd r size
    simp only [wideS, List.length_cons]
    have e : M * ((l.length + 1 : Nat) : Int) = M * (l.length : Int) + M := by rw [Int.natCast_add, Int.mul_add]; simp
    rw [e]
    omega
/-- Two texts, one behind the other, are as wide as both. -/
theorem width_joined (size sp : Int) (hs : sizeF size ≤ 32767) (hsp : -128 ≤ sp ∧ sp ≤ 127) (a b : List Int) (ha : a.length ≤ 100) (hb : b.length ≤ 100) : widthF size sp (a ++ b) = widthF size sp a + widthF size sp b := by
  have hc : cut sp = sp := cut_of (by omega) (by omega)
  have h1 := wideS_bd size sp 32767 hs (by omega) (by omega) a
  have h2 := wideS_bd size sp 32767 hs (by omega) (by omega) b
  unfold widthF
  rw [hc, wideS_append, cut_of (by omega) (by omega), cut_of (by omega) (by omega), cut_of (by omega) (by omega)]
end Go.Proofs.Ytadlabndbomgmaa
