/- Plain facts on what fits: as much as has room; one rune more has none. No program in sight. -/
import Derived.Test.YtadlabndbomgmaaTextPlain
namespace Go.Proofs.Ytadlabndbomgmaa
open Go.Lib
theorem valid_append : ∀ (f : Nat) (a b : List UInt8), a.length ≤ f → validD a = true → validD (a ++ b) = validD b
  | 0, a, b, h, _ => by
    obtain rfl : a = [] := List.eq_nil_of_length_eq_zero (by omega)
    rfl
  | f + 1, a, b, h, hv => by
    by_cases hne : a = []
    · subst hne; rfl
    · obtain ⟨h1, h2⟩ := valid_head hne hv
      have hl := decodeL_le a hne
      have hw := decodeL_width a
      have e : decodeL (a ++ b) = decodeL a := decodeL_pre a (a ++ b) (by rw [List.length_append]; omega) (by rw [List.take_append_of_le_length hl]) h1
      rw [validD_step (a ++ b) (by simp [hne]), e, if_neg h1, List.drop_append_of_le_length hl, valid_append f _ b (by rw [List.length_drop]; omega) h2]
/-- One rune alone. -/
theorem one_rune {q : List UInt8} (hne : q ≠ []) (hv : validD q = true) : runesL (q.take (decodeL q).2) = [((decodeL q).1 : Int)] ∧ validD (q.take (decodeL q).2) = true := by
  obtain ⟨h1, _⟩ := valid_head hne hv
  have hl := decodeL_le q hne
  have hw := decodeL_width q
  have hlen : (q.take (decodeL q).2).length = (decodeL q).2 := by rw [List.length_take]; omega
  have e : decodeL (q.take (decodeL q).2) = decodeL q := decodeL_pre q _ (by omega) (by rw [List.take_take, Nat.min_self]) h1
  have hn2 : q.take (decodeL q).2 ≠ [] := fun h => by rw [h] at hlen; simp at hlen; omega
  have hd : (q.take (decodeL q).2).drop (decodeL q).2 = [] := List.drop_of_length_le (by omega)
  constructor
  · rw [runesL_step _ hn2, e, hd]; rfl
  · rw [validD_step _ hn2, e, if_neg h1, hd]; rfl
/-- As much as has room, from a place on. -/
def fitG (size sp room : Int) (s : ByteArray) : Nat → Nat → Int → Nat
  | 0, _, _ => s.size
  | f + 1, pos, acc => if pos < s.size then (if room < cut (acc + (advF ((Utf8.decode s pos).1 : Int) size + sp)) then pos else fitG size sp room s f (pos + (Utf8.decode s pos).2) (acc + (advF ((Utf8.decode s pos).1 : Int) size + sp))) else s.size
def fitF (size sp room : Int) (s : ByteArray) : Nat := fitG size sp room s s.size 0 0
theorem bytes_len (s : ByteArray) : s.data.toList.length = s.size := by rw [Array.length_toList]; rfl
def FitOk (size sp room : Int) (s : ByteArray) (k : Nat) : Prop :=
  k ≤ s.size ∧ cut (wideS size sp (runesL (s.data.toList.take k))) ≤ room ∧ (k < s.size → room < cut (wideS size sp (runesL (s.data.toList.take (k + (Utf8.decode s k).2)))))
theorem fit_to (size sp room : Int) (s : ByteArray) : ∀ (f pos : Nat) (acc : Int), s.size - pos ≤ f → pos ≤ s.size → validD (s.data.toList.take pos) = true → validD (s.data.toList.drop pos) = true → acc = wideS size sp (runesL (s.data.toList.take pos)) → cut acc ≤ room → FitOk size sp room s (fitG size sp room s f pos acc)
  | 0, pos, acc, hf, hp, _, _, ha, hc => by
    obtain rfl : pos = s.size := by omega
    unfold fitG
    exact ⟨Nat.le_refl _, by rw [← ha]; exact hc, fun h => absurd h (Nat.lt_irrefl _)⟩
  | f + 1, pos, acc, hf, hp, hv1, hv2, ha, hc => by
    unfold fitG
    by_cases hlt : pos < s.size
    · rw [if_pos hlt]
      have hw := decode_wd s pos hlt
      have hne : s.data.toList.drop pos ≠ [] := fun e => by
        have := congrArg List.length e
        rw [List.length_drop, bytes_len] at this
        simp at this; omega
      have hd := decodeL_drop s pos
      obtain ⟨o1, o2⟩ := one_rune hne hv2
      obtain ⟨_, h2⟩ := valid_head hne hv2
      rw [hd] at o1 o2 h2
      have ht : s.data.toList.take (pos + (Utf8.decode s pos).2) = s.data.toList.take pos ++ (s.data.toList.drop pos).take (Utf8.decode s pos).2 := List.take_add
      have hr : runesL (s.data.toList.take (pos + (Utf8.decode s pos).2)) = runesL (s.data.toList.take pos) ++ [((Utf8.decode s pos).1 : Int)] := by
        rw [ht, runes_append _ _ _ (Nat.le_refl _) hv1, o1]
      have hacc : acc + (advF ((Utf8.decode s pos).1 : Int) size + sp) = wideS size sp (runesL (s.data.toList.take (pos + (Utf8.decode s pos).2))) := by
        rw [hr, wideS_append, ha]; simp [wideS]
      by_cases hrm : room < cut (acc + (advF ((Utf8.decode s pos).1 : Int) size + sp))
      · rw [if_pos hrm]
        exact ⟨hp, by rw [← ha]; exact hc, fun _ => by rw [← hacc]; exact hrm⟩
      · rw [if_neg hrm]
        refine fit_to size sp room s f _ _ (by omega) (by omega) ?_ ?_ hacc (by omega)
        · rw [ht, valid_append _ _ _ (Nat.le_refl _) hv1, o2]
        · rw [List.drop_drop] at h2; exact h2
    · rw [if_neg hlt]
      obtain rfl : pos = s.size := by omega
      exact ⟨Nat.le_refl _, by rw [← ha]; exact hc, fun h => absurd h (Nat.lt_irrefl _)⟩
theorem fit_law (size sp room : Int) (s : ByteArray) (hr : 0 ≤ room) (hv : validD s.data.toList = true) : FitOk size sp room s (fitF size sp room s) :=
  fit_to size sp room s s.size 0 0 (by omega) (Nat.zero_le _) rfl (by rw [List.drop_zero]; exact hv) rfl (by rw [show cut 0 = 0 from rfl]; exact hr)
end Go.Proofs.Ytadlabndbomgmaa
