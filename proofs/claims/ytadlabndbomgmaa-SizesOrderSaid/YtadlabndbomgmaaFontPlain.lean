/- Plain facts on letters: how wide a rune is, the runes of a text, its dots. No program in sight. -/
import Derived.Lib.DecodeN
import Derived.Test.YtadlabndbomgmaaPlain
namespace Go.Proofs.Ytadlabndbomgmaa
def narrowL : List Int := [32, 105, 108, 106, 46, 44, 39, 33, 124, 58]
def wideL : List Int := [109, 119, 77, 87, 64]
def fourthsF (r : Int) : Int := if r < 32 ∨ r = 127 then 0 else if 4352 ≤ r then 4 else if r ∈ narrowL then 1 else if r ∈ wideL then 3 else 2
theorem fourths_bd (r : Int) : 0 ≤ fourthsF r ∧ fourthsF r ≤ 4 := by
  unfold fourthsF
  split
  · omega
  · split
    · omega
    · split
      · omega
      · split <;> omega
def sizeF (n : Int) : Int := max 0 (cut n)
theorem sizeF_bd (n : Int) : 0 ≤ sizeF n ∧ sizeF n ≤ 16777216 := by
  have h := cut_hi n
  unfold sizeF; omega
theorem cut_size (n : Int) : cut (sizeF n) = sizeF n := by
  have h := sizeF_bd n
  exact cut_of (by omega) (by omega)
theorem size_size (n : Int) : sizeF (sizeF n) = sizeF n := by
  have h := sizeF_bd n
  have e := cut_size n
  show max 0 (cut (sizeF n)) = sizeF n
  rw [e]; omega
theorem part_of (n up down : Int) (h1 : cut n = n) (h2 : cut up = up) (h3 : cut down = down) (h4 : 0 < down) : partOf n up down = cut (n * up / down) := by
  unfold partOf
  rw [h1, h2, h3]
def advF (r size : Int) : Int := partOf (sizeF size) (fourthsF r) 4
def ascF (size : Int) : Int := partOf (sizeF size) 3 4
theorem adv_eq (r size : Int) : advF r size = sizeF size * fourthsF r / 4 := by
  have h1 := sizeF_bd size
  have h2 := fourths_bd r
  have h3 : 0 ≤ sizeF size * fourthsF r := Int.mul_nonneg (by omega) (by omega)
  have h4 : sizeF size * fourthsF r ≤ sizeF size * 4 := Int.mul_le_mul (Int.le_refl _) (by omega) (by omega) (by omega)
  unfold advF
  rw [part_of _ _ _ (cut_size _) (cut_of (by omega) (by omega)) (cut_of (by omega) (by omega)) (by omega), cut_of (by omega) (by omega)]
theorem asc_eq (size : Int) : ascF size = sizeF size * 3 / 4 := by
  have h1 := sizeF_bd size
  unfold ascF
  rw [part_of _ _ _ (cut_size _) (cut_of (by omega) (by omega)) (cut_of (by omega) (by omega)) (by omega), cut_of (by omega) (by omega)]
theorem adv_bd (r size : Int) : 0 ≤ advF r size ∧ advF r size ≤ sizeF size := by
  have h1 := sizeF_bd size
  have h2 := fourths_bd r
  have h3 : 0 ≤ sizeF size * fourthsF r := Int.mul_nonneg (by omega) (by omega)
  have h4 : sizeF size * fourthsF r ≤ sizeF size * 4 := Int.mul_le_mul (Int.le_refl _) (by omega) (by omega) (by omega)
  rw [adv_eq]; omega
theorem asc_bd (size : Int) : 0 ≤ ascF size ∧ ascF size ≤ sizeF size := by
  have h1 := sizeF_bd size
  rw [asc_eq]; omega
theorem adv_size (r n : Int) : advF r (sizeF n) = advF r n := by unfold advF; rw [size_size]
/-! The runes of a text. -/
theorem decode_wd (s : ByteArray) (pos : Nat) (h : pos < s.size) : 1 ≤ (Utf8.decode s pos).2 ∧ pos + (Utf8.decode s pos).2 ≤ s.size ∧ (Utf8.decode s pos).1 ≤ 1114111 := by
  have h0 := Lib.decode_at s pos
  rw [h0]
  unfold Lib.decodeN
  have hb : (s.get! pos).toNat < 256 := UInt8.toNat_lt _
  generalize (s.get! pos).toNat = b0 at *
  generalize (s.get! (pos + 1)).toNat = b1 at *
  generalize (s.get! (pos + 2)).toNat = b2 at *
  generalize (s.get! (pos + 3)).toNat = b3 at *
  clear h0
  repeat' split
  all_goals (refine ⟨?_, ?_, ?_⟩ <;> simp only <;> omega)
def runesF (s : ByteArray) : Nat → Nat → List Int
  | 0, _ => []
  | f + 1, pos => if pos < s.size then ((Utf8.decode s pos).1 : Int) :: runesF s f (pos + (Utf8.decode s pos).2) else []
theorem runes_fuel (s : ByteArray) : ∀ (f g pos : Nat), s.size - pos ≤ f → s.size - pos ≤ g → runesF s f pos = runesF s g pos
  | 0, 0, _, _, _ => rfl
  | 0, g + 1, pos, h, _ => by simp only [runesF]; rw [if_neg (by omega)]
  | f + 1, 0, pos, _, h => by simp only [runesF]; rw [if_neg (by omega)]
  | f + 1, g + 1, pos, h1, h2 => by
    simp only [runesF]
    by_cases h : pos < s.size
    · have h3 := decode_wd s pos h
      rw [if_pos h, if_pos h, runes_fuel s f g (pos + (Utf8.decode s pos).2) (by omega) (by omega)]
    · rw [if_neg h, if_neg h]
def runesAt (s : ByteArray) (pos : Nat) : List Int := runesF s (s.size - pos) pos
theorem runesAt_step (s : ByteArray) (pos : Nat) (h : pos < s.size) : runesAt s pos = ((Utf8.decode s pos).1 : Int) :: runesAt s (pos + (Utf8.decode s pos).2) := by
  have h3 := decode_wd s pos h
  unfold runesAt
  rw [show s.size - pos = (s.size - pos - 1) + 1 by omega]
  simp only [runesF]
  rw [if_pos h, runes_fuel s _ (s.size - (pos + (Utf8.decode s pos).2)) (pos + (Utf8.decode s pos).2) (by omega) (by omega)]
theorem runesAt_end (s : ByteArray) (pos : Nat) (h : s.size ≤ pos) : runesAt s pos = [] := by
  unfold runesAt
  rw [show s.size - pos = 0 by omega]; rfl
theorem runesAt_len (s : ByteArray) : ∀ (f pos : Nat), s.size - pos ≤ f → (runesAt s pos).length ≤ f
  | 0, pos, h => by rw [runesAt_end s pos (by omega)]; simp
  | f + 1, pos, h => by
    by_cases hp : pos < s.size
    · have h3 := decode_wd s pos hp
      rw [runesAt_step s pos hp]
      have := runesAt_len s f (pos + (Utf8.decode s pos).2) (by omega)
      simp; omega
    · rw [runesAt_end s pos (by omega)]; simp
/-- How wide runes are, one behind the other. -/
def wideS (size sp : Int) : List Int → Int
  | [] => 0
  | r :: l => advF r size + sp + wideS size sp l
theorem wideS_append (size sp : Int) (l m : List Int) : wideS size sp (l ++ m) = wideS size sp l + wideS size sp m := by
  induction l with
  | nil => simp [wideS]
  | cons r l ih => simp only [List.cons_append, wideS, ih]; omega
end Go.Proofs.Ytadlabndbomgmaa
