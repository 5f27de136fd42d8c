/- Bits of integers: the lower eight; what is laid beside. No program in sight. -/
import Derived.Laws.Bits64b
import Derived.Laws.Shifts
import Derived.Test.YtadlabndbomgmaaPlain
namespace Go.Proofs.Ytadlabndbomgmaa
theorem ofInt_nat (x : Int) : ((BitVec.ofInt 64 x).toNat : Int) = x % 18446744073709551616 := by
  rw [BitVec.toNat_ofInt]
  have : (0 : Int) ≤ x % ((2 ^ 64 : Nat) : Int) := Int.emod_nonneg _ (by decide)
  rw [Int.toNat_of_nonneg this]; rfl
theorem and255 (x : Int) : bits .and .i64 x 255 = x % 256 := by
  have h1 := ofInt_nat x
  have h2 : (BitVec.ofInt 64 (255 : Int)).toNat = 255 := by decide
  show IntKind.i64.wrap ((BitVec.ofInt 64 x &&& BitVec.ofInt 64 255).toNat : Int) = _
  rw [BitVec.toNat_and, h2, show (255 : Nat) = 2 ^ 8 - 1 from rfl, Nat.and_two_pow_sub_one_eq_mod]
  generalize (BitVec.ofInt 64 x).toNat = n at *
  rw [IntKind.wrap_i64]
  omega
theorem and1 (x : Int) : bits .and .i64 x 1 = x % 2 := by
  have h1 := ofInt_nat x
  have h2 : (BitVec.ofInt 64 (1 : Int)).toNat = 1 := by decide
  show IntKind.i64.wrap ((BitVec.ofInt 64 x &&& BitVec.ofInt 64 1).toNat : Int) = _
  rw [BitVec.toNat_and, h2, show (1 : Nat) = 2 ^ 1 - 1 from rfl, Nat.and_two_pow_sub_one_eq_mod]
  generalize (BitVec.ofInt 64 x).toNat = n at *
  rw [IntKind.wrap_i64]
  omega
theorem ofInt_of_nat (a : Nat) (h : a < 18446744073709551616) : (BitVec.ofInt 64 (a : Int)).toNat = a := by
  rw [BitVec.ofInt_natCast, BitVec.toNat_ofNat]; exact Nat.mod_eq_of_lt (by omega)
theorem or_nat (a b : Nat) (ha : a < 4611686018427387904) (hb : b < 4611686018427387904) : bits .or .i64 (a : Int) (b : Int) = ((a ||| b : Nat) : Int) := by
  have hx : a ||| b < 2 ^ 62 := Nat.or_lt_two_pow (by omega) (by omega)
  show IntKind.i64.wrap ((BitVec.ofInt 64 (a : Int) ||| BitVec.ofInt 64 (b : Int)).toNat : Int) = _
  rw [BitVec.toNat_or, ofInt_of_nat a (by omega), ofInt_of_nat b (by omega), IntKind.wrap_i64]
  omega
/-- What lies beside: the lower k bits, and a number above them. -/
theorem or_beside (a m k : Nat) (ha : a < 2 ^ k) (hk : k ≤ 24) (hm : m ≤ 255) : bits .or .i64 (a : Int) ((m : Int) * 2 ^ k) = (a : Int) + (m : Int) * 2 ^ k := by
  have h24 : (2 : Nat) ^ k ≤ 2 ^ 24 := Nat.pow_le_pow_right (by decide) hk
  have e : ((m : Int) * 2 ^ k) = ((m * 2 ^ k : Nat) : Int) := by simp
  have hmk : m * 2 ^ k ≤ 255 * 2 ^ 24 := Nat.mul_le_mul hm h24
  have h3 : a ||| m * 2 ^ k = a + m * 2 ^ k := by
    have := Nat.shiftLeft_add_eq_or_of_lt ha m
    rw [Nat.shiftLeft_eq] at this
    rw [Nat.or_comm, ← this]; omega
  rw [e, or_nat a (m * 2 ^ k) (by omega) (by omega), h3]
  omega
theorem or1 (m : Int) (h : 0 ≤ m) (h' : m ≤ 255) : bits .or .i64 m 1 = m + (1 - m % 2) := by
  have hall : ∀ n : Fin 256, bits .or .i64 (n.val : Int) 1 = (n.val : Int) + (1 - (n.val : Int) % 2) := by decide +kernel
  have := hall ⟨m.toNat, by omega⟩
  simpa [Int.toNat_of_nonneg h] using this
/-- The lower eight bits set; the lower eight bits struck. -/
theorem or255 (x : Int) (h : -9223372036854775808 ≤ x ∧ x ≤ 9223372036854775807) : bits .or .i64 x 255 = x / 256 * 256 + 255 := by
  have h1 := ofInt_nat x
  have h2 : (BitVec.ofInt 64 (255 : Int)).toNat = 255 := by decide
  show IntKind.i64.wrap ((BitVec.ofInt 64 x ||| BitVec.ofInt 64 255).toNat : Int) = _
  rw [BitVec.toNat_or, h2]
  generalize (BitVec.ofInt 64 x).toNat = n at *
  have h3 : n ||| 255 = n / 256 * 256 + 255 := by
    have e := Nat.shiftLeft_add_eq_or_of_lt (show (255 : Nat) < 2 ^ 8 by decide) (n / 256)
    rw [Nat.shiftLeft_eq] at e
    have e2 := Nat.shiftLeft_add_eq_or_of_lt (show n % 256 < 2 ^ 8 by omega) (n / 256)
    rw [Nat.shiftLeft_eq] at e2
    have e3 : n % 256 ||| 255 = 255 := by
      have hall : ∀ k : Fin 256, k.val ||| 255 = 255 := by decide +kernel
      exact hall ⟨n % 256, by omega⟩
    have hn : n = n / 256 * 256 ||| n % 256 := by rw [show (256 : Nat) = 2 ^ 8 from rfl]; rw [← e2]; omega
    rw [show n ||| 255 = (n / 256 * 256 ||| n % 256) ||| 255 from by rw [← hn], Nat.or_assoc, e3, show (256 : Nat) = 2 ^ 8 from rfl, ← e]
  rw [h3, IntKind.wrap_i64]
  omega
theorem andNot255 (x : Int) (h : -9223372036854775808 ≤ x ∧ x ≤ 9223372036854775807) : bits .andNot .i64 x 255 = x / 256 * 256 := by
  have h1 := ofInt_nat x
  show IntKind.i64.wrap ((BitVec.ofInt 64 x &&& ~~~(BitVec.ofInt 64 255)).toNat : Int) = _
  have h4 : (BitVec.ofInt 64 x &&& ~~~(BitVec.ofInt 64 255)) = ((BitVec.ofInt 64 x) >>> 8) <<< 8 := by
    generalize BitVec.ofInt 64 x = v
    apply BitVec.eq_of_getLsbD_eq
    intro i hi
    simp only [BitVec.getLsbD_and, BitVec.getLsbD_not, BitVec.getLsbD_shiftLeft, BitVec.getLsbD_ushiftRight]
    have h5 : (BitVec.ofInt 64 255).getLsbD i = decide (i < 8) := by
      have hall : ∀ k : Fin 64, (BitVec.ofInt 64 255).getLsbD k.val = decide (k.val < 8) := by decide +kernel
      exact hall ⟨i, hi⟩
    rw [h5]
    by_cases h8 : i < 8
    · simp [h8]
    · simp [h8, hi]
      rw [show 8 + (i - 8) = i by omega]
      exact (BitVec.getLsbD_eq_getElem hi).symm
  rw [h4]
  have h6 : (((BitVec.ofInt 64 x) >>> 8) <<< 8).toNat = (BitVec.ofInt 64 x).toNat / 256 * 256 := by
    rw [BitVec.toNat_shiftLeft, BitVec.toNat_ushiftRight, Nat.shiftRight_eq_div_pow, Nat.shiftLeft_eq]
    have := (BitVec.ofInt 64 x).isLt
    rw [Nat.mod_eq_of_lt (by omega)]
  rw [h6]
  generalize (BitVec.ofInt 64 x).toNat = n at *
  rw [IntKind.wrap_i64]
  omega
end Go.Proofs.Ytadlabndbomgmaa
