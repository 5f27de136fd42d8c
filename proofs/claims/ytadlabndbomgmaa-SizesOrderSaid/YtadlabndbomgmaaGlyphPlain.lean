/- Plain facts on glyphs: has a text a dot at a place? No program in sight. -/
import Derived.Test.YtadlabndbomgmaaFontPlain
import Derived.Test.YtadlabndbomgmaaRasterPlain
namespace Go.Proofs.Ytadlabndbomgmaa
def rowD (r k : Int) : Int := if r = 32 ∨ fourthsF r = 0 then 0 else (r + 1) * (k + 3) * 37 % 256 + (1 - (r + 1) * (k + 3) * 37 % 256 % 2)
theorem rowD_bd (r k : Int) : 0 ≤ rowD r k ∧ rowD r k ≤ 256 := by unfold rowD; split <;> omega
def dotF (r k j : Int) : Bool := rowD r k / 2 ^ (7 - j).toNat % 2 == 1
def hereF (size top x y left r : Int) : Bool := inR ⟨left, top, advF r size, size⟩ x y && dotF r (partOf (y - top) 8 size) (partOf (x - left) 8 (advF r size))
def glyphS (size sp top x y : Int) : Int → List Int → Bool
  | _, [] => false
  | left, r :: l => if hereF size top x y left r then true else glyphS size sp top x y (left + (advF r size + sp)) l
def glyphF (c : Cm) (x y : Int) : Bool := glyphS (sizeF c.n) (cut c.h) (cut c.y - ascF (sizeF c.n)) x y (cut c.x) (runesAt c.t 0)
/-- A part of eight, of what is within. -/
theorem part8 {a w : Int} (h0 : 0 ≤ a) (h1 : a < w) (h2 : w ≤ 16777216) : 0 ≤ partOf a 8 w ∧ partOf a 8 w ≤ 7 := by
  rw [part_of _ _ _ (cut_of (by omega) (by omega)) (cut_of (by omega) (by omega)) (cut_of (by omega) (by omega)) (by omega)]
  have h3 : 0 ≤ a * 8 / w := Int.ediv_nonneg (by omega) (by omega)
  have h4 : a * 8 / w < 8 := Int.ediv_lt_of_lt_mul (by omega) (by omega)
  rw [cut_of (by omega) (by omega)]
  omega
end Go.Proofs.Ytadlabndbomgmaa
