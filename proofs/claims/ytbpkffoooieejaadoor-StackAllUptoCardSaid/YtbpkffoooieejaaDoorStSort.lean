/- How marks are compared, and lists of numbers sorted by them; what a sorted row leaves alone. No program in sight. -/
import Derived.Shelf.SlSortCmp.NoneTotal
import Derived.Lib.SortBridge
import Derived.Test.YtbpkffoooieejaaDoorStackPlain
namespace Go.Proofs.YtbpkffoooieejaaDoor
open Go.Sort Go.RowKit Go.Lib
abbrev Mk := Int × Int × Int
/-- The first that is not 0. -/
def or3 (x y z : Int) : Int := if x ≠ 0 then x else if y ≠ 0 then y else z
def cfM (M : Nat → Mk) (a b : Nat) : Int := or3 (Lib.compareInt (M a).2.2 (M b).2.2) (Lib.compareInt (M a).2.1 (M b).2.1) (Lib.compareInt a b)
theorem ltM (M : Nat → Mk) (a b : Nat) : ltOf (cfM M) a b = decide ((M a).2.2 < (M b).2.2 ∨ (M a).2.2 = (M b).2.2 ∧ ((M a).2.1 < (M b).2.1 ∨ (M a).2.1 = (M b).2.1 ∧ a < b)) := by
  unfold ltOf cfM or3 Lib.compareInt
  congr 1
  apply propext
  generalize (M a).2.2 = p
  generalize (M b).2.2 = q
  generalize (M a).2.1 = r
  generalize (M b).2.1 = s
  by_cases h1 : p < q
  · simp [h1]
  · by_cases h2 : q < p
    · simp [h1, h2]; omega
    · obtain rfl : p = q := by omega
      by_cases h3 : r < s
      · simp [h3]
      · by_cases h4 : s < r
        · simp [h3, h4]; omega
        · obtain rfl : r = s := by omega
          by_cases h5 : a < b
          · simp [h5]
          · by_cases h6 : b < a
            · simp [h5, h6]
            · simp [h5, h6]
theorem swoM (M : Nat → Mk) : SWO (ltOf (cfM M)) where
  irrefl x := by rw [ltM]; simp
  trans x y z h1 h2 := by rw [ltM] at *; simp at *; omega
  ntrans x y z h1 h2 := by rw [ltM] at *; simp at *; omega
theorem totM (M : Nat → Mk) (x y : Nat) (h1 : ltOf (cfM M) x y = false) (h2 : ltOf (cfM M) y x = false) : x = y := by rw [ltM] at *; simp at *; omega
def srtM (M : Nat → Mk) (l : List Nat) : List Nat := l.mergeSort fun x y => !(ltOf (cfM M)) y x
theorem srtM_perm (M : Nat → Mk) (l : List Nat) : (srtM M l).Perm l := List.mergeSort_perm _ _
/-- Numbers below n. -/
def encF (n : Nat) (x : Fin n) : Value := .int .i64 (x.val : Int)
def cfF (M : Nat → Mk) (n : Nat) (a b : Fin n) : Int := cfM M a.val b.val
theorem ltF (M : Nat → Mk) (n : Nat) (a b : Fin n) : ltOf (cfF M n) a b = ltOf (cfM M) a.val b.val := rfl
theorem swoF (M : Nat → Mk) (n : Nat) : SWO (ltOf (cfF M n)) where
  irrefl _ := (swoM M).irrefl _
  trans _ _ _ h1 h2 := (swoM M).trans _ _ _ h1 h2
  ntrans _ _ _ h1 h2 := (swoM M).ntrans _ _ _ h1 h2
theorem totF (M : Nat → Mk) (n : Nat) (x y : Fin n) (h1 : ltOf (cfF M n) x y = false) (h2 : ltOf (cfF M n) y x = false) : x = y := Fin.ext (totM M _ _ h1 h2)
theorem fins (n : Nat) (l : List Nat) (h : ∀ x ∈ l, x < n) : ∃ d : List (Fin n), d.map (·.val) = l := by
  induction l with
  | nil => exact ⟨[], rfl⟩
  | cons a l ih =>
    obtain ⟨d, hd⟩ := ih fun x hx => h x (by simp [hx])
    exact ⟨⟨a, h a (by simp)⟩ :: d, by simp [hd]⟩
theorem srtF (M : Nat → Mk) (n : Nat) (d : List (Fin n)) : (d.mergeSort fun x y => !(ltOf (cfF M n)) y x).map (·.val) = srtM M (d.map (·.val)) :=
  List.map_mergeSort fun _ _ _ _ => rfl
end Go.Proofs.YtbpkffoooieejaaDoor
