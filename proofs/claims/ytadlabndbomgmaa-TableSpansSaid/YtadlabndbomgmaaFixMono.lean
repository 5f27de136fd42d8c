/- Walks: the closed fact fixed, and the statement FixMonotone: it returns true. -/
import Derived.BigQuiet
import Derived.Test.YtadlabndbomgmaaFix
namespace Go.Proofs.Ytadlabndbomgmaa
open Go.ChangeShapes Go.WideShapes Go.ChangeAt Go.RowKit
theorem fixed_any (w : World) : Calls Try.prog 26 #[] w fun e w' => e = .returned (.bool true) ∧ w = w' := by
  have e1 : (partOf 7 1 2 == 3) = true := by decide
  have e2 : (cut 1073741824 == 16777216) = true := by decide
  go_enter Try.func26, Try.ntmps26
  go_wp2_with (first | (go_at_call 28; refine (cut_any _ _).mono ?_; rintro e w' ⟨rfl, rfl⟩) | (go_at_call 27; refine (part_any _ _ _ _ (by omega)).mono ?_; rintro e w' ⟨rfl, rfl⟩))
  go_ret
  exact ⟨rfl, rfl⟩
set_option maxRecDepth 100000 in
theorem fixMonotone_any (n m u d : Int) (w : World) :
    Calls Try.prog 4 #[.int .i64 n, .int .i64 m, .int .i64 u, .int .i64 d] w fun e w' => e = .returned (.bool true) ∧ Below w.heap.size w w' := by
  by_cases hu : u < 0
  · have hud : decide (u < 0) = true := by simpa using hu
    go_enter Try.func4, Try.ntmps4
    go_wp2_with (go_at_call 26; refine (fixed_any _).mono ?_; rintro e w' ⟨rfl, rfl⟩)
    go_ret
    exact ⟨rfl, Below.refl _ _⟩
  · have hud : decide (u < 0) = false := by simpa using hu
    by_cases hd : d < 1
    · have hdd : decide (d < 1) = true := by simpa using hd
      go_enter Try.func4, Try.ntmps4
      go_wp2_with (go_at_call 26; refine (fixed_any _).mono ?_; rintro e w' ⟨rfl, rfl⟩)
      go_ret
      exact ⟨rfl, Below.refl _ _⟩
    · have hdd : decide (d < 1) = false := by simpa using hd
      have hle : min n m ≤ max n m := by omega
      have f1 : decide (partOf (min n m) u d ≤ partOf (max n m) u d) = true := by simpa using part_mono hle (by omega) (by omega)
      have f2 : decide (cut (min n m) ≤ cut (max n m)) = true := by simpa using cut_mono hle
      have f3 : (partOf (min n m) d d == cut (min n m)) = true := by rw [part_self (by omega)]; simp
      clear hle
      go_enter Try.func4, Try.ntmps4
      go_wp2_with (first | (go_at_call 26; refine (fixed_any _).mono ?_; rintro e w' ⟨rfl, rfl⟩) | (go_at_call 28; refine (cut_any _ _).mono ?_; rintro e w' ⟨rfl, rfl⟩) | (go_at_call 27; refine (part_any _ _ _ _ (by omega)).mono ?_; rintro e w' ⟨rfl, rfl⟩))
      go_ret
      exact ⟨rfl, Below.refl _ _⟩
end Go.Proofs.Ytadlabndbomgmaa
