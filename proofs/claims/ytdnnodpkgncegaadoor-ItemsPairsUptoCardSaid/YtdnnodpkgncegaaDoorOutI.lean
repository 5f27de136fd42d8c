/- The walk of boxes.Out, where fix is in the program. -/
import Derived.BigQuiet
import Derived.Handy
import Derived.IntWalk
import Derived.Deep.MidRow
import Derived.Test.YtdnnodpkgncegaaDoorStyle
namespace Go.Proofs.YtdnnodpkgncegaaDoor
open Go.ChangeShapes Go.WideShapes Go.ChangeAt Go.RowKit
theorem sty_cell {w : World} {g j : Nat} {t : TypeId} {R : Nat → Int} (h : Blk w g t (styA R)) (hj : j < 118) : w.cell? ⟨g, j, none⟩ = some (.int .i64 (R j)) := by rw [h.cell, styA_at R hj]
/-- Who is out of the flow. -/
def outF (R : Nat → Int) : Int := if R 3 = 2 ∨ R 3 = 3 then 2 else if R 5 = 1 ∨ R 5 = 2 then 1 else 0
theorem Out_any (R : Nat → Int) (w : World) : Calls Tryd.prog 16 #[.agg (styA R)] w fun e w' => e = .returned (.int .i64 (outF R)) ∧ w' = w.alloc (.cells (styA R) 44) := by
  have hB := Blk.new w 44 (styA R)
  have q3 := sty_cell hB (j := 3) (by omega)
  have q5 := sty_cell hB (j := 5) (by omega)
  have HO := hide (show outF R = if R 3 = 2 ∨ R 3 = 3 then 2 else if R 5 = 1 ∨ R 5 = 2 then 1 else 0 from rfl)
  clear hB
  generalize outF R = o at *
  generalize R 3 = a at *
  generalize R 5 = b at *
  by_cases a2 : a = 2
  · subst a2
    have h : o = 2 := HO.out
    go_enter Tryd.func16, Tryd.ntmps16
    go_wp2
    go_ret
    exact ⟨rfl, rfl⟩
  · by_cases a3 : a = 3
    · subst a3
      have h : o = 2 := HO.out
      go_enter Tryd.func16, Tryd.ntmps16
      go_wp2
      go_ret
      exact ⟨rfl, rfl⟩
    · rw [if_neg (by omega)] at HO
      have g2 : (a == 2) = false := by simpa using a2
      have g3 : (a == 3) = false := by simpa using a3
      by_cases b1 : b = 1
      · subst b1
        have h : o = 1 := HO.out
        go_enter Tryd.func16, Tryd.ntmps16
        go_wp2
        go_ret
        exact ⟨rfl, rfl⟩
      · by_cases b2 : b = 2
        · subst b2
          have h : o = 1 := HO.out
          go_enter Tryd.func16, Tryd.ntmps16
          go_wp2
          go_ret
          exact ⟨rfl, rfl⟩
        · rw [if_neg (by omega)] at HO
          have g4 : (b == 1) = false := by simpa using b1
          have g5 : (b == 2) = false := by simpa using b2
          have h := HO.out
          go_enter Tryd.func16, Tryd.ntmps16
          go_wp2
          go_ret
          exact ⟨by rw [h]; rfl, rfl⟩
end Go.Proofs.YtdnnodpkgncegaaDoor
