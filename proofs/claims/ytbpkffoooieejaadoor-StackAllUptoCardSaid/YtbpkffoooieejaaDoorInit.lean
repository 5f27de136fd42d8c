/- The walks of style.Inherits and style.Initial: whatever they tell. -/
import Derived.Test.YtbpkffoooieejaaDoorStMark
namespace Go.Proofs.YtbpkffoooieejaaDoor
open Go.ChangeShapes Go.WideShapes Go.ChangeAt Go.RowKit
theorem inherits_any (p : Int) (w : World) : Calls Tryd.prog 28 #[.int .i64 p] w fun e w' => (∃ b, e = .returned (.bool b)) ∧ w' = w := by
  go_enter Tryd.func28, Tryd.ntmps28
  go_wp2
  all_goals go_ret
  all_goals exact ⟨⟨_, rfl⟩, rfl⟩
theorem val_u : Tryd.prog.underlying 48 = some (.struct (Tryd.prog.fieldsOf 48)) := by kernel_rfl
theorem val_i (a b : Int) : (Tryd.prog.info? 48).map (·.size) = some (#[Value.int .i64 a, .int .i64 b] : Array Value).size := by kernel_rfl
/-- The variable 'initial': a style of integers. -/
def IniAt (w : World) (G : Nat → Int) : Prop := 0 < w.heap.size ∧ ∀ j, j < 118 → w.cell? ⟨0, j, none⟩ = some (.int .i64 (G j))
theorem IniAt.below {w w' : World} {G : Nat → Int} (h : IniAt w G) (hb : Below w.heap.size w w') : IniAt w' G := ⟨Nat.lt_of_lt_of_le h.1 hb.size, fun j hj => (hb.cell (p := ⟨0, j, none⟩) h.1).trans (h.2 j hj)⟩
theorem initial_any (p : Nat) (hp : p < 59) (G : Nat → Int) (w : World) (hG : IniAt w G) : Calls Tryd.prog 29 #[.int .i64 p] w fun e w' => (∃ k n, e = .returned (.agg #[.int .i64 k, .int .i64 n])) ∧ Below w.heap.size w w' := by
  have q0 := hG.2 (p * 2) (by omega)
  have q1 := hG.2 (p * 2 + 1) (by omega)
  have h0 := hG.1
  have t1 : ¬ (p : Int) < 0 := by omega
  have t2 : ¬ 59 ≤ p := by omega
  have t3 : decide ((p : Int) < 0) = false := decide_eq_false t1
  have t4 : decide (59 ≤ p) = false := decide_eq_false t2
  go_enter Tryd.func29, Tryd.ntmps29
  go_wp2
  refine bodyPost_ret (results_cell_row rfl _ _ w.heap.size 48 #[.int .i64 _, .int .i64 _] (0, 0) _ rfl (Blk.new w _ _) val_u rfl (val_i _ _)) rfl ?_
  exact ⟨⟨_, _, rfl⟩, by go_grown⟩
end Go.Proofs.YtbpkffoooieejaaDoor
