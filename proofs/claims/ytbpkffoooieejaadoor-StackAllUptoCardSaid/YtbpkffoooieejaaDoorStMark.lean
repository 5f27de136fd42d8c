/- The walks of stack.floor and stack.marked: a mark, whatever it is. -/
import Derived.Test.YtbpkffoooieejaaDoorStyK
namespace Go.Proofs.YtbpkffoooieejaaDoor
open Go.ChangeShapes Go.WideShapes Go.ChangeAt Go.RowKit
theorem floor_any (n : Int) (w : World) : Calls Tryd.prog 30 #[.int .i64 n, .int .i64 1000] w fun e w' => (∃ r, e = .returned (.int .i64 r)) ∧ w' = w := by
  go_enter Tryd.func30, Tryd.ntmps30
  go_wp2
  all_goals go_ret
  all_goals exact ⟨⟨_, rfl⟩, rfl⟩
theorem mk_u : Tryd.prog.underlying 69 = some (.struct (Tryd.prog.fieldsOf 69)) := by kernel_rfl
theorem mk_i (a b c : Int) : (Tryd.prog.info? 69).map (·.size) = some (#[Value.int .i64 a, .int .i64 b, .int .i64 c] : Array Value).size := by kernel_rfl
theorem sty_u : Tryd.prog.underlying 50 = some (.array 59 48) := by kernel_rfl
theorem sty_i (R : Nat → Int) : (Tryd.prog.info? 50).map (·.size) = some (styA R).size := by rw [styA_size]; kernel_rfl
theorem wpList_load_sty {ops : Array Oper} {rest : List Oper} {o : Oper} {a : Act} {w : World} {Q : Exit → Act → World → Prop} (hgd : o.guard = none) (x : Operand) (ho : o.op = .load 50 x)
    (g : Nat) (hx : a.eval x = .pointer (some ⟨g, 0, none⟩)) (R : Nat → Int) (hg : Blk w g 50 (styA R))
    (h : wpList Tryd.prog ops Q rest (a.put o.dst (.agg (styA R))) w) : wpList Tryd.prog ops Q (o :: rest) a w :=
  wpList_load_row hgd 50 x ho g hx _ (styA R) (0, 0) _ hg sty_u rfl (sty_i R) h
theorem blk_two (w : World) (o : Obj) (cs : Array Value) (t : TypeId) : Blk ((w.alloc o).alloc (.cells cs t)) (w.heap.size + 1) t cs := by
  have h := Blk.new (w.alloc o) t cs
  rwa [show (w.alloc o).heap.size = w.heap.size + 1 by simp] at h
set_option maxRecDepth 100000 in
set_option maxHeartbeats 4000000 in
theorem marked_any (kind : Int) (R : Nat → Int) (w : World) : Calls Tryd.prog 17 #[.int .i64 kind, .agg (styA R)] w fun e w' => (∃ i z p, e = .returned (.agg #[.int .i64 i, .int .i64 z, .int .i64 p])) ∧ Below w.heap.size w w' := by
  have hB := Blk.new w 50 (styA R)
  have hb := (Below.refl w.heap.size w).alloc (Nat.le_refl _) (.cells (styA R) 50)
  have HB := hide hB
  have q3 := styA_at R (j := 3) (by omega)
  have q62 := styA_at R (j := 62) (by omega)
  have q63 := styA_at R (j := 63) (by omega)
  have q65 := styA_at R (j := 65) (by omega)
  have q69 := styA_at R (j := 69) (by omega)
  have hs : (w.alloc (.cells (styA R) 50)).heap.size = w.heap.size + 1 := by simp
  clear hB
  generalize R 3 = r3 at *
  generalize R 62 = r62 at *
  generalize R 63 = r63 at *
  generalize R 65 = r65 at *
  generalize R 69 = r69 at *
  have HBk := hide ((HB.out.alloc (.cells #[.int .i64 0, .int .i64 0, .int .i64 0] 69)).alloc (.cells #[.int .i64 0, .int .i64 0, .int .i64 1] 69))
  go_enter Tryd.func17, Tryd.ntmps17
  go_wp2_with (first | (go_at_call 11; refine (Out_any _ _).mono ?_; rintro e w9 ⟨rfl, rfl⟩) | (go_at_call 30; refine (floor_any _ _).mono ?_; rintro e w9 ⟨⟨r, rfl⟩, rfl⟩) | (refine wpList_load_sty rfl _ rfl w.heap.size rfl R HBk.out ?_) | fail)
  all_goals
    first
    | (refine bodyPost_ret (results_cell_row rfl _ _ (w.heap.size + 1) 69 #[.int .i64 _, .int .i64 _, .int .i64 _] (0, 0) _ rfl ((blk_two w _ _ _).alloc _) mk_u rfl (mk_i _ _ _)) rfl ?_
       exact ⟨⟨_, _, _, rfl⟩, by go_grown⟩)
    | (refine bodyPost_ret (results_cell_row rfl _ _ (w.heap.size + 1) 69 #[.int .i64 _, .int .i64 _, .int .i64 _] (0, 0) _ rfl (((blk_two w _ _ _).alloc _).alloc _) mk_u rfl (mk_i _ _ _)) rfl ?_
       exact ⟨⟨_, _, _, rfl⟩, by go_grown⟩)
end Go.Proofs.YtbpkffoooieejaaDoor
