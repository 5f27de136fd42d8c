/- Steps of a region that draws where several operations may come up next, each laying a block. No program in sight. -/
import Derived.Test.YtdnnodpkgncegaaDoorSteps3
namespace Go.Proofs.YtdnnodpkgncegaaDoor
open Go.RowKit Go.Instr
section
variable {P : Program} {ops : Array Oper} {Q : Exit → Act → World → Prop} {md : Region.Mode} {S : World → Prop} {fuel : Nat} {l : Array Bool} {a : Act} {w : World} {j : Nat} {o : Oper}
theorem wp_alloc0 {K : Act → World → Prop} (ty : TypeId) (z : Array Value) (hop : o.op = .alloc ty) (hz : ∀ w, (zeroValue ty).run P w = .ok (.agg z) w) (h : K (a.put o.dst (.pointer (some ⟨w.heap.size, 0, none⟩))) (w.alloc (.cells z ty))) : Oper.wp P o a w K Q := by
  unfold Oper.wp execOp
  simp only [hop]
  have hr : (Instr.alloc ty true (.tuple #[])).run P w = .ok (.pointer (some ⟨w.heap.size, 0, none⟩)) (w.alloc (.cells z ty)) := by
    unfold Instr.alloc
    simp [Sem.run_bind, hz, newVar, newRow, Value.cells]
  simp only [Sem.run_bind, hr, Result.andThen_ok]
  exact h
theorem readyC {rs : List Nat} (ho : ops[j]? = some o) (hgd : o.guard = none) (h : ∀ K' : Act → World → Prop, (∀ a w, S w → wpAnyH P md ops Q S fuel (l.setIfInBounds j true) a w → K' a w) → Oper.wp P o a w K' Q)
    (hs : AllReadyH P md ops Q S fuel l a w rs) : AllReadyH P md ops Q S fuel l a w (j :: rs) :=
  AllReadyH.cons ho (fun K' hK => by
    rw [if_pos (by simp [Region.wanted, hgd])]
    exact h K' fun a w hS hW => hK.out a w hS fun _ => hW) hs
theorem readyAlloc {rs : List Nat} (ho : ops[j]? = some o) (hgd : o.guard = none) (d : Tmp) (hd : o.dst = some d) (ty : TypeId) (z : Array Value) (hop : o.op = .alloc ty) (hz : ∀ w, (zeroValue ty).run P w = .ok (.agg z) w) (hS : S (w.alloc (.cells z ty)))
    (h : wpAnyH P md ops Q S fuel (l.setIfInBounds j true) (a.put (some d) (.pointer (some ⟨w.heap.size, 0, none⟩))) (w.alloc (.cells z ty))) (hs : AllReadyH P md ops Q S fuel l a w rs) : AllReadyH P md ops Q S fuel l a w (j :: rs) :=
  readyC ho hgd (fun _ hK => wp_alloc0 ty z hop hz (by rw [hd]; exact hK _ _ hS h)) hs
theorem readyCall {rs : List Nat} (ho : ops[j]? = some o) (hgd : o.guard = none) (d : Option Tmp) (hd : o.dst = d) (f : FuncId) (args : Array Value) (he : (execOp a.eval o).run P w = .ok (.enter f args) w) {R : Ending → World → Prop} (hc : Calls P f args w R)
    (h : ∀ e w', R e w' → ∃ v, e = .returned v ∧ S w' ∧ wpAnyH P md ops Q S fuel (l.setIfInBounds j true) (a.put d v) w') (hs : AllReadyH P md ops Q S fuel l a w rs) : AllReadyH P md ops Q S fuel l a w (j :: rs) :=
  readyC ho hgd (fun K' hK => wp_callR he hc fun e w' hR => by
    obtain ⟨v, rfl, h1, h2⟩ := h e w' hR
    rw [hd]
    exact ⟨v, rfl, hK _ _ h1 h2⟩) hs
theorem storeBH (hr : Region.ready md ops l = [j]) (ho : ops[j]? = some o) (hgd : o.guard = none) (hd : o.dst = none) (ty : TypeId) (x y : Operand) (hop : o.op = .store ty x y) (g : Nat) (t : TypeId) (cs cs' : Array Value) (hx : a.eval x = .pointer (some ⟨g, 0, none⟩)) (hy : a.eval y = .agg cs') (hb : Blk w g t cs) (hs : cs'.size = cs.size)
    (hi : (P.info? ty).map (·.size) = some cs'.size) (h1 : cs'.all (·.oneCell') = true)
    (h : ∀ w', Blk w' g t cs' → w.grownBy w' (some g) → S w' ∧ wpAnyH P md ops Q S fuel (l.setIfInBounds j true) a w') : wpAnyH P md ops Q S (fuel + 1) l a w :=
  oneH hr ho hgd fun K' hK => wp_store_blk ty x y hop g t cs cs' hx hy hb hs hi h1 fun w' h2 h3 => by
    rw [hd, put_none]
    exact hK _ _ (h w' h2 h3).1 (h w' h2 h3).2
end
end Go.Proofs.YtdnnodpkgncegaaDoor
