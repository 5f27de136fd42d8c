/- A call where one operation alone may come up next. No program in sight. -/
import Derived.Test.YtdnnodpkgncegaaDoorSteps
namespace Go.Proofs.YtdnnodpkgncegaaDoor
open Go.RowKit Go.Instr
section
variable {P : Program} {ops : Array Oper} {Q : Exit → Act → World → Prop} {md : Region.Mode} {S : World → Prop} {k : Nat} {fuel : Nat} {l : Array Bool} {a : Act} {w : World} {j : Nat} {o : Oper}
theorem wp_callR {K : Act → World → Prop} {f : FuncId} {args : Array Value} (he : (execOp a.eval o).run P w = .ok (.enter f args) w) {R : Ending → World → Prop} (hc : Calls P f args w R)
    (h : ∀ e w', R e w' → ∃ v, e = .returned v ∧ K (a.put o.dst v) w') : Oper.wp P o a w K Q := by
  unfold Oper.wp
  rw [he, Oper.upon_enter]
  refine hc.mono fun e w' hR => ?_
  obtain ⟨v, rfl, hK⟩ := h e w' hR
  exact hK
theorem callH (hr : Region.ready md ops l = [j]) (ho : ops[j]? = some o) (hgd : o.guard = none) (d : Option Tmp) (hd : o.dst = d) (f : FuncId) (args : Array Value) (he : (execOp a.eval o).run P w = .ok (.enter f args) w) {R : Ending → World → Prop} (hc : Calls P f args w R)
    (h : ∀ e w', R e w' → ∃ v, e = .returned v ∧ S w' ∧ wpAnyH P md ops Q S fuel (l.setIfInBounds j true) (a.put d v) w') : wpAnyH P md ops Q S (fuel + 1) l a w :=
  oneH hr ho hgd fun K' hK => wp_callR he hc fun e w' hR => by
    obtain ⟨v, rfl, h1, h2⟩ := h e w' hR
    rw [hd]
    exact ⟨v, rfl, hK _ _ h1 h2⟩
theorem callK' (hr : Region.ready md ops l = [j]) (ho : ops[j]? = some o) (hgd : o.guard = none) (d : Option Tmp) (hd : o.dst = d) (f : FuncId) (args : Array Value) (he : (execOp a.eval o).run P w = .ok (.enter f args) w) {R : Ending → World → Prop} (hc : Calls P f args w R)
    (h : ∀ e w', R e w' → ∃ v, e = .returned v ∧ S w' ∧ wpAnyK P md ops Q S k fuel (l.setIfInBounds j true) (a.put d v) w') : wpAnyK P md ops Q S k (fuel + 1) l a w :=
  oneK' hr ho hgd fun K' hK => wp_callR he hc fun e w' hR => by
    obtain ⟨v, rfl, h1, h2⟩ := h e w' hR
    rw [hd]
    exact ⟨v, rfl, hK _ _ h1 h2⟩
/-- An operation whose guard does not hold is passed by. -/
theorem skipH {i : Nat} {oi : Oper} (d : Option Tmp) (hi : ops[i]? = some oi) (hd : oi.dst = d)
    (hs : Region.noSelect ops = true) (hf : Region.free md ops l i = true) (hr : (Region.ready md ops l).contains i = true)
    (hQ : ∀ c a w, Q (.panic c) (a.put oi.dst undef) w → Q (.panic c) a w) (hw : Region.wanted oi (yielded ops a.tmps) = false) (hS : S w)
    (h : wpAnyH P md ops Q S fuel (l.setIfInBounds i true) (a.put d undef) w) : wpAnyH P md ops Q S (fuel + 1) l a w :=
  take_at d hi hd hs hf hr hQ (Or.inr ⟨hw, rfl⟩) hS h
theorem wp_region_HL {id : Nat} (n : Nat) (l : Array Bool) (hn : ops.size = n) (hl : Array.replicate n false = l) (hm : P.follows .mixedOrders = true) (hS : S w.drew)
    (h : S w.drew → wpAnyH P .any ops Q S n l a w.drew) : (Code.region id ops true).wp P Q a w := by
  subst hn hl
  exact wp_region_held_drew hm hS h
def elemSize (P : Program) (ty : TypeId) : Option Nat := match P.underlying ty with | some (.slice e) => (P.info? e).map (·.size) | _ => none
theorem yieldsIf_iaddr {op : Oper} (hw : Region.wanted op (yielded ops a.tmps) = true) (ty : TypeId) (x ix : Operand) (ho : op.op = .indexAddr ty x ix) (g off n c : Nat) (hx : a.eval x = .slice (some ⟨g, off, none⟩) n c) (kd : IntKind) (e : Nat) (he : a.eval ix = .int kd (e : Int)) (hlt : e < n)
    (s : Nat) (hs : elemSize P ty = some s) (r : Nat) (hr : off + e * s = r) : YieldsIf P ops S op (.pointer (some ⟨g, r, none⟩)) a :=
  .inl ⟨hw, fun w _ => by
    unfold elemSize at hs
    cases hu : P.underlying ty with
    | none => rw [hu] at hs; cases hs
    | some d =>
      rw [hu] at hs
      cases d with
      | slice el =>
        simp only at hs
        cases hi : P.info? el with
        | none => rw [hi] at hs; cases hs
        | some i =>
          rw [hi] at hs
          injection hs with hs
          have hadd : (⟨g, off, none⟩ : Addr).add (e * i.size) = ⟨g, r, none⟩ := by rw [← hr, ← hs]; unfold Addr.add; split <;> simp_all
          have hlt' : (e : Int) < (n : Int) := by omega
          unfold execOp
          simp [ho, hx, he, indexAt, asIntOf, Sem.run_bind, run_underlying hu, sizeOf, typeInfo, hi, hlt, hadd]
      | _ => cases hs⟩
theorem yieldsIf_loadMid {op : Oper} (hw : Region.wanted op (yielded ops a.tmps) = true) (ty : TypeId) (x : Operand) (ho : op.op = .load ty x) (g off : Nat) (hx : a.eval x = .pointer (some ⟨g, off, none⟩)) (cs : List Value) (d : TypeDesc)
    (hS : ∀ w, S w → ∀ j u, cs[j]? = some u → w.cell? ⟨g, off + j, none⟩ = some u) (hu : P.underlying ty = some d) (hd : (match d with | .struct _ | .array _ _ => true | _ => false) = true) (hi : (P.info? ty).map (·.size) = some cs.length) : YieldsIf P ops S op (.agg cs.toArray) a :=
  .inl ⟨hw, fun w hw' => by
    have hl : (loadCells ⟨g, off, none⟩ cs.length).run P w = .ok cs.toArray w :=
      run_loadCells_list (P := P) w ⟨g, off, none⟩ cs (fun j v hv => by
        have hadd : (⟨g, off, none⟩ : Addr).add j = ⟨g, off + j, none⟩ := by unfold Addr.add; split <;> simp_all
        rw [hadd]
        exact hS w hw' j v hv)
    cases hq : P.info? ty with
    | none => simp [hq] at hi
    | some i =>
      have hs : i.size = cs.length := by simpa [hq] using hi
      have hagg : (isAgg ty).run P w = .ok true w := by
        unfold isAgg
        rw [Sem.run_bind, run_underlying hu w]
        cases d <;> simp_all
      unfold execOp
      simp [ho, hx, loadAt, sureAddr, loadVar, Sem.run_bind, hagg, sizeOf, typeInfo, hq, hs, hl]⟩
theorem yieldsIf_strcut {op : Oper} (hw : Region.wanted op (yielded ops a.tmps) = true) (ty : TypeId) (x h : Operand) (ho : op.op = .slice ty x none (some h) none) (s : ByteArray) (hx : a.eval x = .string s) (n : Nat) (i : Int) (hh : a.eval h = .int .i64 i) (hi : i = (n : Int)) (hn : n ≤ s.size) (hu : P.underlying ty = some .string) :
    YieldsIf P ops S op (.string (s.extract 0 n)) a :=
  .inl ⟨hw, fun w _ => by
    subst hi
    unfold execOp
    simp [ho, hx, hh, sliceAt, slice, sliceBounds, sliceBound, asIntOf, Sem.run_bind, run_underlying hu, hn]⟩
theorem five_cells {w : World} {g off : Nat} {v0 v1 v2 v3 v4 : Value} (h0 : w.cell? ⟨g, off, none⟩ = some v0) (h1 : w.cell? ⟨g, off + 1, none⟩ = some v1) (h2 : w.cell? ⟨g, off + 2, none⟩ = some v2) (h3 : w.cell? ⟨g, off + 3, none⟩ = some v3) (h4 : w.cell? ⟨g, off + 4, none⟩ = some v4) :
    ∀ j u, [v0, v1, v2, v3, v4][j]? = some u → w.cell? ⟨g, off + j, none⟩ = some u := by
  intro j u hu
  rcases (show j = 0 ∨ j = 1 ∨ j = 2 ∨ j = 3 ∨ j = 4 ∨ 5 ≤ j by omega) with rfl | rfl | rfl | rfl | rfl | h5
  · rw [← hu]; exact h0
  · rw [← hu]; exact h1
  · rw [← hu]; exact h2
  · rw [← hu]; exact h3
  · rw [← hu]; exact h4
  · rw [List.getElem?_eq_none (by simpa using h5)] at hu; cases hu
end
end Go.Proofs.YtdnnodpkgncegaaDoor
