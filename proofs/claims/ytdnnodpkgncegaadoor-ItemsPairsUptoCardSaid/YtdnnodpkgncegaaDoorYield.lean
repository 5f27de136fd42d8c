/- Fields, nil checks, loads of one cell in a region that draws, each taken without the walk's simplifier. No program in sight. -/
import Derived.Test.YtdnnodpkgncegaaDoorKitS
namespace Go.Proofs.YtdnnodpkgncegaaDoor
open Go.RowKit Go.Instr
section
variable {P : Program} {ops : Array Oper} {S : World → Prop} {op : Oper} {a : Act}
def fieldOff (P : Program) (s : TypeId) (k : Nat) : Option Nat :=
  match P.underlying s with
  | some (.struct fs) => match fs[k]? with
    | some f => match P.info? f.type with
      | some i => if i.size = 0 then none else some f.offset
      | none => none
    | none => none
  | _ => none
theorem yieldsIf_faddr (hw : Region.wanted op (yielded ops a.tmps) = true) (s : TypeId) (x : Operand) (k : Nat) (ho : op.op = .fieldAddr s x k) (g o off : Nat) (hx : a.eval x = .pointer (some ⟨g, o, none⟩)) (hf : fieldOff P s k = some off) :
    YieldsIf P ops S op (.pointer (some ⟨g, o + off, none⟩)) a :=
  .inl ⟨hw, fun w _ => by
    unfold fieldOff at hf
    cases hu : P.underlying s with
    | none => rw [hu] at hf; cases hf
    | some d =>
      rw [hu] at hf
      cases d with
      | struct fs =>
        simp only at hf
        cases hk : fs[k]? with
        | none => rw [hk] at hf; cases hf
        | some f =>
          rw [hk] at hf
          simp only at hf
          cases hi : P.info? f.type with
          | none => rw [hi] at hf; cases hf
          | some i =>
            rw [hi] at hf
            simp only at hf
            by_cases hz : i.size = 0
            · rw [if_pos hz] at hf; cases hf
            · rw [if_neg hz] at hf
              injection hf with hf
              have hadd : (⟨g, o, none⟩ : Addr).add f.offset = ⟨g, o + off, none⟩ := by rw [← hf]; unfold Addr.add; split <;> simp_all
              unfold execOp
              simp [ho, hx, fieldAt, Sem.run_bind, run_underlying hu, hk, sureAddr, fieldPlace, sizeOf, typeInfo, hi, hz, hadd]
      | _ => cases hf⟩
theorem yieldsIf_nil (hw : Region.wanted op (yielded ops a.tmps) = true) (x : Operand) (ho : op.op = .nilCheck x) (ad : Addr) (hx : a.eval x = .pointer (some ad)) : YieldsIf P ops S op (.pointer (some ad)) a :=
  .inl ⟨hw, fun w _ => by
    unfold execOp
    simp [ho, hx]⟩
def oneCellT (P : Program) (ty : TypeId) : Bool := match P.underlying ty with | some (.struct _) => false | some (.array _ _) => false | some _ => true | none => false
theorem yieldsIf_load1 (hw : Region.wanted op (yielded ops a.tmps) = true) (ty : TypeId) (x : Operand) (ho : op.op = .load ty x) (g o : Nat) (v : Value) (hx : a.eval x = .pointer (some ⟨g, o, none⟩)) (ht : oneCellT P ty = true) (hS : ∀ w, S w → w.cell? ⟨g, o, none⟩ = some v) : YieldsIf P ops S op v a :=
  .inl ⟨hw, fun w hw' => by
    have hc := hS w hw'
    unfold oneCellT at ht
    cases hu : P.underlying ty with
    | none => rw [hu] at ht; cases ht
    | some d =>
      have hagg : (isAgg ty).run P w = .ok false w := by
        unfold isAgg
        rw [Sem.run_bind, run_underlying hu w]
        rw [hu] at ht
        cases d <;> simp_all
      unfold execOp
      simp [ho, hx, loadAt, sureAddr, Sem.run_bind, loadVar, hagg, hc]⟩
/-- A call of a Go function by its number enters it. -/
theorem run_enter {f : FuncId} {fn : Func} (hf : P.funcs[f]? = some fn) (hn : (fn.name == "runtime.NumGoroutine") = false) (hb : fn.body.isNone = false) (xs : Array Operand) (ts : Array TypeId) (ho : op.op = .call { callee := .value (.func f), args := xs, argTypes := ts }) (args : Array Value) (hx : xs.map a.eval = args) (w : World) :
    (execOp a.eval op).run P w = .ok (.enter f args) w := by
  unfold execOp
  have hd : Deferred.ofValue (Value.func (Fn.func f) #[] #[]) args = pure { target := .fn (.func f) #[], args := #[] ++ args } := rfl
  simp only [ho, resolve, hx]
  rw [show a.eval (Operand.func f) = Value.func (Fn.func f) #[] #[] from rfl, hd]
  simp [invoke, callFunc, hf]
  rw [if_neg (by intro e; rw [e] at hn; simp at hn), if_neg (by intro e; rw [e] at hb; cases hb)]
end
end Go.Proofs.YtdnnodpkgncegaaDoor
