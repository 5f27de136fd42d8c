/- A call that only computes may be taken first in a region that draws its order. No program in sight. -/
import Derived.Test.YtdnnodpkgncegaaDoorTakeAt
namespace Go.Proofs.YtdnnodpkgncegaaDoor
open Go.RowKit
section
variable {P : Program} {ops : Array Oper} {Q : Exit → Act → World → Prop} {md : Region.Mode} {S : World → Prop}
/-- In every world that meets S the operation gives v and leaves the world as it is: by itself, or by a call that does so. -/
def Gives (P : Program) (S : World → Prop) (o : Oper) (v : Value) (a : Act) : Prop :=
  ∀ w, S w → (execOp a.eval o).run P w = .ok (.value v) w ∨ ∃ f args, (execOp a.eval o).run P w = .ok (.enter f args) w ∧ Calls P f args w fun e w' => e = .returned v ∧ w = w'
def Pays (P : Program) (ops : Array Oper) (S : World → Prop) (o : Oper) (v : Value) (a : Act) : Prop :=
  Region.wanted o (yielded ops a.tmps) = true ∧ Gives P S o v a
theorem Gives.wp {o : Oper} {v : Value} {a : Act} (h : Gives P S o v a) {K : Act → World → Prop} {w : World} (hS : S w) (hK : K (a.put o.dst v) w) : o.wp P a w K Q := by
  unfold Oper.wp
  rcases h w hS with e | ⟨f, args, e, hc⟩
  · rw [e]; exact hK
  · rw [e]
    refine Calls.mono hc ?_
    rintro e w' ⟨rfl, rfl⟩
    exact hK
theorem Pays.wpOp {i : Nat} {o : Oper} {v : Value} {a : Act} (hi : ops[i]? = some o) (hy : Pays P ops S o v a) {K : Act → World → Prop} {w : World} (hS : S w) (hK : K (a.put o.dst v) w) : wpOp P ops Q i K a w := by
  unfold Go.wpOp
  simp only [hi, hy.1, if_true]
  exact .inl (hy.2.wp hS hK)
theorem Pays.same {o : Oper} {v : Value} {a a' : Act} (hy : Pays P ops S o v a) (he : execOp a'.eval o = execOp a.eval o) (hw : Region.wanted o (yielded ops a'.tmps) = Region.wanted o (yielded ops a.tmps)) : Pays P ops S o v a' :=
  ⟨by rw [hw]; exact hy.1, fun w h => by rw [he]; exact hy.2 w h⟩
/-- Another operation, apart from the one that is taken first, goes as it went behind it. -/
theorem wpOp_before {j : Nat} {oi oj : Oper} {v : Value} (hj : ops[j]? = some oj) (hap : oi.apart ops oj = true) (hsi : ∀ cs b, oi.op ≠ .select cs b) (hsj : ∀ cs b, oj.op ≠ .select cs b)
    (hQ : ∀ c a w, Q (.panic c) (a.put oi.dst v) w → Q (.panic c) a w) {K : Act → World → Prop} {a : Act} {w : World} (hy : Pays P ops S oi v a) (h : wpOp P ops Q j K (a.put oi.dst v) w) :
    wpOp P ops Q j (fun a' w' => Pays P ops S oi v a' ∧ K (a'.put oi.dst v) w') a w := by
  obtain ⟨h1, h2, h3⟩ := Oper.apart_spec hap
  have on : ∀ u, Pays P ops S oi v (a.put oj.dst u) := fun u => hy.same (execOp_put oi hsi a oj.dst u h3) (wanted_put oi a oj.dst u h3)
  have back : ∀ u w', K ((a.put oi.dst v).put oj.dst u) w' → Pays P ops S oi v (a.put oj.dst u) ∧ K ((a.put oj.dst u).put oi.dst v) w' := fun u w' hk =>
    ⟨on u, by rw [← Act.put_comm a v u h2]; exact hk⟩
  unfold wpOp at *
  simp only [hj] at *
  rw [wanted_put oj a oi.dst v h1] at h
  by_cases hw : Region.wanted oj (yielded ops a.tmps) = true
  · simp only [hw, if_true] at h ⊢
    rcases h with h | ⟨ha, hl⟩
    · refine .inl ?_
      unfold Oper.wp at *
      rw [execOp_put oj hsj a oi.dst v h1] at h
      cases hr : (execOp a.eval oj).run P w with
      | ok n w' =>
        rw [hr] at h
        cases n with
        | value u => exact back u w' h
        | skip => exact back undef w' h
        | defer d =>
          refine ⟨(show Pays P ops S oi v { a with defers := d :: a.defers } from hy.same rfl rfl).same (execOp_put oi hsi _ oj.dst _ h3) (wanted_put oi _ oj.dst _ h3), ?_⟩
          simp only [Oper.upon] at h ⊢
          rw [← Act.put_comm _ v undef h2, ← Act.put_defers]
          exact h
        | enter f args =>
          refine Calls.mono h fun e w'' he => ?_
          cases e with
          | returned u => exact back u w'' he
          | panicked c => exact hQ _ _ _ he
          | outgrown => exact he
        | row r args => exact Rows.mono h fun u w'' he => back u w'' he
        | _ => exact h
      | halt x w' =>
        rw [hr] at h
        cases x with
        | panic u => exact hQ _ _ _ h
        | _ => exact h
    · exact .inr ⟨by unfold Oper.asks at *; rw [execOp_put oj hsj a oi.dst v h1] at ha; exact ha, hl⟩
  · simp only [hw] at h ⊢
    exact back undef w h
theorem unlisted_set {l : Array Bool} {i j : Nat} (h : (l.setIfInBounds j true).getD i true = false) : l.getD i true = false := by
  by_cases e : j = i
  · subst e
    rcases Nat.lt_or_ge j l.size with h' | h'
    · simp [h'] at h
    · simp at h
  · rwa [getD_set_ne true e] at h
theorem pays_first {i : Nat} {oi : Oper} {v : Value} (hi : ops[i]? = some oi) (hsel : ∀ (j : Nat) (o : Oper) cs b, ops[j]? = some o → o.op ≠ .select cs b) (hQ : ∀ c a w, Q (.panic c) (a.put oi.dst v) w → Q (.panic c) a w) :
    ∀ (fuel : Nat) (l : Array Bool) (a : Act) (w : World), (∀ j oj, ops[j]? = some oj → j ≠ i → l.getD j true = false → (∀ e ∈ oj.after, Region.binds md e = true → e.on ≠ i) → oi.apart ops oj = true) →
      i ∈ Region.ready md ops l → Pays P ops S oi v a → S w → wpAnyH P md ops Q S fuel (l.setIfInBounds i true) (a.put oi.dst v) w → wpAnyH P md ops Q S (fuel + 1) l a w := by
  intro fuel
  induction fuel with
  | zero =>
    intro l a w _ hr hy hS H
    refine ⟨fun h => absurd hr (by rw [h]; exact List.not_mem_nil), fun j hj => ?_⟩
    by_cases e : j = i
    · subst e; exact hy.wpOp hi hS ⟨hS, H⟩
    · have := ready_mono hj e
      rw [H.1] at this
      exact absurd this List.not_mem_nil
  | succ fuel ih =>
    intro l a w hfree hr hy hS H
    refine ⟨fun h => absurd hr (by rw [h]; exact List.not_mem_nil), fun j hj => ?_⟩
    by_cases e : j = i
    · subst e; exact hy.wpOp hi hS ⟨hS, H⟩
    · obtain ⟨hun, oj, hoj, hall⟩ := mem_ready.1 hj
      have h0 := (mem_ready.1 hr).1
      have hnot : ∀ e ∈ oj.after, Region.binds md e = true → e.on ≠ i := fun e he hb heq => by
        have h1 := hall e he hb
        rw [heq] at h1
        rcases Nat.lt_or_ge i l.size with h' | h'
        · simp [h'] at h0 h1; rw [h0] at h1; cases h1
        · simp [Array.getElem?_eq_none h'] at h1
      refine wpOp_mono (fun a' w' h3 => ⟨h3.2.1, ih (l.setIfInBounds j true) a' w' (fun k ok hk hki hu hno => hfree k ok hk hki (unlisted_set hu) hno) (ready_mono hr (Ne.symm e)) h3.1 h3.2.1 ?_⟩)
        (wpOp_before hoj (hfree j oj hoj e hun hnot) (fun cs b => hsel i oi cs b hi) (fun cs b => hsel j oj cs b hoj) hQ hy (H.2 j (ready_mono hj e)))
      rw [Array.setIfInBounds_comm _ _ e]
      exact h3.2.2
/-- The call, taken first, its slot named. -/
theorem call_at {i : Nat} {oi : Oper} {v : Value} {fuel : Nat} {l : Array Bool} {a : Act} {w : World} (d : Option Tmp) (hi : ops[i]? = some oi) (hd : oi.dst = d)
    (hs : Region.noSelect ops = true) (hf : Region.free md ops l i = true) (hr : (Region.ready md ops l).contains i = true)
    (hQ : ∀ c a w, Q (.panic c) (a.put oi.dst v) w → Q (.panic c) a w) (hw : Region.wanted oi (yielded ops a.tmps) = true) (f : FuncId) (args : Array Value) (he : ∀ W, S W → (execOp a.eval oi).run P W = .ok (.enter f args) W)
    (hc : ∀ W, S W → Calls P f args W fun e w' => e = .returned v ∧ W = w') (hS : S w)
    (h : wpAnyH P md ops Q S fuel (l.setIfInBounds i true) (a.put d v) w) : wpAnyH P md ops Q S (fuel + 1) l a w := by
  subst hd
  exact pays_first hi (Region.noSelect_spec hs) hQ fuel l a w (Region.free_spec hi hf) (by simpa using hr) ⟨hw, fun W hW => .inr ⟨f, args, he W hW, hc W hW⟩⟩ hS h
end
end Go.Proofs.YtdnnodpkgncegaaDoor
