/- Parts of the proof, joined: Init, TakeAt, TakeCall, TakeK, TrMem, Trim, DocFind, DocAttrs, DocOne, Yield, Steps, Steps2, Steps3, BoxEnv, BoxIs, BoxBlocky, BoxAsk, BoxIdx, BoxIdle, ItAny, BoxLines, BoxSplit, BoxRow, BoxContr, StBel, BoxCont, BoxBu. -/
import Derived.BigQuiet
import Derived.Handy
import Derived.IntWalk
import Derived.RegionTactic
import Derived.Deep.MidRow
import Derived.Deep.CutBlock
import Derived.Test.YtbpkffoooieejaaDoorK1
set_option linter.unusedVariables false
set_option linter.unusedSimpArgs false
/- The walks of style.Inherits and style.Initial: whatever they tell. -/
namespace Go.Proofs.YtbpkffoooieejaaDoor
open Go.ChangeShapes Go.WideShapes Go.ChangeAt Go.RowKit
theorem inherits_any (p : Int) (w : World) : Calls Tryd.prog 28 #[.int .i64 p] w fun e w' => (∃ b, e = .returned (.bool b)) ∧ w' = w := by
  go_enter Tryd.func28, Tryd.ntmps28
  go_wp2
  all_goals go_ret
  all_goals exact ⟨⟨_, rfl⟩, rfl⟩
theorem val_u : Tryd.prog.underlying 48 = some (.struct (Tryd.prog.fieldsOf 48)) := by kernel_rfl
theorem val_i (a b : Int) : (Tryd.prog.info? 48).map (·.size) = some (#[Value.int .i64 a, .int .i64 b] : Array Value).size := by kernel_rfl
/-- The variable 'initial': a style of integers. -/
def IniAt (w : World) (G : Nat → Int) : Prop := 0 < w.heap.size ∧ ∀ j, j < 118 → w.cell? ⟨0, j, none⟩ = some (.int .i64 (G j))
theorem IniAt.below {w w' : World} {G : Nat → Int} (h : IniAt w G) (hb : Below w.heap.size w w') : IniAt w' G := ⟨Nat.lt_of_lt_of_le h.1 hb.size, fun j hj => (hb.cell (p := ⟨0, j, none⟩) h.1).trans (h.2 j hj)⟩
theorem initial_any (p : Nat) (hp : p < 59) (G : Nat → Int) (w : World) (hG : IniAt w G) : Calls Tryd.prog 29 #[.int .i64 p] w fun e w' => (∃ k n, e = .returned (.agg #[.int .i64 k, .int .i64 n])) ∧ Below w.heap.size w w' := by
  have q0 := hG.2 (p * 2) (by omega)
  have q1 := hG.2 (p * 2 + 1) (by omega)
  have h0 := hG.1
  have t1 : ¬ (p : Int) < 0 := by omega
  have t2 : ¬ 59 ≤ p := by omega
  have t3 : decide ((p : Int) < 0) = false := decide_eq_false t1
  have t4 : decide (59 ≤ p) = false := decide_eq_false t2
  go_enter Tryd.func29, Tryd.ntmps29
  go_wp2
  refine bodyPost_ret (results_cell_row rfl _ _ w.heap.size 48 #[.int .i64 _, .int .i64 _] (0, 0) _ rfl (Blk.new w _ _) val_u rfl (val_i _ _)) rfl ?_
  exact ⟨⟨_, _, rfl⟩, by go_grown⟩
end Go.Proofs.YtbpkffoooieejaaDoor
/- An operation of a region that may be taken first, its slot named. No program in sight. -/
namespace Go.Proofs.YtbpkffoooieejaaDoor
open Go.RowKit
section
variable {P : Program} {ops : Array Oper} {Q : Exit → Act → World → Prop} {md : Region.Mode} {S : World → Prop}
theorem take_at {i : Nat} {oi : Oper} {v : Value} {fuel : Nat} {listed : Array Bool} {a : Act} {w : World} (d : Option Tmp) (hi : ops[i]? = some oi) (hd : oi.dst = d)
    (hs : Region.noSelect ops = true) (hf : Region.free md ops listed i = true) (hr : (Region.ready md ops listed).contains i = true)
    (hQ : ∀ c a w, Q (.panic c) (a.put oi.dst v) w → Q (.panic c) a w) (hy : YieldsIf P ops S oi v a) (hS : S w)
    (h : wpAnyH P md ops Q S fuel (listed.setIfInBounds i true) (a.put d v) w) : wpAnyH P md ops Q S (fuel + 1) listed a w := by
  subst hd; exact wpAnyH_take hi hs hf hr hQ hy hS h
end
end Go.Proofs.YtbpkffoooieejaaDoor
/- A call that only computes may be taken first in a region that draws its order. No program in sight. -/
namespace Go.Proofs.YtbpkffoooieejaaDoor
open Go.RowKit
section
variable {P : Program} {ops : Array Oper} {Q : Exit → Act → World → Prop} {md : Region.Mode} {S : World → Prop}
/-- In every world that meets S the operation gives v and leaves the world as it is: by itself, or by a call that does so. -/
def Gives (P : Program) (S : World → Prop) (o : Oper) (v : Value) (a : Act) : Prop :=
  ∀ w, S w → (execOp a.eval o).run P w = .ok (.value v) w ∨ ∃ f args, (execOp a.eval o).run P w = .ok (.enter f args) w ∧ Calls P f args w fun e w' => e = .returned v ∧ w = w'
def Pays (P : Program) (ops : Array Oper) (S : World → Prop) (o : Oper) (v : Value) (a : Act) : Prop :=
  Region.wanted o (yielded ops a.tmps) = true ∧ Gives P S o v a
theorem Gives.wp {o : Oper} {v : Value} {a : Act} (h : Gives P S o v a) {K : Act → World → Prop} {w : World} (hS : S w) (hK : K (a.put o.dst v) w) : o.wp P a w K Q := by
  unfold Oper.wp
  rcases h w hS with e | ⟨f, args, e, hc⟩
  · rw [e]; exact hK
  · rw [e]
    refine Calls.mono hc ?_
    rintro e w' ⟨rfl, rfl⟩
    exact hK
theorem Pays.wpOp {i : Nat} {o : Oper} {v : Value} {a : Act} (hi : ops[i]? = some o) (hy : Pays P ops S o v a) {K : Act → World → Prop} {w : World} (hS : S w) (hK : K (a.put o.dst v) w) : wpOp P ops Q i K a w := by
  unfold Go.wpOp
  simp only [hi, hy.1, if_true]
  exact .inl (hy.2.wp hS hK)
theorem Pays.same {o : Oper} {v : Value} {a a' : Act} (hy : Pays P ops S o v a) (he : execOp a'.eval o = execOp a.eval o) (hw : Region.wanted o (yielded ops a'.tmps) = Region.wanted o (yielded ops a.tmps)) : Pays P ops S o v a' :=
  ⟨by rw [hw]; exact hy.1, fun w h => by rw [he]; exact hy.2 w h⟩
/-- Another operation, apart from the one that is taken first, goes as it went behind it. -/
theorem wpOp_before {j : Nat} {oi oj : Oper} {v : Value} (hj : ops[j]? = some oj) (hap : oi.apart ops oj = true) (hsi : ∀ cs b, oi.op ≠ .select cs b) (hsj : ∀ cs b, oj.op ≠ .select cs b)
    (hQ : ∀ c a w, Q (.panic c) (a.put oi.dst v) w → Q (.panic c) a w) {K : Act → World → Prop} {a : Act} {w : World} (hy : Pays P ops S oi v a) (h : wpOp P ops Q j K (a.put oi.dst v) w) :
    wpOp P ops Q j (fun a' w' => Pays P ops S oi v a' ∧ K (a'.put oi.dst v) w') a w := by
  obtain ⟨h1, h2, h3⟩ := Oper.apart_spec hap
  have on : ∀ u, Pays P ops S oi v (a.put oj.dst u) := fun u => hy.same (execOp_put oi hsi a oj.dst u h3) (wanted_put oi a oj.dst u h3)
  have back : ∀ u w', K ((a.put oi.dst v).put oj.dst u) w' → Pays P ops S oi v (a.put oj.dst u) ∧ K ((a.put oj.dst u).put oi.dst v) w' := fun u w' hk =>
    ⟨on u, by rw [← Act.put_comm a v u h2]; exact hk⟩
  unfold wpOp at *
  simp only [hj] at *
  rw [wanted_put oj a oi.dst v h1] at h
  by_cases hw : Region.wanted oj (yielded ops a.tmps) = true
  · simp only [hw, if_true] at h ⊢
    rcases h with h | ⟨ha, hl⟩
    · refine .inl ?_
      unfold Oper.wp at *
      rw [execOp_put oj hsj a oi.dst v h1] at h
      cases hr : (execOp a.eval oj).run P w with
      | ok n w' =>
        rw [hr] at h
        cases n with
        | value u => exact back u w' h
        | skip => exact back undef w' h
        | defer d =>
          refine ⟨(show Pays P ops S oi v { a with defers := d :: a.defers } from hy.same rfl rfl).same (execOp_put oi hsi _ oj.dst _ h3) (wanted_put oi _ oj.dst _ h3), ?_⟩
          simp only [Oper.upon] at h ⊢
          rw [← Act.put_comm _ v undef h2, ← Act.put_defers]
          exact h
        | enter f args =>
          refine Calls.mono h fun e w'' he => ?_
          cases e with
          | returned u => exact back u w'' he
          | panicked c => exact hQ _ _ _ he
          | outgrown => exact he
        | row r args => exact Rows.mono h fun u w'' he => back u w'' he
        | _ => exact h
      | halt x w' =>
        rw [hr] at h
        cases x with
        | panic u => exact hQ _ _ _ h
        | _ => exact h
    · exact .inr ⟨by unfold Oper.asks at *; rw [execOp_put oj hsj a oi.dst v h1] at ha; exact ha, hl⟩
  · simp only [hw] at h ⊢
    exact back undef w h
theorem unlisted_set {l : Array Bool} {i j : Nat} (h : (l.setIfInBounds j true).getD i true = false) : l.getD i true = false := by
  by_cases e : j = i
  · subst e
    rcases Nat.lt_or_ge j l.size with h' | h'
    · simp [h'] at h
    · simp at h
  · rwa [getD_set_ne true e] at h
theorem pays_first {i : Nat} {oi : Oper} {v : Value} (hi : ops[i]? = some oi) (hsel : ∀ (j : Nat) (o : Oper) cs b, ops[j]? = some o → o.op ≠ .select cs b) (hQ : ∀ c a w, Q (.panic c) (a.put oi.dst v) w → Q (.panic c) a w) :
    ∀ (fuel : Nat) (l : Array Bool) (a : Act) (w : World), (∀ j oj, ops[j]? = some oj → j ≠ i → l.getD j true = false → (∀ e ∈ oj.after, Region.binds md e = true → e.on ≠ i) → oi.apart ops oj = true) →
      i ∈ Region.ready md ops l → Pays P ops S oi v a → S w → wpAnyH P md ops Q S fuel (l.setIfInBounds i true) (a.put oi.dst v) w → wpAnyH P md ops Q S (fuel + 1) l a w := by
  intro fuel
  induction fuel with
  | zero =>
    intro l a w _ hr hy hS H
    refine ⟨fun h => absurd hr (by rw [h]; exact List.not_mem_nil), fun j hj => ?_⟩
    by_cases e : j = i
    · subst e; exact hy.wpOp hi hS ⟨hS, H⟩
    · have := ready_mono hj e
      rw [H.1] at this
      exact absurd this List.not_mem_nil
  | succ fuel ih =>
    intro l a w hfree hr hy hS H
    refine ⟨fun h => absurd hr (by rw [h]; exact List.not_mem_nil), fun j hj => ?_⟩
    by_cases e : j = i
    · subst e; exact hy.wpOp hi hS ⟨hS, H⟩
    · obtain ⟨hun, oj, hoj, hall⟩ := mem_ready.1 hj
      have h0 := (mem_ready.1 hr).1
      have hnot : ∀ e ∈ oj.after, Region.binds md e = true → e.on ≠ i := fun e he hb heq => by
        have h1 := hall e he hb
        rw [heq] at h1
        rcases Nat.lt_or_ge i l.size with h' | h'
        · simp [h'] at h0 h1; rw [h0] at h1; cases h1
        · simp [Array.getElem?_eq_none h'] at h1
      refine wpOp_mono (fun a' w' h3 => ⟨h3.2.1, ih (l.setIfInBounds j true) a' w' (fun k ok hk hki hu hno => hfree k ok hk hki (unlisted_set hu) hno) (ready_mono hr (Ne.symm e)) h3.1 h3.2.1 ?_⟩)
        (wpOp_before hoj (hfree j oj hoj e hun hnot) (fun cs b => hsel i oi cs b hi) (fun cs b => hsel j oj cs b hoj) hQ hy (H.2 j (ready_mono hj e)))
      rw [Array.setIfInBounds_comm _ _ e]
      exact h3.2.2
/-- The call, taken first, its slot named. -/
theorem call_at {i : Nat} {oi : Oper} {v : Value} {fuel : Nat} {l : Array Bool} {a : Act} {w : World} (d : Option Tmp) (hi : ops[i]? = some oi) (hd : oi.dst = d)
    (hs : Region.noSelect ops = true) (hf : Region.free md ops l i = true) (hr : (Region.ready md ops l).contains i = true)
    (hQ : ∀ c a w, Q (.panic c) (a.put oi.dst v) w → Q (.panic c) a w) (hw : Region.wanted oi (yielded ops a.tmps) = true) (f : FuncId) (args : Array Value) (he : ∀ W, S W → (execOp a.eval oi).run P W = .ok (.enter f args) W)
    (hc : ∀ W, S W → Calls P f args W fun e w' => e = .returned v ∧ W = w') (hS : S w)
    (h : wpAnyH P md ops Q S fuel (l.setIfInBounds i true) (a.put d v) w) : wpAnyH P md ops Q S (fuel + 1) l a w := by
  subst hd
  exact pays_first hi (Region.noSelect_spec hs) hQ fuel l a w (Region.free_spec hi hf) (by simpa using hr) ⟨hw, fun W hW => .inr ⟨f, args, he W hW, hc W hW⟩⟩ hS h
end
end Go.Proofs.YtbpkffoooieejaaDoor
/- Operations of a region may be taken first although a later one (number k) writes what they read, where k waits for them. No program in sight. -/
namespace Go.Proofs.YtbpkffoooieejaaDoor
open Go.RowKit
section
variable {P : Program} {ops : Array Oper} {Q : Exit → Act → World → Prop} {md : Region.Mode} {S : World → Prop} {k : Nat}
/-- Whatever order is picked, and S holds behind every operation as long as number k has not come up. -/
def wpAnyK (P : Program) (md : Region.Mode) (ops : Array Oper) (Q : Exit → Act → World → Prop) (S : World → Prop) (k : Nat) : Nat → Array Bool → Act → World → Prop
  | 0, l, a, w => Region.ready md ops l = [] ∧ Q .normal a w
  | f + 1, l, a, w => (Region.ready md ops l = [] → Q .normal a w) ∧
      ∀ i ∈ Region.ready md ops l, wpOp P ops Q i (fun a' w' => ((l.setIfInBounds i true).getD k true = false → S w') ∧ wpAnyK P md ops Q S k f (l.setIfInBounds i true) a' w') a w
theorem wpAny_of_K : ∀ (f : Nat) (l : Array Bool) (a : Act) (w : World), wpAnyK P md ops Q S k f l a w → wpAny P md ops Q f l a w
  | 0, _, _, _, h => h
  | f + 1, _, _, _, h => ⟨h.1, fun i hi => wpOp_mono (fun a' w' h' => wpAny_of_K f _ a' w' h'.2) (h.2 i hi)⟩
theorem wp_region_K {id : Nat} {a : Act} {w : World} (hm : P.follows .mixedOrders = true) (hS : S w.drew)
    (h : S w.drew → wpAnyK P .any ops Q S k ops.size (Array.replicate ops.size false) a w.drew) : (Code.region id ops true).wp P Q a w :=
  wp_region_any hm (wpAny_of_K _ _ _ _ (h hS))
theorem wp_region_KL {id : Nat} {a : Act} {w : World} (n : Nat) (l : Array Bool) (hn : ops.size = n) (hl : Array.replicate n false = l) (hm : P.follows .mixedOrders = true) (hS : S w.drew)
    (h : S w.drew → wpAnyK P .any ops Q S k n l a w.drew) : (Code.region id ops true).wp P Q a w := by
  subst hn hl
  exact wp_region_K hm hS h
/-- D: operations that have not come up and wait for i. -/
def Waits (md : Region.Mode) (ops : Array Oper) (l : Array Bool) (i : Nat) (D : List Nat) : Prop :=
  ∀ d ∈ D, l.getD d true = false ∧ ∃ o e, ops[d]? = some o ∧ e ∈ o.after ∧ Region.binds md e = true ∧ (e.on = i ∨ e.on ∈ D)
def waitsB (md : Region.Mode) (ops : Array Oper) (l : Array Bool) (i : Nat) (D : List Nat) : Bool :=
  D.all fun d => !(l.getD d true) && (match ops[d]? with | some o => o.after.any (fun e => Region.binds md e && (e.on == i || D.contains e.on)) | none => false)
theorem waits_of {l : Array Bool} {i : Nat} {D : List Nat} (h : waitsB md ops l i D = true) : Waits md ops l i D := by
  intro d hd
  have h1 := List.all_eq_true.1 h d hd
  rw [Bool.and_eq_true] at h1
  obtain ⟨h2, h3⟩ := h1
  refine ⟨by simpa using h2, ?_⟩
  cases ho : ops[d]? with
  | none => rw [ho] at h3; cases h3
  | some o =>
    rw [ho] at h3
    simp only at h3
    obtain ⟨e, he, h4⟩ := Array.any_eq_true'.1 h3
    rw [Bool.and_eq_true, Bool.or_eq_true] at h4
    exact ⟨o, e, rfl, he, h4.1, by simpa using h4.2⟩
theorem unready {l : Array Bool} {e j : Nat} (h0 : l.getD e true = false) (h1 : l.getD e false = true) : j ≠ j := by
  rcases Nat.lt_or_ge e l.size with h' | h'
  · simp [h'] at h0 h1; rw [h0] at h1; cases h1
  · simp [Array.getElem?_eq_none h'] at h1
theorem waits_not {l : Array Bool} {i : Nat} {D : List Nat} (h : Waits md ops l i D) (hi : l.getD i true = false) {d : Nat} (hd : d ∈ D) : ¬ d ∈ Region.ready md ops l := by
  intro hr
  obtain ⟨_, o, ho, hall⟩ := mem_ready.1 hr
  obtain ⟨_, o', e, ho', he, hb, hon⟩ := h d hd
  rw [ho] at ho'
  injection ho' with ho'
  subst ho'
  have h1 := hall e he hb
  rcases hon with hon | hon
  · rw [hon] at h1; exact unready hi h1 (j := 0) rfl
  · exact unready (h _ hon).1 h1 (j := 0) rfl
theorem pays_firstK {i : Nat} {oi : Oper} {v : Value} {D : List Nat} (hkD : k ∈ D) (hi : ops[i]? = some oi) (hsel : ∀ (j : Nat) (o : Oper) cs b, ops[j]? = some o → o.op ≠ .select cs b) (hQ : ∀ c a w, Q (.panic c) (a.put oi.dst v) w → Q (.panic c) a w) :
    ∀ (fuel : Nat) (l : Array Bool) (a : Act) (w : World), (∀ j oj, ops[j]? = some oj → j ≠ i → l.getD j true = false → (∀ e ∈ oj.after, Region.binds md e = true → e.on ≠ i) → oi.apart ops oj = true) →
      i ∈ Region.ready md ops l → Waits md ops l i D → Pays P ops S oi v a → S w → wpAnyK P md ops Q S k fuel (l.setIfInBounds i true) (a.put oi.dst v) w → wpAnyK P md ops Q S k (fuel + 1) l a w := by
  intro fuel
  induction fuel with
  | zero =>
    intro l a w _ hr _ hy hS H
    refine ⟨fun h => absurd hr (by rw [h]; exact List.not_mem_nil), fun j hj => ?_⟩
    by_cases e : j = i
    · subst e; exact hy.wpOp hi hS ⟨fun _ => hS, H⟩
    · have := ready_mono hj e
      rw [H.1] at this
      exact absurd this List.not_mem_nil
  | succ fuel ih =>
    intro l a w hfree hr hD hy hS H
    refine ⟨fun h => absurd hr (by rw [h]; exact List.not_mem_nil), fun j hj => ?_⟩
    by_cases e : j = i
    · subst e; exact hy.wpOp hi hS ⟨fun _ => hS, H⟩
    · obtain ⟨hun, oj, hoj, hall⟩ := mem_ready.1 hj
      have h0 := (mem_ready.1 hr).1
      have hnot : ∀ e ∈ oj.after, Region.binds md e = true → e.on ≠ i := fun e he hb heq => by
        have h1 := hall e he hb
        rw [heq] at h1
        exact unready h0 h1 (j := 0) rfl
      have hjD : ∀ d ∈ D, j ≠ d := fun d hd he => waits_not hD h0 hd (by rw [← he]; exact hj)
      have hik : i ≠ k := fun he => waits_not hD h0 hkD (by rw [← he]; exact hr)
      have hD' : Waits md ops (l.setIfInBounds j true) i D := fun d hd => ⟨by rw [getD_set_ne true (hjD d hd)]; exact (hD d hd).1, (hD d hd).2⟩
      have hkf : ((l.setIfInBounds i true).setIfInBounds j true).getD k true = false := by
        rw [getD_set_ne true (hjD k hkD), getD_set_ne true hik]; exact (hD k hkD).1
      refine wpOp_mono (fun a' w' h3 => ?_) (wpOp_before hoj (hfree j oj hoj e hun hnot) (fun cs b => hsel i oi cs b hi) (fun cs b => hsel j oj cs b hoj) hQ hy (H.2 j (ready_mono hj e)))
      have hS' := h3.2.1 hkf
      refine ⟨fun _ => hS', ih (l.setIfInBounds j true) a' w' (fun m om hm hmi hu hno => hfree m om hm hmi (unlisted_set hu) hno) (ready_mono hr (Ne.symm e)) hD' h3.1 hS' ?_⟩
      rw [Array.setIfInBounds_comm _ _ e]
      exact h3.2.2
/-- A value that an operation yields where S holds. -/
theorem pays_plain {oi : Oper} {v : Value} {a : Act} (hw : Region.wanted oi (yielded ops a.tmps) = true) (h : ∀ W, S W → (execOp a.eval oi).run P W = .ok (.value v) W) : Pays P ops S oi v a := ⟨hw, fun W hW => .inl (h W hW)⟩
theorem pays_yields {oi : Oper} {v : Value} {a : Act} (hw : Region.wanted oi (yielded ops a.tmps) = true) (hy : YieldsIf P ops S oi v a) : Pays P ops S oi v a :=
  ⟨hw, fun W hW => .inl (hy.elim (fun h => h.2 W hW) (fun h => by rw [hw] at h; cases h.1))⟩
theorem takeK {i : Nat} {oi : Oper} {v : Value} {fuel : Nat} {l : Array Bool} {a : Act} {w : World} (D : List Nat) (d : Option Tmp) (hi : ops[i]? = some oi) (hd : oi.dst = d) (hkD : D.contains k = true)
    (hs : Region.noSelect ops = true) (hf : Region.free md ops l i = true) (hr : (Region.ready md ops l).contains i = true) (hD : waitsB md ops l i D = true)
    (hQ : ∀ c a w, Q (.panic c) (a.put oi.dst v) w → Q (.panic c) a w) (hw : Region.wanted oi (yielded ops a.tmps) = true) (hy : YieldsIf P ops S oi v a) (hS : S w)
    (h : wpAnyK P md ops Q S k fuel (l.setIfInBounds i true) (a.put d v) w) : wpAnyK P md ops Q S k (fuel + 1) l a w := by
  subst hd
  exact pays_firstK (by simpa using hkD) hi (Region.noSelect_spec hs) hQ fuel l a w (Region.free_spec hi hf) (by simpa using hr) (waits_of hD) (pays_yields hw hy) hS h
theorem callK {i : Nat} {oi : Oper} {v : Value} {fuel : Nat} {l : Array Bool} {a : Act} {w : World} (D : List Nat) (d : Option Tmp) (hi : ops[i]? = some oi) (hd : oi.dst = d) (hkD : D.contains k = true)
    (hs : Region.noSelect ops = true) (hf : Region.free md ops l i = true) (hr : (Region.ready md ops l).contains i = true) (hD : waitsB md ops l i D = true)
    (hQ : ∀ c a w, Q (.panic c) (a.put oi.dst v) w → Q (.panic c) a w) (hw : Region.wanted oi (yielded ops a.tmps) = true) (f : FuncId) (args : Array Value) (he : ∀ W, S W → (execOp a.eval oi).run P W = .ok (.enter f args) W)
    (hc : ∀ W, S W → Calls P f args W fun e w' => e = .returned v ∧ W = w') (hS : S w)
    (h : wpAnyK P md ops Q S k fuel (l.setIfInBounds i true) (a.put d v) w) : wpAnyK P md ops Q S k (fuel + 1) l a w := by
  subst hd
  exact pays_firstK (by simpa using hkD) hi (Region.noSelect_spec hs) hQ fuel l a w (Region.free_spec hi hf) (by simpa using hr) (waits_of hD) ⟨hw, fun W hW => .inr ⟨f, args, he W hW, hc W hW⟩⟩ hS h
/-- An operation that yields its value in whatever world waits for nothing. -/
theorem pays_anyK {i : Nat} {oi : Oper} {v : Value} (hik : i ≠ k) (hi : ops[i]? = some oi) (hsel : ∀ (j : Nat) (o : Oper) cs b, ops[j]? = some o → o.op ≠ .select cs b) (hQ : ∀ c a w, Q (.panic c) (a.put oi.dst v) w → Q (.panic c) a w) :
    ∀ (fuel : Nat) (l : Array Bool) (a : Act) (w : World), (∀ j oj, ops[j]? = some oj → j ≠ i → l.getD j true = false → (∀ e ∈ oj.after, Region.binds md e = true → e.on ≠ i) → oi.apart ops oj = true) →
      i ∈ Region.ready md ops l → Pays P ops (fun _ => True) oi v a → (l.getD k true = false → S w) → wpAnyK P md ops Q S k fuel (l.setIfInBounds i true) (a.put oi.dst v) w → wpAnyK P md ops Q S k (fuel + 1) l a w := by
  intro fuel
  induction fuel with
  | zero =>
    intro l a w _ hr hy hS H
    refine ⟨fun h => absurd hr (by rw [h]; exact List.not_mem_nil), fun j hj => ?_⟩
    by_cases e : j = i
    · subst e; exact hy.wpOp hi trivial ⟨fun h => hS (unlisted_set h), H⟩
    · have := ready_mono hj e
      rw [H.1] at this
      exact absurd this List.not_mem_nil
  | succ fuel ih =>
    intro l a w hfree hr hy hS H
    refine ⟨fun h => absurd hr (by rw [h]; exact List.not_mem_nil), fun j hj => ?_⟩
    by_cases e : j = i
    · subst e; exact hy.wpOp hi trivial ⟨fun h => hS (unlisted_set h), H⟩
    · obtain ⟨hun, oj, hoj, hall⟩ := mem_ready.1 hj
      have h0 := (mem_ready.1 hr).1
      have hnot : ∀ e ∈ oj.after, Region.binds md e = true → e.on ≠ i := fun e he hb heq => by
        have h1 := hall e he hb
        rw [heq] at h1
        exact unready h0 h1 (j := 0) rfl
      refine wpOp_mono (fun a' w' h3 => ?_) (wpOp_before hoj (hfree j oj hoj e hun hnot) (fun cs b => hsel i oi cs b hi) (fun cs b => hsel j oj cs b hoj) hQ hy (H.2 j (ready_mono hj e)))
      have hS' : (l.setIfInBounds j true).getD k true = false → S w' := fun h => h3.2.1 (by rw [Array.setIfInBounds_comm _ _ (Ne.symm e), getD_set_ne true hik]; exact h)
      refine ⟨hS', ih (l.setIfInBounds j true) a' w' (fun m om hm hmi hu hno => hfree m om hm hmi (unlisted_set hu) hno) (ready_mono hr (Ne.symm e)) h3.1 hS' ?_⟩
      rw [Array.setIfInBounds_comm _ _ e]
      exact h3.2.2
theorem takeAnyK {i : Nat} {oi : Oper} {v : Value} {fuel : Nat} {l : Array Bool} {a : Act} {w : World} (d : Option Tmp) (hik : (i == k) = false) (hi : ops[i]? = some oi) (hd : oi.dst = d)
    (hs : Region.noSelect ops = true) (hf : Region.free md ops l i = true) (hr : (Region.ready md ops l).contains i = true)
    (hQ : ∀ c a w, Q (.panic c) (a.put oi.dst v) w → Q (.panic c) a w) (hw : Region.wanted oi (yielded ops a.tmps) = true) (hy : YieldsIf P ops (fun _ => True) oi v a) (hS : S w)
    (h : wpAnyK P md ops Q S k fuel (l.setIfInBounds i true) (a.put d v) w) : wpAnyK P md ops Q S k (fuel + 1) l a w := by
  subst hd
  exact pays_anyK (by simpa using hik) hi (Region.noSelect_spec hs) hQ fuel l a w (Region.free_spec hi hf) (by simpa using hr) (pays_yields hw hy) (fun _ => hS) h
theorem callAnyK {i : Nat} {oi : Oper} {v : Value} {fuel : Nat} {l : Array Bool} {a : Act} {w : World} (d : Option Tmp) (hik : (i == k) = false) (hi : ops[i]? = some oi) (hd : oi.dst = d)
    (hs : Region.noSelect ops = true) (hf : Region.free md ops l i = true) (hr : (Region.ready md ops l).contains i = true)
    (hQ : ∀ c a w, Q (.panic c) (a.put oi.dst v) w → Q (.panic c) a w) (hw : Region.wanted oi (yielded ops a.tmps) = true) (f : FuncId) (args : Array Value) (he : ∀ W, True → (execOp a.eval oi).run P W = .ok (.enter f args) W)
    (hc : ∀ W, True → Calls P f args W fun e w' => e = .returned v ∧ W = w') (hS : S w)
    (h : wpAnyK P md ops Q S k fuel (l.setIfInBounds i true) (a.put d v) w) : wpAnyK P md ops Q S k (fuel + 1) l a w := by
  subst hd
  exact pays_anyK (by simpa using hik) hi (Region.noSelect_spec hs) hQ fuel l a w (Region.free_spec hi hf) (by simpa using hr) ⟨hw, fun W hW => .inr ⟨f, args, he W hW, hc W hW⟩⟩ (fun _ => hS) h
theorem K_listed : ∀ (f : Nat) (l : Array Bool) (a : Act) (w : World), l.getD k true = true → wpAnyH P md ops Q (fun _ => True) f l a w → wpAnyK P md ops Q S k f l a w
  | 0, _, _, _, _, h => h
  | f + 1, l, _, _, hk, h => ⟨h.1, fun i hi => wpOp_mono (fun a' w' h' => by
      have hk' : (l.setIfInBounds i true).getD k true = true := by
        by_cases e : i = k
        · subst e
          rcases Nat.lt_or_ge i l.size with h9 | h9
          · simp [h9]
          · simp
        · rw [getD_set_ne true e]; exact hk
      exact ⟨(fun hc => by rw [hk'] at hc; cases hc), K_listed f _ a' w' hk' h'.2⟩) (h.2 i hi)⟩
/-- When k alone may come up next S is no longer asked for. -/
theorem exitK {fuel : Nat} {l : Array Bool} {a : Act} {w : World} (hr : Region.ready md ops l = [k]) (h : wpAnyH P md ops Q (fun _ => True) fuel l a w) : wpAnyK P md ops Q S k fuel l a w := by
  cases fuel with
  | zero => exact h
  | succ f =>
    refine ⟨h.1, fun i hi => ?_⟩
    have hik : i = k := by rw [hr] at hi; simpa using hi
    subst hik
    refine wpOp_mono (fun a' w' h' => ?_) (h.2 i hi)
    have hk' : (l.setIfInBounds i true).getD i true = true := by
      rcases Nat.lt_or_ge i l.size with h9 | h9
      · simp [h9]
      · simp
    exact ⟨(fun hc => by rw [hk'] at hc; cases hc), K_listed f _ a' w' hk' h'.2⟩
/-- One operation alone may come up next; behind it S is to be shown anew. -/
theorem oneK {fuel : Nat} {l : Array Bool} {a : Act} {w : World} {j : Nat} {o : Oper} (hr : Region.ready md ops l = [j]) (ho : ops[j]? = some o)
    (h : ∀ K' : Act → World → Prop, Shut (∀ a w, S w → wpAnyK P md ops Q S k fuel (l.setIfInBounds j true) a w → K' a w) → if Region.wanted o (yielded ops a.tmps) = true then Oper.wp P o a w K' Q else K' (a.put o.dst undef) w) :
    wpAnyK P md ops Q S k (fuel + 1) l a w :=
  ⟨(fun h0 => by rw [hr] at h0; cases h0), fun i hi => by
    have hij : i = j := by rw [hr] at hi; simpa using hi
    subst hij
    exact wpOp_step ho fun K' hK => h K' fun a w hS hW => hK a w ⟨fun _ => hS, hW⟩⟩
end
theorem step_app1h {P : Program} {w : World} {ops : Array Oper} {o : Oper} {a : Act} {K : Act → World → Prop} {Q : Exit → Act → World → Prop} {E : Prop} (hgd : o.guard = none) (s x : Operand) (t : TypeId)
    (ho : o.op = .call { callee := .builtin .append, args := #[s, x], argTypes := #[t, t] }) (base : Nat) (e : TypeId) (z : Value) (size bytes : Nat) (ht : P.underlying t = some (.slice e))
    (hinfo : (P.info? e).map (fun i => (i.zero, i.size, i.bytes)) = some (some z, size, bytes)) (hzs : z.cells.size = size) (hsz : 0 < size)
    (v : Value) (n : Nat) (xs : List Value) (hs : a.eval s = v) (hown : w.ownsRow base e size v n xs) (g c : Nat) (cs : Array Value) (hb : Blk w g e cs) (hcs : cs.size = size) (hx : a.eval x = .slice (some ⟨g, 0, none⟩) 1 c)
    (h1 : cs.toList.all (·.oneCell') = true) (hn : n ≤ 1000000) (hby : bytes ≤ 1000) (hbase : base ≤ w.heap.size)
    (h : ∀ v' w', w'.ownsRow base e size v' (n + 1) (xs ++ cs.toList) → w.grownBy w' v.ownBlock → (v'.ownBlock = v.ownBlock ∨ v'.ownBlock = some w.heap.size) → K (a.put o.dst v') w') : if Region.wanted o (yielded ops a.tmps) = true then Oper.wp P o a w K Q else E := by
  obtain ⟨i, hi, hz, hsize, hbytes⟩ := info_parts hinfo
  refine step_append_any w hgd s x t ho base e i z size bytes ht hi hz hsize hbytes hzs hsz v n xs hs hown (g + 1) (some ⟨g, 0, none⟩) 1 c cs.toList hx (reads_blk hb size hcs) (List.all_eq_true.1 h1) (by simp only [maxLen]; omega) ?_ hbase fun v' w' h2 h3 h4 => h v' w' h2 h3 h4
  have := Nat.mul_le_mul (show n + 1 ≤ 1000001 by omega) hby
  omega
end Go.Proofs.YtbpkffoooieejaaDoor
/- Trees of boxes in memory: rows of trees, six cells each. No program in sight. -/
namespace Go.Proofs.YtbpkffoooieejaaDoor
open Go.RowKit
/-- Cells that lie in blocks that K allows. -/
def ReadsK (w : World) (K : Nat → Prop) (size : Nat) (A : Option Addr) (n : Nat) (xs : List Value) : Prop :=
  xs.length = n * size ∧ (0 < n → ∃ g off, A = some ⟨g, off, none⟩ ∧ K g ∧ ∀ j u, xs[j]? = some u → w.cell? ⟨g, off + j, none⟩ = some u)
/-- The cells of one tree. -/
def trC (k n : Int) (x : ByteArray) (A : Option Addr) (m c : Nat) : List Value := [.int .i64 k, .int .i64 n, .int .i64 0, .slice none 0 0, .string x, .slice A m c]
mutual
def TrV (w : World) (K : Nat → Prop) : Tr → List Value → Prop
  | .mk k n x l, vs => x.size ≤ maxLen ∧ l.length ≤ 1000000 ∧ ∃ A c xs, vs = trC k n x A l.length c ∧ l.length ≤ c ∧ c ≤ maxLen ∧ ReadsK w K 6 A l.length xs ∧ TrVs w K l xs
def TrVs (w : World) (K : Nat → Prop) : List Tr → List Value → Prop
  | [], xs => xs = []
  | t :: l, xs => ∃ vs ys, xs = vs ++ ys ∧ TrV w K t vs ∧ TrVs w K l ys
end
/-- A row of trees. -/
def TrRow (w : World) (K : Nat → Prop) (A : Option Addr) (l : List Tr) : Prop := ∃ xs, ReadsK w K 6 A l.length xs ∧ TrVs w K l xs
theorem TrV.len {w : World} {K : Nat → Prop} : ∀ {t : Tr} {vs : List Value}, TrV w K t vs → vs.length = 6
  | .mk k n x l, vs, h => by
    rw [TrV] at h
    obtain ⟨_, _, A, c, xs, rfl, _⟩ := h
    rfl
theorem TrVs.len {w : World} {K : Nat → Prop} : ∀ {l : List Tr} {xs : List Value}, TrVs w K l xs → xs.length = l.length * 6
  | [], xs, h => by rw [TrVs] at h; subst h; rfl
  | t :: l, xs, h => by
    rw [TrVs] at h
    obtain ⟨vs, ys, rfl, h1, h2⟩ := h
    rw [List.length_append, h1.len, TrVs.len h2, List.length_cons]; omega
theorem ReadsK.keep {w w' : World} {K K' : Nat → Prop} {size n : Nat} {A : Option Addr} {xs : List Value} (h : ReadsK w K size A n xs) (hk : ∀ p : Addr, K p.block → w'.cell? p = w.cell? p) (hm : ∀ g, K g → K' g) : ReadsK w' K' size A n xs :=
  ⟨h.1, fun hn => by
    obtain ⟨g, off, h1, h2, h3⟩ := h.2 hn
    exact ⟨g, off, h1, hm g h2, fun j u hu => (hk ⟨g, off + j, none⟩ h2).trans (h3 j u hu)⟩⟩
mutual
theorem TrV.keep {w w' : World} {K K' : Nat → Prop} (hk : ∀ p : Addr, K p.block → w'.cell? p = w.cell? p) (hm : ∀ g, K g → K' g) : ∀ {t : Tr} {vs : List Value}, TrV w K t vs → TrV w' K' t vs
  | .mk k n x l, vs, h => by
    rw [TrV] at h ⊢
    obtain ⟨h0, h00, A, c, xs, h1, h2, h3, h4, h5⟩ := h
    exact ⟨h0, h00, A, c, xs, h1, h2, h3, h4.keep hk hm, TrVs.keep hk hm h5⟩
theorem TrVs.keep {w w' : World} {K K' : Nat → Prop} (hk : ∀ p : Addr, K p.block → w'.cell? p = w.cell? p) (hm : ∀ g, K g → K' g) : ∀ {l : List Tr} {xs : List Value}, TrVs w K l xs → TrVs w' K' l xs
  | [], xs, h => by rw [TrVs] at h ⊢; exact h
  | t :: l, xs, h => by
    rw [TrVs] at h ⊢
    obtain ⟨vs, ys, h1, h2, h3⟩ := h
    exact ⟨vs, ys, h1, TrV.keep hk hm h2, TrVs.keep hk hm h3⟩
end
theorem TrRow.keep {w w' : World} {K K' : Nat → Prop} {A : Option Addr} {l : List Tr} (hk : ∀ p : Addr, K p.block → w'.cell? p = w.cell? p) (hm : ∀ g, K g → K' g) (h : TrRow w K A l) : TrRow w' K' A l := by
  obtain ⟨xs, h1, h2⟩ := h
  exact ⟨xs, h1.keep hk hm, h2.keep hk hm⟩
theorem TrRow.mono {w : World} {K K' : Nat → Prop} {A : Option Addr} {l : List Tr} (h : TrRow w K A l) (hm : ∀ g, K g → K' g) : TrRow w K' A l := h.keep (fun _ _ => rfl) hm
theorem TrRow.nil (w : World) (K : Nat → Prop) (A : Option Addr) : TrRow w K A [] := ⟨[], ⟨rfl, fun h => absurd h (Nat.not_lt_zero _)⟩, by rw [TrVs]⟩
theorem TrVs.snoc {w : World} {K : Nat → Prop} : ∀ {l : List Tr} {xs : List Value} {t : Tr} {vs : List Value}, TrVs w K l xs → TrV w K t vs → TrVs w K (l ++ [t]) (xs ++ vs)
  | [], xs, t, vs, h, h1 => by
    rw [TrVs] at h; subst h
    rw [List.nil_append, List.nil_append, TrVs]
    exact ⟨vs, [], by simp, h1, by rw [TrVs]⟩
  | u :: l, xs, t, vs, h, h1 => by
    rw [TrVs] at h
    obtain ⟨a, ys, rfl, h2, h3⟩ := h
    rw [List.cons_append, TrVs]
    exact ⟨a, ys ++ vs, by simp, h2, TrVs.snoc h3 h1⟩
theorem TrVs.drop {w : World} {K : Nat → Prop} : ∀ {l : List Tr} {xs : List Value} (k : Nat), TrVs w K l xs → TrVs w K (l.drop k) (xs.drop (k * 6))
  | l, xs, 0, h => by simpa using h
  | [], xs, k + 1, h => by rw [TrVs] at h; subst h; simp [TrVs]
  | t :: l, xs, k + 1, h => by
    rw [TrVs] at h
    obtain ⟨vs, ys, rfl, h1, h2⟩ := h
    have := h1.len
    rw [List.drop_succ_cons, show (k + 1) * 6 = vs.length + k * 6 by omega, List.drop_append, show vs.drop (vs.length + k * 6) = [] from List.drop_eq_nil_of_le (by omega), List.nil_append, show vs.length + k * 6 - vs.length = k * 6 by omega]
    exact TrVs.drop k h2
theorem TrVs.take {w : World} {K : Nat → Prop} : ∀ {l : List Tr} {xs : List Value} (k : Nat), TrVs w K l xs → TrVs w K (l.take k) (xs.take (k * 6))
  | l, xs, 0, h => by simp [TrVs]
  | [], xs, k + 1, h => by rw [TrVs] at h; subst h; simp [TrVs]
  | t :: l, xs, k + 1, h => by
    rw [TrVs] at h
    obtain ⟨vs, ys, rfl, h1, h2⟩ := h
    have := h1.len
    rw [List.take_succ_cons, show (k + 1) * 6 = vs.length + k * 6 by omega, List.take_append, show vs.take (vs.length + k * 6) = vs from List.take_of_length_le (by omega), show vs.length + k * 6 - vs.length = k * 6 by omega, TrVs]
    exact ⟨vs, _, rfl, h1, TrVs.take k h2⟩
theorem TrVs.at_ {w : World} {K : Nat → Prop} : ∀ {l : List Tr} {xs : List Value} (k : Nat) (hk : k < l.length), TrVs w K l xs → ∃ vs, TrV w K l[k] vs ∧ ∀ j, j < 6 → xs[k * 6 + j]? = vs[j]?
  | [], _, _, hk, _ => absurd hk (Nat.not_lt_zero _)
  | t :: l, xs, 0, hk, h => by
    rw [TrVs] at h
    obtain ⟨vs, ys, rfl, h1, h2⟩ := h
    refine ⟨vs, h1, fun j hj => ?_⟩
    rw [Nat.zero_mul, Nat.zero_add, List.getElem?_append_left (by rw [h1.len]; exact hj)]
  | t :: l, xs, k + 1, hk, h => by
    rw [TrVs] at h
    obtain ⟨vs, ys, rfl, h1, h2⟩ := h
    obtain ⟨us, h3, h4⟩ := TrVs.at_ k (by simpa using hk) h2
    refine ⟨us, h3, fun j hj => ?_⟩
    rw [List.getElem?_append_right (by rw [h1.len]; omega), h1.len, show (k + 1) * 6 + j - 6 = k * 6 + j by omega]
    exact h4 j hj
/-- One tree, by its cells: kind, node, text, kids. -/
theorem TrV.parts {w : World} {K : Nat → Prop} {t : Tr} {vs : List Value} (h : TrV w K t vs) : t.text.size ≤ maxLen ∧ t.kids.length ≤ 1000000 ∧ ∃ A c, vs = trC t.kind t.node t.text A t.kids.length c ∧ t.kids.length ≤ c ∧ c ≤ maxLen ∧ TrRow w K A t.kids := by
  obtain ⟨k, n, x, l⟩ := t
  rw [TrV] at h
  obtain ⟨h0, h00, A, c, xs, h1, h2, h3, h4, h5⟩ := h
  exact ⟨h0, h00, A, c, h1, h2, h3, xs, h4, h5⟩
theorem TrV.of {w : World} {K : Nat → Prop} {k n : Int} {x : ByteArray} {l : List Tr} {A : Option Addr} {c : Nat} (h0 : x.size ≤ maxLen) (h00 : l.length ≤ 1000000) (h2 : l.length ≤ c) (h3 : c ≤ maxLen) (h : TrRow w K A l) : TrV w K (.mk k n x l) (trC k n x A l.length c) := by
  obtain ⟨xs, h4, h5⟩ := h
  rw [TrV]
  exact ⟨h0, h00, A, c, xs, rfl, h2, h3, h4, h5⟩
/-- The k-th tree of a row: where its cells lie. -/
theorem TrRow.at_ {w : World} {K : Nat → Prop} {A : Option Addr} {l : List Tr} (h : TrRow w K A l) (k : Nat) (hk : k < l.length) : ∃ g off Ak ck, A = some ⟨g, off, none⟩ ∧ K g ∧ TrV w K l[k] (trC l[k].kind l[k].node l[k].text Ak l[k].kids.length ck) ∧
    w.cell? ⟨g, off + k * 6, none⟩ = some (.int .i64 l[k].kind) ∧ w.cell? ⟨g, off + k * 6 + 1, none⟩ = some (.int .i64 l[k].node) ∧ w.cell? ⟨g, off + k * 6 + 2, none⟩ = some (.int .i64 0) ∧ w.cell? ⟨g, off + k * 6 + 3, none⟩ = some (.slice none 0 0) ∧
    w.cell? ⟨g, off + k * 6 + 4, none⟩ = some (.string l[k].text) ∧ w.cell? ⟨g, off + k * 6 + 5, none⟩ = some (.slice Ak l[k].kids.length ck) ∧ l[k].kids.length ≤ ck ∧ ck ≤ maxLen ∧ TrRow w K Ak l[k].kids := by
  obtain ⟨xs, ⟨h1, h2⟩, h3⟩ := h
  obtain ⟨vs, h4, h5⟩ := h3.at_ k hk
  obtain ⟨g, off, h6, h7, h8⟩ := h2 (by omega)
  obtain ⟨_, _, Ak, ck, rfl, h9, h10, h11⟩ := h4.parts
  have c : ∀ j, j < 6 → ∀ u, (trC l[k].kind l[k].node l[k].text Ak l[k].kids.length ck)[j]? = some u → w.cell? ⟨g, off + k * 6 + j, none⟩ = some u := fun j hj u hu => by
    rw [show off + k * 6 + j = off + (k * 6 + j) by omega]
    exact h8 _ u (by rw [h5 j hj]; exact hu)
  exact ⟨g, off, Ak, ck, h6, h7, h4, c 0 (by omega) _ rfl, c 1 (by omega) _ rfl, c 2 (by omega) _ rfl, c 3 (by omega) _ rfl, c 4 (by omega) _ rfl, c 5 (by omega) _ rfl, h9, h10, h11⟩
theorem TrRow.drop {w : World} {K : Nat → Prop} {A : Option Addr} {l : List Tr} (h : TrRow w K A l) {k cap : Nat} (hk : k ≤ l.length) (hc : l.length ≤ cap) : TrRow w K (if cap = k then A else A.map (·.add (k * 6))) (l.drop k) := by
  obtain ⟨xs, ⟨h1, h2⟩, h3⟩ := h
  refine ⟨xs.drop (k * 6), ⟨by rw [List.length_drop, List.length_drop, h1]; omega, fun hn => ?_⟩, h3.drop k⟩
  rw [List.length_drop] at hn
  obtain ⟨g, off, rfl, h4, h5⟩ := h2 (by omega)
  rw [if_neg (by omega)]
  refine ⟨g, off + k * 6, by simp only [Option.map_some]; unfold Addr.add; split <;> simp_all, h4, fun j u hu => ?_⟩
  rw [Nat.add_assoc]
  exact h5 _ u (by rw [← hu, List.getElem?_drop])
theorem TrRow.take {w : World} {K : Nat → Prop} {A : Option Addr} {l : List Tr} (h : TrRow w K A l) (k : Nat) : TrRow w K A (l.take k) := by
  obtain ⟨xs, ⟨h1, h2⟩, h3⟩ := h
  refine ⟨xs.take (k * 6), ⟨by rw [List.length_take, List.length_take, h1]; omega, fun hn => ?_⟩, h3.take k⟩
  rw [List.length_take] at hn
  obtain ⟨g, off, rfl, h4, h5⟩ := h2 (by omega)
  refine ⟨g, off, rfl, h4, fun j u hu => h5 j u ?_⟩
  rw [List.getElem?_take] at hu
  split at hu
  · exact hu
  · cases hu
/-- A row of the call's own that holds trees which lie elsewhere. -/
theorem TrRow.of_own {w : World} {K K' : Nat → Prop} {base e n : Nat} {A : Option Addr} {c : Nat} {l : List Tr} {xs : List Value} (h : w.ownsRow base e 6 (.slice A n c) n xs) (hl : l.length = n) (ht : TrVs w K l xs) (hm : ∀ g, K g → K' g) (ho : ∀ g, (Value.slice A n c).ownBlock = some g → K' g) : TrRow w K' A l := by
  refine ⟨xs, ⟨by rw [ht.len], fun hn => ?_⟩, ht.keep (fun _ _ => rfl) hm⟩
  obtain ⟨g, cap, hv, _, hlt⟩ := h.form (by omega)
  have hA : A = some ⟨g, 0, none⟩ := by injection hv
  subst hA
  refine ⟨g, 0, rfl, ho g rfl, fun j u hu => ?_⟩
  have := h.cells (g := g) rfl j u hu
  rwa [show (⟨g, 0, none⟩ : Addr).add j = ⟨g, 0 + j, none⟩ by unfold Addr.add; split <;> simp_all] at this
/-- Blocks that K allows, and new ones. -/
def KNew (K : Nat → Prop) (a b : Nat) (g : Nat) : Prop := K g ∨ (a ≤ g ∧ g < b)
theorem keep_below {w w' : World} {K : Nat → Prop} {B : Nat} (hb : Below B w w') (hK : ∀ g, K g → g < B) : ∀ p : Addr, K p.block → w'.cell? p = w.cell? p := fun _ hp => hb.cell (hK _ hp)
theorem TrRow.below {w w' : World} {K : Nat → Prop} {B : Nat} {A : Option Addr} {l : List Tr} (h : TrRow w K A l) (hb : Below B w w') (hK : ∀ g, K g → g < B) : TrRow w' K A l := h.keep (keep_below hb hK) fun _ h => h
theorem TrV.below {w w' : World} {K : Nat → Prop} {B : Nat} {t : Tr} {vs : List Value} (h : TrV w K t vs) (hb : Below B w w') (hK : ∀ g, K g → g < B) : TrV w' K t vs := h.keep (keep_below hb hK) fun _ h => h
theorem TrVs.below {w w' : World} {K : Nat → Prop} {B : Nat} {l : List Tr} {xs : List Value} (h : TrVs w K l xs) (hb : Below B w w') (hK : ∀ g, K g → g < B) : TrVs w' K l xs := h.keep (keep_below hb hK) fun _ h => h
theorem TrV.mono {w : World} {K K' : Nat → Prop} {t : Tr} {vs : List Value} (h : TrV w K t vs) (hm : ∀ g, K g → K' g) : TrV w K' t vs := h.keep (fun _ _ => rfl) hm
end Go.Proofs.YtbpkffoooieejaaDoor
/- strings.Trim at cutsets of ASCII; white.Idle. -/
namespace Go.Proofs.YtbpkffoooieejaaDoor
open Go.RowKit
/-- Is a text nothing but such bytes? -/
def onlyOf (cs s : ByteArray) : Bool := (Lib.trimS s.data.toList cs.data.toList).isEmpty
theorem trim_any (s cs : ByteArray) (w : World) (hs : s.size ≤ 9223372036854775807) (hcs : cs.size < 4294967281) (hascii : ∀ (j : Nat) b, cs.data.toList[j]? = some b → b.toNat < 128) :
    Calls Tryd.prog 100 #[.string s, .string cs] w fun e w' => e = .returned (.string ⟨(Lib.trimS s.data.toList cs.data.toList).toArray⟩) ∧ Below w.heap.size w w' := Any.strings_Trim_laid Tryd.lays160 (by kernel_rfl) s cs w hs hcs hascii
theorem bytes_isEmpty (l : List UInt8) : (⟨l.toArray⟩ : ByteArray).toList.isEmpty = l.isEmpty := by rw [Lib.toList_data]
def blanks : ByteArray := ⟨#[32, 9, 10, 12, 13]⟩
def idleT (s : ByteArray) : Bool := onlyOf blanks s
set_option maxRecDepth 100000 in
set_option maxHeartbeats 4000000 in
theorem idle_any (s : ByteArray) (w : World) (hs : s.size ≤ 9223372036854775807) : Calls Tryd.prog 106 #[.string s] w fun e w' => e = .returned (.bool (idleT s)) ∧ Below w.heap.size w w' := by
  have HT := hide (trim_any s blanks w hs (by decide) (ascii_of_all (by decide)))
  obtain ⟨r, hr⟩ : ∃ r : ByteArray, r = ⟨(Lib.trimS s.data.toList blanks.data.toList).toArray⟩ := ⟨_, rfl⟩
  rw [← hr] at HT
  have HE := hide (show r.toList.isEmpty = idleT s by rw [hr, bytes_isEmpty]; rfl)
  clear hr
  go_enter Tryd.func106, Tryd.ntmps106
  go_wp2_with (first | (go_at_call 100; refine HT.out.mono ?_; rintro e w' ⟨rfl, hb⟩) | fail)
  go_ret
  exact ⟨by rw [HE.out]; rfl, hb⟩
set_option maxRecDepth 100000 in
set_option maxHeartbeats 4000000 in
theorem keeps_any (m : Int) (w : World) : Calls Tryd.prog 107 #[.int .i64 m] w fun e w' => e = .returned (.bool (m == 1 || m == 3)) ∧ w' = w := by
  by_cases h1 : m = 1
  · subst h1
    go_enter Tryd.func107, Tryd.ntmps107
    go_wp2_with fail
    go_ret
    exact ⟨rfl, rfl⟩
  · have t1 : (m == 1) = false := by simpa using h1
    go_enter Tryd.func107, Tryd.ntmps107
    go_wp2_with fail
    go_ret
    exact ⟨by rw [t1]; simp, rfl⟩
end Go.Proofs.YtbpkffoooieejaaDoor
/- dom.named, dom.Name, dom.attrName, dom.find, dom.attrs. -/
namespace Go.Proofs.YtbpkffoooieejaaDoor
open Go.ChangeShapes Go.WideShapes Go.ChangeAt Go.RowKit
def signs : ByteArray := ⟨#[97, 98, 99, 100, 101, 102, 103, 104, 105, 106, 107, 108, 109, 110, 111, 112, 113, 114, 115, 116, 117, 118, 119, 120, 121, 122, 48, 49, 50, 51, 52, 53, 54, 55, 56, 57, 45, 95, 58]⟩
set_option maxRecDepth 100000 in
set_option maxHeartbeats 40000000 in
theorem named_det (s first : ByteArray) : ∃ b : Bool, ∀ w : World, Calls Tryd.prog 77 #[.string s, .string first] w fun e w' => e = .returned (.bool b) ∧ Below w.heap.size w w' := by
  by_cases hse : s.toList.isEmpty = true
  · refine ⟨false, fun w => ?_⟩
    have hb0 := Below.refl w.heap.size w
    go_enter Tryd.func77, Tryd.ntmps77
    go_wp2_with fail
    go_ret
    exact ⟨rfl, hb0⟩
  · have hsf : s.toList.isEmpty = false := by simpa using hse
    by_cases h40 : s.size ≤ 40
    · have h0s : 0 < s.size := by
        rcases Nat.eq_zero_or_pos s.size with h0 | h0
        · have h1 : s.data.toList.length = 0 := by simpa using h0
          rw [Lib.toList_data, List.eq_nil_of_length_eq_zero h1] at hse
          exact absurd rfl hse
        · exact h0
      have h41 : (s.size : Int) ≤ 40 := by omega
      have d40 : decide ((s.size : Int) ≤ 40) = true := decide_eq_true h41
      obtain ⟨r, hr⟩ : ∃ r : ByteArray, r = ⟨(Lib.trimS s.data.toList signs.data.toList).toArray⟩ := ⟨_, rfl⟩
      have ht := fun w => trim_any s signs w (by omega) (by decide) (ascii_of_all (by decide))
      rw [← hr] at ht
      have HT := hide ht
      clear ht hr
      obtain ⟨n, hn⟩ : ∃ n, Lib.indexByte first.data.toList ((s[0]'h0s).toNat : Int).toNat.toUInt8 = n := ⟨_, rfl⟩
      have hx := Tryd.strings_IndexByte first ((s[0]'h0s).toNat : Int)
      rw [hn] at hx
      have HX := hide hx
      clear hx hn
      by_cases hn0 : 0 ≤ n
      · refine ⟨r.toList.isEmpty, fun w => ?_⟩
        have dn : decide (0 ≤ n) = true := decide_eq_true hn0
        go_enter Tryd.func77, Tryd.ntmps77
        go_wp2_with (first
          | (go_at_call 99; refine (HX.out _).mono ?_; rintro e w' ⟨rfl, rfl⟩)
          | (go_at_call 100; refine (HT.out _).mono ?_; rintro e w' ⟨rfl, hb⟩)
          | fail)
        go_ret
        exact ⟨rfl, hb⟩
      · refine ⟨false, fun w => ?_⟩
        have hb0 := Below.refl w.heap.size w
        have dn : decide (0 ≤ n) = false := decide_eq_false hn0
        go_enter Tryd.func77, Tryd.ntmps77
        go_wp2_with (first
          | (go_at_call 99; refine (HX.out _).mono ?_; rintro e w' ⟨rfl, rfl⟩)
          | fail)
        go_ret
        exact ⟨rfl, hb0⟩
    · refine ⟨false, fun w => ?_⟩
      have hb0 := Below.refl w.heap.size w
      have h41 : ¬ (s.size : Int) ≤ 40 := by omega
      have d40 : decide ((s.size : Int) ≤ 40) = false := decide_eq_false h41
      go_enter Tryd.func77, Tryd.ntmps77
      go_wp2_with fail
      go_ret
      exact ⟨rfl, hb0⟩
noncomputable def nmF (s first : ByteArray) : Bool := Classical.choose (named_det s first)
theorem named_any (s first : ByteArray) (w : World) : Calls Tryd.prog 77 #[.string s, .string first] w fun e w' => e = .returned (.bool (nmF s first)) ∧ Below w.heap.size w w' := Classical.choose_spec (named_det s first) w
set_option maxRecDepth 100000 in
set_option maxHeartbeats 4000000 in
theorem Name_det (s : ByteArray) : ∃ b : Bool, ∀ w : World, Calls Tryd.prog 50 #[.string s] w fun e w' => e = .returned (.bool b) ∧ Below w.heap.size w w' := by
  apply Exists.intro
  intro w
  go_enter Tryd.func50, Tryd.ntmps50
  go_wp2_with (first | (go_at_call 77; refine (named_any s _ _).mono ?_; rintro e w' ⟨rfl, hb⟩) | fail)
  go_ret
  exact ⟨rfl, hb⟩
noncomputable def nameF (s : ByteArray) : Bool := Classical.choose (Name_det s)
theorem Name_any (s : ByteArray) (w : World) : Calls Tryd.prog 50 #[.string s] w fun e w' => e = .returned (.bool (nameF s)) ∧ Below w.heap.size w w' := Classical.choose_spec (Name_det s) w
set_option maxRecDepth 100000 in
set_option maxHeartbeats 4000000 in
theorem attrName_det (s : ByteArray) : ∃ b : Bool, ∀ w : World, Calls Tryd.prog 78 #[.string s] w fun e w' => e = .returned (.bool b) ∧ Below w.heap.size w w' := by
  apply Exists.intro
  intro w
  go_enter Tryd.func78, Tryd.ntmps78
  go_wp2_with (first | (go_at_call 77; refine (named_any s _ _).mono ?_; rintro e w' ⟨rfl, hb⟩) | fail)
  go_ret
  exact ⟨rfl, hb⟩
noncomputable def anF (s : ByteArray) : Bool := Classical.choose (attrName_det s)
theorem attrName_any (s : ByteArray) (w : World) : Calls Tryd.prog 78 #[.string s] w fun e w' => e = .returned (.bool (anF s)) ∧ Below w.heap.size w w' := Classical.choose_spec (attrName_det s) w
set_option maxRecDepth 100000 in
set_option maxHeartbeats 4000000 in
theorem findOne_any (a v name : ByteArray) (p : Addr) (w : World) (hp : w.cell? p = some (.string name)) : Calls Tryd.prog 102 #[.agg #[.string a, .string v], .pointer (some p)] w fun e w' => (∃ b : Bool, e = .returned (.bool b) ∧ (b = true ↔ a = name)) ∧ Below w.heap.size w w' := by
  have hlt := cell_lt hp
  have hb := (Below.refl w.heap.size w).alloc (Nat.le_refl _) (.cells #[.string a, .string v] 130)
  have hp2 := (hb.cell (p := p) hlt).trans hp
  go_enter Tryd.func102, Tryd.ntmps102
  go_wp2_with fail
  go_ret
  exact ⟨⟨_, rfl, by
    simp only [beq_iff_eq]
    rw [Lib.toList_data, Lib.toList_data]
    exact ⟨fun h => ByteArray.ext (Array.toList_inj.1 h), fun h => by rw [h]⟩⟩, hb⟩
def FindPost (l : List (ByteArray × ByteArray)) (name : ByteArray) (e : Ending) : Prop := ∃ z, e = .returned (.int .i64 z) ∧ (0 ≤ z ↔ ∃ k, k < l.length ∧ (atAt l k).1 = name)
set_option maxRecDepth 100000 in
set_option maxHeartbeats 4000000 in
theorem idxAttr_any (l : List (ByteArray × ByteArray)) (A : Option Addr) (c : Nat) (name : ByteArray) (p : Addr) (w : World) (hI : AttrIn w w.heap.size A l) (hl : l.length ≤ maxLen) (hp : w.cell? p = some (.string name)) :
    Calls Tryd.prog 101 #[.slice A l.length c, .func (.func 102) #[] #[.pointer (some p)]] w fun e w' => FindPost l name e ∧ Below w.heap.size w w' := by
  have hlt := cell_lt hp
  have HI := hide hI
  have HP := hide hp
  clear hI hp
  unfold maxLen at hl
  go_enter Tryd.func101, Tryd.ntmps101
  have Bi := Below.refl w.heap.size w
  go_wp2_with fail
  go_loopw [5, 8] (fun _ i wr => ∃ k : Nat, k ≤ l.length ∧ i = .int .i64 k ∧ (∀ j, j < k → (atAt l j).1 ≠ name) ∧ Below w.heap.size w wr) (fun _ i _ => l.length - (intOf i).toNat)
  case atStart => exact ⟨0, Nat.zero_le _, rfl, fun j h => absurd h (Nat.not_lt_zero _), Bi⟩
  case round =>
    clear Bi
    obtain ⟨k, hk, rfl, hno, hbel⟩ := hrel
    have HNO := hide hno
    clear hno
    by_cases hlt2 : k < l.length
    · obtain ⟨g, off, rfl, hg, h0, h1, _, _⟩ := HI.out.below hbel k hlt2
      have hpw := (hbel.cell (p := p) hlt).trans HP.out
      have HC := hide (findOne_any (atAt l k).1 (atAt l k).2 name p wr hpw)
      have HB := hide hbel
      clear hbel hpw
      obtain ⟨a, ha⟩ : ∃ a, a = (atAt l k).1 := ⟨_, rfl⟩
      rw [← ha] at HC h0
      have HAK := hide ha
      clear ha
      generalize (atAt l k).2 = v at *
      go_wp2_with (first | (go_at_call 102; refine HC.out.mono ?_; rintro e w9 ⟨⟨b, rfl, hbn⟩, hb9⟩; have HBN := hide hbn; clear hbn; have hb8 := below_then HB.out (Nat.le_refl _) hb9; cases b) | fail)
      · go_roundw
        case rel => exact ⟨k + 1, by omega, by go_num, fun j hj => by
          by_cases e : j = k
          · subst e
            intro e2
            exact absurd (HBN.out.2 (HAK.out.trans e2)) (by decide)
          · exact HNO.out j (by omega), hb8⟩
        case measure => simp only [intOf]; omega
      · go_ret
        exact ⟨⟨_, rfl, fun _ => ⟨k, hlt2, HAK.out.symm.trans (HBN.out.1 (by simp))⟩, fun _ => by omega⟩, hb8⟩
    · obtain rfl : k = l.length := by omega
      go_wp2_with fail
      go_ret
      exact ⟨⟨_, rfl, fun h => absurd h (by decide), fun ⟨j, hj, e⟩ => absurd e (HNO.out j hj)⟩, hbel⟩
set_option maxRecDepth 100000 in
set_option maxHeartbeats 4000000 in
theorem find_any (l : List (ByteArray × ByteArray)) (A : Option Addr) (c : Nat) (name : ByteArray) (w : World) (hI : AttrIn w w.heap.size A l) (hl : l.length ≤ maxLen) :
    Calls Tryd.prog 79 #[.slice A l.length c, .string name] w fun e w' => FindPost l name e ∧ Below w.heap.size w w' := by
  have hb0 := (Below.refl w.heap.size w).alloc (Nat.le_refl _) (.cells #[.string name] 9)
  have HC := hide (idxAttr_any l A c name ⟨w.heap.size, 0, none⟩ (w.alloc (.cells #[.string name] 9)) (fun k hk => by
    obtain ⟨g, off, h1, h2, h3⟩ := hI.below hb0 k hk
    exact ⟨g, off, h1, Nat.lt_of_lt_of_le h2 hb0.size, h3⟩) hl ((Blk.new w 9 #[.string name]).cell 0))
  clear hI
  go_enter Tryd.func79, Tryd.ntmps79
  go_wp2_with (first | (go_at_call 101; refine HC.out.mono ?_; rintro e w9 ⟨⟨z, rfl, hz⟩, hb9⟩; have HZ := hide hz; clear hz) | fail)
  go_ret
  exact ⟨⟨_, rfl, HZ.out⟩, below_then hb0 (Nat.le_refl _) hb9⟩
end Go.Proofs.YtbpkffoooieejaaDoor
/- dom.attrs, dom.bare, dom.one. -/
namespace Go.Proofs.YtbpkffoooieejaaDoor
open Go.ChangeShapes Go.WideShapes Go.ChangeAt Go.RowKit
theorem AttrIn.take {w : World} {B : Nat} {A : Option Addr} {l : List (ByteArray × ByteArray)} (h : AttrIn w B A l) (k : Nat) : AttrIn w B A (l.take k) := fun j hj => by
  rw [List.length_take] at hj
  have e : atAt (l.take k) j = atAt l j := by
    unfold atAt
    rw [List.getD, List.getD, List.getElem?_take, if_pos (by omega)]
  rw [e]
  exact h j (by omega)
theorem AttrIn.up {w : World} {B B' : Nat} {A : Option Addr} {l : List (ByteArray × ByteArray)} (h : AttrIn w B A l) (hB : B ≤ B') : AttrIn w B' A l := fun k hk => by
  obtain ⟨g, off, h1, h2, h3⟩ := h k hk
  exact ⟨g, off, h1, Nat.lt_of_lt_of_le h2 hB, h3⟩
def AOk (l : List (ByteArray × ByteArray)) : Prop := l.length ≤ 12 ∧ ∀ k, k < l.length → anF (atAt l k).1 = true ∧ (atAt l k).2.size ≤ 400 ∧ ¬ ∃ j, j < (l.take k).length ∧ (atAt (l.take k) j).1 = (atAt l k).1
def AttrsPost (l : List (ByteArray × ByteArray)) (e : Ending) : Prop := ∃ z, e = .returned (.int .i64 z) ∧ (z = 0 ↔ AOk l)
theorem attrs_bad {l : List (ByteArray × ByteArray)} {z : Int} (h : ¬ AOk l) (hz : z ≠ 0) : AttrsPost l (.returned (.int .i64 z)) := ⟨z, rfl, fun e => absurd e hz, fun e => absurd e h⟩
set_option maxRecDepth 100000 in
set_option maxHeartbeats 40000000 in
theorem attrs_any (l : List (ByteArray × ByteArray)) (A : Option Addr) (c : Nat) (w : World) (hI : AttrIn w w.heap.size A l) (hl : l.length ≤ c) (hc : c ≤ maxLen) :
    Calls Tryd.prog 51 #[.slice A l.length c] w fun e w' => AttrsPost l e ∧ Below w.heap.size w w' := by
  have HI := hide hI
  clear hI
  unfold maxLen at hc
  have Bi := Below.refl w.heap.size w
  go_enter Tryd.func51, Tryd.ntmps51
  by_cases h12 : 12 < l.length
  · have h13 : (12 : Int) < (l.length : Int) := by omega
    go_wp2_with fail
    go_ret
    exact ⟨attrs_bad (fun h => by have := h.1; omega) (by decide), Bi⟩
  · have h13 : ¬ (12 : Int) < (l.length : Int) := by omega
    go_wp2_with fail
    go_loopw [10] (fun i wr => ∃ k : Nat, k ≤ l.length ∧ i = .int .i64 k ∧ (∀ k', k' < k → anF (atAt l k').1 = true ∧ (atAt l k').2.size ≤ 400 ∧ ¬ ∃ j, j < (l.take k').length ∧ (atAt (l.take k') j).1 = (atAt l k').1) ∧ Below w.heap.size w wr) (fun i _ => l.length - (intOf i).toNat)
    case atStart => exact ⟨0, Nat.zero_le _, rfl, fun k' h => absurd h (Nat.not_lt_zero _), Bi⟩
    case round =>
      clear Bi
      obtain ⟨k, hk, rfl, hok, hbel⟩ := hrel
      have HOK := hide hok
      clear hok
      by_cases hlt2 : k < l.length
      · obtain ⟨g, off, rfl, hg, h0, h1, hs1, hs2⟩ := HI.out.below hbel k hlt2
        obtain ⟨a, ha⟩ : ∃ a, a = (atAt l k).1 := ⟨_, rfl⟩
        obtain ⟨v, hv⟩ : ∃ v, v = (atAt l k).2 := ⟨_, rfl⟩
        rw [← ha] at h0 hs1
        rw [← hv] at h1 hs2
        have HOA := hide (show ∀ (h : AOk l), anF a = true ∧ v.size ≤ 400 ∧ ¬ ∃ j, j < (l.take k).length ∧ (atAt (l.take k) j).1 = a from fun h => by rw [ha, hv]; exact h.2 k hlt2)
        have HOB := hide (show (anF a = true ∧ v.size ≤ 400 ∧ ¬ ∃ j, j < (l.take k).length ∧ (atAt (l.take k) j).1 = a) → (anF (atAt l k).1 = true ∧ (atAt l k).2.size ≤ 400 ∧ ¬ ∃ j, j < (l.take k).length ∧ (atAt (l.take k) j).1 = (atAt l k).1) from fun h => by rw [ha, hv] at h; exact h)
        clear ha hv
        have hbA := hbel.alloc hbel.size (.cells #[.string a, .string v] 130)
        have hlk : (l.take k).length = k := by rw [List.length_take]; omega
        have HL := hide hlk
        clear hlk
        have HX := hide (Blk.new wr 130 #[.string a, .string v])
        have HBA := hide hbA
        have hkc : k ≤ c := by omega
        have HF := hide (show ∀ W, Below w.heap.size w W → Calls Tryd.prog 79 #[.slice (some ⟨g, off, none⟩) k c, .string a] W fun e w' => FindPost (l.take k) a e ∧ Below W.heap.size W w' from fun W hW => by
          have h9 := find_any (l.take k) (some ⟨g, off, none⟩) c a W (((HI.out.take k).below hW).up hW.size) (by rw [HL.out]; unfold maxLen; omega)
          rw [HL.out] at h9
          exact h9)
        clear hbA
        have HAN := hide (fun W => attrName_any a W)
        obtain ⟨b, hbe⟩ : ∃ b, b = anF a := ⟨_, rfl⟩
        rw [← hbe] at HAN HOA HOB
        clear hbe
        go_wp2_with (first
          | (go_at_call 78; refine (HAN.out _).mono ?_; rintro e w9 ⟨rfl, hb9⟩; have HB9 := hide (below_then HBA.out (Nat.le_refl _) hb9); have HX9 := hide (HX.out.below hb9 (by simp)); have x0 := HX9.out.cell 0; have x1 := HX9.out.cell 1; clear hb9)
          | fail)
        · go_ret
          exact ⟨attrs_bad (fun h => by have := (HOA.out h).1; simp_all) (by decide), HB9.out⟩
        · go_ret
          exact ⟨attrs_bad (fun h => by have := (HOA.out h).2.1; omega) (by decide), HB9.out⟩
        · have z0 : w9.cell? ⟨wr.heap.size, 0, none⟩ = some (.string a) := x0
          have HLT := hide (show wr.heap.size < w9.heap.size from cell_lt z0)
          go_region_held3 (fun W => W.cell? ⟨wr.heap.size, 0, none⟩ = some (.string a)) (first | exact z0 | exact z8 | go_keep) (first | (go_at_call 79; refine (HF.out _ HB9.out).mono ?_; rintro e w8 ⟨⟨z, rfl, hfz⟩, hb8⟩; have HFZ := hide hfz; clear hfz; have z8 : w8.cell? ⟨wr.heap.size, 0, none⟩ = some (.string a) := (hb8.cell (p := ⟨wr.heap.size, 0, none⟩) HLT.out).trans z0; have HB8 := hide (below_then HB9.out (Nat.le_refl _) hb8); clear hb8) | (go_at_call 79; refine (HF.out _ (below_drewN HB9.out _)).mono ?_; rintro e w8 ⟨⟨z, rfl, hfz⟩, hb8⟩; have HFZ := hide hfz; clear hfz; have z8 : w8.cell? ⟨wr.heap.size, 0, none⟩ = some (.string a) := (hb8.cell (p := ⟨wr.heap.size, 0, none⟩) HLT.out).trans z0; have HB8 := hide (below_then (below_drewN HB9.out _) (Nat.le_refl _) hb8); clear hb8) | fail)
          by_cases hz : 0 ≤ z
          · have dz : decide (0 ≤ z) = true := decide_eq_true hz
            go_wp2_with fail
            go_ret
            exact ⟨attrs_bad (fun h => (HOA.out h).2.2 (HFZ.out.1 hz)) (by decide), HB8.out⟩
          · have dz : decide (0 ≤ z) = false := decide_eq_false hz
            go_wp2_with fail
            go_roundw
            case rel => exact ⟨k + 1, by omega, by go_num, fun k' hk' => by
              by_cases e : k' = k
              · subst e
                exact HOB.out ⟨by simp_all, by omega, fun h => hz (HFZ.out.2 h)⟩
              · exact HOK.out k' (by omega), HB8.out⟩
            case measure => simp only [intOf]; omega
      · obtain rfl : k = l.length := by omega
        go_wp2_with fail
        go_ret
        exact ⟨⟨0, rfl, fun _ => ⟨by omega, HOK.out⟩, fun _ => rfl⟩, hbel⟩
def ndA (x : Nd) (Aa : Option Addr) (ca : Nat) (Ak : Option Addr) (ck : Nat) : Array Value := #[.int .i64 x.kind, .string x.name, .slice Aa x.attrs.length ca, .string x.text, .int .i64 x.par, .slice Ak x.kids.length ck]
set_option maxRecDepth 100000 in
set_option maxHeartbeats 4000000 in
theorem parent_any (k : Int) (w : World) : Calls Tryd.prog 76 #[.int .i64 k] w fun e w' => e = .returned (.bool (k == 1 || k == 2)) ∧ w' = w := by
  by_cases h1 : k = 1
  · subst h1
    go_enter Tryd.func76, Tryd.ntmps76
    go_wp2_with fail
    go_ret
    exact ⟨rfl, rfl⟩
  · have t1 : (k == 1) = false := by simpa using h1
    go_enter Tryd.func76, Tryd.ntmps76
    go_wp2_with fail
    go_ret
    exact ⟨by rw [t1]; simp, rfl⟩
def bareB (x : Nd) : Bool := (x.kind == 2 || x.kind == 5 || x.name.toList.isEmpty) && (x.kind == 2 || (x.attrs.length : Int) == 0) && ((x.kind == 3 || x.kind == 4) || x.text.toList.isEmpty) && ((x.kind == 1 || x.kind == 2) || (x.kids.length : Int) == 0)
set_option maxRecDepth 100000 in
set_option maxHeartbeats 40000000 in
theorem bare_any (x : Nd) (Aa : Option Addr) (ca : Nat) (Ak : Option Addr) (ck : Nat) (w : World) (ha : x.attrs.length ≤ maxLen) (hk : x.kids.length ≤ maxLen) :
    Calls Tryd.prog 49 #[.agg (ndA x Aa ca Ak ck)] w fun e w' => e = .returned (.bool (bareB x)) ∧ Below w.heap.size w w' := by
  unfold maxLen at ha hk
  obtain ⟨k, nm, at_, tx, pr, kd⟩ := x
  simp only [ndA, bareB] at *
  have hb0 := (Below.refl w.heap.size w).alloc (Nat.le_refl _) (.cells #[.int .i64 k, .string nm, .slice Aa at_.length ca, .string tx, .int .i64 pr, .slice Ak kd.length ck] 58)
  have HB := hide hb0
  have HX := hide (Blk.new w 58 #[.int .i64 k, .string nm, .slice Aa at_.length ca, .string tx, .int .i64 pr, .slice Ak kd.length ck])
  clear hb0
  have fin : ∀ (W : World), Below w.heap.size w W → Blk W w.heap.size 58 #[.int .i64 k, .string nm, .slice Aa at_.length ca, .string tx, .int .i64 pr, .slice Ak kd.length ck] → W.cell? ⟨w.heap.size, 0, none⟩ = some (.int .i64 k) ∧ W.cell? ⟨w.heap.size, 1, none⟩ = some (.string nm) ∧ W.cell? ⟨w.heap.size, 2, none⟩ = some (.slice Aa at_.length ca) ∧ W.cell? ⟨w.heap.size, 3, none⟩ = some (.string tx) ∧ W.cell? ⟨w.heap.size, 5, none⟩ = some (.slice Ak kd.length ck) := fun W _ h => ⟨h.cell 0, h.cell 1, h.cell 2, h.cell 3, h.cell 5⟩
  have HF := hide fin
  clear fin
  go_enter Tryd.func49, Tryd.ntmps49
  by_cases k3 : k = 3
  · subst k3
    go_wp2_with fail
    have H9 := HF.out _ HB.out HX.out
    clear HX HF
    generalize w.alloc (.cells #[.int .i64 3, .string nm, .slice Aa at_.length ca, .string tx, .int .i64 pr, .slice Ak kd.length ck] 58) = W at *
    obtain ⟨x0, x1, x2, x3, x5⟩ := H9
    go_quiet (fail)
    go_wp2_with (first | (go_at_call 76; refine (parent_any _ _).mono ?_; rintro e w' ⟨rfl, rfl⟩) | fail)
    all_goals (go_ret; exact ⟨by simp_all, below_drewN HB.out _⟩)
  · have t3 : (k == 3) = false := by simpa using k3
    go_wp2_with fail
    have H9 := HF.out _ HB.out HX.out
    clear HX HF
    generalize w.alloc (.cells #[.int .i64 k, .string nm, .slice Aa at_.length ca, .string tx, .int .i64 pr, .slice Ak kd.length ck] 58) = W at *
    obtain ⟨x0, x1, x2, x3, x5⟩ := H9
    go_quiet (fail)
    go_wp2_with (first | (go_at_call 76; refine (parent_any _ _).mono ?_; rintro e w' ⟨rfl, rfl⟩) | fail)
    all_goals (go_ret; exact ⟨by simp_all, below_drewN HB.out _⟩)
end Go.Proofs.YtbpkffoooieejaaDoor
/- dom.one. -/
namespace Go.Proofs.YtbpkffoooieejaaDoor
open Go.ChangeShapes Go.WideShapes Go.ChangeAt Go.RowKit
def OneOk (x : Nd) : Prop := 1 ≤ x.kind ∧ x.kind ≤ 5 ∧ bareB x = true ∧ (x.kind = 2 → nameF x.name = true) ∧ AOk x.attrs ∧ x.text.size ≤ 400 ∧ x.name.size ≤ 400
def OnePost (x : Nd) (e : Ending) : Prop := ∃ z, e = .returned (.int .i64 z) ∧ (z = 0 ↔ OneOk x)
/-- What is fit, in letters that the walk leaves alone. -/
def OneL (OK : Prop) (b9 b8 : Bool) (k : Int) (at_ : List (ByteArray × ByteArray)) (tx nm : ByteArray) : Prop := OK ↔ (1 ≤ k ∧ k ≤ 5 ∧ b9 = true ∧ (k = 2 → b8 = true) ∧ AOk at_ ∧ tx.size ≤ 400 ∧ nm.size ≤ 400)
theorem OneL.get {OK : Prop} {b9 b8 : Bool} {k : Int} {at_ : List (ByteArray × ByteArray)} {tx nm : ByteArray} (h : OneL OK b9 b8 k at_ tx nm) (o : OK) : 1 ≤ k ∧ k ≤ 5 ∧ b9 = true ∧ (k = 2 → b8 = true) ∧ AOk at_ ∧ tx.size ≤ 400 ∧ nm.size ≤ 400 := h.1 o
theorem OneL.put {OK : Prop} {b9 b8 : Bool} {k : Int} {at_ : List (ByteArray × ByteArray)} {tx nm : ByteArray} (h : OneL OK b9 b8 k at_ tx nm) (o : 1 ≤ k ∧ k ≤ 5 ∧ b9 = true ∧ (k = 2 → b8 = true) ∧ AOk at_ ∧ tx.size ≤ 400 ∧ nm.size ≤ 400) : OK := h.2 o
def PoL (Po : Ending → Prop) (OK : Prop) : Prop := ∀ z : Int, (z = 0 ↔ OK) → Po (.returned (.int .i64 z))
theorem PoL.good {Po : Ending → Prop} {OK : Prop} (h : PoL Po OK) (o : OK) : Po (.returned (.int .i64 0)) := h 0 ⟨fun _ => o, fun _ => rfl⟩
theorem PoL.bad {Po : Ending → Prop} {OK : Prop} {z : Int} (h : PoL Po OK) (o : ¬ OK) (hz : z ≠ 0) : Po (.returned (.int .i64 z)) := h z ⟨fun e => absurd e hz, fun e => absurd e o⟩
set_option maxRecDepth 100000 in
set_option maxHeartbeats 40000000 in
theorem one_any (x : Nd) (Aa : Option Addr) (ca : Nat) (Ak : Option Addr) (ck : Nat) (w : World) (hI : AttrIn w w.heap.size Aa x.attrs) (hS : NdS x ca ck) :
    Calls Tryd.prog 36 #[.agg (ndA x Aa ca Ak ck)] w fun e w' => OnePost x e ∧ Below w.heap.size w w' := by
  have ha : x.attrs.length ≤ maxLen := Nat.le_trans hS.atts hS.attc
  have hk : x.kids.length ≤ maxLen := Nat.le_trans hS.kids hS.kidc
  have HA := hide (show ∀ W, Below w.heap.size w W → Calls Tryd.prog 51 #[.slice Aa x.attrs.length ca] W fun e w' => AttrsPost x.attrs e ∧ Below W.heap.size W w' from fun W hW => attrs_any x.attrs Aa ca W ((hI.below hW).up hW.size) hS.atts hS.attc)
  have HR := hide (show ∀ W, Calls Tryd.prog 49 #[.agg (ndA x Aa ca Ak ck)] W fun e w' => e = .returned (.bool (bareB x)) ∧ Below W.heap.size W w' from fun W => bare_any x Aa ca Ak ck W ha hk)
  have HM := hide (show ∀ W, Calls Tryd.prog 50 #[.string x.name] W fun e w' => e = .returned (.bool (nameF x.name)) ∧ Below W.heap.size W w' from fun W => Name_any x.name W)
  have HO := hide (show OneL (OneOk x) (bareB x) (nameF x.name) x.kind x.attrs x.text x.name from Iff.rfl)
  have HPO := hide (show PoL (OnePost x) (OneOk x) from fun z h => ⟨z, rfl, h⟩)
  generalize bareB x = b9 at *
  generalize nameF x.name = b8 at *
  generalize OneOk x = OK at *
  generalize OnePost x = Po at *
  have hnm := hS.name
  have htx := hS.text
  clear hI hS
  unfold maxLen at ha hk hnm htx
  obtain ⟨k, nm, at_, tx, pr, kd⟩ := x
  simp only [ndA] at *
  have hb0 := (Below.refl w.heap.size w).alloc (Nat.le_refl _) (.cells #[.int .i64 k, .string nm, .slice Aa at_.length ca, .string tx, .int .i64 pr, .slice Ak kd.length ck] 58)
  have HB := hide hb0
  have HX := hide (Blk.new w 58 #[.int .i64 k, .string nm, .slice Aa at_.length ca, .string tx, .int .i64 pr, .slice Ak kd.length ck])
  clear hb0
  have fin : ∀ (W : World), Blk W w.heap.size 58 #[.int .i64 k, .string nm, .slice Aa at_.length ca, .string tx, .int .i64 pr, .slice Ak kd.length ck] → W.cell? ⟨w.heap.size, 0, none⟩ = some (.int .i64 k) ∧ W.cell? ⟨w.heap.size, 1, none⟩ = some (.string nm) ∧ W.cell? ⟨w.heap.size, 2, none⟩ = some (.slice Aa at_.length ca) ∧ W.cell? ⟨w.heap.size, 3, none⟩ = some (.string tx) ∧ W.cell? ⟨w.heap.size, 4, none⟩ = some (.int .i64 pr) ∧ W.cell? ⟨w.heap.size, 5, none⟩ = some (.slice Ak kd.length ck) := fun W h => ⟨h.cell 0, h.cell 1, h.cell 2, h.cell 3, h.cell 4, h.cell 5⟩
  have HF := hide fin
  clear fin
  go_enter Tryd.func36, Tryd.ntmps36
  go_upto_region 1 with fail
  have H9 := HF.out _ HX.out
  have HL0 := hide (show w.heap.size < (w.alloc (.cells #[.int .i64 k, .string nm, .slice Aa at_.length ca, .string tx, .int .i64 pr, .slice Ak kd.length ck] 58)).heap.size from HX.out.lt)
  generalize w.alloc (.cells #[.int .i64 k, .string nm, .slice Aa at_.length ca, .string tx, .int .i64 pr, .slice Ak kd.length ck] 58) = W at *
  obtain ⟨x0, x1, x2, x3, x4, x5⟩ := H9
  by_cases k1 : k < 1
  · go_wp2_with fail
    go_ret
    exact ⟨HPO.out.bad (fun h => by have h1 := (HO.out.get h).1; omega) (by decide), HB.out⟩
  · have k1' : ¬ k < 1 := k1
    by_cases k5 : 5 < k
    · go_wp2_with fail
      go_ret
      exact ⟨HPO.out.bad (fun h => by have h1 := (HO.out.get h).2.1; omega) (by decide), HB.out⟩
    · cases b9
      · go_wp2_with (first | (go_at_call 49; refine (HR.out _).mono ?_; rintro e w9 ⟨rfl, hb9⟩; have HB9 := hide (below_then HB.out (Nat.le_refl _) hb9); have HX9 := hide (HX.out.below hb9 HL0.out); obtain ⟨y0, y1, y2, y3, y4, y5⟩ := HF.out _ HX9.out; clear hb9) | fail)
        go_ret
        exact ⟨HPO.out.bad (fun h => absurd (HO.out.get h).2.2.1 (by decide)) (by decide), HB9.out⟩
      · by_cases k2 : k = 2
        · subst k2
          cases b8
          · go_wp2_with (first | (go_at_call 49; refine (HR.out _).mono ?_; rintro e w9 ⟨rfl, hb9⟩; have HB9 := hide (below_then HB.out (Nat.le_refl _) hb9); have HX9 := hide (HX.out.below hb9 HL0.out); obtain ⟨y0, y1, y2, y3, y4, y5⟩ := HF.out _ HX9.out; clear hb9) | (go_at_call 50; refine (HM.out _).mono ?_; rintro e w8 ⟨rfl, hb8⟩; have HB8 := hide (below_then HB9.out (Nat.le_refl _) hb8); have HX8 := hide (HX9.out.below hb8 HX9.out.lt); obtain ⟨z0, z1, z2, z3, z4, z5⟩ := HF.out _ HX8.out; clear hb8) | fail)
            go_ret
            exact ⟨HPO.out.bad (fun h => absurd ((HO.out.get h).2.2.2.1 rfl) (by decide)) (by decide), HB8.out⟩
          · go_wp2_with (first | (go_at_call 49; refine (HR.out _).mono ?_; rintro e w9 ⟨rfl, hb9⟩; have HB9 := hide (below_then HB.out (Nat.le_refl _) hb9); have HX9 := hide (HX.out.below hb9 HL0.out); obtain ⟨y0, y1, y2, y3, y4, y5⟩ := HF.out _ HX9.out; clear hb9) | (go_at_call 50; refine (HM.out _).mono ?_; rintro e w8 ⟨rfl, hb8⟩; have HB8 := hide (below_then HB9.out (Nat.le_refl _) hb8); have HX8 := hide (HX9.out.below hb8 HX9.out.lt); obtain ⟨z0, z1, z2, z3, z4, z5⟩ := HF.out _ HX8.out; clear hb8) | (go_at_call 51; refine (HA.out _ HB8.out).mono ?_; rintro e w7 ⟨⟨r7, rfl, hr7⟩, hb7⟩; have HR7 := hide hr7; clear hr7; have HB7 := hide (below_then HB8.out (Nat.le_refl _) hb7); have HX7 := hide (HX8.out.below hb7 HX8.out.lt); obtain ⟨u0, u1, u2, u3, u4, u5⟩ := HF.out _ HX7.out; clear hb7) | fail)
            all_goals (go_ret; first | exact ⟨HPO.out.good (HO.out.put ⟨by omega, by omega, rfl, fun _ => rfl, HR7.out.1 (by simp_all; done), by omega, by omega⟩), HB7.out⟩ | exact ⟨HPO.out.bad (fun h => by have h1 := (HO.out.get h).2.2.2.2.2; omega) (by decide), HB7.out⟩ | exact ⟨HPO.out.bad (fun h => by have h1 := HR7.out.2 (HO.out.get h).2.2.2.2.1; simp_all; done) (by intro h; simp_all; done), HB7.out⟩)
        · have t2 : (k == 2) = false := by simpa using k2
          go_wp2_with (first | (go_at_call 49; refine (HR.out _).mono ?_; rintro e w9 ⟨rfl, hb9⟩; have HB9 := hide (below_then HB.out (Nat.le_refl _) hb9); have HX9 := hide (HX.out.below hb9 HL0.out); obtain ⟨y0, y1, y2, y3, y4, y5⟩ := HF.out _ HX9.out; clear hb9) | (go_at_call 51; refine (HA.out _ HB9.out).mono ?_; rintro e w7 ⟨⟨r7, rfl, hr7⟩, hb7⟩; have HR7 := hide hr7; clear hr7; have HB7 := hide (below_then HB9.out (Nat.le_refl _) hb7); have HX7 := hide (HX9.out.below hb7 HX9.out.lt); obtain ⟨u0, u1, u2, u3, u4, u5⟩ := HF.out _ HX7.out; clear hb7) | fail)
          all_goals (go_ret; first | exact ⟨HPO.out.good (HO.out.put ⟨by omega, by omega, rfl, fun e => absurd e k2, HR7.out.1 (by simp_all; done), by omega, by omega⟩), HB7.out⟩ | exact ⟨HPO.out.bad (fun h => by have h1 := (HO.out.get h).2.2.2.2.2; omega) (by decide), HB7.out⟩ | exact ⟨HPO.out.bad (fun h => by have h1 := HR7.out.2 (HO.out.get h).2.2.2.2.1; simp_all; done) (by intro h; simp_all; done), HB7.out⟩)
end Go.Proofs.YtbpkffoooieejaaDoor
/- Fields, nil checks, loads of one cell in a region that draws, each taken without the walk's simplifier. No program in sight. -/
namespace Go.Proofs.YtbpkffoooieejaaDoor
open Go.RowKit Go.Instr
section
variable {P : Program} {ops : Array Oper} {S : World → Prop} {op : Oper} {a : Act}
def fieldOff (P : Program) (s : TypeId) (k : Nat) : Option Nat :=
  match P.underlying s with
  | some (.struct fs) => match fs[k]? with
    | some f => match P.info? f.type with
      | some i => if i.size = 0 then none else some f.offset
      | none => none
    | none => none
  | _ => none
theorem yieldsIf_faddr (hw : Region.wanted op (yielded ops a.tmps) = true) (s : TypeId) (x : Operand) (k : Nat) (ho : op.op = .fieldAddr s x k) (g o off : Nat) (hx : a.eval x = .pointer (some ⟨g, o, none⟩)) (hf : fieldOff P s k = some off) :
    YieldsIf P ops S op (.pointer (some ⟨g, o + off, none⟩)) a :=
  .inl ⟨hw, fun w _ => by
    unfold fieldOff at hf
    cases hu : P.underlying s with
    | none => rw [hu] at hf; cases hf
    | some d =>
      rw [hu] at hf
      cases d with
      | struct fs =>
        simp only at hf
        cases hk : fs[k]? with
        | none => rw [hk] at hf; cases hf
        | some f =>
          rw [hk] at hf
          simp only at hf
          cases hi : P.info? f.type with
          | none => rw [hi] at hf; cases hf
          | some i =>
            rw [hi] at hf
            simp only at hf
            by_cases hz : i.size = 0
            · rw [if_pos hz] at hf; cases hf
            · rw [if_neg hz] at hf
              injection hf with hf
              have hadd : (⟨g, o, none⟩ : Addr).add f.offset = ⟨g, o + off, none⟩ := by rw [← hf]; unfold Addr.add; split <;> simp_all
              unfold execOp
              simp [ho, hx, fieldAt, Sem.run_bind, run_underlying hu, hk, sureAddr, fieldPlace, sizeOf, typeInfo, hi, hz, hadd]
      | _ => cases hf⟩
theorem yieldsIf_nil (hw : Region.wanted op (yielded ops a.tmps) = true) (x : Operand) (ho : op.op = .nilCheck x) (ad : Addr) (hx : a.eval x = .pointer (some ad)) : YieldsIf P ops S op (.pointer (some ad)) a :=
  .inl ⟨hw, fun w _ => by
    unfold execOp
    simp [ho, hx]⟩
def oneCellT (P : Program) (ty : TypeId) : Bool := match P.underlying ty with | some (.struct _) => false | some (.array _ _) => false | some _ => true | none => false
theorem yieldsIf_load1 (hw : Region.wanted op (yielded ops a.tmps) = true) (ty : TypeId) (x : Operand) (ho : op.op = .load ty x) (g o : Nat) (v : Value) (hx : a.eval x = .pointer (some ⟨g, o, none⟩)) (ht : oneCellT P ty = true) (hS : ∀ w, S w → w.cell? ⟨g, o, none⟩ = some v) : YieldsIf P ops S op v a :=
  .inl ⟨hw, fun w hw' => by
    have hc := hS w hw'
    unfold oneCellT at ht
    cases hu : P.underlying ty with
    | none => rw [hu] at ht; cases ht
    | some d =>
      have hagg : (isAgg ty).run P w = .ok false w := by
        unfold isAgg
        rw [Sem.run_bind, run_underlying hu w]
        rw [hu] at ht
        cases d <;> simp_all
      unfold execOp
      simp [ho, hx, loadAt, sureAddr, Sem.run_bind, loadVar, hagg, hc]⟩
/-- A call of a Go function by its number enters it. -/
theorem run_enter {f : FuncId} {fn : Func} (hf : P.funcs[f]? = some fn) (hn : (fn.name == "runtime.NumGoroutine") = false) (hb : fn.body.isNone = false) (xs : Array Operand) (ts : Array TypeId) (ho : op.op = .call { callee := .value (.func f), args := xs, argTypes := ts }) (args : Array Value) (hx : xs.map a.eval = args) (w : World) :
    (execOp a.eval op).run P w = .ok (.enter f args) w := by
  unfold execOp
  have hd : Deferred.ofValue (Value.func (Fn.func f) #[] #[]) args = pure { target := .fn (.func f) #[], args := #[] ++ args } := rfl
  simp only [ho, resolve, hx]
  rw [show a.eval (Operand.func f) = Value.func (Fn.func f) #[] #[] from rfl, hd]
  simp [invoke, callFunc, hf]
  rw [if_neg (by intro e; rw [e] at hn; simp at hn), if_neg (by intro e; rw [e] at hb; cases hb)]
end
end Go.Proofs.YtbpkffoooieejaaDoor
/- Steps of a region that draws, where one operation alone may come up next: a store into a known block, an append of one record, a record laid into a slice. No program in sight. -/
namespace Go.Proofs.YtbpkffoooieejaaDoor
open Go.RowKit Go.Instr
section
variable {P : Program} {ops : Array Oper} {Q : Exit → Act → World → Prop} {md : Region.Mode} {S : World → Prop} {k : Nat} {fuel : Nat} {l : Array Bool} {a : Act} {w : World} {j : Nat} {o : Oper}
theorem oneH (hr : Region.ready md ops l = [j]) (ho : ops[j]? = some o) (hgd : o.guard = none)
    (h : ∀ K' : Act → World → Prop, (∀ a w, S w → wpAnyH P md ops Q S fuel (l.setIfInBounds j true) a w → K' a w) → Oper.wp P o a w K' Q) : wpAnyH P md ops Q S (fuel + 1) l a w :=
  wpAnyH_ready (rs := [j]) hr (by simp) (AllReadyH.cons ho (fun K' hK => by
    rw [if_pos (by simp [Region.wanted, hgd])]
    exact h K' fun a w hS hW => hK.out a w hS fun _ => hW) AllReadyH.nil)
theorem oneK' (hr : Region.ready md ops l = [j]) (ho : ops[j]? = some o) (hgd : o.guard = none)
    (h : ∀ K' : Act → World → Prop, (∀ a w, S w → wpAnyK P md ops Q S k fuel (l.setIfInBounds j true) a w → K' a w) → Oper.wp P o a w K' Q) : wpAnyK P md ops Q S k (fuel + 1) l a w :=
  oneK hr ho fun K' hK => by
    rw [if_pos (by simp [Region.wanted, hgd])]
    exact h K' hK.out
theorem put_none (a : Act) (v : Value) : a.put none v = a := rfl
theorem storeH (hr : Region.ready md ops l = [j]) (ho : ops[j]? = some o) (hgd : o.guard = none) (hd : o.dst = none) (ty x y) (hop : o.op = .store ty x y) (g i : Nat) (t : TypeId) (cs : Array Value) (v : Value) (hx : a.eval x = .pointer (some ⟨g, i, none⟩)) (hy : a.eval y = v)
    (hb : Blk w g t cs) (hs : i < cs.size) (hi : (P.info? ty).map (·.size) = some 1) (hvc : v.cells = #[v]) (hv : v.oneCell' = true)
    (h : ∀ w', Blk w' g t (cs.setIfInBounds i v) → w.grownBy w' (some g) → S w' ∧ wpAnyH P md ops Q S fuel (l.setIfInBounds j true) a w') : wpAnyH P md ops Q S (fuel + 1) l a w :=
  oneH hr ho hgd fun K' hK => wp_store_fld ty x y hop g i t cs v hx hy hb hs hi hvc hv fun w' h1 h2 => by
    rw [hd, put_none]
    exact hK _ _ (h w' h1 h2).1 (h w' h1 h2).2
theorem storeK (hr : Region.ready md ops l = [j]) (ho : ops[j]? = some o) (hgd : o.guard = none) (hd : o.dst = none) (ty x y) (hop : o.op = .store ty x y) (g i : Nat) (t : TypeId) (cs : Array Value) (v : Value) (hx : a.eval x = .pointer (some ⟨g, i, none⟩)) (hy : a.eval y = v)
    (hb : Blk w g t cs) (hs : i < cs.size) (hi : (P.info? ty).map (·.size) = some 1) (hvc : v.cells = #[v]) (hv : v.oneCell' = true)
    (h : ∀ w', Blk w' g t (cs.setIfInBounds i v) → w.grownBy w' (some g) → S w' ∧ wpAnyK P md ops Q S k fuel (l.setIfInBounds j true) a w') : wpAnyK P md ops Q S k (fuel + 1) l a w :=
  oneK' hr ho hgd fun K' hK => wp_store_fld ty x y hop g i t cs v hx hy hb hs hi hvc hv fun w' h1 h2 => by
    rw [hd, put_none]
    exact hK _ _ (h w' h1 h2).1 (h w' h1 h2).2
theorem wp_app1 {K : Act → World → Prop} (s x : Operand) (t : TypeId)
    (ho : o.op = .call { callee := .builtin .append, args := #[s, x], argTypes := #[t, t] }) (base : Nat) (e : TypeId) (z : Value) (size bytes : Nat) (ht : P.underlying t = some (.slice e))
    (hinfo : (P.info? e).map (fun i => (i.zero, i.size, i.bytes)) = some (some z, size, bytes)) (hzs : z.cells.size = size) (hsz : 0 < size)
    (v : Value) (n : Nat) (xs : List Value) (hs : a.eval s = v) (hown : w.ownsRow base e size v n xs) (g c : Nat) (cs : Array Value) (hb : Blk w g e cs) (hcs : cs.size = size) (hx : a.eval x = .slice (some ⟨g, 0, none⟩) 1 c)
    (h1 : cs.toList.all (·.oneCell') = true) (hn : n ≤ 1000000) (hby : bytes ≤ 1000) (hbase : base ≤ w.heap.size)
    (h : ∀ v' w', w'.ownsRow base e size v' (n + 1) (xs ++ cs.toList) → w.grownBy w' v.ownBlock → (v'.ownBlock = v.ownBlock ∨ v'.ownBlock = some w.heap.size) → K (a.put o.dst v') w') : Oper.wp P o a w K Q := by
  obtain ⟨i, hi, hz, hsize, hbytes⟩ := info_parts hinfo
  refine wp_append_any w s x t ho base e i z size bytes ht hi hz hsize hbytes hzs hsz v n xs hs hown (g + 1) (some ⟨g, 0, none⟩) 1 c cs.toList hx (reads_blk hb size hcs) (List.all_eq_true.1 h1) (by simp only [maxLen]; omega) ?_ hbase fun v' w' h2 h3 h4 => h v' w' h2 h3 h4
  have := Nat.mul_le_mul (show n + 1 ≤ 1000001 by omega) hby
  omega
theorem app1H (hr : Region.ready md ops l = [j]) (ho : ops[j]? = some o) (hgd : o.guard = none) (d : Tmp) (hd : o.dst = some d) (s x : Operand) (t : TypeId)
    (hop : o.op = .call { callee := .builtin .append, args := #[s, x], argTypes := #[t, t] }) (base : Nat) (e : TypeId) (z : Value) (size bytes : Nat) (ht : P.underlying t = some (.slice e))
    (hinfo : (P.info? e).map (fun i => (i.zero, i.size, i.bytes)) = some (some z, size, bytes)) (hzs : z.cells.size = size) (hsz : 0 < size)
    (v : Value) (n : Nat) (xs : List Value) (hs : a.eval s = v) (hown : w.ownsRow base e size v n xs) (g c : Nat) (cs : Array Value) (hb : Blk w g e cs) (hcs : cs.size = size) (hx : a.eval x = .slice (some ⟨g, 0, none⟩) 1 c)
    (h1 : cs.toList.all (·.oneCell') = true) (hn : n ≤ 1000000) (hby : bytes ≤ 1000) (hbase : base ≤ w.heap.size)
    (h : ∀ v' w', w'.ownsRow base e size v' (n + 1) (xs ++ cs.toList) → w.grownBy w' v.ownBlock → (v'.ownBlock = v.ownBlock ∨ v'.ownBlock = some w.heap.size) → S w' ∧ wpAnyH P md ops Q S fuel (l.setIfInBounds j true) (a.put (some d) v') w') : wpAnyH P md ops Q S (fuel + 1) l a w :=
  oneH hr ho hgd fun K' hK => wp_app1 s x t hop base e z size bytes ht hinfo hzs hsz v n xs hs hown g c cs hb hcs hx h1 hn hby hbase fun v' w' h2 h3 h4 => by
    rw [hd]
    exact hK _ _ (h v' w' h2 h3 h4).1 (h v' w' h2 h3 h4).2
theorem app1K (hr : Region.ready md ops l = [j]) (ho : ops[j]? = some o) (hgd : o.guard = none) (d : Tmp) (hd : o.dst = some d) (s x : Operand) (t : TypeId)
    (hop : o.op = .call { callee := .builtin .append, args := #[s, x], argTypes := #[t, t] }) (base : Nat) (e : TypeId) (z : Value) (size bytes : Nat) (ht : P.underlying t = some (.slice e))
    (hinfo : (P.info? e).map (fun i => (i.zero, i.size, i.bytes)) = some (some z, size, bytes)) (hzs : z.cells.size = size) (hsz : 0 < size)
    (v : Value) (n : Nat) (xs : List Value) (hs : a.eval s = v) (hown : w.ownsRow base e size v n xs) (g c : Nat) (cs : Array Value) (hb : Blk w g e cs) (hcs : cs.size = size) (hx : a.eval x = .slice (some ⟨g, 0, none⟩) 1 c)
    (h1 : cs.toList.all (·.oneCell') = true) (hn : n ≤ 1000000) (hby : bytes ≤ 1000) (hbase : base ≤ w.heap.size)
    (h : ∀ v' w', w'.ownsRow base e size v' (n + 1) (xs ++ cs.toList) → w.grownBy w' v.ownBlock → (v'.ownBlock = v.ownBlock ∨ v'.ownBlock = some w.heap.size) → S w' ∧ wpAnyK P md ops Q S k fuel (l.setIfInBounds j true) (a.put (some d) v') w') : wpAnyK P md ops Q S k (fuel + 1) l a w :=
  oneK' hr ho hgd fun K' hK => wp_app1 s x t hop base e z size bytes ht hinfo hzs hsz v n xs hs hown g c cs hb hcs hx h1 hn hby hbase fun v' w' h2 h3 h4 => by
    rw [hd]
    exact hK _ _ (h v' w' h2 h3 h4).1 (h v' w' h2 h3 h4).2
/-- What a slice literal lays into its block. -/
def sliceCells (P : Program) (t : TypeId) (len : Nat) (parts : List (Nat × Value)) : Option (Array Value × TypeId) :=
  match P.underlying t with
  | some (.slice e) => match P.info? e with
    | some i => if len * i.size > 2 ^ 24 then none else if len * i.size = 0 then none else match i.zero with
      | some z => (fill (fun j => some (j * i.size, i.size)) ((Array.range (len * i.size)).map (z.cells[· % z.cells.size]!)) parts).map (·, e)
      | none => none
    | none => none
  | _ => none
theorem run_buildSlice {t : TypeId} {len : Nat} {parts : Array (Nat × Value)} {cs : Array Value} {e : TypeId} (h : sliceCells P t len parts.toList = some (cs, e)) (w : World) :
    (buildSlice t len parts).run P w = .ok (.slice (some ⟨w.heap.size, 0, none⟩) len len) (w.alloc (.cells cs e)) := by
  unfold sliceCells at h
  cases hu : P.underlying t with
  | none => rw [hu] at h; cases h
  | some d =>
    rw [hu] at h
    cases d with
    | slice e' =>
      simp only at h
      cases hi : P.info? e' with
      | none => rw [hi] at h; cases h
      | some i =>
        rw [hi] at h
        simp only at h
        by_cases h1 : len * i.size > 2 ^ 24
        · rw [if_pos h1] at h; cases h
        · rw [if_neg h1] at h
          by_cases h2 : len * i.size = 0
          · rw [if_pos h2] at h; cases h
          · rw [if_neg h2] at h
            cases hz : i.zero with
            | none => rw [hz] at h; cases h
            | some z =>
              rw [hz] at h
              simp only at h
              cases hf : fill (fun j => some (j * i.size, i.size)) ((Array.range (len * i.size)).map (z.cells[· % z.cells.size]!)) parts.toList with
              | none => rw [hf] at h; cases h
              | some c =>
                rw [hf] at h
                simp only [Option.map_some, Option.some.injEq, Prod.mk.injEq] at h
                obtain ⟨rfl, rfl⟩ := h
                simp [buildSlice, Sem.run_bind, run_underlying hu, sizeOf, typeInfo, hi, h1, h2, zeroValue, hz, hf, newRow]
    | _ => cases h
theorem wp_lay {K : Act → World → Prop} (t : TypeId) (len : Nat) (parts : Array (Nat × Operand)) (hop : o.op = .buildSlice t len parts) (vals : List (Nat × Value)) (hv : parts.toList.map (fun p => (p.1, a.eval p.2)) = vals) (cs : Array Value) (e : TypeId) (hc : sliceCells P t len vals = some (cs, e))
    (h : K (a.put o.dst (.slice (some ⟨w.heap.size, 0, none⟩) len len)) (w.alloc (.cells cs e))) : Oper.wp P o a w K Q := by
  have hc' : sliceCells P t len (parts.map fun (i, x) => (i, a.eval x)).toList = some (cs, e) := by rw [Array.toList_map]; exact (congrArg (sliceCells P t len) hv).trans hc
  unfold Oper.wp execOp
  simp only [hop, Sem.run_bind, run_buildSlice hc' w, Result.andThen_ok]
  exact h
theorem layH (hr : Region.ready md ops l = [j]) (ho : ops[j]? = some o) (hgd : o.guard = none) (d : Tmp) (hd : o.dst = some d) (t : TypeId) (len : Nat) (parts : Array (Nat × Operand)) (hop : o.op = .buildSlice t len parts) (vals : List (Nat × Value)) (hv : parts.toList.map (fun p => (p.1, a.eval p.2)) = vals) (cs : Array Value) (e : TypeId) (hc : sliceCells P t len vals = some (cs, e))
    (hS : S (w.alloc (.cells cs e))) (h : wpAnyH P md ops Q S fuel (l.setIfInBounds j true) (a.put (some d) (.slice (some ⟨w.heap.size, 0, none⟩) len len)) (w.alloc (.cells cs e))) : wpAnyH P md ops Q S (fuel + 1) l a w :=
  oneH hr ho hgd fun K' hK => wp_lay t len parts hop vals hv cs e hc (by rw [hd]; exact hK _ _ hS h)
theorem layK (hr : Region.ready md ops l = [j]) (ho : ops[j]? = some o) (hgd : o.guard = none) (d : Tmp) (hd : o.dst = some d) (t : TypeId) (len : Nat) (parts : Array (Nat × Operand)) (hop : o.op = .buildSlice t len parts) (vals : List (Nat × Value)) (hv : parts.toList.map (fun p => (p.1, a.eval p.2)) = vals) (cs : Array Value) (e : TypeId) (hc : sliceCells P t len vals = some (cs, e))
    (hS : S (w.alloc (.cells cs e))) (h : wpAnyK P md ops Q S k fuel (l.setIfInBounds j true) (a.put (some d) (.slice (some ⟨w.heap.size, 0, none⟩) len len)) (w.alloc (.cells cs e))) : wpAnyK P md ops Q S k (fuel + 1) l a w :=
  oneK' hr ho hgd fun K' hK => wp_lay t len parts hop vals hv cs e hc (by rw [hd]; exact hK _ _ hS h)
end
end Go.Proofs.YtbpkffoooieejaaDoor
/- A call where one operation alone may come up next. No program in sight. -/
namespace Go.Proofs.YtbpkffoooieejaaDoor
open Go.RowKit Go.Instr
section
variable {P : Program} {ops : Array Oper} {Q : Exit → Act → World → Prop} {md : Region.Mode} {S : World → Prop} {k : Nat} {fuel : Nat} {l : Array Bool} {a : Act} {w : World} {j : Nat} {o : Oper}
theorem wp_callR {K : Act → World → Prop} {f : FuncId} {args : Array Value} (he : (execOp a.eval o).run P w = .ok (.enter f args) w) {R : Ending → World → Prop} (hc : Calls P f args w R)
    (h : ∀ e w', R e w' → ∃ v, e = .returned v ∧ K (a.put o.dst v) w') : Oper.wp P o a w K Q := by
  unfold Oper.wp
  rw [he, Oper.upon_enter]
  refine hc.mono fun e w' hR => ?_
  obtain ⟨v, rfl, hK⟩ := h e w' hR
  exact hK
theorem callH (hr : Region.ready md ops l = [j]) (ho : ops[j]? = some o) (hgd : o.guard = none) (d : Option Tmp) (hd : o.dst = d) (f : FuncId) (args : Array Value) (he : (execOp a.eval o).run P w = .ok (.enter f args) w) {R : Ending → World → Prop} (hc : Calls P f args w R)
    (h : ∀ e w', R e w' → ∃ v, e = .returned v ∧ S w' ∧ wpAnyH P md ops Q S fuel (l.setIfInBounds j true) (a.put d v) w') : wpAnyH P md ops Q S (fuel + 1) l a w :=
  oneH hr ho hgd fun K' hK => wp_callR he hc fun e w' hR => by
    obtain ⟨v, rfl, h1, h2⟩ := h e w' hR
    rw [hd]
    exact ⟨v, rfl, hK _ _ h1 h2⟩
theorem callK' (hr : Region.ready md ops l = [j]) (ho : ops[j]? = some o) (hgd : o.guard = none) (d : Option Tmp) (hd : o.dst = d) (f : FuncId) (args : Array Value) (he : (execOp a.eval o).run P w = .ok (.enter f args) w) {R : Ending → World → Prop} (hc : Calls P f args w R)
    (h : ∀ e w', R e w' → ∃ v, e = .returned v ∧ S w' ∧ wpAnyK P md ops Q S k fuel (l.setIfInBounds j true) (a.put d v) w') : wpAnyK P md ops Q S k (fuel + 1) l a w :=
  oneK' hr ho hgd fun K' hK => wp_callR he hc fun e w' hR => by
    obtain ⟨v, rfl, h1, h2⟩ := h e w' hR
    rw [hd]
    exact ⟨v, rfl, hK _ _ h1 h2⟩
/-- An operation whose guard does not hold is passed by. -/
theorem skipH {i : Nat} {oi : Oper} (d : Option Tmp) (hi : ops[i]? = some oi) (hd : oi.dst = d)
    (hs : Region.noSelect ops = true) (hf : Region.free md ops l i = true) (hr : (Region.ready md ops l).contains i = true)
    (hQ : ∀ c a w, Q (.panic c) (a.put oi.dst undef) w → Q (.panic c) a w) (hw : Region.wanted oi (yielded ops a.tmps) = false) (hS : S w)
    (h : wpAnyH P md ops Q S fuel (l.setIfInBounds i true) (a.put d undef) w) : wpAnyH P md ops Q S (fuel + 1) l a w :=
  take_at d hi hd hs hf hr hQ (Or.inr ⟨hw, rfl⟩) hS h
theorem wp_region_HL {id : Nat} (n : Nat) (l : Array Bool) (hn : ops.size = n) (hl : Array.replicate n false = l) (hm : P.follows .mixedOrders = true) (hS : S w.drew)
    (h : S w.drew → wpAnyH P .any ops Q S n l a w.drew) : (Code.region id ops true).wp P Q a w := by
  subst hn hl
  exact wp_region_held_drew hm hS h
def elemSize (P : Program) (ty : TypeId) : Option Nat := match P.underlying ty with | some (.slice e) => (P.info? e).map (·.size) | _ => none
theorem yieldsIf_iaddr {op : Oper} (hw : Region.wanted op (yielded ops a.tmps) = true) (ty : TypeId) (x ix : Operand) (ho : op.op = .indexAddr ty x ix) (g off n c : Nat) (hx : a.eval x = .slice (some ⟨g, off, none⟩) n c) (kd : IntKind) (e : Nat) (he : a.eval ix = .int kd (e : Int)) (hlt : e < n)
    (s : Nat) (hs : elemSize P ty = some s) (r : Nat) (hr : off + e * s = r) : YieldsIf P ops S op (.pointer (some ⟨g, r, none⟩)) a :=
  .inl ⟨hw, fun w _ => by
    unfold elemSize at hs
    cases hu : P.underlying ty with
    | none => rw [hu] at hs; cases hs
    | some d =>
      rw [hu] at hs
      cases d with
      | slice el =>
        simp only at hs
        cases hi : P.info? el with
        | none => rw [hi] at hs; cases hs
        | some i =>
          rw [hi] at hs
          injection hs with hs
          have hadd : (⟨g, off, none⟩ : Addr).add (e * i.size) = ⟨g, r, none⟩ := by rw [← hr, ← hs]; unfold Addr.add; split <;> simp_all
          have hlt' : (e : Int) < (n : Int) := by omega
          unfold execOp
          simp [ho, hx, he, indexAt, asIntOf, Sem.run_bind, run_underlying hu, sizeOf, typeInfo, hi, hlt, hadd]
      | _ => cases hs⟩
theorem yieldsIf_loadMid {op : Oper} (hw : Region.wanted op (yielded ops a.tmps) = true) (ty : TypeId) (x : Operand) (ho : op.op = .load ty x) (g off : Nat) (hx : a.eval x = .pointer (some ⟨g, off, none⟩)) (cs : List Value) (d : TypeDesc)
    (hS : ∀ w, S w → ∀ j u, cs[j]? = some u → w.cell? ⟨g, off + j, none⟩ = some u) (hu : P.underlying ty = some d) (hd : (match d with | .struct _ | .array _ _ => true | _ => false) = true) (hi : (P.info? ty).map (·.size) = some cs.length) : YieldsIf P ops S op (.agg cs.toArray) a :=
  .inl ⟨hw, fun w hw' => by
    have hl : (loadCells ⟨g, off, none⟩ cs.length).run P w = .ok cs.toArray w :=
      run_loadCells_list (P := P) w ⟨g, off, none⟩ cs (fun j v hv => by
        have hadd : (⟨g, off, none⟩ : Addr).add j = ⟨g, off + j, none⟩ := by unfold Addr.add; split <;> simp_all
        rw [hadd]
        exact hS w hw' j v hv)
    cases hq : P.info? ty with
    | none => simp [hq] at hi
    | some i =>
      have hs : i.size = cs.length := by simpa [hq] using hi
      have hagg : (isAgg ty).run P w = .ok true w := by
        unfold isAgg
        rw [Sem.run_bind, run_underlying hu w]
        cases d <;> simp_all
      unfold execOp
      simp [ho, hx, loadAt, sureAddr, loadVar, Sem.run_bind, hagg, sizeOf, typeInfo, hq, hs, hl]⟩
theorem yieldsIf_strcut {op : Oper} (hw : Region.wanted op (yielded ops a.tmps) = true) (ty : TypeId) (x h : Operand) (ho : op.op = .slice ty x none (some h) none) (s : ByteArray) (hx : a.eval x = .string s) (n : Nat) (i : Int) (hh : a.eval h = .int .i64 i) (hi : i = (n : Int)) (hn : n ≤ s.size) (hu : P.underlying ty = some .string) :
    YieldsIf P ops S op (.string (s.extract 0 n)) a :=
  .inl ⟨hw, fun w _ => by
    subst hi
    unfold execOp
    simp [ho, hx, hh, sliceAt, slice, sliceBounds, Go.Instr.sliceBound, asIntOf, Sem.run_bind, run_underlying hu, hn]⟩
theorem five_cells {w : World} {g off : Nat} {v0 v1 v2 v3 v4 : Value} (h0 : w.cell? ⟨g, off, none⟩ = some v0) (h1 : w.cell? ⟨g, off + 1, none⟩ = some v1) (h2 : w.cell? ⟨g, off + 2, none⟩ = some v2) (h3 : w.cell? ⟨g, off + 3, none⟩ = some v3) (h4 : w.cell? ⟨g, off + 4, none⟩ = some v4) :
    ∀ j u, [v0, v1, v2, v3, v4][j]? = some u → w.cell? ⟨g, off + j, none⟩ = some u := by
  intro j u hu
  rcases (show j = 0 ∨ j = 1 ∨ j = 2 ∨ j = 3 ∨ j = 4 ∨ 5 ≤ j by omega) with rfl | rfl | rfl | rfl | rfl | h5
  · rw [← hu]; exact h0
  · rw [← hu]; exact h1
  · rw [← hu]; exact h2
  · rw [← hu]; exact h3
  · rw [← hu]; exact h4
  · rw [List.getElem?_eq_none (by simpa using h5)] at hu; cases hu
end
end Go.Proofs.YtbpkffoooieejaaDoor
/- A struct or an array out of the midst of a block; a record laid into a slice of one: plain lists. No program in sight. -/
namespace Go.Proofs.YtbpkffoooieejaaDoor
open Go.RowKit Go.Instr
section
variable {P : Program} {ops : Array Oper} {rest : List Oper} {o : Oper} {a : Act} {w : World} {Q : Exit → Act → World → Prop}
theorem wpList_load_mid (hgd : o.guard = none) (ty : TypeId) (x : Operand) (ho : o.op = .load ty x) (g off : Nat) (hx : a.eval x = .pointer (some ⟨g, off, none⟩)) (cs : Array Value) (d : TypeDesc)
    (hc : ∀ j u, cs[j]? = some u → w.cell? ⟨g, off + j, none⟩ = some u) (hu : P.underlying ty = some d) (hd : (match d with | .struct _ | .array _ _ => true | _ => false) = true) (hi : (P.info? ty).map (·.size) = some cs.size)
    (h : wpList P ops Q rest (a.put o.dst (.agg cs)) w) : wpList P ops Q (o :: rest) a w :=
  wpList_plain hgd fun K hK => by
    have hl : (loadCells ⟨g, off, none⟩ cs.size).run P w = .ok cs w := by
      have h1 := run_loadCells_list (P := P) w ⟨g, off, none⟩ cs.toList (fun j v hv => by
        have hadd : (⟨g, off, none⟩ : Addr).add j = ⟨g, off + j, none⟩ := by unfold Addr.add; split <;> simp_all
        rw [hadd]
        exact hc j v (by rw [← Array.getElem?_toList]; exact hv))
      simpa using h1
    have he : (execOp a.eval o).run P w = .ok (.value (.agg cs)) w := by
      cases hq : P.info? ty with
      | none => simp [hq] at hi
      | some i =>
        have hs : i.size = cs.size := by simpa [hq] using hi
        have hagg : (isAgg ty).run P w = .ok true w := by
          unfold isAgg
          rw [Sem.run_bind, run_underlying hu w]
          cases d <;> simp_all
        unfold execOp
        simp [ho, hx, loadAt, sureAddr, loadVar, Sem.run_bind, hagg, sizeOf, typeInfo, hq, hs, hl]
    unfold Oper.wp
    rw [he]
    exact hK _ _ h
theorem wpList_layN (n : Nat) (hn : w.heap.size = n) (hgd : o.guard = none) (d : Tmp) (hd : o.dst = some d) (t : TypeId) (len : Nat) (parts : Array (Nat × Operand)) (hop : o.op = .buildSlice t len parts) (vals : List (Nat × Value)) (hv : parts.toList.map (fun p => (p.1, a.eval p.2)) = vals) (cs : Array Value) (e : TypeId) (hc : sliceCells P t len vals = some (cs, e))
    (h : wpList P ops Q rest (a.put (some d) (.slice (some ⟨n, 0, none⟩) len len)) (w.alloc (.cells cs e))) : wpList P ops Q (o :: rest) a w :=
  wpList_plain hgd fun K hK => wp_lay t len parts hop vals hv cs e hc (by rw [hd, hn]; exact hK _ _ h)
theorem wpList_store_rec (hgd : o.guard = none) (ty : TypeId) (x y : Operand) (ho : o.op = .store ty x y)
    (g i : Nat) (t : TypeId) (cs : List Value) (vs : Array Value) (hx : a.eval x = .pointer (some ⟨g, i, none⟩)) (hy : a.eval y = .agg vs) (hb : Blk w g t cs.toArray) (hs : i + vs.size ≤ cs.length)
    (hi : (P.info? ty).map (·.size) = some vs.size) (h1 : vs.toList.all (·.oneCell') = true)
    (h : ∀ w', Blk w' g t (cs.take i ++ vs.toList ++ cs.drop (i + vs.toList.length)).toArray → w.grownBy w' (some g) → wpList P ops Q rest (a.put o.dst undef) w') : wpList P ops Q (o :: rest) a w :=
  wpList_plain hgd fun _ hK => wp_store_rec ty x y ho g i t cs vs hx hy hb hs hi h1 fun w' h2 h3 => hK _ _ (h w' h2 h3)
end
end Go.Proofs.YtbpkffoooieejaaDoor
/- What a maker of boxes looks at, in memory and plainly. No program in sight. -/
namespace Go.Proofs.YtbpkffoooieejaaDoor
open Go.RowKit
/-- Styles that came in. -/
def SyIn (w : World) (B : Nat) (A : Option Addr) (n : Nat) (R : Nat → Nat → Int) : Prop := ∀ k, k < n → ∃ g off, A = some ⟨g, off, none⟩ ∧ g < B ∧ ∀ j, j < 118 → w.cell? ⟨g, off + k * 118 + j, none⟩ = some (.int .i64 (R k j))
theorem SyIn.below {w w' : World} {B n : Nat} {A : Option Addr} {R : Nat → Nat → Int} (h : SyIn w B A n R) (hb : Below B w w') : SyIn w' B A n R := fun k hk => by
  obtain ⟨g, off, h1, h2, h3⟩ := h k hk
  exact ⟨g, off, h1, h2, fun j hj => (hb.cell (p := ⟨g, off + k * 118 + j, none⟩) h2).trans (h3 j hj)⟩
theorem SyIn.up {w : World} {B B' n : Nat} {A : Option Addr} {R : Nat → Nat → Int} (h : SyIn w B A n R) (hb : B ≤ B') : SyIn w B' A n R := fun k hk => by
  obtain ⟨g, off, h1, h2, h3⟩ := h k hk
  exact ⟨g, off, h1, Nat.lt_of_lt_of_le h2 hb, h3⟩
/-- A style of a row, cell by cell. -/
theorem SyIn.mid {w : World} {B n : Nat} {A : Option Addr} {R : Nat → Nat → Int} (h : SyIn w B A n R) {k : Nat} (hk : k < n) : ∃ g off, A = some ⟨g, off, none⟩ ∧ g < B ∧ ∀ j u, (styA (R k))[j]? = some u → w.cell? ⟨g, off + k * 118 + j, none⟩ = some u := by
  obtain ⟨g, off, h1, h2, h3⟩ := h k hk
  refine ⟨g, off, h1, h2, fun j u hu => ?_⟩
  have hj : j < 118 := by
    have := (Array.getElem?_eq_some_iff.1 hu).1
    rwa [styA_size] at this
  rw [styA_at _ hj] at hu
  injection hu with hu
  subst hu
  exact h3 j hj
theorem AttrIn.more {w : World} {B B' : Nat} {A : Option Addr} {l : List (ByteArray × ByteArray)} (h : AttrIn w B A l) (hb : B ≤ B') : AttrIn w B' A l := fun k hk => by
  obtain ⟨g, off, h1, h2, h3⟩ := h k hk
  exact ⟨g, off, h1, Nat.lt_of_lt_of_le h2 hb, h3⟩
theorem NdIn.more {w : World} {B B' : Nat} {A : Option Addr} {l : List Nd} (h : NdIn w B A l) (hb : B ≤ B') : NdIn w B' A l := fun k hk => by
  obtain ⟨g, off, Aa, ca, Ak, ck, h1, h2, h3, h4⟩ := h k hk
  exact ⟨g, off, Aa, ca, Ak, ck, h1, Nat.lt_of_lt_of_le h2 hb, ⟨h3.c0, h3.c1, h3.c2, h3.c3, h3.c4, h3.c5, h3.atts.more hb, h3.kids.more hb⟩, h4⟩
/-- What a maker holds. -/
structure MkIn (w : World) (B : Nat) (An As : Option Addr) (l : List Nd) (R : Nat → Nat → Int) : Prop where
  nds : NdIn w B An l
  sty : SyIn w B As l.length R
theorem MkIn.below {w w' : World} {B : Nat} {An As : Option Addr} {l : List Nd} {R : Nat → Nat → Int} (h : MkIn w B An As l R) (hb : Below B w w') : MkIn w' B An As l R := ⟨h.nds.below hb, h.sty.below hb⟩
theorem MkIn.up {w : World} {B B' : Nat} {An As : Option Addr} {l : List Nd} {R : Nat → Nat → Int} (h : MkIn w B An As l R) (hb : B ≤ B') : MkIn w B' An As l R := ⟨h.nds.more hb, h.sty.up hb⟩
/-- Later on, all that is there by then told. -/
theorem MkIn.later {w w' : World} {B : Nat} {An As : Option Addr} {l : List Nd} {R : Nat → Nat → Int} (h : MkIn w B An As l R) (hb : Below B w w') (hB : B ≤ w.heap.size) : MkIn w' w'.heap.size An As l R := (h.below hb).up (Nat.le_trans hB hb.size)
/-- A letter turned. -/
def turnB (mode : Int) (b : UInt8) : UInt8 := if mode = 1 then (if 97 ≤ b ∧ b ≤ 122 then b - 32 else b) else if mode = 2 then (if 65 ≤ b ∧ b ≤ 90 then b + 32 else b) else b
def turnF (s : ByteArray) (mode : Int) : ByteArray := if mode = 1 ∨ mode = 2 then ⟨s.data.map (turnB mode)⟩ else s
theorem turn_size (s : ByteArray) (mode : Int) : (turnF s mode).size = s.size := by
  unfold turnF
  split
  · show (s.data.map _).size = s.data.size
    simp
  · rfl
def brS : ByteArray := ⟨#[98, 114]⟩
/-- The page that they are. -/
def pgOf (l : List Nd) (R : Nat → Nat → Int) : Pg where
  nk n := (ndAt l n).kind
  kd n := (ndAt l n).kids.map Int.toNat
  dp n := R n 1
  ou n := outF (R n)
  br n := decide ((ndAt l n).name = brS)
  tx n := turnF (ndAt l n).text (R n 87)
  kp n := R n 83 == 1 || R n 83 == 3
theorem sty_zero_run (w : World) : (zeroValue 50).run Tryd.prog w = .ok (.agg (styA fun _ => 0)) w := by kernel_rfl
theorem sty_ones (R : Nat → Int) : (styA R).all (·.oneCell') = true := by
  rw [← Array.all_toList]
  simp [styA, Value.oneCell']
theorem sty_same (R T : Nat → Int) : (styA R).size = (styA T).size := by rw [styA_size, styA_size]
/-- A style out of a row is loaded by an operation that a guard let through. -/
theorem wp_load_styM {o : Oper} {a : Act} {w : World} {K : Act → World → Prop} {Q : Exit → Act → World → Prop} (x : Operand) (ho : o.op = .load 50 x) (g off : Nat) (hx : a.eval x = .pointer (some ⟨g, off, none⟩)) (R : Nat → Int)
    (hc : ∀ j u, (styA R)[j]? = some u → w.cell? ⟨g, off + j, none⟩ = some u) (h : K (a.put o.dst (.agg (styA R))) w) : o.wp Tryd.prog a w K Q := by
  refine wp_load_mid 50 x ho g off hx (styA R).toList _ (fun j v hv => hc j v (by rw [← Array.getElem?_toList]; exact hv)) sty_u rfl (by rw [sty_i R]; simp) ?_
  rw [Array.toArray_toList]
  exact h
end Go.Proofs.YtbpkffoooieejaaDoor
/- boxes.maker.is. -/
namespace Go.Proofs.YtbpkffoooieejaaDoor
open Go.ChangeShapes Go.WideShapes Go.ChangeAt Go.RowKit
set_option maxRecDepth 100000 in
set_option maxHeartbeats 40000000 in
theorem is_any (l : List Nd) (R : Nat → Nat → Int) (An As : Option Addr) (cn cs n : Nat) (w : World) (hM : MkIn w w.heap.size An As l R) (hn : n < l.length) :
    Calls Tryd.prog 45 #[.agg #[.slice An l.length cn, .slice As l.length cs], .int .i64 n] w fun e w' => e = .returned (.int .i64 (isF (pgOf l R) n)) ∧ Below w.heap.size w w' := by
  obtain ⟨g, off, rfl, hg, hld⟩ := hM.sty.mid hn
  have hb0 := (Below.refl w.heap.size w).alloc (Nat.le_refl _) (.cells #[.slice An l.length cn, .slice (some ⟨g, off, none⟩) l.length cs] 75)
  have HLD := hide (show ∀ j u, (styA (R n))[j]? = some u → (w.alloc (.cells #[.slice An l.length cn, .slice (some ⟨g, off, none⟩) l.length cs] 75)).cell? ⟨g, off + n * 118 + j, none⟩ = some u from fun j u hu => (hb0.cell (p := ⟨g, off + n * 118 + j, none⟩) hg).trans (hld j u hu))
  have hnl : ¬ l.length ≤ n := by omega
  have hzv := sty_zero_run
  obtain ⟨wm, hwm⟩ : ∃ wm, wm = w.alloc (.cells #[.slice An l.length cn, .slice (some ⟨g, off, none⟩) l.length cs] 75) := ⟨_, rfl⟩
  have HZ := hide (Blk.new (w.alloc (.cells #[.slice An l.length cn, .slice (some ⟨g, off, none⟩) l.length cs] 75)) 50 (styA fun _ => 0))
  rw [← hwm] at HZ HLD hb0
  have hwz : wm.heap.size = w.heap.size + 1 := by rw [hwm]; simp
  have HBE := hide (fun (Z : World) (hz : (wm.alloc (.cells (styA fun _ => 0) 50)).grownBy Z (some (w.heap.size + 1))) => below_grown (hb0.alloc hb0.size (.cells (styA fun _ => 0) 50)) (Nat.le_refl _) hz (by omega))
  have HZ1 := hide (sty_same (R n) fun _ => 0)
  have HZ2 := hide (sty_i (R n))
  have HZ3 := hide (sty_ones (R n))
  rw [hwz] at HZ
  subst hwm
  have HOU := hide (Out_any (R n))
  have HIS := hide (show isF (pgOf l R) n = if 0 < outF (R n) ∧ (R n 1 = 1 ∨ R n 1 = 3 ∨ R n 1 = 6 ∨ R n 1 = 7) then 2 else R n 1 from rfl)
  generalize isF (pgOf l R) n = z at *
  have HW := hide hwz
  clear hwz hld
  generalize outF (R n) = o at *
  have FIN := hide (show ∀ (wz : World) (r : Int), Below w.heap.size w wz → r = z → (Ending.returned (.int .i64 r) = Ending.returned (.int .i64 z) ∧ Below w.heap.size w wz) from fun wz r h e => ⟨by rw [e], h⟩)
  obtain ⟨d, hd⟩ : ∃ d, d = R n 1 := ⟨_, rfl⟩
  rw [← hd] at HIS
  have HD := hide hd
  clear hd
  by_cases ho : 0 < o
  · have hoo : decide (0 < o) = true := decide_eq_true ho
    by_cases hds : d = 1 ∨ d = 3 ∨ d = 6 ∨ d = 7
    · have HZ9 := hide (show (2 : Int) = z by rw [HIS.out, if_pos ⟨ho, hds⟩])
      go_enter Tryd.func45, Tryd.ntmps45
      go_wp2_with (first
        | (refine wpList_load_mid rfl 50 (.tmp 10) rfl g (off + n * 118) rfl (styA (R n)) _ HLD.out sty_u rfl (sty_i _) ?_)
        | (refine wpList_store_blk rfl 50 (.tmp 5) (.tmp 11) rfl (w.heap.size + 1) 50 _ (styA (R n)) rfl rfl HZ.out HZ1.out HZ2.out HZ3.out ?_; intro w2 hB2 hG2; have q1 := sty_cell hB2 (j := 1) (by omega); rw [← HD.out] at q1; have HB2 := hide hB2; have HG2 := hide (HBE.out w2 hG2); have HG3 := hide ((HBE.out w2 hG2).alloc (HBE.out w2 hG2).size (.cells (styA (R n)) 50)); clear hB2 hG2)
        | (refine wpList_load_sty rfl (.tmp 5) rfl (w.heap.size + 1) rfl (R n) HB2.out ?_)
        | (go_at_call 11; refine (HOU.out _).mono ?_; rintro e w3 ⟨rfl, rfl⟩)
        | fail)
      all_goals go_ret
      all_goals first
        | exact FIN.out _ _ HG3.out HZ9.out
        | (exfalso; revert hds; simp_all; done)
    · have HZ9 := hide (show d = z by rw [HIS.out, if_neg (fun h => hds h.2)])
      have e1 : (d == 1) = false := by simpa using fun h => hds (.inl h)
      have e3 : (d == 3) = false := by simpa using fun h => hds (.inr (.inl h))
      have e6 : (d == 6) = false := by simpa using fun h => hds (.inr (.inr (.inl h)))
      have e7 : (d == 7) = false := by simpa using fun h => hds (.inr (.inr (.inr h)))
      go_enter Tryd.func45, Tryd.ntmps45
      go_wp2_with (first
        | (refine wpList_load_mid rfl 50 (.tmp 10) rfl g (off + n * 118) rfl (styA (R n)) _ HLD.out sty_u rfl (sty_i _) ?_)
        | (refine wpList_store_blk rfl 50 (.tmp 5) (.tmp 11) rfl (w.heap.size + 1) 50 _ (styA (R n)) rfl rfl HZ.out HZ1.out HZ2.out HZ3.out ?_; intro w2 hB2 hG2; have q1 := sty_cell hB2 (j := 1) (by omega); rw [← HD.out] at q1; have HB2 := hide hB2; have HG2 := hide (HBE.out w2 hG2); have HG3 := hide ((HBE.out w2 hG2).alloc (HBE.out w2 hG2).size (.cells (styA (R n)) 50)); clear hB2 hG2)
        | (refine wpList_load_sty rfl (.tmp 5) rfl (w.heap.size + 1) rfl (R n) HB2.out ?_)
        | (go_at_call 11; refine (HOU.out _).mono ?_; rintro e w3 ⟨rfl, rfl⟩)
        | fail)
      go_ret
      exact FIN.out _ _ HG3.out HZ9.out
  · have hoo : decide (0 < o) = false := decide_eq_false ho
    have HZ9 := hide (show d = z by rw [HIS.out, if_neg (fun h => ho h.1)])
    go_enter Tryd.func45, Tryd.ntmps45
    go_wp2_with (first
        | (refine wpList_load_mid rfl 50 (.tmp 10) rfl g (off + n * 118) rfl (styA (R n)) _ HLD.out sty_u rfl (sty_i _) ?_)
        | (refine wpList_store_blk rfl 50 (.tmp 5) (.tmp 11) rfl (w.heap.size + 1) 50 _ (styA (R n)) rfl rfl HZ.out HZ1.out HZ2.out HZ3.out ?_; intro w2 hB2 hG2; have q1 := sty_cell hB2 (j := 1) (by omega); rw [← HD.out] at q1; have HB2 := hide hB2; have HG2 := hide (HBE.out w2 hG2); have HG3 := hide ((HBE.out w2 hG2).alloc (HBE.out w2 hG2).size (.cells (styA (R n)) 50)); clear hB2 hG2)
        | (refine wpList_load_sty rfl (.tmp 5) rfl (w.heap.size + 1) rfl (R n) HB2.out ?_)
        | (go_at_call 11; refine (HOU.out _).mono ?_; rintro e w3 ⟨rfl, rfl⟩)
        | fail)
    go_ret
    exact FIN.out _ _ HG3.out HZ9.out
end Go.Proofs.YtbpkffoooieejaaDoor
/- boxes.isBlock, boxes.maker.blocky, and the closures that ask of one tree. -/
namespace Go.Proofs.YtbpkffoooieejaaDoor
open Go.ChangeShapes Go.WideShapes Go.ChangeAt Go.RowKit
set_option maxRecDepth 100000 in
set_option maxHeartbeats 40000000 in
theorem isBlock_any (k : Int) (w : World) : Calls Tryd.prog 57 #[.int .i64 k] w fun e w' => e = .returned (.bool (isBlk k)) ∧ w' = w := by
  by_cases h1 : k = 1
  · subst h1
    go_enter Tryd.func57, Tryd.ntmps57
    go_wp2_with fail
    go_ret
    exact ⟨rfl, rfl⟩
  · have t1 : (k == 1) = false := by simpa using h1
    by_cases h2 : k = 2
    · subst h2
      go_enter Tryd.func57, Tryd.ntmps57
      go_wp2_with fail
      go_ret
      exact ⟨rfl, rfl⟩
    · have t2 : (k == 2) = false := by simpa using h2
      by_cases h6 : k = 6
      · subst h6
        go_enter Tryd.func57, Tryd.ntmps57
        go_wp2_with fail
        go_ret
        exact ⟨rfl, rfl⟩
      · have t6 : (k == 6) = false := by simpa using h6
        go_enter Tryd.func57, Tryd.ntmps57
        go_wp2_with fail
        go_ret
        exact ⟨by unfold isBlk; rw [t1, t2, t6]; simp, rfl⟩
def trA (k n : Int) (x : ByteArray) (A : Option Addr) (m c : Nat) : Array Value := #[.int .i64 k, .int .i64 n, .int .i64 0, .slice none 0 0, .string x, .slice A m c]
def blkB (R : Nat → Nat → Int) (k nd o : Int) : Bool := isBlk k && (decide (nd < 0) || decide (outF (R nd.toNat) < o))
set_option maxRecDepth 100000 in
set_option maxHeartbeats 40000000 in
theorem blocky_any (l : List Nd) (R : Nat → Nat → Int) (An As : Option Addr) (cn cs : Nat) (k nd : Int) (x : ByteArray) (A : Option Addr) (m c : Nat) (o : Int) (w : World) (hM : MkIn w w.heap.size An As l R) (hnd : nd < (l.length : Int)) :
    Calls Tryd.prog 41 #[.agg #[.slice An l.length cn, .slice As l.length cs], .agg #[.int .i64 k, .int .i64 nd, .int .i64 0, .slice none 0 0, .string x, .slice A m c], .int .i64 o] w fun e w' => e = .returned (.bool (blkB R k nd o)) ∧ Below w.heap.size w w' := by
  have HM := hide hM
  clear hM
  have hb1 := (Below.refl w.heap.size w).alloc (Nat.le_refl _) (.cells #[.slice An l.length cn, .slice As l.length cs] 75)
  have hb2 := hb1.alloc hb1.size (.cells #[.int .i64 k, .int .i64 nd, .int .i64 0, .slice none 0 0, .string x, .slice A m c] 79)
  have HB2 := hide hb2
  clear hb1 hb2
  have HIB := hide (fun w' => isBlock_any k w')
  have HF := hide (show blkB R k nd o = (isBlk k && (decide (nd < 0) || decide (outF (R nd.toNat) < o))) from rfl)
  generalize blkB R k nd o = z at *
  generalize isBlk k = bk at *
  cases bk
  · have HZ := hide (show false = z by rw [HF.out]; rfl)
    go_enter Tryd.func41, Tryd.ntmps41
    go_wp2_with (first | (go_at_call 57; refine (HIB.out _).mono ?_; rintro e w9 ⟨rfl, rfl⟩) | fail)
    go_ret
    exact ⟨by rw [← HZ.out]; rfl, HB2.out⟩
  · by_cases hn : nd < 0
    · have dn : decide (nd < 0) = true := decide_eq_true hn
      have HZ := hide (show true = z by rw [HF.out, dn]; rfl)
      go_enter Tryd.func41, Tryd.ntmps41
      go_wp2_with (first | (go_at_call 57; refine (HIB.out _).mono ?_; rintro e w9 ⟨rfl, rfl⟩) | fail)
      go_ret
      exact ⟨by rw [← HZ.out]; rfl, HB2.out⟩
    · have dn : decide (nd < 0) = false := decide_eq_false hn
      obtain ⟨n, rfl⟩ : ∃ n : Nat, nd = (n : Int) := ⟨nd.toNat, by omega⟩
      have hnl : n < l.length := by omega
      have hnl2 : ¬ l.length ≤ n := by omega
      rw [Int.toNat_natCast, dn] at HF
      obtain ⟨g, off, rfl, hg, hld⟩ := (HM.out.below HB2.out).sty.mid hnl
      have HLD := hide hld
      have HO := hide (fun w' => Out_any (R n) w')
      clear hld
      generalize outF (R n) = u at *
      have HB3 := hide (HB2.out.alloc HB2.out.size (.cells (styA (R n)) 50))
      have HZ := hide (show decide (u < o) = z by rw [HF.out]; rfl)
      go_enter Tryd.func41, Tryd.ntmps41
      go_wp2_with (first
        | (go_at_call 57; refine (HIB.out _).mono ?_; rintro e w9 ⟨rfl, rfl⟩)
        | fail)
      refine wp_load_styM (.tmp 22) rfl g (off + n * 118) rfl (R n) HLD.out ?_
      go_wp2_with (first
        | (go_at_call 11; refine (HO.out _).mono ?_; rintro e w9 ⟨rfl, rfl⟩)
        | fail)
      go_ret
      exact ⟨by rw [← HZ.out]; rfl, HB3.out⟩
end Go.Proofs.YtbpkffoooieejaaDoor
/- The closures that ask of one tree. -/
namespace Go.Proofs.YtbpkffoooieejaaDoor
open Go.ChangeShapes Go.WideShapes Go.ChangeAt Go.RowKit
set_option maxRecDepth 100000 in
set_option maxHeartbeats 40000000 in
theorem ask40_any (l : List Nd) (R : Nat → Nat → Int) (An As : Option Addr) (cn cs mb : Nat) (k nd : Int) (x : ByteArray) (A : Option Addr) (m c : Nat) (w : World) (hM : MkIn w w.heap.size An As l R) (hD : Blk w mb 75 #[.slice An l.length cn, .slice As l.length cs]) (hnd : nd < (l.length : Int)) :
    Calls Tryd.prog 40 #[.agg #[.int .i64 k, .int .i64 nd, .int .i64 0, .slice none 0 0, .string x, .slice A m c], .pointer (some ⟨mb, 0, none⟩)] w fun e w' => e = .returned (.bool (blkB R k nd 1)) ∧ Below w.heap.size w w' := by
  have HB := hide ((Below.refl w.heap.size w).alloc (Nat.le_refl _) (.cells #[.int .i64 k, .int .i64 nd, .int .i64 0, .slice none 0 0, .string x, .slice A m c] 79))
  have HA := hide (blocky_any l R An As cn cs k nd x A m c 1 (w.alloc (.cells #[.int .i64 k, .int .i64 nd, .int .i64 0, .slice none 0 0, .string x, .slice A m c] 79)) (hM.later HB.out (Nat.le_refl _)) hnd)
  have hDA := hD.alloc (.cells #[.int .i64 k, .int .i64 nd, .int .i64 0, .slice none 0 0, .string x, .slice A m c] 79)
  have m0 := hDA.cell 0
  have m1 := hDA.cell 1
  simp only [List.getElem?_toArray, List.getElem?_cons_zero, List.getElem?_cons_succ] at m0 m1
  generalize blkB R k nd 1 = z at *
  clear hM hD hDA
  go_enter Tryd.func40, Tryd.ntmps40
  go_wp2_with (first | (go_at_call 41; refine HA.out.mono ?_; rintro e w9 ⟨rfl, hb9⟩) | fail)
  go_ret
  exact ⟨rfl, HB.out.trans (hb9.mono (bsz HB.out (Nat.le_refl _)))⟩
set_option maxRecDepth 100000 in
set_option maxHeartbeats 40000000 in
theorem ask63_any (l : List Nd) (R : Nat → Nat → Int) (An As : Option Addr) (cn cs mb : Nat) (k nd : Int) (x : ByteArray) (A : Option Addr) (m c : Nat) (w : World) (hM : MkIn w w.heap.size An As l R) (hD : Blk w mb 75 #[.slice An l.length cn, .slice As l.length cs]) (hnd : nd < (l.length : Int)) :
    Calls Tryd.prog 63 #[.agg #[.int .i64 k, .int .i64 nd, .int .i64 0, .slice none 0 0, .string x, .slice A m c], .pointer (some ⟨mb, 0, none⟩)] w fun e w' => e = .returned (.bool (blkB R k nd 1)) ∧ Below w.heap.size w w' := by
  have HB := hide ((Below.refl w.heap.size w).alloc (Nat.le_refl _) (.cells #[.int .i64 k, .int .i64 nd, .int .i64 0, .slice none 0 0, .string x, .slice A m c] 79))
  have HA := hide (blocky_any l R An As cn cs k nd x A m c 1 (w.alloc (.cells #[.int .i64 k, .int .i64 nd, .int .i64 0, .slice none 0 0, .string x, .slice A m c] 79)) (hM.later HB.out (Nat.le_refl _)) hnd)
  have hDA := hD.alloc (.cells #[.int .i64 k, .int .i64 nd, .int .i64 0, .slice none 0 0, .string x, .slice A m c] 79)
  have m0 := hDA.cell 0
  have m1 := hDA.cell 1
  simp only [List.getElem?_toArray, List.getElem?_cons_zero, List.getElem?_cons_succ] at m0 m1
  generalize blkB R k nd 1 = z at *
  clear hM hD hDA
  go_enter Tryd.func63, Tryd.ntmps63
  go_wp2_with (first | (go_at_call 41; refine HA.out.mono ?_; rintro e w9 ⟨rfl, hb9⟩) | fail)
  go_ret
  exact ⟨rfl, HB.out.trans (hb9.mono (bsz HB.out (Nat.le_refl _)))⟩
/-- Stands it alone in a flexible box? -/
def flexB (R : Nat → Nat → Int) (k nd : Int) : Bool := blkB R k nd 2 || (decide (0 ≤ nd) && k != 4 && outF (R nd.toNat) == 2)
set_option maxRecDepth 100000 in
set_option maxHeartbeats 40000000 in
theorem ask64_any (l : List Nd) (R : Nat → Nat → Int) (An As : Option Addr) (cn cs mb : Nat) (k nd : Int) (x : ByteArray) (A : Option Addr) (m c : Nat) (w : World) (hM : MkIn w w.heap.size An As l R) (hD : Blk w mb 75 #[.slice An l.length cn, .slice As l.length cs]) (hnd : nd < (l.length : Int)) :
    Calls Tryd.prog 64 #[.agg #[.int .i64 k, .int .i64 nd, .int .i64 0, .slice none 0 0, .string x, .slice A m c], .pointer (some ⟨mb, 0, none⟩)] w fun e w' => e = .returned (.bool (flexB R k nd)) ∧ Below w.heap.size w w' := by
  have HB := hide ((Below.refl w.heap.size w).alloc (Nat.le_refl _) (.cells #[.int .i64 k, .int .i64 nd, .int .i64 0, .slice none 0 0, .string x, .slice A m c] 79))
  have HT := hide (Blk.new w 79 #[.int .i64 k, .int .i64 nd, .int .i64 0, .slice none 0 0, .string x, .slice A m c])
  have HA := hide (blocky_any l R An As cn cs k nd x A m c 2 (w.alloc (.cells #[.int .i64 k, .int .i64 nd, .int .i64 0, .slice none 0 0, .string x, .slice A m c] 79)) (hM.later HB.out (Nat.le_refl _)) hnd)
  have HDA := hide (hD.alloc (.cells #[.int .i64 k, .int .i64 nd, .int .i64 0, .slice none 0 0, .string x, .slice A m c] 79))
  have m0 := HDA.out.cell 0
  have m1 := HDA.out.cell 1
  simp only [List.getElem?_toArray, List.getElem?_cons_zero, List.getElem?_cons_succ] at m0 m1
  have HM := hide (fun (w' : World) (h : Below w.heap.size w w') => hM.sty.below h)
  have HF := hide (show flexB R k nd = (blkB R k nd 2 || (decide (0 ≤ nd) && k != 4 && outF (R nd.toNat) == 2)) from rfl)
  generalize flexB R k nd = z at *
  generalize blkB R k nd 2 = b at *
  clear hM hD
  cases b
  · by_cases hn : 0 ≤ nd
    · have dn : decide (0 ≤ nd) = true := decide_eq_true hn
      by_cases hk4 : k = 4
      · subst hk4
        have HZ := hide (show false = z by rw [HF.out, dn]; rfl)
        go_enter Tryd.func64, Tryd.ntmps64
        go_wp2_with (first | (go_at_call 41; refine HA.out.mono ?_; rintro e w9 ⟨rfl, hb9⟩; have t0 := (HT.out.below hb9 HT.out.lt).cell 0; have t1 := (HT.out.below hb9 HT.out.lt).cell 1; simp only [List.getElem?_toArray, List.getElem?_cons_zero, List.getElem?_cons_succ] at t0 t1) | fail)
        go_ret
        exact ⟨by rw [← HZ.out]; rfl, HB.out.trans (hb9.mono (bsz HB.out (Nat.le_refl _)))⟩
      · have t4 : (k == 4) = false := by simpa using hk4
        have t5 : (k != 4) = true := by simpa using hk4
        obtain ⟨n, rfl⟩ : ∃ n : Nat, nd = (n : Int) := ⟨nd.toNat, by omega⟩
        have hnl : n < l.length := by omega
        have hnl2 : ¬ l.length ≤ n := by omega
        rw [Int.toNat_natCast, dn] at HF
        obtain ⟨g, off, hAs, hg, _⟩ := (HM.out _ HB.out).mid hnl
        subst hAs
        have HLD := hide (fun (w' : World) (h : Below w.heap.size w w') => (((HM.out _ h).mid hnl) : ∃ g1 off1, some (⟨g, off, none⟩ : Addr) = some ⟨g1, off1, none⟩ ∧ g1 < w.heap.size ∧ ∀ j u, (styA (R n))[j]? = some u → w'.cell? ⟨g1, off1 + n * 118 + j, none⟩ = some u))
        have HO := hide (fun w' => Out_any (R n) w')
        have HKK := hide (show (k != 4) = true by simpa using hk4)
        generalize outF (R n) = u at *
        have HZ := hide (show (u == 2) = z by rw [HF.out, HKK.out]; simp)
        go_enter Tryd.func64, Tryd.ntmps64
        go_wp2_with (first | (go_at_call 41; refine HA.out.mono ?_; rintro e w9 ⟨rfl, hb9⟩; have HB9 := hide (HB.out.trans (hb9.mono (bsz HB.out (Nat.le_refl _)))); have HD9 := hide (HDA.out.below hb9 HDA.out.lt); have HT9 := hide (HT.out.below hb9 HT.out.lt); have t0 := HT9.out.cell 0; have t1 := HT9.out.cell 1; have s0 := HD9.out.cell 0; have s1 := HD9.out.cell 1; simp only [List.getElem?_toArray, List.getElem?_cons_zero, List.getElem?_cons_succ] at t0 t1 s0 s1) | fail)
        have HLD2 := hide (show ∀ j u, (styA (R n))[j]? = some u → w9.cell? ⟨g, off + n * 118 + j, none⟩ = some u from by
          obtain ⟨g1, off1, e1, _, h1⟩ := HLD.out w9 HB9.out
          cases e1
          exact h1)
        refine wp_load_styM (.tmp 24) rfl g (off + n * 118) rfl (R n) HLD2.out ?_
        go_wp2_with (first
          | (go_at_call 11; refine (HO.out _).mono ?_; rintro e w9 ⟨rfl, rfl⟩)
          | fail)
        go_ret
        exact ⟨by rw [← HZ.out]; rfl, HB9.out.alloc (bsz HB9.out (Nat.le_refl _)) _⟩
    · have dn : decide (0 ≤ nd) = false := decide_eq_false hn
      have HZ := hide (show false = z by rw [HF.out, dn]; rfl)
      go_enter Tryd.func64, Tryd.ntmps64
      go_wp2_with (first | (go_at_call 41; refine HA.out.mono ?_; rintro e w9 ⟨rfl, hb9⟩; have t0 := (HT.out.below hb9 HT.out.lt).cell 0; have t1 := (HT.out.below hb9 HT.out.lt).cell 1; simp only [List.getElem?_toArray, List.getElem?_cons_zero, List.getElem?_cons_succ] at t0 t1) | fail)
      go_ret
      exact ⟨by rw [← HZ.out]; rfl, HB.out.trans (hb9.mono (bsz HB.out (Nat.le_refl _)))⟩
  · have HZ := hide (show true = z by rw [HF.out]; rfl)
    go_enter Tryd.func64, Tryd.ntmps64
    go_wp2_with (first | (go_at_call 41; refine HA.out.mono ?_; rintro e w9 ⟨rfl, hb9⟩) | fail)
    go_ret
    exact ⟨by rw [← HZ.out]; rfl, HB.out.trans (hb9.mono (bsz HB.out (Nat.le_refl _)))⟩
end Go.Proofs.YtbpkffoooieejaaDoor
/- slices.IndexFunc, slices.ContainsFunc at trees. -/
namespace Go.Proofs.YtbpkffoooieejaaDoor
open Go.ChangeShapes Go.WideShapes Go.ChangeAt Go.RowKit Go.Instr
/-- What a function that asks of a tree answers, in each world that keeps what is there now. -/
def AskC (w : World) (K : Nat → Prop) (fa : Nat) (p : Addr) (pF : Tr → Bool) (t : Tr) : Prop :=
  ∀ w1 A c, Below w.heap.size w w1 → TrV w1 K t (trC t.kind t.node t.text A t.kids.length c) →
    Calls Tryd.prog fa #[.agg #[.int .i64 t.kind, .int .i64 t.node, .int .i64 0, .slice none 0 0, .string t.text, .slice A t.kids.length c], .pointer (some p)] w1 fun e w' => e = .returned (.bool (pF t)) ∧ Below w1.heap.size w1 w'
/-- A function of the program's own, of whatever number, is entered. -/
def EnterF (fa : Nat) : Prop := ∀ (args : Array Value) (w : World), (callFunc fa args).run Tryd.prog w = .ok (.enter fa args) w
theorem enter40 : EnterF 40 := fun args w => by kernel_rfl
theorem enter63 : EnterF 63 := fun args w => by kernel_rfl
theorem enter64 : EnterF 64 := fun args w => by kernel_rfl
theorem enter105 : EnterF 105 := fun args w => by kernel_rfl
def idxI (pF : Tr → Bool) (l : List Tr) : Int := if l.any pF then (l.findIdx pF : Nat) else -1
theorem idxI_hit {pF : Tr → Bool} {l : List Tr} {k : Nat} (hk : k < l.length) (hno : ∀ j, (hj : j < k) → pF (l[j]'(by omega)) = false) (h : pF l[k] = true) : idxI pF l = (k : Int) := by
  have h1 : l.any pF = true := List.any_eq_true.2 ⟨l[k], List.getElem_mem hk, h⟩
  have h2 : l.findIdx pF = k := by
    rw [List.findIdx_eq hk]
    exact ⟨h, fun j hj => by simpa using hno j hj⟩
  unfold idxI
  rw [h1, h2]; simp
theorem idxI_none {pF : Tr → Bool} {l : List Tr} (hno : ∀ j, (hj : j < l.length) → pF l[j] = false) : idxI pF l = -1 := by
  have h1 : l.any pF = false := by
    rw [List.any_eq_false]
    intro x hx
    obtain ⟨j, hj, rfl⟩ := List.getElem_of_mem hx
    simpa using hno j hj
  unfold idxI
  rw [h1]; simp
set_option maxRecDepth 100000 in
set_option maxHeartbeats 40000000 in
theorem idxTree_any (l : List Tr) (A : Option Addr) (c : Nat) (K : Nat → Prop) (fa : Nat) (p : Addr) (pF : Tr → Bool) (w : World) (hR : TrRow w K A l) (hK : ∀ g, K g → g < w.heap.size) (hl : l.length ≤ 1000000) (hE : EnterF fa) (hF : ∀ t ∈ l, AskC w K fa p pF t) :
    Calls Tryd.prog 58 #[.slice A l.length c, .func (.func fa) #[] #[.pointer (some p)]] w fun e w' => e = .returned (.int .i64 (idxI pF l)) ∧ Below w.heap.size w w' := by
  have HR := hide hR
  have HF := hide hF
  have HK := hide hK
  clear hR hF hK
  go_enter Tryd.func58, Tryd.ntmps58
  have Bi := Below.refl w.heap.size w
  go_wp2_with fail
  go_loopw [5, 8] (fun _ i wr => ∃ k : Nat, ∃ hk : k ≤ l.length, i = .int .i64 k ∧ (∀ j, (hj : j < k) → pF (l[j]'(by omega)) = false) ∧ Below w.heap.size w wr) (fun _ i _ => l.length - (intOf i).toNat)
  case atStart => exact ⟨0, Nat.zero_le _, rfl, fun j h => absurd h (Nat.not_lt_zero _), Bi⟩
  case round =>
    clear Bi
    obtain ⟨k, hk, rfl, hno, hbel⟩ := hrel
    have HNO := hide hno
    clear hno
    by_cases hlt : k < l.length
    · obtain ⟨g, off, Ak, ck, rfl, hg, hv, c0, c1, c2, c3, c4, c5, _, _, _⟩ := (HR.out.below hbel HK.out).at_ k hlt
      have HC := hide (HF.out l[k] (List.getElem_mem hlt) wr Ak ck hbel hv)
      have HB := hide hbel
      have HHIT := hide (fun h => idxI_hit hlt HNO.out h)
      have HNX := hide (fun (h : pF l[k] = false) => show ∀ j, (hj : j < k + 1) → pF (l[j]'(by omega)) = false from fun j hj => by
        by_cases e : j = k
        · subst e; exact h
        · exact HNO.out j (by omega))
      clear hbel hv
      generalize l[k].kind = a0 at *
      generalize l[k].node = a1 at *
      generalize l[k].text = a4 at *
      generalize l[k].kids.length = a5 at *
      generalize pF l[k] = b at *
      go_wp2_with fail
      rw [hE, Oper.upon_enter]
      refine HC.out.mono ?_
      rintro e w9 ⟨rfl, hb9⟩
      have HB9 := hide (below_then HB.out (Nat.le_refl _) hb9)
      clear hb9
      cases b
      · have HN9 := hide (HNX.out rfl)
        go_wp2_with fail
        go_roundw
        case rel => exact ⟨k + 1, by omega, by go_num, HN9.out, HB9.out⟩
        case measure => simp only [intOf]; omega
      · have HH9 := hide (HHIT.out rfl)
        go_wp2_with fail
        go_ret
        exact ⟨by rw [HH9.out]; rfl, HB9.out⟩
    · obtain rfl : k = l.length := by omega
      have HZ := hide (idxI_none HNO.out)
      go_wp2_with fail
      go_ret
      exact ⟨by rw [HZ.out]; rfl, hbel⟩
end Go.Proofs.YtbpkffoooieejaaDoor
/- boxes.maker.idle, lines; boxes.anonymous. -/
namespace Go.Proofs.YtbpkffoooieejaaDoor
open Go.ChangeShapes Go.WideShapes Go.ChangeAt Go.RowKit Go.Instr
/-- A tree's node is one that is there. -/
def NodOk (N : Nat) (t : Tr) : Prop := t.node < (N : Int) ∧ (t.kind = 4 → 0 ≤ t.node)
def idlB (R : Nat → Nat → Int) (k nd : Int) (x : ByteArray) : Bool := k == 4 && idleT x && !(R nd.toNat 83 == 1 || R nd.toNat 83 == 3)
set_option maxRecDepth 100000 in
set_option maxHeartbeats 40000000 in
theorem ask105_any (l : List Nd) (R : Nat → Nat → Int) (An As : Option Addr) (cn cs mb : Nat) (k nd : Int) (x : ByteArray) (A : Option Addr) (m c : Nat) (w : World) (hM : MkIn w w.heap.size An As l R) (hD : Blk w mb 75 #[.slice An l.length cn, .slice As l.length cs]) (hnd : nd < (l.length : Int)) (hnk : k = 4 → 0 ≤ nd) (hx : x.size ≤ maxLen) :
    Calls Tryd.prog 105 #[.agg #[.int .i64 k, .int .i64 nd, .int .i64 0, .slice none 0 0, .string x, .slice A m c], .pointer (some ⟨mb, 0, none⟩)] w fun e w' => e = .returned (.bool (!idlB R k nd x)) ∧ Below w.heap.size w w' := by
  unfold maxLen at hx
  have HB := hide ((Below.refl w.heap.size w).alloc (Nat.le_refl _) (.cells #[.int .i64 k, .int .i64 nd, .int .i64 0, .slice none 0 0, .string x, .slice A m c] 79))
  have HT := hide (Blk.new w 79 #[.int .i64 k, .int .i64 nd, .int .i64 0, .slice none 0 0, .string x, .slice A m c])
  have HDA := hide (hD.alloc (.cells #[.int .i64 k, .int .i64 nd, .int .i64 0, .slice none 0 0, .string x, .slice A m c] 79))
  have HM := hide (fun (w' : World) (h : Below w.heap.size w w') => hM.sty.below h)
  have HF := hide (show (!idlB R k nd x) = !(k == 4 && idleT x && !(R nd.toNat 83 == 1 || R nd.toNat 83 == 3)) from rfl)
  have HI := hide (fun w' => idle_any x w' (by omega))
  generalize (!idlB R k nd x) = z at *
  clear hM hD
  by_cases hk4 : k = 4
  · subst hk4
    have hn0 := hnk rfl
    obtain ⟨n, rfl⟩ : ∃ n : Nat, nd = (n : Int) := ⟨nd.toNat, by omega⟩
    have hnl : n < l.length := by omega
    have hnl2 : ¬ l.length ≤ n := by omega
    rw [Int.toNat_natCast] at HF
    have m1 := HDA.out.cell 1
    simp only [List.getElem?_toArray, List.getElem?_cons_zero, List.getElem?_cons_succ] at m1
    obtain ⟨g, off, rfl, hg, hld⟩ := (HM.out _ HB.out) n hnl
    have HC := hide (hld 83 (by omega))
    have HKP := hide (fun w' => keeps_any (R n 83) w')
    generalize R n 83 = md at *
    generalize idleT x = ix at *
    generalize hkb : (md == 1 || md == 3) = kb at *
    clear hld hkb
    cases ix
    · have HZ := hide (show true = z by rw [HF.out]; rfl)
      go_enter Tryd.func105, Tryd.ntmps105
      go_wp2_with (first | (go_at_call 106; refine (HI.out _).mono ?_; rintro e w9 ⟨rfl, hb9⟩) | fail)
      go_ret
      exact ⟨by rw [← HZ.out]; rfl, HB.out.trans (hb9.mono (bsz HB.out (Nat.le_refl _)))⟩
    · have HZ := hide (show kb = z by rw [HF.out]; simp)
      go_enter Tryd.func105, Tryd.ntmps105
      go_wp2_with (first
        | (go_at_call 106; refine (HI.out _).mono ?_; rintro e w9 ⟨rfl, hb9⟩; have HB9 := hide (HB.out.trans (hb9.mono (bsz HB.out (Nat.le_refl _)))); have t1 := (HT.out.below hb9 HT.out.lt).cell 1; have s1 := (HDA.out.below hb9 HDA.out.lt).cell 1; have r1 := (hb9.cell (p := ⟨g, off + n * 118 + 83, none⟩) (cell_lt HC.out)).trans HC.out; simp only [List.getElem?_toArray, List.getElem?_cons_zero, List.getElem?_cons_succ] at t1 s1; clear hb9)
        | (go_at_call 107; refine (HKP.out _).mono ?_; rintro e w8 ⟨rfl, rfl⟩)
        | fail)
      go_ret
      exact ⟨by rw [← HZ.out]; rfl, HB9.out⟩
  · have t4 : (k == 4) = false := by simpa using hk4
    have t5 : (k != 4) = true := by simpa using hk4
    have HZ := hide (show true = z by rw [HF.out, t4]; rfl)
    go_enter Tryd.func105, Tryd.ntmps105
    go_wp2_with fail
    go_ret
    exact ⟨by rw [← HZ.out]; rfl, HB.out⟩
theorem ask40C {l : List Nd} {R : Nat → Nat → Int} {An As : Option Addr} {cn cs mb : Nat} {w : World} {K : Nat → Prop} {t : Tr} (hM : MkIn w w.heap.size An As l R) (hD : Blk w mb 75 #[.slice An l.length cn, .slice As l.length cs]) (ht : NodOk l.length t) : AskC w K 40 ⟨mb, 0, none⟩ (blockyF (pgOf l R) 1) t :=
  fun w1 A c hb _ => ask40_any l R An As cn cs mb t.kind t.node t.text A t.kids.length c w1 (hM.later hb (Nat.le_refl _)) (hD.below hb hD.lt) ht.1
theorem ask63C {l : List Nd} {R : Nat → Nat → Int} {An As : Option Addr} {cn cs mb : Nat} {w : World} {K : Nat → Prop} {t : Tr} (hM : MkIn w w.heap.size An As l R) (hD : Blk w mb 75 #[.slice An l.length cn, .slice As l.length cs]) (ht : NodOk l.length t) : AskC w K 63 ⟨mb, 0, none⟩ (blockyF (pgOf l R) 1) t :=
  fun w1 A c hb _ => ask63_any l R An As cn cs mb t.kind t.node t.text A t.kids.length c w1 (hM.later hb (Nat.le_refl _)) (hD.below hb hD.lt) ht.1
theorem ask64C {l : List Nd} {R : Nat → Nat → Int} {An As : Option Addr} {cn cs mb : Nat} {w : World} {K : Nat → Prop} {t : Tr} (hM : MkIn w w.heap.size An As l R) (hD : Blk w mb 75 #[.slice An l.length cn, .slice As l.length cs]) (ht : NodOk l.length t) : AskC w K 64 ⟨mb, 0, none⟩ (flexAlone (pgOf l R)) t :=
  fun w1 A c hb _ => ask64_any l R An As cn cs mb t.kind t.node t.text A t.kids.length c w1 (hM.later hb (Nat.le_refl _)) (hD.below hb hD.lt) ht.1
def idlQ (P : Pg) (t : Tr) : Bool := t.kind == 4 && idleT t.text && !P.kp t.node.toNat
theorem ask105C {l : List Nd} {R : Nat → Nat → Int} {An As : Option Addr} {cn cs mb : Nat} {w : World} {K : Nat → Prop} {t : Tr} (hM : MkIn w w.heap.size An As l R) (hD : Blk w mb 75 #[.slice An l.length cn, .slice As l.length cs]) (ht : NodOk l.length t) : AskC w K 105 ⟨mb, 0, none⟩ (fun t => !idlQ (pgOf l R) t) t :=
  fun w1 A c hb hv => ask105_any l R An As cn cs mb t.kind t.node t.text A t.kids.length c w1 (hM.later hb (Nat.le_refl _)) (hD.below hb hD.lt) ht.1 ht.2 hv.parts.1
theorem idxI_any (pF : Tr → Bool) (l : List Tr) : decide (0 ≤ idxI pF l) = l.any pF := by
  unfold idxI
  cases h : l.any pF
  · rfl
  · simp
set_option maxRecDepth 100000 in
set_option maxHeartbeats 40000000 in
theorem hasTree_any (l : List Tr) (A : Option Addr) (c : Nat) (K : Nat → Prop) (fa : Nat) (p : Addr) (pF : Tr → Bool) (w : World) (hR : TrRow w K A l) (hK : ∀ g, K g → g < w.heap.size) (hl : l.length ≤ 1000000) (hE : EnterF fa) (hF : ∀ t ∈ l, AskC w K fa p pF t) :
    Calls Tryd.prog 42 #[.slice A l.length c, .func (.func fa) #[] #[.pointer (some p)]] w fun e w' => e = .returned (.bool (l.any pF)) ∧ Below w.heap.size w w' := by
  have HC := hide (idxTree_any l A c K fa p pF w hR hK hl hE hF)
  have HZ := hide (idxI_any pF l)
  generalize idxI pF l = z at *
  go_enter Tryd.func42, Tryd.ntmps42
  go_wp2_with (first | (go_at_call 58; refine HC.out.mono ?_; rintro e w9 ⟨rfl, hb9⟩) | fail)
  go_ret
  exact ⟨by rw [← HZ.out]; rfl, hb9⟩
theorem idle_not (P : Pg) (run : List Tr) : (!run.any fun t => !idlQ P t) = idleF idleT P run := by
  unfold idleF
  have e : (fun t : Tr => t.kind == 4 && idleT t.text && !P.kp t.node.toNat) = idlQ P := rfl
  rw [e, List.not_any_eq_all_not]
  simp
set_option maxRecDepth 100000 in
set_option maxHeartbeats 40000000 in
theorem mIdle_any (l : List Nd) (R : Nat → Nat → Int) (An As : Option Addr) (cn cs : Nat) (run : List Tr) (A : Option Addr) (c : Nat) (K : Nat → Prop) (w : World) (hM : MkIn w w.heap.size An As l R) (hR : TrRow w K A run) (hK : ∀ g, K g → g < w.heap.size) (hl : run.length ≤ 1000000) (ht : ∀ t ∈ run, NodOk l.length t) :
    Calls Tryd.prog 86 #[.agg #[.slice An l.length cn, .slice As l.length cs], .slice A run.length c] w fun e w' => e = .returned (.bool (idleF idleT (pgOf l R) run)) ∧ Below w.heap.size w w' := by
  have HB := hide ((Below.refl w.heap.size w).alloc (Nat.le_refl _) (.cells #[.slice An l.length cn, .slice As l.length cs] 75))
  have hD := Blk.new w 75 #[.slice An l.length cn, .slice As l.length cs]
  have HC := hide (hasTree_any run A c K 105 ⟨w.heap.size, 0, none⟩ (fun t => !idlQ (pgOf l R) t) (w.alloc (.cells #[.slice An l.length cn, .slice As l.length cs] 75)) (hR.below HB.out hK) (fun g hg => Nat.lt_of_lt_of_le (hK g hg) HB.out.size) hl enter105 (fun t h => ask105C (hM.later HB.out (Nat.le_refl _)) hD (ht t h)))
  have HZ := hide (idle_not (pgOf l R) run)
  generalize (run.any fun t => !idlQ (pgOf l R) t) = b at *
  clear hM hR hD
  go_enter Tryd.func86, Tryd.ntmps86
  go_wp2_with (first | (go_at_call 42; refine HC.out.mono ?_; rintro e w9 ⟨rfl, hb9⟩) | fail)
  go_ret
  exact ⟨by rw [← HZ.out]; rfl, HB.out.trans (hb9.mono (bsz HB.out (Nat.le_refl _)))⟩
theorem tr_u : Tryd.prog.underlying 79 = some (.struct (Tryd.prog.fieldsOf 79)) := by kernel_rfl
theorem tr_i (k n : Int) (x : ByteArray) (A : Option Addr) (m c : Nat) : (Tryd.prog.info? 79).map (·.size) = some (#[Value.int .i64 k, .int .i64 n, .int .i64 0, .slice none 0 0, .string x, .slice A m c] : Array Value).size := by kernel_rfl
set_option maxRecDepth 100000 in
set_option maxHeartbeats 40000000 in
theorem anon_any (k : Int) (A : Option Addr) (m c : Nat) (w : World) :
    Calls Tryd.prog 85 #[.int .i64 k, .slice A m c] w fun e w' => e = .returned (.agg #[.int .i64 k, .int .i64 (-1), .int .i64 0, .slice none 0 0, .string ByteArray.empty, .slice A m c]) ∧ Below w.heap.size w w' := by
  have HB := hide ((Below.refl w.heap.size w).alloc (Nat.le_refl _) (.cells #[.int .i64 k, .int .i64 (-1), .int .i64 0, .slice none 0 0, .string ByteArray.empty, .slice A m c] 79))
  have HT := hide (Blk.new w 79 #[.int .i64 k, .int .i64 (-1), .int .i64 0, .slice none 0 0, .string ByteArray.empty, .slice A m c])
  go_enter Tryd.func85, Tryd.ntmps85
  go_wp2_with fail
  refine bodyPost_ret (results_cell_row rfl _ _ w.heap.size 79 _ (0, 0) _ rfl HT.out tr_u rfl (tr_i _ _ _ _ _ _)) rfl ?_
  exact ⟨rfl, HB.out⟩
set_option maxRecDepth 100000 in
set_option maxHeartbeats 40000000 in
theorem row1_any (k n : Int) (x : ByteArray) (A : Option Addr) (m c : Nat) (w : World) :
    Calls Tryd.prog 60 #[.agg #[.int .i64 k, .int .i64 n, .int .i64 0, .slice none 0 0, .string x, .slice A m c]] w fun e w' => e = .returned (.agg #[.int .i64 k, .int .i64 n, .int .i64 0, .slice none 0 0, .string x, .slice A m c]) ∧ Below w.heap.size w w' := by
  have hb := (Below.refl w.heap.size w).alloc (Nat.le_refl _) (.cells #[.int .i64 k, .int .i64 n, .int .i64 0, .slice none 0 0, .string x, .slice A m c] 79)
  have HB := hide (hb.alloc hb.size (.cells #[.int .i64 k, .int .i64 n, .int .i64 0, .slice none 0 0, .string x, .slice A m c] 79))
  have HT := hide (blk_two w (.cells #[.int .i64 k, .int .i64 n, .int .i64 0, .slice none 0 0, .string x, .slice A m c] 79) #[.int .i64 k, .int .i64 n, .int .i64 0, .slice none 0 0, .string x, .slice A m c] 79)
  go_enter Tryd.func60, Tryd.ntmps60
  go_wp2_with fail
  refine bodyPost_ret (results_cell_row rfl _ _ (w.heap.size + 1) 79 _ (0, 0) _ rfl HT.out tr_u rfl (tr_i _ _ _ _ _ _)) rfl ?_
  exact ⟨rfl, HB.out⟩
end Go.Proofs.YtbpkffoooieejaaDoor
/- Steps of a region that draws where several operations may come up next, each laying a block. No program in sight. -/
namespace Go.Proofs.YtbpkffoooieejaaDoor
open Go.RowKit Go.Instr
section
variable {P : Program} {ops : Array Oper} {Q : Exit → Act → World → Prop} {md : Region.Mode} {S : World → Prop} {fuel : Nat} {l : Array Bool} {a : Act} {w : World} {j : Nat} {o : Oper}
theorem wp_alloc0 {K : Act → World → Prop} (ty : TypeId) (z : Array Value) (hop : o.op = .alloc ty) (hz : ∀ w, (zeroValue ty).run P w = .ok (.agg z) w) (h : K (a.put o.dst (.pointer (some ⟨w.heap.size, 0, none⟩))) (w.alloc (.cells z ty))) : Oper.wp P o a w K Q := by
  unfold Oper.wp execOp
  simp only [hop]
  have hr : (Instr.alloc ty true (.tuple #[])).run P w = .ok (.pointer (some ⟨w.heap.size, 0, none⟩)) (w.alloc (.cells z ty)) := by
    unfold Instr.alloc
    simp [Sem.run_bind, hz, newVar, newRow, Value.cells]
  simp only [Sem.run_bind, hr, Result.andThen_ok]
  exact h
theorem readyC {rs : List Nat} (ho : ops[j]? = some o) (hgd : o.guard = none) (h : ∀ K' : Act → World → Prop, (∀ a w, S w → wpAnyH P md ops Q S fuel (l.setIfInBounds j true) a w → K' a w) → Oper.wp P o a w K' Q)
    (hs : AllReadyH P md ops Q S fuel l a w rs) : AllReadyH P md ops Q S fuel l a w (j :: rs) :=
  AllReadyH.cons ho (fun K' hK => by
    rw [if_pos (by simp [Region.wanted, hgd])]
    exact h K' fun a w hS hW => hK.out a w hS fun _ => hW) hs
theorem readyAlloc {rs : List Nat} (ho : ops[j]? = some o) (hgd : o.guard = none) (d : Tmp) (hd : o.dst = some d) (ty : TypeId) (z : Array Value) (hop : o.op = .alloc ty) (hz : ∀ w, (zeroValue ty).run P w = .ok (.agg z) w) (hS : S (w.alloc (.cells z ty)))
    (h : wpAnyH P md ops Q S fuel (l.setIfInBounds j true) (a.put (some d) (.pointer (some ⟨w.heap.size, 0, none⟩))) (w.alloc (.cells z ty))) (hs : AllReadyH P md ops Q S fuel l a w rs) : AllReadyH P md ops Q S fuel l a w (j :: rs) :=
  readyC ho hgd (fun _ hK => wp_alloc0 ty z hop hz (by rw [hd]; exact hK _ _ hS h)) hs
theorem readyCall {rs : List Nat} (ho : ops[j]? = some o) (hgd : o.guard = none) (d : Option Tmp) (hd : o.dst = d) (f : FuncId) (args : Array Value) (he : (execOp a.eval o).run P w = .ok (.enter f args) w) {R : Ending → World → Prop} (hc : Calls P f args w R)
    (h : ∀ e w', R e w' → ∃ v, e = .returned v ∧ S w' ∧ wpAnyH P md ops Q S fuel (l.setIfInBounds j true) (a.put d v) w') (hs : AllReadyH P md ops Q S fuel l a w rs) : AllReadyH P md ops Q S fuel l a w (j :: rs) :=
  readyC ho hgd (fun K' hK => wp_callR he hc fun e w' hR => by
    obtain ⟨v, rfl, h1, h2⟩ := h e w' hR
    rw [hd]
    exact ⟨v, rfl, hK _ _ h1 h2⟩) hs
theorem storeBH (hr : Region.ready md ops l = [j]) (ho : ops[j]? = some o) (hgd : o.guard = none) (hd : o.dst = none) (ty : TypeId) (x y : Operand) (hop : o.op = .store ty x y) (g : Nat) (t : TypeId) (cs cs' : Array Value) (hx : a.eval x = .pointer (some ⟨g, 0, none⟩)) (hy : a.eval y = .agg cs') (hb : Blk w g t cs) (hs : cs'.size = cs.size)
    (hi : (P.info? ty).map (·.size) = some cs'.size) (h1 : cs'.all (·.oneCell') = true)
    (h : ∀ w', Blk w' g t cs' → w.grownBy w' (some g) → S w' ∧ wpAnyH P md ops Q S fuel (l.setIfInBounds j true) a w') : wpAnyH P md ops Q S (fuel + 1) l a w :=
  oneH hr ho hgd fun K' hK => wp_store_blk ty x y hop g t cs cs' hx hy hb hs hi h1 fun w' h2 h3 => by
    rw [hd, put_none]
    exact hK _ _ (h w' h2 h3).1 (h w' h2 h3).2
end
end Go.Proofs.YtbpkffoooieejaaDoor
/- boxes.maker.lines. -/
namespace Go.Proofs.YtbpkffoooieejaaDoor
open Go.ChangeShapes Go.WideShapes Go.ChangeAt Go.RowKit Go.Instr
theorem results_row_slot {P : Program} {fn : Func} {p q : Tmp} {ty : TypeId} (h : fn.results = #[.cell p ty, .tmp q]) (tmps : Array Value) (w : World) (g : Nat) (t : TypeId) (cs : Array Value) (d : TypeDesc)
    (hp : tmps.getD p undef = .pointer (some ⟨g, 0, none⟩)) (v : Value) (hq : tmps.getD q undef = v) (hb : Blk w g t cs)
    (hu : P.underlying ty = some d) (hd : (match d with | .struct _ | .array _ _ => true | _ => false) = true) (hi : (P.info? ty).map (·.size) = some cs.size) :
    (results fn tmps).run P w = .ok (.tuple #[.agg cs, v]) w := by
  have hp' : tmps[p]?.getD undef = .pointer (some ⟨g, 0, none⟩) := by simpa using hp
  have hq' : tmps[q]?.getD undef = v := by simpa using hq
  simp [results, h, hp', hq', asAddr, res_row hb hu hd hi]
theorem mk_u2 : Tryd.prog.underlying 75 = some (.struct (Tryd.prog.fieldsOf 75)) := by kernel_rfl
theorem tr_ones (k n : Int) (x : ByteArray) (A : Option Addr) (m c : Nat) : (#[Value.int .i64 k, .int .i64 n, .int .i64 0, .slice none 0 0, .string x, .slice A m c] : Array Value).all (·.oneCell') = true := by simp [Value.oneCell']
set_option maxRecDepth 100000 in
set_option maxHeartbeats 40000000 in
theorem lines_any (l : List Nd) (R : Nat → Nat → Int) (An As : Option Addr) (cn cs : Nat) (run : List Tr) (A : Option Addr) (c : Nat) (K : Nat → Prop) (w : World) (hM : MkIn w w.heap.size An As l R) (hR : TrRow w K A run) (hK : ∀ g, K g → g < w.heap.size) (hl : run.length ≤ 1000000) (ht : ∀ t ∈ run, NodOk l.length t) :
    Calls Tryd.prog 61 #[.agg #[.slice An l.length cn, .slice As l.length cs], .slice A run.length c] w fun e w' => e = .returned (.tuple #[.agg #[.int .i64 2, .int .i64 (-1), .int .i64 0, .slice none 0 0, .string ByteArray.empty, .slice A run.length c], .bool (!idleF idleT (pgOf l R) run)]) ∧ Below w.heap.size w w' := by
  have HB := hide ((Below.refl w.heap.size w).alloc (Nat.le_refl _) (.cells #[.slice An l.length cn, .slice As l.length cs] 75))
  have HBT := hide (HB.out.alloc HB.out.size (.cells #[.int .i64 0, .int .i64 0, .int .i64 0, .slice none 0 0, .string ⟨#[]⟩, .slice none 0 0] 79))
  have HD2 := hide ((Blk.new w 75 #[.slice An l.length cn, .slice As l.length cs]).alloc (.cells #[.int .i64 0, .int .i64 0, .int .i64 0, .slice none 0 0, .string ⟨#[]⟩, .slice none 0 0] 79))
  have HT2 := hide (blk_two w (.cells #[.slice An l.length cn, .slice As l.length cs] 75) #[.int .i64 0, .int .i64 0, .int .i64 0, .slice none 0 0, .string ⟨#[]⟩, .slice none 0 0] 79)
  have HIDL := hide (fun (w' : World) (h : Below w.heap.size w w') => mIdle_any l R An As cn cs run A c K w' (hM.later h (Nat.le_refl _)) (hR.below h hK) (fun g hg => Nat.lt_of_lt_of_le (hK g hg) h.size) hl ht)
  have HB2 := HBT
  generalize idleF idleT (pgOf l R) run = b at *
  clear hM hR hK ht HB
  go_enter Tryd.func61, Tryd.ntmps61
  go_wp2_with fail
  generalize ((w.alloc (.cells #[.slice An l.length cn, .slice As l.length cs] 75)).alloc (.cells #[.int .i64 0, .int .i64 0, .int .i64 0, .slice none 0 0, .string ⟨#[]⟩, .slice none 0 0] 79)) = w2 at *
  have hb0 := Below.drew (Below.refl w2.heap.size w2)
  have HB0 := hide (HB2.out.trans (hb0.mono HB2.out.size))
  have HD0 := hide (HD2.out.drew)
  have HT0 := hide (HT2.out.drew)
  refine wp_region_HL 8 #[false, false, false, false, false, false, false, false] (by kernel_rfl) (by kernel_rfl) (S := fun Z => Blk Z w.heap.size 75 #[.slice An l.length cn, .slice As l.length cs]) (by kernel_rfl) HD0.out (fun hHeld => ?_)
  generalize w2.drew = wv0 at *
  clear hHeld hb0
  refine take_at (i := 0) (v := (.slice A run.length c)) (some 6) rfl rfl (by kernel_rfl) (by kernel_rfl) (by kernel_rfl) (fun _ _ _ h => h) (yieldsIf_move (by rfl) _ rfl _ rfl) HD0.out ?_
  simp only [Act.put, List.setIfInBounds_toArray, List.set_cons_zero, List.set_cons_succ]
  refine take_at (i := 2) (v := (Value.agg #[.slice An l.length cn, .slice As l.length cs])) (some 8) rfl rfl (by kernel_rfl) (by kernel_rfl) (by kernel_rfl) (fun _ _ _ h => h) (yieldsIf_load_blk (by rfl) 75 _ rfl w.heap.size rfl 75 _ _ (fun _ h => h) mk_u2 rfl (by kernel_rfl)) HD0.out ?_
  simp only [Act.put, List.setIfInBounds_toArray, List.set_cons_zero, List.set_cons_succ]
  refine take_at (i := 3) (v := (.slice A run.length c)) (some 9) rfl rfl (by kernel_rfl) (by kernel_rfl) (by kernel_rfl) (fun _ _ _ h => h) (yieldsIf_move (by rfl) _ rfl _ rfl) HD0.out ?_
  simp only [Act.put, List.setIfInBounds_toArray, List.set_cons_zero, List.set_cons_succ]
  refine callH (j := 1) (by kernel_rfl) rfl rfl (some 7) rfl 85 #[.int .i64 2, .slice A run.length c] (run_enter Tryd.func85 (by kernel_rfl) (by kernel_rfl) _ _ rfl #[.int .i64 2, .slice A run.length c] (by kernel_rfl) _) (anon_any 2 A run.length c _) ?_
  rintro e wv1 ⟨rfl, hx⟩
  have HB1 := hide (HB0.out.trans (hx.mono HB0.out.size))
  have HD1 := hide (HD0.out.below hx HD0.out.lt)
  have HT1 := hide (HT0.out.below hx HT0.out.lt)
  clear hx
  refine ⟨_, rfl, HD1.out, ?_⟩
  simp only [Act.put, List.setIfInBounds_toArray, List.set_cons_zero, List.set_cons_succ]
  refine callH (j := 4) (by kernel_rfl) rfl rfl (some 10) rfl 86 #[.agg #[.slice An l.length cn, .slice As l.length cs], .slice A run.length c] (run_enter Tryd.func86 (by kernel_rfl) (by kernel_rfl) _ _ rfl #[.agg #[.slice An l.length cn, .slice As l.length cs], .slice A run.length c] (by kernel_rfl) _) (HIDL.out _ HB1.out) ?_
  rintro e wv2 ⟨rfl, hx⟩
  have HB2 := hide (HB1.out.trans (hx.mono HB1.out.size))
  have HD2 := hide (HD1.out.below hx HD1.out.lt)
  have HT2 := hide (HT1.out.below hx HT1.out.lt)
  clear hx
  refine ⟨_, rfl, HD2.out, ?_⟩
  simp only [Act.put, List.setIfInBounds_toArray, List.set_cons_zero, List.set_cons_succ]
  refine take_at (i := 5) (v := (.bool (!b))) (some 11) rfl rfl (by kernel_rfl) (by kernel_rfl) (by kernel_rfl) (fun _ _ _ h => h) (Or.inl ⟨by rfl, fun W hW => ?_⟩) HD2.out ?_
  · go_simp
  simp only [Act.put, List.setIfInBounds_toArray, List.set_cons_zero, List.set_cons_succ]
  refine storeBH (j := 6) (by kernel_rfl) rfl rfl rfl 79 (.tmp 4) (.tmp 7) rfl (w.heap.size + 1) 79 _ #[.int .i64 2, .int .i64 (-1), .int .i64 0, .slice none 0 0, .string ByteArray.empty, .slice A run.length c] rfl rfl HT2.out rfl (tr_i _ _ _ _ _ _) (tr_ones _ _ _ _ _ _) (fun wv3 hB hG => ⟨HD2.out.grown hG (fun e => by injection e with e; omega), ?_⟩)
  simp only [List.setIfInBounds_toArray, List.set_cons_zero, List.set_cons_succ]
  have HB3 := hide (below_grown HB2.out (Nat.le_refl _) hG (by omega))
  have HT3 := hide hB
  have HD3 := hide (HD2.out.grown hG (fun e => by injection e with e; omega))
  clear hB hG
  refine take_at (i := 7) (v := (.bool (!b))) (some 5) rfl rfl (by kernel_rfl) (by kernel_rfl) (by kernel_rfl) (fun _ _ _ h => h) (Or.inl ⟨by rfl, fun W hW => ?_⟩) HD3.out ?_
  · go_simp
  simp only [Act.put, List.setIfInBounds_toArray, List.set_cons_zero, List.set_cons_succ]
  refine wpAnyH_done (by kernel_rfl) ?_ _
  go_wp2_with fail
  refine bodyPost_ret (results_row_slot rfl _ _ (w.heap.size + 1) 79 #[.int .i64 2, .int .i64 (-1), .int .i64 0, .slice none 0 0, .string ByteArray.empty, .slice A run.length c] _ rfl (.bool (!b)) rfl HT3.out tr_u rfl (tr_i _ _ _ _ _ _)) rfl ?_
  exact ⟨rfl, HB3.out⟩
end Go.Proofs.YtbpkffoooieejaaDoor
/- boxes.split at trees. -/
namespace Go.Proofs.YtbpkffoooieejaaDoor
open Go.ChangeShapes Go.WideShapes Go.ChangeAt Go.RowKit Go.Instr
theorem tr_info : (Tryd.prog.info? 79).map (fun i => (i.zero, i.size, i.bytes)) = some (some (.agg #[.int .i64 0, .int .i64 0, .int .i64 0, .slice none 0 0, .string ⟨#[]⟩, .slice none 0 0]), 6, 88) := by kernel_rfl
theorem AskC.later {w wr : World} {K : Nat → Prop} {fa : Nat} {p : Addr} {pF : Tr → Bool} {t : Tr} (h : AskC w K fa p pF t) (hb : Below w.heap.size w wr) : AskC wr K fa p pF t := fun w1 A c h1 hv => h w1 A c (hb.trans (h1.mono hb.size)) hv
/-- A row of trees that the call owns. -/
def RowPost (K : Nat → Prop) (base : Nat) (l : List Tr) (w' : World) (e : Ending) : Prop := ∃ v xs, e = .returned v ∧ w'.ownsRow base 79 6 v l.length xs ∧ TrVs w' K l xs
theorem findIdx_pos {pF : Tr → Bool} {x : Tr} {r : List Tr} (h : pF x = false) : 0 < (x :: r).findIdx pF := by
  rw [List.findIdx_cons, h]; exact Nat.succ_pos _
theorem row_dropK {w : World} {K : Nat → Prop} {g off cr k : Nat} {l : List Tr} (h : TrRow w K (some ⟨g, off, none⟩) l) (hk : k ≤ l.length) (hc : l.length ≤ cr) : TrRow w K (if cr = k then some ⟨g, off, none⟩ else some ⟨g, off + k * 6, none⟩) (l.drop k) := by
  have h1 := h.drop hk hc
  have e : (some (⟨g, off, none⟩ : Addr)).map (·.add (k * 6)) = some ⟨g, off + k * 6, none⟩ := by
    simp only [Option.map_some]; unfold Addr.add; split <;> simp_all
  rw [e] at h1
  exact h1
theorem row_drop1 {w : World} {K : Nat → Prop} {g off cr : Nat} {x : Tr} {r : List Tr} (h : TrRow w K (some ⟨g, off, none⟩) (x :: r)) (hc : (x :: r).length ≤ cr) : TrRow w K (if cr = 1 then some ⟨g, off, none⟩ else some ⟨g, off + 6, none⟩) r := row_dropK (k := 1) h (by simp) hc
theorem idxI_cases (pF : Tr → Bool) (l : List Tr) : (idxI pF l = ((l.findIdx pF : Nat) : Int) ∧ l.findIdx pF < l.length) ∨ (idxI pF l = -1 ∧ l.findIdx pF = l.length) := by
  unfold idxI
  cases h : l.any pF
  · right
    refine ⟨by simp, ?_⟩
    rw [List.findIdx_eq_length]
    intro x hx
    have := List.any_eq_false.1 h x hx
    simpa using this
  · left
    refine ⟨by simp, ?_⟩
    rw [List.findIdx_lt_length]
    exact List.any_eq_true.1 h
/-- The state of a split: what is left, what is done. -/
structure SpS (K : Nat → Prop) (D : Nat) (w wr : World) (v : Value) (dn : List Tr) (xs : List Value) (Ar : Option Addr) (rest : List Tr) : Prop where
  row : TrRow wr K Ar rest
  own : wr.ownsRow D 79 6 v dn.length xs
  vs : TrVs wr K dn xs
  bel : Below D w wr
theorem SpS.old {K : Nat → Prop} {D : Nat} {w wr w' : World} {v : Value} {dn : List Tr} {xs : List Value} {Ar : Option Addr} {rest : List Tr} (h : SpS K D w wr v dn xs Ar rest) (hK : ∀ g, K g → g < D) (hDw : D ≤ w.heap.size) (hb : Below wr.heap.size wr w') : SpS K D w w' v dn xs Ar rest :=
  have hK' : ∀ g, K g → g < wr.heap.size := fun g hg => Nat.lt_of_lt_of_le (hK g hg) (bsz h.bel hDw)
  ⟨h.row.below hb hK', own_keep h.own hb (own_lt h.own), h.vs.below hb hK', h.bel.trans (hb.mono (bsz h.bel hDw))⟩
/-- One tree more. -/
theorem SpS.app {K : Nat → Prop} {D : Nat} {w wr w' : World} {v v' : Value} {dn : List Tr} {xs : List Value} {Ar : Option Addr} {rest : List Tr} {t : Tr} {cs : Array Value} (h : SpS K D w wr v dn xs Ar rest) (hK : ∀ g, K g → g < D) (hDw : D ≤ w.heap.size) (ht : TrV wr K t cs.toList) (o : Obj)
    (ho : w'.ownsRow D 79 6 v' (dn.length + 1) (xs ++ cs.toList)) (hg : (wr.alloc o).grownBy w' v.ownBlock) : SpS K D w w' v' (dn ++ [t]) (xs ++ cs.toList) Ar rest := by
  have hb : Below D wr w' := own_below (h.own.alloc o) ((Below.refl D wr).alloc (bsz h.bel hDw) o) (Nat.le_refl _) (bsz h.bel hDw) hg
  exact ⟨h.row.below hb hK, by rw [List.length_append]; exact ho, (h.vs.below hb hK).snoc (ht.below hb hK), h.bel.trans hb⟩
set_option maxRecDepth 100000 in
set_option maxHeartbeats 40000000 in
theorem splitTree_any (l : List Nd) (R : Nat → Nat → Int) (An As : Option Addr) (cn cs : Nat) (ts : List Tr) (A : Option Addr) (c : Nat) (K : Nat → Prop) (fa : Nat) (p : Addr) (pF : Tr → Bool) (w : World) (hM : MkIn w w.heap.size An As l R) (hR : TrRow w K A ts) (hK : ∀ g, K g → g < w.heap.size) (hc : ts.length ≤ c) (hcm : c ≤ maxLen) (hl : ts.length ≤ 1000000) (ht : ∀ t ∈ ts, NodOk l.length t) (hE : EnterF fa) (hF : ∀ t ∈ ts, AskC w K fa p pF t) :
    Calls Tryd.prog 59 #[.slice A ts.length c, .func (.func fa) #[] #[.pointer (some p)], .func (.func 60) #[] #[], .func (.func 61) #[.agg #[.slice An l.length cn, .slice As l.length cs]] #[]] w fun e w' => RowPost K w.heap.size (rowF idleT (pgOf l R) pF ts) w' e ∧ Below w.heap.size w w' := by
  unfold maxLen at hcm
  have HM := hide hM
  have HR := hide hR
  have HF := hide hF
  have HK := hide hK
  have HT := hide ht
  clear hM hR hF hK ht
  obtain ⟨D, hD⟩ : ∃ D, D = w.heap.size := ⟨_, rfl⟩
  have hDw : D ≤ w.heap.size := by omega
  have HDE := hide hD
  clear hD
  have HRO := hide (show rowF idleT (pgOf l R) pF ts = splitF pF (fun t => t) (linesF idleT (pgOf l R)) ts.length ts from rfl)
  generalize rowF idleT (pgOf l R) pF ts = tot at *
  go_enter Tryd.func59, Tryd.ntmps59
  have Bi := Below.refl D w
  go_wp2_with fail
  have HKD := hide (show ∀ g, K g → g < D from fun g hg => by rw [HDE.out]; exact HK.out g hg)
  go_loopw [0, 9] (fun s v wr => ∃ (rest dn : List Tr) (Ar : Option Addr) (cr m : Nat) (xs : List Value), s = .slice Ar rest.length cr ∧ rest.length ≤ cr ∧ cr ≤ c ∧ rest.length ≤ m ∧ dn.length + rest.length ≤ ts.length ∧ (∀ t ∈ rest, t ∈ ts) ∧ tot = dn ++ splitF pF (fun t => t) (linesF idleT (pgOf l R)) m rest ∧ SpS K D w wr v dn xs Ar rest) (fun s _ _ => match s with | .slice _ n _ => n | _ => 0)
  case atStart => exact ⟨ts, [], A, c, ts.length, [], rfl, hc, Nat.le_refl _, Nat.le_refl _, by simp, fun _ h => h, by rw [HRO.out]; rfl, HR.out, own_none _ _ _ _, by rw [TrVs], Bi⟩
  case round =>
    clear Bi
    obtain ⟨rest, dn, Ar, cr, m, xs, rfl, hrc, hcc, hrm, hdl, hmem, htot, hsp⟩ := hrel
    obtain ⟨v, hv⟩ : ∃ v, v = u9 := ⟨_, rfl⟩
    rw [← hv] at hsp ⊢
    clear hv
    have HS := hide hsp
    have HTO := hide htot
    have HME := hide hmem
    clear hsp htot hmem
    cases rest with
    | nil =>
      have HZ := hide (show tot = dn by rw [HTO.out]; cases m <;> simp [splitF])
      go_wp2_with fail
      go_ret
      exact ⟨⟨_, xs, rfl, by rw [HZ.out, ← HDE.out]; exact HS.out.own, by rw [HZ.out]; exact HS.out.vs⟩, by rw [← HDE.out]; exact HS.out.bel⟩
    | cons x r =>
      obtain ⟨mm, rfl⟩ : ∃ mm, m = mm + 1 := ⟨m - 1, by simp at hrm; omega⟩
      have hxm := HME.out x (by simp)
      obtain ⟨g, off, Ak, ck, rfl, hg, hv, c0, c1, c2, c3, c4, c5, h9, h10, h11⟩ := HS.out.row.at_ 0 (by simp)
      simp only [Nat.zero_mul, Nat.add_zero, List.getElem_cons_zero] at hv c0 c1 c2 c3 c4 c5 h9 h10 h11
      have HV := hide hv
      have HAS := hide ((HF.out x hxm).later (by rw [← HDE.out]; exact HS.out.bel))
      have HC := hide (HAS.out wr Ak ck (Below.refl _ _) hv)
      have HCX := hide (show Below wr.heap.size wr wr → True from fun _ => trivial)
      obtain ⟨n, hn⟩ : ∃ n, n = (x :: r).length := ⟨_, rfl⟩
      have hn1 : n ≤ r.length + 1 := by rw [hn]; simp
      have hn2 : r.length + 1 ≤ n := by rw [hn]; simp
      rw [← hn] at hrc hdl hrm ⊢
      have HN := hide hn
      clear hn
      have hn0 : 0 < n := by omega
      have hgr : g < wr.heap.size := Nat.lt_of_lt_of_le (HKD.out g hg) (bsz HS.out.bel hDw)
      have HCC := hide (And.intro c0 (And.intro c1 (And.intro c2 (And.intro c3 (And.intro c4 c5)))))
      clear hv h11
      obtain ⟨b, hb⟩ : ∃ b, b = pF x := ⟨_, rfl⟩
      rw [← hb] at HC
      have HPB := hide hb
      clear hb
      go_wp2_with fail
      rw [hE, Oper.upon_enter]
      refine HC.out.mono ?_
      rintro e w9 ⟨rfl, hb9⟩
      have HB9 := hide hb9
      have HS9 := hide (HS.out.old HKD.out hDw hb9)
      have e0 := (hb9.cell (p := ⟨g, off, none⟩) hgr).trans HCC.out.1
      have e1 := (hb9.cell (p := ⟨g, off + 1, none⟩) hgr).trans HCC.out.2.1
      have e2 := (hb9.cell (p := ⟨g, off + 2, none⟩) hgr).trans HCC.out.2.2.1
      have e3 := (hb9.cell (p := ⟨g, off + 3, none⟩) hgr).trans HCC.out.2.2.2.1
      have e4 := (hb9.cell (p := ⟨g, off + 4, none⟩) hgr).trans HCC.out.2.2.2.2.1
      have e5 := (hb9.cell (p := ⟨g, off + 5, none⟩) hgr).trans HCC.out.2.2.2.2.2
      have HV9 := hide (HV.out.below hb9 (fun g hg => Nat.lt_of_lt_of_le (HKD.out g hg) (bsz HS.out.bel hDw)))
      clear hb9 c0 c1 c2 c3 c4 c5
      have hl0 : dn.length ≤ 1000000 := by omega
      cases b
      · obtain ⟨k, hk⟩ : ∃ k, k = (x :: r).findIdx pF := ⟨_, rfl⟩
        have hk0 : 0 < k := by rw [hk]; exact findIdx_pos HPB.out.symm
        have hkn : k ≤ n := by rw [hk, HN.out]; exact List.findIdx_le_length
        have hkc := idxI_cases pF (x :: r)
        rw [← hk, ← HN.out] at hkc
        have htk : ((x :: r).take k).length = k := by rw [List.length_take, ← HN.out]; omega
        have hdk : ((x :: r).drop k).length = n - k := by rw [List.length_drop, ← HN.out]
        have HTD := hide (And.intro htk hdk)
        have HIX := hide (show Calls Tryd.prog 58 #[.slice (some ⟨g, off, none⟩) n cr, .func (.func fa) #[] #[.pointer (some p)]] w9 fun e w' => e = .returned (.int .i64 (idxI pF (x :: r))) ∧ Below w9.heap.size w9 w' by
          rw [HN.out]
          exact idxTree_any (x :: r) (some ⟨g, off, none⟩) cr K fa p pF w9 HS9.out.row (fun g hg => Nat.lt_of_lt_of_le (HKD.out g hg) (bsz HS9.out.bel hDw)) (by rw [← HN.out]; omega) hE (fun t h => (HF.out t (HME.out t h)).later (by rw [← HDE.out]; exact HS9.out.bel)))
        have HLI := hide (fun (w' : World) (h : SpS K D w w' v dn xs (some ⟨g, off, none⟩) (x :: r)) => show Calls Tryd.prog 61 #[.agg #[.slice An l.length cn, .slice As l.length cs], .slice (some ⟨g, off, none⟩) k cr] w' fun e w'' => e = .returned (.tuple #[.agg #[.int .i64 2, .int .i64 (-1), .int .i64 0, .slice none 0 0, .string ByteArray.empty, .slice (some ⟨g, off, none⟩) k cr], .bool (!idleF idleT (pgOf l R) ((x :: r).take k))]) ∧ Below w'.heap.size w' w'' by
          have h1 := lines_any l R An As cn cs ((x :: r).take k) (some ⟨g, off, none⟩) cr K w' (HM.out.later (by rw [← HDE.out]; exact h.bel) (Nat.le_refl _)) (h.row.take k) (fun g hg => Nat.lt_of_lt_of_le (HKD.out g hg) (bsz h.bel hDw)) (by rw [HTD.out.1]; omega) (fun t ht => HT.out t (HME.out t (List.mem_of_mem_take ht)))
          rw [HTD.out.1] at h1
          exact h1)
        have HTV := hide (fun (w' : World) (h : SpS K D w w' v dn xs (some ⟨g, off, none⟩) (x :: r)) => show TrV w' K (anonF 2 ((x :: r).take k)) (#[.int .i64 2, .int .i64 (-1), .int .i64 0, .slice none 0 0, .string ByteArray.empty, .slice (some ⟨g, off, none⟩) k cr] : Array Value).toList from by
          have h1 := TrV.of (w := w') (K := K) (k := 2) (n := -1) (x := ByteArray.empty) (l := (x :: r).take k) (A := some ⟨g, off, none⟩) (c := cr) (by decide) (by rw [HTD.out.1]; omega) (by rw [HTD.out.1]; omega) (by simp only [maxLen]; omega) (h.row.take k)
          rw [HTD.out.1] at h1
          exact h1)
        have HSE := hide (show splitF pF (fun t => t) (linesF idleT (pgOf l R)) (mm + 1) (x :: r) = (if (!idleF idleT (pgOf l R) ((x :: r).take k)) = true then [anonF 2 ((x :: r).take k)] else []) ++ splitF pF (fun t => t) (linesF idleT (pgOf l R)) mm ((x :: r).drop k) by
          rw [splitF, ← HPB.out, hk]; rfl)
        generalize idxI pF (x :: r) = z at *
        generalize (!idleF idleT (pgOf l R) ((x :: r).take k)) = q at *
        have HK0 := hide hk
        clear hk htk hdk
        have hkn2 : ¬ n < k := by omega
        rcases hkc with ⟨rfl, hkl⟩ | ⟨rfl, hkl⟩
        · go_wp2_with (first
            | (go_at_call 58; refine HIX.out.mono ?_; rintro e w7 ⟨rfl, hb7⟩; have HS7 := hide (HS9.out.old HKD.out hDw hb7); clear hb7)
            | (go_at_call 61; refine (HLI.out _ HS7.out).mono ?_; rintro e w8 ⟨rfl, hb8⟩; have HS8 := hide (HS7.out.old HKD.out hDw hb8); clear hb8; have HS8a := hide (HS8.out.old HKD.out hDw ((Below.refl w8.heap.size w8).alloc (Nat.le_refl _) (.cells #[.int .i64 2, .int .i64 (-1), .int .i64 0, .slice none 0 0, .string ByteArray.empty, .slice (some ⟨g, off, none⟩) k cr] 79))); have HO8 := hide (HS8a.out.own.alloc (.cells #[.int .i64 2, .int .i64 (-1), .int .i64 0, .slice none 0 0, .string ByteArray.empty, .slice (some ⟨g, off, none⟩) k cr] 79)); have HN8 := hide (blk_two w8 (.cells #[.int .i64 2, .int .i64 (-1), .int .i64 0, .slice none 0 0, .string ByteArray.empty, .slice (some ⟨g, off, none⟩) k cr] 79) #[.int .i64 2, .int .i64 (-1), .int .i64 0, .slice none 0 0, .string ByteArray.empty, .slice (some ⟨g, off, none⟩) k cr] 79); have HZ8 := hide (bsz ((HS8a.out.bel).alloc (bsz HS8a.out.bel hDw) (.cells #[.int .i64 2, .int .i64 (-1), .int .i64 0, .slice none 0 0, .string ByteArray.empty, .slice (some ⟨g, off, none⟩) k cr] 79)) hDw))
            | (at_builtin; refine wpList_app1 rfl (.tmp 47) (.tmp 49) _ rfl D 79 _ 6 88 Tryd.underlying77 tr_info rfl (Nat.succ_pos _) v _ _ rfl HO8.out _ 1 _ HN8.out rfl rfl rfl hl0 (Nat.le_of_ble_eq_true rfl) HZ8.out ?_; intro v4 w4 hown4 hg4; have HS4 := hide (HS8a.out.app HKD.out hDw (HTV.out _ HS8a.out) _ hown4 hg4); clear hown4 hg4)
            | fail)
          · obtain ⟨xs4, hx4⟩ : ∃ xs4, SpS K D w w4 v4 (dn ++ [anonF 2 ((x :: r).take k)]) xs4 (some ⟨g, off, none⟩) (x :: r) := ⟨_, HS4.out⟩
            refine ⟨⟨(x :: r).drop k, dn ++ [anonF 2 ((x :: r).take k)], (if cr = k then some ⟨g, off, none⟩ else some ⟨g, off + k * 6, none⟩), cr - k, mm, xs4, ?_, by rw [HTD.out.2]; omega, by omega, by rw [HTD.out.2]; omega, by rw [HTD.out.2, List.length_append]; simp; omega, fun t h => HME.out t (List.mem_of_mem_drop h), ?_, ?_⟩, Nat.sub_lt hn0 hk0⟩
            · first | (rw [HTD.out.2, if_neg (by omega)]; done) | (rw [HTD.out.2, Nat.sub_self]; done)
            · rw [HTO.out, HSE.out]; simp_all
            · exact ⟨row_dropK hx4.row (by rw [← HN.out]; omega) (by rw [← HN.out]; omega), hx4.own, hx4.vs, hx4.bel⟩
          · refine ⟨⟨(x :: r).drop k, dn, (if cr = k then some ⟨g, off, none⟩ else some ⟨g, off + k * 6, none⟩), cr - k, mm, xs, ?_, by rw [HTD.out.2]; omega, by omega, by rw [HTD.out.2]; omega, by rw [HTD.out.2]; omega, fun t h => HME.out t (List.mem_of_mem_drop h), ?_, ?_⟩, Nat.sub_lt hn0 hk0⟩
            · first | (rw [HTD.out.2, if_neg (by omega)]; done) | (rw [HTD.out.2, Nat.sub_self]; done)
            · rw [HTO.out, HSE.out]; simp_all
            · exact ⟨row_dropK HS8a.out.row (by rw [← HN.out]; omega) (by rw [← HN.out]; omega), HS8a.out.own, HS8a.out.vs, HS8a.out.bel⟩
        · obtain rfl : k = n := hkl
          go_wp2_with (first
            | (go_at_call 58; refine HIX.out.mono ?_; rintro e w7 ⟨rfl, hb7⟩; have HS7 := hide (HS9.out.old HKD.out hDw hb7); clear hb7)
            | (go_at_call 61; refine (HLI.out _ HS7.out).mono ?_; rintro e w8 ⟨rfl, hb8⟩; have HS8 := hide (HS7.out.old HKD.out hDw hb8); clear hb8; have HS8a := hide (HS8.out.old HKD.out hDw ((Below.refl w8.heap.size w8).alloc (Nat.le_refl _) (.cells #[.int .i64 2, .int .i64 (-1), .int .i64 0, .slice none 0 0, .string ByteArray.empty, .slice (some ⟨g, off, none⟩) k cr] 79))); have HO8 := hide (HS8a.out.own.alloc (.cells #[.int .i64 2, .int .i64 (-1), .int .i64 0, .slice none 0 0, .string ByteArray.empty, .slice (some ⟨g, off, none⟩) k cr] 79)); have HN8 := hide (blk_two w8 (.cells #[.int .i64 2, .int .i64 (-1), .int .i64 0, .slice none 0 0, .string ByteArray.empty, .slice (some ⟨g, off, none⟩) k cr] 79) #[.int .i64 2, .int .i64 (-1), .int .i64 0, .slice none 0 0, .string ByteArray.empty, .slice (some ⟨g, off, none⟩) k cr] 79); have HZ8 := hide (bsz ((HS8a.out.bel).alloc (bsz HS8a.out.bel hDw) (.cells #[.int .i64 2, .int .i64 (-1), .int .i64 0, .slice none 0 0, .string ByteArray.empty, .slice (some ⟨g, off, none⟩) k cr] 79)) hDw))
            | (at_builtin; refine wpList_app1 rfl (.tmp 47) (.tmp 49) _ rfl D 79 _ 6 88 Tryd.underlying77 tr_info rfl (Nat.succ_pos _) v _ _ rfl HO8.out _ 1 _ HN8.out rfl rfl rfl hl0 (Nat.le_of_ble_eq_true rfl) HZ8.out ?_; intro v4 w4 hown4 hg4; have HS4 := hide (HS8a.out.app HKD.out hDw (HTV.out _ HS8a.out) _ hown4 hg4); clear hown4 hg4)
            | fail)
          · obtain ⟨xs4, hx4⟩ : ∃ xs4, SpS K D w w4 v4 (dn ++ [anonF 2 ((x :: r).take k)]) xs4 (some ⟨g, off, none⟩) (x :: r) := ⟨_, HS4.out⟩
            refine ⟨⟨(x :: r).drop k, dn ++ [anonF 2 ((x :: r).take k)], (if cr = k then some ⟨g, off, none⟩ else some ⟨g, off + k * 6, none⟩), cr - k, mm, xs4, ?_, by rw [HTD.out.2]; omega, by omega, by rw [HTD.out.2]; omega, by rw [HTD.out.2, List.length_append]; simp; omega, fun t h => HME.out t (List.mem_of_mem_drop h), ?_, ?_⟩, hk0⟩
            · first | (rw [HTD.out.2]; done) | (rw [HTD.out.2, Nat.sub_self]; done)
            · rw [HTO.out, HSE.out]; simp_all
            · exact ⟨row_dropK hx4.row (by rw [← HN.out]; omega) (by rw [← HN.out]; omega), hx4.own, hx4.vs, hx4.bel⟩
          · refine ⟨⟨(x :: r).drop k, dn, (if cr = k then some ⟨g, off, none⟩ else some ⟨g, off + k * 6, none⟩), cr - k, mm, xs, ?_, by rw [HTD.out.2]; omega, by omega, by rw [HTD.out.2]; omega, by rw [HTD.out.2]; omega, fun t h => HME.out t (List.mem_of_mem_drop h), ?_, ?_⟩, hk0⟩
            · first | (rw [HTD.out.2]; done) | (rw [HTD.out.2, Nat.sub_self]; done)
            · rw [HTO.out, HSE.out]; simp_all
            · exact ⟨row_dropK HS8a.out.row (by rw [← HN.out]; omega) (by rw [← HN.out]; omega), HS8a.out.own, HS8a.out.vs, HS8a.out.bel⟩
      · go_wp2_with (first
          | (go_at_call 60; refine (row1_any _ _ _ _ _ _ _).mono ?_; rintro e w8 ⟨rfl, hb8⟩; have HS8 := hide (HS9.out.old HKD.out hDw hb8); have HV8 := hide (HV9.out.below hb8 (fun g hg => Nat.lt_of_lt_of_le (HKD.out g hg) (bsz HS9.out.bel hDw))); have HO8 := hide (HS8.out.own.alloc (.cells #[.int .i64 x.kind, .int .i64 x.node, .int .i64 0, .slice none 0 0, .string x.text, .slice Ak x.kids.length ck] 79)); have HN8 := hide (Blk.new w8 79 #[.int .i64 x.kind, .int .i64 x.node, .int .i64 0, .slice none 0 0, .string x.text, .slice Ak x.kids.length ck]); have HZ8 := hide (bsz ((HS8.out.bel).alloc (bsz HS8.out.bel hDw) (.cells #[.int .i64 x.kind, .int .i64 x.node, .int .i64 0, .slice none 0 0, .string x.text, .slice Ak x.kids.length ck] 79)) hDw); clear hb8)
          | (at_builtin; refine wpList_app1 rfl (.tmp 21) (.tmp 27) _ rfl D 79 _ 6 88 Tryd.underlying77 tr_info rfl (Nat.succ_pos _) v _ _ rfl HO8.out _ 1 _ HN8.out rfl rfl rfl hl0 (Nat.le_of_ble_eq_true rfl) HZ8.out ?_; intro v4 w4 hown4 hg4; have HS4 := hide (HS8.out.app HKD.out hDw HV8.out _ hown4 hg4); clear hown4 hg4)
          | fail)
        obtain ⟨xs4, hx4⟩ : ∃ xs4, SpS K D w w4 v4 (dn ++ [x]) xs4 (some ⟨g, off, none⟩) (x :: r) := ⟨_, HS4.out⟩
        refine ⟨⟨r, dn ++ [x], if cr = 1 then some ⟨g, off, none⟩ else some ⟨g, off + 6, none⟩, cr - 1, mm, xs4, ?_, by omega, by omega, by omega, by rw [List.length_append]; simp; omega, fun t h => HME.out t (by simp [h]), ?_, ?_⟩, ?_⟩
        · rw [show r.length = n - 1 by omega]
        · rw [HTO.out, splitF, ← HPB.out]; simp
        · exact ⟨row_drop1 hx4.row (by rw [← HN.out]; exact hrc), hx4.own, hx4.vs, hx4.bel⟩
        · show n - 1 < n; omega
end Go.Proofs.YtbpkffoooieejaaDoor
/- boxes.maker.row, container. -/
namespace Go.Proofs.YtbpkffoooieejaaDoor
open Go.ChangeShapes Go.WideShapes Go.ChangeAt Go.RowKit Go.Instr
theorem split_len {α : Type} {alone : α → Bool} {one : α → Tr} {run : List α → Tr × Bool} : ∀ (m : Nat) (l : List α), (splitF alone one run m l).length ≤ l.length
  | 0, _ => by rw [splitF]; exact Nat.zero_le _
  | _ + 1, [] => by rw [splitF]; exact Nat.zero_le _
  | m + 1, x :: l => by
    rw [splitF]
    cases h : alone x
    · have h1 := split_len (alone := alone) (one := one) (run := run) m ((x :: l).drop ((x :: l).findIdx alone))
      have h2 : 0 < (x :: l).findIdx alone := by rw [List.findIdx_cons, h]; exact Nat.succ_pos _
      rw [List.length_drop] at h1
      simp only [Bool.false_eq_true, if_false, List.length_append]
      have h3 : (if (run ((x :: l).take ((x :: l).findIdx alone))).2 = true then [(run ((x :: l).take ((x :: l).findIdx alone))).1] else []).length ≤ 1 := by split <;> simp
      simp only [List.length_cons] at h1 ⊢
      omega
    · have h1 := split_len (alone := alone) (one := one) (run := run) m l
      simp only [if_true, List.length_cons]
      omega
theorem row_nodOk {P : Pg} {N : Nat} {pF : Tr → Bool} {ts : List Tr} (h : ∀ t ∈ ts, NodOk N t) : ∀ t ∈ rowF idleT P pF ts, NodOk N t := by
  unfold rowF
  refine split_all (R := NodOk N) _ _ (fun x hx _ => h x hx) fun r _ => ?_
  exact ⟨(by show (-1 : Int) < N; omega), fun e => absurd e (by decide : (2 : Int) ≠ 4)⟩
set_option maxRecDepth 100000 in
set_option maxHeartbeats 40000000 in
theorem row_any (l : List Nd) (R : Nat → Nat → Int) (An As : Option Addr) (cn cs : Nat) (ts : List Tr) (A : Option Addr) (c : Nat) (K : Nat → Prop) (fa : Nat) (p : Addr) (pF : Tr → Bool) (w : World) (hM : MkIn w w.heap.size An As l R) (hR : TrRow w K A ts) (hK : ∀ g, K g → g < w.heap.size) (hc : ts.length ≤ c) (hcm : c ≤ maxLen) (hl : ts.length ≤ 1000000) (ht : ∀ t ∈ ts, NodOk l.length t) (hE : EnterF fa) (hF : ∀ t ∈ ts, AskC w K fa p pF t) :
    Calls Tryd.prog 43 #[.agg #[.slice An l.length cn, .slice As l.length cs], .slice A ts.length c, .func (.func fa) #[] #[.pointer (some p)]] w fun e w' => RowPost K w.heap.size (rowF idleT (pgOf l R) pF ts) w' e ∧ Below w.heap.size w w' := by
  have HB := hide ((Below.refl w.heap.size w).alloc (Nat.le_refl _) (.cells #[.slice An l.length cn, .slice As l.length cs] 75))
  have HC := hide (splitTree_any l R An As cn cs ts A c K fa p pF (w.alloc (.cells #[.slice An l.length cn, .slice As l.length cs] 75)) (hM.later HB.out (Nat.le_refl _)) (hR.below HB.out hK) (fun g hg => Nat.lt_of_lt_of_le (hK g hg) HB.out.size) hc hcm hl ht hE (fun t h => (hF t h).later HB.out))
  generalize rowF idleT (pgOf l R) pF ts = tot at *
  clear hM hR hK ht hF
  go_enter Tryd.func43, Tryd.ntmps43
  go_wp2_with (first | (go_at_call 59; refine HC.out.mono ?_; rintro e w9 ⟨⟨v, xs, rfl, ho, hv⟩, hb9⟩) | fail)
  go_ret
  exact ⟨⟨_, xs, rfl, own_mono ho HB.out.size, hv⟩, HB.out.trans (hb9.mono (bsz HB.out (Nat.le_refl _)))⟩
end Go.Proofs.YtbpkffoooieejaaDoor
/- boxes.maker.container. -/
namespace Go.Proofs.YtbpkffoooieejaaDoor
open Go.ChangeShapes Go.WideShapes Go.ChangeAt Go.RowKit Go.Instr
/-- A tree that is returned: its row lies in blocks that K allows, or that are new. -/
def TreePost (K : Nat → Prop) (a : Nat) (t : Tr) (w' : World) (e : Ending) : Prop :=
  ∃ A c, e = .returned (.agg #[.int .i64 t.kind, .int .i64 t.node, .int .i64 0, .slice none 0 0, .string t.text, .slice A t.kids.length c]) ∧ TrV w' (KNew K a w'.heap.size) t (trC t.kind t.node t.text A t.kids.length c)
theorem KNew.mono {K : Nat → Prop} {a a' b b' : Nat} (ha : a' ≤ a) (hb : b ≤ b') : ∀ g, KNew K a b g → KNew K a' b' g := fun _ h => h.imp id fun ⟨h1, h2⟩ => ⟨Nat.le_trans ha h1, Nat.lt_of_lt_of_le h2 hb⟩
/-- A row that was made: as a slice, with blocks that K allows, or that are new. -/
theorem RowPost.row {K : Nat → Prop} {base : Nat} {l : List Tr} {w : World} {v : Value} (h : ∃ xs, w.ownsRow base 79 6 v l.length xs ∧ TrVs w K l xs) : ∃ A c, v = .slice A l.length c ∧ l.length ≤ c ∧ c ≤ maxLen ∧ TrRow w (KNew K base w.heap.size) A l := by
  obtain ⟨xs, ho, hv⟩ := h
  rcases ho.2 with ⟨rfl, hn⟩ | ⟨g, cap, cur, rfl, hg, hh, hnc, hcm, r⟩
  · exact ⟨none, 0, by rw [hn], by rw [hn]; exact Nat.le_refl _, by decide, by
      have : l = [] := List.eq_nil_of_length_eq_zero hn
      subst this
      exact TrRow.nil _ _ _⟩
  · refine ⟨some ⟨g, 0, none⟩, cap, rfl, hnc, hcm, TrRow.of_own ho rfl hv (fun _ h => .inl h) fun g' hg' => ?_⟩
    obtain rfl : g = g' := by simpa [Value.ownBlock] using hg'
    exact .inr ⟨hg, Blk.lt (t := 79) hh⟩
theorem blk_three (w : World) (o o2 : Obj) (cs : Array Value) (t : TypeId) : Blk (((w.alloc o).alloc o2).alloc (.cells cs t)) (w.heap.size + 1 + 1) t cs := by
  have h := Blk.new ((w.alloc o).alloc o2) t cs
  rwa [show ((w.alloc o).alloc o2).heap.size = w.heap.size + 1 + 1 by simp] at h
theorem int_i1 : (Tryd.prog.info? 3).map (·.size) = some 1 := by kernel_rfl
theorem trs_i1 : (Tryd.prog.info? 77).map (·.size) = some 1 := by kernel_rfl
theorem contr_kids {P : Pg} {node : Int} {l : List Tr} (h : l.any (blockyF P 1) = true) : contrF idleT P node l = .mk 1 node ByteArray.empty (rowF idleT P (blockyF P 1) l) := by
  unfold contrF; rw [if_pos h]
theorem contr_none {P : Pg} {node : Int} {l : List Tr} (h : l.any (blockyF P 1) = false) : contrF idleT P node l = .mk 2 node ByteArray.empty l := by
  unfold contrF; rw [h]; rfl
set_option maxRecDepth 100000 in
set_option maxHeartbeats 40000000 in
theorem container_any (l : List Nd) (R : Nat → Nat → Int) (An As : Option Addr) (cn cs : Nat) (node : Int) (ts : List Tr) (A : Option Addr) (c : Nat) (K : Nat → Prop) (w : World) (hM : MkIn w w.heap.size An As l R) (hR : TrRow w K A ts) (hK : ∀ g, K g → g < w.heap.size) (hc : ts.length ≤ c) (hcm : c ≤ maxLen) (hl : ts.length ≤ 1000000) (ht : ∀ t ∈ ts, NodOk l.length t) :
    Calls Tryd.prog 22 #[.agg #[.slice An l.length cn, .slice As l.length cs], .int .i64 node, .slice A ts.length c] w fun e w' => TreePost K w.heap.size (contrF idleT (pgOf l R) node ts) w' e ∧ Below w.heap.size w w' := by
  have hb1 := (Below.refl w.heap.size w).alloc (Nat.le_refl _) (.cells #[.slice An l.length cn, .slice As l.length cs] 75)
  have hb2 := hb1.alloc hb1.size (.cells #[.int .i64 0, .int .i64 0, .int .i64 0, .slice none 0 0, .string ⟨#[]⟩, .slice none 0 0] 79)
  have HB := hide (hb2.alloc hb2.size (.cells #[.int .i64 2, .int .i64 node, .int .i64 0, .slice none 0 0, .string ⟨#[]⟩, .slice A ts.length c] 79))
  have HD := hide (((Blk.new w 75 #[.slice An l.length cn, .slice As l.length cs]).alloc (.cells #[.int .i64 0, .int .i64 0, .int .i64 0, .slice none 0 0, .string ⟨#[]⟩, .slice none 0 0] 79)).alloc (.cells #[.int .i64 2, .int .i64 node, .int .i64 0, .slice none 0 0, .string ⟨#[]⟩, .slice A ts.length c] 79))
  have HZ := hide ((blk_two w (.cells #[.slice An l.length cn, .slice As l.length cs] 75) #[.int .i64 0, .int .i64 0, .int .i64 0, .slice none 0 0, .string ⟨#[]⟩, .slice none 0 0] 79).alloc (.cells #[.int .i64 2, .int .i64 node, .int .i64 0, .slice none 0 0, .string ⟨#[]⟩, .slice A ts.length c] 79))
  have HT := hide (blk_three w (.cells #[.slice An l.length cn, .slice As l.length cs] 75) (.cells #[.int .i64 0, .int .i64 0, .int .i64 0, .slice none 0 0, .string ⟨#[]⟩, .slice none 0 0] 79) #[.int .i64 2, .int .i64 node, .int .i64 0, .slice none 0 0, .string ⟨#[]⟩, .slice A ts.length c] 79)
  clear hb1 hb2
  go_enter Tryd.func22, Tryd.ntmps22
  go_wp2_with fail
  generalize ((w.alloc (.cells #[.slice An l.length cn, .slice As l.length cs] 75)).alloc (.cells #[.int .i64 0, .int .i64 0, .int .i64 0, .slice none 0 0, .string ⟨#[]⟩, .slice none 0 0] 79)).alloc (.cells #[.int .i64 2, .int .i64 node, .int .i64 0, .slice none 0 0, .string ⟨#[]⟩, .slice A ts.length c] 79) = w3 at *
  obtain ⟨D, hD⟩ : ∃ D, D = w.heap.size := ⟨_, rfl⟩
  rw [← hD] at HB HD HZ HT hM hK ⊢
  have hDw : D ≤ w.heap.size := by omega
  have HM := hide hM
  have HK := hide hK
  have HR := hide hR
  have HTS := hide ht
  have HDE := hide hD
  clear hD hM hK hR ht
  have HKW := hide (fun (Z : World) (h : Below D w Z) => show ∀ g, K g → g < Z.heap.size from fun g hg => Nat.lt_of_lt_of_le (HK.out g hg) (bsz h hDw))
  have HMW := hide (fun (Z : World) (h : Below D w Z) => HM.out.later h hDw)
  have HRW := hide (fun (Z : World) (h : Below D w Z) => HR.out.below h HK.out)
  have HC := hide (hasTree_any ts A c K 40 ⟨D, 0, none⟩ (blockyF (pgOf l R) 1) w3 (HRW.out _ HB.out) (HKW.out _ HB.out) hl enter40 (fun t h => ask40C (HMW.out _ HB.out) HD.out (HTS.out t h)))
  have HRO := hide (fun (Z : World) (h : Below D w Z) (hd : Blk Z D 75 #[.slice An l.length cn, .slice As l.length cs]) => row_any l R An As cn cs ts A c K 40 ⟨D, 0, none⟩ (blockyF (pgOf l R) 1) Z (HMW.out _ h) (HRW.out _ h) (HKW.out _ h) hc hcm hl HTS.out enter40 (fun t ht => ask40C (HMW.out _ h) hd (HTS.out t ht)))
  have HLE := hide (show (rowF idleT (pgOf l R) (blockyF (pgOf l R) 1) ts).length ≤ 1000000 from Nat.le_trans (split_len _ _) hl)
  cases hany : ts.any (blockyF (pgOf l R) 1)
  · have HZC := hide (contr_none (node := node) hany)
    rw [hany] at HC
    clear hany
    go_wp2_with (first
      | (go_at_call 42; refine HC.out.mono ?_; rintro e w4 ⟨rfl, hb4⟩; have HB4 := hide (HB.out.trans (hb4.mono (bsz HB.out hDw))); have HD4 := hide (HD.out.below hb4 HD.out.lt); have HZ4 := hide (HZ.out.below hb4 HZ.out.lt); have HT4 := hide (HT.out.below hb4 HT.out.lt); clear hb4)
      | (refine wpList_load_row rfl 79 (.tmp 8) rfl (D + 1 + 1) rfl _ _ (0, 0) _ HT4.out tr_u rfl (tr_i _ _ _ _ _ _) ?_)
      | (refine wpList_store_blk rfl 79 (.tmp 6) (.tmp 24) rfl (D + 1) 79 _ _ rfl rfl HZ4.out rfl (tr_i _ _ _ _ _ _) (tr_ones _ _ _ _ _ _) ?_; intro w6 hB6 hG6; have HZ6 := hide hB6; have HB6 := hide (below_grown HB4.out hDw hG6 (by omega)); clear hB6 hG6)
      | fail)
    refine bodyPost_ret (results_cell_row rfl _ _ (D + 1) 79 _ (0, 0) _ rfl HZ6.out tr_u rfl (tr_i _ _ _ _ _ _)) rfl ?_
    rw [HZC.out, ← HDE.out]
    exact ⟨⟨A, c, rfl, TrV.of (by decide) hl hc hcm ((HRW.out _ HB6.out).mono fun _ h => .inl h)⟩, HB6.out⟩
  · have HZC := hide (contr_kids (node := node) hany)
    rw [hany] at HC
    clear hany
    generalize rowF idleT (pgOf l R) (blockyF (pgOf l R) 1) ts = tot at *
    go_wp2_with (first
      | (go_at_call 42; refine HC.out.mono ?_; rintro e w4 ⟨rfl, hb4⟩; have HB4 := hide (HB.out.trans (hb4.mono (bsz HB.out hDw))); have HD4 := hide (HD.out.below hb4 HD.out.lt); have HZ4 := hide (HZ.out.below hb4 HZ.out.lt); have HT4 := hide (HT.out.below hb4 HT.out.lt); have m0 := HD4.out.cell 0; have m1 := HD4.out.cell 1; simp only [List.getElem?_toArray, List.getElem?_cons_zero, List.getElem?_cons_succ] at m0 m1; clear hb4)
      | (go_at_call 43; refine (HRO.out _ HB4.out HD4.out).mono ?_; rintro e w5 ⟨⟨v5, xs5, rfl, ho5, hv5⟩, hb5⟩; have HB5 := hide (HB4.out.trans (hb5.mono (bsz HB4.out hDw))); have HZ5 := hide (HZ4.out.below hb5 HZ4.out.lt); have HT5 := hide (HT4.out.below hb5 HT4.out.lt); obtain ⟨A5, c5, rfl, hl5, hc5, hr5⟩ := RowPost.row ⟨xs5, ho5, hv5⟩; have HR5 := hide hr5; have h4D := HB4.out.size; clear hb5 ho5 hv5 hr5)
      | (refine wpList_store_fld rfl 3 (.tmp 22) (.const (.int .i64 1)) rfl (D + 1 + 1) 0 79 _ (.int .i64 1) rfl rfl HT5.out (Nat.le_of_ble_eq_true rfl) int_i1 rfl rfl ?_; intro w6 hB6 hG6; have HT6 := hide hB6; have HG6 := hide hG6; have HZ6 := hide (HZ5.out.grown hG6 (fun e => by injection e with e; omega)); have HB6 := hide (below_grown HB5.out hDw hG6 (by omega)); clear hB6 hG6)
      | (refine wpList_store_fld rfl 77 (.tmp 23) (.tmp 20) rfl (D + 1 + 1) 5 79 _ (.slice A5 tot.length c5) rfl rfl HT6.out (Nat.le_of_ble_eq_true rfl) trs_i1 rfl rfl ?_; intro w7 hB7 hG7; have HT7 := hide (show Blk w7 (D + 1 + 1) 79 #[.int .i64 1, .int .i64 node, .int .i64 0, .slice none 0 0, .string ⟨#[]⟩, .slice A5 tot.length c5] from hB7); have HG7 := hide hG7; have HZ7 := hide (HZ6.out.grown hG7 (fun e => by injection e with e; omega)); have HB7 := hide (below_grown HB6.out hDw hG7 (by omega)); clear hB7 hG7)
      | (refine wpList_load_row rfl 79 (.tmp 8) rfl (D + 1 + 1) rfl _ _ (0, 0) _ HT7.out tr_u rfl (tr_i _ _ _ _ _ _) ?_)
      | (refine wpList_store_blk rfl 79 (.tmp 6) (.tmp 24) rfl (D + 1) 79 _ _ rfl rfl HZ7.out rfl (tr_i _ _ _ _ _ _) (tr_ones _ _ _ _ _ _) ?_; intro w8 hB8 hG8; have HZ8 := hide hB8; have HG8 := hide hG8; have HB8 := hide (below_grown HB7.out hDw hG8 (by omega)); clear hB8 hG8)
      | fail)
    have HR8 := hide (show TrRow w8 (KNew K D w8.heap.size) A5 tot from by
      have k6 := HG6.out.size
      have k7 := HG7.out.size
      have k8 := HG8.out.size
      refine HR5.out.keep (fun p hp => ?_) (KNew.mono (Nat.le_trans hDw h4D) (by omega))
      have hp5 : p.block < w5.heap.size := hp.elim (fun h => HKW.out _ HB5.out _ h) fun h => h.2
      have hne : p.block ≠ D + 1 ∧ p.block ≠ D + 1 + 1 := by
        rcases hp with h | h
        · have := HK.out _ h; omega
        · have h1 := HZ4.out.lt
          have h2 := HT4.out.lt
          omega
      rw [World.cell?_of_block (HG8.out.block p.block (by omega) (fun e => by injection e with e; omega)), World.cell?_of_block (HG7.out.block p.block (by omega) (fun e => by injection e with e; omega)), World.cell?_of_block (HG6.out.block p.block (by omega) (fun e => by injection e with e; omega))])
    refine bodyPost_ret (results_cell_row rfl _ _ (D + 1) 79 _ (0, 0) _ rfl HZ8.out tr_u rfl (tr_i _ _ _ _ _ _)) rfl ?_
    rw [HZC.out, ← HDE.out]
    exact ⟨⟨A5, c5, rfl, TrV.of (by decide) HLE.out hl5 hc5 HR8.out⟩, HB8.out⟩
end Go.Proofs.YtbpkffoooieejaaDoor
/- The walk of order.belonging. -/
namespace Go.Proofs.YtbpkffoooieejaaDoor
open Go.ChangeShapes Go.WideShapes Go.ChangeAt Go.RowKit
def natCells (l : List Nat) : List Value := l.map fun (k : Nat) => .int .i64 (k : Int)
theorem natCells_len (l : List Nat) : (natCells l).length = l.length := by simp [natCells]
theorem natCells_at (l : List Nat) (j : Nat) : (natCells l)[j]? = (l[j]?).map fun (k : Nat) => .int .i64 (k : Int) := by simp [natCells]
theorem natCells_app (l m : List Nat) : natCells (l ++ m) = natCells l ++ natCells m := by simp [natCells]
/-- What belonging and the comparison read: the marks and the kids of n frags, in blocks below B. -/
structure KidR (w : World) (B bo n : Nat) (kids : Nat → List Nat) (own : Nat → Bool) (bm bk cm ck : Nat) : Prop where
  o : bo < B
  m : bm < B
  k : bk < B
  c0 : w.cell? ⟨bo, 0, none⟩ = some (.slice (some ⟨bm, 0, none⟩) n cm)
  c1 : w.cell? ⟨bo, 1, none⟩ = some (.slice (some ⟨bk, 0, none⟩) n ck)
  mks : ∀ f, f < n → ∃ i z p, w.cell? ⟨bm, f * 3, none⟩ = some (.int .i64 i) ∧ w.cell? ⟨bm, f * 3 + 1, none⟩ = some (.int .i64 z) ∧ w.cell? ⟨bm, f * 3 + 2, none⟩ = some (.int .i64 p) ∧ (i = 0 ↔ own f = false)
  kd : ∀ f, f < n → ∃ A c, w.cell? ⟨bk, f, none⟩ = some (.slice A (kids f).length c) ∧ Reads w B 1 A (kids f).length (natCells (kids f))
theorem KidR.below {w w' : World} {B bo n bm bk cm ck : Nat} {kids : Nat → List Nat} {own : Nat → Bool} (h : KidR w B bo n kids own bm bk cm ck) (hb : Below B w w') : KidR w' B bo n kids own bm bk cm ck where
  o := h.o
  m := h.m
  k := h.k
  c0 := (hb.cell (p := ⟨bo, 0, none⟩) h.o).trans h.c0
  c1 := (hb.cell (p := ⟨bo, 1, none⟩) h.o).trans h.c1
  mks := fun f hf => by
    obtain ⟨i, z, p, h1, h2, h3, h4⟩ := h.mks f hf
    exact ⟨i, z, p, (hb.cell (p := ⟨bm, f * 3, none⟩) h.m).trans h1, (hb.cell (p := ⟨bm, f * 3 + 1, none⟩) h.m).trans h2, (hb.cell (p := ⟨bm, f * 3 + 2, none⟩) h.m).trans h3, h4⟩
  kd := fun f hf => by
    obtain ⟨A, c, h1, h2, h3⟩ := h.kd f hf
    refine ⟨A, c, (hb.cell (p := ⟨bk, f, none⟩) h.k).trans h1, h2, fun h0 => ?_⟩
    obtain ⟨ad, e1, e2, e3⟩ := h3 h0
    refine ⟨ad, e1, e2, fun j u hu => ?_⟩
    rw [← e3 j u hu]
    exact hb.cell (p := ad.add j) (by unfold Addr.add; split <;> exact e2)
theorem natK_form {w : World} {B : Nat} {A : Option Addr} {l : List Nat} (h : Reads w B 1 A l.length (natCells l)) (h0 : 0 < l.length) : ∃ g off, A = some ⟨g, off, none⟩ ∧ g < B ∧ ∀ (j k : Nat), l[j]? = some k → w.cell? ⟨g, off + j, none⟩ = some (.int .i64 (k : Int)) := by
  have hc : natCells l = (l.map Int.ofNat).map (Value.int .i64) := by simp [natCells]
  have h2 : Reads w B 1 A (l.map Int.ofNat).length ((l.map Int.ofNat).map (Value.int .i64)) := by rw [List.length_map, ← hc]; exact h
  obtain ⟨g, off, h3, h4, h5⟩ := kid_form h2 (by simpa using h0)
  refine ⟨g, off, h3, h4, fun j k hj => ?_⟩
  have hjl := (List.getElem?_eq_some_iff.1 hj).1
  rw [h5 j (by simpa using hjl)]
  simp [List.getD, hj]
theorem KidR.mono {w : World} {B B' bo n bm bk cm ck : Nat} {kids : Nat → List Nat} {own : Nat → Bool} (h : KidR w B bo n kids own bm bk cm ck) (hB : B ≤ B') : KidR w B' bo n kids own bm bk cm ck where
  o := Nat.lt_of_lt_of_le h.o hB
  m := Nat.lt_of_lt_of_le h.m hB
  k := Nat.lt_of_lt_of_le h.k hB
  c0 := h.c0
  c1 := h.c1
  mks := h.mks
  kd := fun f hf => by
    obtain ⟨A, c, h1, h2, h3⟩ := h.kd f hf
    refine ⟨A, c, h1, h2, fun h0 => ?_⟩
    obtain ⟨ad, e1, e2, e3⟩ := h3 h0
    exact ⟨ad, e1, Nat.lt_of_lt_of_le e2 hB, e3⟩
theorem int_inf : (Tryd.prog.info? 3).map (fun i => (i.zero, i.size, i.bytes)) = some (some (.int .i64 0), 1, 8) := by kernel_rfl
def BelPost (l : List Nat) (base : Nat) (w' : World) (e : Ending) : Prop := ∃ v, e = .returned v ∧ w'.ownsRow base 3 1 v l.length (natCells l)
set_option maxRecDepth 100000 in
set_option maxHeartbeats 40000000 in
theorem bel_any (n : Nat) (par : Nat → Nat) (hp : ∀ i, 0 < i → i < n → par i < i) (own : Nat → Bool) (bo bm bk cm ck : Nat) (hn : n ≤ 300000) : ∀ (d f : Nat) (w : World), f < n → n ≤ d + f → KidR w w.heap.size bo n (kidsF n par) own bm bk cm ck →
    Calls Tryd.prog 31 #[.pointer (some ⟨bo, 0, none⟩), .int .i64 (f : Int)] w fun e w' => BelPost (belF (kidsF n par) own d f) w.heap.size w' e ∧ Below w.heap.size w w' := by
  intro d
  induction d with
  | zero => intro f w hf hd; omega
  | succ d ih =>
    intro f w hf hd hR
    have hlen : (belF (kidsF n par) own (d + 1) f).length ≤ n := bel_len n par hp own (d + 1) f
    have hlt := kidsF_lt n par hp
    have hkl : (kidsF n par f).length ≤ n := by
      unfold kidsF
      exact Nat.le_trans (List.length_filter_le _ _) (by simp)
    have HR := hide hR
    have c1 := hR.c1
    obtain ⟨A, c, ck0, hrd⟩ := hR.kd f hf
    have hK0 := fun h0 => natK_form hrd h0
    clear hrd
    have HK := hide hK0
    clear hK0
    have Bi := Below.refl w.heap.size w
    have hf2 : ¬ n ≤ f := by omega
    clear hR
    go_enter Tryd.func31, Tryd.ntmps31
    go_wp2_with fail
    go_loopw [5, 16] (fun v i wr => ∃ j : Nat, j ≤ (kidsF n par f).length ∧ i = .int .i64 j ∧ wr.ownsRow w.heap.size 3 1 v (belP (kidsF n par) own d f j).length (natCells (belP (kidsF n par) own d f j)) ∧ Below w.heap.size w wr) (fun _ i _ => (kidsF n par f).length - (intOf i).toNat)
    case atStart => exact ⟨0, Nat.zero_le _, rfl, by rw [belP_zero]; exact own_none _ _ _ _, Bi⟩
    case round =>
      clear Bi
      obtain ⟨j, hj, rfl, hown, hbel⟩ := hrel
      by_cases hjl : j < (kidsF n par f).length
      · obtain ⟨k, hk⟩ : ∃ k, (kidsF n par f)[j]? = some k := ⟨_, List.getElem?_eq_getElem hjl⟩
        obtain ⟨hfk, hkn⟩ := hlt f k (List.mem_of_getElem? hk)
        obtain ⟨g, off, rfl, hg, hcell⟩ := HK.out (by omega)
        have q0 : wr.cell? ⟨g, off + j, none⟩ = some (.int .i64 (k : Int)) := (hbel.cell (p := ⟨g, off + j, none⟩) hg).trans (hcell j k hk)
        obtain ⟨i, z, p, hi, _, _, hio⟩ := HR.out.mks k hkn
        have hc0 := HR.out.c0
        have hs1 := belP_succ (kidsF n par) own d f j k hk
        have hl1 := belP_len (kidsF n par) own d f (j + 1)
        have hl0 := belP_len (kidsF n par) own d f j
        have hbA := hbel.alloc hbel.size (.cells #[.int .i64 (k : Int)] 3)
        have HW := hide (hown.alloc (.cells #[.int .i64 (k : Int)] 3))
        have HN := hide (Blk.new wr 3 #[.int .i64 (k : Int)])
        have hkn2 : ¬ n ≤ k := by omega
        have hom := HR.out.m
        have hoo := HR.out.o
        have HBA := hide hbA
        have HC := hide (And.intro hi hc0)
        clear hown HK ck0 c1 hbA
        clear hcell hi hc0
        obtain ⟨v, hv⟩ : ∃ v, v = u5 := ⟨_, rfl⟩
        rw [← hv] at HW ⊢
        clear hv
        have hL0 : (belP (kidsF n par) own d f j).length ≤ 1000000 := by omega
        go_wp2_with (first
          | (at_builtin; refine wpList_app1 rfl (.tmp 20) (.tmp 22) _ rfl w.heap.size 3 _ 1 8 Tryd.underlying35 int_inf rfl (Nat.succ_pos _) v _ _ rfl HW.out wr.heap.size 1 _ HN.out rfl rfl rfl hL0 (Nat.le_of_ble_eq_true rfl) HBA.out.size ?_; intro v4 w4 hown4 hg4; have hb4 := own_below HW.out HBA.out (Nat.le_refl _) (Nat.le_refl _) hg4; have hc4 := (hb4.cell (p := ⟨bo, 0, none⟩) hoo).trans HC.out.2; have hi4 := (hb4.cell (p := ⟨bm, k * 3, none⟩) hom).trans HC.out.1)
          | fail)
        · have hk0 : own k = false := by first | exact hio.1 rfl | exact hio.1 (by assumption) | exact hio.1 (beq_iff_eq.1 (by assumption))
          have hs2 : belP (kidsF n par) own d f (j + 1) = belP (kidsF n par) own d f j ++ [k] ++ belF (kidsF n par) own d k := by rw [hs1, hk0]; simp
          have hl2 : (belP (kidsF n par) own d f j).length + 1 + (belF (kidsF n par) own d k).length ≤ n := by
            have := congrArg List.length hs2
            simp only [List.length_append, List.length_cons, List.length_nil] at this
            omega
          refine (ih k w4 hkn (by omega) ((HR.out.below hb4).mono hb4.size)).mono ?_
          rintro e w5 ⟨⟨v5, rfl, hown5⟩, hb5⟩
          have hk5 := own_keep hown4 hb5 (own_lt hown4)
          have hb6 := hb4.trans (hb5.mono hb4.size)
          obtain ⟨A5, c5, rfl, _, hr5⟩ := own_reads hown5
          obtain ⟨i0, hi0, hz0, hz1, hz2⟩ := info_parts int_inf
          have hone : ∀ u ∈ natCells (belF (kidsF n par) own d k), u.oneCell' = true := by
            intro u hu
            obtain ⟨y, _, rfl⟩ := List.mem_map.1 hu
            rfl
          have hm1 : (belP (kidsF n par) own d f j).length + 1 + (belF (kidsF n par) own d k).length ≤ maxLen := by simp only [maxLen]; omega
          have hm2 : ((belP (kidsF n par) own d f j).length + 1 + (belF (kidsF n par) own d k).length) * 8 ≤ 140737488355328 := by omega
          have HK5 := hide hk5
          have HB6 := hide hb6
          have HR5 := hide hr5
          have HO := hide hone
          clear hown4 hb4 hb5 hown5 hk5 hr5 hc4 hi4 hb6
          go_wp2_with (first
            | (at_builtin; refine wpList_append_any _ rfl (.tmp 33) (.tmp 36) _ rfl w.heap.size 3 i0 _ 1 8 Tryd.underlying35 hi0 hz0 hz1 hz2 rfl (Nat.succ_pos _) v4 _ _ rfl HK5.out w5.heap.size A5 _ c5 _ rfl HR5.out HO.out hm1 hm2 HB6.out.size ?_; intro v6 w6 hown6 hg6 hat6; have hb7 := own_below HK5.out HB6.out (Nat.le_refl _) (Nat.le_refl _) hg6)
            | fail)
          go_roundw
          case rel =>
            refine ⟨j + 1, by omega, by go_num, ?_, hb7⟩
            rw [hs2, natCells_app, natCells_app, List.length_append, List.length_append]
            exact hown6
          case measure => simp only [intOf]; omega
        · have hk0 : own k = true := by
            cases ho : own k
            · first | exact absurd (hio.2 ho) (by assumption) | exact absurd (beq_iff_eq.2 (hio.2 ho)) (by assumption) | exact absurd (beq_iff_eq.2 (hio.2 ho)) (Bool.eq_false_iff.1 (by assumption))
            · rfl
          have hs2 : belP (kidsF n par) own d f (j + 1) = belP (kidsF n par) own d f j ++ [k] := by rw [hs1, hk0]; simp
          go_roundw
          case rel =>
            refine ⟨j + 1, by omega, by go_num, ?_, hb4⟩
            rw [hs2, natCells_app, List.length_append]
            exact hown4
          case measure => simp only [intOf]; omega
      · obtain rfl : j = (kidsF n par f).length := by omega
        go_wp2_with fail
        go_ret
        rw [belP_all] at hown
        exact ⟨⟨_, rfl, hown⟩, hbel⟩
end Go.Proofs.YtbpkffoooieejaaDoor
/- boxes.maker.content. -/
namespace Go.Proofs.YtbpkffoooieejaaDoor
open Go.ChangeShapes Go.WideShapes Go.ChangeAt Go.RowKit
def contP (P : Pg) (d n j : Nat) : List Nat := ((P.kd n).take j).flatMap (contOne P (contF P d))
theorem contP_zero (P : Pg) (d n : Nat) : contP P d n 0 = [] := rfl
theorem contP_succ (P : Pg) (d n j k : Nat) (h : (P.kd n)[j]? = some k) : contP P d n (j + 1) = contP P d n j ++ contOne P (contF P d) k := by
  unfold contP
  rw [List.take_add_one, h]
  simp
theorem contP_all (P : Pg) (d n : Nat) : contP P d n (P.kd n).length = contF P (d + 1) n := by
  unfold contP
  rw [List.take_length, contF]
theorem contP_le (P : Pg) (d n j : Nat) : (contP P d n j).length ≤ (contF P (d + 1) n).length := by
  unfold contP
  rw [contF]
  conv => rhs; rw [← List.take_append_drop j (P.kd n), List.flatMap_append, List.length_append]
  omega
def mkA (An As : Option Addr) (m cn cs : Nat) : Array Value := #[.slice An m cn, .slice As m cs]
def ContPost (l : List Nat) (base : Nat) (w' : World) (e : Ending) : Prop := ∃ v, e = .returned v ∧ w'.ownsRow base 3 1 v l.length (natCells l)
set_option maxRecDepth 100000 in
set_option maxHeartbeats 40000000 in
theorem content_any (l : List Nd) (R : Nat → Nat → Int) (An As : Option Addr) (cn cs : Nat) (lev : Nat → Nat) (hT : DocT (pgOf l R) l.length lev) (hK : KidsOk l) (hL : ∀ d n, n < l.length → (contF (pgOf l R) d n).length ≤ 1000) : ∀ (d n : Nat) (w : World), n < l.length → 41 ≤ d + lev n → MkIn w w.heap.size An As l R →
    Calls Tryd.prog 24 #[.agg #[.slice An l.length cn, .slice As l.length cs], .int .i64 (n : Int)] w fun e w' => ContPost (contF (pgOf l R) d n) w.heap.size w' e ∧ Below w.heap.size w w' := by
  intro d
  induction d with
  | zero => intro n w hn hd; have := hT.top n hn; omega
  | succ d ih =>
    intro n w hn hd hM
    have hlen := hL (d + 1) n hn
    have hpre := contP_le (pgOf l R) d n
    have hIH := hide ih
    clear ih
    obtain ⟨g, off, Aa, ca, Ak, ck, rfl, hg, hnd, hns⟩ := hM.nds n hn
    have HM := hide hM
    have HM0 := hide (hM.below ((Below.refl w.heap.size w).alloc (Nat.le_refl _) (.cells #[.slice (some ⟨g, off, none⟩) l.length cn, .slice As l.length cs] 75)))
    have HB := hide ((Below.refl w.heap.size w).alloc (Nat.le_refl _) (.cells #[.slice (some ⟨g, off, none⟩) l.length cn, .slice As l.length cs] 75))
    have HB0 := HB
    have HD := hide (Blk.new w 75 #[.slice (some ⟨g, off, none⟩) l.length cn, .slice As l.length cs])
    have hnl : ¬ l.length ≤ n := by omega
    have d5 := (hnd.below HB.out hg).c5
    have HKD := hide (hK.kid n hn)
    have HKF := hide (fun h0 => kid_form (hnd.below HB.out hg).kids h0)
    have hkl : (pgOf l R).kd n = (ndAt l n).kids.map Int.toNat := rfl
    have HKN := hide hkl
    obtain ⟨ks, hks⟩ : ∃ ks, ks = (ndAt l n).kids := ⟨_, rfl⟩
    rw [← hks] at HKN HKD HKF d5
    have hkm : ks.length ≤ 9223372036854775807 := by
      have h1 := hns.kids
      have h2 := hns.kidc
      rw [← hks] at h1
      unfold maxLen at h2
      omega
    clear hks hnd hns hM hkl
    obtain ⟨nk, hnk⟩ : ∃ nk, nk = ks.length := ⟨_, rfl⟩
    rw [← hnk] at d5 HKF hkm
    have HNK := hide hnk
    clear hnk
    go_enter Tryd.func24, Tryd.ntmps24
    go_wp2_with fail
    clear d5
    generalize w.alloc (.cells #[.slice (some ⟨g, off, none⟩) l.length cn, .slice As l.length cs] 75) = wd at *
    obtain ⟨D, hD⟩ : ∃ D, D = w.heap.size := ⟨_, rfl⟩
    rw [← hD] at HM HM0 HB HB0 HD HKF ⊢
    have hDw : D ≤ w.heap.size := by omega
    have HDE := hide hD
    clear hD
    have hDg : g < D := by have := HDE.out; omega
    have hnk : nk = ((pgOf l R).kd n).length := by rw [HKN.out, List.length_map, HNK.out]
    have HNK2 := hide hnk
    clear hnk
    go_loopw [5, 16] (fun v i wr => ∃ j : Nat, j ≤ nk ∧ i = .int .i64 j ∧ wr.ownsRow D 3 1 v (contP (pgOf l R) d n j).length (natCells (contP (pgOf l R) d n j)) ∧ Blk wr D 75 #[.slice (some ⟨g, off, none⟩) l.length cn, .slice As l.length cs] ∧ Below D w wr) (fun _ i _ => nk - (intOf i).toNat)
    case atStart => exact ⟨0, Nat.zero_le _, rfl, by rw [contP_zero]; exact own_none _ _ _ _, HD.out, HB.out⟩
    case round =>
      clear HD HB
      obtain ⟨j, hj, rfl, hown, hblk, hbel⟩ := hrel
      have HOC := hide hown
      have HDC := hide hblk
      have HBC := hide hbel
      clear hown hblk hbel
      obtain ⟨v, hv⟩ : ∃ v, v = u5 := ⟨_, rfl⟩
      rw [← hv] at HOC ⊢
      clear hv
      by_cases hjl : j < nk
      · obtain ⟨gk, ok, rfl, hgk, hkc⟩ := HKF.out (by omega)
        have hjks : j < ks.length := by rw [← HNK.out]; exact hjl
        obtain ⟨kk, hkk⟩ : ∃ kk : Nat, ks.getD j 0 = (kk : Int) := ⟨(ks.getD j 0).toNat, by
          have := HKD.out (ks.getD j 0) (by rw [List.getD, List.getElem?_eq_getElem hjks]; simp)
          omega⟩
        have q0 := (HBC.out.cell (p := ⟨gk, ok + j, none⟩) hgk).trans (((HB0.out.cell (p := ⟨gk, ok + j, none⟩) hgk).symm.trans (hkc j hjl)).trans (by rw [hkk]))
        have hmem : (kk : Int) ∈ ks := by rw [← hkk, List.getD, List.getElem?_eq_getElem hjks]; simp
        have hkn : kk < l.length := by have := HKD.out _ hmem; omega
        have hkd : ((pgOf l R).kd n)[j]? = some kk := by
          rw [HKN.out, List.getElem?_map]
          have : ks[j]? = some (kk : Int) := by rw [List.getElem?_eq_getElem hjks]; rw [List.getD, List.getElem?_eq_getElem hjks] at hkk; simpa using hkk
          rw [this]; simp
        have hs1 := contP_succ (pgOf l R) d n j kk hkd
        have hlk := (hT.kid n hn kk (List.mem_of_getElem? hkd)).2
        have hl0 := hpre j
        have hl1 := hpre (j + 1)
        have HSUC := hide hs1
        clear hkc hkk hmem hs1 hkd
        obtain ⟨g1, off1, Aa1, ca1, Ak1, ck1, h1, hg1, hnd1, hns1⟩ := HM0.out.nds kk hkn
        cases h1
        have d0 := (HBC.out.cell (p := ⟨g, off + kk * 6, none⟩) hg1).trans ((HB0.out.cell (p := ⟨g, off + kk * 6, none⟩) hg1).symm.trans hnd1.c0)
        clear hnd1 hg1 hns1
        have hkn2 : ¬ l.length ≤ kk := by omega
        have HIS := hide (fun (w' : World) (h : Below D w w') => is_any l R (some ⟨g, off, none⟩) As cn cs kk w' (HM.out.later h hDw) hkn)
        have HREC := hide (fun (w' : World) (h : Below D w w') => hIH.out kk w' hkn (by omega) (HM.out.later h hDw))
        have HONE := hide (show contOne (pgOf l R) (contF (pgOf l R) d) kk = if (ndAt l kk).kind = 3 then [kk] else if (ndAt l kk).kind ≠ 2 ∨ isF (pgOf l R) kk = 0 then [] else if isF (pgOf l R) kk = 9 then contF (pgOf l R) d kk else [kk] from rfl)
        generalize (ndAt l kk).kind = kind at *
        generalize isF (pgOf l R) kk = z at *
        have HOA := hide (HOC.out.alloc (.cells #[.int .i64 (kk : Int)] 3))
        have HNA := hide (Blk.new wr 3 #[.int .i64 (kk : Int)])
        have HDA := hide (HDC.out.alloc (.cells #[.int .i64 (kk : Int)] 3))
        have HBA := hide (HBC.out.alloc (bsz HBC.out hDw) (.cells #[.int .i64 (kk : Int)] 3))
        have hL0 : (contP (pgOf l R) d n j).length ≤ 1000000 := by omega
        have HLJ := hide (And.intro hl0 hl1)
        have m0 := HDC.out.cell 0
        have m1 := HDC.out.cell 1
        simp only [List.getElem?_toArray, List.getElem?_cons_zero, List.getElem?_cons_succ] at m0 m1
        by_cases hk3 : kind = 3
        · subst hk3
          have HS := hide (show contP (pgOf l R) d n (j + 1) = contP (pgOf l R) d n j ++ [kk] by rw [HSUC.out, HONE.out, if_pos rfl])
          go_wp2_with (first
            | (at_builtin; refine wpList_app1 rfl (.tmp 33) (.tmp 35) _ rfl D 3 _ 1 8 Tryd.underlying35 int_inf rfl (Nat.succ_pos _) v _ _ rfl HOA.out _ 1 _ HNA.out rfl rfl rfl hL0 (Nat.le_of_ble_eq_true rfl) (bsz HBA.out hDw) ?_; intro v4 w4 hown4 hg4; have HO4 := hide hown4; have HB4 := hide (own_below HOA.out HBA.out (Nat.le_refl _) hDw hg4); have HD4 := hide (HDA.out.grown hg4 (fun e => own_blk_ne HOA.out HDA.out (by decide) e.symm)); clear hown4 hg4)
            | fail)
          go_roundw
          case rel => exact ⟨j + 1, by omega, by go_num, by rw [HS.out, natCells_app, List.length_append]; exact HO4.out, HD4.out, HB4.out⟩
          case measure => simp only [intOf]; omega
        · have t3 : (kind == 3) = false := by simpa using hk3
          by_cases hk2 : kind = 2
          · subst hk2
            by_cases hz0 : z = 0
            · have tz : (z == 0) = true := by simpa using hz0
              have HS := hide (show contP (pgOf l R) d n (j + 1) = contP (pgOf l R) d n j by rw [HSUC.out, HONE.out, if_neg hk3, if_pos (.inr hz0), List.append_nil])
              clear hz0
              go_wp2_with (first
                | (go_at_call 45; refine (HIS.out _ HBC.out).mono ?_; rintro e w1 ⟨rfl, hb1⟩; have HOC := hide (own_keep HOC.out hb1 (own_lt HOC.out)); have HDC := hide (HDC.out.below hb1 HDC.out.lt); have HBC := hide (HBC.out.trans (hb1.mono (bsz HBC.out hDw))); have m0 := HDC.out.cell 0; have m1 := HDC.out.cell 1; simp only [List.getElem?_toArray, List.getElem?_cons_zero, List.getElem?_cons_succ] at m0 m1; have HOA := hide (HOC.out.alloc (.cells #[.int .i64 (kk : Int)] 3)); have HNA := hide (Blk.new w1 3 #[.int .i64 (kk : Int)]); have HDA := hide (HDC.out.alloc (.cells #[.int .i64 (kk : Int)] 3)); have HBA := hide (HBC.out.alloc (bsz HBC.out hDw) (.cells #[.int .i64 (kk : Int)] 3)); clear hb1)
                | fail)
              go_roundw
              case rel => exact ⟨j + 1, by omega, by go_num, by rw [HS.out]; exact HOC.out, HDC.out, HBC.out⟩
              case measure => simp only [intOf]; omega
            · have tz : (z == 0) = false := by simpa using hz0
              by_cases hz9 : z = 9
              · have tz9 : (z == 9) = true := by simpa using hz9
                have HS := hide (show contP (pgOf l R) d n (j + 1) = contP (pgOf l R) d n j ++ contF (pgOf l R) d kk by rw [HSUC.out, HONE.out, if_neg hk3, if_neg (fun h => h.elim (fun h => h rfl) hz0), if_pos hz9])
                have hl2 : (contP (pgOf l R) d n j).length + (contF (pgOf l R) d kk).length ≤ 1000 := by
                  have := congrArg List.length HS.out
                  rw [List.length_append] at this
                  omega
                have hm1 : (contP (pgOf l R) d n j).length + (contF (pgOf l R) d kk).length ≤ maxLen := by simp only [maxLen]; omega
                have hm2 : ((contP (pgOf l R) d n j).length + (contF (pgOf l R) d kk).length) * 8 ≤ 140737488355328 := by omega
                obtain ⟨i0, hi0, hy0, hy1, hy2⟩ := info_parts int_inf
                have HO := hide (show ∀ u ∈ natCells (contF (pgOf l R) d kk), u.oneCell' = true from by
                  intro u hu
                  obtain ⟨y, _, rfl⟩ := List.mem_map.1 hu
                  rfl)
                clear hz0 hz9
                go_wp2_with (first
                  | (go_at_call 45; refine (HIS.out _ HBC.out).mono ?_; rintro e w1 ⟨rfl, hb1⟩; have HOC := hide (own_keep HOC.out hb1 (own_lt HOC.out)); have HDC := hide (HDC.out.below hb1 HDC.out.lt); have HBC := hide (HBC.out.trans (hb1.mono (bsz HBC.out hDw))); have m0 := HDC.out.cell 0; have m1 := HDC.out.cell 1; simp only [List.getElem?_toArray, List.getElem?_cons_zero, List.getElem?_cons_succ] at m0 m1; have HOA := hide (HOC.out.alloc (.cells #[.int .i64 (kk : Int)] 3)); have HNA := hide (Blk.new w1 3 #[.int .i64 (kk : Int)]); have HDA := hide (HDC.out.alloc (.cells #[.int .i64 (kk : Int)] 3)); have HBA := hide (HBC.out.alloc (bsz HBC.out hDw) (.cells #[.int .i64 (kk : Int)] 3)); clear hb1)
                  | (go_at_call 24; refine (HREC.out _ HBC.out).mono ?_; rintro e w5 ⟨⟨v5, rfl, hown5⟩, hb5⟩; have HOC := hide (own_keep HOC.out hb5 (own_lt HOC.out)); have HDC := hide (HDC.out.below hb5 HDC.out.lt); have HBC := hide (HBC.out.trans (hb5.mono (bsz HBC.out hDw))); obtain ⟨A5, c5, rfl, _, hr5⟩ := own_reads hown5; have HR5 := hide hr5; clear hb5 hown5 hr5)
                  | (at_builtin; refine wpList_append_any _ rfl (.tmp 51) (.tmp 54) _ rfl D 3 i0 _ 1 8 Tryd.underlying35 hi0 hy0 hy1 hy2 rfl (Nat.succ_pos _) v _ _ rfl HOC.out _ A5 _ c5 _ rfl HR5.out HO.out hm1 hm2 (bsz HBC.out hDw) ?_; intro v6 w6 hown6 hg6 hat6; have HO6 := hide hown6; have HB6 := hide (own_below HOC.out HBC.out (Nat.le_refl _) hDw hg6); have HD6 := hide (HDC.out.grown hg6 (fun e => own_blk_ne HOC.out HDC.out (by decide) e.symm)); clear hown6 hg6 hat6)
                  | fail)
                go_roundw
                case rel => exact ⟨j + 1, by omega, by go_num, by rw [HS.out, natCells_app, List.length_append]; exact HO6.out, HD6.out, HB6.out⟩
                case measure => simp only [intOf]; omega
              · have tz9 : (z == 9) = false := by simpa using hz9
                have HS := hide (show contP (pgOf l R) d n (j + 1) = contP (pgOf l R) d n j ++ [kk] by rw [HSUC.out, HONE.out, if_neg hk3, if_neg (fun h => h.elim (fun h => h rfl) hz0), if_neg hz9])
                clear hz0 hz9
                go_wp2_with (first
                  | (go_at_call 45; refine (HIS.out _ HBC.out).mono ?_; rintro e w1 ⟨rfl, hb1⟩; have HOC := hide (own_keep HOC.out hb1 (own_lt HOC.out)); have HDC := hide (HDC.out.below hb1 HDC.out.lt); have HBC := hide (HBC.out.trans (hb1.mono (bsz HBC.out hDw))); have m0 := HDC.out.cell 0; have m1 := HDC.out.cell 1; simp only [List.getElem?_toArray, List.getElem?_cons_zero, List.getElem?_cons_succ] at m0 m1; have HOA := hide (HOC.out.alloc (.cells #[.int .i64 (kk : Int)] 3)); have HNA := hide (Blk.new w1 3 #[.int .i64 (kk : Int)]); have HDA := hide (HDC.out.alloc (.cells #[.int .i64 (kk : Int)] 3)); have HBA := hide (HBC.out.alloc (bsz HBC.out hDw) (.cells #[.int .i64 (kk : Int)] 3)); clear hb1)
                  | (at_builtin; refine wpList_app1 rfl (.tmp 26) (.tmp 28) _ rfl D 3 _ 1 8 Tryd.underlying35 int_inf rfl (Nat.succ_pos _) v _ _ rfl HOA.out _ 1 _ HNA.out rfl rfl rfl hL0 (Nat.le_of_ble_eq_true rfl) (bsz HBA.out hDw) ?_; intro v4 w4 hown4 hg4; have HO4 := hide hown4; have HB4 := hide (own_below HOA.out HBA.out (Nat.le_refl _) hDw hg4); have HD4 := hide (HDA.out.grown hg4 (fun e => own_blk_ne HOA.out HDA.out (by decide) e.symm)); clear hown4 hg4)
                  | fail)
                go_roundw
                case rel => exact ⟨j + 1, by omega, by go_num, by rw [HS.out, natCells_app, List.length_append]; exact HO4.out, HD4.out, HB4.out⟩
                case measure => simp only [intOf]; omega
          · have t2 : (kind == 2) = false := by simpa using hk2
            have t2' : (kind != 2) = true := by simpa using hk2
            have HS := hide (show contP (pgOf l R) d n (j + 1) = contP (pgOf l R) d n j by rw [HSUC.out, HONE.out, if_neg hk3, if_pos (.inl hk2), List.append_nil])
            go_wp2_with fail
            go_roundw
            case rel => exact ⟨j + 1, by omega, by go_num, by rw [HS.out]; exact HOC.out, HDC.out, HBC.out⟩
            case measure => simp only [intOf]; omega
      · obtain rfl : j = nk := by omega
        have HA := contP_all (pgOf l R) d n
        rw [← HNK2.out] at HA
        go_wp2_with fail
        go_ret
        rw [HA] at HOC
        exact ⟨⟨_, rfl, by rw [← HDE.out]; exact HOC.out⟩, by rw [← HDE.out]; exact HBC.out⟩
end Go.Proofs.YtbpkffoooieejaaDoor
/- Rows of trees that are built; boxes.maker.boxes. -/
namespace Go.Proofs.YtbpkffoooieejaaDoor
open Go.ChangeShapes Go.WideShapes Go.ChangeAt Go.RowKit Go.Instr
def KNo : Nat → Prop := fun _ => False
def KBu (D s : Nat) (v : Value) (g : Nat) : Prop := D ≤ g ∧ g < s ∧ v.ownBlock ≠ some g
/-- The state of a row that is built. -/
structure BuS (D : Nat) (w wr : World) (v : Value) (dn : List Tr) (xs : List Value) : Prop where
  own : wr.ownsRow D 79 6 v dn.length xs
  vs : TrVs wr (KBu D wr.heap.size v) dn xs
  bel : Below D w wr
theorem BuS.none_ {D : Nat} {w wr : World} (hb : Below D w wr) : BuS D w wr (.slice none 0 0) [] [] := ⟨own_none _ _ _ _, by rw [TrVs], hb⟩
theorem BuS.old {D : Nat} {w wr w' : World} {v : Value} {dn : List Tr} {xs : List Value} (h : BuS D w wr v dn xs) (hDw : D ≤ w.heap.size) (hb : Below wr.heap.size wr w') : BuS D w w' v dn xs :=
  ⟨own_keep h.own hb (own_lt h.own), h.vs.keep (keep_below hb fun _ hg => hg.2.1) fun _ hg => ⟨hg.1, Nat.lt_of_lt_of_le hg.2.1 hb.size, hg.2.2⟩, h.bel.trans (hb.mono (bsz h.bel hDw))⟩
/-- One tree more, whose row is none of this row's own. -/
theorem BuS.app {D : Nat} {w wr w' : World} {v v' : Value} {dn : List Tr} {xs : List Value} {t : Tr} {cs : Array Value} {K : Nat → Prop} (h : BuS D w wr v dn xs) (hDw : D ≤ w.heap.size) (ht : TrV wr K t cs.toList) (hK : ∀ g, K g → KBu D wr.heap.size v g) (o : Obj)
    (ho : w'.ownsRow D 79 6 v' (dn.length + 1) (xs ++ cs.toList)) (hg : (wr.alloc o).grownBy w' v.ownBlock) (hat : v'.ownBlock = v.ownBlock ∨ v'.ownBlock = some (wr.alloc o).heap.size) : BuS D w w' v' (dn ++ [t]) (xs ++ cs.toList) := by
  have hb : Below D wr w' := own_below (h.own.alloc o) ((Below.refl D wr).alloc (bsz h.bel hDw) o) (Nat.le_refl _) (bsz h.bel hDw) hg
  have hsz : (wr.alloc o).heap.size = wr.heap.size + 1 := by simp
  have hkeep : ∀ p : Addr, KBu D wr.heap.size v p.block → w'.cell? p = wr.cell? p := fun p hp => by
    rw [World.cell?_of_block (hg.block p.block (by have := hp.2.1; omega) (fun e => hp.2.2 e.symm)), World.cell?_alloc_lt wr o p hp.2.1]
  have hm : ∀ g, KBu D wr.heap.size v g → KBu D w'.heap.size v' g := fun g hp => by
    refine ⟨hp.1, by have h1 := hg.size; have h2 := hp.2.1; omega, ?_⟩
    rcases hat with e | e
    · rw [e]; exact hp.2.2
    · rw [e, hsz]; intro e2; injection e2 with e2; have := hp.2.1; omega
  refine ⟨by rw [List.length_append]; exact ho, (h.vs.keep hkeep hm).snoc (ht.keep (fun p hp => hkeep p (hK _ hp)) fun g hp => hm g (hK g hp)), h.bel.trans hb⟩
theorem BuS.row {D : Nat} {w wr : World} {v : Value} {dn : List Tr} {xs : List Value} (h : BuS D w wr v dn xs) : ∃ A c, v = .slice A dn.length c ∧ dn.length ≤ c ∧ c ≤ maxLen ∧ TrRow wr (KNew KNo D wr.heap.size) A dn := by
  rcases h.own.2 with ⟨hv, hn⟩ | ⟨g, cap, cur, hv, hg, hh, hnc, hcm, r⟩
  · exact ⟨none, 0, by rw [hn]; exact hv, by rw [hn]; exact Nat.le_refl _, by decide, by
      have : dn = [] := List.eq_nil_of_length_eq_zero hn
      subst this
      exact TrRow.nil _ _ _⟩
  · have ho := h.own
    rw [hv] at ho
    refine ⟨some ⟨g, 0, none⟩, cap, hv, hnc, hcm, TrRow.of_own ho rfl h.vs (fun _ h => .inr ⟨h.1, h.2.1⟩) fun g' hg' => ?_⟩
    obtain rfl : g = g' := by simpa [Value.ownBlock] using hg'
    exact .inr ⟨hg, Blk.lt (t := 79) hh⟩
/-- One record is appended: where the row lies is told. -/
theorem wpList_app1L {P : Program} {w : World} {ops : Array Oper} {rest : List Oper} {o : Oper} {a : Act} {Q : Exit → Act → World → Prop} (hgd : o.guard = none) (s x : Operand) (t : TypeId)
    (ho : o.op = .call { callee := .builtin .append, args := #[s, x], argTypes := #[t, t] }) (base : Nat) (e : TypeId) (z : Value) (size bytes : Nat) (ht : P.underlying t = some (.slice e))
    (hinfo : (P.info? e).map (fun i => (i.zero, i.size, i.bytes)) = some (some z, size, bytes)) (hzs : z.cells.size = size) (hsz : 0 < size)
    (v : Value) (n : Nat) (xs : List Value) (hs : a.eval s = v) (hown : w.ownsRow base e size v n xs) (g c : Nat) (cs : Array Value) (hb : Blk w g e cs) (hcs : cs.size = size) (hx : a.eval x = .slice (some ⟨g, 0, none⟩) 1 c)
    (h1 : cs.toList.all (·.oneCell') = true) (hn : n ≤ 1000000) (hby : bytes ≤ 1000) (hbase : base ≤ w.heap.size)
    (h : ∀ v' w', w'.ownsRow base e size v' (n + 1) (xs ++ cs.toList) → w.grownBy w' v.ownBlock → (v'.ownBlock = v.ownBlock ∨ v'.ownBlock = some w.heap.size) → wpList P ops Q rest (a.put o.dst v') w') : wpList P ops Q (o :: rest) a w := by
  obtain ⟨i, hi, hz, hsize, hbytes⟩ := info_parts hinfo
  refine wpList_append_any w hgd s x t ho base e i z size bytes ht hi hz hsize hbytes hzs hsz v n xs hs hown (g + 1) (some ⟨g, 0, none⟩) 1 c cs.toList hx (reads_blk hb size hcs) (List.all_eq_true.1 h1) (by simp only [maxLen]; omega) ?_ hbase fun v' w' h2 h3 h4 => h v' w' h2 h3 h4
  have := Nat.mul_le_mul (show n + 1 ≤ 1000001 by omega) hby
  omega
/-- What box gives, in each world that keeps what is there now. -/
def BxC (w : World) (l : List Nd) (An As : Option Addr) (cn cs : Nat) (g : Nat → Tr) (n : Nat) : Prop :=
  ∀ w1, Below w.heap.size w w1 → Calls Tryd.prog 44 #[.agg #[.slice An l.length cn, .slice As l.length cs], .int .i64 (n : Int)] w1 fun e w' => TreePost KNo w1.heap.size (g n) w' e ∧ Below w1.heap.size w1 w'
theorem BxC.later {w wr : World} {l : List Nd} {An As : Option Addr} {cn cs : Nat} {g : Nat → Tr} {n : Nat} (h : BxC w l An As cn cs g n) (hb : Below w.heap.size w wr) : BxC wr l An As cn cs g n := fun w1 h1 => h w1 (hb.trans (h1.mono hb.size))
/-- A row that is new. -/
def RowNew (a : Nat) (l : List Tr) (w' : World) (e : Ending) : Prop := ∃ A c, e = .returned (.slice A l.length c) ∧ l.length ≤ c ∧ c ≤ maxLen ∧ TrRow w' (KNew KNo a w'.heap.size) A l
theorem KNo.bu {D a s : Nat} {v : Value} (hD : D ≤ a) (hv : ∀ k, v.ownBlock = some k → k < a) : ∀ g, KNew KNo a s g → KBu D s v g := fun g hg => by
  rcases hg with hg | hg
  · exact hg.elim
  · exact ⟨by omega, hg.2, fun e => by have := hv g e; omega⟩
set_option maxRecDepth 100000 in
set_option maxHeartbeats 40000000 in
theorem boxes_any (l : List Nd) (An As : Option Addr) (cn cs : Nat) (g : Nat → Tr) (ns : List Nat) (A : Option Addr) (c : Nat) (w : World) (hR : Reads w w.heap.size 1 A ns.length (natCells ns)) (hl : ns.length ≤ 1000000) (hG : ∀ n ∈ ns, BxC w l An As cn cs g n) :
    Calls Tryd.prog 23 #[.agg #[.slice An l.length cn, .slice As l.length cs], .slice A ns.length c] w fun e w' => RowNew w.heap.size (ns.map g) w' e ∧ Below w.heap.size w w' := by
  have HR := hide (fun h0 => natK_form hR h0)
  have HG := hide hG
  have HB := hide ((Below.refl w.heap.size w).alloc (Nat.le_refl _) (.cells #[.slice An l.length cn, .slice As l.length cs] 75))
  have HD := hide (Blk.new w 75 #[.slice An l.length cn, .slice As l.length cs])
  clear hR hG
  go_enter Tryd.func23, Tryd.ntmps23
  go_wp2_with fail
  generalize w.alloc (.cells #[.slice An l.length cn, .slice As l.length cs] 75) = wd at *
  obtain ⟨D, hD⟩ : ∃ D, D = w.heap.size := ⟨_, rfl⟩
  rw [← hD] at HB HD HR ⊢
  have hDw : D ≤ w.heap.size := by omega
  have HDE := hide hD
  clear hD
  go_loopw [5, 10] (fun v i wr => ∃ (j : Nat) (xs : List Value), j ≤ ns.length ∧ i = .int .i64 j ∧ BuS D w wr v ((ns.take j).map g) xs ∧ Blk wr D 75 #[.slice An l.length cn, .slice As l.length cs]) (fun _ i _ => ns.length - (intOf i).toNat)
  case atStart => exact ⟨0, [], Nat.zero_le _, rfl, BuS.none_ HB.out, HD.out⟩
  case round =>
    clear HB HD
    obtain ⟨j, xs, hj, rfl, hs, hd⟩ := hrel
    obtain ⟨v, hv⟩ : ∃ v, v = u5 := ⟨_, rfl⟩
    rw [← hv] at hs ⊢
    clear hv
    have HS := hide hs
    have HD := hide hd
    clear hs hd
    by_cases hjl : j < ns.length
    · obtain ⟨n, hn⟩ : ∃ n, ns[j]? = some n := ⟨_, List.getElem?_eq_getElem hjl⟩
      obtain ⟨gk, ok, rfl, hgk, hkc⟩ := HR.out (by omega)
      have q0 := (HS.out.bel.cell (p := ⟨gk, ok + j, none⟩) hgk).trans (hkc j n hn)
      have m0 := HD.out.cell 0
      have m1 := HD.out.cell 1
      simp only [List.getElem?_toArray, List.getElem?_cons_zero, List.getElem?_cons_succ] at m0 m1
      have HBX := hide ((HG.out n (List.mem_of_getElem? hn)).later (by rw [← HDE.out]; exact HS.out.bel) wr (Below.refl _ _))
      have HNX := hide (show (ns.take (j + 1)).map g = (ns.take j).map g ++ [g n] by rw [List.take_add_one, hn]; simp)
      have hl0 : ((ns.take j).map g).length ≤ 1000000 := by rw [List.length_map, List.length_take]; omega
      clear hkc hn
      obtain ⟨t, ht⟩ : ∃ t, t = g n := ⟨_, rfl⟩
      rw [← ht] at HBX HNX
      clear ht
      generalize (ns.take j).map g = dn at *
      go_wp2_with (first
        | (go_at_call 44; refine HBX.out.mono ?_; rintro e w7 ⟨⟨A7, c7, rfl, hv7⟩, hb7⟩; have HS7 := hide (HS.out.old hDw hb7); have HD7 := hide (HD.out.below hb7 HD.out.lt); have HV7 := hide hv7; have HO7 := hide (HS7.out.own.alloc (.cells #[.int .i64 t.kind, .int .i64 t.node, .int .i64 0, .slice none 0 0, .string t.text, .slice A7 t.kids.length c7] 79)); have HN7 := hide (Blk.new w7 79 #[.int .i64 t.kind, .int .i64 t.node, .int .i64 0, .slice none 0 0, .string t.text, .slice A7 t.kids.length c7]); have HZ7 := hide (bsz (HS7.out.bel.alloc (bsz HS7.out.bel hDw) (.cells #[.int .i64 t.kind, .int .i64 t.node, .int .i64 0, .slice none 0 0, .string t.text, .slice A7 t.kids.length c7] 79)) hDw); have HDA := hide (HD7.out.alloc (.cells #[.int .i64 t.kind, .int .i64 t.node, .int .i64 0, .slice none 0 0, .string t.text, .slice A7 t.kids.length c7] 79)); clear hb7 hv7)
        | (at_builtin; refine wpList_app1L rfl (.tmp 14) (.tmp 18) _ rfl D 79 _ 6 88 Tryd.underlying77 tr_info rfl (Nat.succ_pos _) v _ _ rfl HO7.out _ 1 _ HN7.out rfl rfl rfl hl0 (Nat.le_of_ble_eq_true rfl) HZ7.out ?_; intro v4 w4 hown4 hg4 hat4; have HS4 := hide (HS7.out.app hDw HV7.out (KNo.bu (bsz HS.out.bel hDw) (own_lt HS.out.own)) _ hown4 hg4 hat4); have HD4 := hide (HDA.out.grown hg4 (fun e => own_blk_ne HO7.out HDA.out (by decide) e.symm)); clear hown4 hg4 hat4)
        | fail)
      go_roundw
      case rel => exact ⟨j + 1, _, by omega, by go_num, by rw [HNX.out]; exact HS4.out, HD4.out⟩
      case measure => simp only [intOf]; omega
    · obtain rfl : j = ns.length := by omega
      have HTK := hide (show (ns.take ns.length).map g = ns.map g by rw [List.take_length])
      rw [HTK.out] at HS
      go_wp2_with fail
      go_ret
      obtain ⟨A5, c5, e5, h6, h7, h8⟩ := HS.out.row
      exact ⟨⟨A5, c5, by rw [← e5]; rfl, h6, h7, by rw [← HDE.out]; exact h8⟩, by rw [← HDE.out]; exact HS.out.bel⟩
end Go.Proofs.YtbpkffoooieejaaDoor
