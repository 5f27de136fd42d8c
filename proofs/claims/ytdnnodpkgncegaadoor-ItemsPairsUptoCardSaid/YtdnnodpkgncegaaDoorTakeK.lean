/- Operations of a region may be taken first although a later one (number k) writes what they read, where k waits for them. No program in sight. -/
import Derived.Test.YtdnnodpkgncegaaDoorTakeCall
import Derived.Test.YtdnnodpkgncegaaDoorStepApp
namespace Go.Proofs.YtdnnodpkgncegaaDoor
open Go.RowKit
section
variable {P : Program} {ops : Array Oper} {Q : Exit → Act → World → Prop} {md : Region.Mode} {S : World → Prop} {k : Nat}
/-- Whatever order is picked, and S holds behind every operation as long as number k has not come up. -/
def wpAnyK (P : Program) (md : Region.Mode) (ops : Array Oper) (Q : Exit → Act → World → Prop) (S : World → Prop) (k : Nat) : Nat → Array Bool → Act → World → Prop
  | 0, l, a, w => Region.ready md ops l = [] ∧ Q .normal a w
  | f + 1, l, a, w => (Region.ready md ops l = [] → Q .normal a w) ∧
      ∀ i ∈ Region.ready md ops l, wpOp P ops Q i (fun a' w' => ((l.setIfInBounds i true).getD k true = false → S w') ∧ wpAnyK P md ops Q S k f (l.setIfInBounds i true) a' w') a w
theorem wpAny_of_K : ∀ (f : Nat) (l : Array Bool) (a : Act) (w : World), wpAnyK P md ops Q S k f l a w → wpAny P md ops Q f l a w
  | 0, _, _, _, h => h
  | f + 1, _, _, _, h => ⟨h.1, fun i hi => wpOp_mono (fun a' w' h' => wpAny_of_K f _ a' w' h'.2) (h.2 i hi)⟩
theorem wp_region_K {id : Nat} {a : Act} {w : World} (hm : P.follows .mixedOrders = true) (hS : S w.drew)
    (h : S w.drew → wpAnyK P .any ops Q S k ops.size (Array.replicate ops.size false) a w.drew) : (Code.region id ops true).wp P Q a w :=
  wp_region_any hm (wpAny_of_K _ _ _ _ (h hS))
theorem wp_region_KL {id : Nat} {a : Act} {w : World} (n : Nat) (l : Array Bool) (hn : ops.size = n) (hl : Array.replicate n false = l) (hm : P.follows .mixedOrders = true) (hS : S w.drew)
    (h : S w.drew → wpAnyK P .any ops Q S k n l a w.drew) : (Code.region id ops true).wp P Q a w := by
  subst hn hl
  exact wp_region_K hm hS h
/-- D: operations that have not come up and wait for i. -/
def Waits (md : Region.Mode) (ops : Array Oper) (l : Array Bool) (i : Nat) (D : List Nat) : Prop :=
  ∀ d ∈ D, l.getD d true = false ∧ ∃ o e, ops[d]? = some o ∧ e ∈ o.after ∧ Region.binds md e = true ∧ (e.on = i ∨ e.on ∈ D)
def waitsB (md : Region.Mode) (ops : Array Oper) (l : Array Bool) (i : Nat) (D : List Nat) : Bool :=
  D.all fun d => !(l.getD d true) && (match ops[d]? with | some o => o.after.any (fun e => Region.binds md e && (e.on == i || D.contains e.on)) | none => false)
theorem waits_of {l : Array Bool} {i : Nat} {D : List Nat} (h : waitsB md ops l i D = true) : Waits md ops l i D := by
  intro d hd
  have h1 := List.all_eq_true.1 h d hd
  rw [Bool.and_eq_true] at h1
  obtain ⟨h2, h3⟩ := h1
  refine ⟨by simpa using h2, ?_⟩
  cases ho : ops[d]? with
  | none => rw [ho] at h3; cases h3
  | some o =>
    rw [ho] at h3
    simp only at h3
    obtain ⟨e, he, h4⟩ := Array.any_eq_true'.1 h3
    rw [Bool.and_eq_true, Bool.or_eq_true] at h4
    exact ⟨o, e, rfl, he, h4.1, by simpa using h4.2⟩
theorem unready {l : Array Bool} {e j : Nat} (h0 : l.getD e true = false) (h1 : l.getD e false = true) : j ≠ j := by
  rcases Nat.lt_or_ge e l.size with h' | h'
  · simp [h'] at h0 h1; rw [h0] at h1; cases h1
  · simp [Array.getElem?_eq_none h'] at h1
theorem waits_not {l : Array Bool} {i : Nat} {D : List Nat} (h : Waits md ops l i D) (hi : l.getD i true = false) {d : Nat} (hd : d ∈ D) : ¬ d ∈ Region.ready md ops l := by
  intro hr
  obtain ⟨_, o, ho, hall⟩ := mem_ready.1 hr
  obtain ⟨_, o', e, ho', he, hb, hon⟩ := h d hd
  rw [ho] at ho'
  injection ho' with ho'
  subst ho'
  have h1 := hall e he hb
  rcases hon with hon | hon
  · rw [hon] at h1; exact unready hi h1 (j := 0) rfl
  · exact unready (h _ hon).1 h1 (j := 0) rfl
theorem pays_firstK {i : Nat} {oi : Oper} {v : Value} {D : List Nat} (hkD : k ∈ D) (hi : ops[i]? = some oi) (hsel : ∀ (j : Nat) (o : Oper) cs b, ops[j]? = some o → o.op ≠ .select cs b) (hQ : ∀ c a w, Q (.panic c) (a.put oi.dst v) w → Q (.panic c) a w) :
    ∀ (fuel : Nat) (l : Array Bool) (a : Act) (w : World), (∀ j oj, ops[j]? = some oj → j ≠ i → l.getD j true = false → (∀ e ∈ oj.after, Region.binds md e = true → e.on ≠ i) → oi.apart ops oj = true) →
      i ∈ Region.ready md ops l → Waits md ops l i D → Pays P ops S oi v a → S w → wpAnyK P md ops Q S k fuel (l.setIfInBounds i true) (a.put oi.dst v) w → wpAnyK P md ops Q S k (fuel + 1) l a w := by
  intro fuel
  induction fuel with
  | zero =>
    intro l a w _ hr _ hy hS H
    refine ⟨fun h => absurd hr (by rw [h]; exact List.not_mem_nil), fun j hj => ?_⟩
    by_cases e : j = i
    · subst e; exact hy.wpOp hi hS ⟨fun _ => hS, H⟩
    · have := ready_mono hj e
      rw [H.1] at this
      exact absurd this List.not_mem_nil
  | succ fuel ih =>
    intro l a w hfree hr hD hy hS H
    refine ⟨fun h => absurd hr (by rw [h]; exact List.not_mem_nil), fun j hj => ?_⟩
    by_cases e : j = i
    · subst e; exact hy.wpOp hi hS ⟨fun _ => hS, H⟩
    · obtain ⟨hun, oj, hoj, hall⟩ := mem_ready.1 hj
      have h0 := (mem_ready.1 hr).1
      have hnot : ∀ e ∈ oj.after, Region.binds md e = true → e.on ≠ i := fun e he hb heq => by
        have h1 := hall e he hb
        rw [heq] at h1
        exact unready h0 h1 (j := 0) rfl
      have hjD : ∀ d ∈ D, j ≠ d := fun d hd he => waits_not hD h0 hd (by rw [← he]; exact hj)
      have hik : i ≠ k := fun he => waits_not hD h0 hkD (by rw [← he]; exact hr)
      have hD' : Waits md ops (l.setIfInBounds j true) i D := fun d hd => ⟨by rw [getD_set_ne true (hjD d hd)]; exact (hD d hd).1, (hD d hd).2⟩
      have hkf : ((l.setIfInBounds i true).setIfInBounds j true).getD k true = false := by
        rw [getD_set_ne true (hjD k hkD), getD_set_ne true hik]; exact (hD k hkD).1
      refine wpOp_mono (fun a' w' h3 => ?_) (wpOp_before hoj (hfree j oj hoj e hun hnot) (fun cs b => hsel i oi cs b hi) (fun cs b => hsel j oj cs b hoj) hQ hy (H.2 j (ready_mono hj e)))
      have hS' := h3.2.1 hkf
      refine ⟨fun _ => hS', ih (l.setIfInBounds j true) a' w' (fun m om hm hmi hu hno => hfree m om hm hmi (unlisted_set hu) hno) (ready_mono hr (Ne.symm e)) hD' h3.1 hS' ?_⟩
      rw [Array.setIfInBounds_comm _ _ e]
      exact h3.2.2
/-- A value that an operation yields where S holds. -/
theorem pays_plain {oi : Oper} {v : Value} {a : Act} (hw : Region.wanted oi (yielded ops a.tmps) = true) (h : ∀ W, S W → (execOp a.eval oi).run P W = .ok (.value v) W) : Pays P ops S oi v a := ⟨hw, fun W hW => .inl (h W hW)⟩
theorem pays_yields {oi : Oper} {v : Value} {a : Act} (hw : Region.wanted oi (yielded ops a.tmps) = true) (hy : YieldsIf P ops S oi v a) : Pays P ops S oi v a :=
  ⟨hw, fun W hW => .inl (hy.elim (fun h => h.2 W hW) (fun h => by rw [hw] at h; cases h.1))⟩
theorem takeK {i : Nat} {oi : Oper} {v : Value} {fuel : Nat} {l : Array Bool} {a : Act} {w : World} (D : List Nat) (d : Option Tmp) (hi : ops[i]? = some oi) (hd : oi.dst = d) (hkD : D.contains k = true)
    (hs : Region.noSelect ops = true) (hf : Region.free md ops l i = true) (hr : (Region.ready md ops l).contains i = true) (hD : waitsB md ops l i D = true)
    (hQ : ∀ c a w, Q (.panic c) (a.put oi.dst v) w → Q (.panic c) a w) (hw : Region.wanted oi (yielded ops a.tmps) = true) (hy : YieldsIf P ops S oi v a) (hS : S w)
    (h : wpAnyK P md ops Q S k fuel (l.setIfInBounds i true) (a.put d v) w) : wpAnyK P md ops Q S k (fuel + 1) l a w := by
  subst hd
  exact pays_firstK (by simpa using hkD) hi (Region.noSelect_spec hs) hQ fuel l a w (Region.free_spec hi hf) (by simpa using hr) (waits_of hD) (pays_yields hw hy) hS h
theorem callK {i : Nat} {oi : Oper} {v : Value} {fuel : Nat} {l : Array Bool} {a : Act} {w : World} (D : List Nat) (d : Option Tmp) (hi : ops[i]? = some oi) (hd : oi.dst = d) (hkD : D.contains k = true)
    (hs : Region.noSelect ops = true) (hf : Region.free md ops l i = true) (hr : (Region.ready md ops l).contains i = true) (hD : waitsB md ops l i D = true)
    (hQ : ∀ c a w, Q (.panic c) (a.put oi.dst v) w → Q (.panic c) a w) (hw : Region.wanted oi (yielded ops a.tmps) = true) (f : FuncId) (args : Array Value) (he : ∀ W, S W → (execOp a.eval oi).run P W = .ok (.enter f args) W)
    (hc : ∀ W, S W → Calls P f args W fun e w' => e = .returned v ∧ W = w') (hS : S w)
    (h : wpAnyK P md ops Q S k fuel (l.setIfInBounds i true) (a.put d v) w) : wpAnyK P md ops Q S k (fuel + 1) l a w := by
  subst hd
  exact pays_firstK (by simpa using hkD) hi (Region.noSelect_spec hs) hQ fuel l a w (Region.free_spec hi hf) (by simpa using hr) (waits_of hD) ⟨hw, fun W hW => .inr ⟨f, args, he W hW, hc W hW⟩⟩ hS h
/-- An operation that yields its value in whatever world waits for nothing. -/
theorem pays_anyK {i : Nat} {oi : Oper} {v : Value} (hik : i ≠ k) (hi : ops[i]? = some oi) (hsel : ∀ (j : Nat) (o : Oper) cs b, ops[j]? = some o → o.op ≠ .select cs b) (hQ : ∀ c a w, Q (.panic c) (a.put oi.dst v) w → Q (.panic c) a w) :
    ∀ (fuel : Nat) (l : Array Bool) (a : Act) (w : World), (∀ j oj, ops[j]? = some oj → j ≠ i → l.getD j true = false → (∀ e ∈ oj.after, Region.binds md e = true → e.on ≠ i) → oi.apart ops oj = true) →
      i ∈ Region.ready md ops l → Pays P ops (fun _ => True) oi v a → (l.getD k true = false → S w) → wpAnyK P md ops Q S k fuel (l.setIfInBounds i true) (a.put oi.dst v) w → wpAnyK P md ops Q S k (fuel + 1) l a w := by
  intro fuel
  induction fuel with
  | zero =>
    intro l a w _ hr hy hS H
    refine ⟨fun h => absurd hr (by rw [h]; exact List.not_mem_nil), fun j hj => ?_⟩
    by_cases e : j = i
    · subst e; exact hy.wpOp hi trivial ⟨fun h => hS (unlisted_set h), H⟩
    · have := ready_mono hj e
      rw [H.1] at this
      exact absurd this List.not_mem_nil
  | succ fuel ih =>
    intro l a w hfree hr hy hS H
    refine ⟨fun h => absurd hr (by rw [h]; exact List.not_mem_nil), fun j hj => ?_⟩
    by_cases e : j = i
    · subst e; exact hy.wpOp hi trivial ⟨fun h => hS (unlisted_set h), H⟩
    · obtain ⟨hun, oj, hoj, hall⟩ := mem_ready.1 hj
      have h0 := (mem_ready.1 hr).1
      have hnot : ∀ e ∈ oj.after, Region.binds md e = true → e.on ≠ i := fun e he hb heq => by
        have h1 := hall e he hb
        rw [heq] at h1
        exact unready h0 h1 (j := 0) rfl
      refine wpOp_mono (fun a' w' h3 => ?_) (wpOp_before hoj (hfree j oj hoj e hun hnot) (fun cs b => hsel i oi cs b hi) (fun cs b => hsel j oj cs b hoj) hQ hy (H.2 j (ready_mono hj e)))
      have hS' : (l.setIfInBounds j true).getD k true = false → S w' := fun h => h3.2.1 (by rw [Array.setIfInBounds_comm _ _ (Ne.symm e), getD_set_ne true hik]; exact h)
      refine ⟨hS', ih (l.setIfInBounds j true) a' w' (fun m om hm hmi hu hno => hfree m om hm hmi (unlisted_set hu) hno) (ready_mono hr (Ne.symm e)) h3.1 hS' ?_⟩
      rw [Array.setIfInBounds_comm _ _ e]
      exact h3.2.2
theorem takeAnyK {i : Nat} {oi : Oper} {v : Value} {fuel : Nat} {l : Array Bool} {a : Act} {w : World} (d : Option Tmp) (hik : (i == k) = false) (hi : ops[i]? = some oi) (hd : oi.dst = d)
    (hs : Region.noSelect ops = true) (hf : Region.free md ops l i = true) (hr : (Region.ready md ops l).contains i = true)
    (hQ : ∀ c a w, Q (.panic c) (a.put oi.dst v) w → Q (.panic c) a w) (hw : Region.wanted oi (yielded ops a.tmps) = true) (hy : YieldsIf P ops (fun _ => True) oi v a) (hS : S w)
    (h : wpAnyK P md ops Q S k fuel (l.setIfInBounds i true) (a.put d v) w) : wpAnyK P md ops Q S k (fuel + 1) l a w := by
  subst hd
  exact pays_anyK (by simpa using hik) hi (Region.noSelect_spec hs) hQ fuel l a w (Region.free_spec hi hf) (by simpa using hr) (pays_yields hw hy) (fun _ => hS) h
theorem callAnyK {i : Nat} {oi : Oper} {v : Value} {fuel : Nat} {l : Array Bool} {a : Act} {w : World} (d : Option Tmp) (hik : (i == k) = false) (hi : ops[i]? = some oi) (hd : oi.dst = d)
    (hs : Region.noSelect ops = true) (hf : Region.free md ops l i = true) (hr : (Region.ready md ops l).contains i = true)
    (hQ : ∀ c a w, Q (.panic c) (a.put oi.dst v) w → Q (.panic c) a w) (hw : Region.wanted oi (yielded ops a.tmps) = true) (f : FuncId) (args : Array Value) (he : ∀ W, True → (execOp a.eval oi).run P W = .ok (.enter f args) W)
    (hc : ∀ W, True → Calls P f args W fun e w' => e = .returned v ∧ W = w') (hS : S w)
    (h : wpAnyK P md ops Q S k fuel (l.setIfInBounds i true) (a.put d v) w) : wpAnyK P md ops Q S k (fuel + 1) l a w := by
  subst hd
  exact pays_anyK (by simpa using hik) hi (Region.noSelect_spec hs) hQ fuel l a w (Region.free_spec hi hf) (by simpa using hr) ⟨hw, fun W hW => .inr ⟨f, args, he W hW, hc W hW⟩⟩ (fun _ => hS) h
theorem K_listed : ∀ (f : Nat) (l : Array Bool) (a : Act) (w : World), l.getD k true = true → wpAnyH P md ops Q (fun _ => True) f l a w → wpAnyK P md ops Q S k f l a w
  | 0, _, _, _, _, h => h
  | f + 1, l, _, _, hk, h => ⟨h.1, fun i hi => wpOp_mono (fun a' w' h' => by
      have hk' : (l.setIfInBounds i true).getD k true = true := by
        by_cases e : i = k
        · subst e
          rcases Nat.lt_or_ge i l.size with h9 | h9
          · simp [h9]
          · simp
        · rw [getD_set_ne true e]; exact hk
      exact ⟨(fun hc => by rw [hk'] at hc; cases hc), K_listed f _ a' w' hk' h'.2⟩) (h.2 i hi)⟩
/-- When k alone may come up next S is no longer asked for. -/
theorem exitK {fuel : Nat} {l : Array Bool} {a : Act} {w : World} (hr : Region.ready md ops l = [k]) (h : wpAnyH P md ops Q (fun _ => True) fuel l a w) : wpAnyK P md ops Q S k fuel l a w := by
  cases fuel with
  | zero => exact h
  | succ f =>
    refine ⟨h.1, fun i hi => ?_⟩
    have hik : i = k := by rw [hr] at hi; simpa using hi
    subst hik
    refine wpOp_mono (fun a' w' h' => ?_) (h.2 i hi)
    have hk' : (l.setIfInBounds i true).getD i true = true := by
      rcases Nat.lt_or_ge i l.size with h9 | h9
      · simp [h9]
      · simp
    exact ⟨(fun hc => by rw [hk'] at hc; cases hc), K_listed f _ a' w' hk' h'.2⟩
/-- One operation alone may come up next; behind it S is to be shown anew. -/
theorem oneK {fuel : Nat} {l : Array Bool} {a : Act} {w : World} {j : Nat} {o : Oper} (hr : Region.ready md ops l = [j]) (ho : ops[j]? = some o)
    (h : ∀ K' : Act → World → Prop, Shut (∀ a w, S w → wpAnyK P md ops Q S k fuel (l.setIfInBounds j true) a w → K' a w) → if Region.wanted o (yielded ops a.tmps) = true then Oper.wp P o a w K' Q else K' (a.put o.dst undef) w) :
    wpAnyK P md ops Q S k (fuel + 1) l a w :=
  ⟨(fun h0 => by rw [hr] at h0; cases h0), fun i hi => by
    have hij : i = j := by rw [hr] at hi; simpa using hi
    subst hij
    exact wpOp_step ho fun K' hK => h K' fun a w hS hW => hK a w ⟨fun _ => hS, hW⟩⟩
end
theorem step_app1h {P : Program} {w : World} {ops : Array Oper} {o : Oper} {a : Act} {K : Act → World → Prop} {Q : Exit → Act → World → Prop} {E : Prop} (hgd : o.guard = none) (s x : Operand) (t : TypeId)
    (ho : o.op = .call { callee := .builtin .append, args := #[s, x], argTypes := #[t, t] }) (base : Nat) (e : TypeId) (z : Value) (size bytes : Nat) (ht : P.underlying t = some (.slice e))
    (hinfo : (P.info? e).map (fun i => (i.zero, i.size, i.bytes)) = some (some z, size, bytes)) (hzs : z.cells.size = size) (hsz : 0 < size)
    (v : Value) (n : Nat) (xs : List Value) (hs : a.eval s = v) (hown : w.ownsRow base e size v n xs) (g c : Nat) (cs : Array Value) (hb : Blk w g e cs) (hcs : cs.size = size) (hx : a.eval x = .slice (some ⟨g, 0, none⟩) 1 c)
    (h1 : cs.toList.all (·.oneCell') = true) (hn : n ≤ 1000000) (hby : bytes ≤ 1000) (hbase : base ≤ w.heap.size)
    (h : ∀ v' w', w'.ownsRow base e size v' (n + 1) (xs ++ cs.toList) → w.grownBy w' v.ownBlock → (v'.ownBlock = v.ownBlock ∨ v'.ownBlock = some w.heap.size) → K (a.put o.dst v') w') : if Region.wanted o (yielded ops a.tmps) = true then Oper.wp P o a w K Q else E := by
  obtain ⟨i, hi, hz, hsize, hbytes⟩ := info_parts hinfo
  refine step_append_any w hgd s x t ho base e i z size bytes ht hi hz hsize hbytes hzs hsz v n xs hs hown (g + 1) (some ⟨g, 0, none⟩) 1 c cs.toList hx (reads_blk hb size hcs) (List.all_eq_true.1 h1) (by simp only [maxLen]; omega) ?_ hbase fun v' w' h2 h3 h4 => h v' w' h2 h3 h4
  have := Nat.mul_le_mul (show n + 1 ≤ 1000001 by omega) hby
  omega
end Go.Proofs.YtdnnodpkgncegaaDoor
