/- Steps of a region that draws, where one operation alone may come up next: a store into a known block, an append of one record, a record laid into a slice. No program in sight. -/
import Derived.Test.YtdnnodpkgncegaaDoorTakeK
import Derived.Test.YtdnnodpkgncegaaDoorYield
namespace Go.Proofs.YtdnnodpkgncegaaDoor
open Go.RowKit Go.Instr
section
variable {P : Program} {ops : Array Oper} {Q : Exit → Act → World → Prop} {md : Region.Mode} {S : World → Prop} {k : Nat} {fuel : Nat} {l : Array Bool} {a : Act} {w : World} {j : Nat} {o : Oper}
theorem oneH (hr : Region.ready md ops l = [j]) (ho : ops[j]? = some o) (hgd : o.guard = none)
    (h : ∀ K' : Act → World → Prop, (∀ a w, S w → wpAnyH P md ops Q S fuel (l.setIfInBounds j true) a w → K' a w) → Oper.wp P o a w K' Q) : wpAnyH P md ops Q S (fuel + 1) l a w :=
  wpAnyH_ready (rs := [j]) hr (by simp) (AllReadyH.cons ho (fun K' hK => by
    rw [if_pos (by simp [Region.wanted, hgd])]
    exact h K' fun a w hS hW => hK.out a w hS fun _ => hW) AllReadyH.nil)
theorem oneK' (hr : Region.ready md ops l = [j]) (ho : ops[j]? = some o) (hgd : o.guard = none)
    (h : ∀ K' : Act → World → Prop, (∀ a w, S w → wpAnyK P md ops Q S k fuel (l.setIfInBounds j true) a w → K' a w) → Oper.wp P o a w K' Q) : wpAnyK P md ops Q S k (fuel + 1) l a w :=
  oneK hr ho fun K' hK => by
    rw [if_pos (by simp [Region.wanted, hgd])]
    exact h K' hK.out
theorem put_none (a : Act) (v : Value) : a.put none v = a := rfl
theorem storeH (hr : Region.ready md ops l = [j]) (ho : ops[j]? = some o) (hgd : o.guard = none) (hd : o.dst = none) (ty x y) (hop : o.op = .store ty x y) (g i : Nat) (t : TypeId) (cs : Array Value) (v : Value) (hx : a.eval x = .pointer (some ⟨g, i, none⟩)) (hy : a.eval y = v)
    (hb : Blk w g t cs) (hs : i < cs.size) (hi : (P.info? ty).map (·.size) = some 1) (hvc : v.cells = #[v]) (hv : v.oneCell' = true)
    (h : ∀ w', Blk w' g t (cs.setIfInBounds i v) → w.grownBy w' (some g) → S w' ∧ wpAnyH P md ops Q S fuel (l.setIfInBounds j true) a w') : wpAnyH P md ops Q S (fuel + 1) l a w :=
  oneH hr ho hgd fun K' hK => wp_store_fld ty x y hop g i t cs v hx hy hb hs hi hvc hv fun w' h1 h2 => by
    rw [hd, put_none]
    exact hK _ _ (h w' h1 h2).1 (h w' h1 h2).2
theorem storeK (hr : Region.ready md ops l = [j]) (ho : ops[j]? = some o) (hgd : o.guard = none) (hd : o.dst = none) (ty x y) (hop : o.op = .store ty x y) (g i : Nat) (t : TypeId) (cs : Array Value) (v : Value) (hx : a.eval x = .pointer (some ⟨g, i, none⟩)) (hy : a.eval y = v)
    (hb : Blk w g t cs) (hs : i < cs.size) (hi : (P.info? ty).map (·.size) = some 1) (hvc : v.cells = #[v]) (hv : v.oneCell' = true)
    (h : ∀ w', Blk w' g t (cs.setIfInBounds i v) → w.grownBy w' (some g) → S w' ∧ wpAnyK P md ops Q S k fuel (l.setIfInBounds j true) a w') : wpAnyK P md ops Q S k (fuel + 1) l a w :=
  oneK' hr ho hgd fun K' hK => wp_store_fld ty x y hop g i t cs v hx hy hb hs hi hvc hv fun w' h1 h2 => by
    rw [hd, put_none]
    exact hK _ _ (h w' h1 h2).1 (h w' h1 h2).2
theorem wp_app1 {K : Act → World → Prop} (s x : Operand) (t : TypeId)
    (ho : o.op = .call { callee := .builtin .append, args := #[s, x], argTypes := #[t, t] }) (base : Nat) (e : TypeId) (z : Value) (size bytes : Nat) (ht : P.underlying t = some (.slice e))
    (hinfo : (P.info? e).map (fun i => (i.zero, i.size, i.bytes)) = some (some z, size, bytes)) (hzs : z.cells.size = size) (hsz : 0 < size)
    (v : Value) (n : Nat) (xs : List Value) (hs : a.eval s = v) (hown : w.ownsRow base e size v n xs) (g c : Nat) (cs : Array Value) (hb : Blk w g e cs) (hcs : cs.size = size) (hx : a.eval x = .slice (some ⟨g, 0, none⟩) 1 c)
    (h1 : cs.toList.all (·.oneCell') = true) (hn : n ≤ 1000000) (hby : bytes ≤ 1000) (hbase : base ≤ w.heap.size)
    (h : ∀ v' w', w'.ownsRow base e size v' (n + 1) (xs ++ cs.toList) → w.grownBy w' v.ownBlock → (v'.ownBlock = v.ownBlock ∨ v'.ownBlock = some w.heap.size) → K (a.put o.dst v') w') : Oper.wp P o a w K Q := by
  obtain ⟨i, hi, hz, hsize, hbytes⟩ := info_parts hinfo
  refine wp_append_any w s x t ho base e i z size bytes ht hi hz hsize hbytes hzs hsz v n xs hs hown (g + 1) (some ⟨g, 0, none⟩) 1 c cs.toList hx (reads_blk hb size hcs) (List.all_eq_true.1 h1) (by simp only [maxLen]; omega) ?_ hbase fun v' w' h2 h3 h4 => h v' w' h2 h3 h4
  have := Nat.mul_le_mul (show n + 1 ≤ 1000001 by omega) hby
  omega
theorem app1H (hr : Region.ready md ops l = [j]) (ho : ops[j]? = some o) (hgd : o.guard = none) (d : Tmp) (hd : o.dst = some d) (s x : Operand) (t : TypeId)
    (hop : o.op = .call { callee := .builtin .append, args := #[s, x], argTypes := #[t, t] }) (base : Nat) (e : TypeId) (z : Value) (size bytes : Nat) (ht : P.underlying t = some (.slice e))
    (hinfo : (P.info? e).map (fun i => (i.zero, i.size, i.bytes)) = some (some z, size, bytes)) (hzs : z.cells.size = size) (hsz : 0 < size)
    (v : Value) (n : Nat) (xs : List Value) (hs : a.eval s = v) (hown : w.ownsRow base e size v n xs) (g c : Nat) (cs : Array Value) (hb : Blk w g e cs) (hcs : cs.size = size) (hx : a.eval x = .slice (some ⟨g, 0, none⟩) 1 c)
    (h1 : cs.toList.all (·.oneCell') = true) (hn : n ≤ 1000000) (hby : bytes ≤ 1000) (hbase : base ≤ w.heap.size)
    (h : ∀ v' w', w'.ownsRow base e size v' (n + 1) (xs ++ cs.toList) → w.grownBy w' v.ownBlock → (v'.ownBlock = v.ownBlock ∨ v'.ownBlock = some w.heap.size) → S w' ∧ wpAnyH P md ops Q S fuel (l.setIfInBounds j true) (a.put (some d) v') w') : wpAnyH P md ops Q S (fuel + 1) l a w :=
  oneH hr ho hgd fun K' hK => wp_app1 s x t hop base e z size bytes ht hinfo hzs hsz v n xs hs hown g c cs hb hcs hx h1 hn hby hbase fun v' w' h2 h3 h4 => by
    rw [hd]
    exact hK _ _ (h v' w' h2 h3 h4).1 (h v' w' h2 h3 h4).2
theorem app1K (hr : Region.ready md ops l = [j]) (ho : ops[j]? = some o) (hgd : o.guard = none) (d : Tmp) (hd : o.dst = some d) (s x : Operand) (t : TypeId)
    (hop : o.op = .call { callee := .builtin .append, args := #[s, x], argTypes := #[t, t] }) (base : Nat) (e : TypeId) (z : Value) (size bytes : Nat) (ht : P.underlying t = some (.slice e))
    (hinfo : (P.info? e).map (fun i => (i.zero, i.size, i.bytes)) = some (some z, size, bytes)) (hzs : z.cells.size = size) (hsz : 0 < size)
    (v : Value) (n : Nat) (xs : List Value) (hs : a.eval s = v) (hown : w.ownsRow base e size v n xs) (g c : Nat) (cs : Array Value) (hb : Blk w g e cs) (hcs : cs.size = size) (hx : a.eval x = .slice (some ⟨g, 0, none⟩) 1 c)
    (h1 : cs.toList.all (·.oneCell') = true) (hn : n ≤ 1000000) (hby : bytes ≤ 1000) (hbase : base ≤ w.heap.size)
    (h : ∀ v' w', w'.ownsRow base e size v' (n + 1) (xs ++ cs.toList) → w.grownBy w' v.ownBlock → (v'.ownBlock = v.ownBlock ∨ v'.ownBlock = some w.heap.size) → S w' ∧ wpAnyK P md ops Q S k fuel (l.setIfInBounds j true) (a.put (some d) v') w') : wpAnyK P md ops Q S k (fuel + 1) l a w :=
  oneK' hr ho hgd fun K' hK => wp_app1 s x t hop base e z size bytes ht hinfo hzs hsz v n xs hs hown g c cs hb hcs hx h1 hn hby hbase fun v' w' h2 h3 h4 => by
    rw [hd]
    exact hK _ _ (h v' w' h2 h3 h4).1 (h v' w' h2 h3 h4).2
/-- What a slice literal lays into its block. -/
def sliceCells (P : Program) (t : TypeId) (len : Nat) (parts : List (Nat × Value)) : Option (Array Value × TypeId) :=
  match P.underlying t with
  | some (.slice e) => match P.info? e with
    | some i => if len * i.size > 2 ^ 24 then none else if len * i.size = 0 then none else match i.zero with
      | some z => (fill (fun j => some (j * i.size, i.size)) ((Array.range (len * i.size)).map (z.cells[· % z.cells.size]!)) parts).map (·, e)
      | none => none
    | none => none
  | _ => none
theorem run_buildSlice {t : TypeId} {len : Nat} {parts : Array (Nat × Value)} {cs : Array Value} {e : TypeId} (h : sliceCells P t len parts.toList = some (cs, e)) (w : World) :
    (buildSlice t len parts).run P w = .ok (.slice (some ⟨w.heap.size, 0, none⟩) len len) (w.alloc (.cells cs e)) := by
  unfold sliceCells at h
  cases hu : P.underlying t with
  | none => rw [hu] at h; cases h
  | some d =>
    rw [hu] at h
    cases d with
    | slice e' =>
      simp only at h
      cases hi : P.info? e' with
      | none => rw [hi] at h; cases h
      | some i =>
        rw [hi] at h
        simp only at h
        by_cases h1 : len * i.size > 2 ^ 24
        · rw [if_pos h1] at h; cases h
        · rw [if_neg h1] at h
          by_cases h2 : len * i.size = 0
          · rw [if_pos h2] at h; cases h
          · rw [if_neg h2] at h
            cases hz : i.zero with
            | none => rw [hz] at h; cases h
            | some z =>
              rw [hz] at h
              simp only at h
              cases hf : fill (fun j => some (j * i.size, i.size)) ((Array.range (len * i.size)).map (z.cells[· % z.cells.size]!)) parts.toList with
              | none => rw [hf] at h; cases h
              | some c =>
                rw [hf] at h
                simp only [Option.map_some, Option.some.injEq, Prod.mk.injEq] at h
                obtain ⟨rfl, rfl⟩ := h
                simp [buildSlice, Sem.run_bind, run_underlying hu, sizeOf, typeInfo, hi, h1, h2, zeroValue, hz, hf, newRow]
    | _ => cases h
theorem wp_lay {K : Act → World → Prop} (t : TypeId) (len : Nat) (parts : Array (Nat × Operand)) (hop : o.op = .buildSlice t len parts) (vals : List (Nat × Value)) (hv : parts.toList.map (fun p => (p.1, a.eval p.2)) = vals) (cs : Array Value) (e : TypeId) (hc : sliceCells P t len vals = some (cs, e))
    (h : K (a.put o.dst (.slice (some ⟨w.heap.size, 0, none⟩) len len)) (w.alloc (.cells cs e))) : Oper.wp P o a w K Q := by
  have hc' : sliceCells P t len (parts.map fun (i, x) => (i, a.eval x)).toList = some (cs, e) := by rw [Array.toList_map]; exact (congrArg (sliceCells P t len) hv).trans hc
  unfold Oper.wp execOp
  simp only [hop, Sem.run_bind, run_buildSlice hc' w, Result.andThen_ok]
  exact h
theorem layH (hr : Region.ready md ops l = [j]) (ho : ops[j]? = some o) (hgd : o.guard = none) (d : Tmp) (hd : o.dst = some d) (t : TypeId) (len : Nat) (parts : Array (Nat × Operand)) (hop : o.op = .buildSlice t len parts) (vals : List (Nat × Value)) (hv : parts.toList.map (fun p => (p.1, a.eval p.2)) = vals) (cs : Array Value) (e : TypeId) (hc : sliceCells P t len vals = some (cs, e))
    (hS : S (w.alloc (.cells cs e))) (h : wpAnyH P md ops Q S fuel (l.setIfInBounds j true) (a.put (some d) (.slice (some ⟨w.heap.size, 0, none⟩) len len)) (w.alloc (.cells cs e))) : wpAnyH P md ops Q S (fuel + 1) l a w :=
  oneH hr ho hgd fun K' hK => wp_lay t len parts hop vals hv cs e hc (by rw [hd]; exact hK _ _ hS h)
theorem layK (hr : Region.ready md ops l = [j]) (ho : ops[j]? = some o) (hgd : o.guard = none) (d : Tmp) (hd : o.dst = some d) (t : TypeId) (len : Nat) (parts : Array (Nat × Operand)) (hop : o.op = .buildSlice t len parts) (vals : List (Nat × Value)) (hv : parts.toList.map (fun p => (p.1, a.eval p.2)) = vals) (cs : Array Value) (e : TypeId) (hc : sliceCells P t len vals = some (cs, e))
    (hS : S (w.alloc (.cells cs e))) (h : wpAnyK P md ops Q S k fuel (l.setIfInBounds j true) (a.put (some d) (.slice (some ⟨w.heap.size, 0, none⟩) len len)) (w.alloc (.cells cs e))) : wpAnyK P md ops Q S k (fuel + 1) l a w :=
  oneK' hr ho hgd fun K' hK => wp_lay t len parts hop vals hv cs e hc (by rw [hd]; exact hK _ _ hS h)
end
end Go.Proofs.YtdnnodpkgncegaaDoor
