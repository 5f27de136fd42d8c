/- A struct or an array out of the midst of a block; a record laid into a slice of one: plain lists. No program in sight. -/
import Derived.Test.YtdnnodpkgncegaaDoorSteps2
namespace Go.Proofs.YtdnnodpkgncegaaDoor
open Go.RowKit Go.Instr
section
variable {P : Program} {ops : Array Oper} {rest : List Oper} {o : Oper} {a : Act} {w : World} {Q : Exit → Act → World → Prop}
theorem wpList_load_mid (hgd : o.guard = none) (ty : TypeId) (x : Operand) (ho : o.op = .load ty x) (g off : Nat) (hx : a.eval x = .pointer (some ⟨g, off, none⟩)) (cs : Array Value) (d : TypeDesc)
    (hc : ∀ j u, cs[j]? = some u → w.cell? ⟨g, off + j, none⟩ = some u) (hu : P.underlying ty = some d) (hd : (match d with | .struct _ | .array _ _ => true | _ => false) = true) (hi : (P.info? ty).map (·.size) = some cs.size)
    (h : wpList P ops Q rest (a.put o.dst (.agg cs)) w) : wpList P ops Q (o :: rest) a w :=
  wpList_plain hgd fun K hK => by
    have hl : (loadCells ⟨g, off, none⟩ cs.size).run P w = .ok cs w := by
      have h1 := run_loadCells_list (P := P) w ⟨g, off, none⟩ cs.toList (fun j v hv => by
        have hadd : (⟨g, off, none⟩ : Addr).add j = ⟨g, off + j, none⟩ := by unfold Addr.add; split <;> simp_all
        rw [hadd]
        exact hc j v (by rw [← Array.getElem?_toList]; exact hv))
      simpa using h1
    have he : (execOp a.eval o).run P w = .ok (.value (.agg cs)) w := by
      cases hq : P.info? ty with
      | none => simp [hq] at hi
      | some i =>
        have hs : i.size = cs.size := by simpa [hq] using hi
        have hagg : (isAgg ty).run P w = .ok true w := by
          unfold isAgg
          rw [Sem.run_bind, run_underlying hu w]
          cases d <;> simp_all
        unfold execOp
        simp [ho, hx, loadAt, sureAddr, loadVar, Sem.run_bind, hagg, sizeOf, typeInfo, hq, hs, hl]
    unfold Oper.wp
    rw [he]
    exact hK _ _ h
theorem wpList_layN (n : Nat) (hn : w.heap.size = n) (hgd : o.guard = none) (d : Tmp) (hd : o.dst = some d) (t : TypeId) (len : Nat) (parts : Array (Nat × Operand)) (hop : o.op = .buildSlice t len parts) (vals : List (Nat × Value)) (hv : parts.toList.map (fun p => (p.1, a.eval p.2)) = vals) (cs : Array Value) (e : TypeId) (hc : sliceCells P t len vals = some (cs, e))
    (h : wpList P ops Q rest (a.put (some d) (.slice (some ⟨n, 0, none⟩) len len)) (w.alloc (.cells cs e))) : wpList P ops Q (o :: rest) a w :=
  wpList_plain hgd fun K hK => wp_lay t len parts hop vals hv cs e hc (by rw [hd, hn]; exact hK _ _ h)
theorem wpList_store_rec (hgd : o.guard = none) (ty : TypeId) (x y : Operand) (ho : o.op = .store ty x y)
    (g i : Nat) (t : TypeId) (cs : List Value) (vs : Array Value) (hx : a.eval x = .pointer (some ⟨g, i, none⟩)) (hy : a.eval y = .agg vs) (hb : Blk w g t cs.toArray) (hs : i + vs.size ≤ cs.length)
    (hi : (P.info? ty).map (·.size) = some vs.size) (h1 : vs.toList.all (·.oneCell') = true)
    (h : ∀ w', Blk w' g t (cs.take i ++ vs.toList ++ cs.drop (i + vs.toList.length)).toArray → w.grownBy w' (some g) → wpList P ops Q rest (a.put o.dst undef) w') : wpList P ops Q (o :: rest) a w :=
  wpList_plain hgd fun _ hK => wp_store_rec ty x y ho g i t cs vs hx hy hb hs hi h1 fun w' h2 h3 => hK _ _ (h w' h2 h3)
end
end Go.Proofs.YtdnnodpkgncegaaDoor
