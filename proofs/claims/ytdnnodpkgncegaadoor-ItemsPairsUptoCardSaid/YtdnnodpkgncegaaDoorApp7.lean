/- An append of one record to a longer row. No program in sight. -/
import Derived.Test.YtdnnodpkgncegaaDoorSteps3
namespace Go.Proofs.YtdnnodpkgncegaaDoor
open Go.RowKit Go.Instr
section
variable {P : Program} {ops : Array Oper} {Q : Exit → Act → World → Prop} {md : Region.Mode} {S : World → Prop} {k : Nat} {fuel : Nat} {l : Array Bool} {a : Act} {w : World} {j : Nat} {o : Oper}
theorem wp_app7 {K : Act → World → Prop} (s x : Operand) (t : TypeId)
    (ho : o.op = .call { callee := .builtin .append, args := #[s, x], argTypes := #[t, t] }) (base : Nat) (e : TypeId) (z : Value) (size bytes : Nat) (ht : P.underlying t = some (.slice e))
    (hinfo : (P.info? e).map (fun i => (i.zero, i.size, i.bytes)) = some (some z, size, bytes)) (hzs : z.cells.size = size) (hsz : 0 < size)
    (v : Value) (n : Nat) (xs : List Value) (hs : a.eval s = v) (hown : w.ownsRow base e size v n xs) (g c : Nat) (cs : Array Value) (hb : Blk w g e cs) (hcs : cs.size = size) (hx : a.eval x = .slice (some ⟨g, 0, none⟩) 1 c)
    (h1 : cs.toList.all (·.oneCell') = true) (hn : n ≤ 10000000) (hby : bytes ≤ 1000) (hbase : base ≤ w.heap.size)
    (h : ∀ v' w', w'.ownsRow base e size v' (n + 1) (xs ++ cs.toList) → w.grownBy w' v.ownBlock → (v'.ownBlock = v.ownBlock ∨ v'.ownBlock = some w.heap.size) → K (a.put o.dst v') w') : Oper.wp P o a w K Q := by
  obtain ⟨i, hi, hz, hsize, hbytes⟩ := info_parts hinfo
  refine wp_append_any w s x t ho base e i z size bytes ht hi hz hsize hbytes hzs hsz v n xs hs hown (g + 1) (some ⟨g, 0, none⟩) 1 c cs.toList hx (reads_blk hb size hcs) (List.all_eq_true.1 h1) (by simp only [maxLen]; omega) ?_ hbase fun v' w' h2 h3 h4 => h v' w' h2 h3 h4
  have := Nat.mul_le_mul (show n + 1 ≤ 10000001 by omega) hby
  omega
theorem app7H (hr : Region.ready md ops l = [j]) (ho : ops[j]? = some o) (hgd : o.guard = none) (d : Tmp) (hd : o.dst = some d) (s x : Operand) (t : TypeId)
    (hop : o.op = .call { callee := .builtin .append, args := #[s, x], argTypes := #[t, t] }) (base : Nat) (e : TypeId) (z : Value) (size bytes : Nat) (ht : P.underlying t = some (.slice e))
    (hinfo : (P.info? e).map (fun i => (i.zero, i.size, i.bytes)) = some (some z, size, bytes)) (hzs : z.cells.size = size) (hsz : 0 < size)
    (v : Value) (n : Nat) (xs : List Value) (hs : a.eval s = v) (hown : w.ownsRow base e size v n xs) (g c : Nat) (cs : Array Value) (hb : Blk w g e cs) (hcs : cs.size = size) (hx : a.eval x = .slice (some ⟨g, 0, none⟩) 1 c)
    (h1 : cs.toList.all (·.oneCell') = true) (hn : n ≤ 10000000) (hby : bytes ≤ 1000) (hbase : base ≤ w.heap.size)
    (h : ∀ v' w', w'.ownsRow base e size v' (n + 1) (xs ++ cs.toList) → w.grownBy w' v.ownBlock → (v'.ownBlock = v.ownBlock ∨ v'.ownBlock = some w.heap.size) → S w' ∧ wpAnyH P md ops Q S fuel (l.setIfInBounds j true) (a.put (some d) v') w') : wpAnyH P md ops Q S (fuel + 1) l a w :=
  oneH hr ho hgd fun K' hK => wp_app7 s x t hop base e z size bytes ht hinfo hzs hsz v n xs hs hown g c cs hb hcs hx h1 hn hby hbase fun v' w' h2 h3 h4 => by
    rw [hd]
    exact hK _ _ (h v' w' h2 h3 h4).1 (h v' w' h2 h3 h4).2
theorem app7K (hr : Region.ready md ops l = [j]) (ho : ops[j]? = some o) (hgd : o.guard = none) (d : Tmp) (hd : o.dst = some d) (s x : Operand) (t : TypeId)
    (hop : o.op = .call { callee := .builtin .append, args := #[s, x], argTypes := #[t, t] }) (base : Nat) (e : TypeId) (z : Value) (size bytes : Nat) (ht : P.underlying t = some (.slice e))
    (hinfo : (P.info? e).map (fun i => (i.zero, i.size, i.bytes)) = some (some z, size, bytes)) (hzs : z.cells.size = size) (hsz : 0 < size)
    (v : Value) (n : Nat) (xs : List Value) (hs : a.eval s = v) (hown : w.ownsRow base e size v n xs) (g c : Nat) (cs : Array Value) (hb : Blk w g e cs) (hcs : cs.size = size) (hx : a.eval x = .slice (some ⟨g, 0, none⟩) 1 c)
    (h1 : cs.toList.all (·.oneCell') = true) (hn : n ≤ 10000000) (hby : bytes ≤ 1000) (hbase : base ≤ w.heap.size)
    (h : ∀ v' w', w'.ownsRow base e size v' (n + 1) (xs ++ cs.toList) → w.grownBy w' v.ownBlock → (v'.ownBlock = v.ownBlock ∨ v'.ownBlock = some w.heap.size) → S w' ∧ wpAnyK P md ops Q S k fuel (l.setIfInBounds j true) (a.put (some d) v') w') : wpAnyK P md ops Q S k (fuel + 1) l a w :=
  oneK' hr ho hgd fun K' hK => wp_app7 s x t hop base e z size bytes ht hinfo hzs hsz v n xs hs hown g c cs hb hcs hx h1 hn hby hbase fun v' w' h2 h3 h4 => by
    rw [hd]
    exact hK _ _ (h v' w' h2 h3 h4).1 (h v' w' h2 h3 h4).2
end
end Go.Proofs.YtdnnodpkgncegaaDoor
