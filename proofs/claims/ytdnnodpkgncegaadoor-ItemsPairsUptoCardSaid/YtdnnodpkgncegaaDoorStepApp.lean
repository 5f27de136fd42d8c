/- One element is appended in a region that draws its order; rows of other types stay. No program in sight. -/
import Derived.Test.YtdnnodpkgncegaaDoorKitT
namespace Go.Proofs.YtdnnodpkgncegaaDoor
open Go.RowKit
theorem step_app1 {P : Program} {w : World} {ops : Array Oper} {o : Oper} {a : Act} {K : Act → World → Prop} {Q : Exit → Act → World → Prop} {E : Prop} (hgd : o.guard = none) (s x : Operand) (t : TypeId)
    (ho : o.op = .call { callee := .builtin .append, args := #[s, x], argTypes := #[t, t] }) (base : Nat) (e : TypeId) (z : Value) (size bytes : Nat) (ht : P.underlying t = some (.slice e))
    (hinfo : (P.info? e).map (fun i => (i.zero, i.size, i.bytes)) = some (some z, size, bytes)) (hzs : z.cells.size = size) (hsz : 0 < size)
    (v : Value) (n : Nat) (xs : List Value) (hs : a.eval s = v) (hown : w.ownsRow base e size v n xs) (g c : Nat) (cs : Array Value) (hb : Blk w g e cs) (hcs : cs.size = size) (hx : a.eval x = .slice (some ⟨g, 0, none⟩) 1 c)
    (h1 : cs.toList.all (·.oneCell') = true) (hn : n ≤ 1000000) (hby : bytes ≤ 1000) (hbase : base ≤ w.heap.size)
    (h : ∀ v' w', w'.ownsRow base e size v' (n + 1) (xs ++ cs.toList) → w.grownBy w' v.ownBlock → K (a.put o.dst v') w') : if Region.wanted o (yielded ops a.tmps) = true then Oper.wp P o a w K Q else E := by
  obtain ⟨i, hi, hz, hsize, hbytes⟩ := info_parts hinfo
  refine step_append_any w hgd s x t ho base e i z size bytes ht hi hz hsize hbytes hzs hsz v n xs hs hown (g + 1) (some ⟨g, 0, none⟩) 1 c cs.toList hx (reads_blk hb size hcs) (List.all_eq_true.1 h1) (by simp only [maxLen]; omega) ?_ hbase fun v' w' h2 h3 _ => h v' w' h2 h3
  have := Nat.mul_le_mul (show n + 1 ≤ 1000001 by omega) hby
  omega
theorem own_other {w w' : World} {b1 b2 s1 s2 n1 n2 : Nat} {e1 e2 : TypeId} {v1 v2 : Value} {x1 x2 : List Value} (h1 : w.ownsRow b1 e1 s1 v1 n1 x1) (h2 : w.ownsRow b2 e2 s2 v2 n2 x2) (hne : e1 ≠ e2) (hg : w.grownBy w' v2.ownBlock) : w'.ownsRow b1 e1 s1 v1 n1 x1 := by
  rcases h2.2 with ⟨rfl, _⟩ | ⟨g, cap, cur, rfl, _, hh, _⟩
  · by_cases hb : v1.ownBlock = none
    · exact h1.kept hg (.inl hb)
    · exact h1.kept hg (.inr (by simpa [Value.ownBlock] using hb))
  · exact h1.kept hg (.inr (own_blk_ne h1 hh hne))
end Go.Proofs.YtdnnodpkgncegaaDoor
