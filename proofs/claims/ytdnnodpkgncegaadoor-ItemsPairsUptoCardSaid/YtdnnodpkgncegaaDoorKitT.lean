/- More words for memory: what lies in a block of the call's own, whole; copying into it. No program in sight. -/
import Derived.Test.YtdnnodpkgncegaaDoorKitS
import Derived.Laws.CopyOwn
namespace Go.Proofs.YtdnnodpkgncegaaDoor
open Go.RowKit
/-- A block known whole is a row of the call's own. -/
theorem own_of_blk {w : World} {base g n size : Nat} {e : TypeId} {cs : Array Value} (h : Blk w g e cs) (hb : base ≤ g) (hc : n ≤ maxLen) (hs : cs.size = n * size) : w.ownsRow base e size (.slice (some ⟨g, 0, none⟩) n n) n cs.toList :=
  ⟨by simpa using hs, .inr ⟨g, n, cs, rfl, hb, h, Nat.le_refl _, hc, hs, List.take_of_length_le (by simp [hs])⟩⟩
/-- The cells of a list of integers. -/
def intsA (xs : List Int) : Array Value := (xs.map (Value.int .i64)).toArray
theorem intsA_size (xs : List Int) : (intsA xs).size = xs.length := by simp [intsA]
theorem intsA_list (xs : List Int) : (intsA xs).toList = xs.map (Value.int .i64) := by simp [intsA]
theorem intsA_at (xs : List Int) (k : Nat) (h : k < xs.length) : (intsA xs)[k]? = some (.int .i64 (at0 xs k)) := by
  simp [intsA, List.getElem?_eq_getElem h, at0]
theorem intsA_set (xs : List Int) (k : Nat) (x : Int) : (intsA xs).setIfInBounds k (.int .i64 x) = intsA (xs.set k x) := by
  apply Array.ext'
  simp [intsA, List.map_set]
theorem made_ints (m : Nat) : madeCells #[.int .i64 0] m = intsA (List.replicate m 0) := by
  apply Array.ext'
  rw [intsA_list, madeCells_rep, List.map_replicate]
theorem splice_ints (xs ys : List Int) (k : Nat) : (splice (xs.map (Value.int .i64)) k (ys.map (Value.int .i64))).toArray = intsA (xs.take k ++ ys ++ xs.drop (k + ys.length)) := by
  simp [splice, intsA, List.map_take, List.map_drop]
/-- A copy into a block of the call's own, as its run says it: for a region that draws its order. -/
theorem copy_run {P : Program} (w : World) (T ty elem : TypeId) (hu : P.underlying T = some (.slice elem)) (hsz : (P.info? elem).map (·.size) = some 1) (g off dLen dCap : Nat) (ad : Addr) (sLen sCap : Nat) (t : TypeId) (cur cs : List Value)
    (hg : Blk w g t cur.toArray) (hn : cs.length = Nat.min sLen dLen) (hsrc : ∀ j v, cs[j]? = some v → w.cell? (ad.add j) = some v) (hfit : off + cs.length ≤ cur.length) (h1 : ∀ v ∈ cs, v.oneCell' = true) :
    ∃ w', (Builtin.copy_ #[T, T] ty #[.slice (some ⟨g, off, none⟩) dLen dCap, .slice (some ad) sLen sCap]).run P w = .ok (.int .i64 (cs.length : Nat)) w' ∧ Blk w' g t (splice cur off cs).toArray ∧ ∀ B w0, Below B w0 w → B ≤ g → Below B w0 w' := by
  by_cases h0 : cs.length = 0
  · obtain rfl : cs = [] := List.eq_nil_of_length_eq_zero h0
    have hrun := run_copy_none (P := P) w T T ty elem (some ⟨g, off, none⟩) (some ad) dLen dCap sLen sCap hu hsz (by simpa using hn.symm)
    exact ⟨w, hrun, by simpa [splice] using hg, fun _ _ h _ => h⟩
  · have hrun := run_copy_row (P := P) w T T ty elem g off dLen dCap ad sLen sCap cur.toArray t cs hu hsz hg hn hsrc (by simpa using hfit) h1
    exact ⟨_, hrun, by unfold Blk; simpa [splice] using setRow_heap w g _ _ t _ hg, fun B w0 hb hB => below_setRow hb hB _⟩
/-- The same, of a source that reads as a list, all of it. -/
theorem copy_reads {P : Program} (w : World) (T ty elem : TypeId) (hu : P.underlying T = some (.slice elem)) (hsz : (P.info? elem).map (·.size) = some 1) (g off m dCap : Nat) (A : Option Addr) (sCap B : Nat) (t : TypeId) (cur cs : List Value)
    (hg : Blk w g t cur.toArray) (hr : Reads w B 1 A m cs) (hfit : off + m ≤ cur.length) (h1 : ∀ v ∈ cs, v.oneCell' = true) :
    ∃ w', (Builtin.copy_ #[T, T] ty #[.slice (some ⟨g, off, none⟩) m dCap, .slice A m sCap]).run P w = .ok (.int .i64 (m : Nat)) w' ∧ Blk w' g t (splice cur off cs).toArray ∧ ∀ B w0, Below B w0 w → B ≤ g → Below B w0 w' := by
  have hl : cs.length = m := by have := hr.1; simpa using this
  rcases Nat.eq_zero_or_pos m with h0 | h0
  · subst h0
    obtain rfl : cs = [] := List.eq_nil_of_length_eq_zero hl
    have hrun := run_copy_none (P := P) w T T ty elem (some ⟨g, off, none⟩) A 0 dCap 0 sCap hu hsz rfl
    exact ⟨w, hrun, by simpa [splice] using hg, fun _ _ h _ => h⟩
  · obtain ⟨ad, rfl, _, hc⟩ := hr.2 h0
    obtain ⟨w', h2, h3, h4⟩ := copy_run (P := P) w T ty elem hu hsz g off m dCap ad m sCap t cur cs hg (by rw [hl]; exact (Nat.min_self m).symm) hc (by omega) h1
    exact ⟨w', by rw [h2, hl], h3, h4⟩
/-- A block known whole reads as one element. -/
theorem reads_blk {w : World} {g : Nat} {e : TypeId} {cs : Array Value} (hb : Blk w g e cs) (size : Nat) (hcs : cs.size = size) : Reads w (g + 1) size (some ⟨g, 0, none⟩) 1 cs.toList := by
  refine ⟨by simp [hcs], fun _ => ⟨_, rfl, by simp, fun j u hj => ?_⟩⟩
  rw [show (⟨g, 0, none⟩ : Addr).add j = ⟨g, j, none⟩ by unfold Addr.add; split <;> simp_all]
  rw [hb.cell j, ← hj]; simp
/-- One element, which lies in a block of its own, is appended to a row of the call's own. -/
theorem wpList_app1 {P : Program} {w : World} {ops : Array Oper} {rest : List Oper} {o : Oper} {a : Act} {Q : Exit → Act → World → Prop} (hgd : o.guard = none) (s x : Operand) (t : TypeId)
    (ho : o.op = .call { callee := .builtin .append, args := #[s, x], argTypes := #[t, t] }) (base : Nat) (e : TypeId) (z : Value) (size bytes : Nat) (ht : P.underlying t = some (.slice e))
    (hinfo : (P.info? e).map (fun i => (i.zero, i.size, i.bytes)) = some (some z, size, bytes)) (hzs : z.cells.size = size) (hsz : 0 < size)
    (v : Value) (n : Nat) (xs : List Value) (hs : a.eval s = v) (hown : w.ownsRow base e size v n xs) (g c : Nat) (cs : Array Value) (hb : Blk w g e cs) (hcs : cs.size = size) (hx : a.eval x = .slice (some ⟨g, 0, none⟩) 1 c)
    (h1 : cs.toList.all (·.oneCell') = true) (hn : n ≤ 1000000) (hby : bytes ≤ 1000) (hbase : base ≤ w.heap.size)
    (h : ∀ v' w', w'.ownsRow base e size v' (n + 1) (xs ++ cs.toList) → w.grownBy w' v.ownBlock → wpList P ops Q rest (a.put o.dst v') w') : wpList P ops Q (o :: rest) a w := by
  obtain ⟨i, hi, hz, hsize, hbytes⟩ := info_parts hinfo
  refine wpList_append_any w hgd s x t ho base e i z size bytes ht hi hz hsize hbytes hzs hsz v n xs hs hown (g + 1) (some ⟨g, 0, none⟩) 1 c cs.toList hx (reads_blk hb size hcs) (List.all_eq_true.1 h1) (by simp only [maxLen]; omega) ?_ hbase fun v' w' h2 h3 _ => h v' w' h2 h3
  have := Nat.mul_le_mul (show n + 1 ≤ 1000001 by omega) hby
  omega
/-- A record is stored into the midst of a block. -/
theorem wp_store_rec {P : Program} {op : Oper} {a : Act} {w : World} {K : Act → World → Prop} {Q : Exit → Act → World → Prop} (ty : TypeId) (x y : Operand) (ho : op.op = .store ty x y)
    (g i : Nat) (t : TypeId) (cs : List Value) (vs : Array Value) (hx : a.eval x = .pointer (some ⟨g, i, none⟩)) (hy : a.eval y = .agg vs) (hb : Blk w g t cs.toArray) (hs : i + vs.size ≤ cs.length)
    (hi : (P.info? ty).map (·.size) = some vs.size) (h1 : vs.toList.all (·.oneCell') = true)
    (h : ∀ w', Blk w' g t (cs.take i ++ vs.toList ++ cs.drop (i + vs.toList.length)).toArray → w.grownBy w' (some g) → K (a.put op.dst undef) w') : op.wp P a w K Q := by
  have ht : w.there g i vs.size := fun j hj => by
    refine ⟨?_, hb.frozen _⟩
    rw [hb.cell, List.getElem?_toArray, List.getElem?_eq_getElem (by omega)]; rfl
  have hb2 := blk_setCells vs.toList i w cs.toArray (by simpa using hs) hb
  exact wp_store_mid ty x y ho g i vs hx hy ht hi (by rw [← Array.all_toList]; exact h1) (h _ (by simpa using hb2) (grown_setCells g _ i w))
theorem step_store_rec {P : Program} {ops : Array Oper} {op : Oper} {a : Act} {w : World} {K : Act → World → Prop} {Q : Exit → Act → World → Prop} {E : Prop} (hgd : op.guard = none) (ty : TypeId) (x y : Operand) (ho : op.op = .store ty x y)
    (g i : Nat) (t : TypeId) (cs : List Value) (vs : Array Value) (hx : a.eval x = .pointer (some ⟨g, i, none⟩)) (hy : a.eval y = .agg vs) (hb : Blk w g t cs.toArray) (hs : i + vs.size ≤ cs.length)
    (hi : (P.info? ty).map (·.size) = some vs.size) (h1 : vs.toList.all (·.oneCell') = true)
    (h : ∀ w', Blk w' g t (cs.take i ++ vs.toList ++ cs.drop (i + vs.toList.length)).toArray → w.grownBy w' (some g) → K (a.put op.dst undef) w') : if Region.wanted op (yielded ops a.tmps) = true then Oper.wp P op a w K Q else E := by
  rw [if_pos (by simp [Region.wanted, hgd])]
  exact wp_store_rec ty x y ho g i t cs vs hx hy hb hs hi h1 h
theorem step_store_fld {P : Program} {ops : Array Oper} {op : Oper} {a : Act} {w : World} {K : Act → World → Prop} {Q : Exit → Act → World → Prop} {E : Prop} (hgd : op.guard = none) (ty : TypeId) (x y : Operand) (ho : op.op = .store ty x y)
    (g i : Nat) (t : TypeId) (cs : Array Value) (v : Value) (hx : a.eval x = .pointer (some ⟨g, i, none⟩)) (hy : a.eval y = v) (hb : Blk w g t cs) (hs : i < cs.size)
    (hi : (P.info? ty).map (·.size) = some 1) (hvc : v.cells = #[v]) (hv : v.oneCell' = true)
    (h : ∀ w', Blk w' g t (cs.setIfInBounds i v) → w.grownBy w' (some g) → K (a.put op.dst undef) w') : if Region.wanted op (yielded ops a.tmps) = true then Oper.wp P op a w K Q else E := by
  rw [if_pos (by simp [Region.wanted, hgd])]
  exact wp_store_fld ty x y ho g i t cs v hx hy hb hs hi hvc hv h
theorem setCells9 (w : World) (g o : Nat) (v0 v1 v2 v3 v4 v5 v6 v7 v8 : Value) :
    ((((((((w.setCell ⟨g, o, none⟩ v0).setCell ⟨g, o + 1, none⟩ v1).setCell ⟨g, o + 2, none⟩ v2).setCell ⟨g, o + 3, none⟩ v3).setCell ⟨g, o + 4, none⟩ v4).setCell ⟨g, o + 5, none⟩ v5).setCell ⟨g, o + 6, none⟩ v6).setCell ⟨g, o + 7, none⟩ v7).setCell ⟨g, o + 8, none⟩ v8 =
      w.setCells g o [v0, v1, v2, v3, v4, v5, v6, v7, v8] := rfl
end Go.Proofs.YtdnnodpkgncegaaDoor
