/- Words for sorting cells of tables in place: what is only exchanged stays what it was, in another order. No walk. -/
import Derived.Test.YtadlabndbomgmaaKitT
import Derived.Test.YtadlabndbomgmaaTakeAt
namespace Go.Proofs.Ytadlabndbomgmaa
open Go.RowKit
/-- A cell at a column. -/
structure Ce where
  le : Int
  mo : Int
  at_ : Int
  sp : Int
def ceC (c : Ce) : List Value := [.int .i64 c.le, .int .i64 c.mo, .int .i64 c.at_, .int .i64 c.sp]
def ce0 : Ce := ⟨0, 0, 0, 0⟩
def ceAt (l : List Ce) (k : Nat) : Ce := l.getD k ce0
theorem ceAt_of (l : List Ce) (k : Nat) (h : k < l.length) : ceAt l k = l[k] := by simp [ceAt, List.getD, List.getElem?_eq_getElem h]
def ceCells (l : List Ce) : List Value := l.flatMap ceC
theorem ceCells_len (l : List Ce) : (ceCells l).length = l.length * 4 := by
  induction l with
  | nil => rfl
  | cons c l ih => simp only [ceCells, List.flatMap_cons, List.length_append] at ih ⊢; rw [ih]; simp [ceC]; omega
theorem ceCells_at : ∀ (l : List Ce) (k j : Nat), k < l.length → j < 4 → (ceCells l)[k * 4 + j]? = (ceC (ceAt l k))[j]?
  | [], _, _, h, _ => absurd h (Nat.not_lt_zero _)
  | d :: l, 0, j, _, hj => by
    show (ceC d ++ ceCells l)[0 * 4 + j]? = _
    rw [Nat.zero_mul, Nat.zero_add, List.getElem?_append_left (by simpa [ceC] using hj)]; rfl
  | d :: l, k + 1, j, h, hj => by
    show (ceC d ++ ceCells l)[(k + 1) * 4 + j]? = _
    rw [List.getElem?_append_right (by simp [ceC]; omega), show (k + 1) * 4 + j - (ceC d).length = k * 4 + j by simp [ceC]; omega, ceCells_at l k j (by simpa using h) hj]; rfl
theorem ceCells_set : ∀ (l : List Ce) (k : Nat) (c : Ce), k < l.length → (ceCells l).take (k * 4) ++ ceC c ++ (ceCells l).drop (k * 4 + 4) = ceCells (l.set k c)
  | [], _, _, h => absurd h (Nat.not_lt_zero _)
  | d :: l, 0, c, _ => by
    show (ceC d ++ ceCells l).take 0 ++ ceC c ++ (ceC d ++ ceCells l).drop (0 + 4) = ceC c ++ ceCells l
    rw [List.take_zero, List.nil_append, List.drop_left' (by simp [ceC])]
  | d :: l, k + 1, c, h => by
    have ih := ceCells_set l k c (by simpa using h)
    show (ceC d ++ ceCells l).take ((k + 1) * 4) ++ ceC c ++ (ceC d ++ ceCells l).drop ((k + 1) * 4 + 4) = ceC d ++ ceCells (l.set k c)
    have h4 : (ceC d).length = 4 := rfl
    rw [List.take_append, List.drop_append, List.take_of_length_le (by omega), List.drop_of_length_le (by omega), h4, show (k + 1) * 4 - 4 = k * 4 by omega, show (k + 1) * 4 + 4 - 4 = k * 4 + 4 by omega, List.nil_append, ← ih]
    simp only [List.append_assoc]
/-- A block's cells: so many cells of a table, and what lies behind them. -/
def ceArr (l : List Ce) (rs : List Value) : Array Value := (ceCells l ++ rs).toArray
section
variable {w : World} {g : Nat} {t : TypeId} {l : List Ce} {rs : List Value}
theorem ce_range (h : Blk w g t (ceArr l rs)) {k : Nat} (hk : k < l.length) : w.rangeAt g (k * 4) (ceC (ceAt l k)) := by
  intro j v hj
  have hj4 : j < 4 := (List.getElem?_eq_some_iff.1 hj).1
  rw [h.cell, ceArr, List.getElem?_toArray, List.getElem?_append_left (by rw [ceCells_len]; omega), ceCells_at l k j hk hj4]; exact hj
theorem ce_there (h : Blk w g t (ceArr l rs)) {k : Nat} (hk : k < l.length) : w.there g (k * 4) 4 := fun j hj => by
  refine ⟨?_, h.frozen _⟩
  rw [h.cell, ceArr, List.getElem?_toArray, List.getElem?_append_left (by rw [ceCells_len]; omega), List.getElem?_eq_getElem (by rw [ceCells_len]; omega)]; rfl
theorem ce_store (h : Blk w g t (ceArr l rs)) {k : Nat} (hk : k < l.length) (c : Ce) : Blk (w.setCells g (k * 4) (ceC c)) g t (ceArr (l.set k c) rs) := by
  have hlen : k * 4 + 4 ≤ (ceCells l).length := by rw [ceCells_len]; omega
  have := blk_setCells (ceC c) (k * 4) w (ceArr l rs) (by rw [ceArr, List.size_toArray, List.length_append]; show k * 4 + 4 ≤ _; omega) h
  rw [ceArr, List.toList_toArray, show (ceC c).length = 4 from rfl, List.take_append_of_le_length (by omega), List.drop_append_of_le_length (by omega), ← List.append_assoc, ceCells_set l k c hk] at this
  exact this
end
section
variable {rs : List Value} {P : Program} {ops : Array Oper} {op : Oper} {a : Act} {w : World} {K : Act → World → Prop} {Q : Exit → Act → World → Prop} {E : Prop}
theorem step_load_ce (d' : Tmp) (hdst : op.dst = some d') (hgd : op.guard = none) (ty : TypeId) (x : Operand) (ho : op.op = .load ty x) (g k : Nat) (t : TypeId) (l : List Ce) (hx : a.eval x = .pointer (some ⟨g, k * 4, none⟩)) (hb : Blk w g t (ceArr l rs)) (hk : k < l.length) (d : TypeDesc)
    (hu : P.underlying ty = some d) (hd : d.isRow = true) (hi : (P.info? ty).map (·.size) = some 4) (h : K (a.put (some d') (.agg (ceC (ceAt l k)).toArray)) w) : if Region.wanted op (yielded ops a.tmps) = true then Oper.wp P op a w K Q else E := by
  rw [if_pos (by simp [Region.wanted, hgd])]
  exact wp_load_mid ty x ho g (k * 4) hx (ceC (ceAt l k)) d (ce_range hb hk) hu hd hi (by rw [hdst]; exact h)
theorem step_store_ce (hdst : op.dst = none) (hgd : op.guard = none) (ty : TypeId) (x y : Operand) (ho : op.op = .store ty x y) (g k : Nat) (t : TypeId) (l : List Ce) (c : Ce) (hx : a.eval x = .pointer (some ⟨g, k * 4, none⟩)) (hy : a.eval y = .agg (ceC c).toArray) (hb : Blk w g t (ceArr l rs)) (hk : k < l.length)
    (hi : (P.info? ty).map (·.size) = some 4) (h : ∀ w', Blk w' g t (ceArr (l.set k c) rs) → w.grownBy w' (some g) → K a w') : if Region.wanted op (yielded ops a.tmps) = true then Oper.wp P op a w K Q else E := by
  rw [if_pos (by simp [Region.wanted, hgd])]
  exact wp_store_mid ty x y ho g (k * 4) (ceC c).toArray hx hy (ce_there hb hk) hi (by rw [← Array.all_toList]; rfl) (by rw [hdst]; exact h _ (ce_store hb hk c) (grown_setCells g _ _ w))
end
def SpanOk (l : List Ce) : Prop := ∀ c ∈ l, -1000 ≤ c.sp ∧ c.sp ≤ 1000
theorem SpanOk.perm {l l' : List Ce} (h : SpanOk l) (hp : l'.Perm l) : SpanOk l' := fun c hc => h c (hp.mem_iff.1 hc)
theorem SpanOk.at_ {l : List Ce} (h : SpanOk l) (k : Nat) (hk : k < l.length) : -1000 ≤ (ceAt l k).sp ∧ (ceAt l k).sp ≤ 1000 := by
  rw [ceAt_of l k hk]; exact h _ (List.getElem_mem hk)
theorem swap_perm (l : List Ce) (i j : Nat) (hi : i < l.length) (hj : j < l.length) : ((l.set i (ceAt l j)).set j (ceAt l i)).Perm l := by
  rw [ceAt_of l j hj, ceAt_of l i hi]
  exact List.set_set_perm hi hj
end Go.Proofs.Ytadlabndbomgmaa
