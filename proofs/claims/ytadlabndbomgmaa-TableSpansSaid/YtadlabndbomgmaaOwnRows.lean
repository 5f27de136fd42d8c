/- Rows of cells that a call appends to rows of its own: how they lie. No program in sight. -/
import Derived.Test.YtadlabndbomgmaaOpenT
namespace Go.Proofs.Ytadlabndbomgmaa
open Go.RowKit
theorem wi16t (n : Int) : -32768 ≤ IntKind.i16.wrap n ∧ IntKind.i16.wrap n ≤ 32767 := by simp only [IntKind.wrap, IntKind.bits, IntKind.signed]; simp; omega
/-- A cell of bounded numbers. -/
def tameLc (f : Nat → Int) : Lc := ⟨IntKind.i16.wrap (f 0), IntKind.i16.wrap (f 1), f 2 % 256 % 5 + 1⟩
theorem tameLc_ok (f : Nat → Int) : LcOk (tameLc f) := by
  have h1 := wi16t (f 0)
  have h2 := wi16t (f 1)
  unfold LcOk tameLc
  simp only
  omega
def ownRow (n : Nat) (R : Nat → Nat → Int) : List Lc := (List.range (min n 12)).map fun k => tameLc (R k)
theorem ownRow_len (n : Nat) (R : Nat → Nat → Int) : (ownRow n R).length = min n 12 := by simp [ownRow]
theorem ownRow_next (n : Nat) (R : Nat → Nat → Int) (j : Nat) (h : j < min n 12) : (ownRow n R).take (j + 1) = (ownRow n R).take j ++ [tameLc (R j)] := by
  rw [take_snoc _ j (by rw [ownRow_len]; exact h)]
  simp [ownRow]
def ownRows (n : Nat) (F : Nat → Hd) (R : Nat → Nat → Nat → Int) : List (List Lc) := (List.range (min n 12)).map fun i => ownRow (F i).2.1 (R i)
theorem ownRows_len (n : Nat) (F : Nat → Hd) (R : Nat → Nat → Nat → Int) : (ownRows n F R).length = min n 12 := by simp [ownRows]
theorem ownRows_at (n : Nat) (F : Nat → Hd) (R : Nat → Nat → Nat → Int) (i : Nat) (h : i < min n 12) : rowAt (ownRows n F R) i = ownRow (F i).2.1 (R i) := by
  rw [rowAt_of _ i (by rw [ownRows_len]; exact h)]
  simp [ownRows]
theorem ownRows_ok (n : Nat) (F : Nat → Hd) (R : Nat → Nat → Nat → Int) : RowsOk (ownRows n F R) := by
  intro r hr
  simp only [ownRows, List.mem_map] at hr
  obtain ⟨i, _, rfl⟩ := hr
  refine ⟨by rw [ownRow_len]; omega, fun x hx => ?_⟩
  simp only [ownRow, List.mem_map] at hx
  obtain ⟨k, _, rfl⟩ := hx
  exact tameLc_ok _
def lcC (x : Lc) : List Value := [.int .i64 x.l, .int .i64 x.m, .int .i64 x.s]
def lcCells (r : List Lc) : List Value := r.flatMap lcC
theorem lcCells_snoc (r : List Lc) (x : Lc) : lcCells (r ++ [x]) = lcCells r ++ lcC x := by simp [lcCells]
theorem lcCells_at : ∀ (l : List Lc) (k j : Nat), k < l.length → j < 3 → (lcCells l)[k * 3 + j]? = some (.int .i64 (lcF (lcAt l k) j))
  | [], _, _, h, _ => absurd h (Nat.not_lt_zero _)
  | d :: l, 0, j, _, hj => by
    show (lcC d ++ lcCells l)[0 * 3 + j]? = _
    rw [Nat.zero_mul, Nat.zero_add, List.getElem?_append_left (by simpa [lcC] using hj)]
    rcases (show j = 0 ∨ j = 1 ∨ j = 2 by omega) with rfl | rfl | rfl <;> rfl
  | d :: l, k + 1, j, h, hj => by
    show (lcC d ++ lcCells l)[(k + 1) * 3 + j]? = _
    rw [List.getElem?_append_right (by simp [lcC]; omega), show (k + 1) * 3 + j - (lcC d).length = k * 3 + j by simp [lcC]; omega, lcCells_at l k j (by simpa using h) hj]; rfl
theorem add_none (g j : Nat) : (⟨g, 0, none⟩ : Addr).add j = ⟨g, j, none⟩ := by unfold Addr.add; split <;> simp_all
theorem recs_of_own {w : World} {base : Nat} {t : TypeId} {A : Option Addr} {n c : Nat} {r : List Lc} (h : w.ownsRow base t 3 (.slice A n c) n (lcCells r)) (hl : r.length = n) : Recs w w.heap.size 3 A n fun k j => lcF (lcAt r k) j := by
  intro k hk
  obtain ⟨g, cap, hv, hg, hgl⟩ := h.form (by omega)
  have hA : A = some ⟨g, 0, none⟩ := by injection hv
  refine ⟨g, 0, hA, hgl, fun j hj => ?_⟩
  have hlt : k * 3 + j < n * 3 := by omega
  have h2 := h.cells (g := g) (by rw [hA]; rfl) (k * 3 + j) _ (lcCells_at r k j (by omega) hj)
  rw [Nat.zero_add]
  rwa [add_none] at h2
/-- The rows that are made: their heads lie in a row of heads. -/
structure Made (w : World) (base : Nat) (t t2 : TypeId) (v : Value) (rows : List (List Lc)) (i : Nat) (F : Nat → Hd) : Prop where
  outer : w.ownsRow base t 1 v i ((List.range i).map fun k => hdV (F k))
  inner : ∀ k, k < i → (F k).2.1 = (rowAt rows k).length ∧ w.ownsRow base t2 3 (hdV (F k)) (rowAt rows k).length (lcCells (rowAt rows k))
theorem Made.none_ (w : World) (base : Nat) (t t2 : TypeId) (rows : List (List Lc)) : Made w base t t2 (.slice none 0 0) rows 0 fun _ => (none, 0, 0) :=
  ⟨own_none _ _ _ _, fun _ hk => absurd hk (Nat.not_lt_zero _)⟩
theorem own_lt2 {w : World} {base size n : Nat} {e : TypeId} {v : Value} {xs : List Value} (h : w.ownsRow base e size v n xs) {B : Nat} (hB : w.heap.size ≤ B) : ∀ k, v.ownBlock = some k → k < B := fun k hk => Nat.lt_of_lt_of_le (own_lt h k hk) hB
theorem Made.below {w w' : World} {base : Nat} {t t2 : TypeId} {v : Value} {rows : List (List Lc)} {i : Nat} {F : Nat → Hd} (h : Made w base t t2 v rows i F) (hb : Below w.heap.size w w') : Made w' base t t2 v rows i F :=
  ⟨own_keep h.outer hb (own_lt2 h.outer (Nat.le_refl _)), fun k hk => ⟨(h.inner k hk).1, own_keep (h.inner k hk).2 hb (own_lt2 (h.inner k hk).2 (Nat.le_refl _))⟩⟩
theorem own_own_ne {w : World} {b1 b2 s1 s2 n1 n2 : Nat} {e1 e2 : TypeId} {v1 v2 : Value} {x1 x2 : List Value} (h1 : w.ownsRow b1 e1 s1 v1 n1 x1) (h2 : w.ownsRow b2 e2 s2 v2 n2 x2) (hne : e1 ≠ e2) {row : Option Nat} (hr : v2.ownBlock = row) (h0 : row ≠ none) : v1.ownBlock ≠ row := by
  subst hr
  rcases h2.2 with ⟨rfl, _⟩ | ⟨g, cap, cur, rfl, _, hh, _⟩
  · simp [Value.ownBlock] at h0
  · exact own_blk_ne (g := g) h1 hh hne
/-- One row more. -/
theorem Made.next {w w' : World} {base : Nat} {t t2 : TypeId} {v v' : Value} {rows : List (List Lc)} {i : Nat} {F : Nat → Hd} (h : Made w base t t2 v rows i F) (hne : t2 ≠ t) (hd : Hd) (hl : hd.2.1 = (rowAt rows i).length) (hown : w.ownsRow base t2 3 (hdV hd) (rowAt rows i).length (lcCells (rowAt rows i)))
    (hg : w.grownBy w' v.ownBlock) (ho : w'.ownsRow base t 1 v' (i + 1) ((List.range i).map (fun k => hdV (F k)) ++ [hdV hd])) : Made w' base t t2 v' rows (i + 1) fun k => if k < i then F k else hd := by
  have keep : ∀ {u : Value} {n : Nat} {xs : List Value}, w.ownsRow base t2 3 u n xs → w'.ownsRow base t2 3 u n xs := fun {u n xs} hu => by
    rcases h.outer.2 with ⟨rfl, _⟩ | ⟨g, cap, cur, rfl, _, hh, _⟩
    · by_cases hb : u.ownBlock = none
      · exact hu.kept hg (.inl hb)
      · exact hu.kept hg (.inr (by simpa [Value.ownBlock] using hb))
    · exact hu.kept hg (.inr (own_blk_ne hu hh hne))
  refine ⟨?_, fun k hk => ?_⟩
  · have e : (List.range (i + 1)).map (fun k => hdV (if k < i then F k else hd)) = (List.range i).map (fun k => hdV (F k)) ++ [hdV hd] := by
      rw [List.range_succ, List.map_append]
      congr 1
      · exact List.map_congr_left fun k hk => by rw [if_pos (List.mem_range.1 hk)]
      · simp
    rw [e]; exact ho
  · by_cases e : k < i
    · simp only [e, if_true]; exact ⟨(h.inner k e).1, keep (h.inner k e).2⟩
    · obtain rfl : k = i := by omega
      simp only [Nat.lt_irrefl, if_false]
      exact ⟨hl, keep hown⟩
theorem Made.rowsAt {w : World} {base : Nat} {t t2 : TypeId} {A : Option Addr} {n c : Nat} {rows : List (List Lc)} {F : Nat → Hd} (h : Made w base t t2 (.slice A n c) rows n F) (hn : rows.length = n) : RowsAt w w.heap.size A F rows := by
  refine ⟨fun i hi => ?_, fun i hi => (h.inner i (by omega)).1, fun i hi => ?_⟩
  · obtain ⟨g, cap, hv, hg, hgl⟩ := h.outer.form (by omega)
    have hA : A = some ⟨g, 0, none⟩ := by injection hv
    refine ⟨g, 0, hA, hgl, ?_⟩
    have h2 := h.outer.cells (g := g) (by rw [hA]; rfl) i (hdV (F i)) (by rw [List.getElem?_map, List.getElem?_range (by omega)]; rfl)
    rw [Nat.zero_add]
    rwa [add_none] at h2
  · obtain ⟨h1, h2⟩ := h.inner i (by omega)
    unfold hdV at h2
    rw [h1] at h2
    exact recs_of_own h2 rfl
end Go.Proofs.Ytadlabndbomgmaa
