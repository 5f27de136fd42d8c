/- Rows of a table's cells as they lie in memory, and the list that is made of them. No program in sight. -/
import Derived.Test.YtadlabndbomgmaaSpansLaw
import Derived.Test.YtadlabndbomgmaaOpen
namespace Go.Proofs.Ytadlabndbomgmaa
open Go.RowKit
def lcAt (r : List Lc) (k : Nat) : Lc := r.getD k ⟨0, 0, 1⟩
theorem lcAt_of (r : List Lc) (k : Nat) (h : k < r.length) : lcAt r k = r[k] := by simp [lcAt, List.getD, List.getElem?_eq_getElem h]
def rowAt (rows : List (List Lc)) (k : Nat) : List Lc := rows.getD k []
theorem rowAt_of (rows : List (List Lc)) (k : Nat) (h : k < rows.length) : rowAt rows k = rows[k] := by simp [rowAt, List.getD, List.getElem?_eq_getElem h]
def lcF (x : Lc) : Nat → Int
  | 0 => x.l
  | 1 => x.m
  | _ => x.s
/-- A slice's head: where it lies, how long it is, how much room it has. -/
abbrev Hd := Option Addr × Nat × Nat
def hdV (h : Hd) : Value := .slice h.1 h.2.1 h.2.2
/-- A slice of rows: each row's head lies in it, and each row's cells lie where its head says. -/
structure RowsAt (w : World) (B : Nat) (A : Option Addr) (F : Nat → Hd) (rows : List (List Lc)) : Prop where
  outer : ∀ i, i < rows.length → ∃ g off, A = some ⟨g, off, none⟩ ∧ g < B ∧ w.cell? ⟨g, off + i, none⟩ = some (hdV (F i))
  len : ∀ i, i < rows.length → (F i).2.1 = (rowAt rows i).length
  inner : ∀ i, i < rows.length → Recs w B 3 (F i).1 (rowAt rows i).length fun k j => lcF (lcAt (rowAt rows i) k) j
theorem RowsAt.below {w w' : World} {B : Nat} {A : Option Addr} {F : Nat → Hd} {rows : List (List Lc)} (h : RowsAt w B A F rows) (hb : Below B w w') : RowsAt w' B A F rows :=
  ⟨fun i hi => by obtain ⟨g, off, h1, h2, h3⟩ := h.outer i hi; exact ⟨g, off, h1, h2, (hb.cell (p := ⟨g, off + i, none⟩) h2).trans h3⟩, h.len, fun i hi => (h.inner i hi).below hb⟩
/-- What has been made of i rows and j cells of the next one. -/
def upTo2 (rows : List (List Lc)) (i j : Nat) : List Ce := allCes (rows.take i) ++ rowCes 0 ((rowAt rows i).take j)
def atS (rows : List (List Lc)) (i j : Nat) : Int := spanSum ((rowAt rows i).take j)
theorem take_snoc {α : Type} (l : List α) (k : Nat) (h : k < l.length) : l.take (k + 1) = l.take k ++ [l[k]] := List.take_succ_eq_append_getElem h
theorem upTo2_zero (rows : List (List Lc)) (i : Nat) : upTo2 rows i 0 = allCes (rows.take i) := by simp [upTo2, rowCes]
theorem upTo2_next (rows : List (List Lc)) (i j : Nat) (h : j < (rowAt rows i).length) : upTo2 rows i (j + 1) = upTo2 rows i j ++ [ceOf (atS rows i j) (lcAt (rowAt rows i) j)] := by
  unfold upTo2 atS
  rw [take_snoc _ j h, rowCes_snoc, Int.zero_add, lcAt_of _ j h, List.append_assoc]
theorem upTo2_all (rows : List (List Lc)) (i : Nat) (h : i < rows.length) : upTo2 rows i (rowAt rows i).length = allCes (rows.take (i + 1)) := by
  unfold upTo2
  rw [take_snoc _ i h, allCes_snoc, List.take_length, rowAt_of _ i h]
theorem atS_next (rows : List (List Lc)) (i j : Nat) (h : j < (rowAt rows i).length) : atS rows i (j + 1) = atS rows i j + (lcAt (rowAt rows i) j).s := by
  unfold atS
  rw [take_snoc _ j h, spanSum_snoc, lcAt_of _ j h]
theorem manyOf_next (rows : List (List Lc)) (h : RowsOk rows) (i : Nat) (hi : i < rows.length) : manyOf (rows.take (i + 1)) = max (manyOf (rows.take i)) (atS rows i (rowAt rows i).length) := by
  have h1 := h _ (List.getElem_mem hi)
  rw [take_snoc _ i hi, manyOf_snoc _ _ (spanSum_bd _ h1.2).1]
  unfold atS
  rw [List.take_length, rowAt_of _ i hi]
theorem atS_bd (rows : List (List Lc)) (h : RowsOk rows) (i j : Nat) (hi : i < rows.length) (hj : j < (rowAt rows i).length) : 0 ≤ atS rows i j ∧ atS rows i j ≤ 55 ∧ LcOk (lcAt (rowAt rows i) j) := by
  have h1 := h _ (List.getElem_mem hi)
  rw [← rowAt_of rows i hi] at h1
  have h2 := spanSum_bd ((rowAt rows i).take j) fun x hx => h1.2 x (List.mem_of_mem_take hx)
  have h3 : ((rowAt rows i).take j).length = j := by rw [List.length_take]; omega
  unfold atS
  rw [lcAt_of _ j hj]
  exact ⟨h2.1, by omega, h1.2 _ (List.getElem_mem hj)⟩
theorem spans_at (rows : List (List Lc)) (L M : List Int) (many : Nat) (h : RowsOk rows) (hm : ∀ c ∈ allCes rows, Met_ L M c) (he : manyOf rows = many) (i j : Nat) (hi : i < rows.length) (hj : j < (rowAt rows i).length) :
    ∃ a n : Nat, atS rows i j = a ∧ (lcAt (rowAt rows i) j).s = n ∧ 1 ≤ n ∧ n ≤ 5 ∧ a + n ≤ many ∧ (lcAt (rowAt rows i) j).l ≤ segs L a n ∧ max (lcAt (rowAt rows i) j).l (lcAt (rowAt rows i) j).m ≤ segs M a n := by
  have h1 := (atS_bd rows h i j hi hj)
  have h2 := spans_law rows L M h hm (rowAt rows i) (by rw [rowAt_of rows i hi]; exact List.getElem_mem hi) j hj
  rw [lcAt_of _ j hj] at h1 ⊢
  unfold atS at h1 ⊢
  unfold LcOk at h1
  exact ⟨(spanSum ((rowAt rows i).take j)).toNat, (rowAt rows i)[j].s.toNat, by omega, by omega, by omega, by omega, by omega, h2.2.2.1, by omega⟩
theorem upTo2_len (rows : List (List Lc)) (h : RowsOk rows) (i j : Nat) (hi : i < rows.length) (hn : rows.length ≤ 12) : (upTo2 rows i j).length ≤ 1000 := by
  have h1 := h _ (List.getElem_mem hi)
  rw [← rowAt_of rows i hi] at h1
  have h2 := allCes_len (rows.take i) 12 fun r hr => (h r (List.mem_of_mem_take hr)).1
  have h3 : (rows.take i).length ≤ 12 := by rw [List.length_take]; omega
  have h4 := Nat.mul_le_mul_right 12 h3
  unfold upTo2
  rw [List.length_append, rowCes_len, List.length_take]
  omega
end Go.Proofs.Ytadlabndbomgmaa
