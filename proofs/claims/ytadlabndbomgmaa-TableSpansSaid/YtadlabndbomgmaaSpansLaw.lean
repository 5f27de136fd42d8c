/- Plain facts on the cells of a table's rows and the columns they stand in. No program in sight. -/
import Derived.Test.YtadlabndbomgmaaSpansPlain
import Derived.Test.YtadlabndbomgmaaSortKit
namespace Go.Proofs.Ytadlabndbomgmaa
def CellOk (many : Nat) (c : Ce) : Prop := 0 ≤ c.le ∧ c.le ≤ 32767 ∧ c.le ≤ c.mo ∧ c.mo ≤ 32767 ∧ 0 ≤ c.at_ ∧ 1 ≤ c.sp ∧ c.sp ≤ 5 ∧ c.at_ + c.sp ≤ many
def Met_ (L M : List Int) (c : Ce) : Prop := c.le ≤ segs L c.at_.toNat c.sp.toNat ∧ c.mo ≤ segs M c.at_.toNat c.sp.toNat
def RowOk (L : List Int) : Prop := ∀ k, 0 ≤ at0 L k ∧ at0 L k ≤ 32767
/-- A cell as it is handed in. -/
structure Lc where
  l : Int
  m : Int
  s : Int
def LcOk (x : Lc) : Prop := -32768 ≤ x.l ∧ x.l ≤ 32767 ∧ -32768 ≤ x.m ∧ x.m ≤ 32767 ∧ 1 ≤ x.s ∧ x.s ≤ 5
def ceOf (a : Int) (x : Lc) : Ce := ⟨max 0 x.l, max x.m (max 0 x.l), a, x.s⟩
def spanSum : List Lc → Int
  | [] => 0
  | x :: r => x.s + spanSum r
theorem spanSum_snoc (r : List Lc) (x : Lc) : spanSum (r ++ [x]) = spanSum r + x.s := by
  induction r with
  | nil => simp [spanSum]
  | cons y r ih => simp only [List.cons_append, spanSum, ih]; omega
theorem spanSum_bd (r : List Lc) (h : ∀ x ∈ r, LcOk x) : 0 ≤ spanSum r ∧ spanSum r ≤ 5 * r.length ∧ (r.length : Int) ≤ spanSum r := by
  induction r with
  | nil => simp [spanSum]
  | cons x r ih =>
    have h1 := h x (by simp)
    have h2 := ih fun y hy => h y (by simp [hy])
    unfold LcOk at h1
    simp only [spanSum, List.length_cons]
    omega
def rowCes (a : Int) : List Lc → List Ce
  | [] => []
  | x :: r => ceOf a x :: rowCes (a + x.s) r
theorem rowCes_len (a : Int) (r : List Lc) : (rowCes a r).length = r.length := by
  induction r generalizing a with
  | nil => rfl
  | cons x r ih => simp [rowCes, ih]
theorem rowCes_snoc (a : Int) (r : List Lc) (x : Lc) : rowCes a (r ++ [x]) = rowCes a r ++ [ceOf (a + spanSum r) x] := by
  induction r generalizing a with
  | nil => simp [rowCes, spanSum]
  | cons y r ih => simp only [List.cons_append, rowCes, ih, spanSum, Int.add_assoc]
theorem rowCes_mem (a : Int) (r : List Lc) (j : Nat) (h : j < r.length) : ceOf (a + spanSum (r.take j)) r[j] ∈ rowCes a r := by
  have e : r.take (j + 1) = r.take j ++ [r[j]] := by rw [List.take_succ_eq_append_getElem h]
  have h2 := rowCes_snoc a (r.take j) r[j]
  rw [← e] at h2
  have h3 : ∀ (r : List Lc) (k : Nat) (a : Int) (c : Ce), c ∈ rowCes a (r.take k) → c ∈ rowCes a r := by
    intro r
    induction r with
    | nil => intro k a c hc; simpa using hc
    | cons y r ih =>
      intro k a c hc
      cases k with
      | zero => simp [rowCes] at hc
      | succ k =>
        simp only [List.take_succ_cons, rowCes, List.mem_cons] at hc ⊢
        exact hc.imp id (ih k _ c)
  exact h3 r (j + 1) a _ (by rw [h2]; simp)
theorem rowCes_ok (many : Nat) (a : Int) (r : List Lc) (h : ∀ x ∈ r, LcOk x) (ha : 0 ≤ a) (hm : a + spanSum r ≤ many) : ∀ c ∈ rowCes a r, CellOk many c := by
  induction r generalizing a with
  | nil => intro c hc; simp [rowCes] at hc
  | cons x r ih =>
    have h1 := h x (by simp)
    have h2 : ∀ y ∈ r, LcOk y := fun y hy => h y (by simp [hy])
    have h3 := spanSum_bd r h2
    unfold LcOk at h1
    simp only [spanSum] at hm
    intro c hc
    simp only [rowCes, List.mem_cons] at hc
    rcases hc with rfl | hc
    · unfold CellOk ceOf; simp only; omega
    · exact ih (a + x.s) h2 (by omega) (by omega) c hc
def allCes (rows : List (List Lc)) : List Ce := rows.flatMap (rowCes 0)
theorem allCes_snoc (rows : List (List Lc)) (r : List Lc) : allCes (rows ++ [r]) = allCes rows ++ rowCes 0 r := by simp [allCes]
theorem allCes_len (rows : List (List Lc)) (n : Nat) (h : ∀ r ∈ rows, r.length ≤ n) : (allCes rows).length ≤ rows.length * n := by
  induction rows with
  | nil => simp [allCes]
  | cons r rows ih =>
    have h1 := h r (by simp)
    have h2 := ih fun y hy => h y (by simp [hy])
    have e : allCes (r :: rows) = rowCes 0 r ++ allCes rows := by simp [allCes]
    rw [e, List.length_append, rowCes_len, List.length_cons, Nat.succ_mul]
    omega
def manyOf : List (List Lc) → Int
  | [] => 0
  | r :: rows => max (spanSum r) (manyOf rows)
theorem manyOf_nonneg (rows : List (List Lc)) : 0 ≤ manyOf rows := by
  induction rows with
  | nil => exact Int.le_refl _
  | cons r rows ih => simp only [manyOf]; omega
theorem manyOf_snoc (rows : List (List Lc)) (r : List Lc) (h : 0 ≤ spanSum r) : manyOf (rows ++ [r]) = max (manyOf rows) (spanSum r) := by
  induction rows with
  | nil => simp only [List.nil_append, manyOf]; omega
  | cons y rows ih => simp only [List.cons_append, manyOf, ih]; omega
theorem manyOf_ge (rows : List (List Lc)) (r : List Lc) (h : r ∈ rows) : spanSum r ≤ manyOf rows := by
  induction rows with
  | nil => cases h
  | cons y rows ih =>
    simp only [manyOf]
    rcases List.mem_cons.1 h with rfl | h
    · omega
    · have := ih h; omega
def RowsOk (rows : List (List Lc)) : Prop := ∀ r ∈ rows, r.length ≤ 12 ∧ ∀ x ∈ r, LcOk x
theorem manyOf_le (rows : List (List Lc)) (h : RowsOk rows) : manyOf rows ≤ 60 := by
  induction rows with
  | nil => simp [manyOf]
  | cons r rows ih =>
    have h1 := h r (by simp)
    have h2 := spanSum_bd r h1.2
    have h3 := ih fun y hy => h y (by simp [hy])
    simp only [manyOf]; omega
theorem allCes_ok (rows : List (List Lc)) (h : RowsOk rows) : ∀ c ∈ allCes rows, CellOk (manyOf rows).toNat c := by
  intro c hc
  obtain ⟨r, hr, hc⟩ := List.mem_flatMap.1 hc
  have h1 := h r hr
  have h2 := manyOf_ge rows r hr
  have h3 := manyOf_nonneg rows
  exact rowCes_ok _ 0 r h1.2 (Int.le_refl _) (by omega) c hc
theorem manyOf_nil (rows : List (List Lc)) (h : allCes rows = []) : manyOf rows = 0 := by
  induction rows with
  | nil => rfl
  | cons r rows ih =>
    have e : allCes (r :: rows) = rowCes 0 r ++ allCes rows := by simp [allCes]
    rw [e, List.append_eq_nil_iff] at h
    have hr : r = [] := by
      cases r with
      | nil => rfl
      | cons x r => simp [rowCes] at h
    subst hr
    simp only [manyOf, spanSum, ih h.2]; rfl
/-- What each cell needs, said of its place. -/
theorem spans_law (rows : List (List Lc)) (L M : List Int) (h : RowsOk rows) (hm : ∀ c ∈ allCes rows, Met_ L M c) (r : List Lc) (hr : r ∈ rows) (j : Nat) (hj : j < r.length) :
    0 ≤ spanSum (r.take j) ∧ spanSum (r.take j) + r[j].s ≤ manyOf rows ∧ r[j].l ≤ segs L (spanSum (r.take j)).toNat r[j].s.toNat ∧ r[j].l ≤ segs M (spanSum (r.take j)).toNat r[j].s.toNat ∧ r[j].m ≤ segs M (spanSum (r.take j)).toNat r[j].s.toNat := by
  have h1 := h r hr
  have hmem : ceOf (0 + spanSum (r.take j)) r[j] ∈ allCes rows := List.mem_flatMap.2 ⟨r, hr, rowCes_mem 0 r j hj⟩
  have h2 := hm _ hmem
  have h3 := allCes_ok rows h _ hmem
  have h4 := spanSum_bd (r.take j) fun x hx => h1.2 x (List.mem_of_mem_take hx)
  have h5 := manyOf_nonneg rows
  rw [Int.zero_add] at h2 h3
  unfold Met_ ceOf at h2
  unfold CellOk ceOf at h3
  simp only at h2 h3
  refine ⟨h4.1, by omega, by omega, by omega, by omega⟩
end Go.Proofs.Ytadlabndbomgmaa
