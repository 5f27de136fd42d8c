/- Opening a slice of slices of records of integers. No program in sight. -/
import Derived.Test.YtadlabndbomgmaaRowsAt
namespace Go.Proofs.Ytadlabndbomgmaa
open Go.RowKit Go.ChangeShapes Go.WideShapes Go.Deep Go.ChangeAt
section
variable {H : Type} {enc : TypeId × Value → H} {P : Program} {w : World} {base : Nat} {spare : Nat → Bool} {held : Bool}
theorem open_recs_cells {t e : TypeId} {fs : Array Field} {fuel : Nat} {cs : List Value} {x : DataW H × List MemPlace} (ht : P.underlying t = some (.slice e)) (he : P.underlying e = some (.struct fs))
    (hone : oneCellFields P fs = true) (hC : P.cellsOf e = fs.size) (hpos : 0 < fs.size) {ti : TypeId} (hU : P.underlying ti = some (.int .i64)) (hty : fs.toList.map (·.type) = List.replicate fs.size ti)
    (hf : DataW.trod enc P w base spare held fuel t cs = some x) :
    ∃ (A : Option Addr) (n c : Nat) (R : Nat → Nat → Int), cs = [.slice A n c] ∧ n ≤ c ∧ c ≤ maxLen ∧ Recs w w.heap.size fs.size A n R ∧ ∀ k j, -9223372036854775808 ≤ R k j ∧ R k j ≤ 9223372036854775807 := by
  have hint : ∀ (j : Nat) (f : Field), fs[j]? = some f → P.underlying f.type = some (.int .i64) := by
    intro j f hj
    have h1 : (fs.toList.map (·.type))[j]? = some f.type := by rw [List.getElem?_map, Array.getElem?_toList, hj]; rfl
    rw [hty, List.getElem?_replicate] at h1
    split at h1
    · injection h1 with h1; rw [← h1]; exact hU
    · cases h1
  rcases open_slice_fields ht he hone hC hf with ⟨hcs, _⟩ | ⟨a, n, c, m, D, Pl, hcs, _, hl, hm, hmm, _, hel⟩
  · exact ⟨none, 0, 0, fun _ _ => 0, hcs, Nat.le_refl _, Nat.zero_le _, fun k hk => by omega, fun _ _ => by dsimp only; omega⟩
  · have hnm : n ≤ m := by rw [hmm]; split <;> omega
    have hx : ∀ k j, k < n → j < fs.size → ∃ x, w.cell? (a.add (k * fs.size + j)) = some (.int .i64 x) ∧ (Lit.int .i64 x).wf = true := by
      intro k j hk hj
      obtain ⟨ys, n', _, _, _, hfd⟩ := hel k (by omega)
      obtain ⟨v, y, hc, _, hy⟩ := hfd j fs[j] (Array.getElem?_eq_getElem hj)
      obtain ⟨x, hv, _, hwf⟩ := DataW.trod_int (hint j fs[j] (Array.getElem?_eq_getElem hj)) hy
      simp at hv
      subst hv
      exact ⟨x, hc, hwf⟩
    refine ⟨some a, n, c, fun k j => if h : k < n ∧ j < fs.size then Classical.choose (hx k j h.1 h.2) else 0, hcs, hl, hm, ?_, ?_⟩
    · intro k hk
      obtain ⟨x, hc, _⟩ := hx k 0 hk (by omega)
      have hlt := cell_lt hc
      rw [block_of_add] at hlt
      obtain ⟨g, off, spot⟩ := a
      have hspot : spot = none := by
        have h1 := hx 0 0 (by omega) (by omega)
        obtain ⟨x1, hc1, _⟩ := h1
        simp [Addr.add] at hc1
        simpa using World.cell?_spot hc1
      subst hspot
      refine ⟨g, off, rfl, hlt, fun j hj => ?_⟩
      have hadd : ∀ i, (⟨g, off, none⟩ : Addr).add i = ⟨g, off + i, none⟩ := fun i => by unfold Addr.add; split <;> simp_all
      have h2 := Classical.choose_spec (hx k j hk hj)
      simp only [dif_pos (show k < n ∧ j < fs.size from ⟨hk, hj⟩)]
      rw [Nat.add_assoc, ← hadd]
      exact h2.1
    · intro k j
      by_cases h : k < n ∧ j < fs.size
      · simp only [dif_pos h]
        exact wf_i64 (Classical.choose_spec (hx k j h.1 h.2)).2
      · simp only [dif_neg h]; omega
/-- A slice of rows that came in. -/
structure RowsIn (w : World) (size : Nat) (A : Option Addr) (n : Nat) (F : Nat → Hd) (R : Nat → Nat → Nat → Int) : Prop where
  outer : ∀ i, i < n → ∃ g off, A = some ⟨g, off, none⟩ ∧ g < w.heap.size ∧ w.cell? ⟨g, off + i, none⟩ = some (hdV (F i))
  inner : ∀ i, i < n → (F i).2.1 ≤ (F i).2.2 ∧ (F i).2.2 ≤ maxLen ∧ Recs w w.heap.size size (F i).1 (F i).2.1 (R i)
  bd : ∀ i k j, -9223372036854775808 ≤ R i k j ∧ R i k j ≤ 9223372036854775807
theorem open_rows {r : Reach} {b0 : Nat} {t e q : TypeId} {fs : Array Field} {v : Value} {d : DataW H} {ps : List MemPlace} (ht : P.underlying t = some (.slice e)) (hte : P.underlying e = some (.slice q)) (ce : P.cellsOf e = 1) (he : P.underlying q = some (.struct fs))
    (hone : oneCellFields P fs = true) (hC : P.cellsOf q = fs.size) (hpos : 0 < fs.size) {ti : TypeId} (hU : P.underlying ti = some (.int .i64)) (hty : fs.toList.map (·.type) = List.replicate fs.size ti)
    (hval : Value.okWide P w r b0 t v) (hd : DataW.Trod enc P w base spare held t v d ps) :
    ∃ (A : Option Addr) (n c : Nat) (F : Nat → Hd) (R : Nat → Nat → Nat → Int), v = .slice A n c ∧ n ≤ c ∧ c ≤ maxLen ∧ RowsIn w fs.size A n F R := by
  obtain ⟨A, n, c, rfl⟩ := okWide_slice ht hval
  obtain ⟨fuel, hf⟩ := hd
  rcases open_slice1 ht ce hf with ⟨hcs, _⟩ | ⟨a, len, cap, m, n', V, D, Pl, hcs, _, hl, hm, hmm, _, hx⟩
  · simp [Value.cells] at hcs
    obtain ⟨rfl, rfl, rfl⟩ := hcs
    exact ⟨none, 0, 0, fun _ => (none, 0, 0), fun _ _ _ => 0, rfl, Nat.le_refl _, Nat.zero_le _, fun i hi => by omega, fun i hi => by omega, fun _ _ _ => by omega⟩
  · simp [Value.cells] at hcs
    obtain ⟨rfl, rfl, rfl⟩ := hcs
    have hnm : n ≤ m := by rw [hmm]; split <;> omega
    have each : ∀ i, i < n → ∃ y : Hd × (Nat → Nat → Int), w.cell? (a.add i) = some (hdV y.1) ∧ y.1.2.1 ≤ y.1.2.2 ∧ y.1.2.2 ≤ maxLen ∧ Recs w w.heap.size fs.size y.1.1 y.1.2.1 y.2 ∧ ∀ k j, -9223372036854775808 ≤ y.2 k j ∧ y.2 k j ≤ 9223372036854775807 := by
      intro i hi
      obtain ⟨h1, h2⟩ := hx i (by omega)
      obtain ⟨A2, n2, c2, R2, e1, e2, e3, e4, e5⟩ := open_recs_cells hte he hone hC hpos hU hty h2
      simp at e1
      exact ⟨((A2, n2, c2), R2), by rw [h1, e1]; rfl, e2, e3, e4, e5⟩
    refine ⟨some a, n, c, fun i => if h : i < n then (Classical.choose (each i h)).1 else (none, 0, 0), fun i => if h : i < n then (Classical.choose (each i h)).2 else fun _ _ => 0, rfl, hl, hm, fun i hi => ?_, fun i hi => ?_, fun i k j => ?_⟩
    · have h2 := Classical.choose_spec (each i hi)
      have hlt := cell_lt h2.1
      rw [block_of_add] at hlt
      obtain ⟨g, off, spot⟩ := a
      have hspot : spot = none := by
        have h1 := (Classical.choose_spec (each 0 (by omega))).1
        simp [Addr.add] at h1
        simpa using World.cell?_spot h1
      subst hspot
      have hadd : (⟨g, off, none⟩ : Addr).add i = ⟨g, off + i, none⟩ := by unfold Addr.add; split <;> simp_all
      refine ⟨g, off, rfl, hlt, ?_⟩
      simp only [dif_pos hi]
      rw [← hadd]; exact h2.1
    · have h2 := Classical.choose_spec (each i hi)
      simp only [dif_pos hi]
      exact ⟨h2.2.1, h2.2.2.1, h2.2.2.2.1⟩
    · by_cases hi : i < n
      · simp only [dif_pos hi]; exact (Classical.choose_spec (each i hi)).2.2.2.2 k j
      · simp only [dif_neg hi]; omega
end
end Go.Proofs.Ytadlabndbomgmaa
