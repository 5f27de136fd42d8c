/- Opening a law's arguments: what the walk is told of them. No program in sight. -/
import Derived.OpenShut
import Derived.ShutString
import Derived.ChangeOld
import Derived.Carry
import Derived.Test.YtdnnodpkgncegaaDoorKit
namespace Go.Proofs.YtdnnodpkgncegaaDoor
open Go.RowKit Go.ChangeShapes Go.WideShapes Go.Deep Go.ChangeAt
section
variable {H : Type} {enc : TypeId × Value → H} {P : Program} {w : World} {base : Nat} {spare : Nat → Bool} {held : Bool}
theorem cell_lt {w : World} {p : Addr} {v : Value} (h : w.cell? p = some v) : p.block < w.heap.size := by
  unfold World.cell? at h
  rcases Nat.lt_or_ge p.block w.heap.size with hlt | hge
  · exact hlt
  · rw [Array.getElem?_eq_none hge] at h; cases h
/-- A slice of integers that came in reads as a list. -/
theorem open_ints_reads {r : Reach} {b0 : Nat} {t e : TypeId} {k : IntKind} {v : Value} {d : DataW H} {ps : List MemPlace} (ht : P.underlying t = some (.slice e)) (he : P.underlying e = some (.int k)) (hc : P.cellsOf e = 1)
    (hval : Value.okWide P w r b0 t v) (hd : DataW.Trod enc P w base spare held t v d ps) :
    ∃ (A : Option Addr) (n c : Nat) (xs : List Int), v = .slice A n c ∧ n ≤ c ∧ c ≤ maxLen ∧ Reads w w.heap.size 1 A n (xs.map (.int k)) ∧ ∀ x ∈ xs, (Lit.int k x).wf = true := by
  obtain ⟨A, n, c, rfl⟩ := okWide_slice ht hval
  obtain ⟨fuel, hf⟩ := hd
  rcases open_ints ht he hc hf with ⟨hcs, _⟩ | ⟨x, l, c', zs, hcs, _, hl, hm, hz, _, hcell, hwz⟩
  · simp [Value.cells] at hcs
    obtain ⟨rfl, rfl, rfl⟩ := hcs
    exact ⟨none, 0, 0, [], rfl, Nat.le_refl _, Nat.zero_le _, by simpa using Reads.none_, by simp⟩
  · simp [Value.cells] at hcs
    obtain ⟨rfl, rfl, rfl⟩ := hcs
    have hzl : n ≤ zs.length := by rw [hz]; split <;> omega
    refine ⟨some x, n, c, zs.take n, rfl, hl, hm, ⟨by simp; omega, fun hn => ⟨x, rfl, ?_, fun j u hj => ?_⟩⟩, fun y hy => hwz y (List.mem_of_mem_take hy)⟩
    · have := hcell 0 (by omega)
      have h2 := cell_lt this
      rwa [block_of_add] at h2
    · rw [List.getElem?_map, List.getElem?_take] at hj
      split at hj
      · rename_i hjn
        rw [hcell j (by omega), ← hj]
        simp [List.getD, List.getElem?_eq_getElem (show j < zs.length by omega)]
      · cases hj
theorem wf_i64 {x : Int} (h : (Lit.int .i64 x).wf = true) : -9223372036854775808 ≤ x ∧ x ≤ 9223372036854775807 := by
  simp [Lit.wf, IntKind.min, IntKind.max, IntKind.signed, IntKind.bits] at h
  omega
/-- A slice of records of integers: the cell of field j of record k. -/
def Recs (w : World) (B size : Nat) (A : Option Addr) (n : Nat) (R : Nat → Nat → Int) : Prop :=
  ∀ k, k < n → ∃ g off, A = some ⟨g, off, none⟩ ∧ g < B ∧ ∀ j, j < size → w.cell? ⟨g, off + k * size + j, none⟩ = some (.int .i64 (R k j))
theorem Recs.below {w w' : World} {B size n : Nat} {A : Option Addr} {R : Nat → Nat → Int} (h : Recs w B size A n R) (hb : Below B w w') : Recs w' B size A n R := by
  intro k hk
  obtain ⟨g, off, hA, hg, hc⟩ := h k hk
  exact ⟨g, off, hA, hg, fun j hj => (hb.cell (p := ⟨g, off + k * size + j, none⟩) hg).trans (hc j hj)⟩
theorem Recs.drewN {w : World} {B size n : Nat} {A : Option Addr} {R : Nat → Nat → Int} (h : Recs w B size A n R) (k : Nat) : Recs (w.drewN k) B size A n R := h
theorem open_recs {r : Reach} {b0 : Nat} {t e : TypeId} {fs : Array Field} {v : Value} {d : DataW H} {ps : List MemPlace} (ht : P.underlying t = some (.slice e)) (he : P.underlying e = some (.struct fs))
    (hone : oneCellFields P fs = true) (hC : P.cellsOf e = fs.size) (hpos : 0 < fs.size) {ti : TypeId} (hU : P.underlying ti = some (.int .i64)) (hty : fs.toList.map (·.type) = List.replicate fs.size ti)
    (hval : Value.okWide P w r b0 t v) (hd : DataW.Trod enc P w base spare held t v d ps) :
    ∃ (A : Option Addr) (n c : Nat) (R : Nat → Nat → Int), v = .slice A n c ∧ n ≤ c ∧ c ≤ maxLen ∧ Recs w w.heap.size fs.size A n R ∧ ∀ k j, -9223372036854775808 ≤ R k j ∧ R k j ≤ 9223372036854775807 := by
  have hint : ∀ (j : Nat) (f : Field), fs[j]? = some f → P.underlying f.type = some (.int .i64) := by
    intro j f hj
    have h1 : (fs.toList.map (·.type))[j]? = some f.type := by rw [List.getElem?_map, Array.getElem?_toList, hj]; rfl
    rw [hty, List.getElem?_replicate] at h1
    split at h1
    · injection h1 with h1; rw [← h1]; exact hU
    · cases h1
  obtain ⟨A, n, c, rfl⟩ := okWide_slice ht hval
  obtain ⟨fuel, hf⟩ := hd
  rcases open_slice_fields ht he hone hC hf with ⟨hcs, _⟩ | ⟨a, l, c', m, D, Pl, hcs, _, hl, hm, hmm, _, hel⟩
  · simp [Value.cells] at hcs
    obtain ⟨rfl, rfl, rfl⟩ := hcs
    exact ⟨none, 0, 0, fun _ _ => 0, rfl, Nat.le_refl _, Nat.zero_le _, fun k hk => by omega, fun _ _ => by dsimp only; omega⟩
  · simp [Value.cells] at hcs
    obtain ⟨rfl, rfl, rfl⟩ := hcs
    have hnm : n ≤ m := by rw [hmm]; split <;> omega
    have hx : ∀ k j, k < n → j < fs.size → ∃ x, w.cell? (a.add (k * fs.size + j)) = some (.int .i64 x) ∧ (Lit.int .i64 x).wf = true := by
      intro k j hk hj
      obtain ⟨ys, n', _, _, _, hfd⟩ := hel k (by omega)
      obtain ⟨v, y, hc, _, hy⟩ := hfd j fs[j] (Array.getElem?_eq_getElem hj)
      obtain ⟨x, hv, _, hwf⟩ := DataW.trod_int (hint j fs[j] (Array.getElem?_eq_getElem hj)) hy
      simp at hv
      subst hv
      exact ⟨x, hc, hwf⟩
    refine ⟨some a, n, c, fun k j => if h : k < n ∧ j < fs.size then Classical.choose (hx k j h.1 h.2) else 0, rfl, hl, hm, ?_, ?_⟩
    · intro k hk
      obtain ⟨x, hc, _⟩ := hx k 0 hk (by omega)
      have hlt := cell_lt hc
      rw [block_of_add] at hlt
      obtain ⟨g, off, spot⟩ := a
      have hspot : spot = none := by
        have h1 := hx 0 0 (by omega) (by omega)
        obtain ⟨x1, hc1, _⟩ := h1
        simp [Addr.add] at hc1
        simpa using World.cell?_spot hc1
      subst hspot
      refine ⟨g, off, rfl, hlt, fun j hj => ?_⟩
      have hadd : ∀ i, (⟨g, off, none⟩ : Addr).add i = ⟨g, off + i, none⟩ := fun i => by unfold Addr.add; split <;> simp_all
      have h2 := Classical.choose_spec (hx k j hk hj)
      simp only [dif_pos (show k < n ∧ j < fs.size from ⟨hk, hj⟩)]
      rw [Nat.add_assoc, ← hadd]
      exact h2.1
    · intro k j
      by_cases h : k < n ∧ j < fs.size
      · simp only [dif_pos h]
        exact wf_i64 (Classical.choose_spec (hx k j h.1 h.2)).2
      · simp only [dif_neg h]; omega
end
end Go.Proofs.YtdnnodpkgncegaaDoor
