/- Styles, boxes, frags and a layout that came in, opened; how many there are, by the bulk of what is read. No program in sight. -/
import Derived.Test.YtbpkffoooieejaaDoorOpen
import Derived.Test.YtbpkffoooieejaaDoorBoxMem
import Derived.Test.YtbpkffoooieejaaDoorStCheck
import Derived.Test.YtbpkffoooieejaaDoorLooks
import Derived.Test.YtbpkffoooieejaaDoorRows
namespace Go.Proofs.YtbpkffoooieejaaDoor
open Go.RowKit Go.ChangeShapes Go.WideShapes Go.Deep Go.ChangeAt
section
variable {H : Type}
theorem bulk_one (d : DataW H) : 1 ≤ Rows.uptoBulk d := by
  cases d with
  | lit l => cases l <;> simp [Rows.uptoBulk]
  | nil => simp [Rows.uptoBulk]
  | ptr d => simp [Rows.uptoBulk]
  | slice elems spare => simp [Rows.uptoBulk]
  | agg parts => simp [Rows.uptoBulk]
  | iface t d => simp [Rows.uptoBulk]
  | map entries => simp [Rows.uptoBulk]
  | held h => simp [Rows.uptoBulk]
theorem bulk_len (k : Nat) (l : List (DataW H)) (h : ∀ d ∈ l, k ≤ Rows.uptoBulk d) : k * l.length ≤ Rows.uptoBulkAll l := by
  induction l with
  | nil => simp [Rows.uptoBulkAll]
  | cons x r ih =>
    have h1 := h x (by simp)
    have h2 := ih fun d hd => h d (by simp [hd])
    simp only [Rows.uptoBulkAll, List.length_cons, Nat.mul_add, Nat.mul_one]
    omega
theorem bulk_agg (parts : List (DataW H)) : parts.length + 1 ≤ Rows.uptoBulk (.agg parts) := by
  have := bulk_len 1 parts fun d _ => bulk_one d
  simp only [Rows.uptoBulk]
  omega
theorem bulk_part {d : DataW H} {l : List (DataW H)} (h : d ∈ l) : Rows.uptoBulk d ≤ Rows.uptoBulkAll l := by
  induction l with
  | nil => cases h
  | cons x r ih =>
    simp only [Rows.uptoBulkAll]
    cases List.mem_cons.1 h with
    | inl e => subst e; omega
    | inr e => have := ih e; omega
end
section
variable {H : Type} {enc : TypeId × Value → H} {P : Program} {w : World} {base : Nat} {spare : Nat → Bool} {held : Bool} {fuel : Nat} {cs : List Value} {x : DataW H × List MemPlace}
/-- A slice of integers that lies within something. -/
theorem open_nums {t e : TypeId} {k : IntKind} (ht : P.underlying t = some (.slice e)) (he : P.underlying e = some (.int k)) (hc : P.cellsOf e = 1) (hf : DataW.trod enc P w base spare held fuel t cs = some x) :
    ∃ (A : Option Addr) (c : Nat) (xs : List Int), cs = [.slice A xs.length c] ∧ xs.length ≤ maxLen ∧ Reads w w.heap.size 1 A xs.length (xs.map (.int k)) := by
  rcases open_ints ht he hc hf with ⟨hcs, _⟩ | ⟨a, l, c', zs, hcs, _, hl, hm, hz, _, hcell, hwz⟩
  · exact ⟨none, 0, [], hcs, Nat.zero_le _, by simpa using Reads.none_⟩
  · have hzl : l ≤ zs.length := by rw [hz]; split <;> omega
    have hlen : (zs.take l).length = l := by simp; omega
    refine ⟨some a, c', zs.take l, by rw [hlen]; exact hcs, by omega, by simp, fun hn => ⟨a, rfl, ?_, fun j u hj => ?_⟩⟩
    · have h2 := cell_lt (hcell 0 (by omega))
      rwa [block_of_add] at h2
    · rw [List.getElem?_map, List.getElem?_take] at hj
      split at hj
      · rw [hcell j (by omega), ← hj]
        simp [List.getD, List.getElem?_eq_getElem (show j < zs.length by omega)]
      · cases hj
/-- A slice at which every element says something of its cells. -/
theorem open_each {t e : TypeId} (ht : P.underlying t = some (.slice e)) (hf : DataW.trod enc P w base spare held fuel t cs = some x) :
    ∃ (A : Option Addr) (n c : Nat), cs = [.slice A n c] ∧ n ≤ c ∧ c ≤ maxLen ∧ (∀ (b : Nat), (∀ (m : Nat) (cs' : List Value) (y : DataW H × List MemPlace), DataW.trod enc P w base spare held m e cs' = some y → b ≤ Rows.uptoBulk y.1) → b * n ≤ Rows.uptoBulk x.1) ∧
      (0 < n → 0 < P.cellsOf e → ∃ g off, A = some ⟨g, off, none⟩ ∧ g < w.heap.size ∧ ∀ k, k < n → ∃ (m : Nat) (cs' : List Value) (y : DataW H × List MemPlace), DataW.trod enc P w base spare held m e cs' = some y ∧ cs'.length = P.cellsOf e ∧ ∀ j, j < P.cellsOf e → w.cell? ⟨g, off + k * P.cellsOf e + j, none⟩ = cs'[j]?) := by
  rcases open_slice ht hf with ⟨hcs, _⟩ | ⟨a, len, cap, m, n, D, Pl, hcs, _, hl, hm, hmm, hx, hi⟩
  · exact ⟨none, 0, 0, hcs, Nat.le_refl _, Nat.zero_le _, fun b _ => by simp, fun h => by omega⟩
  · have hnm : len ≤ m := by rw [hmm]; split <;> omega
    refine ⟨some a, len, cap, hcs, hl, hm, fun b hb => ?_, fun h0 hpos => ?_⟩
    · rw [hx]
      have h1 := bulk_len b ((List.range len).map D) fun d hd => by
        obtain ⟨i, hi1, rfl⟩ := List.mem_map.1 hd
        obtain ⟨cs', _, h3⟩ := hi i (by have := List.mem_range.1 hi1; omega)
        exact hb _ _ _ h3
      rw [List.length_map, List.length_range] at h1
      simp only [Rows.uptoBulk]
      omega
    · obtain ⟨g, off, spot⟩ := a
      obtain ⟨cs0, hc0, _⟩ := hi 0 (by omega)
      obtain ⟨_, hcl0, hat0⟩ := World.cells?_some hc0
      have h0' := hat0 0 hpos
      rw [List.getElem?_eq_getElem (by omega)] at h0'
      have hspot : spot = none := by
        simp [Addr.add] at h0'
        simpa using World.cell?_spot h0'
      subst hspot
      have hadd : ∀ i, (⟨g, off, none⟩ : Addr).add i = ⟨g, off + i, none⟩ := fun i => by unfold Addr.add; split <;> simp_all
      refine ⟨g, off, rfl, ?_, fun k hk => ?_⟩
      · have h2 := cell_lt h0'
        rw [block_of_add, block_of_add] at h2
        exact h2
      · obtain ⟨cs', hc, ht'⟩ := hi k (by omega)
        obtain ⟨_, hcl, hat⟩ := World.cells?_some hc
        refine ⟨n, cs', _, ht', hcl, fun j hj => ?_⟩
        rw [← hat j hj, hadd]
        rw [show (⟨g, off + k * P.cellsOf e, none⟩ : Addr).add j = ⟨g, off + k * P.cellsOf e + j, none⟩ by unfold Addr.add; split <;> simp_all]
end
theorem take_one {cs : List Value} {o : Nat} {v : Value} (h : (cs.drop o).take 1 = [v]) : cs[o]? = some v := by
  have := congrArg (·[0]?) h
  simpa [List.getElem?_take, List.getElem?_drop] using this
end Go.Proofs.YtbpkffoooieejaaDoor
