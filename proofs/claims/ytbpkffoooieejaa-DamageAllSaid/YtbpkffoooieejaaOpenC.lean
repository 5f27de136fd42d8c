/- Commands that came in, opened: what lies in memory reads as a list of them. -/
import Derived.Test.YtbpkffoooieejaaOpen
import Derived.Test.YtbpkffoooieejaaRFlat
namespace Go.Proofs.Ytbpkffoooieejaa
open Go.RowKit Go.ChangeShapes Go.WideShapes Go.Deep Go.ChangeAt
theorem list_of {P : Nat → Cm → Prop} : ∀ n, (∀ k, k < n → ∃ c, P k c) → ∃ l : List Cm, l.length = n ∧ ∀ k, k < n → P k (cmAt l k)
  | 0, _ => ⟨[], rfl, fun k hk => absurd hk (Nat.not_lt_zero _)⟩
  | n + 1, h => by
    obtain ⟨l, hl, hp⟩ := list_of n fun k hk => h k (by omega)
    obtain ⟨c, hc⟩ := h n (by omega)
    refine ⟨l ++ [c], by simp [hl], fun k hk => ?_⟩
    by_cases e : k = n
    · subst e
      rw [cmAt_of _ _ (by simp; omega), List.getElem_append_right (by omega)]
      simpa [hl] using hc
    · have := hp k (by omega)
      rw [cmAt_of _ _ (by omega)] at this
      rw [cmAt_of _ _ (by simp; omega), List.getElem_append_left (by omega)]
      exact this
theorem cmCells_len (l : List Cm) : (cmCells l).length = l.length * 9 := by
  induction l with
  | nil => rfl
  | cons c l ih =>
    have : (cmCells (c :: l)) = (cmA c).toList ++ cmCells l := rfl
    rw [this, List.length_append, ih]
    simp [cmA]; omega
theorem reads_cms {w : World} {B n : Nat} {a : Addr} {l : List Cm} (hl : l.length = n) (hb : 0 < n → a.block < B) (h : ∀ k, k < n → ∀ j, j < 9 → w.cell? (a.add (k * 9 + j)) = (cmA (cmAt l k))[j]?) : Reads w B 9 (some a) n (cmCells l) := by
  refine ⟨by rw [cmCells_len, hl], fun hn => ⟨a, rfl, hb hn, fun j u hj => ?_⟩⟩
  have hlt : j < n * 9 := by
    have := (List.getElem?_eq_some_iff.1 hj).1
    rw [cmCells_len, hl] at this
    exact this
  have e : j = j / 9 * 9 + j % 9 := by omega
  rw [e, cmCells_at l (j / 9) (j % 9) (by omega) (by omega)] at hj
  rw [e, h (j / 9) (by omega) (j % 9) (by omega)]
  exact hj
section
variable {H : Type} {enc : TypeId × Value → H} {w : World} {base : Nat} {spare : Nat → Bool} {held : Bool}
set_option maxRecDepth 100000 in
theorem open_cmds {r : Reach} {b0 : Nat} {v : Value} {d : DataW H} {ps : List MemPlace} (hval : Value.okWide Try.prog w r b0 28 v) (hd : DataW.Trod enc Try.prog w base spare held 28 v d ps) :
    ∃ (A : Option Addr) (n c : Nat) (l : List Cm), v = .slice A n c ∧ n ≤ c ∧ c ≤ maxLen ∧ l.length = n ∧ Reads w w.heap.size 9 A n (cmCells l) := by
  obtain ⟨A, n, c, rfl⟩ := okWide_slice Try.underlying28 hval
  obtain ⟨fuel, hf⟩ := hd
  rcases open_slice_fields Try.underlying28 Try.underlying43 (by kernel_rfl) (by kernel_rfl) hf with ⟨hcs, _⟩ | ⟨a, l, c', m, D, Pl, hcs, _, hl, hm, hmm, _, hel⟩
  · simp [Value.cells] at hcs
    obtain ⟨rfl, rfl, rfl⟩ := hcs
    exact ⟨none, 0, 0, [], rfl, Nat.le_refl _, Nat.zero_le _, rfl, Reads.none_⟩
  · simp [Value.cells] at hcs
    obtain ⟨rfl, rfl, rfl⟩ := hcs
    have hnm : n ≤ m := by rw [hmm]; split <;> omega
    have hx : ∀ k, k < n → ∃ x : Cm, ∀ j, j < 9 → w.cell? (a.add (k * 9 + j)) = (cmA x)[j]? := by
      intro k hk
      obtain ⟨ys, n', _, _, _, hfd⟩ := hel k (by omega)
      obtain ⟨v0, y0, c0, _, t0⟩ := hfd 0 _ rfl
      obtain ⟨v1, y1, c1, _, t1⟩ := hfd 1 _ rfl
      obtain ⟨v2, y2, c2, _, t2⟩ := hfd 2 _ rfl
      obtain ⟨v3, y3, c3, _, t3⟩ := hfd 3 _ rfl
      obtain ⟨v4, y4, c4, _, t4⟩ := hfd 4 _ rfl
      obtain ⟨v5, y5, c5, _, t5⟩ := hfd 5 _ rfl
      obtain ⟨v6, y6, c6, _, t6⟩ := hfd 6 _ rfl
      obtain ⟨v7, y7, c7, _, t7⟩ := hfd 7 _ rfl
      obtain ⟨v8, y8, c8, _, t8⟩ := hfd 8 _ rfl
      obtain ⟨x0, e0, _, _⟩ := DataW.trod_int Try.underlying3 t0
      obtain ⟨x1, e1, _, _⟩ := DataW.trod_int Try.underlying3 t1
      obtain ⟨x2, e2, _, _⟩ := DataW.trod_int Try.underlying3 t2
      obtain ⟨x3, e3, _, _⟩ := DataW.trod_int Try.underlying3 t3
      obtain ⟨x4, e4, _, _⟩ := DataW.trod_int Try.underlying3 t4
      obtain ⟨x5, e5, _, _⟩ := DataW.trod_int Try.underlying3 t5
      obtain ⟨x6, e6, _, _⟩ := DataW.trod_int Try.underlying3 t6
      obtain ⟨x7, e7, _, _⟩ := DataW.trod_int Try.underlying3 t7
      obtain ⟨x8, e8, _, _⟩ := DataW.trod_string Try.underlying9 t8
      injection e0 with e0 _; injection e1 with e1 _; injection e2 with e2 _; injection e3 with e3 _; injection e4 with e4 _; injection e5 with e5 _; injection e6 with e6 _; injection e7 with e7 _; injection e8 with e8 _
      subst e0 e1 e2 e3 e4 e5 e6 e7 e8
      refine ⟨⟨x0, x1, x2, x3, x4, x5, x6, x7, x8⟩, fun j hj => ?_⟩
      rcases (show j = 0 ∨ j = 1 ∨ j = 2 ∨ j = 3 ∨ j = 4 ∨ j = 5 ∨ j = 6 ∨ j = 7 ∨ j = 8 by omega) with rfl | rfl | rfl | rfl | rfl | rfl | rfl | rfl | rfl
      · exact c0
      · exact c1
      · exact c2
      · exact c3
      · exact c4
      · exact c5
      · exact c6
      · exact c7
      · exact c8
    obtain ⟨L, hL, hc⟩ := list_of n hx
    refine ⟨some a, n, c, L, rfl, hl, hm, hL, reads_cms hL (fun hn => ?_) hc⟩
    have h0 := hc 0 hn 0 (by omega)
    have h1 := cell_lt (h0.trans rfl)
    rwa [block_of_add] at h1
end
end Go.Proofs.Ytbpkffoooieejaa
