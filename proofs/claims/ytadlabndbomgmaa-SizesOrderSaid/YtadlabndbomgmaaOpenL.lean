/- Items of lines that came in, opened: what lies in memory reads as a list of them. -/
import Derived.Test.YtadlabndbomgmaaOpen
import Derived.Test.YtadlabndbomgmaaLinesMem
import Derived.Test.YtadlabndbomgmaaFix
namespace Go.Proofs.Ytadlabndbomgmaa
open Go.RowKit Go.ChangeShapes Go.WideShapes Go.Deep Go.ChangeAt
theorem its_of {P : Nat → It → Prop} : ∀ n, (∀ k, k < n → ∃ c, P k c) → ∃ l : List It, l.length = n ∧ ∀ k, k < n → P k (itAt l k)
  | 0, _ => ⟨[], rfl, fun k hk => absurd hk (Nat.not_lt_zero _)⟩
  | n + 1, h => by
    obtain ⟨l, hl, hp⟩ := its_of n fun k hk => h k (by omega)
    obtain ⟨c, hc⟩ := h n (by omega)
    refine ⟨l ++ [c], by simp [hl], fun k hk => ?_⟩
    by_cases e : k = n
    · subst e
      rw [itAt_of _ _ (by simp; omega), List.getElem_append_right (by omega)]
      simpa [hl] using hc
    · have := hp k (by omega)
      rw [itAt_of _ _ (by omega)] at this
      rw [itAt_of _ _ (by simp; omega), List.getElem_append_left (by omega)]
      exact this
/-- Items that came in: they lie from some place on. -/
def ItsIn (w : World) (A : Option Addr) (l : List It) : Prop := ∀ k, k < l.length → ∃ g off, A = some ⟨g, off, none⟩ ∧ g < w.heap.size ∧ ∀ j, j < 11 → w.cell? ⟨g, off + k * 11 + j, none⟩ = (itC (itAt l k))[j]?
section
variable {H : Type} {enc : TypeId × Value → H} {w : World} {base : Nat} {spare : Nat → Bool} {held : Bool}
set_option maxRecDepth 100000 in
theorem open_its {r : Reach} {b0 : Nat} {v : Value} {d : DataW H} {ps : List MemPlace} (hval : Value.okWide Try.prog w r b0 96 v) (hd : DataW.Trod enc Try.prog w base spare held 96 v d ps) :
    ∃ (A : Option Addr) (n c : Nat) (l : List It), v = .slice A n c ∧ n ≤ c ∧ c ≤ maxLen ∧ l.length = n ∧ ItsIn w A l ∧ ∀ k, k < n → (itAt l k).text.size ≤ maxLen := by
  obtain ⟨A, n, c, rfl⟩ := okWide_slice Try.underlying96 hval
  obtain ⟨fuel, hf⟩ := hd
  rcases open_slice_fields Try.underlying96 Try.underlying100 (by kernel_rfl) (by kernel_rfl) hf with ⟨hcs, _⟩ | ⟨a, l, c', m, D, Pl, hcs, _, hl, hm, hmm, _, hel⟩
  · simp [Value.cells] at hcs
    obtain ⟨rfl, rfl, rfl⟩ := hcs
    exact ⟨none, 0, 0, [], rfl, Nat.le_refl _, Nat.zero_le _, rfl, fun k hk => absurd hk (Nat.not_lt_zero _), fun k hk => absurd hk (Nat.not_lt_zero _)⟩
  · simp [Value.cells] at hcs
    obtain ⟨rfl, rfl, rfl⟩ := hcs
    have hnm : n ≤ m := by rw [hmm]; split <;> omega
    have hx : ∀ k, k < n → ∃ x : It, (∀ j, j < 11 → w.cell? (a.add (k * 11 + j)) = (itC x)[j]?) ∧ x.text.size ≤ maxLen := by
      intro k hk
      obtain ⟨ys, n', _, _, _, hfd⟩ := hel k (by omega)
      obtain ⟨v0, y0, c0, _, t0⟩ := hfd 0 _ rfl
      obtain ⟨v1, y1, c1, _, t1⟩ := hfd 1 _ rfl
      obtain ⟨v2, y2, c2, _, t2⟩ := hfd 2 _ rfl
      obtain ⟨v3, y3, c3, _, t3⟩ := hfd 3 _ rfl
      obtain ⟨v4, y4, c4, _, t4⟩ := hfd 4 _ rfl
      obtain ⟨v5, y5, c5, _, t5⟩ := hfd 5 _ rfl
      obtain ⟨v6, y6, c6, _, t6⟩ := hfd 6 _ rfl
      obtain ⟨v7, y7, c7, _, t7⟩ := hfd 7 _ rfl
      obtain ⟨v8, y8, c8, _, t8⟩ := hfd 8 _ rfl
      obtain ⟨v9, y9, c9, _, t9⟩ := hfd 9 _ rfl
      obtain ⟨v10, y10, c10, _, t10⟩ := hfd 10 _ rfl
      obtain ⟨x0, e0, _, _⟩ := DataW.trod_int Try.underlying3 t0
      obtain ⟨x1, e1, _, _⟩ := DataW.trod_int Try.underlying3 t1
      obtain ⟨x2, e2, _, sz2⟩ := DataW.trod_string Try.underlying9 t2
      obtain ⟨x3, e3, _, _⟩ := DataW.trod_int Try.underlying3 t3
      obtain ⟨x4, e4, _, _⟩ := DataW.trod_int Try.underlying3 t4
      obtain ⟨x5, e5, _, _⟩ := DataW.trod_int Try.underlying3 t5
      obtain ⟨x6, e6, _, _⟩ := DataW.trod_int Try.underlying3 t6
      obtain ⟨x7, e7, _, _⟩ := DataW.trod_int Try.underlying3 t7
      obtain ⟨x8, e8, _, _⟩ := DataW.trod_int Try.underlying3 t8
      obtain ⟨x9, e9, _, _⟩ := DataW.trod_int Try.underlying3 t9
      obtain ⟨x10, e10, _, _⟩ := DataW.trod_int Try.underlying3 t10
      injection e0 with e0 _; injection e1 with e1 _; injection e2 with e2 _; injection e3 with e3 _; injection e4 with e4 _; injection e5 with e5 _; injection e6 with e6 _; injection e7 with e7 _; injection e8 with e8 _; injection e9 with e9 _; injection e10 with e10 _
      subst e0 e1 e2 e3 e4 e5 e6 e7 e8 e9 e10
      refine ⟨⟨x0, x1, x2, x3, x4, x5, x6, x7, x8, x9, x10⟩, fun j hj => ?_, sz2⟩
      rcases (show j = 0 ∨ j = 1 ∨ j = 2 ∨ j = 3 ∨ j = 4 ∨ j = 5 ∨ j = 6 ∨ j = 7 ∨ j = 8 ∨ j = 9 ∨ j = 10 by omega) with rfl | rfl | rfl | rfl | rfl | rfl | rfl | rfl | rfl | rfl | rfl
      · exact c0
      · exact c1
      · exact c2
      · exact c3
      · exact c4
      · exact c5
      · exact c6
      · exact c7
      · exact c8
      · exact c9
      · exact c10
    obtain ⟨L, hL, hc⟩ := its_of n hx
    refine ⟨some a, n, c, L, rfl, hl, hm, hL, fun k hk => ?_, fun k hk => (hc k hk).2⟩
    have h0 := (hc k (by omega)).1 0 (by omega)
    have h1 := cell_lt (h0.trans rfl)
    rw [block_of_add] at h1
    obtain ⟨g, off, spot⟩ := a
    have hspot : spot = none := by
      have h2 := (hc 0 (by omega)).1 0 (by omega)
      simp [Addr.add] at h2
      have h3 : w.cell? ⟨g, off, spot⟩ = some (.int .i64 (itAt L 0).kind) := h2
      simpa using World.cell?_spot h3
    subst hspot
    refine ⟨g, off, rfl, h1, fun j hj => ?_⟩
    have hadd : ∀ i, (⟨g, off, none⟩ : Addr).add i = ⟨g, off + i, none⟩ := fun i => by unfold Addr.add; split <;> simp_all
    rw [Nat.add_assoc, ← hadd]
    exact (hc k (by omega)).1 j hj
end
end Go.Proofs.Ytadlabndbomgmaa
