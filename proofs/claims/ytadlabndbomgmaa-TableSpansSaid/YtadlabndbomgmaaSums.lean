/- Plain facts: sums of a list's beginnings; is some number above 0? No program in sight. -/
import Derived.Test.YtadlabndbomgmaaShare
namespace Go.Proofs.Ytadlabndbomgmaa
/-- The sum of the first k numbers. -/
def psum (l : List Int) (k : Nat) : Int := (l.take k).sum
theorem psum_zero (l : List Int) : psum l 0 = 0 := rfl
theorem psum_succ (l : List Int) (k : Nat) (h : k < l.length) : psum l (k + 1) = psum l k + at0 l k := by
  unfold psum; rw [List.take_succ_eq_append_getElem h, List.sum_append, at0_of l k h]; simp
theorem psum_all (l : List Int) : psum l l.length = l.sum := by unfold psum; rw [List.take_length]
theorem psum_shared (n : Int) (ws : List Int) (k : Nat) (hk : k ≤ ws.length) : psum (shared n ws) k = if wsum ws ws.length = 0 then 0 else upTo n ws k := by
  induction k with
  | zero => rw [psum_zero, upTo_zero, ite_self]
  | succ k ih =>
    rw [psum_succ _ _ (by rw [shared_length]; omega), ih (by omega), shared_getD n ws k (by omega)]
    split
    · rfl
    · omega
theorem psum_shared_bound (n : Int) (ws : List Int) (k : Nat) (hk : k ≤ ws.length) : -281474976710656000 ≤ psum (shared n ws) k ∧ psum (shared n ws) k ≤ 281474976710656000 := by
  rw [psum_shared n ws k hk]
  have := upTo_bound n ws k
  split
  · omega
  · exact this
/-- Is one of the first k numbers above 0? -/
def somePos (ws : List Int) : Nat → Bool
  | 0 => false
  | k + 1 => somePos ws k || decide (0 < at0 ws k)
theorem somePos_true {ws : List Int} {m : Nat} (h : somePos ws m = true) : ∃ k, k < m ∧ 0 < at0 ws k := by
  induction m with
  | zero => cases h
  | succ m ih =>
    simp only [somePos, Bool.or_eq_true, decide_eq_true_eq] at h
    rcases h with h | h
    · obtain ⟨k, h1, h2⟩ := ih h; exact ⟨k, by omega, h2⟩
    · exact ⟨m, by omega, h⟩
theorem somePos_false {ws : List Int} {m : Nat} (h : somePos ws m = false) : ∀ k, k < m → at0 ws k ≤ 0 := by
  induction m with
  | zero => intro k hk; omega
  | succ m ih =>
    simp only [somePos, Bool.or_eq_false_iff, decide_eq_false_iff_not] at h
    intro k hk
    by_cases e : k = m
    · subst e; omega
    · exact ih h.1 k (by omega)
theorem wt_idle (k : Nat) {x : Int} (h : x ≤ 0) : wt k x = 0 := by unfold wt cut; split <;> omega
theorem wt_pos {k : Nat} {x : Int} (hk : k < 1000) (h : 0 < x) : 0 < wt k x := by unfold wt cut; split <;> omega
theorem shared_sum_some (n : Int) (ws : List Int) (hl : ws.length ≤ 1000) (h : somePos ws ws.length = true) : (shared n ws).sum = cut n := by
  obtain ⟨k, hk, hx⟩ := somePos_true h
  have := wsum_pos ws k ws.length hk (wt_pos (by omega) hx)
  rw [shared_sum, if_neg (by omega)]
theorem shared_sum_none (n : Int) (ws : List Int) (h : somePos ws ws.length = false) : (shared n ws).sum = 0 := by
  have := wsum_zero ws ws.length fun k hk => wt_idle k (somePos_false h k hk)
  rw [shared_sum, if_pos this]
end Go.Proofs.Ytadlabndbomgmaa
