/- What an order of painting answers: plain laws for the statement's own walk. No program in sight. -/
import Derived.Test.YtbpkffoooieejaaDoorStOrder
namespace Go.Proofs.YtbpkffoooieejaaDoor
open Go.RowKit
/-- What is known of the steps. -/
structure OrdFacts (n : Nat) (par F E : Nat → Nat) : Prop where
  flt : ∀ i, i < n → F i < n
  inj : ∀ i j, i < n → j < n → F i = F j → i = j
  sur : ∀ f, f < n → ∃ i, i < n ∧ F i = f
  end_ : ∀ i, i < n → i < E i ∧ E i ≤ n
  lam : ∀ i k, i < n → i < k → k < E i → E k ≤ E i
  f0 : F 0 = 0
  e0 : E 0 = n
  bel : ∀ i k a b, a < n → b < n → F a = k → F b = i → i ∈ descF (kidsF n par) n k → a + 1 < E a → a < b ∧ b < E a
theorem ord_facts (n : Nat) (par : Nat → Nat) (hp : ∀ i, 0 < i → i < n → par i < i) (own : Nat → Bool) (srt : List Nat → List Nat) (hs : ∀ l, (srt l).Perm l) (h0 : 0 < n) (ho : own 0 = true) :
    OrdFacts n par (fun i => ((ordF n par own srt).getD i (0, 0)).1) (fun i => ((ordF n par own srt).getD i (0, 0)).2) := by
  have hlen := ord_len n par hp own srt hs h0 ho
  have hperm := ord_perm n par hp own srt hs h0 ho
  have hlam := ord_lam n par hp own srt hs
  have hbel := ord_below n par hp own srt hs h0 ho
  obtain ⟨r, hr⟩ := ord_first n par hp own srt hs h0 ho
  generalize ordF n par own srt = S at *
  have hnd : (S.map (·.1)).Nodup := hperm.nodup_iff.2 List.nodup_range
  have hat : ∀ i (hi : i < n), S.getD i (0, 0) = S[i]'(by omega) := fun i hi => by
    rw [List.getD, List.getElem?_eq_getElem (by omega)]; rfl
  have hz0 : S.getD 0 (0, 0) = (0, n) := by rw [hr]; rfl
  have hm : ∀ i (hi : i < n), (S.map (·.1))[i]'(by simp; omega) = S[i].1 := fun i hi => by simp
  refine ⟨fun i hi => ?_, fun i j hi hj e => ?_, fun f hf => ?_, fun i hi => ?_, fun i k hi hik hk => ?_, by rw [hz0], by rw [hz0], fun i k a b ha hb hk hi hd hw => ?_⟩
  · rw [hat i hi, ← hm i hi]
    have : (S.map (·.1))[i]'(by simp; omega) ∈ List.range n := hperm.mem_iff.1 (List.getElem_mem _)
    simpa using this
  · rw [hat i hi, hat j hj, ← hm i hi, ← hm j hj] at e
    exact (List.getElem_inj hnd).1 e
  · have : f ∈ S.map (·.1) := hperm.mem_iff.2 (by simpa using hf)
    obtain ⟨i, hi, e⟩ := List.getElem_of_mem this
    have hi' : i < n := by simp at hi; omega
    exact ⟨i, hi', by rw [hat i hi', ← hm i hi']; exact e⟩
  · rw [hat i hi]
    obtain ⟨h1, h2, _⟩ := hlam i (by omega)
    omega
  · rw [hat i hi] at hk ⊢
    obtain ⟨h1, h2, h3⟩ := hlam i (by omega)
    have hkn : k < n := by omega
    rw [hat k hkn]
    exact h3 k (by omega) hik (by omega)
  · rw [hat a ha] at hk hw ⊢
    rw [hat b hb] at hi
    exact hbel i k a b (by omega) (by omega) hk hi hd hw
def atF (F : Nat → Nat) : Nat → Nat → Nat
  | 0, _ => 0
  | j + 1, f => if f = F j then j else atF F j f
def seF (F : Nat → Nat) : Nat → Nat → Bool
  | 0, _ => false
  | j + 1, f => if f = F j then true else seF F j f
theorem seF_no (F : Nat → Nat) (f : Nat) : ∀ j, (∀ i, i < j → F i ≠ f) → seF F j f = false
  | 0, _ => rfl
  | j + 1, h => by rw [seF, if_neg (fun e => h j (Nat.lt_succ_self j) e.symm)]; exact seF_no F f j fun i hi => h i (by omega)
theorem atF_at (F : Nat → Nat) (i : Nat) : ∀ j, i < j → (∀ k, i < k → k < j → F k ≠ F i) → atF F j (F i) = i
  | 0, h, _ => absurd h (Nat.not_lt_zero _)
  | j + 1, h, hk => by
    rw [atF]
    by_cases e : i = j
    · subst e; rw [if_pos rfl]
    · rw [if_neg (fun e2 => hk j (by omega) (Nat.lt_succ_self j) e2.symm)]
      exact atF_at F i j (by omega) fun k h1 h2 => hk k h1 (by omega)
theorem kvA_const (z : Value) (n : Nat) : madeCells #[z] n = kvA (fun _ => z) n := by
  apply Array.toList_inj.1
  rw [madeCells_rep]
  simp [kvA, List.map_const']
theorem seA_set (F : Nat → Nat) (n j : Nat) : (kvA (fun f => .bool (seF F j f)) n).setIfInBounds (F j) (.bool true) = kvA (fun f => .bool (seF F (j + 1) f)) n := by
  rw [kvA_set]
  congr 1
  funext f
  rw [seF]
  split <;> rfl
theorem atA_set (F : Nat → Nat) (n j : Nat) : (kvA (fun f => .int .i64 (atF F j f : Int)) n).setIfInBounds (F j) (.int .i64 (j : Int)) = kvA (fun f => .int .i64 (atF F (j + 1) f : Int)) n := by
  rw [kvA_set]
  congr 1
  funext f
  rw [atF]
  split <;> rfl
end Go.Proofs.YtbpkffoooieejaaDoor
