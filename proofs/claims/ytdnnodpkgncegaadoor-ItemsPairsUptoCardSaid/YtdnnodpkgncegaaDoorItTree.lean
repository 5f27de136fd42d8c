/- How many items a tree of boxes can give. No program in sight. -/
import Derived.Test.YtdnnodpkgncegaaDoorBoxCheck
namespace Go.Proofs.YtdnnodpkgncegaaDoor
def tot (f : Nat → Nat) : Nat → Nat
  | 0 => 0
  | n + 1 => tot f n + f n
theorem sum_le (f : Nat → Nat) : ∀ (n : Nat) (L : List Nat), L.Nodup → (∀ x ∈ L, x < n) → (L.map f).sum ≤ tot f n
  | 0, L, _, h => by
    cases L with
    | nil => simp
    | cons a L => exact absurd (h a (by simp)) (Nat.not_lt_zero _)
  | n + 1, L, hn, h => by
    have h1 := sum_le f n (L.erase n) (hn.erase n) fun x hx => by
      have h2 := h x (List.mem_of_mem_erase hx)
      have h3 : x ≠ n := (hn.mem_erase_iff.1 hx).1
      omega
    rw [tot]
    by_cases hm : n ∈ L
    · have hp := ((List.perm_cons_erase hm).map f).sum_nat
      rw [List.map_cons, List.sum_cons] at hp
      omega
    · rw [List.erase_of_not_mem hm] at h1
      omega
section
variable (n : Nat) (kids : Nat → List Nat) (par : Nat → Nat) (own : Nat → Nat)
def dnF : Nat → Nat → List Nat
  | 0, _ => []
  | d + 1, i => i :: (kids i).flatMap (dnF d)
def costF : Nat → Nat → Nat
  | 0, _ => 0
  | d + 1, i => own i + ((kids i).map (costF d)).sum
theorem cost_sum : ∀ (d i : Nat), costF kids own d i = ((dnF kids d i).map own).sum
  | 0, _ => rfl
  | d + 1, i => by
    rw [costF, dnF, List.map_cons, List.sum_cons]
    congr 1
    induction kids i with
    | nil => rfl
    | cons k l ih => rw [List.map_cons, List.sum_cons, List.flatMap_cons, List.map_append, List.sum_append, ih, cost_sum d k]
variable (hk : ∀ i k, i < n → k ∈ kids i → i < k ∧ k < n ∧ par k = i) (hnd : ∀ i, i < n → (kids i).Nodup)
include hk
theorem dn_ge : ∀ (d i j : Nat), i < n → j ∈ dnF kids d i → i ≤ j ∧ j < n
  | 0, _, _, _, h => by cases h
  | d + 1, i, j, hi, h => by
    rw [dnF] at h
    rcases List.mem_cons.1 h with rfl | h
    · exact ⟨Nat.le_refl _, hi⟩
    · obtain ⟨c, hc, h⟩ := List.mem_flatMap.1 h
      obtain ⟨h1, h2, _⟩ := hk i c hi hc
      have := dn_ge d c j h2 h
      omega
theorem dn_par : ∀ (d i j : Nat), i < n → j ∈ dnF kids d i → j = i ∨ (par j ∈ dnF kids d i ∧ par j < j)
  | 0, _, _, _, h => by cases h
  | d + 1, i, j, hi, h => by
    rw [dnF] at h ⊢
    rcases List.mem_cons.1 h with rfl | h
    · exact .inl rfl
    · obtain ⟨c, hc, h⟩ := List.mem_flatMap.1 h
      obtain ⟨h1, h2, h3⟩ := hk i c hi hc
      rcases dn_par d c j h2 h with rfl | ⟨h4, h5⟩
      · exact .inr ⟨by rw [h3]; simp, by omega⟩
      · exact .inr ⟨List.mem_cons_of_mem _ (List.mem_flatMap.2 ⟨c, hc, h4⟩), h5⟩
theorem dn_apart (d i k k' : Nat) (hi : i < n) (h : k ∈ kids i) (h' : k' ∈ kids i) : ∀ j, j ∈ dnF kids d k → j ∈ dnF kids d k' → k = k' := by
  obtain ⟨a1, a2, a3⟩ := hk i k hi h
  obtain ⟨b1, b2, b3⟩ := hk i k' hi h'
  intro j
  induction j using Nat.strongRecOn with
  | ind j ih =>
    intro hj hj'
    rcases dn_par n kids par hk d k j a2 hj with rfl | ⟨p1, p2⟩
    · rcases dn_par n kids par hk d k' j b2 hj' with rfl | ⟨q1, q2⟩
      · rfl
      · have := dn_ge n kids par hk d k' _ b2 q1
        omega
    · rcases dn_par n kids par hk d k' j b2 hj' with rfl | ⟨q1, q2⟩
      · have := dn_ge n kids par hk d k _ a2 p1
        omega
      · exact ih _ p2 p1 q1
include hnd
theorem dn_nodup : ∀ (d i : Nat), i < n → (dnF kids d i).Nodup
  | 0, _, _ => List.nodup_nil
  | d + 1, i, hi => by
    rw [dnF, List.nodup_cons]
    refine ⟨fun h => ?_, ?_⟩
    · obtain ⟨c, hc, h⟩ := List.mem_flatMap.1 h
      obtain ⟨h1, h2, _⟩ := hk i c hi hc
      have := dn_ge n kids par hk d c i h2 h
      omega
    · have key : ∀ l : List Nat, l.Nodup → (∀ k ∈ l, k ∈ kids i) → (l.flatMap (dnF kids d)).Nodup := by
        intro l
        induction l with
        | nil => intro _ _; exact List.nodup_nil
        | cons k l ihl =>
          intro hl hm
          rw [List.flatMap_cons, List.nodup_append]
          have hl := List.nodup_cons.1 hl
          refine ⟨dn_nodup d k (hk i k hi (hm k (by simp))).2.1, ihl hl.2 fun j hj => hm j (by simp [hj]), fun a ha b hb => ?_⟩
          rintro rfl
          obtain ⟨k', hk', hb⟩ := List.mem_flatMap.1 hb
          have := dn_apart n kids par hk d i k k' hi (hm k (by simp)) (hm k' (by simp [hk'])) a ha hb
          subst this
          exact hl.1 hk'
      exact key _ (hnd i hi) fun k h => h
theorem cost_le (d i : Nat) (hi : i < n) : costF kids own d i ≤ tot own n := by
  rw [cost_sum]
  exact sum_le own n _ (dn_nodup n kids par hk hnd d i hi) fun x hx => (dn_ge n kids par hk d i x hi hx).2
end
def kidN (l : List Bo) (i : Nat) : List Nat := (boAt l i).kids.map Int.toNat
def ownN (l : List Bo) (i : Nat) : Nat := 2 * (boAt l i).text.size + 2
theorem kidAt_mem {l : List Bo} {i j : Nat} (hj : j < (boAt l i).kids.length) : (boAt l i).kids[j] = kidAt l i j := by
  unfold kidAt
  rw [List.getD, List.getElem?_eq_getElem hj]; rfl
theorem kids_rise {l : List Bo} {i : Nat} (h : ∀ j, j < (boAt l i).kids.length → KidGood l i j) : ∀ (m j : Nat), j < m → m < (boAt l i).kids.length → kidAt l i j < kidAt l i m
  | 0, j, hj, _ => absurd hj (Nat.not_lt_zero _)
  | m + 1, j, hj, hm => by
    have h1 : kidAt l i m < kidAt l i (m + 1) := (h (m + 1) hm).1
    rcases Nat.lt_or_ge j m with h2 | h2
    · exact Int.lt_trans (kids_rise h m j h2 (by omega)) h1
    · obtain rfl : j = m := by omega
      exact h1
theorem kid_above {l : List Bo} {i : Nat} (h : ∀ j, j < (boAt l i).kids.length → KidGood l i j) (j : Nat) (hj : j < (boAt l i).kids.length) : (i : Int) < kidAt l i j := by
  have h0 : (i : Int) < kidAt l i 0 := (h 0 (by omega)).1
  rcases Nat.eq_zero_or_pos j with rfl | hj0
  · exact h0
  · exact Int.lt_trans h0 (kids_rise h j 0 hj0 hj)
theorem kidN_good {l : List Bo} {i k : Nat} (h : BoxGood l i) (hm : k ∈ kidN l i) : i < k ∧ k < l.length ∧ ((boAt l k).par.toNat = i) := by
  obtain ⟨x, hx, rfl⟩ := List.mem_map.1 hm
  obtain ⟨j, hj, rfl⟩ := List.getElem_of_mem hx
  rw [kidAt_mem hj]
  have h1 := kid_above h.2 j hj
  obtain ⟨_, h2, h3⟩ := h.2 j hj
  refine ⟨by omega, by omega, ?_⟩
  rw [h3]; omega
theorem kidN_nodup {l : List Bo} {i : Nat} (h : BoxGood l i) : (kidN l i).Nodup := by
  unfold kidN
  rw [List.nodup_iff_pairwise_ne, List.pairwise_iff_getElem]
  intro a b ha hb hab
  simp only [List.length_map] at ha hb
  simp only [List.getElem_map]
  rw [kidAt_mem ha, kidAt_mem hb]
  have h1 := kids_rise h.2 b a hab hb
  have h2 := kid_above h.2 a ha
  omega
theorem box_cost {l : List Bo} (h : ∀ i, i < l.length → BoxGood l i) (d i : Nat) (hi : i < l.length) : costF (kidN l) (ownN l) d i ≤ tot (ownN l) l.length :=
  cost_le l.length (kidN l) (fun k => (boAt l k).par.toNat) (ownN l) (fun i _ hi hk => kidN_good (h i hi) hk) (fun i hi => kidN_nodup (h i hi)) d i hi
end Go.Proofs.YtdnnodpkgncegaaDoor
