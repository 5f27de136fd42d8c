/- The order of painting: a plain law on trees of frags. No program in sight. -/
namespace Go.Proofs.YtbpkffoooieejaaDoor
section
variable (n : Nat) (kids : Nat → List Nat) (own : Nat → Bool) (srt : List Nat → List Nat)
def belF : Nat → Nat → List Nat
  | 0, _ => []
  | d + 1, f => (kids f).flatMap fun k => k :: (if own k then [] else belF d k)
def seqF : Nat → Nat → List Nat
  | 0, f => [f]
  | d + 1, f => f :: (if own f then (srt (belF kids own n f)).flatMap (seqF d) else [])
def stepsL (g : Nat → Nat → List (Nat × Nat)) : List Nat → Nat → List (Nat × Nat)
  | [], _ => []
  | k :: l, at_ => g k at_ ++ stepsL g l (at_ + (g k at_).length)
def stepsF : Nat → Nat → Nat → List (Nat × Nat)
  | 0, f, at_ => [(f, at_ + 1)]
  | d + 1, f, at_ => (f, at_ + 1 + (if own f then stepsL (stepsF d) (srt (belF kids own n f)) (at_ + 1) else []).length) :: (if own f then stepsL (stepsF d) (srt (belF kids own n f)) (at_ + 1) else [])
def descF : Nat → Nat → List Nat
  | 0, _ => []
  | d + 1, f => (kids f).flatMap fun k => k :: descF d k
theorem stepsL_fst (d : Nat) (ih : ∀ f a, (stepsF n kids own srt d f a).map (·.1) = seqF n kids own srt d f) : ∀ (l : List Nat) (a : Nat), (stepsL (stepsF n kids own srt d) l a).map (·.1) = l.flatMap (seqF n kids own srt d)
  | [], _ => rfl
  | k :: l, a => by rw [stepsL, List.map_append, ih, stepsL_fst d ih l, List.flatMap_cons]
theorem stepsF_fst (d : Nat) : ∀ f a, (stepsF n kids own srt d f a).map (·.1) = seqF n kids own srt d f := by
  induction d with
  | zero => intro f a; rfl
  | succ d ih =>
    intro f a
    rw [stepsF, seqF, List.map_cons]
    congr 1
    split
    · exact stepsL_fst n kids own srt d ih _ _
    · rfl
theorem stepsF_len (d f a : Nat) : (stepsF n kids own srt d f a).length = (seqF n kids own srt d f).length := by rw [← stepsF_fst n kids own srt d f a, List.length_map]
/-- Where steps end: each behind itself, all within the whole, one within the other; and what a step begins is the whole of it. -/
def Lam (a : Nat) (s : List (Nat × Nat)) : Prop :=
  ∀ i (h : i < s.length), a + i < s[i].2 ∧ s[i].2 ≤ a + s.length ∧ ∀ k (hk : k < s.length), i < k → a + k < s[i].2 → s[k].2 ≤ s[i].2
theorem Lam.append {a : Nat} {s t : List (Nat × Nat)} (hs : Lam a s) (ht : Lam (a + s.length) t) : Lam a (s ++ t) := by
  intro i h
  by_cases hi : i < s.length
  · obtain ⟨h1, h2, h3⟩ := hs i hi
    rw [List.getElem_append_left hi]
    refine ⟨h1, by rw [List.length_append]; omega, fun k hk hik hak => ?_⟩
    have hks : k < s.length := by omega
    rw [List.getElem_append_left hks]
    exact h3 k hks hik hak
  · rw [List.length_append] at h
    obtain ⟨h1, h2, h3⟩ := ht (i - s.length) (by omega)
    rw [List.getElem_append_right (by omega)]
    refine ⟨by omega, by rw [List.length_append]; omega, fun k hk hik hak => ?_⟩
    rw [List.length_append] at hk
    rw [List.getElem_append_right (by omega)]
    exact h3 (k - s.length) (by omega) (by omega) (by omega)
theorem Lam.cons {a f : Nat} {s : List (Nat × Nat)} (hs : Lam (a + 1) s) : Lam a ((f, a + 1 + s.length) :: s) := by
  intro i h
  cases i with
  | zero =>
    refine ⟨by simp only [List.getElem_cons_zero]; omega, by simp only [List.getElem_cons_zero, List.length_cons]; omega, fun k hk hik hak => ?_⟩
    obtain ⟨j, rfl⟩ : ∃ j, k = j + 1 := ⟨k - 1, by omega⟩
    have hj : j < s.length := by simpa using hk
    have h2 := (hs j hj).2.1
    simp only [List.getElem_cons_zero, List.getElem_cons_succ]
    omega
  | succ i =>
    have hi : i < s.length := by simpa using h
    obtain ⟨h1, h2, h3⟩ := hs i hi
    simp only [List.getElem_cons_succ, List.length_cons]
    refine ⟨by omega, by omega, fun k hk hik hak => ?_⟩
    obtain ⟨j, rfl⟩ : ∃ j, k = j + 1 := ⟨k - 1, by omega⟩
    simp only [List.getElem_cons_succ]
    exact h3 j (by omega) (by omega) (by omega)
theorem stepsL_lam (d : Nat) (ih : ∀ f a, Lam a (stepsF n kids own srt d f a)) : ∀ (l : List Nat) (a : Nat), Lam a (stepsL (stepsF n kids own srt d) l a)
  | [], _ => fun _ h => absurd h (Nat.not_lt_zero _)
  | k :: l, a => (ih k a).append (stepsL_lam d ih l _)
theorem stepsF_lam (d : Nat) : ∀ f a, Lam a (stepsF n kids own srt d f a) := by
  induction d with
  | zero => exact fun f a => Lam.cons (s := []) (fun i h => absurd h (Nat.not_lt_zero _))
  | succ d ih =>
    intro f a
    rw [stepsF]
    refine Lam.cons ?_
    split
    · exact stepsL_lam n kids own srt d ih _ _
    · exact fun i h => absurd h (Nat.not_lt_zero _)
/-- What a step begins: the steps of its own frag. -/
def Blks (N : Nat) (a : Nat) (s : List (Nat × Nat)) : Prop :=
  ∀ i (h : i < s.length), ∃ d, (s.drop i).take (s[i].2 - (a + i)) = stepsF n kids own srt d s[i].1 (a + i) ∧ N ≤ d + s[i].1
theorem Blks.append {N a : Nat} {s t : List (Nat × Nat)} (hl : Lam a s) (hs : Blks n kids own srt N a s) (ht : Blks n kids own srt N (a + s.length) t) : Blks n kids own srt N a (s ++ t) := by
  intro i h
  by_cases hi : i < s.length
  · obtain ⟨d, h1, h2⟩ := hs i hi
    obtain ⟨l1, l2, _⟩ := hl i hi
    refine ⟨d, ?_, ?_⟩
    · rw [List.getElem_append_left hi, List.drop_append_of_le_length (by omega), List.take_append_of_le_length (by rw [List.length_drop]; omega)]
      exact h1
    · rw [List.getElem_append_left hi]; exact h2
  · rw [List.length_append] at h
    obtain ⟨d, h1, h2⟩ := ht (i - s.length) (by omega)
    refine ⟨d, ?_, ?_⟩
    · rw [List.getElem_append_right (by omega), List.drop_append, List.drop_eq_nil_of_le (by omega), List.nil_append]
      rw [show a + s.length + (i - s.length) = a + i by omega] at h1
      exact h1
    · rw [List.getElem_append_right (by omega)]; exact h2
variable (hk : ∀ f k, k ∈ kids f → f < k ∧ k < n) (hs : ∀ l, (srt l).Perm l)
include hk
theorem belF_mem (d : Nat) : ∀ f k, k ∈ belF kids own d f → f < k ∧ k < n := by
  induction d with
  | zero => intro f k h; cases h
  | succ d ih =>
    intro f k h
    rw [belF, List.mem_flatMap] at h
    obtain ⟨j, hj, h⟩ := h
    have h1 := hk f j hj
    rcases List.mem_cons.1 h with rfl | h
    · exact h1
    · split at h
      · cases h
      · have := ih j k h; omega
include hs
theorem stepsL_blks (d : Nat) (ih : ∀ f a, n ≤ d + f → Blks n kids own srt n a (stepsF n kids own srt d f a)) : ∀ (l : List Nat) (a : Nat), (∀ k ∈ l, n ≤ d + k) → Blks n kids own srt n a (stepsL (stepsF n kids own srt d) l a)
  | [], _, _ => fun i h => absurd h (Nat.not_lt_zero _)
  | k :: l, a, h =>
    have _h1 := hs
    have _h2 := hk
    Blks.append n kids own srt (stepsF_lam n kids own srt d k a) (ih k a (h k (by simp))) (stepsL_blks d ih l _ fun j hj => h j (by simp [hj]))
theorem stepsF_blks (d : Nat) : ∀ f a, n ≤ d + f → Blks n kids own srt n a (stepsF n kids own srt d f a) := by
  induction d with
  | zero =>
    intro f a h i hi
    have hi0 : i = 0 := by simp only [stepsF, List.length_cons, List.length_nil] at hi; omega
    subst hi0
    refine ⟨0, ?_, h⟩
    simp [stepsF]
  | succ d ih =>
    intro f a h i hi
    cases i with
    | zero =>
      refine ⟨d + 1, ?_, by simp only [stepsF, List.getElem_cons_zero]; omega⟩
      simp only [stepsF, List.getElem_cons_zero, List.drop_zero, Nat.add_zero]
      refine List.take_of_length_le ?_
      rw [List.length_cons]; omega
    | succ i =>
      by_cases ho : own f = true
      · have hl := stepsL_blks n kids own srt hk hs d ih (srt (belF kids own n f)) (a + 1) fun k hk2 => by
          have := belF_mem n kids own hk n f k ((hs _).mem_iff.1 hk2)
          omega
        have e : stepsF n kids own srt (d + 1) f a = (f, a + 1 + (stepsL (stepsF n kids own srt d) (srt (belF kids own n f)) (a + 1)).length) :: stepsL (stepsF n kids own srt d) (srt (belF kids own n f)) (a + 1) := by rw [stepsF]; simp only [ho, if_true]
        generalize stepsL (stepsF n kids own srt d) (srt (belF kids own n f)) (a + 1) = t at *
        have hi2 := hi
        rw [e, List.length_cons] at hi2
        obtain ⟨d', h1, h2⟩ := hl i (by omega)
        refine ⟨d', ?_, ?_⟩
        · simp only [e, List.getElem_cons_succ, List.drop_succ_cons]
          rw [show a + (i + 1) = a + 1 + i by omega]
          exact h1
        · simp only [e, List.getElem_cons_succ]; exact h2
      · exfalso
        rw [stepsF] at hi
        simp only [ho, List.length_cons] at hi
        simp at hi
/-- All below a frag stands behind it, if it has steps of its own. -/
theorem bel_perm (d : Nat) (ih : ∀ f e, n ≤ d + f → n ≤ e + f → (seqF n kids own srt d f).Perm (f :: if own f then descF kids e f else [])) (e : Nat) : ∀ f e', n ≤ e + f → n ≤ e' + f → n ≤ d + f + 1 → ((belF kids own e f).flatMap (seqF n kids own srt d)).Perm (descF kids e' f) := by
  have _h1 := hs
  induction e with
  | zero =>
    intro f e' h h' _
    have h0 : kids f = [] := by
      cases hq : kids f with
      | nil => rfl
      | cons k l => have := hk f k (by rw [hq]; simp); omega
    cases e' with
    | zero => exact List.Perm.refl _
    | succ e' => rw [belF, descF, h0]; exact List.Perm.refl _
  | succ e ihe =>
    intro f e' h h' hd
    cases e' with
    | zero =>
      have h0 : kids f = [] := by
        cases hq : kids f with
        | nil => rfl
        | cons k l => have := hk f k (by rw [hq]; simp); omega
      rw [belF, descF, h0]; exact List.Perm.refl _
    | succ e' =>
      rw [belF, descF, List.flatMap_assoc]
      have hp : ∀ l : List Nat, (∀ k ∈ l, f < k) → (l.flatMap fun x => List.flatMap (seqF n kids own srt d) (x :: if own x then [] else belF kids own e x)).Perm (l.flatMap fun k => k :: descF kids e' k) := by
        intro l
        induction l with
        | nil => intro _; exact List.Perm.refl _
        | cons k l ihl =>
          intro hl
          rw [List.flatMap_cons, List.flatMap_cons]
          refine List.Perm.append ?_ (ihl fun j hj => hl j (by simp [hj]))
          have hfk := hl k (by simp)
          show (seqF n kids own srt d k ++ List.flatMap (seqF n kids own srt d) (if own k = true then [] else belF kids own e k)).Perm (k :: descF kids e' k)
          have h1 := ih k e' (by omega) (by omega)
          by_cases ho : own k = true
          · simp only [ho, if_true, List.flatMap_nil, List.append_nil] at h1 ⊢
            exact h1
          · have ho : own k = false := by simpa using ho
            simp only [ho, Bool.false_eq_true, if_false] at h1 ⊢
            have h2 := ihe k e' (by omega) (by omega) (by omega)
            exact (List.Perm.append h1 h2)
      exact hp _ fun k hq => (hk f k hq).1
theorem seqF_perm (d : Nat) : ∀ f e, n ≤ d + f → n ≤ e + f → (seqF n kids own srt d f).Perm (f :: if own f then descF kids e f else []) := by
  induction d with
  | zero =>
    intro f e h h'
    have h0 : kids f = [] := by
      cases hq : kids f with
      | nil => rfl
      | cons k l => have := hk f k (by rw [hq]; simp); omega
    have h1 : descF kids e f = [] := by
      cases e with
      | zero => rfl
      | succ e => rw [descF, h0]; rfl
    rw [seqF, h1]
    split <;> exact List.Perm.refl _
  | succ d ih =>
    intro f e h h'
    rw [seqF]
    refine List.Perm.cons _ ?_
    split
    · exact ((hs _).flatMap_right _).trans (bel_perm n kids own srt hk hs d ih n f e (by omega) h' (by omega))
    · exact List.Perm.refl _
end
section
variable (n : Nat) (par : Nat → Nat)
def kidsF (f : Nat) : List Nat := (List.range n).filter fun i => decide (0 < i) && par i == f
theorem kidsF_mem (f k : Nat) : k ∈ kidsF n par f ↔ k < n ∧ 0 < k ∧ par k = f := by
  simp [kidsF]
variable (hp : ∀ i, 0 < i → i < n → par i < i)
include hp
theorem kidsF_lt (f k : Nat) (h : k ∈ kidsF n par f) : f < k ∧ k < n := by
  obtain ⟨h1, h2, rfl⟩ := (kidsF_mem n par f k).1 h
  exact ⟨hp k h2 h1, h1⟩
theorem desc_lt (e : Nat) : ∀ f i, i ∈ descF (kidsF n par) e f → f < i ∧ i < n := by
  induction e with
  | zero => intro f i h; cases h
  | succ e ih =>
    intro f i h
    rw [descF, List.mem_flatMap] at h
    obtain ⟨j, hj, h⟩ := h
    have h1 := kidsF_lt n par hp f j hj
    rcases List.mem_cons.1 h with rfl | h
    · exact h1
    · have := ih j i h; omega
theorem desc_par (e : Nat) : ∀ f i, i ∈ descF (kidsF n par) e f → par i = f ∨ par i ∈ descF (kidsF n par) e f := by
  have _h1 := hp
  induction e with
  | zero => intro f i h; cases h
  | succ e ih =>
    intro f i h
    rw [descF, List.mem_flatMap] at h
    obtain ⟨j, hj, h⟩ := h
    rcases List.mem_cons.1 h with rfl | h
    · exact .inl ((kidsF_mem n par f i).1 hj).2.2
    · right
      rw [descF, List.mem_flatMap]
      refine ⟨j, hj, ?_⟩
      rcases ih j i h with h | h
      · rw [h]; simp
      · simp [h]
theorem desc_fuel (e : Nat) : ∀ e' f, n ≤ e + f → n ≤ e' + f → descF (kidsF n par) e f = descF (kidsF n par) e' f := by
  induction e with
  | zero =>
    intro e' f h h'
    have h0 : kidsF n par f = [] := by
      cases hq : kidsF n par f with
      | nil => rfl
      | cons k l => have := kidsF_lt n par hp f k (by rw [hq]; simp); omega
    cases e' with
    | zero => rfl
    | succ e' => rw [descF, descF, h0]; rfl
  | succ e ih =>
    intro e' f h h'
    cases e' with
    | zero =>
      have h0 : kidsF n par f = [] := by
        cases hq : kidsF n par f with
        | nil => rfl
        | cons k l => have := kidsF_lt n par hp f k (by rw [hq]; simp); omega
      rw [descF, descF, h0]; rfl
    | succ e' =>
      rw [descF, descF]
      have : ∀ l : List Nat, (∀ k ∈ l, f < k) → (l.flatMap fun k => k :: descF (kidsF n par) e k) = l.flatMap fun k => k :: descF (kidsF n par) e' k := by
        intro l
        induction l with
        | nil => intro _; rfl
        | cons k l ihl =>
          intro hl
          have := hl k (by simp)
          rw [List.flatMap_cons, List.flatMap_cons, ihl fun j hj => hl j (by simp [hj]), ih e' k (by omega) (by omega)]
      exact this _ fun k hk => (kidsF_lt n par hp f k hk).1
theorem desc_kid (i : Nat) (h0 : 0 < i) (hi : i < n) : i ∈ descF (kidsF n par) n (par i) := by
  obtain ⟨m, rfl⟩ : ∃ m, n = m + 1 := ⟨n - 1, by omega⟩
  rw [descF, List.mem_flatMap]
  exact ⟨i, (kidsF_mem _ par _ i).2 ⟨hi, h0, rfl⟩, by simp⟩
theorem desc_up (i k : Nat) (h : i ∈ descF (kidsF n par) n k) (h0 : 0 < k) (hk : k < n) : i ∈ descF (kidsF n par) n (par k) := by
  obtain ⟨m, rfl⟩ : ∃ m, n = m + 1 := ⟨n - 1, by omega⟩
  have e := desc_fuel (m + 1) par hp (m + 1) m k (by omega) (by omega)
  rw [descF, List.mem_flatMap]
  exact ⟨k, (kidsF_mem _ par _ k).2 ⟨hk, h0, rfl⟩, by rw [← e]; simp [h]⟩
theorem desc_all (i : Nat) (h0 : 0 < i) (hi : i < n) : i ∈ descF (kidsF n par) n 0 := by
  have key : ∀ j, j < n → i ∈ descF (kidsF n par) n j → i ∈ descF (kidsF n par) n 0 := by
    intro j
    induction j using Nat.strongRecOn with
    | ind j ih =>
      intro hj h
      rcases Nat.eq_zero_or_pos j with rfl | hj0
      · exact h
      · have h1 := hp j hj0 hj
        exact ih (par j) h1 (by omega) (desc_up n par hp i j h hj0 hj)
  have h1 := hp i h0 hi
  exact key (par i) (by omega) (desc_kid n par hp i h0 hi)
theorem desc_chain (e k k' : Nat) (hkk : k < k') : ∀ i, (i = k ∨ i ∈ descF (kidsF n par) e k) → (i = k' ∨ i ∈ descF (kidsF n par) e k') → k' ∈ descF (kidsF n par) e k := by
  intro i
  induction i using Nat.strongRecOn with
  | ind i ih =>
    intro h h'
    rcases h' with rfl | h'
    · rcases h with rfl | h
      · omega
      · exact h
    · have h1 := desc_lt n par hp e k' i h'
      have h2 := desc_par n par hp e k' i h'
      rcases h with rfl | h
      · omega
      · have h3 := desc_par n par hp e k i h
        exact ih (par i) (hp i (by omega) h1.2) h3 h2
theorem desc_nodup (e : Nat) : ∀ f, (descF (kidsF n par) e f).Nodup := by
  induction e with
  | zero => intro f; exact List.nodup_nil
  | succ e ih =>
    intro f
    rw [descF]
    have hn : (kidsF n par f).Nodup := List.Nodup.sublist List.filter_sublist List.nodup_range
    have : ∀ l : List Nat, l.Nodup → (∀ k ∈ l, k ∈ kidsF n par f) → (l.flatMap fun k => k :: descF (kidsF n par) e k).Nodup := by
      intro l
      induction l with
      | nil => intro _ _; exact List.nodup_nil
      | cons k l ihl =>
        intro hl hm
        rw [List.flatMap_cons, List.nodup_append]
        have hl := List.nodup_cons.1 hl
        refine ⟨List.nodup_cons.2 ⟨fun h => ?_, ih k⟩, ihl hl.2 fun j hj => hm j (by simp [hj]), fun a ha b hb => ?_⟩
        · have := desc_lt n par hp e k k h; omega
        · rintro rfl
          obtain ⟨k', hk', hb⟩ := List.mem_flatMap.1 hb
          have hne : k ≠ k' := by rintro rfl; exact hl.1 hk'
          have p1 := ((kidsF_mem n par f k).1 (hm k (by simp))).2.2
          have p2 := ((kidsF_mem n par f k').1 (hm k' (by simp [hk']))).2.2
          have l1 := kidsF_lt n par hp f k (hm k (by simp))
          have l2 := kidsF_lt n par hp f k' (hm k' (by simp [hk']))
          rcases Nat.lt_or_ge k k' with hlt | hge
          · have h1 := desc_chain n par hp e k k' hlt a (List.mem_cons.1 ha) (List.mem_cons.1 hb)
            rcases desc_par n par hp e k k' h1 with h | h
            · omega
            · have := desc_lt n par hp e k _ h; omega
          · have h1 := desc_chain n par hp e k' k (by omega) a (List.mem_cons.1 hb) (List.mem_cons.1 ha)
            rcases desc_par n par hp e k' k h1 with h | h
            · omega
            · have := desc_lt n par hp e k' _ h; omega
    exact this _ hn fun k h => h
variable (own : Nat → Bool) (srt : List Nat → List Nat) (hs : ∀ l, (srt l).Perm l)
/-- The order of a whole tree. -/
def ordF : List (Nat × Nat) := stepsF n (kidsF n par) own srt n 0 0
include hs
theorem ord_perm (h0 : 0 < n) (ho : own 0 = true) : ((ordF n par own srt).map (·.1)).Perm (List.range n) := by
  unfold ordF
  rw [stepsF_fst]
  refine (seqF_perm n _ own srt (kidsF_lt n par hp) hs n 0 n (by omega) (by omega)).trans ?_
  rw [if_pos ho]
  refine (List.perm_ext_iff_of_nodup (List.nodup_cons.2 ⟨fun h => ?_, desc_nodup n par hp n 0⟩) List.nodup_range).2 fun a => ?_
  · have := desc_lt n par hp n 0 0 h; omega
  · rw [List.mem_cons, List.mem_range]
    constructor
    · rintro (rfl | h)
      · exact h0
      · exact (desc_lt n par hp n 0 a h).2
    · intro h
      rcases Nat.eq_zero_or_pos a with rfl | ha
      · exact .inl rfl
      · exact .inr (desc_all n par hp a ha h)
theorem ord_len (h0 : 0 < n) (ho : own 0 = true) : (ordF n par own srt).length = n := by
  have := (ord_perm n par hp own srt hs h0 ho).length_eq
  simpa using this
theorem ord_first (h0 : 0 < n) (ho : own 0 = true) : ∃ r, ordF n par own srt = (0, n) :: r := by
  have hl := ord_len n par hp own srt hs h0 ho
  unfold ordF at *
  obtain ⟨m, hm⟩ : ∃ m, n = m + 1 := ⟨n - 1, by omega⟩
  have e : ∀ d, d = m + 1 → stepsF n (kidsF n par) own srt d 0 0 = (0, 0 + 1 + (if own 0 then stepsL (stepsF n (kidsF n par) own srt m) (srt (belF (kidsF n par) own n 0)) (0 + 1) else []).length) :: (if own 0 then stepsL (stepsF n (kidsF n par) own srt m) (srt (belF (kidsF n par) own n 0)) (0 + 1) else []) := by
    rintro d rfl; rfl
  rw [e n hm] at hl ⊢
  rw [List.length_cons] at hl
  generalize (if own 0 then stepsL (stepsF n (kidsF n par) own srt m) (srt (belF (kidsF n par) own n 0)) (0 + 1) else []) = t at *
  exact ⟨t, by rw [show 0 + 1 + t.length = n by omega]⟩
theorem ord_lam : Lam 0 (ordF n par own srt) :=
  have _h1 := hs
  have _h2 := hp
  stepsF_lam n _ own srt n 0 0
/-- What has steps of its own has all below it within them. -/
theorem ord_below (h0 : 0 < n) (ho : own 0 = true) (i k a b : Nat) (ha : a < (ordF n par own srt).length) (hb : b < (ordF n par own srt).length) (hk : (ordF n par own srt)[a].1 = k) (hi : (ordF n par own srt)[b].1 = i)
    (hd : i ∈ descF (kidsF n par) n k) (hw : a + 1 < (ordF n par own srt)[a].2) : a < b ∧ b < (ordF n par own srt)[a].2 := by
  have hlam := ord_lam n par hp own srt hs
  have hnd : ((ordF n par own srt).map (·.1)).Nodup := (ord_perm n par hp own srt hs h0 ho).nodup_iff.2 List.nodup_range
  obtain ⟨d, h1, h2⟩ := stepsF_blks n _ own srt (kidsF_lt n par hp) hs n 0 0 (by omega) a ha
  change List.take ((ordF n par own srt)[a].2 - (0 + a)) (List.drop a (ordF n par own srt)) = stepsF n (kidsF n par) own srt d (ordF n par own srt)[a].1 (0 + a) at h1
  change n ≤ d + (ordF n par own srt)[a].1 at h2
  obtain ⟨l1, l2, _⟩ := hlam a ha
  generalize ordF n par own srt = S at *
  rw [hk] at h1 h2
  rw [Nat.zero_add] at h1 l1 l2
  have hdl := desc_lt n par hp n k i hd
  have hlen : (stepsF n (kidsF n par) own srt d k a).length = S[a].2 - a := by
    rw [← h1, List.length_take, List.length_drop]; omega
  have hown : own k = true := by
    cases hq : own k with
    | true => rfl
    | false =>
      exfalso
      cases d with
      | zero => rw [stepsF] at hlen; simp at hlen; omega
      | succ d => rw [stepsF] at hlen; simp [hq] at hlen; omega
  have hseq := seqF_perm n _ own srt (kidsF_lt n par hp) hs d k n h2 (by omega)
  rw [if_pos hown] at hseq
  have hin : i ∈ (stepsF n (kidsF n par) own srt d k a).map (·.1) := by
    rw [stepsF_fst]
    exact hseq.mem_iff.2 (by simp [hd])
  rw [← h1] at hin
  obtain ⟨j, hj, hje⟩ := List.getElem_of_mem hin
  simp only [List.getElem_map, List.getElem_take, List.getElem_drop] at hje
  have hj2 : j < S[a].2 - a := by
    simp only [List.length_map, List.length_take, List.length_drop] at hj; omega
  have hpos : a + j = b := by
    have e1 : (S.map (·.1))[a + j]'(by simp; omega) = (S.map (·.1))[b]'(by simpa using hb) := by
      simp only [List.getElem_map]; rw [hje, hi]
    exact (List.getElem_inj hnd).1 e1
  have hj0 : j ≠ 0 := by
    rintro rfl
    have : k = i := by
      rw [← hk, ← hje]; rfl
    omega
  omega
end
end Go.Proofs.YtbpkffoooieejaaDoor
