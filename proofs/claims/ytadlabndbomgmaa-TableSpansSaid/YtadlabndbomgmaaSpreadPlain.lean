/- Plain facts on what is free, spread about some items. No program in sight. -/
import Derived.Test.YtadlabndbomgmaaSums
namespace Go.Proofs.Ytadlabndbomgmaa
/-- A number is added at place j. -/
def addAt (l : List Int) (j : Nat) (x : Int) : List Int := l.set j (at0 l j + x)
theorem addAt_length (l : List Int) (j : Nat) (x : Int) : (addAt l j x).length = l.length := by simp [addAt]
theorem sum_set (l : List Int) : ∀ (j : Nat) (x : Int), j < l.length → (l.set j x).sum = l.sum - at0 l j + x := by
  induction l with
  | nil => intro j x h; simp at h
  | cons a l ih =>
    intro j x h
    cases j with
    | zero => simp [at0]; omega
    | succ j =>
      have := ih j x (by simpa using h)
      simp only [List.set_cons_succ, List.sum_cons, this]
      have e : at0 (a :: l) (j + 1) = at0 l j := by simp [at0]
      rw [e]; omega
theorem addAt_sum (l : List Int) (j : Nat) (x : Int) (h : j < l.length) : (addAt l j x).sum = l.sum + x := by
  unfold addAt; rw [sum_set l j _ h]; omega
theorem at0_nonneg {l : List Int} (h : ∀ x ∈ l, 0 ≤ x) (k : Nat) : 0 ≤ at0 l k := by
  by_cases hk : k < l.length
  · rw [at0_of l k hk]; exact h _ (List.getElem_mem hk)
  · simp [at0, List.getElem?_eq_none (show l.length ≤ k by omega)]
theorem addAt_nonneg {l : List Int} (h : ∀ x ∈ l, 0 ≤ x) (j : Nat) {x : Int} (hx : 0 ≤ x) : ∀ y ∈ addAt l j x, 0 ≤ y := by
  intro y hy
  rcases List.mem_or_eq_of_mem_set hy with hy | rfl
  · exact h y hy
  · have := at0_nonneg h j; omega
def onesF (free : Int) (n : Nat) : List Int := shared free (List.replicate n 1)
theorem onesF_length (free : Int) (n : Nat) : (onesF free n).length = n := by simp [onesF, shared_length]
theorem onesF_nonneg {free : Int} (h : 0 ≤ free) (n : Nat) : ∀ x ∈ onesF free n, 0 ≤ x := by
  intro x hx
  obtain ⟨k, hk, rfl⟩ := List.getElem_of_mem hx
  rw [← at0_of _ k hk]
  exact shared_nonneg _ h k
theorem onesF_sum (free : Int) (n : Nat) (h1 : 1 ≤ n) (h2 : n ≤ 1000) : (onesF free n).sum = cut free := by
  unfold onesF
  refine shared_sum_some free _ (by simpa using h2) ?_
  have : ∀ m, 1 ≤ m → m ≤ n → somePos (List.replicate n 1) m = true := by
    intro m hm hm2
    obtain ⟨m, rfl⟩ : ∃ j, m = j + 1 := ⟨m - 1, by omega⟩
    simp only [somePos, Bool.or_eq_true, decide_eq_true_eq]
    right
    rw [at0_of _ m (by simp; omega)]
    simp
  simpa using this n h1 (Nat.le_refl _)
/-- Half a share on either side of each item: behind k shares. -/
def aroundTo (n : Nat) (xs : List Int) : Nat → List Int
  | 0 => List.replicate n 0
  | k + 1 => addAt (aroundTo n xs k) ((k + 1) / 2) (at0 xs k)
theorem aroundTo_length (n : Nat) (xs : List Int) (k : Nat) : (aroundTo n xs k).length = n := by
  induction k with
  | zero => simp [aroundTo]
  | succ k ih => simp [aroundTo, addAt_length, ih]
theorem aroundTo_sum (n : Nat) (xs : List Int) (hl : xs.length = 2 * n) (k : Nat) (hk : k ≤ 2 * n - 1) : (aroundTo n xs k).sum = psum xs k := by
  induction k with
  | zero =>
    have : ∀ m : Nat, (List.replicate m (0 : Int)).sum = 0 := fun m => by induction m <;> simp_all [List.replicate_succ]
    simp [aroundTo, psum_zero, this]
  | succ k ih =>
    simp only [aroundTo]
    rw [addAt_sum _ _ _ (by rw [aroundTo_length]; omega), ih (by omega), psum_succ xs k (by omega)]
theorem aroundTo_nonneg (n : Nat) {xs : List Int} (h : ∀ x ∈ xs, 0 ≤ x) (k : Nat) : ∀ y ∈ aroundTo n xs k, 0 ≤ y := by
  induction k with
  | zero => intro y hy; simp [aroundTo] at hy; omega
  | succ k ih => exact addAt_nonneg ih _ (at0_nonneg h k)
/-- The mode that counts. -/
def modeF (mode free : Int) : Int := if free ≤ 0 then (if mode = 4 then 0 else if mode = 5 then 2 else mode) else mode
def spreadF (mode free : Int) (n : Nat) : List Int :=
  if n = 0 then [] else if modeF mode free = 1 then free :: List.replicate (n - 1) 0 else if modeF mode free = 2 then partOf free 1 2 :: List.replicate (n - 1) 0
  else if modeF mode free = 4 then 0 :: onesF free (n - 1) else if modeF mode free = 5 then aroundTo n (onesF free (2 * n)) (2 * n - 1) else List.replicate n 0
theorem sum_zeros (m : Nat) : (List.replicate m (0 : Int)).sum = 0 := by induction m <;> simp_all [List.replicate_succ]
theorem spread_law (mode free : Int) (n : Nat) (h0 : 0 ≤ free) (h1 : free ≤ 65535) (hn : n ≤ 50) :
    (spreadF mode free n).length = n ∧ (∀ x ∈ spreadF mode free n, 0 ≤ x) ∧ (spreadF mode free n).sum ≤ free ∧ (mode = 4 → 2 ≤ n → (spreadF mode free n).sum = free) := by
  have hc : cut free = free := cut_of (by omega) (by omega)
  have hp : partOf free 1 2 = free / 2 := by
    unfold partOf
    rw [hc, show cut 1 = 1 from rfl, show cut 2 = 2 from rfl, Int.mul_one, cut_of (by omega) (by omega)]
  unfold spreadF
  by_cases z : n = 0
  · simp only [if_pos z]
    exact ⟨by simp [z], by simp, by simpa using h0, fun _ h => by omega⟩
  simp only [if_neg z]
  by_cases e1 : modeF mode free = 1
  · simp only [if_pos e1]
    refine ⟨by simp; omega, ?_, by simp, fun h _ => ?_⟩
    · intro x hx; simp at hx; omega
    · simp only [modeF, h] at e1; split at e1 <;> simp at e1
  simp only [if_neg e1]
  by_cases e2 : modeF mode free = 2
  · simp only [if_pos e2]
    refine ⟨by simp; omega, ?_, by simp [hp]; omega, fun h _ => ?_⟩
    · intro x hx; simp [hp] at hx; omega
    · simp only [modeF, h] at e2; split at e2 <;> simp at e2
  simp only [if_neg e2]
  by_cases e4 : modeF mode free = 4
  · simp only [if_pos e4]
    refine ⟨by simp [onesF_length]; omega, ?_, ?_, fun _ h2 => ?_⟩
    · intro x hx
      rcases List.mem_cons.1 hx with rfl | hx
      · omega
      · exact onesF_nonneg h0 _ x hx
    · rw [List.sum_cons]
      by_cases h2 : 2 ≤ n
      · rw [onesF_sum _ _ (by omega) (by omega), hc]; omega
      · have : n - 1 = 0 := by omega
        rw [this]
        have : onesF free 0 = [] := List.eq_nil_of_length_eq_zero (onesF_length _ _)
        rw [this]; simpa using h0
    · rw [List.sum_cons, onesF_sum _ _ (by omega) (by omega), hc]; omega
  simp only [if_neg e4]
  have hno : mode = 4 → free = 0 := fun h => by
    unfold modeF at e4
    by_cases hf : free ≤ 0
    · omega
    · rw [if_neg hf] at e4; exact absurd h e4
  by_cases e5 : modeF mode free = 5
  · simp only [if_pos e5]
    have hs : (aroundTo n (onesF free (2 * n)) (2 * n - 1)).sum = psum (onesF free (2 * n)) (2 * n - 1) := aroundTo_sum _ _ (onesF_length _ _) _ (Nat.le_refl _)
    have ha : psum (onesF free (2 * n)) (2 * n) = free := by
      have := psum_all (onesF free (2 * n))
      rw [onesF_length] at this
      rw [this, onesF_sum _ _ (by omega) (by omega), hc]
    have hl := psum_succ (onesF free (2 * n)) (2 * n - 1) (by rw [onesF_length]; omega)
    rw [show 2 * n - 1 + 1 = 2 * n by omega, ha] at hl
    have hpos := at0_nonneg (onesF_nonneg h0 (2 * n)) (2 * n - 1)
    refine ⟨aroundTo_length _ _ _, aroundTo_nonneg _ (onesF_nonneg h0 _) _, by rw [hs]; omega, fun h _ => ?_⟩
    have := hno h
    simp only [modeF, h, this] at e5
    simp at e5
  simp only [if_neg e5]
  refine ⟨by simp, ?_, by rw [sum_zeros]; exact h0, fun h _ => by rw [sum_zeros, hno h]⟩
  intro x hx; simp at hx; omega
theorem at0_le_sum : ∀ (l : List Int), (∀ x ∈ l, 0 ≤ x) → ∀ j, at0 l j ≤ l.sum
  | [], _, j => by simp [at0]
  | a :: l, h, j => by
    have h0 := h a (by simp)
    have hs : 0 ≤ l.sum := by
      have := at0_le_sum l (fun x hx => h x (by simp [hx])) l.length
      simp [at0] at this
      exact this
    cases j with
    | zero => simp [at0]; omega
    | succ j =>
      have := at0_le_sum l (fun x hx => h x (by simp [hx])) j
      have e : at0 (a :: l) (j + 1) = at0 l j := by simp [at0]
      rw [e, List.sum_cons]; omega
theorem around_bd {free : Int} (h : 0 ≤ free) (n k j : Nat) (hk : k ≤ 2 * n - 1) : 0 ≤ at0 (aroundTo n (onesF free (2 * n)) k) j ∧ at0 (aroundTo n (onesF free (2 * n)) k) j ≤ 281474976710656000 := by
  have h1 := aroundTo_nonneg n (onesF_nonneg h (2 * n)) k
  have h2 := at0_le_sum _ h1 j
  rw [aroundTo_sum n _ (onesF_length _ _) k hk] at h2
  have h3 := psum_shared_bound free (List.replicate (2 * n) 1) k (by simp; omega)
  have h4 : psum (onesF free (2 * n)) k = psum (shared free (List.replicate (2 * n) 1)) k := rfl
  exact ⟨at0_nonneg h1 j, by omega⟩
theorem ones_bd {free : Int} (h : 0 ≤ free) (n k : Nat) (hn : n ≤ 1000) : 0 ≤ at0 (onesF free n) k ∧ at0 (onesF free n) k ≤ 16777216 := by
  have h1 := onesF_nonneg h n
  have h2 := at0_le_sum _ h1 k
  refine ⟨at0_nonneg h1 k, ?_⟩
  by_cases h0 : n = 0
  · subst h0
    have : onesF free 0 = [] := List.eq_nil_of_length_eq_zero (onesF_length _ _)
    rw [this]; simp [at0]
  · rw [onesF_sum free n (by omega) hn] at h2
    have := cut_hi free; omega
theorem sp_rest {mode free : Int} (n : Nat) (h1 : modeF mode free ≠ 1) (h2 : modeF mode free ≠ 2) (h4 : modeF mode free ≠ 4) (h5 : modeF mode free ≠ 5) : spreadF mode free n = List.replicate n 0 := by
  unfold spreadF
  rw [if_neg h1, if_neg h2, if_neg h4, if_neg h5]
  split
  · rename_i h; rw [h]; rfl
  · rfl
theorem rep_set (n : Nat) (x : Int) (h : n ≠ 0) : (List.replicate n (0 : Int)).set 0 x = x :: List.replicate (n - 1) 0 := by
  obtain ⟨m, rfl⟩ : ∃ m, n = m + 1 := ⟨n - 1, by omega⟩
  simp [List.replicate_succ]
theorem sp_end {mode free : Int} {n : Nat} (h0 : n ≠ 0) (h1 : modeF mode free = 1) : spreadF mode free n = (List.replicate n 0).set 0 free := by
  unfold spreadF
  rw [if_neg h0, if_pos h1, rep_set n _ h0]
theorem sp_mid {mode free : Int} {n : Nat} (h0 : n ≠ 0) (h2 : modeF mode free = 2) : spreadF mode free n = (List.replicate n 0).set 0 (partOf free 1 2) := by
  unfold spreadF
  rw [if_neg h0, h2, if_neg (by omega), if_pos rfl, rep_set n _ h0]
theorem sp_betw {mode free : Int} {n : Nat} (h0 : n ≠ 0) (h4 : modeF mode free = 4) : spreadF mode free n = 0 :: onesF free (n - 1) := by
  unfold spreadF
  rw [if_neg h0, h4, if_neg (by omega), if_neg (by omega), if_pos rfl]
theorem sp_around {mode free : Int} {n : Nat} (h0 : n ≠ 0) (h5 : modeF mode free = 5) : spreadF mode free n = aroundTo n (onesF free (2 * n)) (2 * n - 1) := by
  unfold spreadF
  rw [if_neg h0, h5, if_neg (by omega), if_neg (by omega), if_neg (by omega), if_pos rfl]
theorem sp_zero (mode free : Int) : spreadF mode free 0 = [] := by unfold spreadF; rw [if_pos rfl]
theorem modeF_pos {mode free : Int} (h : 0 < free) : modeF mode free = mode := by unfold modeF; rw [if_neg (by omega)]
theorem modeF_4 {mode free : Int} (h : free ≤ 0) (h4 : (mode == 4) = true) : modeF mode free = 0 := by unfold modeF; rw [if_pos h, if_pos (by simpa using h4)]
theorem modeF_5 {mode free : Int} (h : free ≤ 0) (h5 : (mode == 5) = true) : modeF mode free = 2 := by
  have : mode = 5 := by simpa using h5
  unfold modeF; rw [if_pos h, if_neg (by omega), if_pos this]
theorem modeF_else {mode free : Int} (h : free ≤ 0) (h4 : (mode == 4) = false) (h5 : (mode == 5) = false) : modeF mode free = mode := by
  unfold modeF; rw [if_pos h, if_neg (by simpa using h4), if_neg (by simpa using h5)]
end Go.Proofs.Ytadlabndbomgmaa
