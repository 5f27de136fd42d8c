/- Plain facts: what is collapsed stays as it is; no blanks stand side by side. No program in sight. -/
import Derived.Lib.IndexMore
import Derived.Lib.Strings
import Derived.Test.YtadlabndbomgmaaWhitePlain
namespace Go.Proofs.Ytadlabndbomgmaa
theorem isBl_32 : isBl ((32 : UInt8).toNat) = true := by decide +kernel
/-- No two blanks side by side, none first where b says so, and each a space. -/
def Tidy : Bool → List UInt8 → Prop
  | _, [] => True
  | b, c :: r => if isBl c.toNat then c = 32 ∧ b = false ∧ Tidy true r else Tidy false r
theorem wfold_cons (b : Bool) (c : UInt8) (l : List UInt8) : wfold b (c :: l) = ((wstep ([], b) c).1 ++ (wfold (wstep ([], b) c).2 l).1, (wfold (wstep ([], b) c).2 l).2) := by
  show List.foldl wstep ([], b) (c :: l) = _
  rw [List.foldl_cons, foldl_wstep]
theorem wfold_skip {c : UInt8} (h : isBl c.toNat = true) (l : List UInt8) : wfold true (c :: l) = wfold true l := by
  rw [wfold_cons]; unfold wstep; simp only [h, if_true]; rfl
theorem wfold_blank {c : UInt8} (h : isBl c.toNat = true) (l : List UInt8) : wfold false (c :: l) = (32 :: (wfold true l).1, (wfold true l).2) := by
  rw [wfold_cons]; unfold wstep; simp only [h, if_true, Bool.false_eq_true, if_false]; rfl
theorem wfold_sign {c : UInt8} (h : isBl c.toNat = false) (b : Bool) (l : List UInt8) : wfold b (c :: l) = (c :: (wfold false l).1, (wfold false l).2) := by
  rw [wfold_cons]; unfold wstep; simp only [h, Bool.false_eq_true, if_false]; rfl
theorem wfold_tidy (l : List UInt8) : ∀ b, Tidy b (wfold b l).1 ∧ wfold b (wfold b l).1 = wfold b l := by
  induction l with
  | nil => intro b; exact ⟨trivial, rfl⟩
  | cons c l ih =>
    intro b
    cases h : isBl c.toNat
    · rw [wfold_sign h]
      refine ⟨?_, ?_⟩
      · show Tidy b (c :: (wfold false l).1)
        unfold Tidy; rw [h]; exact (ih false).1
      · show wfold b (c :: (wfold false l).1) = _
        rw [wfold_sign h, (ih false).2]
    · cases b
      · rw [wfold_blank h]
        refine ⟨?_, ?_⟩
        · show Tidy false (32 :: (wfold true l).1)
          unfold Tidy; rw [isBl_32]; exact ⟨rfl, rfl, (ih true).1⟩
        · show wfold false (32 :: (wfold true l).1) = _
          rw [wfold_blank isBl_32, (ih true).2]
      · rw [wfold_skip h]; exact ih true
theorem Tidy.none : ∀ (l : List UInt8) (b : Bool), Tidy b l → Lib.index l [32, 32] = -1
  | [], _, _ => rfl
  | c :: r, b, h => by
    unfold Tidy at h
    have hr : ∃ b', Tidy b' r := by
      split at h
      · exact ⟨_, h.2.2⟩
      · exact ⟨_, h⟩
    obtain ⟨b', hr'⟩ := hr
    have ih := Tidy.none r b' hr'
    have hp : ([32, 32] : List UInt8).isPrefixOf (c :: r) = false := by
      cases hc : isBl c.toNat
      · have : ((32 : UInt8) == c) = false := by
          rw [beq_eq_false_iff_ne]; rintro rfl; rw [isBl_32] at hc; cases hc
        simp [List.isPrefixOf, this]
      · rw [hc] at h
        obtain ⟨_, _, h2⟩ := h
        cases r with
        | nil => simp [List.isPrefixOf]
        | cons d r =>
          unfold Tidy at h2
          have : ((32 : UInt8) == d) = false := by
            rw [beq_eq_false_iff_ne]; rintro rfl; rw [isBl_32] at h2; exact absurd h2.2.1 (by decide)
          simp [List.isPrefixOf, this]
    show (if ([32, 32] : List UInt8).isPrefixOf (c :: r) then (0 : Int) else if Lib.index r [32, 32] == -1 then -1 else Lib.index r [32, 32] + 1) = -1
    rw [hp, ih]; rfl
theorem Tidy.first {l : List UInt8} (h : Tidy true l) : Lib.hasPrefix l [32] = false := by
  cases l with
  | nil => rfl
  | cons c r =>
    unfold Tidy at h
    have : ((32 : UInt8) == c) = false := by
      rw [beq_eq_false_iff_ne]; rintro rfl; rw [isBl_32] at h; exact absurd h.2.1 (by decide)
    simp [Lib.hasPrefix, List.isPrefixOf, this]
theorem col_twice (m : Int) (l : List UInt8) (b : Bool) : colS m (colS m l b) b = colS m l b ∧ colB m (colS m l b) b = colB m l b := by
  unfold colS colB
  by_cases h : keepsM m = true
  · simp only [if_pos h]; exact ⟨trivial, trivial⟩
  · simp only [if_neg h]
    rw [(wfold_tidy l b).2]; exact ⟨rfl, rfl⟩
theorem col_none {m : Int} (h : keepsM m = false) (l : List UInt8) (b : Bool) : Lib.contains (colS m l b) [32, 32] = false ∧ (b = true → Lib.hasPrefix (colS m l b) [32] = false) := by
  have e : colS m l b = (wfold b l).1 := by unfold colS; rw [h]; rfl
  rw [e]
  have ht := (wfold_tidy l b).1
  refine ⟨?_, fun hb => ?_⟩
  · unfold Lib.contains; rw [Tidy.none _ _ ht]; decide
  · subst hb; exact ht.first
end Go.Proofs.Ytadlabndbomgmaa
