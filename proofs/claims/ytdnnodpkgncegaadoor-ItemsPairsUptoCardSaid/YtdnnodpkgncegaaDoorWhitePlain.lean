/- Plain facts on blanks that are collapsed. No program in sight. -/
import Derived.Lib.IndexBytes
import Derived.Test.YtdnnodpkgncegaaDoorPlain
namespace Go.Proofs.YtdnnodpkgncegaaDoor
/-- Is a byte a blank? -/
def isBl (x : Int) : Bool := decide (0 ≤ Lib.indexByte [32, 9, 10, 12, 13] x.toNat.toUInt8)
def keepsM (mode : Int) : Bool := mode == 1 || mode == 3
def wstep (p : List UInt8 × Bool) (c : UInt8) : List UInt8 × Bool := if isBl c.toNat then (if p.2 then p else (p.1 ++ [32], true)) else (p.1 ++ [c], false)
def wfold (b : Bool) (l : List UInt8) : List UInt8 × Bool := l.foldl wstep ([], b)
/-- What is collapsed. -/
def colS (mode : Int) (l : List UInt8) (b : Bool) : List UInt8 := if keepsM mode then l else (wfold b l).1
def colB (mode : Int) (l : List UInt8) (b : Bool) : Bool := if keepsM mode then false else (wfold b l).2
theorem wstep_len (p : List UInt8 × Bool) (c : UInt8) : (wstep p c).1.length ≤ p.1.length + 1 := by
  unfold wstep
  by_cases h : isBl c.toNat = true
  · rw [if_pos h]
    by_cases h2 : p.2 = true
    · rw [if_pos h2]; omega
    · rw [if_neg h2]; simp
  · rw [if_neg h]; simp
theorem foldl_wstep_len (l : List UInt8) : ∀ p : List UInt8 × Bool, (l.foldl wstep p).1.length ≤ p.1.length + l.length := by
  induction l with
  | nil => intro p; simp
  | cons c l ih => intro p; have h1 := ih (wstep p c); have h2 := wstep_len p c; simp only [List.foldl_cons, List.length_cons]; omega
theorem wfold_len (b : Bool) (l : List UInt8) : (wfold b l).1.length ≤ l.length := by
  have := foldl_wstep_len l ([], b); simpa [wfold] using this
theorem wfold_take (b : Bool) (l : List UInt8) (k : Nat) (h : k < l.length) : wfold b (l.take (k + 1)) = wstep (wfold b (l.take k)) l[k] := by
  unfold wfold; rw [List.take_succ_eq_append_getElem h, List.foldl_append]; rfl
theorem wstep_split (p : List UInt8 × Bool) (c : UInt8) : wstep p c = (p.1 ++ (wstep ([], p.2) c).1, (wstep ([], p.2) c).2) := by
  unfold wstep
  by_cases h : isBl c.toNat = true
  · simp only [if_pos h]
    by_cases h2 : p.2 = true
    · simp only [if_pos h2, List.append_nil]
    · simp only [if_neg h2, List.nil_append]
  · simp only [if_neg h, List.nil_append]
theorem foldl_wstep (l : List UInt8) : ∀ p : List UInt8 × Bool, l.foldl wstep p = (p.1 ++ (wfold p.2 l).1, (wfold p.2 l).2) := by
  induction l with
  | nil => intro p; simp [wfold]
  | cons c l ih =>
    intro p
    unfold wfold
    simp only [List.foldl_cons]
    rw [ih (wstep p c), ih (wstep ([], p.2) c)]
    have e := wstep_split p c
    rw [e]
    simp [List.append_assoc]
theorem wfold_append (b : Bool) (l m : List UInt8) : wfold b (l ++ m) = ((wfold b l).1 ++ (wfold (wfold b l).2 m).1, (wfold (wfold b l).2 m).2) := by
  unfold wfold
  rw [List.foldl_append, foldl_wstep m]
  rfl
theorem colS_append (mode : Int) (l m : List UInt8) (b : Bool) : colS mode (l ++ m) b = colS mode l b ++ colS mode m (colB mode l b) := by
  unfold colS colB
  by_cases h : keepsM mode = true
  · simp only [if_pos h]
  · simp only [if_neg h, wfold_append]
theorem colB_append (mode : Int) (l m : List UInt8) (b : Bool) : colB mode (l ++ m) b = colB mode m (colB mode l b) := by
  unfold colB
  by_cases h : keepsM mode = true
  · simp only [if_pos h]
  · simp only [if_neg h, wfold_append]
theorem colS_len (mode : Int) (l : List UInt8) (b : Bool) : (colS mode l b).length ≤ l.length := by
  unfold colS
  split
  · exact Nat.le_refl _
  · exact wfold_len b l
end Go.Proofs.YtdnnodpkgncegaaDoor
