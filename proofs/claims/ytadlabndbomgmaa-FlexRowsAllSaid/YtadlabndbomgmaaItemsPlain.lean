/- The cells of flexible items. No program in sight. -/
import Derived.Test.YtadlabndbomgmaaMainsPlain
import Derived.Test.YtadlabndbomgmaaKitT
import Derived.Test.YtadlabndbomgmaaFlat
namespace Go.Proofs.Ytadlabndbomgmaa
/-- An item's cells as it comes in. -/
def fxC (x : Fx) : List Value := [.int .i64 x.b, .int .i64 x.le, .int .i64 x.mo, .int .i64 x.g, .int .i64 x.s, .int .i64 x.e]
def fxCells (xs : List Fx) : List Value := (List.range xs.length).flatMap fun i => fxC (fxAt xs i)
theorem fxCells_at (xs : List Fx) (k j : Nat) (hk : k < xs.length) (hj : j < 6) : (fxCells xs)[k * 6 + j]? = (fxC (fxAt xs k))[j]? := flat_get _ 6 _ (fun _ _ => rfl) k j hk hj
theorem fxCells_snoc (xs : List Fx) (x : Fx) : fxCells (xs ++ [x]) = fxCells xs ++ fxC x := by
  unfold fxCells
  rw [List.length_append, List.length_singleton, List.range_succ, List.flatMap_append]
  congr 1
  · exact flat_congr fun i hi => by simp [fxAt, List.getD, List.getElem?_append_left hi]
  · simp [fxAt]
/-- An item's cells as it is settled. -/
def itC (x : Fx) (set : Bool) (is : Int) : List Value := [.int .i64 x.b, .int .i64 x.le, .int .i64 x.mo, .int .i64 x.g, .int .i64 x.s, .int .i64 x.e, .int .i64 x.lng, .bool set, .int .i64 is]
def it0 : List Value := [.int .i64 0, .int .i64 0, .int .i64 0, .int .i64 0, .int .i64 0, .int .i64 0, .int .i64 0, .bool false, .int .i64 0]
/-- The first k items are laid. -/
def itTo (xs : List Fx) (k : Nat) : List Value := (List.range xs.length).flatMap fun i => if i < k then itC (fxAt xs i) false 0 else it0
def itV (xs : List Fx) (st : Its) : List Value := (List.range xs.length).flatMap fun i => itC (fxAt xs i) (st.set i) (st.is i)
def its0 : Its := ⟨fun _ => false, fun _ => 0⟩
theorem itTo_len (xs : List Fx) (k : Nat) : (itTo xs k).length = xs.length * 9 := flat_len _ 9 _ fun i _ => by split <;> rfl
theorem itV_len (xs : List Fx) (st : Its) : (itV xs st).length = xs.length * 9 := flat_len _ 9 _ fun _ _ => rfl
theorem itTo_all (xs : List Fx) : itTo xs xs.length = itV xs its0 := flat_congr fun i hi => by rw [if_pos hi]; rfl
theorem itTo_next (xs : List Fx) (k : Nat) (hk : k < xs.length) : (itTo xs k).take (k * 9) ++ itC (fxAt xs k) false 0 ++ (itTo xs k).drop (k * 9 + (itC (fxAt xs k) false 0).length) = itTo xs (k + 1) := by
  have := flat_set (fun i => if i < k then itC (fxAt xs i) false 0 else it0) (fun i => if i < k + 1 then itC (fxAt xs i) false 0 else it0) 9 xs.length (fun i _ => by split <;> rfl) (fun i _ => by split <;> rfl) k hk (fun i _ hne => by
    by_cases h : i < k
    · rw [if_pos h, if_pos (by omega)]
    · rw [if_neg h, if_neg (by omega)])
  rw [if_pos (Nat.lt_succ_self k)] at this
  exact this
theorem itV_at (xs : List Fx) (st : Its) (k j : Nat) (hk : k < xs.length) (hj : j < 9) : (itV xs st)[k * 9 + j]? = (itC (fxAt xs k) (st.set k) (st.is k))[j]? := flat_get _ 9 _ (fun _ _ => rfl) k j hk hj
def stSet (st : Its) (k : Nat) (b : Bool) (v : Int) : Its := ⟨fun i => if i = k then b else st.set i, fun i => if i = k then v else st.is i⟩
theorem set_at (l : List Value) (i : Nat) (v : Value) : l.set i v = l.take i ++ (if i < l.length then [v] else []) ++ l.drop (i + 1) := by
  by_cases h : i < l.length
  · rw [if_pos h, List.set_eq_take_append_cons_drop, if_pos h]; simp
  · rw [if_neg h, List.set_eq_of_length_le (by omega), List.take_of_length_le (by omega), List.drop_of_length_le (by omega)]; simp
/-- One cell of one item is stored into. -/
theorem itV_setCell (xs : List Fx) (st st' : Its) (k j : Nat) (v : Value) (hk : k < xs.length) (hj : j < 9) (h1 : (itC (fxAt xs k) (st.set k) (st.is k)).set j v = itC (fxAt xs k) (st'.set k) (st'.is k)) (h2 : ∀ i, i ≠ k → st.set i = st'.set i ∧ st.is i = st'.is i) :
    (itV xs st).set (k * 9 + j) v = itV xs st' := by
  apply List.ext_getElem?
  intro q
  rw [List.getElem?_set]
  by_cases hq : q < xs.length * 9
  · have hi : q / 9 < xs.length := by omega
    have hjq : q % 9 < 9 := by omega
    have e : q = q / 9 * 9 + q % 9 := by omega
    have g1 := itV_at xs st (q / 9) (q % 9) hi hjq
    have g2 := itV_at xs st' (q / 9) (q % 9) hi hjq
    rw [← e] at g1 g2
    rw [g1, g2]
    by_cases hqk : q / 9 = k
    · rw [hqk, ← h1, List.getElem?_set]
      by_cases hqj : j = q % 9
      · rw [if_pos (by omega), if_pos hqj, itV_len]
        rw [if_pos (by omega), if_pos (by rw [hqj]; exact hjq)]
      · rw [if_neg (by omega), if_neg hqj]
    · rw [if_neg (by omega), (h2 _ hqk).1, (h2 _ hqk).2]
  · rw [List.getElem?_eq_none (show (itV xs st).length ≤ q by rw [itV_len]; omega), List.getElem?_eq_none (show (itV xs st').length ≤ q by rw [itV_len]; omega), itV_len]
    by_cases e : k * 9 + j = q
    · rw [if_pos e, if_neg (by omega)]
    · rw [if_neg e]
end Go.Proofs.Ytadlabndbomgmaa
