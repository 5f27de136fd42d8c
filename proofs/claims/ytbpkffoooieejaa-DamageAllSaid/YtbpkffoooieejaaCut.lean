/- The walk of damage.cut: rectangles of cut numbers. -/
import Derived.BigQuiet
import Derived.Handy
import Derived.IntWalk
import Derived.Deep.QuietTactic
import Derived.Deep.MidRow
import Derived.Deep.RegionHeld3
import Derived.Test.YtbpkffoooieejaaRaster
import Derived.Test.YtbpkffoooieejaaOpen
namespace Go.Proofs.Ytbpkffoooieejaa
open Go.ChangeShapes Go.WideShapes Go.ChangeAt Go.RowKit
def rcCells (l : List Rc) : List Value := l.flatMap fun r => (rcA r).toList
def rcAt (l : List Rc) (k : Nat) : Rc := l.getD k rc0
theorem rcAt_of (l : List Rc) (k : Nat) (h : k < l.length) : rcAt l k = l[k] := by simp [rcAt, List.getD, List.getElem?_eq_getElem h]
theorem rcCells_snoc (l : List Rc) (r : Rc) : rcCells (l ++ [r]) = rcCells l ++ (rcA r).toList := by simp [rcCells]
theorem rcCells_at : ∀ (l : List Rc) (k j : Nat), k < l.length → j < 4 → (rcCells l)[k * 4 + j]? = (rcA (rcAt l k))[j]?
  | [], _, _, h, _ => absurd h (Nat.not_lt_zero _)
  | d :: l, 0, j, _, hj => by
    show ((rcA d).toList ++ rcCells l)[0 * 4 + j]? = _
    rw [Nat.zero_mul, Nat.zero_add, List.getElem?_append_left (by simpa [rcA] using hj), Array.getElem?_toList]; rfl
  | d :: l, k + 1, j, h, hj => by
    show ((rcA d).toList ++ rcCells l)[(k + 1) * 4 + j]? = _
    rw [List.getElem?_append_right (by simp [rcA]; omega), show (k + 1) * 4 + j - ((rcA d).toList).length = k * 4 + j by simp [rcA]; omega, rcCells_at l k j (by simpa using h) hj]; rfl
theorem rect_info : (Try.prog.info? 36).map (fun i => (i.zero, i.size, i.bytes)) = some (some (.agg #[.int .i64 0, .int .i64 0, .int .i64 0, .int .i64 0]), 4, 32) := by kernel_rfl
def cutOf (R : Nat → Int) : Rc := ⟨cut (R 0), cut (R 1), cut (R 2), cut (R 3)⟩
def cutTo (R : Nat → Nat → Int) (n : Nat) : List Rc := (List.range n).map fun i => cutOf (R i)
theorem cutTo_len (R : Nat → Nat → Int) (n : Nat) : (cutTo R n).length = n := by simp [cutTo]
theorem cutTo_snoc (R : Nat → Nat → Int) (n : Nat) : cutTo R (n + 1) = cutTo R n ++ [cutOf (R n)] := by unfold cutTo; rw [List.range_succ, List.map_append]; rfl
/-- What stands while a rectangle is cut. -/
def CutP (w : World) (bx k : Nat) (v : Value) (x y a b : Int) (xs : List Value) (W : World) : Prop :=
  Blk W bx 36 #[.int .i64 x, .int .i64 y, .int .i64 a, .int .i64 b] ∧ W.ownsRow w.heap.size 36 4 v k xs ∧ Below w.heap.size w W
section
variable {w W W' : World} {bx k : Nat} {v : Value} {x y a b : Int} {xs : List Value}
theorem CutP.ps (h : CutP w bx k v x y a b xs W) : W.cell? ⟨bx, 0, none⟩ = some (.int .i64 x) ∧ W.cell? ⟨bx, 1, none⟩ = some (.int .i64 y) ∧ W.cell? ⟨bx, 2, none⟩ = some (.int .i64 a) ∧ W.cell? ⟨bx, 3, none⟩ = some (.int .i64 b) :=
  ⟨h.1.cell 0, h.1.cell 1, h.1.cell 2, h.1.cell 3⟩
theorem CutP.alloc (h : CutP w bx k v x y a b xs W) (o : Obj) : CutP w bx k v x y a b xs (W.alloc o) := ⟨h.1.alloc o, h.2.1.alloc o, h.2.2.alloc h.2.2.size o⟩
theorem CutP.grown {row : Option Nat} (h : CutP w bx k v x y a b xs W) (hg : W.grownBy W' row) (hr : some bx ≠ row) : W'.cell? ⟨bx, 0, none⟩ = some (.int .i64 x) ∧ W'.cell? ⟨bx, 1, none⟩ = some (.int .i64 y) ∧ W'.cell? ⟨bx, 2, none⟩ = some (.int .i64 a) ∧ W'.cell? ⟨bx, 3, none⟩ = some (.int .i64 b) :=
  have q := h.1.grown hg hr
  ⟨q.cell 0, q.cell 1, q.cell 2, q.cell 3⟩
end
set_option maxRecDepth 100000 in
set_option maxHeartbeats 4000000 in
theorem cutR_any (A : Option Addr) (n c : Nat) (R : Nat → Nat → Int) (w : World) (hr : Recs w w.heap.size 4 A n R) (hn : n ≤ 1000) :
    Calls Try.prog 31 #[.slice A n c] w fun e w' => ∃ v, e = .returned v ∧ w'.ownsRow w.heap.size 36 4 v n (rcCells (cutTo R n)) ∧ Below w.heap.size w w' := by
  have Hr := hide hr
  clear hr
  obtain ⟨i0, hi0, hz0, hz1, hz2⟩ := info_parts rect_info
  have HI := hide (⟨hi0, hz0, hz1, hz2⟩ : Try.prog.info? 36 = some i0 ∧ i0.zero = some (.agg #[.int .i64 0, .int .i64 0, .int .i64 0, .int .i64 0]) ∧ i0.size = 4 ∧ i0.bytes = 32)
  clear hi0 hz0 hz1 hz2
  go_enter Try.func31, Try.ntmps31
  go_wp2_with fail
  go_loopw [3, 8] (fun v i wr => ∃ k : Nat, k ≤ n ∧ i = .int .i64 k ∧ wr.ownsRow w.heap.size 36 4 v k (rcCells (cutTo R k)) ∧ Below w.heap.size w wr) (fun _ i _ => n - (intOf i).toNat)
  case atStart => exact ⟨0, Nat.zero_le _, rfl, own_none _ _ _ _, Below.refl _ _⟩
  case round =>
    obtain ⟨k, hk, rfl, hown, hbel⟩ := hrel
    have hszr := hbel.size
    by_cases hlt : k < n
    · obtain ⟨g, off, rfl, hgl, hcell⟩ := Hr.out k (by omega)
      have d0 := (hbel.cell (p := ⟨g, off + k * 4 + 0, none⟩) hgl).trans (hcell 0 (by omega))
      have d1 := (hbel.cell (p := ⟨g, off + k * 4 + 1, none⟩) hgl).trans (hcell 1 (by omega))
      have d2 := (hbel.cell (p := ⟨g, off + k * 4 + 2, none⟩) hgl).trans (hcell 2 (by omega))
      have d3 := (hbel.cell (p := ⟨g, off + k * 4 + 3, none⟩) hgl).trans (hcell 3 (by omega))
      clear hcell
      rw [Nat.add_zero] at d0
      have MS := hide (show rcCells (cutTo R (k + 1)) = rcCells (cutTo R k) ++ [.int .i64 (cut (R k 0)), .int .i64 (cut (R k 1)), .int .i64 (cut (R k 2)), .int .i64 (cut (R k 3))] from by rw [cutTo_snoc, rcCells_snoc]; rfl)
      generalize R k 0 = x at *
      generalize R k 1 = y at *
      generalize R k 2 = a at *
      generalize R k 3 = b at *
      obtain ⟨v, hv⟩ : ∃ v, v = u3 := ⟨_, rfl⟩
      rw [← hv] at hown ⊢
      clear hv
      have HNE := hide (show some wr.heap.size ≠ v.ownBlock from fun h => by have := own_lt hown _ h.symm; omega)
      have HP : CutP w wr.heap.size k v x y a b (rcCells (cutTo R k)) (wr.alloc (.cells #[.int .i64 x, .int .i64 y, .int .i64 a, .int .i64 b] 36)) := ⟨Blk.new _ _ _, hown.alloc _, hbel.alloc hszr _⟩
      have HQ := hide HP
      clear hown HP
      have HMX := hide (show k + 1 ≤ maxLen by simp only [maxLen]; omega)
      have HMY := hide (show (k + 1) * 32 ≤ 140737488355328 by omega)
      go_wp2_with fail
      clear d0 d1 d2 d3
      generalize wr.alloc (.cells #[.int .i64 x, .int .i64 y, .int .i64 a, .int .i64 b] 36) = wA at *
      generalize wr.heap.size = bx at *
      have HP : CutP w bx k v x y a b (rcCells (cutTo R k)) wA.drew := ⟨HQ.out.1.drew, HQ.out.2.1.drew, HQ.out.2.2.drew⟩
      have ps := HP.ps
      clear HQ
      go_region_held3 (fun W => W.cell? ⟨bx, 0, none⟩ = some (.int .i64 x) ∧ W.cell? ⟨bx, 1, none⟩ = some (.int .i64 y) ∧ W.cell? ⟨bx, 2, none⟩ = some (.int .i64 a) ∧ W.cell? ⟨bx, 3, none⟩ = some (.int .i64 b)) (first | exact ps | exact (HP.alloc _).ps)
        (first
          | (go_at_call 36; refine (cut_any _ _).mono ?_; rintro e w' ⟨rfl, rfl⟩)
          | (refine step_append_any _ rfl (.tmp 12) (.tmp 26) _ rfl w.heap.size 36 i0 _ 4 32 Try.underlying52 HI.out.1 HI.out.2.1 HI.out.2.2.1 HI.out.2.2.2 rfl (Nat.succ_pos _) _ k _ (by rfl) (HP.alloc _).2.1 (wA.drew.heap.size + 1) _ 1 1 _ (by rfl) (Reads.lit wA.drew _ _ 4 1 rfl) (by exact List.all_eq_true.1 rfl) HMX.out HMY.out (HP.alloc _).2.2.size ?_; intro v8 w8 hown8 hg8 hat8; have ps := (HP.alloc _).grown hg8 HNE.out; have hb8 := own_below (HP.alloc _).2.1 (HP.alloc _).2.2 (Nat.le_refl _) (Nat.le_refl _) hg8))
      all_goals
        clear ps hat8 hg8
        have O8 := hide hown8
        clear hown8
        go_wp2_with fail
        go_roundw
        case rel => exact ⟨k + 1, by omega, by go_num, by rw [MS.out]; exact O8.out, hb8⟩
        case measure => simp [intOf]; omega
    · obtain rfl : k = n := by omega
      obtain ⟨v, hv⟩ : ∃ v, v = u3 := ⟨_, rfl⟩
      rw [← hv] at hown ⊢
      have HW := hide hown
      clear hv hown
      go_wp2_with fail
      go_ret
      exact ⟨v, rfl, HW.out, hbel⟩
end Go.Proofs.Ytbpkffoooieejaa
