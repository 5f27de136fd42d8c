/- The closed fact that is held against every answer on tables. -/
import Derived.BigQuiet
import Derived.Handy
import Derived.IntWalk
import Derived.Test.YtadlabndbomgmaaColumnsLit
namespace Go.Proofs.Ytadlabndbomgmaa
open Go.ChangeShapes Go.WideShapes Go.ChangeAt Go.RowKit
theorem Eq_one (A A2 : Option Addr) (n c c2 B B2 : Nat) (xs : List Int) (w : World) (hr : Reads w B 1 A n (xs.map (Value.int .i64))) (hr2 : Reads w B2 1 A2 n (xs.map (Value.int .i64))) (hn : n ≤ 1000000) :
    Calls Try.prog 96 #[.slice A n c, .slice A2 n c2] w fun e w' => e = .returned (.bool true) ∧ w = w' :=
  (Eq_any A A2 n n c c2 B B2 xs xs w hr hr2 hn hn).mono fun e w' ⟨he, hw⟩ => ⟨by rw [he, decide_eq_true rfl], hw⟩
theorem reads_two {w : World} {g : Nat} {t : TypeId} {xs : List Int} (h : Blk w g t (intsA xs)) (hn : xs.length = 2) : Reads w w.heap.size 1 (some ⟨g, 0, none⟩) 2 (xs.map (Value.int .i64)) := by
  have := own_of_blk (base := 0) (size := 1) (n := 2) h (Nat.zero_le _) (by simp only [maxLen]; omega) (by rw [intsA_size, hn])
  rw [intsA_list] at this
  exact Reads.of_own this
theorem tabled_any (w : World) : Calls Try.prog 61 #[] w fun e w' => e = .returned (.bool true) ∧ Below w.heap.size w w' := by
  have h1 := (Blk.new w 92 #[.int .i64 5, .int .i64 9, .int .i64 1, .int .i64 2, .int .i64 3, .int .i64 1]).alloc (.cells #[.slice (some ⟨w.heap.size, 0, none⟩) 2 2] 90)
  have h2 := Blk.new (w.alloc (.cells #[.int .i64 5, .int .i64 9, .int .i64 1, .int .i64 2, .int .i64 3, .int .i64 1] 92)) 90 #[.slice (some ⟨w.heap.size, 0, none⟩) 2 2]
  rw [show (w.alloc (.cells #[.int .i64 5, .int .i64 9, .int .i64 1, .int .i64 2, .int .i64 3, .int .i64 1] 92)).heap.size = w.heap.size + 1 by simp] at h2
  have HS := hide (show LitS w.heap.size (w.heap.size + 1) 2 ((w.alloc (.cells #[.int .i64 5, .int .i64 9, .int .i64 1, .int .i64 2, .int .i64 3, .int .i64 1] 92)).alloc (.cells #[.slice (some ⟨w.heap.size, 0, none⟩) 2 2] 90)) from ⟨h2.cell 0, h1.cell 0, h1.cell 1, h1.cell 2, h1.cell 3, h1.cell 4, h1.cell 5⟩)
  have L0 : Below w.heap.size w ((w.alloc (.cells #[.int .i64 5, .int .i64 9, .int .i64 1, .int .i64 2, .int .i64 3, .int .i64 1] 92)).alloc (.cells #[.slice (some ⟨w.heap.size, 0, none⟩) 2 2] 90)) := by go_grown
  have HN := hide (show (2 : Nat) ≤ 1000000 by omega)
  clear h1 h2
  go_enter Try.func61, Try.ntmps61
  go_wp2_with fail
  generalize (w.alloc (.cells #[.int .i64 5, .int .i64 9, .int .i64 1, .int .i64 2, .int .i64 3, .int .i64 1] 92)).alloc (.cells #[.slice (some ⟨w.heap.size, 0, none⟩) 2 2] 90) = wA at *
  refine (columnsLit_any w.heap.size (w.heap.size + 1) 2 1 wA HS.out).mono ?_
  clear HS
  rintro e w1 ⟨p, q, rfl, hp, hq, hb1⟩
  have L1 := below_then L0 (Nat.le_refl _) hb1
  have R1 := hide (reads_two (hp.alloc (.cells #[.int .i64 5, .int .i64 2] 3)) rfl)
  have K1 := hide (Reads.lit w1 3 #[.int .i64 5, .int .i64 2] 1 2 rfl)
  have L2 := L1.alloc L1.size (.cells #[.int .i64 5, .int .i64 2] 3)
  have Q2 := hide (hq.alloc (.cells #[.int .i64 5, .int .i64 2] 3))
  clear hp hq hb1 L1 L0
  go_wp2_with fail
  refine (Eq_one (some ⟨p, 0, none⟩) (some ⟨w1.heap.size, 0, none⟩) 2 2 2 _ _ [5, 2] _ R1.out K1.out HN.out).mono ?_
  rintro e w2 ⟨rfl, rfl⟩
  clear R1 K1
  generalize w1.alloc (.cells #[.int .i64 5, .int .i64 2] 3) = w3 at *
  have R3 := hide (reads_two (Q2.out.alloc (.cells #[.int .i64 9, .int .i64 3] 3)) rfl)
  have K3 := hide (Reads.lit w3 3 #[.int .i64 9, .int .i64 3] 1 2 rfl)
  have L4 := L2.alloc L2.size (.cells #[.int .i64 9, .int .i64 3] 3)
  clear L2
  go_wp2_with fail
  refine (Eq_one (some ⟨q, 0, none⟩) (some ⟨w3.heap.size, 0, none⟩) 2 2 2 _ _ [9, 3] _ R3.out K3.out HN.out).mono ?_
  rintro e w2 ⟨rfl, rfl⟩
  go_wp2_with fail
  go_ret
  exact ⟨rfl, L4⟩
end Go.Proofs.Ytadlabndbomgmaa
