/- The walk of the statement PaintHidden: it returns true. -/
import Derived.BigQuiet
import Derived.Handy
import Derived.Deep.MidRow
import Derived.Deep.RegionHeld3
import Derived.Test.YtbpkffoooieejaaPaintHidden
namespace Go.Proofs.Ytbpkffoooieejaa
open Go.ChangeShapes Go.WideShapes Go.ChangeAt Go.RowKit
def stySet (R : Nat → Int) (i : Nat) (x : Int) : Nat → Int := fun j => if j = i then x else R j
theorem styA_set (R : Nat → Int) (i : Nat) (x : Int) (h : i < 118) : (styA R).setIfInBounds i (.int .i64 x) = styA (stySet R i x) := by
  apply Array.ext_getElem?
  intro j
  rw [Array.getElem?_setIfInBounds]
  by_cases hj : j < 118
  · rw [styA_at _ hj]
    by_cases h9 : i = j
    · subst h9; rw [if_pos rfl, if_pos (by rw [styA_size]; omega), styA_at _ h]; unfold stySet; rw [if_pos rfl]
    · rw [if_neg h9, styA_at _ hj]; unfold stySet; rw [if_neg (fun e => h9 e.symm)]
  · rw [if_neg (by omega), Array.getElem?_eq_none (by rw [styA_size]; omega), Array.getElem?_eq_none (by rw [styA_size]; omega)]
def R0 : Nat → Int := fun _ => 0
theorem Rp_is : (((styA R0).setIfInBounds 72 (.int .i64 5)).setIfInBounds 73 (.int .i64 255)) = styA Rp := by
  rw [styA_set _ _ _ (by omega), styA_set _ _ _ (by omega)]
  congr 1
  funext j
  unfold stySet R0 Rp
  by_cases h : j = 72
  · subst h; rfl
  · rw [if_neg h, if_neg h]
theorem zero_sty (w : World) : (zeroValue 27).run Try.prog w = .ok (.agg (styA R0)) w := by kernel_rfl
theorem frag_u : Try.prog.underlying 23 = some (.struct (Try.prog.fieldsOf 23)) := by kernel_rfl
theorem frag_i (F : Array Value) (hF : F.size = 8) : (Try.prog.info? 23).map (·.size) = some F.size := by rw [hF]; kernel_rfl
set_option maxRecDepth 100000 in
set_option maxHeartbeats 1000000 in
theorem paintHidden_any (F : Array Value) (hF : F.size = 8) (kind : Int) (R : Nat → Int) (w : World) : Calls Try.prog 3 #[.agg F, .int .i64 kind, .agg (styA R)] w fun e w' => e = .returned (.bool true) ∧ Below w.heap.size w w' := by
  have HI := hide (show (Try.prog.info? 3).map (·.size) = some 1 by kernel_rfl)
  have hz := zero_sty
  have hsz : (styA R0).size = 118 := styA_size R0
  go_enter Try.func3, Try.ntmps3
  go_wp2_with fail
  rw [Rp_is]
  clear hz hsz
  have hFb := (Blk.new w 23 F).alloc (.cells (styA R) 27)
  have hSb := Blk.new (w.alloc (.cells F 23)) 27 (styA R)
  rw [show (w.alloc (.cells F 23)).heap.size = w.heap.size + 1 by simp] at hSb
  have hB : Below w.heap.size w ((w.alloc (.cells F 23)).alloc (.cells (styA R) 27)) := by go_grown
  have HF := hide hFb
  have HS := hide hSb
  clear hFb hSb
  generalize (w.alloc (.cells F 23)).alloc (.cells (styA R) 27) = wA at *
  refine (Frag_one wA).mono ?_
  rintro e w1 ⟨X, cx, rfl, hb1⟩
  have HF1 := hide (HF.out.below hb1 HF.out.lt)
  have HS1 := hide (HS.out.below hb1 HS.out.lt)
  have hB1 := below_then hB (Nat.le_refl _) hb1
  clear HF HS hB hb1
  go_wp2_with (first
    | (refine wpList_store_fld rfl 3 _ _ rfl (w.heap.size + 1) 67 27 (styA R) (.int .i64 1) rfl rfl HS1.out (by rw [styA_size]; omega) HI.out rfl rfl ?_; intro w2 hB2 hg2; rw [styA_set R 67 1 (by omega)] at hB2; have HS2 := hide hB2; have HF2 := hide (HF1.out.grown hg2 (by simp)); have hB3 := below_grown hB1 (Nat.le_refl _) hg2 (by omega); clear hB2 hg2)
    | (refine wpList_load_row rfl 23 _ rfl w.heap.size rfl 23 F (0, 0) _ HF2.out frag_u rfl (frag_i F hF) ?_)
    | (refine wpList_load_sty rfl _ rfl (w.heap.size + 1) rfl (stySet R 67 1) HS2.out ?_) | fail)
  have h67 : stySet R 67 1 67 = 1 := rfl
  refine (Frag_hid (stySet R 67 1) h67 F kind _).mono ?_
  rintro e w3 ⟨rfl, hb3⟩
  have hB4 := below_then hB3 (Nat.le_refl _) hb3
  clear h67
  go_wp2_with fail
  go_ret
  exact ⟨rfl, hB4⟩
end Go.Proofs.Ytbpkffoooieejaa
