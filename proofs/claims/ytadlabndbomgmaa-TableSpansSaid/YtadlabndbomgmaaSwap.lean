/- The walk of slices.swapRange over cells of tables. -/
import Derived.BigQuiet
import Derived.Handy
import Derived.IntWalk
import Derived.RegionTactic
import Derived.Deep.QuietTactic
import Derived.Deep.MidRow
import Derived.Deep.RegionHeld3
import Derived.Test.YtadlabndbomgmaaColsLit
import Derived.Test.YtadlabndbomgmaaSortKit
namespace Go.Proofs.Ytadlabndbomgmaa
open Go.ChangeShapes Go.WideShapes Go.ChangeAt Go.RowKit
set_option maxRecDepth 100000 in
set_option maxHeartbeats 2000000 in
theorem swapRange_any (l : List Ce) (a b n : Nat) (g cap : Nat) (f : Value) {rs : List Value} (w : World) (ha : a + n ≤ l.length) (hb : b + n ≤ l.length) (hl : l.length ≤ 1000000) (hB : Blk w g 162 (ceArr l rs)) :
    Calls Try.prog 171 #[.slice (some ⟨g, 0, none⟩) l.length cap, .int .i64 a, .int .i64 b, .int .i64 n, f] w fun e w' => e = .returned (.tuple #[]) ∧ ∃ l' : List Ce, l'.Perm l ∧ Blk w' g 162 (ceArr l' rs) ∧ w.grownBy w' (some g) := by
  have HB := hide hB
  clear hB
  go_enter Try.func171, Try.ntmps171
  go_wp2_with fail
  go_loopw [10] (fun i wr => ∃ k : Nat, k ≤ n ∧ i = .int .i64 k ∧ ∃ l' : List Ce, l'.Perm l ∧ Hid (Blk wr g 162 (ceArr l' rs)) ∧ w.grownBy wr (some g)) (fun i _ => n - (intOf i).toNat)
  case atStart => exact ⟨0, Nat.zero_le _, rfl, l, .refl _, HB, .refl _ _⟩
  case round =>
    obtain ⟨k, hk, rfl, l', hp, HR, hgr⟩ := hrel
    have hll := hp.length_eq
    clear HB
    go_wp2_with fail
    · obtain ⟨k1, h1⟩ : ∃ k1 : Nat, (a : Int) + k = k1 := ⟨a + k, by omega⟩
      obtain ⟨k2, h2⟩ : ∃ k2 : Nat, (b : Int) + k = k2 := ⟨b + k, by omega⟩
      have hk1 : k1 < l'.length := by omega
      have hk2 : k2 < l'.length := by omega
      have hn1 : ¬ l.length ≤ k1 := by omega
      have hn2 : ¬ l.length ≤ k2 := by omega
      have wr1 : IntKind.i64.wrap (k1 : Int) = k1 := IntWalk.i64_in _ (by omega)
      have wr2 : IntKind.i64.wrap (k2 : Int) = k2 := IntWalk.i64_in _ (by omega)
      have HR0 := hide HR.out.drew
      have hgrd := only_drew hgr
      clear HR hgr
      refine wp_region_held_drew (S := fun W => True) (by kernel_rfl) trivial (fun hHeld => ?_)
      generalize wr.drew = wA at *
      refine take_at (i := 0) (v := Value.slice (some ⟨g, 0, none⟩) l.length cap) (some 16) rfl rfl (by kernel_rfl) (by kernel_rfl) (by kernel_rfl) (fun _ _ _ h => h) (yieldsIf_move (by rfl) _ rfl _ rfl) trivial ?_
      simp only [Act.put, List.setIfInBounds_toArray, List.set_cons_zero, List.set_cons_succ]
      refine take_at (i := 1) (v := Value.int .i64 a) (some 17) rfl rfl (by kernel_rfl) (by kernel_rfl) (by kernel_rfl) (fun _ _ _ h => h) (yieldsIf_move (by rfl) _ rfl _ rfl) trivial ?_
      simp only [Act.put, List.setIfInBounds_toArray, List.set_cons_zero, List.set_cons_succ]
      refine take_at (i := 2) (v := Value.int .i64 k) (some 18) rfl rfl (by kernel_rfl) (by kernel_rfl) (by kernel_rfl) (fun _ _ _ h => h) (yieldsIf_move (by rfl) _ rfl _ rfl) trivial ?_
      simp only [Act.put, List.setIfInBounds_toArray, List.set_cons_zero, List.set_cons_succ]
      refine take_at (i := 3) (v := Value.int .i64 k1) (some 19) rfl rfl (by kernel_rfl) (by kernel_rfl) (by kernel_rfl) (fun _ _ _ h => h) (Or.inl ⟨by rfl, fun W hW => ?_⟩) trivial ?_
      · go_simp
      simp only [Act.put, List.setIfInBounds_toArray, List.set_cons_zero, List.set_cons_succ]
      refine take_at (i := 4) (v := Value.slice (some ⟨g, 0, none⟩) l.length cap) (some 20) rfl rfl (by kernel_rfl) (by kernel_rfl) (by kernel_rfl) (fun _ _ _ h => h) (yieldsIf_move (by rfl) _ rfl _ rfl) trivial ?_
      simp only [Act.put, List.setIfInBounds_toArray, List.set_cons_zero, List.set_cons_succ]
      refine take_at (i := 5) (v := Value.int .i64 b) (some 21) rfl rfl (by kernel_rfl) (by kernel_rfl) (by kernel_rfl) (fun _ _ _ h => h) (yieldsIf_move (by rfl) _ rfl _ rfl) trivial ?_
      simp only [Act.put, List.setIfInBounds_toArray, List.set_cons_zero, List.set_cons_succ]
      refine take_at (i := 6) (v := Value.int .i64 k) (some 22) rfl rfl (by kernel_rfl) (by kernel_rfl) (by kernel_rfl) (fun _ _ _ h => h) (yieldsIf_move (by rfl) _ rfl _ rfl) trivial ?_
      simp only [Act.put, List.setIfInBounds_toArray, List.set_cons_zero, List.set_cons_succ]
      refine take_at (i := 7) (v := Value.int .i64 k2) (some 23) rfl rfl (by kernel_rfl) (by kernel_rfl) (by kernel_rfl) (fun _ _ _ h => h) (Or.inl ⟨by rfl, fun W hW => ?_⟩) trivial ?_
      · go_simp
      simp only [Act.put, List.setIfInBounds_toArray, List.set_cons_zero, List.set_cons_succ]
      refine take_at (i := 8) (v := Value.slice (some ⟨g, 0, none⟩) l.length cap) (some 24) rfl rfl (by kernel_rfl) (by kernel_rfl) (by kernel_rfl) (fun _ _ _ h => h) (yieldsIf_move (by rfl) _ rfl _ rfl) trivial ?_
      simp only [Act.put, List.setIfInBounds_toArray, List.set_cons_zero, List.set_cons_succ]
      refine take_at (i := 9) (v := Value.int .i64 b) (some 25) rfl rfl (by kernel_rfl) (by kernel_rfl) (by kernel_rfl) (fun _ _ _ h => h) (yieldsIf_move (by rfl) _ rfl _ rfl) trivial ?_
      simp only [Act.put, List.setIfInBounds_toArray, List.set_cons_zero, List.set_cons_succ]
      refine take_at (i := 10) (v := Value.int .i64 k) (some 26) rfl rfl (by kernel_rfl) (by kernel_rfl) (by kernel_rfl) (fun _ _ _ h => h) (yieldsIf_move (by rfl) _ rfl _ rfl) trivial ?_
      simp only [Act.put, List.setIfInBounds_toArray, List.set_cons_zero, List.set_cons_succ]
      refine take_at (i := 11) (v := Value.int .i64 k2) (some 27) rfl rfl (by kernel_rfl) (by kernel_rfl) (by kernel_rfl) (fun _ _ _ h => h) (Or.inl ⟨by rfl, fun W hW => ?_⟩) trivial ?_
      · go_simp
      simp only [Act.put, List.setIfInBounds_toArray, List.set_cons_zero, List.set_cons_succ]
      refine take_at (i := 12) (v := Value.pointer (some ⟨g, k2 * 4, none⟩)) (some 28) rfl rfl (by kernel_rfl) (by kernel_rfl) (by kernel_rfl) (fun _ _ _ h => h) (Or.inl ⟨by rfl, fun W hW => ?_⟩) trivial ?_
      · go_simp
      simp only [Act.put, List.setIfInBounds_toArray, List.set_cons_zero, List.set_cons_succ]
      refine take_at (i := 14) (v := Value.slice (some ⟨g, 0, none⟩) l.length cap) (some 30) rfl rfl (by kernel_rfl) (by kernel_rfl) (by kernel_rfl) (fun _ _ _ h => h) (yieldsIf_move (by rfl) _ rfl _ rfl) trivial ?_
      simp only [Act.put, List.setIfInBounds_toArray, List.set_cons_zero, List.set_cons_succ]
      refine take_at (i := 15) (v := Value.int .i64 a) (some 31) rfl rfl (by kernel_rfl) (by kernel_rfl) (by kernel_rfl) (fun _ _ _ h => h) (yieldsIf_move (by rfl) _ rfl _ rfl) trivial ?_
      simp only [Act.put, List.setIfInBounds_toArray, List.set_cons_zero, List.set_cons_succ]
      refine take_at (i := 16) (v := Value.int .i64 k) (some 32) rfl rfl (by kernel_rfl) (by kernel_rfl) (by kernel_rfl) (fun _ _ _ h => h) (yieldsIf_move (by rfl) _ rfl _ rfl) trivial ?_
      simp only [Act.put, List.setIfInBounds_toArray, List.set_cons_zero, List.set_cons_succ]
      refine take_at (i := 17) (v := Value.int .i64 k1) (some 33) rfl rfl (by kernel_rfl) (by kernel_rfl) (by kernel_rfl) (fun _ _ _ h => h) (Or.inl ⟨by rfl, fun W hW => ?_⟩) trivial ?_
      · go_simp
      simp only [Act.put, List.setIfInBounds_toArray, List.set_cons_zero, List.set_cons_succ]
      refine take_at (i := 18) (v := Value.pointer (some ⟨g, k1 * 4, none⟩)) (some 34) rfl rfl (by kernel_rfl) (by kernel_rfl) (by kernel_rfl) (fun _ _ _ h => h) (Or.inl ⟨by rfl, fun W hW => ?_⟩) trivial ?_
      · go_simp
      simp only [Act.put, List.setIfInBounds_toArray, List.set_cons_zero, List.set_cons_succ]
      refine wpAnyH_ready (rs := [13, 19]) (by kernel_rfl) (by simp) ?_
      refine AllReadyH.cons rfl (fun K1 hK1 => ?_) (AllReadyH.cons rfl (fun K2 hK2 => ?_) AllReadyH.nil)
      · refine step_load_ce 29 rfl rfl 162 _ rfl g k2 162 l' (by rfl) HR0.out hk2 _ (by rfl) rfl (by kernel_rfl) ?_
        refine hK1.out _ _ trivial (fun _ => ?_)
        simp only [Act.put, List.setIfInBounds_toArray, List.set_cons_zero, List.set_cons_succ]
        refine wpAnyH_ready (rs := [19]) (by kernel_rfl) (by simp) ?_
        refine AllReadyH.cons rfl (fun K3 hK3 => ?_) AllReadyH.nil
        refine step_load_ce 35 rfl rfl 162 _ rfl g k1 162 l' (by rfl) HR0.out hk1 _ (by rfl) rfl (by kernel_rfl) ?_
        refine hK3.out _ _ trivial (fun _ => ?_)
        simp only [Act.put, List.setIfInBounds_toArray, List.set_cons_zero, List.set_cons_succ]
        refine take_at (i := 20) (v := Value.pointer (some ⟨g, k1 * 4, none⟩)) (some 36) rfl rfl (by kernel_rfl) (by kernel_rfl) (by kernel_rfl) (fun _ _ _ h => h) (Or.inl ⟨by rfl, fun W hW => ?_⟩) trivial ?_
        · go_simp
        simp only [Act.put, List.setIfInBounds_toArray, List.set_cons_zero, List.set_cons_succ]
        refine wpAnyH_ready (rs := [21]) (by kernel_rfl) (by simp) ?_
        refine AllReadyH.cons rfl (fun KS1 hKS1 => ?_) AllReadyH.nil
        refine step_store_ce rfl rfl 162 _ _ rfl g k1 162 (l') (ceAt l' k2) (by rfl) (by rfl) HR0.out hk1 (by kernel_rfl) (fun wS1 hB1 hG1 => ?_)
        have HB1 := hide hB1
        clear hB1
        refine hKS1.out _ _ trivial (fun _ => ?_)
        refine take_at (i := 22) (v := Value.pointer (some ⟨g, k2 * 4, none⟩)) (some 37) rfl rfl (by kernel_rfl) (by kernel_rfl) (by kernel_rfl) (fun _ _ _ h => h) (Or.inl ⟨by rfl, fun W hW => ?_⟩) trivial ?_
        · go_simp
        simp only [Act.put, List.setIfInBounds_toArray, List.set_cons_zero, List.set_cons_succ]
        refine wpAnyH_ready (rs := [23]) (by kernel_rfl) (by simp) ?_
        refine AllReadyH.cons rfl (fun KS2 hKS2 => ?_) AllReadyH.nil
        refine step_store_ce rfl rfl 162 _ _ rfl g k2 162 (l'.set k1 (ceAt l' k2)) (ceAt l' k1) (by rfl) (by rfl) HB1.out (by rw [List.length_set]; exact hk2) (by kernel_rfl) (fun wS2 hB2 hG2 => ?_)
        have HB2 := hide hB2
        clear hB2
        refine hKS2.out _ _ trivial (fun _ => ?_)
        refine wpAnyH_done (by kernel_rfl) ?_ _
        have hp2 := swap_perm l' k1 k2 hk1 hk2
        have hg2 := (hgrd.trans hG1).trans hG2
        generalize (l'.set k1 (ceAt l' k2)).set k2 (ceAt l' k1) = l2 at *
        clear HB1 HR0 hG1 hG2 hgrd
        go_wp2_with fail
        go_roundw
        case rel => exact ⟨k + 1, by omega, rfl, l2, hp2.trans hp, HB2, hg2⟩
        case measure => simp only [intOf, Int.toNat_natCast]; omega
      · refine step_load_ce 35 rfl rfl 162 _ rfl g k1 162 l' (by rfl) HR0.out hk1 _ (by rfl) rfl (by kernel_rfl) ?_
        refine hK2.out _ _ trivial (fun _ => ?_)
        simp only [Act.put, List.setIfInBounds_toArray, List.set_cons_zero, List.set_cons_succ]
        refine wpAnyH_ready (rs := [13]) (by kernel_rfl) (by simp) ?_
        refine AllReadyH.cons rfl (fun K3 hK3 => ?_) AllReadyH.nil
        refine step_load_ce 29 rfl rfl 162 _ rfl g k2 162 l' (by rfl) HR0.out hk2 _ (by rfl) rfl (by kernel_rfl) ?_
        refine hK3.out _ _ trivial (fun _ => ?_)
        simp only [Act.put, List.setIfInBounds_toArray, List.set_cons_zero, List.set_cons_succ]
        refine take_at (i := 20) (v := Value.pointer (some ⟨g, k1 * 4, none⟩)) (some 36) rfl rfl (by kernel_rfl) (by kernel_rfl) (by kernel_rfl) (fun _ _ _ h => h) (Or.inl ⟨by rfl, fun W hW => ?_⟩) trivial ?_
        · go_simp
        simp only [Act.put, List.setIfInBounds_toArray, List.set_cons_zero, List.set_cons_succ]
        refine wpAnyH_ready (rs := [21]) (by kernel_rfl) (by simp) ?_
        refine AllReadyH.cons rfl (fun KS1 hKS1 => ?_) AllReadyH.nil
        refine step_store_ce rfl rfl 162 _ _ rfl g k1 162 (l') (ceAt l' k2) (by rfl) (by rfl) HR0.out hk1 (by kernel_rfl) (fun wS1 hB1 hG1 => ?_)
        have HB1 := hide hB1
        clear hB1
        refine hKS1.out _ _ trivial (fun _ => ?_)
        refine take_at (i := 22) (v := Value.pointer (some ⟨g, k2 * 4, none⟩)) (some 37) rfl rfl (by kernel_rfl) (by kernel_rfl) (by kernel_rfl) (fun _ _ _ h => h) (Or.inl ⟨by rfl, fun W hW => ?_⟩) trivial ?_
        · go_simp
        simp only [Act.put, List.setIfInBounds_toArray, List.set_cons_zero, List.set_cons_succ]
        refine wpAnyH_ready (rs := [23]) (by kernel_rfl) (by simp) ?_
        refine AllReadyH.cons rfl (fun KS2 hKS2 => ?_) AllReadyH.nil
        refine step_store_ce rfl rfl 162 _ _ rfl g k2 162 (l'.set k1 (ceAt l' k2)) (ceAt l' k1) (by rfl) (by rfl) HB1.out (by rw [List.length_set]; exact hk2) (by kernel_rfl) (fun wS2 hB2 hG2 => ?_)
        have HB2 := hide hB2
        clear hB2
        refine hKS2.out _ _ trivial (fun _ => ?_)
        refine wpAnyH_done (by kernel_rfl) ?_ _
        have hp2 := swap_perm l' k1 k2 hk1 hk2
        have hg2 := (hgrd.trans hG1).trans hG2
        generalize (l'.set k1 (ceAt l' k2)).set k2 (ceAt l' k1) = l2 at *
        clear HB1 HR0 hG1 hG2 hgrd
        go_wp2_with fail
        go_roundw
        case rel => exact ⟨k + 1, by omega, rfl, l2, hp2.trans hp, HB2, hg2⟩
        case measure => simp only [intOf, Int.toNat_natCast]; omega
    · go_wp2_with fail
      go_end0
      exact ⟨rfl, l', hp, HR.out, hgr⟩
end Go.Proofs.Ytadlabndbomgmaa
