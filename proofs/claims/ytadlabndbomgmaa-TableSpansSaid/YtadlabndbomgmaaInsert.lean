/- The walk of slices.insertionSort over cells of tables. -/
import Derived.BigQuiet
import Derived.Handy
import Derived.IntWalk
import Derived.RegionTactic
import Derived.Deep.QuietTactic
import Derived.Deep.MidRow
import Derived.Deep.RegionHeld3
import Derived.Test.YtadlabndbomgmaaSwap
namespace Go.Proofs.Ytadlabndbomgmaa
open Go.ChangeShapes Go.WideShapes Go.ChangeAt Go.RowKit
theorem ccmp_ce (c d : Ce) (w : World) (hc : -1000 ≤ c.sp ∧ c.sp ≤ 1000) (hd : -1000 ≤ d.sp ∧ d.sp ≤ 1000) : Calls Try.prog 103 #[.agg (ceC c).toArray, .agg (ceC d).toArray] w fun e w' => e = .returned (.int .i64 (c.sp - d.sp)) ∧ Below w.heap.size w w' := ccmp_any _ _ _ _ _ _ _ _ w hc hd
set_option maxRecDepth 100000 in
set_option maxHeartbeats 4000000 in
theorem insert_any (l : List Ce) (a b : Nat) (g cap : Nat) {rs : List Value} (w : World) (hab : a ≤ b) (hbl : b ≤ l.length) (hl : l.length ≤ 1000000) (hs : SpanOk l) (hB : Blk w g 162 (ceArr l rs)) :
    Calls Try.prog 154 #[.slice (some ⟨g, 0, none⟩) l.length cap, .int .i64 a, .int .i64 b, .func (.func 103) #[] #[]] w fun e w' => e = .returned (.tuple #[]) ∧ ∃ l' : List Ce, l'.Perm l ∧ Blk w' g 162 (ceArr l' rs) ∧ w.grownBy w' (some g) := by
  have HB := hide hB
  clear hB
  have s1 : IntKind.i64.wrap ((a : Int) + 1) = a + 1 := IntWalk.i64_in _ (by omega)
  go_enter Try.func154, Try.ntmps154
  go_wp2_with fail
  go_loopw [8] (fun i wr => ∃ k : Nat, a < k ∧ k ≤ max b (a + 1) ∧ i = .int .i64 k ∧ ∃ l' : List Ce, l'.Perm l ∧ Hid (Blk wr g 162 (ceArr l' rs)) ∧ w.grownBy wr (some g)) (fun i _ => max b (a + 1) - (intOf i).toNat)
  case atStart => exact ⟨a + 1, by omega, by omega, by congr 1, l, .refl _, HB, .refl _ _⟩
  case round =>
    obtain ⟨k, hak, hkb, rfl, l1, hp1, HR1, hgr1⟩ := hrel
    clear HB s1
    go_wp2_with fail
    · rw [show decide (k < b) = true from decide_eq_true (by assumption)]
      go_loopw [9] (fun j wr => ∃ k1 : Nat, a ≤ k1 ∧ k1 ≤ k ∧ j = .int .i64 k1 ∧ ∃ l' : List Ce, l'.Perm l ∧ Hid (Blk wr g 162 (ceArr l' rs)) ∧ w.grownBy wr (some g)) (fun j _ => (intOf j).toNat)
      case atStart => exact ⟨k, by omega, by omega, rfl, l1, hp1, HR1, hgr1⟩
      case round =>
        obtain ⟨k1, hak1, hk1k, rfl, l', hp, HR, hgr⟩ := hrel
        have hll := hp.length_eq
        clear HR1 hgr1 hp1
        have hsp := (hs.perm hp).at_
        have hk1 : k1 < l'.length := by omega
        have hn1 : ¬ l.length ≤ k1 := by omega
        have hgrd := only_drew hgr
        go_wp2_with fail
        refine wp_region_held_drew (S := fun W => Blk W g 162 (ceArr l' rs)) (by kernel_rfl) HR.out.drew (fun hHeld => ?_)
        clear HR hgr
        generalize wr.drew = wB at *
        refine take_at (i := 0) (v := Value.int .i64 k1) (some 18) rfl rfl (by kernel_rfl) (by kernel_rfl) (by kernel_rfl) (fun _ _ _ h => h) (yieldsIf_move (by rfl) _ rfl _ rfl) hHeld ?_
        simp only [Act.put, List.setIfInBounds_toArray, List.set_cons_zero, List.set_cons_succ]
        refine take_at (i := 1) (v := Value.int .i64 a) (some 19) rfl rfl (by kernel_rfl) (by kernel_rfl) (by kernel_rfl) (fun _ _ _ h => h) (yieldsIf_move (by rfl) _ rfl _ rfl) hHeld ?_
        simp only [Act.put, List.setIfInBounds_toArray, List.set_cons_zero, List.set_cons_succ]
        by_cases hgt : a < k1
        · obtain ⟨k2, h2⟩ : ∃ k2 : Nat, (k1 : Int) - 1 = k2 := ⟨k1 - 1, by omega⟩
          have hk2 : k2 < l'.length := by omega
          have hn2 : ¬ l.length ≤ k2 := by omega
          have wr2 : IntKind.i64.wrap (k2 : Int) = k2 := IntWalk.i64_in _ (by omega)
          refine take_at (i := 2) (v := Value.bool true) (some 20) rfl rfl (by kernel_rfl) (by kernel_rfl) (by kernel_rfl) (fun _ _ _ h => h) (Or.inl ⟨by rfl, fun W hW => ?_⟩) hHeld ?_
          · go_simp
          simp only [Act.put, List.setIfInBounds_toArray, List.set_cons_zero, List.set_cons_succ]
          refine take_at (i := 3) (v := Value.bool true) (some 21) rfl rfl (by kernel_rfl) (by kernel_rfl) (by kernel_rfl) (fun _ _ _ h => h) (yieldsIf_move (by rfl) _ rfl _ rfl) hHeld ?_
          simp only [Act.put, List.setIfInBounds_toArray, List.set_cons_zero, List.set_cons_succ]
          refine take_at (i := 4) (v := Value.func (.func 103) #[] #[]) (some 22) rfl rfl (by kernel_rfl) (by kernel_rfl) (by kernel_rfl) (fun _ _ _ h => h) (yieldsIf_move (by rfl) _ rfl _ rfl) hHeld ?_
          simp only [Act.put, List.setIfInBounds_toArray, List.set_cons_zero, List.set_cons_succ]
          refine take_at (i := 5) (v := Value.slice (some ⟨g, 0, none⟩) l.length cap) (some 23) rfl rfl (by kernel_rfl) (by kernel_rfl) (by kernel_rfl) (fun _ _ _ h => h) (yieldsIf_move (by rfl) _ rfl _ rfl) hHeld ?_
          simp only [Act.put, List.setIfInBounds_toArray, List.set_cons_zero, List.set_cons_succ]
          refine take_at (i := 6) (v := Value.int .i64 k1) (some 24) rfl rfl (by kernel_rfl) (by kernel_rfl) (by kernel_rfl) (fun _ _ _ h => h) (yieldsIf_move (by rfl) _ rfl _ rfl) hHeld ?_
          simp only [Act.put, List.setIfInBounds_toArray, List.set_cons_zero, List.set_cons_succ]
          refine take_at (i := 7) (v := Value.pointer (some ⟨g, k1 * 4, none⟩)) (some 25) rfl rfl (by kernel_rfl) (by kernel_rfl) (by kernel_rfl) (fun _ _ _ h => h) (Or.inl ⟨by rfl, fun W hW => ?_⟩) hHeld ?_
          · go_simp
          simp only [Act.put, List.setIfInBounds_toArray, List.set_cons_zero, List.set_cons_succ]
          refine take_at (i := 8) (v := .agg (ceC (ceAt l' k1)).toArray) (some 26) rfl rfl (by kernel_rfl) (by kernel_rfl) (by kernel_rfl) (fun _ _ _ h => h) (yieldsIf_load_mid (by rfl) 162 _ rfl g (k1 * 4) rfl (ceC (ceAt l' k1)) _ (fun w h => ce_range h hk1) (by rfl) rfl (by kernel_rfl)) hHeld ?_
          simp only [Act.put, List.setIfInBounds_toArray, List.set_cons_zero, List.set_cons_succ]
          refine take_at (i := 9) (v := Value.slice (some ⟨g, 0, none⟩) l.length cap) (some 27) rfl rfl (by kernel_rfl) (by kernel_rfl) (by kernel_rfl) (fun _ _ _ h => h) (yieldsIf_move (by rfl) _ rfl _ rfl) hHeld ?_
          simp only [Act.put, List.setIfInBounds_toArray, List.set_cons_zero, List.set_cons_succ]
          refine take_at (i := 10) (v := Value.int .i64 k1) (some 28) rfl rfl (by kernel_rfl) (by kernel_rfl) (by kernel_rfl) (fun _ _ _ h => h) (yieldsIf_move (by rfl) _ rfl _ rfl) hHeld ?_
          simp only [Act.put, List.setIfInBounds_toArray, List.set_cons_zero, List.set_cons_succ]
          refine take_at (i := 11) (v := Value.int .i64 k2) (some 29) rfl rfl (by kernel_rfl) (by kernel_rfl) (by kernel_rfl) (fun _ _ _ h => h) (Or.inl ⟨by rfl, fun W hW => ?_⟩) hHeld ?_
          · go_simp
          simp only [Act.put, List.setIfInBounds_toArray, List.set_cons_zero, List.set_cons_succ]
          refine take_at (i := 12) (v := Value.pointer (some ⟨g, k2 * 4, none⟩)) (some 30) rfl rfl (by kernel_rfl) (by kernel_rfl) (by kernel_rfl) (fun _ _ _ h => h) (Or.inl ⟨by rfl, fun W hW => ?_⟩) hHeld ?_
          · go_simp
          simp only [Act.put, List.setIfInBounds_toArray, List.set_cons_zero, List.set_cons_succ]
          refine take_at (i := 13) (v := .agg (ceC (ceAt l' k2)).toArray) (some 31) rfl rfl (by kernel_rfl) (by kernel_rfl) (by kernel_rfl) (fun _ _ _ h => h) (yieldsIf_load_mid (by rfl) 162 _ rfl g (k2 * 4) rfl (ceC (ceAt l' k2)) _ (fun w h => ce_range h hk2) (by rfl) rfl (by kernel_rfl)) hHeld ?_
          simp only [Act.put, List.setIfInBounds_toArray, List.set_cons_zero, List.set_cons_succ]
          refine wpAnyH_ready (rs := [14]) (by kernel_rfl) (by simp) ?_
          refine AllReadyH.cons rfl (fun K5 hK5 => ?_) AllReadyH.nil
          go_simp
          go_at_call 103
          refine (ccmp_ce _ _ _ (hsp _ hk1) (hsp _ hk2)).mono ?_
          rintro e w5 ⟨rfl, hb5⟩
          go_wp2_with fail
          refine hK5.out _ _ (hHeld.below hb5 hHeld.lt) (fun hH5 => ?_)
          try simp only [Act.put, List.setIfInBounds_toArray, List.set_cons_zero, List.set_cons_succ]
          have hg5 := only_of_below hb5 (some g)
          obtain ⟨lt, hlt⟩ : ∃ x : Bool, x = decide ((ceAt l' k1).sp - (ceAt l' k2).sp < 0) := ⟨_, rfl⟩
          refine take_at (i := 15) (v := Value.bool lt) (some 33) rfl rfl (by kernel_rfl) (by kernel_rfl) (by kernel_rfl) (fun _ _ _ h => h) (Or.inl ⟨by rfl, fun W hW => ?_⟩) hH5 ?_
          · rw [hlt]; go_simp
          simp only [Act.put, List.setIfInBounds_toArray, List.set_cons_zero, List.set_cons_succ]
          refine take_at (i := 16) (v := Value.bool lt) (some 34) rfl rfl (by kernel_rfl) (by kernel_rfl) (by kernel_rfl) (fun _ _ _ h => h) (Or.inl ⟨by rfl, fun W hW => ?_⟩) hH5 ?_
          · go_simp
          simp only [Act.put, List.setIfInBounds_toArray, List.set_cons_zero, List.set_cons_succ]
          refine wpAnyH_done (by kernel_rfl) ?_ _
          have HR0 := hide hH5
          have hgrd := hgrd.trans hg5
          clear hHeld hH5 hb5 hg5 hlt
          cases lt
          · go_wp2_with fail
            go_roundw
            case rel => exact ⟨k + 1, by omega, by omega, rfl, l', hp, HR0, hgrd⟩
            case measure => simp only [intOf]; omega
          · go_wp2_with fail
            have HR0 := hide HR0.out.drew
            have hgrd := only_drew hgrd
            refine wp_region_held_drew (S := fun W => True) (by kernel_rfl) trivial (fun hHeld => ?_)
            generalize w5.drew = wA at *
            refine take_at (i := 0) (v := Value.slice (some ⟨g, 0, none⟩) l.length cap) (some 37) rfl rfl (by kernel_rfl) (by kernel_rfl) (by kernel_rfl) (fun _ _ _ h => h) (yieldsIf_move (by rfl) _ rfl _ rfl) trivial ?_
            simp only [Act.put, List.setIfInBounds_toArray, List.set_cons_zero, List.set_cons_succ]
            refine take_at (i := 1) (v := Value.int .i64 k1) (some 38) rfl rfl (by kernel_rfl) (by kernel_rfl) (by kernel_rfl) (fun _ _ _ h => h) (yieldsIf_move (by rfl) _ rfl _ rfl) trivial ?_
            simp only [Act.put, List.setIfInBounds_toArray, List.set_cons_zero, List.set_cons_succ]
            refine take_at (i := 2) (v := Value.slice (some ⟨g, 0, none⟩) l.length cap) (some 39) rfl rfl (by kernel_rfl) (by kernel_rfl) (by kernel_rfl) (fun _ _ _ h => h) (yieldsIf_move (by rfl) _ rfl _ rfl) trivial ?_
            simp only [Act.put, List.setIfInBounds_toArray, List.set_cons_zero, List.set_cons_succ]
            refine take_at (i := 3) (v := Value.int .i64 k1) (some 40) rfl rfl (by kernel_rfl) (by kernel_rfl) (by kernel_rfl) (fun _ _ _ h => h) (yieldsIf_move (by rfl) _ rfl _ rfl) trivial ?_
            simp only [Act.put, List.setIfInBounds_toArray, List.set_cons_zero, List.set_cons_succ]
            refine take_at (i := 4) (v := Value.int .i64 k2) (some 41) rfl rfl (by kernel_rfl) (by kernel_rfl) (by kernel_rfl) (fun _ _ _ h => h) (Or.inl ⟨by rfl, fun W hW => ?_⟩) trivial ?_
            · go_simp
            simp only [Act.put, List.setIfInBounds_toArray, List.set_cons_zero, List.set_cons_succ]
            refine take_at (i := 5) (v := Value.slice (some ⟨g, 0, none⟩) l.length cap) (some 42) rfl rfl (by kernel_rfl) (by kernel_rfl) (by kernel_rfl) (fun _ _ _ h => h) (yieldsIf_move (by rfl) _ rfl _ rfl) trivial ?_
            simp only [Act.put, List.setIfInBounds_toArray, List.set_cons_zero, List.set_cons_succ]
            refine take_at (i := 6) (v := Value.int .i64 k1) (some 43) rfl rfl (by kernel_rfl) (by kernel_rfl) (by kernel_rfl) (fun _ _ _ h => h) (yieldsIf_move (by rfl) _ rfl _ rfl) trivial ?_
            simp only [Act.put, List.setIfInBounds_toArray, List.set_cons_zero, List.set_cons_succ]
            refine take_at (i := 7) (v := Value.int .i64 k2) (some 44) rfl rfl (by kernel_rfl) (by kernel_rfl) (by kernel_rfl) (fun _ _ _ h => h) (Or.inl ⟨by rfl, fun W hW => ?_⟩) trivial ?_
            · go_simp
            simp only [Act.put, List.setIfInBounds_toArray, List.set_cons_zero, List.set_cons_succ]
            refine take_at (i := 8) (v := Value.pointer (some ⟨g, k2 * 4, none⟩)) (some 45) rfl rfl (by kernel_rfl) (by kernel_rfl) (by kernel_rfl) (fun _ _ _ h => h) (Or.inl ⟨by rfl, fun W hW => ?_⟩) trivial ?_
            · go_simp
            simp only [Act.put, List.setIfInBounds_toArray, List.set_cons_zero, List.set_cons_succ]
            refine take_at (i := 10) (v := Value.slice (some ⟨g, 0, none⟩) l.length cap) (some 47) rfl rfl (by kernel_rfl) (by kernel_rfl) (by kernel_rfl) (fun _ _ _ h => h) (yieldsIf_move (by rfl) _ rfl _ rfl) trivial ?_
            simp only [Act.put, List.setIfInBounds_toArray, List.set_cons_zero, List.set_cons_succ]
            refine take_at (i := 11) (v := Value.int .i64 k1) (some 48) rfl rfl (by kernel_rfl) (by kernel_rfl) (by kernel_rfl) (fun _ _ _ h => h) (yieldsIf_move (by rfl) _ rfl _ rfl) trivial ?_
            simp only [Act.put, List.setIfInBounds_toArray, List.set_cons_zero, List.set_cons_succ]
            refine take_at (i := 12) (v := Value.pointer (some ⟨g, k1 * 4, none⟩)) (some 49) rfl rfl (by kernel_rfl) (by kernel_rfl) (by kernel_rfl) (fun _ _ _ h => h) (Or.inl ⟨by rfl, fun W hW => ?_⟩) trivial ?_
            · go_simp
            simp only [Act.put, List.setIfInBounds_toArray, List.set_cons_zero, List.set_cons_succ]
            refine wpAnyH_ready (rs := [9, 13]) (by kernel_rfl) (by simp) ?_
            refine AllReadyH.cons rfl (fun K1 hK1 => ?_) (AllReadyH.cons rfl (fun K2 hK2 => ?_) AllReadyH.nil)
            · refine step_load_ce 46 rfl rfl 162 _ rfl g k2 162 l' (by rfl) HR0.out hk2 _ (by rfl) rfl (by kernel_rfl) ?_
              refine hK1.out _ _ trivial (fun _ => ?_)
              simp only [Act.put, List.setIfInBounds_toArray, List.set_cons_zero, List.set_cons_succ]
              refine wpAnyH_ready (rs := [13]) (by kernel_rfl) (by simp) ?_
              refine AllReadyH.cons rfl (fun K3 hK3 => ?_) AllReadyH.nil
              refine step_load_ce 50 rfl rfl 162 _ rfl g k1 162 l' (by rfl) HR0.out hk1 _ (by rfl) rfl (by kernel_rfl) ?_
              refine hK3.out _ _ trivial (fun _ => ?_)
              simp only [Act.put, List.setIfInBounds_toArray, List.set_cons_zero, List.set_cons_succ]
              refine take_at (i := 14) (v := Value.pointer (some ⟨g, k1 * 4, none⟩)) (some 51) rfl rfl (by kernel_rfl) (by kernel_rfl) (by kernel_rfl) (fun _ _ _ h => h) (Or.inl ⟨by rfl, fun W hW => ?_⟩) trivial ?_
              · go_simp
              simp only [Act.put, List.setIfInBounds_toArray, List.set_cons_zero, List.set_cons_succ]
              refine wpAnyH_ready (rs := [15]) (by kernel_rfl) (by simp) ?_
              refine AllReadyH.cons rfl (fun KS1 hKS1 => ?_) AllReadyH.nil
              refine step_store_ce rfl rfl 162 _ _ rfl g k1 162 (l') (ceAt l' k2) (by rfl) (by rfl) HR0.out hk1 (by kernel_rfl) (fun wS1 hB1 hG1 => ?_)
              have HB1 := hide hB1
              clear hB1
              refine hKS1.out _ _ trivial (fun _ => ?_)
              refine take_at (i := 16) (v := Value.pointer (some ⟨g, k2 * 4, none⟩)) (some 52) rfl rfl (by kernel_rfl) (by kernel_rfl) (by kernel_rfl) (fun _ _ _ h => h) (Or.inl ⟨by rfl, fun W hW => ?_⟩) trivial ?_
              · go_simp
              simp only [Act.put, List.setIfInBounds_toArray, List.set_cons_zero, List.set_cons_succ]
              refine wpAnyH_ready (rs := [17]) (by kernel_rfl) (by simp) ?_
              refine AllReadyH.cons rfl (fun KS2 hKS2 => ?_) AllReadyH.nil
              refine step_store_ce rfl rfl 162 _ _ rfl g k2 162 (l'.set k1 (ceAt l' k2)) (ceAt l' k1) (by rfl) (by rfl) HB1.out (by rw [List.length_set]; exact hk2) (by kernel_rfl) (fun wS2 hB2 hG2 => ?_)
              have HB2 := hide hB2
              clear hB2
              refine hKS2.out _ _ trivial (fun _ => ?_)
              refine wpAnyH_done (by kernel_rfl) ?_ _
              have hp2 := swap_perm l' k1 k2 hk1 hk2
              have hg2 := (hgrd.trans hG1).trans hG2
              generalize (l'.set k1 (ceAt l' k2)).set k2 (ceAt l' k1) = l2 at *
              clear HB1 HR0 hG1 hG2 hgrd
              go_wp2_with fail
              go_roundw
              case rel => exact ⟨k2, by omega, by omega, rfl, l2, hp2.trans hp, HB2, hg2⟩
              case measure => change ((k2 : Int)).toNat < ((k1 : Int)).toNat; omega
            · refine step_load_ce 50 rfl rfl 162 _ rfl g k1 162 l' (by rfl) HR0.out hk1 _ (by rfl) rfl (by kernel_rfl) ?_
              refine hK2.out _ _ trivial (fun _ => ?_)
              simp only [Act.put, List.setIfInBounds_toArray, List.set_cons_zero, List.set_cons_succ]
              refine wpAnyH_ready (rs := [9]) (by kernel_rfl) (by simp) ?_
              refine AllReadyH.cons rfl (fun K3 hK3 => ?_) AllReadyH.nil
              refine step_load_ce 46 rfl rfl 162 _ rfl g k2 162 l' (by rfl) HR0.out hk2 _ (by rfl) rfl (by kernel_rfl) ?_
              refine hK3.out _ _ trivial (fun _ => ?_)
              simp only [Act.put, List.setIfInBounds_toArray, List.set_cons_zero, List.set_cons_succ]
              refine take_at (i := 14) (v := Value.pointer (some ⟨g, k1 * 4, none⟩)) (some 51) rfl rfl (by kernel_rfl) (by kernel_rfl) (by kernel_rfl) (fun _ _ _ h => h) (Or.inl ⟨by rfl, fun W hW => ?_⟩) trivial ?_
              · go_simp
              simp only [Act.put, List.setIfInBounds_toArray, List.set_cons_zero, List.set_cons_succ]
              refine wpAnyH_ready (rs := [15]) (by kernel_rfl) (by simp) ?_
              refine AllReadyH.cons rfl (fun KS1 hKS1 => ?_) AllReadyH.nil
              refine step_store_ce rfl rfl 162 _ _ rfl g k1 162 (l') (ceAt l' k2) (by rfl) (by rfl) HR0.out hk1 (by kernel_rfl) (fun wS1 hB1 hG1 => ?_)
              have HB1 := hide hB1
              clear hB1
              refine hKS1.out _ _ trivial (fun _ => ?_)
              refine take_at (i := 16) (v := Value.pointer (some ⟨g, k2 * 4, none⟩)) (some 52) rfl rfl (by kernel_rfl) (by kernel_rfl) (by kernel_rfl) (fun _ _ _ h => h) (Or.inl ⟨by rfl, fun W hW => ?_⟩) trivial ?_
              · go_simp
              simp only [Act.put, List.setIfInBounds_toArray, List.set_cons_zero, List.set_cons_succ]
              refine wpAnyH_ready (rs := [17]) (by kernel_rfl) (by simp) ?_
              refine AllReadyH.cons rfl (fun KS2 hKS2 => ?_) AllReadyH.nil
              refine step_store_ce rfl rfl 162 _ _ rfl g k2 162 (l'.set k1 (ceAt l' k2)) (ceAt l' k1) (by rfl) (by rfl) HB1.out (by rw [List.length_set]; exact hk2) (by kernel_rfl) (fun wS2 hB2 hG2 => ?_)
              have HB2 := hide hB2
              clear hB2
              refine hKS2.out _ _ trivial (fun _ => ?_)
              refine wpAnyH_done (by kernel_rfl) ?_ _
              have hp2 := swap_perm l' k1 k2 hk1 hk2
              have hg2 := (hgrd.trans hG1).trans hG2
              generalize (l'.set k1 (ceAt l' k2)).set k2 (ceAt l' k1) = l2 at *
              clear HB1 HR0 hG1 hG2 hgrd
              go_wp2_with fail
              go_roundw
              case rel => exact ⟨k2, by omega, by omega, rfl, l2, hp2.trans hp, HB2, hg2⟩
              case measure => change ((k2 : Int)).toNat < ((k1 : Int)).toNat; omega
        · have HR0 := hide hHeld
          refine take_at (i := 2) (v := Value.bool false) (some 20) rfl rfl (by kernel_rfl) (by kernel_rfl) (by kernel_rfl) (fun _ _ _ h => h) (Or.inl ⟨by rfl, fun W hW => ?_⟩) hHeld ?_
          · go_simp
          simp only [Act.put, List.setIfInBounds_toArray, List.set_cons_zero, List.set_cons_succ]
          refine take_at (i := 3) (v := Value.bool false) (some 21) rfl rfl (by kernel_rfl) (by kernel_rfl) (by kernel_rfl) (fun _ _ _ h => h) (yieldsIf_move (by rfl) _ rfl _ rfl) hHeld ?_
          simp only [Act.put, List.setIfInBounds_toArray, List.set_cons_zero, List.set_cons_succ]
          refine take_at (i := 4) (v := undef) (some 22) rfl rfl (by kernel_rfl) (by kernel_rfl) (by kernel_rfl) (fun _ _ _ h => h) (Or.inr ⟨by rfl, rfl⟩) hHeld ?_
          simp only [Act.put, List.setIfInBounds_toArray, List.set_cons_zero, List.set_cons_succ]
          refine take_at (i := 5) (v := undef) (some 23) rfl rfl (by kernel_rfl) (by kernel_rfl) (by kernel_rfl) (fun _ _ _ h => h) (Or.inr ⟨by rfl, rfl⟩) hHeld ?_
          simp only [Act.put, List.setIfInBounds_toArray, List.set_cons_zero, List.set_cons_succ]
          refine take_at (i := 6) (v := undef) (some 24) rfl rfl (by kernel_rfl) (by kernel_rfl) (by kernel_rfl) (fun _ _ _ h => h) (Or.inr ⟨by rfl, rfl⟩) hHeld ?_
          simp only [Act.put, List.setIfInBounds_toArray, List.set_cons_zero, List.set_cons_succ]
          refine take_at (i := 7) (v := undef) (some 25) rfl rfl (by kernel_rfl) (by kernel_rfl) (by kernel_rfl) (fun _ _ _ h => h) (Or.inr ⟨by rfl, rfl⟩) hHeld ?_
          simp only [Act.put, List.setIfInBounds_toArray, List.set_cons_zero, List.set_cons_succ]
          refine take_at (i := 8) (v := undef) (some 26) rfl rfl (by kernel_rfl) (by kernel_rfl) (by kernel_rfl) (fun _ _ _ h => h) (Or.inr ⟨by rfl, rfl⟩) hHeld ?_
          simp only [Act.put, List.setIfInBounds_toArray, List.set_cons_zero, List.set_cons_succ]
          refine take_at (i := 9) (v := undef) (some 27) rfl rfl (by kernel_rfl) (by kernel_rfl) (by kernel_rfl) (fun _ _ _ h => h) (Or.inr ⟨by rfl, rfl⟩) hHeld ?_
          simp only [Act.put, List.setIfInBounds_toArray, List.set_cons_zero, List.set_cons_succ]
          refine take_at (i := 10) (v := undef) (some 28) rfl rfl (by kernel_rfl) (by kernel_rfl) (by kernel_rfl) (fun _ _ _ h => h) (Or.inr ⟨by rfl, rfl⟩) hHeld ?_
          simp only [Act.put, List.setIfInBounds_toArray, List.set_cons_zero, List.set_cons_succ]
          refine take_at (i := 11) (v := undef) (some 29) rfl rfl (by kernel_rfl) (by kernel_rfl) (by kernel_rfl) (fun _ _ _ h => h) (Or.inr ⟨by rfl, rfl⟩) hHeld ?_
          simp only [Act.put, List.setIfInBounds_toArray, List.set_cons_zero, List.set_cons_succ]
          refine take_at (i := 12) (v := undef) (some 30) rfl rfl (by kernel_rfl) (by kernel_rfl) (by kernel_rfl) (fun _ _ _ h => h) (Or.inr ⟨by rfl, rfl⟩) hHeld ?_
          simp only [Act.put, List.setIfInBounds_toArray, List.set_cons_zero, List.set_cons_succ]
          refine take_at (i := 13) (v := undef) (some 31) rfl rfl (by kernel_rfl) (by kernel_rfl) (by kernel_rfl) (fun _ _ _ h => h) (Or.inr ⟨by rfl, rfl⟩) hHeld ?_
          simp only [Act.put, List.setIfInBounds_toArray, List.set_cons_zero, List.set_cons_succ]
          refine take_at (i := 14) (v := undef) (some 32) rfl rfl (by kernel_rfl) (by kernel_rfl) (by kernel_rfl) (fun _ _ _ h => h) (Or.inr ⟨by rfl, rfl⟩) hHeld ?_
          simp only [Act.put, List.setIfInBounds_toArray, List.set_cons_zero, List.set_cons_succ]
          refine take_at (i := 15) (v := undef) (some 33) rfl rfl (by kernel_rfl) (by kernel_rfl) (by kernel_rfl) (fun _ _ _ h => h) (Or.inr ⟨by rfl, rfl⟩) hHeld ?_
          simp only [Act.put, List.setIfInBounds_toArray, List.set_cons_zero, List.set_cons_succ]
          refine take_at (i := 16) (v := Value.bool false) (some 34) rfl rfl (by kernel_rfl) (by kernel_rfl) (by kernel_rfl) (fun _ _ _ h => h) (Or.inl ⟨by rfl, fun W hW => ?_⟩) hHeld ?_
          · go_simp
          simp only [Act.put, List.setIfInBounds_toArray, List.set_cons_zero, List.set_cons_succ]
          refine wpAnyH_done (by kernel_rfl) ?_ _
          clear hHeld
          go_wp2_with fail
          go_roundw
          case rel => exact ⟨k + 1, by omega, by omega, rfl, l', hp, HR0, hgrd⟩
          case measure => simp only [intOf]; omega
    · go_end0
      exact ⟨rfl, l1, hp1, HR1.out, hgr1⟩
end Go.Proofs.Ytadlabndbomgmaa
