/- The walk of slices.symMerge over cells of tables. -/
import Derived.BigQuiet
import Derived.Handy
import Derived.IntWalk
import Derived.RegionTactic
import Derived.Deep.QuietTactic
import Derived.Deep.MidRow
import Derived.Deep.RegionHeld3
import Derived.Deep.Cut
import Derived.Deep.CutRange
import Derived.Test.YtadlabndbomgmaaInsert
import Derived.Test.YtadlabndbomgmaaRotate
namespace Go.Proofs.Ytadlabndbomgmaa
open Go.ChangeShapes Go.WideShapes Go.ChangeAt Go.RowKit
def SortPost (rs : List Value) (l : List Ce) (g : Nat) (w : World) (e : Ending) (w' : World) : Prop := e = .returned (.tuple #[]) ∧ ∃ l' : List Ce, l'.Perm l ∧ Blk w' g 162 (ceArr l' rs) ∧ w.grownBy w' (some g)
def SymOk (g cap : Nat) (rs : List Value) (N : Nat) : Prop := ∀ (l : List Ce) (a m b : Nat) (w : World), a < m → m < b → b - a ≤ N → b ≤ l.length → l.length ≤ 1000000 → SpanOk l → Blk w g 162 (ceArr l rs) →
    Calls Try.prog 155 #[.slice (some ⟨g, 0, none⟩) l.length cap, .int .i64 a, .int .i64 m, .int .i64 b, .func (.func 103) #[] #[]] w (SortPost rs l g w)
def CeAt (rs : List Value) (l : List Ce) (g : Nat) (w wr : World) : Prop := ∃ l' : List Ce, l'.Perm l ∧ Hid (Blk wr g 162 (ceArr l' rs)) ∧ w.grownBy wr (some g)
set_option maxRecDepth 100000 in
set_option maxHeartbeats 8000000 in
theorem sym_step (g cap : Nat) (rs : List Value) (N : Nat) (ih : SymOk g cap rs N) (l : List Ce) (a m b : Nat) (w : World) (ham : a < m) (hmb : m < b) (hN : b - a ≤ N + 1) (hbl : b ≤ l.length) (hl : l.length ≤ 1000000) (hs : SpanOk l) (hB : Blk w g 162 (ceArr l rs)) :
    Calls Try.prog 155 #[.slice (some ⟨g, 0, none⟩) l.length cap, .int .i64 a, .int .i64 m, .int .i64 b, .func (.func 103) #[] #[]] w (SortPost rs l g w) := by
  have HB := hide hB
  have IH := hide ih
  clear hB ih
  unfold SortPost
  obtain ⟨ma, h1⟩ : ∃ x : Nat, (m : Int) - a = x := ⟨m - a, by omega⟩
  obtain ⟨bm, h2⟩ : ∃ x : Nat, (b : Int) - m = x := ⟨b - m, by omega⟩
  have s1 : IntKind.i64.wrap (ma : Int) = ma := IntWalk.i64_in _ (by omega)
  have s2 : IntKind.i64.wrap (bm : Int) = bm := IntWalk.i64_in _ (by omega)
  go_enter Try.func155, Try.ntmps155
  obtain ⟨d, hd⟩ : ∃ d : Nat, ((a : Int) + b) / 2 = d := ⟨(a + b) / 2, by omega⟩
  obtain ⟨n, hn⟩ : ∃ n : Nat, (d : Int) + m = n := ⟨d + m, by omega⟩
  obtain ⟨z, hz⟩ : ∃ z : Int, (n : Int) - b = z := ⟨_, rfl⟩
  obtain ⟨u, hu⟩ : ∃ u : Nat, (n : Int) - 1 = u := ⟨n - 1, by omega⟩
  have s4 : IntKind.i64.wrap (n : Int) = n := IntWalk.i64_in _ (by omega)
  have s5 : IntKind.i64.wrap z = z := IntWalk.i64_in _ (by omega)
  have s6 : IntKind.i64.wrap (u : Int) = u := IntWalk.i64_in _ (by omega)
  go_wp2_with fail
  · have hma : m ≤ a + 1 := by
      have h : ((ma : Int) == 1) = true := by assumption
      have := of_decide_eq_true h
      omega
    rw [show ((ma : Int) == 1) = true by assumption]
    clear s1 s2 h1 h2
    go_loopw [10, 11] (fun i j wr => ∃ p q : Nat, m ≤ p ∧ p ≤ q ∧ q ≤ b ∧ i = .int .i64 p ∧ j = .int .i64 q ∧ CeAt rs l g w wr) (fun i j _ => (intOf j).toNat - (intOf i).toNat)
    case atStart => exact ⟨m, b, by omega, by omega, by omega, rfl, rfl, l, .refl _, HB, .refl _ _⟩
    case round =>
      obtain ⟨p, q, hmp, hpq, hqb, rfl, rfl, l', hp, HR, hgr⟩ := hrel
      have hll := hp.length_eq
      clear HB
      obtain ⟨h, hh⟩ : ∃ h : Nat, ((p : Int) + q) / 2 = h := ⟨(p + q) / 2, by omega⟩
      obtain ⟨p1, hp1⟩ : ∃ p1 : Nat, (p : Int) - 1 = p1 := ⟨p - 1, by omega⟩
      have s1 : IntKind.i64.wrap (p1 : Int) = p1 := IntWalk.i64_in _ (by omega)
      go_wp2_with fail
      · have ha' : a < l'.length := by omega
        have hh' : h < l'.length := by omega
        have hna : ¬ l.length ≤ a := by omega
        have hnh : ¬ l.length ≤ h := by omega
        have hsp := (hs.perm hp).at_
        have hgrd := only_drew hgr
        have s2 : IntKind.i64.wrap ((h : Int) + 1) = h + 1 := IntWalk.i64_in _ (by omega)
        refine wp_region_held_drew (S := fun W => Blk W g 162 (ceArr l' rs)) (by kernel_rfl) HR.out.drew (fun hHeld => ?_)
        clear HR hgr
        generalize wr.drew = wB at *
        refine take_at (i := 0) (v := Value.func (.func 103) #[] #[]) (some 40) rfl rfl (by kernel_rfl) (by kernel_rfl) (by kernel_rfl) (fun _ _ _ h => h) (yieldsIf_move (by rfl) _ rfl _ rfl) hHeld ?_
        simp only [Act.put, List.setIfInBounds_toArray, List.set_cons_zero, List.set_cons_succ]
        refine take_at (i := 1) (v := Value.slice (some ⟨g, 0, none⟩) l.length cap) (some 41) rfl rfl (by kernel_rfl) (by kernel_rfl) (by kernel_rfl) (fun _ _ _ h => h) (yieldsIf_move (by rfl) _ rfl _ rfl) hHeld ?_
        simp only [Act.put, List.setIfInBounds_toArray, List.set_cons_zero, List.set_cons_succ]
        refine take_at (i := 2) (v := Value.int .i64 h) (some 42) rfl rfl (by kernel_rfl) (by kernel_rfl) (by kernel_rfl) (fun _ _ _ h => h) (yieldsIf_move (by rfl) _ rfl _ rfl) hHeld ?_
        simp only [Act.put, List.setIfInBounds_toArray, List.set_cons_zero, List.set_cons_succ]
        refine take_at (i := 3) (v := Value.pointer (some ⟨g, h * 4, none⟩)) (some 43) rfl rfl (by kernel_rfl) (by kernel_rfl) (by kernel_rfl) (fun _ _ _ h => h) (Or.inl ⟨by rfl, fun W hW => ?_⟩) hHeld ?_
        · go_simp
        simp only [Act.put, List.setIfInBounds_toArray, List.set_cons_zero, List.set_cons_succ]
        refine take_at (i := 4) (v := .agg (ceC (ceAt l' h)).toArray) (some 44) rfl rfl (by kernel_rfl) (by kernel_rfl) (by kernel_rfl) (fun _ _ _ h => h) (yieldsIf_load_mid (by rfl) 162 _ rfl g (h * 4) rfl (ceC (ceAt l' h)) _ (fun w h => ce_range h hh') (by rfl) rfl (by kernel_rfl)) hHeld ?_
        simp only [Act.put, List.setIfInBounds_toArray, List.set_cons_zero, List.set_cons_succ]
        refine take_at (i := 5) (v := Value.slice (some ⟨g, 0, none⟩) l.length cap) (some 45) rfl rfl (by kernel_rfl) (by kernel_rfl) (by kernel_rfl) (fun _ _ _ h => h) (yieldsIf_move (by rfl) _ rfl _ rfl) hHeld ?_
        simp only [Act.put, List.setIfInBounds_toArray, List.set_cons_zero, List.set_cons_succ]
        refine take_at (i := 6) (v := Value.int .i64 a) (some 46) rfl rfl (by kernel_rfl) (by kernel_rfl) (by kernel_rfl) (fun _ _ _ h => h) (yieldsIf_move (by rfl) _ rfl _ rfl) hHeld ?_
        simp only [Act.put, List.setIfInBounds_toArray, List.set_cons_zero, List.set_cons_succ]
        refine take_at (i := 7) (v := Value.pointer (some ⟨g, a * 4, none⟩)) (some 47) rfl rfl (by kernel_rfl) (by kernel_rfl) (by kernel_rfl) (fun _ _ _ h => h) (Or.inl ⟨by rfl, fun W hW => ?_⟩) hHeld ?_
        · go_simp
        simp only [Act.put, List.setIfInBounds_toArray, List.set_cons_zero, List.set_cons_succ]
        refine take_at (i := 8) (v := .agg (ceC (ceAt l' a)).toArray) (some 48) rfl rfl (by kernel_rfl) (by kernel_rfl) (by kernel_rfl) (fun _ _ _ h => h) (yieldsIf_load_mid (by rfl) 162 _ rfl g (a * 4) rfl (ceC (ceAt l' a)) _ (fun w h => ce_range h ha') (by rfl) rfl (by kernel_rfl)) hHeld ?_
        simp only [Act.put, List.setIfInBounds_toArray, List.set_cons_zero, List.set_cons_succ]
        refine wpAnyH_ready (rs := [9]) (by kernel_rfl) (by simp) ?_
        refine AllReadyH.cons rfl (fun K5 hK5 => ?_) AllReadyH.nil
        go_simp
        go_at_call 103
        refine (ccmp_ce _ _ _ (hsp _ hh') (hsp _ ha')).mono ?_
        rintro e w5 ⟨rfl, hb5⟩
        go_wp2_with fail
        refine hK5.out _ _ (hHeld.below hb5 hHeld.lt) (fun hH5 => ?_)
        try simp only [Act.put, List.setIfInBounds_toArray, List.set_cons_zero, List.set_cons_succ]
        have hg5 := only_of_below hb5 (some g)
        obtain ⟨lt, hlt⟩ : ∃ x : Bool, x = decide ((ceAt l' h).sp - (ceAt l' a).sp < 0) := ⟨_, rfl⟩
        refine take_at (i := 10) (v := Value.bool lt) (some 50) rfl rfl (by kernel_rfl) (by kernel_rfl) (by kernel_rfl) (fun _ _ _ h => h) (Or.inl ⟨by rfl, fun W hW => ?_⟩) hH5 ?_
        · rw [hlt]; go_simp
        simp only [Act.put, List.setIfInBounds_toArray, List.set_cons_zero, List.set_cons_succ]
        refine wpAnyH_done (by kernel_rfl) ?_ _
        have HR0 := hide hH5
        have hgrd := hgrd.trans hg5
        clear hHeld hH5 hb5 hg5 hlt
        cases lt
        · go_wp2_with fail
          go_roundw
          case rel => exact ⟨p, h, by omega, by omega, by omega, rfl, rfl, l', hp, HR0, hgrd⟩
          case measure => simp only [intOf]; omega
        · go_wp2_with fail
          go_roundw
          case rel => exact ⟨h + 1, q, by omega, by omega, by omega, rfl, rfl, l', hp, HR0, hgrd⟩
          case measure => simp only [intOf]; omega
      · have hpq' : p = q := by omega
        clear hh hpq'
        go_loopw [13] (fun k wr => ∃ k1 : Nat, a ≤ k1 ∧ k1 ≤ p1 ∧ k = .int .i64 k1 ∧ CeAt rs l g w wr) (fun k _ => p1 - (intOf k).toNat)
        case atStart => exact ⟨a, by omega, by omega, rfl, l', hp, HR, hgr⟩
        case round =>
          clear HR hgr hp hll
          obtain ⟨k1, hak, hkp, rfl, l', hp, HR, hgr⟩ := hrel
          have hll := hp.length_eq
          have s3 : IntKind.i64.wrap ((k1 : Int) + 1) = k1 + 1 := IntWalk.i64_in _ (by omega)
          obtain ⟨k2, hk2'⟩ : ∃ k2 : Nat, (k1 : Int) + 1 = k2 := ⟨k1 + 1, by omega⟩
          have wr2 : IntKind.i64.wrap (k2 : Int) = k2 := IntWalk.i64_in _ (by omega)
          clear s3
          go_wp2_with fail
          · have hk1 : k1 < l'.length := by omega
            have hk2 : k2 < l'.length := by omega
            have hn1 : ¬ l.length ≤ k1 := by omega
            have hn2 : ¬ l.length ≤ k2 := by omega
            have HR0 := hide HR.out.drew
            have hgrd := only_drew hgr
            clear HR hgr
            refine wp_region_held_drew (S := fun W => True) (by kernel_rfl) trivial (fun hHeld => ?_)
            generalize wr.drew = wA at *
            refine take_at (i := 0) (v := Value.slice (some ⟨g, 0, none⟩) l.length cap) (some 61) rfl rfl (by kernel_rfl) (by kernel_rfl) (by kernel_rfl) (fun _ _ _ h => h) (yieldsIf_move (by rfl) _ rfl _ rfl) trivial ?_
            simp only [Act.put, List.setIfInBounds_toArray, List.set_cons_zero, List.set_cons_succ]
            refine take_at (i := 1) (v := Value.int .i64 k1) (some 62) rfl rfl (by kernel_rfl) (by kernel_rfl) (by kernel_rfl) (fun _ _ _ h => h) (yieldsIf_move (by rfl) _ rfl _ rfl) trivial ?_
            simp only [Act.put, List.setIfInBounds_toArray, List.set_cons_zero, List.set_cons_succ]
            refine take_at (i := 2) (v := Value.slice (some ⟨g, 0, none⟩) l.length cap) (some 63) rfl rfl (by kernel_rfl) (by kernel_rfl) (by kernel_rfl) (fun _ _ _ h => h) (yieldsIf_move (by rfl) _ rfl _ rfl) trivial ?_
            simp only [Act.put, List.setIfInBounds_toArray, List.set_cons_zero, List.set_cons_succ]
            refine take_at (i := 3) (v := Value.int .i64 k1) (some 64) rfl rfl (by kernel_rfl) (by kernel_rfl) (by kernel_rfl) (fun _ _ _ h => h) (yieldsIf_move (by rfl) _ rfl _ rfl) trivial ?_
            simp only [Act.put, List.setIfInBounds_toArray, List.set_cons_zero, List.set_cons_succ]
            refine take_at (i := 4) (v := Value.int .i64 k2) (some 65) rfl rfl (by kernel_rfl) (by kernel_rfl) (by kernel_rfl) (fun _ _ _ h => h) (Or.inl ⟨by rfl, fun W hW => ?_⟩) trivial ?_
            · go_simp
            simp only [Act.put, List.setIfInBounds_toArray, List.set_cons_zero, List.set_cons_succ]
            refine take_at (i := 5) (v := Value.slice (some ⟨g, 0, none⟩) l.length cap) (some 66) rfl rfl (by kernel_rfl) (by kernel_rfl) (by kernel_rfl) (fun _ _ _ h => h) (yieldsIf_move (by rfl) _ rfl _ rfl) trivial ?_
            simp only [Act.put, List.setIfInBounds_toArray, List.set_cons_zero, List.set_cons_succ]
            refine take_at (i := 6) (v := Value.int .i64 k1) (some 67) rfl rfl (by kernel_rfl) (by kernel_rfl) (by kernel_rfl) (fun _ _ _ h => h) (yieldsIf_move (by rfl) _ rfl _ rfl) trivial ?_
            simp only [Act.put, List.setIfInBounds_toArray, List.set_cons_zero, List.set_cons_succ]
            refine take_at (i := 7) (v := Value.int .i64 k2) (some 68) rfl rfl (by kernel_rfl) (by kernel_rfl) (by kernel_rfl) (fun _ _ _ h => h) (Or.inl ⟨by rfl, fun W hW => ?_⟩) trivial ?_
            · go_simp
            simp only [Act.put, List.setIfInBounds_toArray, List.set_cons_zero, List.set_cons_succ]
            refine take_at (i := 8) (v := Value.pointer (some ⟨g, k2 * 4, none⟩)) (some 69) rfl rfl (by kernel_rfl) (by kernel_rfl) (by kernel_rfl) (fun _ _ _ h => h) (Or.inl ⟨by rfl, fun W hW => ?_⟩) trivial ?_
            · go_simp
            simp only [Act.put, List.setIfInBounds_toArray, List.set_cons_zero, List.set_cons_succ]
            refine take_at (i := 10) (v := Value.slice (some ⟨g, 0, none⟩) l.length cap) (some 71) rfl rfl (by kernel_rfl) (by kernel_rfl) (by kernel_rfl) (fun _ _ _ h => h) (yieldsIf_move (by rfl) _ rfl _ rfl) trivial ?_
            simp only [Act.put, List.setIfInBounds_toArray, List.set_cons_zero, List.set_cons_succ]
            refine take_at (i := 11) (v := Value.int .i64 k1) (some 72) rfl rfl (by kernel_rfl) (by kernel_rfl) (by kernel_rfl) (fun _ _ _ h => h) (yieldsIf_move (by rfl) _ rfl _ rfl) trivial ?_
            simp only [Act.put, List.setIfInBounds_toArray, List.set_cons_zero, List.set_cons_succ]
            refine take_at (i := 12) (v := Value.pointer (some ⟨g, k1 * 4, none⟩)) (some 73) rfl rfl (by kernel_rfl) (by kernel_rfl) (by kernel_rfl) (fun _ _ _ h => h) (Or.inl ⟨by rfl, fun W hW => ?_⟩) trivial ?_
            · go_simp
            simp only [Act.put, List.setIfInBounds_toArray, List.set_cons_zero, List.set_cons_succ]
            refine wpAnyH_ready (rs := [9, 13]) (by kernel_rfl) (by simp) ?_
            refine AllReadyH.cons rfl (fun K1 hK1 => ?_) (AllReadyH.cons rfl (fun K2 hK2 => ?_) AllReadyH.nil)
            · refine step_load_ce 70 rfl rfl 162 _ rfl g k2 162 l' (by rfl) HR0.out hk2 _ (by rfl) rfl (by kernel_rfl) ?_
              refine hK1.out _ _ trivial (fun _ => ?_)
              simp only [Act.put, List.setIfInBounds_toArray, List.set_cons_zero, List.set_cons_succ]
              refine wpAnyH_ready (rs := [13]) (by kernel_rfl) (by simp) ?_
              refine AllReadyH.cons rfl (fun K3 hK3 => ?_) AllReadyH.nil
              refine step_load_ce 74 rfl rfl 162 _ rfl g k1 162 l' (by rfl) HR0.out hk1 _ (by rfl) rfl (by kernel_rfl) ?_
              refine hK3.out _ _ trivial (fun _ => ?_)
              simp only [Act.put, List.setIfInBounds_toArray, List.set_cons_zero, List.set_cons_succ]
              refine take_at (i := 14) (v := Value.pointer (some ⟨g, k1 * 4, none⟩)) (some 75) rfl rfl (by kernel_rfl) (by kernel_rfl) (by kernel_rfl) (fun _ _ _ h => h) (Or.inl ⟨by rfl, fun W hW => ?_⟩) trivial ?_
              · go_simp
              simp only [Act.put, List.setIfInBounds_toArray, List.set_cons_zero, List.set_cons_succ]
              refine wpAnyH_ready (rs := [15]) (by kernel_rfl) (by simp) ?_
              refine AllReadyH.cons rfl (fun KS1 hKS1 => ?_) AllReadyH.nil
              refine step_store_ce rfl rfl 162 _ _ rfl g k1 162 (l') (ceAt l' k2) (by rfl) (by rfl) HR0.out hk1 (by kernel_rfl) (fun wS1 hB1 hG1 => ?_)
              have HB1 := hide hB1
              clear hB1
              refine hKS1.out _ _ trivial (fun _ => ?_)
              refine take_at (i := 16) (v := Value.pointer (some ⟨g, k2 * 4, none⟩)) (some 76) rfl rfl (by kernel_rfl) (by kernel_rfl) (by kernel_rfl) (fun _ _ _ h => h) (Or.inl ⟨by rfl, fun W hW => ?_⟩) trivial ?_
              · go_simp
              simp only [Act.put, List.setIfInBounds_toArray, List.set_cons_zero, List.set_cons_succ]
              refine wpAnyH_ready (rs := [17]) (by kernel_rfl) (by simp) ?_
              refine AllReadyH.cons rfl (fun KS2 hKS2 => ?_) AllReadyH.nil
              refine step_store_ce rfl rfl 162 _ _ rfl g k2 162 (l'.set k1 (ceAt l' k2)) (ceAt l' k1) (by rfl) (by rfl) HB1.out (by rw [List.length_set]; exact hk2) (by kernel_rfl) (fun wS2 hB2 hG2 => ?_)
              have HB2 := hide hB2
              clear hB2
              refine hKS2.out _ _ trivial (fun _ => ?_)
              refine wpAnyH_done (by kernel_rfl) ?_ _
              have hp2 := swap_perm l' k1 k2 hk1 hk2
              have hg2 := (hgrd.trans hG1).trans hG2
              generalize (l'.set k1 (ceAt l' k2)).set k2 (ceAt l' k1) = l2 at *
              clear HB1 HR0 hG1 hG2 hgrd
              go_wp2_with fail
              go_roundw
              case rel => exact ⟨k2, by omega, by omega, rfl, l2, hp2.trans hp, HB2, hg2⟩
              case measure => simp only [intOf]; omega
            · refine step_load_ce 74 rfl rfl 162 _ rfl g k1 162 l' (by rfl) HR0.out hk1 _ (by rfl) rfl (by kernel_rfl) ?_
              refine hK2.out _ _ trivial (fun _ => ?_)
              simp only [Act.put, List.setIfInBounds_toArray, List.set_cons_zero, List.set_cons_succ]
              refine wpAnyH_ready (rs := [9]) (by kernel_rfl) (by simp) ?_
              refine AllReadyH.cons rfl (fun K3 hK3 => ?_) AllReadyH.nil
              refine step_load_ce 70 rfl rfl 162 _ rfl g k2 162 l' (by rfl) HR0.out hk2 _ (by rfl) rfl (by kernel_rfl) ?_
              refine hK3.out _ _ trivial (fun _ => ?_)
              simp only [Act.put, List.setIfInBounds_toArray, List.set_cons_zero, List.set_cons_succ]
              refine take_at (i := 14) (v := Value.pointer (some ⟨g, k1 * 4, none⟩)) (some 75) rfl rfl (by kernel_rfl) (by kernel_rfl) (by kernel_rfl) (fun _ _ _ h => h) (Or.inl ⟨by rfl, fun W hW => ?_⟩) trivial ?_
              · go_simp
              simp only [Act.put, List.setIfInBounds_toArray, List.set_cons_zero, List.set_cons_succ]
              refine wpAnyH_ready (rs := [15]) (by kernel_rfl) (by simp) ?_
              refine AllReadyH.cons rfl (fun KS1 hKS1 => ?_) AllReadyH.nil
              refine step_store_ce rfl rfl 162 _ _ rfl g k1 162 (l') (ceAt l' k2) (by rfl) (by rfl) HR0.out hk1 (by kernel_rfl) (fun wS1 hB1 hG1 => ?_)
              have HB1 := hide hB1
              clear hB1
              refine hKS1.out _ _ trivial (fun _ => ?_)
              refine take_at (i := 16) (v := Value.pointer (some ⟨g, k2 * 4, none⟩)) (some 76) rfl rfl (by kernel_rfl) (by kernel_rfl) (by kernel_rfl) (fun _ _ _ h => h) (Or.inl ⟨by rfl, fun W hW => ?_⟩) trivial ?_
              · go_simp
              simp only [Act.put, List.setIfInBounds_toArray, List.set_cons_zero, List.set_cons_succ]
              refine wpAnyH_ready (rs := [17]) (by kernel_rfl) (by simp) ?_
              refine AllReadyH.cons rfl (fun KS2 hKS2 => ?_) AllReadyH.nil
              refine step_store_ce rfl rfl 162 _ _ rfl g k2 162 (l'.set k1 (ceAt l' k2)) (ceAt l' k1) (by rfl) (by rfl) HB1.out (by rw [List.length_set]; exact hk2) (by kernel_rfl) (fun wS2 hB2 hG2 => ?_)
              have HB2 := hide hB2
              clear hB2
              refine hKS2.out _ _ trivial (fun _ => ?_)
              refine wpAnyH_done (by kernel_rfl) ?_ _
              have hp2 := swap_perm l' k1 k2 hk1 hk2
              have hg2 := (hgrd.trans hG1).trans hG2
              generalize (l'.set k1 (ceAt l' k2)).set k2 (ceAt l' k1) = l2 at *
              clear HB1 HR0 hG1 hG2 hgrd
              go_wp2_with fail
              go_roundw
              case rel => exact ⟨k2, by omega, by omega, rfl, l2, hp2.trans hp, HB2, hg2⟩
              case measure => simp only [intOf]; omega
          · go_wp2_with fail
            refine bodyPost_ret (results_none (by rfl) _ _ _) rfl ?_
            exact ⟨rfl, l', hp, HR.out, hgr⟩
  · have hbm : b ≤ m + 1 := by
      have h : ((bm : Int) == 1) = true := by assumption
      have := of_decide_eq_true h
      omega
    rw [show ((ma : Int) == 1) = false by assumption, show ((bm : Int) == 1) = true by assumption]
    clear s1 s2 h1 h2
    go_loopw [14, 15] (fun i j wr => ∃ p q : Nat, a ≤ p ∧ p ≤ q ∧ q ≤ m ∧ i = .int .i64 p ∧ j = .int .i64 q ∧ CeAt rs l g w wr) (fun i j _ => (intOf j).toNat - (intOf i).toNat)
    case atStart => exact ⟨a, m, by omega, by omega, by omega, rfl, rfl, l, .refl _, HB, .refl _ _⟩
    case round =>
      obtain ⟨p, q, hmp, hpq, hqb, rfl, rfl, l', hp, HR, hgr⟩ := hrel
      have hll := hp.length_eq
      clear HB
      obtain ⟨h, hh⟩ : ∃ h : Nat, ((p : Int) + q) / 2 = h := ⟨(p + q) / 2, by omega⟩
      go_wp2_with fail
      · have hm' : m < l'.length := by omega
        have hh' : h < l'.length := by omega
        have hnm : ¬ l.length ≤ m := by omega
        have hnh : ¬ l.length ≤ h := by omega
        have hsp := (hs.perm hp).at_
        have hgrd := only_drew hgr
        have s2 : IntKind.i64.wrap ((h : Int) + 1) = h + 1 := IntWalk.i64_in _ (by omega)
        refine wp_region_held_drew (S := fun W => Blk W g 162 (ceArr l' rs)) (by kernel_rfl) HR.out.drew (fun hHeld => ?_)
        clear HR hgr
        generalize wr.drew = wB at *
        refine take_at (i := 0) (v := Value.func (.func 103) #[] #[]) (some 92) rfl rfl (by kernel_rfl) (by kernel_rfl) (by kernel_rfl) (fun _ _ _ h => h) (yieldsIf_move (by rfl) _ rfl _ rfl) hHeld ?_
        simp only [Act.put, List.setIfInBounds_toArray, List.set_cons_zero, List.set_cons_succ]
        refine take_at (i := 1) (v := Value.slice (some ⟨g, 0, none⟩) l.length cap) (some 93) rfl rfl (by kernel_rfl) (by kernel_rfl) (by kernel_rfl) (fun _ _ _ h => h) (yieldsIf_move (by rfl) _ rfl _ rfl) hHeld ?_
        simp only [Act.put, List.setIfInBounds_toArray, List.set_cons_zero, List.set_cons_succ]
        refine take_at (i := 2) (v := Value.int .i64 m) (some 94) rfl rfl (by kernel_rfl) (by kernel_rfl) (by kernel_rfl) (fun _ _ _ h => h) (yieldsIf_move (by rfl) _ rfl _ rfl) hHeld ?_
        simp only [Act.put, List.setIfInBounds_toArray, List.set_cons_zero, List.set_cons_succ]
        refine take_at (i := 3) (v := Value.pointer (some ⟨g, m * 4, none⟩)) (some 95) rfl rfl (by kernel_rfl) (by kernel_rfl) (by kernel_rfl) (fun _ _ _ h => h) (Or.inl ⟨by rfl, fun W hW => ?_⟩) hHeld ?_
        · go_simp
        simp only [Act.put, List.setIfInBounds_toArray, List.set_cons_zero, List.set_cons_succ]
        refine take_at (i := 4) (v := .agg (ceC (ceAt l' m)).toArray) (some 96) rfl rfl (by kernel_rfl) (by kernel_rfl) (by kernel_rfl) (fun _ _ _ h => h) (yieldsIf_load_mid (by rfl) 162 _ rfl g (m * 4) rfl (ceC (ceAt l' m)) _ (fun w h => ce_range h hm') (by rfl) rfl (by kernel_rfl)) hHeld ?_
        simp only [Act.put, List.setIfInBounds_toArray, List.set_cons_zero, List.set_cons_succ]
        refine take_at (i := 5) (v := Value.slice (some ⟨g, 0, none⟩) l.length cap) (some 97) rfl rfl (by kernel_rfl) (by kernel_rfl) (by kernel_rfl) (fun _ _ _ h => h) (yieldsIf_move (by rfl) _ rfl _ rfl) hHeld ?_
        simp only [Act.put, List.setIfInBounds_toArray, List.set_cons_zero, List.set_cons_succ]
        refine take_at (i := 6) (v := Value.int .i64 h) (some 98) rfl rfl (by kernel_rfl) (by kernel_rfl) (by kernel_rfl) (fun _ _ _ h => h) (yieldsIf_move (by rfl) _ rfl _ rfl) hHeld ?_
        simp only [Act.put, List.setIfInBounds_toArray, List.set_cons_zero, List.set_cons_succ]
        refine take_at (i := 7) (v := Value.pointer (some ⟨g, h * 4, none⟩)) (some 99) rfl rfl (by kernel_rfl) (by kernel_rfl) (by kernel_rfl) (fun _ _ _ h => h) (Or.inl ⟨by rfl, fun W hW => ?_⟩) hHeld ?_
        · go_simp
        simp only [Act.put, List.setIfInBounds_toArray, List.set_cons_zero, List.set_cons_succ]
        refine take_at (i := 8) (v := .agg (ceC (ceAt l' h)).toArray) (some 100) rfl rfl (by kernel_rfl) (by kernel_rfl) (by kernel_rfl) (fun _ _ _ h => h) (yieldsIf_load_mid (by rfl) 162 _ rfl g (h * 4) rfl (ceC (ceAt l' h)) _ (fun w h => ce_range h hh') (by rfl) rfl (by kernel_rfl)) hHeld ?_
        simp only [Act.put, List.setIfInBounds_toArray, List.set_cons_zero, List.set_cons_succ]
        refine wpAnyH_ready (rs := [9]) (by kernel_rfl) (by simp) ?_
        refine AllReadyH.cons rfl (fun K5 hK5 => ?_) AllReadyH.nil
        go_simp
        go_at_call 103
        refine (ccmp_ce _ _ _ (hsp _ hm') (hsp _ hh')).mono ?_
        rintro e w5 ⟨rfl, hb5⟩
        go_wp2_with fail
        refine hK5.out _ _ (hHeld.below hb5 hHeld.lt) (fun hH5 => ?_)
        try simp only [Act.put, List.setIfInBounds_toArray, List.set_cons_zero, List.set_cons_succ]
        have hg5 := only_of_below hb5 (some g)
        obtain ⟨lt, hlt⟩ : ∃ x : Bool, x = decide ((ceAt l' m).sp - (ceAt l' h).sp < 0) := ⟨_, rfl⟩
        refine take_at (i := 10) (v := Value.bool lt) (some 102) rfl rfl (by kernel_rfl) (by kernel_rfl) (by kernel_rfl) (fun _ _ _ h => h) (Or.inl ⟨by rfl, fun W hW => ?_⟩) hH5 ?_
        · rw [hlt]; go_simp
        simp only [Act.put, List.setIfInBounds_toArray, List.set_cons_zero, List.set_cons_succ]
        refine take_at (i := 11) (v := Value.bool (!lt)) (some 103) rfl rfl (by kernel_rfl) (by kernel_rfl) (by kernel_rfl) (fun _ _ _ h => h) (Or.inl ⟨by rfl, fun W hW => ?_⟩) hH5 ?_
        · go_simp
        simp only [Act.put, List.setIfInBounds_toArray, List.set_cons_zero, List.set_cons_succ]
        refine wpAnyH_done (by kernel_rfl) ?_ _
        have HR0 := hide hH5
        have hgrd := hgrd.trans hg5
        clear hHeld hH5 hb5 hg5 hlt
        cases lt
        · go_wp2_with fail
          go_roundw
          case rel => exact ⟨h + 1, q, by omega, by omega, by omega, rfl, rfl, l', hp, HR0, hgrd⟩
          case measure => simp only [intOf]; omega
        · go_wp2_with fail
          go_roundw
          case rel => exact ⟨p, h, by omega, by omega, by omega, rfl, rfl, l', hp, HR0, hgrd⟩
          case measure => simp only [intOf]; omega
      · have hpq' : p = q := by omega
        clear hh hpq'
        go_loopw [17] (fun k wr => ∃ k1 : Nat, p ≤ k1 ∧ k1 ≤ m ∧ k = .int .i64 k1 ∧ CeAt rs l g w wr) (fun k _ => (intOf k).toNat)
        case atStart => exact ⟨m, by omega, by omega, rfl, l', hp, HR, hgr⟩
        case round =>
          clear HR hgr hp hll
          obtain ⟨k1, hak, hkp, rfl, l', hp, HR, hgr⟩ := hrel
          have hll := hp.length_eq
          go_wp2_with fail
          rotate_left
          · refine bodyPost_ret (results_none (by rfl) _ _ _) rfl ?_
            exact ⟨rfl, l', hp, HR.out, hgr⟩
          obtain ⟨k2, hk2'⟩ : ∃ k2 : Nat, (k1 : Int) - 1 = k2 := ⟨k1 - 1, by omega⟩
          have wr2 : IntKind.i64.wrap (k2 : Int) = k2 := IntWalk.i64_in _ (by omega)
          · have hk1 : k1 < l'.length := by omega
            have hk2 : k2 < l'.length := by omega
            have hn1 : ¬ l.length ≤ k1 := by omega
            have hn2 : ¬ l.length ≤ k2 := by omega
            have HR0 := hide HR.out.drew
            have hgrd := only_drew hgr
            clear HR hgr
            refine wp_region_held_drew (S := fun W => True) (by kernel_rfl) trivial (fun hHeld => ?_)
            generalize wr.drew = wA at *
            refine take_at (i := 0) (v := Value.slice (some ⟨g, 0, none⟩) l.length cap) (some 113) rfl rfl (by kernel_rfl) (by kernel_rfl) (by kernel_rfl) (fun _ _ _ h => h) (yieldsIf_move (by rfl) _ rfl _ rfl) trivial ?_
            simp only [Act.put, List.setIfInBounds_toArray, List.set_cons_zero, List.set_cons_succ]
            refine take_at (i := 1) (v := Value.int .i64 k1) (some 114) rfl rfl (by kernel_rfl) (by kernel_rfl) (by kernel_rfl) (fun _ _ _ h => h) (yieldsIf_move (by rfl) _ rfl _ rfl) trivial ?_
            simp only [Act.put, List.setIfInBounds_toArray, List.set_cons_zero, List.set_cons_succ]
            refine take_at (i := 2) (v := Value.slice (some ⟨g, 0, none⟩) l.length cap) (some 115) rfl rfl (by kernel_rfl) (by kernel_rfl) (by kernel_rfl) (fun _ _ _ h => h) (yieldsIf_move (by rfl) _ rfl _ rfl) trivial ?_
            simp only [Act.put, List.setIfInBounds_toArray, List.set_cons_zero, List.set_cons_succ]
            refine take_at (i := 3) (v := Value.int .i64 k1) (some 116) rfl rfl (by kernel_rfl) (by kernel_rfl) (by kernel_rfl) (fun _ _ _ h => h) (yieldsIf_move (by rfl) _ rfl _ rfl) trivial ?_
            simp only [Act.put, List.setIfInBounds_toArray, List.set_cons_zero, List.set_cons_succ]
            refine take_at (i := 4) (v := Value.int .i64 k2) (some 117) rfl rfl (by kernel_rfl) (by kernel_rfl) (by kernel_rfl) (fun _ _ _ h => h) (Or.inl ⟨by rfl, fun W hW => ?_⟩) trivial ?_
            · go_simp
            simp only [Act.put, List.setIfInBounds_toArray, List.set_cons_zero, List.set_cons_succ]
            refine take_at (i := 5) (v := Value.slice (some ⟨g, 0, none⟩) l.length cap) (some 118) rfl rfl (by kernel_rfl) (by kernel_rfl) (by kernel_rfl) (fun _ _ _ h => h) (yieldsIf_move (by rfl) _ rfl _ rfl) trivial ?_
            simp only [Act.put, List.setIfInBounds_toArray, List.set_cons_zero, List.set_cons_succ]
            refine take_at (i := 6) (v := Value.int .i64 k1) (some 119) rfl rfl (by kernel_rfl) (by kernel_rfl) (by kernel_rfl) (fun _ _ _ h => h) (yieldsIf_move (by rfl) _ rfl _ rfl) trivial ?_
            simp only [Act.put, List.setIfInBounds_toArray, List.set_cons_zero, List.set_cons_succ]
            refine take_at (i := 7) (v := Value.int .i64 k2) (some 120) rfl rfl (by kernel_rfl) (by kernel_rfl) (by kernel_rfl) (fun _ _ _ h => h) (Or.inl ⟨by rfl, fun W hW => ?_⟩) trivial ?_
            · go_simp
            simp only [Act.put, List.setIfInBounds_toArray, List.set_cons_zero, List.set_cons_succ]
            refine take_at (i := 8) (v := Value.pointer (some ⟨g, k2 * 4, none⟩)) (some 121) rfl rfl (by kernel_rfl) (by kernel_rfl) (by kernel_rfl) (fun _ _ _ h => h) (Or.inl ⟨by rfl, fun W hW => ?_⟩) trivial ?_
            · go_simp
            simp only [Act.put, List.setIfInBounds_toArray, List.set_cons_zero, List.set_cons_succ]
            refine take_at (i := 10) (v := Value.slice (some ⟨g, 0, none⟩) l.length cap) (some 123) rfl rfl (by kernel_rfl) (by kernel_rfl) (by kernel_rfl) (fun _ _ _ h => h) (yieldsIf_move (by rfl) _ rfl _ rfl) trivial ?_
            simp only [Act.put, List.setIfInBounds_toArray, List.set_cons_zero, List.set_cons_succ]
            refine take_at (i := 11) (v := Value.int .i64 k1) (some 124) rfl rfl (by kernel_rfl) (by kernel_rfl) (by kernel_rfl) (fun _ _ _ h => h) (yieldsIf_move (by rfl) _ rfl _ rfl) trivial ?_
            simp only [Act.put, List.setIfInBounds_toArray, List.set_cons_zero, List.set_cons_succ]
            refine take_at (i := 12) (v := Value.pointer (some ⟨g, k1 * 4, none⟩)) (some 125) rfl rfl (by kernel_rfl) (by kernel_rfl) (by kernel_rfl) (fun _ _ _ h => h) (Or.inl ⟨by rfl, fun W hW => ?_⟩) trivial ?_
            · go_simp
            simp only [Act.put, List.setIfInBounds_toArray, List.set_cons_zero, List.set_cons_succ]
            refine wpAnyH_ready (rs := [9, 13]) (by kernel_rfl) (by simp) ?_
            refine AllReadyH.cons rfl (fun K1 hK1 => ?_) (AllReadyH.cons rfl (fun K2 hK2 => ?_) AllReadyH.nil)
            · refine step_load_ce 122 rfl rfl 162 _ rfl g k2 162 l' (by rfl) HR0.out hk2 _ (by rfl) rfl (by kernel_rfl) ?_
              refine hK1.out _ _ trivial (fun _ => ?_)
              simp only [Act.put, List.setIfInBounds_toArray, List.set_cons_zero, List.set_cons_succ]
              refine wpAnyH_ready (rs := [13]) (by kernel_rfl) (by simp) ?_
              refine AllReadyH.cons rfl (fun K3 hK3 => ?_) AllReadyH.nil
              refine step_load_ce 126 rfl rfl 162 _ rfl g k1 162 l' (by rfl) HR0.out hk1 _ (by rfl) rfl (by kernel_rfl) ?_
              refine hK3.out _ _ trivial (fun _ => ?_)
              simp only [Act.put, List.setIfInBounds_toArray, List.set_cons_zero, List.set_cons_succ]
              refine take_at (i := 14) (v := Value.pointer (some ⟨g, k1 * 4, none⟩)) (some 127) rfl rfl (by kernel_rfl) (by kernel_rfl) (by kernel_rfl) (fun _ _ _ h => h) (Or.inl ⟨by rfl, fun W hW => ?_⟩) trivial ?_
              · go_simp
              simp only [Act.put, List.setIfInBounds_toArray, List.set_cons_zero, List.set_cons_succ]
              refine wpAnyH_ready (rs := [15]) (by kernel_rfl) (by simp) ?_
              refine AllReadyH.cons rfl (fun KS1 hKS1 => ?_) AllReadyH.nil
              refine step_store_ce rfl rfl 162 _ _ rfl g k1 162 (l') (ceAt l' k2) (by rfl) (by rfl) HR0.out hk1 (by kernel_rfl) (fun wS1 hB1 hG1 => ?_)
              have HB1 := hide hB1
              clear hB1
              refine hKS1.out _ _ trivial (fun _ => ?_)
              refine take_at (i := 16) (v := Value.pointer (some ⟨g, k2 * 4, none⟩)) (some 128) rfl rfl (by kernel_rfl) (by kernel_rfl) (by kernel_rfl) (fun _ _ _ h => h) (Or.inl ⟨by rfl, fun W hW => ?_⟩) trivial ?_
              · go_simp
              simp only [Act.put, List.setIfInBounds_toArray, List.set_cons_zero, List.set_cons_succ]
              refine wpAnyH_ready (rs := [17]) (by kernel_rfl) (by simp) ?_
              refine AllReadyH.cons rfl (fun KS2 hKS2 => ?_) AllReadyH.nil
              refine step_store_ce rfl rfl 162 _ _ rfl g k2 162 (l'.set k1 (ceAt l' k2)) (ceAt l' k1) (by rfl) (by rfl) HB1.out (by rw [List.length_set]; exact hk2) (by kernel_rfl) (fun wS2 hB2 hG2 => ?_)
              have HB2 := hide hB2
              clear hB2
              refine hKS2.out _ _ trivial (fun _ => ?_)
              refine wpAnyH_done (by kernel_rfl) ?_ _
              have hp2 := swap_perm l' k1 k2 hk1 hk2
              have hg2 := (hgrd.trans hG1).trans hG2
              generalize (l'.set k1 (ceAt l' k2)).set k2 (ceAt l' k1) = l2 at *
              clear HB1 HR0 hG1 hG2 hgrd
              go_wp2_with fail
              go_roundw
              case rel => exact ⟨k2, by omega, by omega, rfl, l2, hp2.trans hp, HB2, hg2⟩
              case measure => simp only [intOf]; omega
            · refine step_load_ce 126 rfl rfl 162 _ rfl g k1 162 l' (by rfl) HR0.out hk1 _ (by rfl) rfl (by kernel_rfl) ?_
              refine hK2.out _ _ trivial (fun _ => ?_)
              simp only [Act.put, List.setIfInBounds_toArray, List.set_cons_zero, List.set_cons_succ]
              refine wpAnyH_ready (rs := [9]) (by kernel_rfl) (by simp) ?_
              refine AllReadyH.cons rfl (fun K3 hK3 => ?_) AllReadyH.nil
              refine step_load_ce 122 rfl rfl 162 _ rfl g k2 162 l' (by rfl) HR0.out hk2 _ (by rfl) rfl (by kernel_rfl) ?_
              refine hK3.out _ _ trivial (fun _ => ?_)
              simp only [Act.put, List.setIfInBounds_toArray, List.set_cons_zero, List.set_cons_succ]
              refine take_at (i := 14) (v := Value.pointer (some ⟨g, k1 * 4, none⟩)) (some 127) rfl rfl (by kernel_rfl) (by kernel_rfl) (by kernel_rfl) (fun _ _ _ h => h) (Or.inl ⟨by rfl, fun W hW => ?_⟩) trivial ?_
              · go_simp
              simp only [Act.put, List.setIfInBounds_toArray, List.set_cons_zero, List.set_cons_succ]
              refine wpAnyH_ready (rs := [15]) (by kernel_rfl) (by simp) ?_
              refine AllReadyH.cons rfl (fun KS1 hKS1 => ?_) AllReadyH.nil
              refine step_store_ce rfl rfl 162 _ _ rfl g k1 162 (l') (ceAt l' k2) (by rfl) (by rfl) HR0.out hk1 (by kernel_rfl) (fun wS1 hB1 hG1 => ?_)
              have HB1 := hide hB1
              clear hB1
              refine hKS1.out _ _ trivial (fun _ => ?_)
              refine take_at (i := 16) (v := Value.pointer (some ⟨g, k2 * 4, none⟩)) (some 128) rfl rfl (by kernel_rfl) (by kernel_rfl) (by kernel_rfl) (fun _ _ _ h => h) (Or.inl ⟨by rfl, fun W hW => ?_⟩) trivial ?_
              · go_simp
              simp only [Act.put, List.setIfInBounds_toArray, List.set_cons_zero, List.set_cons_succ]
              refine wpAnyH_ready (rs := [17]) (by kernel_rfl) (by simp) ?_
              refine AllReadyH.cons rfl (fun KS2 hKS2 => ?_) AllReadyH.nil
              refine step_store_ce rfl rfl 162 _ _ rfl g k2 162 (l'.set k1 (ceAt l' k2)) (ceAt l' k1) (by rfl) (by rfl) HB1.out (by rw [List.length_set]; exact hk2) (by kernel_rfl) (fun wS2 hB2 hG2 => ?_)
              have HB2 := hide hB2
              clear hB2
              refine hKS2.out _ _ trivial (fun _ => ?_)
              refine wpAnyH_done (by kernel_rfl) ?_ _
              have hp2 := swap_perm l' k1 k2 hk1 hk2
              have hg2 := (hgrd.trans hG1).trans hG2
              generalize (l'.set k1 (ceAt l' k2)).set k2 (ceAt l' k1) = l2 at *
              clear HB1 HR0 hG1 hG2 hgrd
              go_wp2_with fail
              go_roundw
              case rel => exact ⟨k2, by omega, by omega, rfl, l2, hp2.trans hp, HB2, hg2⟩
              case measure => simp only [intOf]; omega
  · rw [show ((ma : Int) == 1) = false by assumption, show ((bm : Int) == 1) = false by assumption]
    have hma : ¬ (ma : Int) = 1 := by
      have h : ((ma : Int) == 1) = false := by assumption
      simpa using h
    have hbm : ¬ (bm : Int) = 1 := by
      have h : ((bm : Int) == 1) = false := by assumption
      simpa using h
    obtain ⟨z, rfl⟩ : ∃ z' : Nat, z = z' := ⟨z.toNat, by omega⟩
    have hza : a ≤ z := by omega
    rw [show decide (d < m) = true from decide_eq_true (by assumption)]
    go_loopw [20, 21] (fun i j wr => ∃ p q : Nat, z ≤ p ∧ p ≤ q ∧ q ≤ d ∧ i = .int .i64 p ∧ j = .int .i64 q ∧ CeAt rs l g w wr) (fun i j _ => (intOf j).toNat - (intOf i).toNat)
    case atStart => exact ⟨z, d, by omega, by omega, by omega, rfl, rfl, l, .refl _, HB, .refl _ _⟩
    case round =>
      obtain ⟨p, q, hmp, hpq, hqb, rfl, rfl, l', hp, HR, hgr⟩ := hrel
      have hll := hp.length_eq
      clear HB
      obtain ⟨h, hh⟩ : ∃ h : Nat, ((p : Int) + q) / 2 = h := ⟨(p + q) / 2, by omega⟩
      obtain ⟨en, hen⟩ : ∃ en : Nat, (n : Int) - p = en := ⟨n - p, by omega⟩
      have s7 : IntKind.i64.wrap (en : Int) = en := IntWalk.i64_in _ (by omega)
      by_cases hlt : p < q
      · go_wp2_with fail
        obtain ⟨v, hv⟩ : ∃ v : Nat, (u : Int) - h = v := ⟨u - h, by omega⟩
        have hv' : v < l'.length := by omega
        have hh' : h < l'.length := by omega
        have hnm : ¬ l.length ≤ v := by omega
        have hnh : ¬ l.length ≤ h := by omega
        have hsp := (hs.perm hp).at_
        have hgrd := only_drew hgr
        have s2 : IntKind.i64.wrap ((h : Int) + 1) = h + 1 := IntWalk.i64_in _ (by omega)
        have s8 : IntKind.i64.wrap (v : Int) = v := IntWalk.i64_in _ (by omega)
        refine wp_region_held_drew (S := fun W => Blk W g 162 (ceArr l' rs)) (by kernel_rfl) HR.out.drew (fun hHeld => ?_)
        clear HR hgr
        generalize wr.drew = wB at *
        refine take_at (i := 0) (v := Value.func (.func 103) #[] #[]) (some 158) rfl rfl (by kernel_rfl) (by kernel_rfl) (by kernel_rfl) (fun _ _ _ h => h) (yieldsIf_move (by rfl) _ rfl _ rfl) hHeld ?_
        simp only [Act.put, List.setIfInBounds_toArray, List.set_cons_zero, List.set_cons_succ]
        refine take_at (i := 1) (v := Value.slice (some ⟨g, 0, none⟩) l.length cap) (some 159) rfl rfl (by kernel_rfl) (by kernel_rfl) (by kernel_rfl) (fun _ _ _ h => h) (yieldsIf_move (by rfl) _ rfl _ rfl) hHeld ?_
        simp only [Act.put, List.setIfInBounds_toArray, List.set_cons_zero, List.set_cons_succ]
        refine take_at (i := 2) (v := Value.int .i64 u) (some 160) rfl rfl (by kernel_rfl) (by kernel_rfl) (by kernel_rfl) (fun _ _ _ h => h) (yieldsIf_move (by rfl) _ rfl _ rfl) hHeld ?_
        simp only [Act.put, List.setIfInBounds_toArray, List.set_cons_zero, List.set_cons_succ]
        refine take_at (i := 3) (v := Value.int .i64 h) (some 161) rfl rfl (by kernel_rfl) (by kernel_rfl) (by kernel_rfl) (fun _ _ _ h => h) (yieldsIf_move (by rfl) _ rfl _ rfl) hHeld ?_
        simp only [Act.put, List.setIfInBounds_toArray, List.set_cons_zero, List.set_cons_succ]
        refine take_at (i := 4) (v := Value.int .i64 v) (some 162) rfl rfl (by kernel_rfl) (by kernel_rfl) (by kernel_rfl) (fun _ _ _ h => h) (Or.inl ⟨by rfl, fun W hW => ?_⟩) hHeld ?_
        · go_simp
        simp only [Act.put, List.setIfInBounds_toArray, List.set_cons_zero, List.set_cons_succ]
        refine take_at (i := 5) (v := Value.pointer (some ⟨g, v * 4, none⟩)) (some 163) rfl rfl (by kernel_rfl) (by kernel_rfl) (by kernel_rfl) (fun _ _ _ h => h) (Or.inl ⟨by rfl, fun W hW => ?_⟩) hHeld ?_
        · go_simp
        simp only [Act.put, List.setIfInBounds_toArray, List.set_cons_zero, List.set_cons_succ]
        refine take_at (i := 6) (v := .agg (ceC (ceAt l' v)).toArray) (some 164) rfl rfl (by kernel_rfl) (by kernel_rfl) (by kernel_rfl) (fun _ _ _ h => h) (yieldsIf_load_mid (by rfl) 162 _ rfl g (v * 4) rfl (ceC (ceAt l' v)) _ (fun w h => ce_range h hv') (by rfl) rfl (by kernel_rfl)) hHeld ?_
        simp only [Act.put, List.setIfInBounds_toArray, List.set_cons_zero, List.set_cons_succ]
        refine take_at (i := 7) (v := Value.slice (some ⟨g, 0, none⟩) l.length cap) (some 165) rfl rfl (by kernel_rfl) (by kernel_rfl) (by kernel_rfl) (fun _ _ _ h => h) (yieldsIf_move (by rfl) _ rfl _ rfl) hHeld ?_
        simp only [Act.put, List.setIfInBounds_toArray, List.set_cons_zero, List.set_cons_succ]
        refine take_at (i := 8) (v := Value.int .i64 h) (some 166) rfl rfl (by kernel_rfl) (by kernel_rfl) (by kernel_rfl) (fun _ _ _ h => h) (yieldsIf_move (by rfl) _ rfl _ rfl) hHeld ?_
        simp only [Act.put, List.setIfInBounds_toArray, List.set_cons_zero, List.set_cons_succ]
        refine take_at (i := 9) (v := Value.pointer (some ⟨g, h * 4, none⟩)) (some 167) rfl rfl (by kernel_rfl) (by kernel_rfl) (by kernel_rfl) (fun _ _ _ h => h) (Or.inl ⟨by rfl, fun W hW => ?_⟩) hHeld ?_
        · go_simp
        simp only [Act.put, List.setIfInBounds_toArray, List.set_cons_zero, List.set_cons_succ]
        refine take_at (i := 10) (v := .agg (ceC (ceAt l' h)).toArray) (some 168) rfl rfl (by kernel_rfl) (by kernel_rfl) (by kernel_rfl) (fun _ _ _ h => h) (yieldsIf_load_mid (by rfl) 162 _ rfl g (h * 4) rfl (ceC (ceAt l' h)) _ (fun w h => ce_range h hh') (by rfl) rfl (by kernel_rfl)) hHeld ?_
        simp only [Act.put, List.setIfInBounds_toArray, List.set_cons_zero, List.set_cons_succ]
        refine wpAnyH_ready (rs := [11]) (by kernel_rfl) (by simp) ?_
        refine AllReadyH.cons rfl (fun K5 hK5 => ?_) AllReadyH.nil
        go_simp
        go_at_call 103
        refine (ccmp_ce _ _ _ (hsp _ hv') (hsp _ hh')).mono ?_
        rintro e w5 ⟨rfl, hb5⟩
        go_wp2_with fail
        refine hK5.out _ _ (hHeld.below hb5 hHeld.lt) (fun hH5 => ?_)
        try simp only [Act.put, List.setIfInBounds_toArray, List.set_cons_zero, List.set_cons_succ]
        have hg5 := only_of_below hb5 (some g)
        obtain ⟨lt, hlt⟩ : ∃ x : Bool, x = decide ((ceAt l' v).sp - (ceAt l' h).sp < 0) := ⟨_, rfl⟩
        refine take_at (i := 12) (v := Value.bool lt) (some 170) rfl rfl (by kernel_rfl) (by kernel_rfl) (by kernel_rfl) (fun _ _ _ h => h) (Or.inl ⟨by rfl, fun W hW => ?_⟩) hH5 ?_
        · rw [hlt]; go_simp
        simp only [Act.put, List.setIfInBounds_toArray, List.set_cons_zero, List.set_cons_succ]
        refine take_at (i := 13) (v := Value.bool (!lt)) (some 171) rfl rfl (by kernel_rfl) (by kernel_rfl) (by kernel_rfl) (fun _ _ _ h => h) (Or.inl ⟨by rfl, fun W hW => ?_⟩) hH5 ?_
        · go_simp
        simp only [Act.put, List.setIfInBounds_toArray, List.set_cons_zero, List.set_cons_succ]
        refine wpAnyH_done (by kernel_rfl) ?_ _
        have HR0 := hide hH5
        have hgrd := hgrd.trans hg5
        clear hHeld hH5 hb5 hg5 hlt
        cases lt
        · go_wp2_with fail
          go_roundw
          case rel => exact ⟨h + 1, q, by omega, by omega, by omega, rfl, rfl, l', hp, HR0, hgrd⟩
          case measure => simp only [intOf]; omega
        · go_wp2_with fail
          go_roundw
          case rel => exact ⟨p, h, by omega, by omega, by omega, rfl, rfl, l', hp, HR0, hgrd⟩
          case measure => simp only [intOf]; omega
      · skip
        go_upto_region 39 with fail
        go_cut [185] from 178 (fun s wx => ∃ x : Bool, s = .bool x ∧ (x = true → p < m ∧ m < en) ∧ wx = wr)
        case first =>
          go_wp2_with fail
          all_goals go_meet
          all_goals refine ⟨_, rfl, ?_, rfl⟩
          all_goals (intro hx; first | (have hx2 := of_decide_eq_true hx; omega) | cases hx)
        case rest =>
          obtain ⟨x, rfl, hx, hw⟩ := hcut
          subst hw
          go_upto_if 185 with fail
          go_cut [] from 186 (fun wx => CeAt rs l g w wx)
          case first =>
            cases x
            · go_wp2_with fail
              go_meet
              exact ⟨l', hp, HR, hgr⟩
            · have hx := hx rfl
              have hc := rotate_any l' p m en g cap (.func (.func 103) #[] #[]) wc hx.1 hx.2 (by omega) (by omega) HR.out
              rw [hll] at hc
              go_wp2_with fail
              refine hc.mono ?_
              rintro e w1 ⟨rfl, l2, hp2, hB2, hg2⟩
              have HB2 := hide hB2
              have hg3 := hgr.trans hg2
              clear hB2 HR hc hgr hg2 hx
              go_wp2_with fail
              go_meet
              exact ⟨l2, hp2.trans hp, HB2, hg3⟩
          case rest =>
            clear HR hgr hp hll hx
            obtain ⟨l', hp, HR, hgr⟩ := hcut
            have hll := hp.length_eq
            go_upto_region 41 with fail
            go_cut [199] from 192 (fun s wx => ∃ x : Bool, s = .bool x ∧ (x = true → a < p ∧ p < d) ∧ wx = wc)
            case first =>
              go_wp2_with fail
              all_goals go_meet
              all_goals refine ⟨_, rfl, ?_, rfl⟩
              all_goals (intro hx; first | (have hx2 := of_decide_eq_true hx; omega) | cases hx)
            case rest =>
              obtain ⟨x, rfl, hx, hw⟩ := hcut
              subst hw
              go_upto_if 199 with fail
              go_cut [] from 200 (fun wx => CeAt rs l g w wx)
              case first =>
                cases x
                · go_wp2_with fail
                  go_meet
                  exact ⟨l', hp, HR, hgr⟩
                · have hx := hx rfl
                  have hc := IH.out l' a p d wc hx.1 hx.2 (by omega) (by omega) (by omega) (hs.perm hp) HR.out
                  rw [hll] at hc
                  go_wp2_with fail
                  refine hc.mono ?_
                  rintro e w1 ⟨rfl, l2, hp2, hB2, hg2⟩
                  have HB2 := hide hB2
                  have hg3 := hgr.trans hg2
                  clear hB2 HR hc hgr hg2 hx
                  go_wp2_with fail
                  go_meet
                  exact ⟨l2, hp2.trans hp, HB2, hg3⟩
              case rest =>
                clear HR hgr hp hll hx
                obtain ⟨l', hp, HR, hgr⟩ := hcut
                have hll := hp.length_eq
                go_upto_region 43 with fail
                go_cut [213] from 206 (fun s wx => ∃ x : Bool, s = .bool x ∧ (x = true → d < en ∧ en < b) ∧ wx = wc)
                case first =>
                  go_wp2_with fail
                  all_goals go_meet
                  all_goals refine ⟨_, rfl, ?_, rfl⟩
                  all_goals (intro hx; first | (have hx2 := of_decide_eq_true hx; omega) | cases hx)
                case rest =>
                  obtain ⟨x, rfl, hx, hw⟩ := hcut
                  subst hw
                  cases x
                  · go_wp2_with fail
                    go_end0
                    exact ⟨rfl, l', hp, HR.out, hgr⟩
                  · have hx := hx rfl
                    have hc := IH.out l' d en b wc hx.1 hx.2 (by omega) (by omega) (by omega) (hs.perm hp) HR.out
                    rw [hll] at hc
                    go_wp2_with fail
                    refine hc.mono ?_
                    rintro e w1 ⟨rfl, l2, hp2, hB2, hg2⟩
                    have HB2 := hide hB2
                    have hg3 := hgr.trans hg2
                    clear hB2 HR hc hgr hg2 hx
                    go_wp2_with fail
                    go_end0
                    exact ⟨rfl, l2, hp2.trans hp, HB2.out, hg3⟩
  · rw [show ((ma : Int) == 1) = false by assumption, show ((bm : Int) == 1) = false by assumption]
    have hma : ¬ (ma : Int) = 1 := by
      have h : ((ma : Int) == 1) = false := by assumption
      simpa using h
    have hbm : ¬ (bm : Int) = 1 := by
      have h : ((bm : Int) == 1) = false := by assumption
      simpa using h
    rw [show decide (d < m) = false from decide_eq_false (by assumption)]
    go_loopw [20, 21] (fun i j wr => ∃ p q : Nat, a ≤ p ∧ p ≤ q ∧ q ≤ m ∧ i = .int .i64 p ∧ j = .int .i64 q ∧ CeAt rs l g w wr) (fun i j _ => (intOf j).toNat - (intOf i).toNat)
    case atStart => exact ⟨a, m, by omega, by omega, by omega, rfl, rfl, l, .refl _, HB, .refl _ _⟩
    case round =>
      obtain ⟨p, q, hmp, hpq, hqb, rfl, rfl, l', hp, HR, hgr⟩ := hrel
      have hll := hp.length_eq
      clear HB
      obtain ⟨h, hh⟩ : ∃ h : Nat, ((p : Int) + q) / 2 = h := ⟨(p + q) / 2, by omega⟩
      obtain ⟨en, hen⟩ : ∃ en : Nat, (n : Int) - p = en := ⟨n - p, by omega⟩
      have s7 : IntKind.i64.wrap (en : Int) = en := IntWalk.i64_in _ (by omega)
      by_cases hlt : p < q
      · go_wp2_with fail
        obtain ⟨v, hv⟩ : ∃ v : Nat, (u : Int) - h = v := ⟨u - h, by omega⟩
        have hv' : v < l'.length := by omega
        have hh' : h < l'.length := by omega
        have hnm : ¬ l.length ≤ v := by omega
        have hnh : ¬ l.length ≤ h := by omega
        have hsp := (hs.perm hp).at_
        have hgrd := only_drew hgr
        have s2 : IntKind.i64.wrap ((h : Int) + 1) = h + 1 := IntWalk.i64_in _ (by omega)
        have s8 : IntKind.i64.wrap (v : Int) = v := IntWalk.i64_in _ (by omega)
        refine wp_region_held_drew (S := fun W => Blk W g 162 (ceArr l' rs)) (by kernel_rfl) HR.out.drew (fun hHeld => ?_)
        clear HR hgr
        generalize wr.drew = wB at *
        refine take_at (i := 0) (v := Value.func (.func 103) #[] #[]) (some 158) rfl rfl (by kernel_rfl) (by kernel_rfl) (by kernel_rfl) (fun _ _ _ h => h) (yieldsIf_move (by rfl) _ rfl _ rfl) hHeld ?_
        simp only [Act.put, List.setIfInBounds_toArray, List.set_cons_zero, List.set_cons_succ]
        refine take_at (i := 1) (v := Value.slice (some ⟨g, 0, none⟩) l.length cap) (some 159) rfl rfl (by kernel_rfl) (by kernel_rfl) (by kernel_rfl) (fun _ _ _ h => h) (yieldsIf_move (by rfl) _ rfl _ rfl) hHeld ?_
        simp only [Act.put, List.setIfInBounds_toArray, List.set_cons_zero, List.set_cons_succ]
        refine take_at (i := 2) (v := Value.int .i64 u) (some 160) rfl rfl (by kernel_rfl) (by kernel_rfl) (by kernel_rfl) (fun _ _ _ h => h) (yieldsIf_move (by rfl) _ rfl _ rfl) hHeld ?_
        simp only [Act.put, List.setIfInBounds_toArray, List.set_cons_zero, List.set_cons_succ]
        refine take_at (i := 3) (v := Value.int .i64 h) (some 161) rfl rfl (by kernel_rfl) (by kernel_rfl) (by kernel_rfl) (fun _ _ _ h => h) (yieldsIf_move (by rfl) _ rfl _ rfl) hHeld ?_
        simp only [Act.put, List.setIfInBounds_toArray, List.set_cons_zero, List.set_cons_succ]
        refine take_at (i := 4) (v := Value.int .i64 v) (some 162) rfl rfl (by kernel_rfl) (by kernel_rfl) (by kernel_rfl) (fun _ _ _ h => h) (Or.inl ⟨by rfl, fun W hW => ?_⟩) hHeld ?_
        · go_simp
        simp only [Act.put, List.setIfInBounds_toArray, List.set_cons_zero, List.set_cons_succ]
        refine take_at (i := 5) (v := Value.pointer (some ⟨g, v * 4, none⟩)) (some 163) rfl rfl (by kernel_rfl) (by kernel_rfl) (by kernel_rfl) (fun _ _ _ h => h) (Or.inl ⟨by rfl, fun W hW => ?_⟩) hHeld ?_
        · go_simp
        simp only [Act.put, List.setIfInBounds_toArray, List.set_cons_zero, List.set_cons_succ]
        refine take_at (i := 6) (v := .agg (ceC (ceAt l' v)).toArray) (some 164) rfl rfl (by kernel_rfl) (by kernel_rfl) (by kernel_rfl) (fun _ _ _ h => h) (yieldsIf_load_mid (by rfl) 162 _ rfl g (v * 4) rfl (ceC (ceAt l' v)) _ (fun w h => ce_range h hv') (by rfl) rfl (by kernel_rfl)) hHeld ?_
        simp only [Act.put, List.setIfInBounds_toArray, List.set_cons_zero, List.set_cons_succ]
        refine take_at (i := 7) (v := Value.slice (some ⟨g, 0, none⟩) l.length cap) (some 165) rfl rfl (by kernel_rfl) (by kernel_rfl) (by kernel_rfl) (fun _ _ _ h => h) (yieldsIf_move (by rfl) _ rfl _ rfl) hHeld ?_
        simp only [Act.put, List.setIfInBounds_toArray, List.set_cons_zero, List.set_cons_succ]
        refine take_at (i := 8) (v := Value.int .i64 h) (some 166) rfl rfl (by kernel_rfl) (by kernel_rfl) (by kernel_rfl) (fun _ _ _ h => h) (yieldsIf_move (by rfl) _ rfl _ rfl) hHeld ?_
        simp only [Act.put, List.setIfInBounds_toArray, List.set_cons_zero, List.set_cons_succ]
        refine take_at (i := 9) (v := Value.pointer (some ⟨g, h * 4, none⟩)) (some 167) rfl rfl (by kernel_rfl) (by kernel_rfl) (by kernel_rfl) (fun _ _ _ h => h) (Or.inl ⟨by rfl, fun W hW => ?_⟩) hHeld ?_
        · go_simp
        simp only [Act.put, List.setIfInBounds_toArray, List.set_cons_zero, List.set_cons_succ]
        refine take_at (i := 10) (v := .agg (ceC (ceAt l' h)).toArray) (some 168) rfl rfl (by kernel_rfl) (by kernel_rfl) (by kernel_rfl) (fun _ _ _ h => h) (yieldsIf_load_mid (by rfl) 162 _ rfl g (h * 4) rfl (ceC (ceAt l' h)) _ (fun w h => ce_range h hh') (by rfl) rfl (by kernel_rfl)) hHeld ?_
        simp only [Act.put, List.setIfInBounds_toArray, List.set_cons_zero, List.set_cons_succ]
        refine wpAnyH_ready (rs := [11]) (by kernel_rfl) (by simp) ?_
        refine AllReadyH.cons rfl (fun K5 hK5 => ?_) AllReadyH.nil
        go_simp
        go_at_call 103
        refine (ccmp_ce _ _ _ (hsp _ hv') (hsp _ hh')).mono ?_
        rintro e w5 ⟨rfl, hb5⟩
        go_wp2_with fail
        refine hK5.out _ _ (hHeld.below hb5 hHeld.lt) (fun hH5 => ?_)
        try simp only [Act.put, List.setIfInBounds_toArray, List.set_cons_zero, List.set_cons_succ]
        have hg5 := only_of_below hb5 (some g)
        obtain ⟨lt, hlt⟩ : ∃ x : Bool, x = decide ((ceAt l' v).sp - (ceAt l' h).sp < 0) := ⟨_, rfl⟩
        refine take_at (i := 12) (v := Value.bool lt) (some 170) rfl rfl (by kernel_rfl) (by kernel_rfl) (by kernel_rfl) (fun _ _ _ h => h) (Or.inl ⟨by rfl, fun W hW => ?_⟩) hH5 ?_
        · rw [hlt]; go_simp
        simp only [Act.put, List.setIfInBounds_toArray, List.set_cons_zero, List.set_cons_succ]
        refine take_at (i := 13) (v := Value.bool (!lt)) (some 171) rfl rfl (by kernel_rfl) (by kernel_rfl) (by kernel_rfl) (fun _ _ _ h => h) (Or.inl ⟨by rfl, fun W hW => ?_⟩) hH5 ?_
        · go_simp
        simp only [Act.put, List.setIfInBounds_toArray, List.set_cons_zero, List.set_cons_succ]
        refine wpAnyH_done (by kernel_rfl) ?_ _
        have HR0 := hide hH5
        have hgrd := hgrd.trans hg5
        clear hHeld hH5 hb5 hg5 hlt
        cases lt
        · go_wp2_with fail
          go_roundw
          case rel => exact ⟨h + 1, q, by omega, by omega, by omega, rfl, rfl, l', hp, HR0, hgrd⟩
          case measure => simp only [intOf]; omega
        · go_wp2_with fail
          go_roundw
          case rel => exact ⟨p, h, by omega, by omega, by omega, rfl, rfl, l', hp, HR0, hgrd⟩
          case measure => simp only [intOf]; omega
      · skip
        go_upto_region 39 with fail
        go_cut [185] from 178 (fun s wx => ∃ x : Bool, s = .bool x ∧ (x = true → p < m ∧ m < en) ∧ wx = wr)
        case first =>
          go_wp2_with fail
          all_goals go_meet
          all_goals refine ⟨_, rfl, ?_, rfl⟩
          all_goals (intro hx; first | (have hx2 := of_decide_eq_true hx; omega) | cases hx)
        case rest =>
          obtain ⟨x, rfl, hx, hw⟩ := hcut
          subst hw
          go_upto_if 185 with fail
          go_cut [] from 186 (fun wx => CeAt rs l g w wx)
          case first =>
            cases x
            · go_wp2_with fail
              go_meet
              exact ⟨l', hp, HR, hgr⟩
            · have hx := hx rfl
              have hc := rotate_any l' p m en g cap (.func (.func 103) #[] #[]) wc hx.1 hx.2 (by omega) (by omega) HR.out
              rw [hll] at hc
              go_wp2_with fail
              refine hc.mono ?_
              rintro e w1 ⟨rfl, l2, hp2, hB2, hg2⟩
              have HB2 := hide hB2
              have hg3 := hgr.trans hg2
              clear hB2 HR hc hgr hg2 hx
              go_wp2_with fail
              go_meet
              exact ⟨l2, hp2.trans hp, HB2, hg3⟩
          case rest =>
            clear HR hgr hp hll hx
            obtain ⟨l', hp, HR, hgr⟩ := hcut
            have hll := hp.length_eq
            go_upto_region 41 with fail
            go_cut [199] from 192 (fun s wx => ∃ x : Bool, s = .bool x ∧ (x = true → a < p ∧ p < d) ∧ wx = wc)
            case first =>
              go_wp2_with fail
              all_goals go_meet
              all_goals refine ⟨_, rfl, ?_, rfl⟩
              all_goals (intro hx; first | (have hx2 := of_decide_eq_true hx; omega) | cases hx)
            case rest =>
              obtain ⟨x, rfl, hx, hw⟩ := hcut
              subst hw
              go_upto_if 199 with fail
              go_cut [] from 200 (fun wx => CeAt rs l g w wx)
              case first =>
                cases x
                · go_wp2_with fail
                  go_meet
                  exact ⟨l', hp, HR, hgr⟩
                · have hx := hx rfl
                  have hc := IH.out l' a p d wc hx.1 hx.2 (by omega) (by omega) (by omega) (hs.perm hp) HR.out
                  rw [hll] at hc
                  go_wp2_with fail
                  refine hc.mono ?_
                  rintro e w1 ⟨rfl, l2, hp2, hB2, hg2⟩
                  have HB2 := hide hB2
                  have hg3 := hgr.trans hg2
                  clear hB2 HR hc hgr hg2 hx
                  go_wp2_with fail
                  go_meet
                  exact ⟨l2, hp2.trans hp, HB2, hg3⟩
              case rest =>
                clear HR hgr hp hll hx
                obtain ⟨l', hp, HR, hgr⟩ := hcut
                have hll := hp.length_eq
                go_upto_region 43 with fail
                go_cut [213] from 206 (fun s wx => ∃ x : Bool, s = .bool x ∧ (x = true → d < en ∧ en < b) ∧ wx = wc)
                case first =>
                  go_wp2_with fail
                  all_goals go_meet
                  all_goals refine ⟨_, rfl, ?_, rfl⟩
                  all_goals (intro hx; first | (have hx2 := of_decide_eq_true hx; omega) | cases hx)
                case rest =>
                  obtain ⟨x, rfl, hx, hw⟩ := hcut
                  subst hw
                  cases x
                  · go_wp2_with fail
                    go_end0
                    exact ⟨rfl, l', hp, HR.out, hgr⟩
                  · have hx := hx rfl
                    have hc := IH.out l' d en b wc hx.1 hx.2 (by omega) (by omega) (by omega) (hs.perm hp) HR.out
                    rw [hll] at hc
                    go_wp2_with fail
                    refine hc.mono ?_
                    rintro e w1 ⟨rfl, l2, hp2, hB2, hg2⟩
                    have HB2 := hide hB2
                    have hg3 := hgr.trans hg2
                    clear hB2 HR hc hgr hg2 hx
                    go_wp2_with fail
                    go_end0
                    exact ⟨rfl, l2, hp2.trans hp, HB2.out, hg3⟩
theorem sym_any (g cap : Nat) (rs : List Value) : ∀ N, SymOk g cap rs N
  | 0 => fun _ _ _ _ _ h1 h2 h3 _ _ _ _ => absurd h3 (by omega)
  | N + 1 => fun l a m b w h1 h2 h3 h4 h5 h6 h7 => sym_step g cap rs N (sym_any g cap rs N) l a m b w h1 h2 h3 h4 h5 h6 h7
end Go.Proofs.Ytadlabndbomgmaa
