/- The walk of parts: what is free, in parts. -/
import Derived.BigQuiet
import Derived.Handy
import Derived.IntWalk
import Derived.Deep.MidRow
import Derived.Deep.RegionHeld3
import Derived.Test.YtadlabndbomgmaaFlexC
namespace Go.Proofs.Ytadlabndbomgmaa
open Go.ChangeShapes Go.WideShapes Go.ChangeAt Go.RowKit
/-- The first k weights. -/
def wtTo (grows : Bool) (xs : List Fx) (st : Its) (k : Nat) : List Int := (List.range xs.length).map fun i => if i < k then wtO grows xs st i else 0
theorem wtTo_length (grows : Bool) (xs : List Fx) (st : Its) (k : Nat) : (wtTo grows xs st k).length = xs.length := by simp [wtTo]
theorem wtTo_zero (grows : Bool) (xs : List Fx) (st : Its) : wtTo grows xs st 0 = List.replicate xs.length 0 := by
  refine List.eq_replicate_iff.2 ⟨by simp [wtTo], fun b hb => ?_⟩
  simp [wtTo] at hb
  exact hb.2.symm
theorem wtTo_all (grows : Bool) (xs : List Fx) (st : Its) : wtTo grows xs st xs.length = wtsO grows xs st := by
  unfold wtTo wtsO
  exact List.map_congr_left fun i hi => by rw [if_pos (by simpa using hi)]
theorem wtTo_next (grows : Bool) (xs : List Fx) (st : Its) (k : Nat) (hk : k < xs.length) : (wtTo grows xs st k).set k (wtO grows xs st k) = wtTo grows xs st (k + 1) := by
  apply List.ext_getElem?
  intro q
  rw [List.getElem?_set]
  unfold wtTo
  by_cases hq : q < xs.length
  · by_cases e : k = q
    · subst e
      simp [hq]
    · simp only [if_neg e, List.getElem?_map, List.getElem?_range hq, Option.map_some]
      by_cases h : q < k
      · rw [if_pos h, if_pos (by omega)]
      · rw [if_neg h, if_neg (by omega)]
  · have h1 : ∀ f : Nat → Int, ((List.range xs.length).map f)[q]? = none := fun f => List.getElem?_eq_none (by simp; omega)
    rw [h1, h1]
    split
    · rw [if_neg (by simp; omega)]
    · rfl
theorem wtTo_same (grows : Bool) (xs : List Fx) (st : Its) (k : Nat) (hs : st.set k = true) : wtTo grows xs st (k + 1) = wtTo grows xs st k := by
  unfold wtTo
  refine List.map_congr_left fun i _ => ?_
  by_cases h : i < k
  · rw [if_pos h, if_pos (by omega)]
  · by_cases e : i = k
    · subst e
      rw [if_neg h, if_pos (by omega)]
      simp [wtO, hs]
    · rw [if_neg h, if_neg (by omega)]
/-- The first k turned about 0. -/
def negTo (l : List Int) (k : Nat) : List Int := (List.range l.length).map fun i => if i < k then -at0 l i else at0 l i
theorem negTo_length (l : List Int) (k : Nat) : (negTo l k).length = l.length := by simp [negTo]
theorem negTo_zero (l : List Int) : negTo l 0 = l := by
  apply List.ext_getElem?
  intro q
  unfold negTo
  by_cases hq : q < l.length
  · simp [hq, at0]
  · rw [List.getElem?_eq_none (by simp; omega), List.getElem?_eq_none (by omega)]
theorem negTo_all (l : List Int) : negTo l l.length = l.map fun x => -x := by
  apply List.ext_getElem?
  intro q
  unfold negTo
  by_cases hq : q < l.length
  · simp [hq, at0]
  · rw [List.getElem?_eq_none (by simp; omega), List.getElem?_eq_none (by simp; omega)]
theorem negTo_at (l : List Int) (k : Nat) (hk : k < l.length) : at0 (negTo l k) k = at0 l k := by
  rw [at0_of _ k (by rw [negTo_length]; exact hk)]; simp [negTo]
theorem negTo_next (l : List Int) (k : Nat) (hk : k < l.length) : (negTo l k).set k (-at0 l k) = negTo l (k + 1) := by
  apply List.ext_getElem?
  intro q
  rw [List.getElem?_set]
  unfold negTo
  by_cases hq : q < l.length
  · by_cases e : k = q
    · subst e
      simp [hq]
    · simp only [if_neg e, List.getElem?_map, List.getElem?_range hq, Option.map_some]
      by_cases h : q < k
      · rw [if_pos h, if_pos (by omega)]
      · rw [if_neg h, if_neg (by omega)]
  · have h1 : ∀ f : Nat → Int, ((List.range l.length).map f)[q]? = none := fun f => List.getElem?_eq_none (by simp; omega)
    rw [h1, h1]
    split
    · rw [if_neg (by simp; omega)]
    · rfl
theorem reads_ints {w : World} {b n : Nat} {ws : List Int} (h : Blk w b 3 (intsA ws)) (hn : ws.length = n) (hm : n ≤ maxLen) : Reads w w.heap.size 1 (some ⟨b, 0, none⟩) n (ws.map (Value.int .i64)) := by
  have h1 := own_of_blk (base := 0) (size := 1) (n := n) h (Nat.zero_le _) hm (by rw [intsA_size]; omega)
  rw [intsA_list] at h1
  exact Reads.of_own h1
set_option maxRecDepth 100000 in
set_option maxHeartbeats 2000000 in
theorem parts_any (rb g : Nat) (room free : Int) (grows : Bool) (xs : List Fx) (st : Its) (w : World) (hf : -1000000000000 ≤ free ∧ free ≤ 1000000000000) (hok : ∀ x ∈ xs, x.ok) (hn : xs.length ≤ 1000) (h : RowAt w rb g room grows xs st) :
    Calls Try.prog 129 #[.pointer (some ⟨rb, 0, none⟩), .int .i64 free] w fun e w' => ∃ v, e = .returned v ∧ w'.ownsRow w.heap.size 3 1 v xs.length ((partsO grows free (wtsO grows xs st)).map (Value.int .i64)) ∧ Below w.heap.size w w' := by
  obtain ⟨i0, hi0, hz0, hz1, hz2⟩ := info_parts int_info
  have hmk := fun W => run_make_rowN (P := Try.prog) 22 3 i0 _ Try.underlying22 hi0 hz0 .i64 .i64 xs.length xs.length (Nat.le_refl _) (by rw [hz2]; omega) (by omega) W
  rw [hz1, Nat.mul_one, show (Value.int .i64 0).cells = #[.int .i64 0] from rfl, made_ints, ← wtTo_zero grows xs st] at hmk
  have HS := hide (show (Try.prog.info? 3).map (·.size) = some 1 by kernel_rfl)
  have HK := hide hok
  have HR := hide h
  have c1 : w.cell? ⟨rb, 1, none⟩ = some (.slice (some ⟨g, 0, none⟩) xs.length xs.length) := h.1.cell 1
  have hltr := h.1.lt
  clear hz0 hz1 hz2 hi0 h hok
  have c1' : (w.alloc (.cells (intsA (wtTo grows xs st 0)) 3)).cell? ⟨rb, 1, none⟩ = some (.slice (some ⟨g, 0, none⟩) xs.length xs.length) := (World.cell?_alloc_lt w _ _ hltr).trans c1
  go_enter Try.func129, Try.ntmps129
  go_wp2_with fail
  clear c1' c1 hmk
  have hW0 := Blk.new w 3 (intsA (wtTo grows xs st 0))
  have hB0 : Below w.heap.size w (w.alloc (.cells (intsA (wtTo grows xs st 0)) 3)) := by go_grown
  have HW0 := hide hW0
  clear hW0
  generalize w.alloc (.cells (intsA (wtTo grows xs st 0)) 3) = wA at *
  go_loopw [21] (fun i wr => ∃ k : Nat, k ≤ xs.length ∧ i = .int .i64 k ∧ Blk wr w.heap.size 3 (intsA (wtTo grows xs st k)) ∧ Below w.heap.size w wr) (fun i _ => xs.length - (intOf i).toNat)
  case atStart => exact ⟨0, Nat.zero_le _, rfl, HW0.out, hB0⟩
  case round =>
    obtain ⟨k, hk, rfl, hblk, hbel⟩ := hrel
    have HBk := hide hblk
    have hszr := hbel.size
    have hltw := hblk.lt
    clear hblk
    have HRr := hide (HR.out.below hbel)
    have e1 : wr.cell? ⟨rb, 1, none⟩ = some (.slice (some ⟨g, 0, none⟩) xs.length xs.length) := HRr.out.1.cell 1
    have e2 : wr.cell? ⟨rb, 2, none⟩ = some (.bool grows) := HRr.out.1.cell 2
    by_cases hlt : k < xs.length
    · have cc := itCell HRr.out.2 hlt
      have PN := hide (wtTo_next grows xs st k hlt)
      have PS := hide (wtTo_same grows xs st k)
      have PW := hide (show wtO grows xs st k = if st.set k then 0 else if grows then (fxAt xs k).g else partOf (fxAt xs k).s (max 0 (fxAt xs k).b) 64 from rfl)
      have hsz := hide (show k < (intsA (wtTo grows xs st k)).size from by rw [intsA_size, wtTo_length]; exact hlt)
      have hk1 : (0 : Int) ≤ (k : Int) := by omega
      have hk2 : (k : Int) < (xs.length : Int) := by omega
      cases hs : st.set k
      · cases grows
        · skip
          have PW1 : wtO false xs st k = _ := PW.out
          rw [hs] at cc PW1
          have HSK := hide hs
          generalize st.is k = ik at *
          generalize fxAt xs k = x at *
          have d0 : wr.cell? ⟨g, k * 9, none⟩ = some (.int .i64 x.b) := cc 0 (by omega)
          have d1 : wr.cell? ⟨g, k * 9 + 1, none⟩ = some (.int .i64 x.le) := cc 1 (by omega)
          have d2 : wr.cell? ⟨g, k * 9 + 2, none⟩ = some (.int .i64 x.mo) := cc 2 (by omega)
          have d3 : wr.cell? ⟨g, k * 9 + 3, none⟩ = some (.int .i64 x.g) := cc 3 (by omega)
          have d4 : wr.cell? ⟨g, k * 9 + 4, none⟩ = some (.int .i64 x.s) := cc 4 (by omega)
          have d5 : wr.cell? ⟨g, k * 9 + 5, none⟩ = some (.int .i64 x.e) := cc 5 (by omega)
          have d6 : wr.cell? ⟨g, k * 9 + 6, none⟩ = some (.int .i64 x.lng) := cc 6 (by omega)
          have d7 : wr.cell? ⟨g, k * 9 + 7, none⟩ = some (.bool false) := cc 7 (by omega)
          have d8 : wr.cell? ⟨g, k * 9 + 8, none⟩ = some (.int .i64 ik) := cc 8 (by omega)
          have e2a : (wr.alloc (.cells #[.int .i64 x.b, .int .i64 x.le, .int .i64 x.mo, .int .i64 x.g, .int .i64 x.s, .int .i64 x.e, .int .i64 x.lng, .bool false, .int .i64 ik] 149)).cell? ⟨rb, 2, none⟩ = some (.bool false) := (World.cell?_alloc_lt wr _ _ (cell_lt e2)).trans e2
          have HBA := hide (HBk.out.alloc (.cells #[.int .i64 x.b, .int .i64 x.le, .int .i64 x.mo, .int .i64 x.g, .int .i64 x.s, .int .i64 x.e, .int .i64 x.lng, .bool false, .int .i64 ik] 149))
          have hbA := hbel.alloc hszr (.cells #[.int .i64 x.b, .int .i64 x.le, .int .i64 x.mo, .int .i64 x.g, .int .i64 x.s, .int .i64 x.e, .int .i64 x.lng, .bool false, .int .i64 ik] 149)
          clear cc hs PW
          have PX := hide (show (wtTo false xs st k).set k (partOf x.s (max 0 x.b) 64) = wtTo false xs st (k + 1) from by rw [← PN.out, PW1]; rfl)
          clear PW1
          go_wp2_with (first | (go_at_call 27; refine (part_any _ _ _ _ (by omega)).mono ?_; rintro e w' ⟨rfl, rfl⟩) | (refine wpList_store_fld rfl 3 _ _ rfl w.heap.size k 3 (intsA _) (.int .i64 (partOf x.s (max 0 x.b) 64)) rfl rfl HBA.out hsz.out HS.out rfl rfl ?_; intro w5 hB5 hg5; rw [intsA_set, PX.out] at hB5; have hb6 := below_grown hbA (Nat.le_refl _) hg5 (Nat.le_refl _)) | fail)
          go_roundw
          case rel => exact ⟨k + 1, by omega, by go_num, hB5, hb6⟩
          case measure => simp [intOf]; omega
        · skip
          have PW1 : wtO true xs st k = _ := PW.out
          rw [hs] at cc PW1
          have HSK := hide hs
          generalize st.is k = ik at *
          generalize fxAt xs k = x at *
          have d0 : wr.cell? ⟨g, k * 9, none⟩ = some (.int .i64 x.b) := cc 0 (by omega)
          have d1 : wr.cell? ⟨g, k * 9 + 1, none⟩ = some (.int .i64 x.le) := cc 1 (by omega)
          have d2 : wr.cell? ⟨g, k * 9 + 2, none⟩ = some (.int .i64 x.mo) := cc 2 (by omega)
          have d3 : wr.cell? ⟨g, k * 9 + 3, none⟩ = some (.int .i64 x.g) := cc 3 (by omega)
          have d4 : wr.cell? ⟨g, k * 9 + 4, none⟩ = some (.int .i64 x.s) := cc 4 (by omega)
          have d5 : wr.cell? ⟨g, k * 9 + 5, none⟩ = some (.int .i64 x.e) := cc 5 (by omega)
          have d6 : wr.cell? ⟨g, k * 9 + 6, none⟩ = some (.int .i64 x.lng) := cc 6 (by omega)
          have d7 : wr.cell? ⟨g, k * 9 + 7, none⟩ = some (.bool false) := cc 7 (by omega)
          have d8 : wr.cell? ⟨g, k * 9 + 8, none⟩ = some (.int .i64 ik) := cc 8 (by omega)
          have e2a : (wr.alloc (.cells #[.int .i64 x.b, .int .i64 x.le, .int .i64 x.mo, .int .i64 x.g, .int .i64 x.s, .int .i64 x.e, .int .i64 x.lng, .bool false, .int .i64 ik] 149)).cell? ⟨rb, 2, none⟩ = some (.bool true) := (World.cell?_alloc_lt wr _ _ (cell_lt e2)).trans e2
          have HBA := hide (HBk.out.alloc (.cells #[.int .i64 x.b, .int .i64 x.le, .int .i64 x.mo, .int .i64 x.g, .int .i64 x.s, .int .i64 x.e, .int .i64 x.lng, .bool false, .int .i64 ik] 149))
          have hbA := hbel.alloc hszr (.cells #[.int .i64 x.b, .int .i64 x.le, .int .i64 x.mo, .int .i64 x.g, .int .i64 x.s, .int .i64 x.e, .int .i64 x.lng, .bool false, .int .i64 ik] 149)
          clear cc hs PW
          have PX := hide (show (wtTo true xs st k).set k x.g = wtTo true xs st (k + 1) from by rw [← PN.out, PW1]; rfl)
          clear PW1
          go_wp2_with (first | (refine wpList_store_fld rfl 3 _ _ rfl w.heap.size k 3 (intsA _) (.int .i64 x.g) rfl rfl HBA.out hsz.out HS.out rfl rfl ?_; intro w5 hB5 hg5; rw [intsA_set, PX.out] at hB5; have hb6 := below_grown hbA (Nat.le_refl _) hg5 (Nat.le_refl _)) | fail)
          go_roundw
          case rel => exact ⟨k + 1, by omega, by go_num, hB5, hb6⟩
          case measure => simp [intOf]; omega
      · skip
        have PW1 : wtO grows xs st k = _ := PW.out
        rw [hs] at cc PW1
        have HSK := hide hs
        generalize st.is k = ik at *
        generalize fxAt xs k = x at *
        have d0 : wr.cell? ⟨g, k * 9, none⟩ = some (.int .i64 x.b) := cc 0 (by omega)
        have d1 : wr.cell? ⟨g, k * 9 + 1, none⟩ = some (.int .i64 x.le) := cc 1 (by omega)
        have d2 : wr.cell? ⟨g, k * 9 + 2, none⟩ = some (.int .i64 x.mo) := cc 2 (by omega)
        have d3 : wr.cell? ⟨g, k * 9 + 3, none⟩ = some (.int .i64 x.g) := cc 3 (by omega)
        have d4 : wr.cell? ⟨g, k * 9 + 4, none⟩ = some (.int .i64 x.s) := cc 4 (by omega)
        have d5 : wr.cell? ⟨g, k * 9 + 5, none⟩ = some (.int .i64 x.e) := cc 5 (by omega)
        have d6 : wr.cell? ⟨g, k * 9 + 6, none⟩ = some (.int .i64 x.lng) := cc 6 (by omega)
        have d7 : wr.cell? ⟨g, k * 9 + 7, none⟩ = some (.bool true) := cc 7 (by omega)
        have d8 : wr.cell? ⟨g, k * 9 + 8, none⟩ = some (.int .i64 ik) := cc 8 (by omega)
        have e2a : (wr.alloc (.cells #[.int .i64 x.b, .int .i64 x.le, .int .i64 x.mo, .int .i64 x.g, .int .i64 x.s, .int .i64 x.e, .int .i64 x.lng, .bool true, .int .i64 ik] 149)).cell? ⟨rb, 2, none⟩ = some (.bool grows) := (World.cell?_alloc_lt wr _ _ (cell_lt e2)).trans e2
        have HBA := hide (HBk.out.alloc (.cells #[.int .i64 x.b, .int .i64 x.le, .int .i64 x.mo, .int .i64 x.g, .int .i64 x.s, .int .i64 x.e, .int .i64 x.lng, .bool true, .int .i64 ik] 149))
        have hbA := hbel.alloc hszr (.cells #[.int .i64 x.b, .int .i64 x.le, .int .i64 x.mo, .int .i64 x.g, .int .i64 x.s, .int .i64 x.e, .int .i64 x.lng, .bool true, .int .i64 ik] 149)
        clear cc hs PW
        clear PW1
        go_wp2_with fail
        go_roundw
        case rel => exact ⟨k + 1, by omega, by go_num, by rw [PS.out HSK.out]; exact HBA.out, hbA⟩
        case measure => simp [intOf]; omega
    · obtain rfl : k = xs.length := by omega
      rw [wtTo_all] at HBk
      have hrd := reads_ints (n := xs.length) HBk.out (wts_length _ _ _) (by unfold maxLen; omega)
      have HRD := hide hrd
      clear hrd
      cases grows
      · obtain ⟨wo, rfl⟩ : ∃ wo : World, wo = wr := ⟨_, rfl⟩
        have HSH := hide (show partsO false free (wtsO false xs st) = negTo (shared (max 0 (-free)) (wtsO false xs st)) (shared (max 0 (-free)) (wtsO false xs st)).length from by rw [negTo_all]; rfl)
        have hsl : (shared (max 0 (-free)) (wtsO false xs st)).length = xs.length := by rw [shared_length, wts_length]
        have hsb : ∀ k, 0 ≤ at0 (shared (max 0 (-free)) (wtsO false xs st)) k ∧ at0 (shared (max 0 (-free)) (wtsO false xs st)) k ≤ 16777216 := fun k => ⟨shared_nonneg _ (by omega) k, shared_le _ (by omega) k⟩
        have HSL := hide hsl
        have HSB := hide hsb
        clear hsl hsb
        go_wp2_with (first | (go_at_call 32; refine (Share_any (max 0 (-free)) _ _ _ (wtsO false xs st) _ HRD.out (by omega)).mono ?_; rintro e w5 ⟨v, rfl, hown, hb5⟩; obtain ⟨A, c, rfl, hcx, _⟩ := own_reads hown; have HO := hide hown; clear hown) | fail)
        generalize shared (max 0 (-free)) (wtsO false xs st) = sh at *
        have hz := negTo_zero sh
        have HO1 := hide (show w5.ownsRow wo.heap.size 3 1 (.slice A xs.length c) xs.length ((negTo sh 0).map (Value.int .i64)) from by rw [hz]; exact HO.out)
        clear hz HO
        go_loopw [67] (fun i wr => ∃ k : Nat, k ≤ xs.length ∧ i = .int .i64 k ∧ wr.ownsRow wo.heap.size 3 1 (.slice A xs.length c) xs.length ((negTo sh k).map (Value.int .i64)) ∧ Below wo.heap.size wo wr) (fun i _ => xs.length - (intOf i).toNat)
        case atStart => exact ⟨0, Nat.zero_le _, rfl, HO1.out, hb5⟩
        case round =>
          obtain ⟨k, hk, rfl, hown, hbq⟩ := hrel
          have HOq := hide hown
          clear hown
          by_cases hlk : k < xs.length
          · obtain ⟨g2, cap2, hv2, hg2, hlt2⟩ := HOq.out.form (by omega)
            injection hv2 with hA2 _ _
            subst hA2
            have hce : wr.cell? ⟨g2, k, none⟩ = some (.int .i64 (at0 sh k)) := by
              rw [HOq.out.cellAt k (by omega), List.getElem?_map, List.getElem?_eq_getElem (by rw [negTo_length, HSL.out]; exact hlk), Option.map_some, ← at0_of (negTo sh k) k (by rw [negTo_length, HSL.out]; exact hlk), negTo_at sh k (by rw [HSL.out]; exact hlk)]
            have hfr : wr.frozen? ⟨g2, k, none⟩ = false := HOq.out.frozenAt k
            have hsb := HSB.out k
            have PN := hide (negTo_next sh k (by rw [HSL.out]; exact hlk))
            have hst := (HOq.out.stored k (.int .i64 (-at0 sh k)))
            rw [← List.map_set, PN.out] at hst
            have HST := hide hst
            clear hst
            generalize at0 sh k = y at *
            have hk1 : (0 : Int) ≤ (k : Int) := by omega
            have hk2 : (k : Int) < (xs.length : Int) := by omega
            go_wp2_with fail
            refine ⟨⟨k + 1, by omega, by go_num, HST.out.1, hbq.setCell hg2 _⟩, ?_⟩
            simp only [intOf]
            omega
          · obtain rfl : k = xs.length := by omega
            go_wp2_with fail
            go_ret
            exact ⟨_, rfl, by rw [HSH.out, HSL.out]; exact own_mono HOq.out hszr, below_then hbel (Nat.le_refl _) hbq⟩
      · go_wp2_with (first | (go_at_call 32; refine (Share_any (max 0 free) _ _ _ (wtsO true xs st) _ HRD.out (by omega)).mono ?_; rintro e w5 ⟨v, rfl, hown, hb5⟩) | fail)
        go_ret
        exact ⟨v, rfl, own_mono hown hszr, below_then hbel (Nat.le_refl _) hb5⟩
end Go.Proofs.Ytadlabndbomgmaa
