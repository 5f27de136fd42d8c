/- The walk of turn. -/
import Derived.BigQuiet
import Derived.Handy
import Derived.IntWalk
import Derived.Deep.MidRow
import Derived.Deep.RegionHeld3
import Derived.Test.YtadlabndbomgmaaFlexP
namespace Go.Proofs.Ytadlabndbomgmaa
open Go.ChangeShapes Go.WideShapes Go.ChangeAt Go.RowKit
theorem partOf_bd' (a b c : Int) : -16777216 ≤ partOf a b c ∧ partOf a b c ≤ 16777216 := by
  have h3 := cut_lo (cut a * cut b / cut c)
  have h4 := cut_hi (cut a * cut b / cut c)
  unfold partOf
  omega
theorem facTo_succ (grows : Bool) (xs : List Fx) (st : Its) (k : Nat) : facTo grows xs st (k + 1) = facTo grows xs st k + (if st.set k then 0 else facO grows (fxAt xs k)) := rfl
theorem facTo_bd (grows : Bool) {xs : List Fx} (hok : ∀ x ∈ xs, x.ok) (st : Its) (k : Nat) : 0 ≤ facTo grows xs st k ∧ facTo grows xs st k ≤ 66535 * k := by
  have h := fsum_bd (f := fun i => if st.set i then 0 else facO grows (fxAt xs i)) (lo := 0) (hi := 66535) (k := k) fun i _ => by
    have h1 := fxAt_ok hok i
    unfold Fx.ok at h1
    unfold facO
    split
    · omega
    · split <;> omega
  rw [Int.zero_mul] at h
  exact h
theorem freeO_bd {room first : Int} {grows : Bool} {xs : List Fx} {st : Its} (h : -1000000000000 ≤ nowTo room xs (valO xs st) xs.length ∧ nowTo room xs (valO xs st) xs.length ≤ 1000000000000) : -1000000000000 ≤ freeO room grows xs st first ∧ freeO room grows xs st first ≤ 1000000000000 := by
  have hp := partOf_bd' first (facTo grows xs st xs.length) 1000
  unfold freeO nearO
  split
  · split <;> omega
  · exact h
/-- The state behind k rounds of the second loop, and of the third. -/
def stA (xs : List Fx) (st : Its) (ps : List Int) (k : Nat) : Its := ⟨st.set, fun i => if i < k && !st.set i then isO xs ps i else st.is i⟩
def byTo (xs : List Fx) (st : Its) (ps : List Int) (k : Nat) : List Int := (List.range xs.length).map fun i => if i < k then byO xs st ps i else 0
theorem byTo_length (xs : List Fx) (st : Its) (ps : List Int) (k : Nat) : (byTo xs st ps k).length = xs.length := by simp [byTo]
theorem byTo_zero (xs : List Fx) (st : Its) (ps : List Int) : byTo xs st ps 0 = List.replicate xs.length 0 := by
  refine List.eq_replicate_iff.2 ⟨by simp [byTo], fun b hb => ?_⟩
  simp [byTo] at hb
  exact hb.2.symm
theorem byTo_next (xs : List Fx) (st : Its) (ps : List Int) (k : Nat) (hk : k < xs.length) : (byTo xs st ps k).set k (byO xs st ps k) = byTo xs st ps (k + 1) := by
  apply List.ext_getElem?
  intro q
  rw [List.getElem?_set]
  unfold byTo
  by_cases hq : q < xs.length
  · by_cases e : k = q
    · subst e
      simp [hq]
    · simp only [if_neg e, List.getElem?_map, List.getElem?_range hq, Option.map_some]
      by_cases h : q < k
      · rw [if_pos h, if_pos (by omega)]
      · rw [if_neg h, if_neg (by omega)]
  · have h1 : ∀ f : Nat → Int, ((List.range xs.length).map f)[q]? = none := fun f => List.getElem?_eq_none (by simp; omega)
    rw [h1, h1]
    split
    · rw [if_neg (by simp; omega)]
    · rfl
theorem byTo_same (xs : List Fx) (st : Its) (ps : List Int) (k : Nat) (hs : st.set k = true) : byTo xs st ps (k + 1) = byTo xs st ps k := by
  unfold byTo
  refine List.map_congr_left fun i _ => ?_
  by_cases h : i < k
  · rw [if_pos h, if_pos (by omega)]
  · by_cases e : i = k
    · subst e
      rw [if_neg h, if_pos (by omega)]
      simp [byO, hs]
    · rw [if_neg h, if_neg (by omega)]
theorem stA_zero (xs : List Fx) (st : Its) (ps : List Int) : itV xs (stA xs st ps 0) = itV xs st := flat_congr fun i _ => by simp [stA]
theorem stA_same (xs : List Fx) (st : Its) (ps : List Int) (k : Nat) (hs : st.set k = true) : itV xs (stA xs st ps (k + 1)) = itV xs (stA xs st ps k) := flat_congr fun i _ => by
  simp only [stA]
  by_cases e : i = k
  · subst e; simp [hs]
  · congr 1
    by_cases h : i < k
    · rw [decide_eq_true h, decide_eq_true (show i < k + 1 by omega)]
    · rw [decide_eq_false h, decide_eq_false (show ¬ i < k + 1 by omega)]
theorem stA_next (xs : List Fx) (st : Its) (ps : List Int) (k : Nat) (hk : k < xs.length) (hs : st.set k = false) : (itV xs (stA xs st ps k)).set (k * 9 + 8) (.int .i64 (isO xs ps k)) = itV xs (stA xs st ps (k + 1)) :=
  itV_setCell xs _ _ k 8 _ hk (by omega) (by simp [stA, itC, hs]) (fun i hne => by
    refine ⟨rfl, ?_⟩
    simp only [stA]
    by_cases h : i < k
    · rw [decide_eq_true h, decide_eq_true (show i < k + 1 by omega)]
    · rw [decide_eq_false h, decide_eq_false (show ¬ i < k + 1 by omega)])
def stB (xs : List Fx) (st : Its) (ps : List Int) (k : Nat) : Its := ⟨fun i => st.set i || (decide (i < k) && settleO (fsum (byO xs st ps) xs.length) (byO xs st ps i)), fun i => if st.set i then st.is i else isO xs ps i⟩
theorem stB_zero (xs : List Fx) (st : Its) (ps : List Int) : itV xs (stB xs st ps 0) = itV xs (stA xs st ps xs.length) := flat_congr fun i hi => by
  simp only [stA, stB]
  cases hs : st.set i <;> simp [hi]
theorem stB_all (xs : List Fx) (st : Its) (ps : List Int) : itV xs (stB xs st ps xs.length) = itV xs (turnP xs st ps) := flat_congr fun i hi => by
  simp only [stB, turnP]
  rw [decide_eq_true hi]
  simp
theorem stB_same (xs : List Fx) (st : Its) (ps : List Int) (k : Nat) (hs : settleO (fsum (byO xs st ps) xs.length) (byO xs st ps k) = false) : itV xs (stB xs st ps (k + 1)) = itV xs (stB xs st ps k) := flat_congr fun i _ => by
  simp only [stB]
  by_cases e : i = k
  · subst e; simp [hs]
  · congr 2
    by_cases h : i < k
    · rw [decide_eq_true h, decide_eq_true (show i < k + 1 by omega)]
    · rw [decide_eq_false h, decide_eq_false (show ¬ i < k + 1 by omega)]
theorem stB_next (xs : List Fx) (st : Its) (ps : List Int) (k : Nat) (hk : k < xs.length) (hs : settleO (fsum (byO xs st ps) xs.length) (byO xs st ps k) = true) : (itV xs (stB xs st ps k)).set (k * 9 + 7) (.bool true) = itV xs (stB xs st ps (k + 1)) :=
  itV_setCell xs _ _ k 7 _ hk (by omega) (by simp [stB, itC, hs]) (fun i hne => by
    refine ⟨?_, rfl⟩
    simp only [stB]
    congr 2
    by_cases h : i < k
    · rw [decide_eq_true h, decide_eq_true (show i < k + 1 by omega)]
    · rw [decide_eq_false h, decide_eq_false (show ¬ i < k + 1 by omega)])
theorem byO_bd {xs : List Fx} (hok : ∀ x ∈ xs, x.ok) (st : Its) (ps : List Int) (k : Nat) : -33554432 ≤ byO xs st ps k ∧ byO xs st ps k ≤ 33554432 := by
  have h1 := fxAt_ok hok k
  have h2 := betw_ok h1 (wouldO xs ps k)
  have h3 := cut_lo (wouldO xs ps k)
  have h4 := cut_hi (wouldO xs ps k)
  unfold Fx.ok at h1
  unfold okIs at h2
  unfold byO isO
  split
  · omega
  · omega
set_option maxRecDepth 100000 in
set_option maxHeartbeats 4000000 in
theorem turn_any (rb g : Nat) (room first : Int) (grows : Bool) (xs : List Fx) (st : Its) (w : World) (hr : -1000000000 ≤ room ∧ room ≤ 1000000000) (hok : ∀ x ∈ xs, x.ok) (hn : xs.length ≤ 1000) (hv : ∀ k, k < xs.length → -16777216 ≤ valO xs st k ∧ valO xs st k ≤ 16777216) (h : RowAt w rb g room grows xs st) :
    Calls Try.prog 95 #[.pointer (some ⟨rb, 0, none⟩), .int .i64 first] w fun e w' => e = .returned (.tuple #[]) ∧ RowAt w' rb g room grows xs (turnO room grows xs first st) ∧ w.grownBy w' (some g) := by
  have HK := hide hok
  have HV := hide hv
  have HR := hide h
  have HT := hide (show turnO room grows xs first st = turnP xs st (partsO grows (freeO room grows xs st first) (wtsO grows xs st)) from rfl)
  obtain ⟨i0, hi0, hz0, hz1, hz2⟩ := info_parts int_info
  have hmk := fun W => run_make_rowN (P := Try.prog) 22 3 i0 _ Try.underlying22 hi0 hz0 .i64 .i64 xs.length xs.length (Nat.le_refl _) (by rw [hz2]; omega) (by omega) W
  rw [hz1, Nat.mul_one, show (Value.int .i64 0).cells = #[.int .i64 0] from rfl, made_ints] at hmk
  have HMK := hide hmk
  have HS := hide (show (Try.prog.info? 3).map (·.size) = some 1 by kernel_rfl)
  clear hz0 hz1 hz2 hi0 hmk
  have hbnow := nowTo_bd room xs (valO xs st) hr hok hn hv xs.length (Nat.le_refl _)
  have hbfree := freeO_bd (first := first) (grows := grows) hbnow
  have HFR := hide (show freeO room grows xs st first = if facTo grows xs st xs.length < 1000 then nearO (nowTo room xs (valO xs st) xs.length) (partOf first (facTo grows xs st xs.length) 1000) else nowTo room xs (valO xs st) xs.length from rfl)
  clear hok hv h
  go_enter Try.func95, Try.ntmps95
  go_wp2_with fail
  refine (now_any rb g room grows xs st w hr HK.out hn HV.out HR.out).mono ?_
  rintro e w1 ⟨rfl, hb1⟩
  have HR1 := hide (HR.out.below hb1)
  have c1 : w1.cell? ⟨rb, 1, none⟩ = some (.slice (some ⟨g, 0, none⟩) xs.length xs.length) := HR1.out.1.cell 1
  generalize hnow : nowTo room xs (valO xs st) xs.length = nw at *
  have TN := hide hnow
  clear hnow
  go_wp2_with fail
  go_loopw [5, 22] (fun s i wr => ∃ k : Nat, k ≤ xs.length ∧ i = .int .i64 k ∧ s = .int .i64 (facTo grows xs st k) ∧ Below w1.heap.size w1 wr) (fun _ i _ => xs.length - (intOf i).toNat)
  case atStart => exact ⟨0, Nat.zero_le _, rfl, rfl, Below.refl _ _⟩
  case round =>
    obtain ⟨k, hk, rfl, rfl, hbel⟩ := hrel
    have hszr := hbel.size
    have HRr := hide (HR1.out.below hbel)
    have e2 : wr.cell? ⟨rb, 2, none⟩ = some (.bool grows) := HRr.out.1.cell 2
    by_cases hlt : k < xs.length
    · have cc := itCell HRr.out.2 hlt
      have P0 := hide (facTo_succ grows xs st k)
      have b1 := facTo_bd grows HK.out st k
      have hfx : 0 ≤ facO grows (fxAt xs k) ∧ facO grows (fxAt xs k) ≤ 66535 := by
        have h1 := fxAt_ok HK.out k
        unfold Fx.ok at h1
        unfold facO
        split <;> omega
      generalize facTo grows xs st k = fk at *
      cases hs : st.set k
      · have P1 := P0.out
        rw [hs] at cc P1
        have P2 := hide (show facTo grows xs st (k + 1) = fk + facO grows (fxAt xs k) from P1)
        clear hs P0 P1
        generalize st.is k = ik at *
        generalize fxAt xs k = x at *
        have d0 : wr.cell? ⟨g, k * 9, none⟩ = some (.int .i64 x.b) := cc 0 (by omega)
        have d1 : wr.cell? ⟨g, k * 9 + 1, none⟩ = some (.int .i64 x.le) := cc 1 (by omega)
        have d2 : wr.cell? ⟨g, k * 9 + 2, none⟩ = some (.int .i64 x.mo) := cc 2 (by omega)
        have d3 : wr.cell? ⟨g, k * 9 + 3, none⟩ = some (.int .i64 x.g) := cc 3 (by omega)
        have d4 : wr.cell? ⟨g, k * 9 + 4, none⟩ = some (.int .i64 x.s) := cc 4 (by omega)
        have d5 : wr.cell? ⟨g, k * 9 + 5, none⟩ = some (.int .i64 x.e) := cc 5 (by omega)
        have d6 : wr.cell? ⟨g, k * 9 + 6, none⟩ = some (.int .i64 x.lng) := cc 6 (by omega)
        have d7 : wr.cell? ⟨g, k * 9 + 7, none⟩ = some (.bool false) := cc 7 (by omega)
        have d8 : wr.cell? ⟨g, k * 9 + 8, none⟩ = some (.int .i64 ik) := cc 8 (by omega)
        have e2a : (wr.alloc (.cells #[.int .i64 x.b, .int .i64 x.le, .int .i64 x.mo, .int .i64 x.g, .int .i64 x.s, .int .i64 x.e, .int .i64 x.lng, .bool false, .int .i64 ik] 149)).cell? ⟨rb, 2, none⟩ = some (.bool grows) := (World.cell?_alloc_lt wr _ _ (cell_lt e2)).trans e2
        have hbA := hbel.alloc hszr (.cells #[.int .i64 x.b, .int .i64 x.le, .int .i64 x.mo, .int .i64 x.g, .int .i64 x.s, .int .i64 x.e, .int .i64 x.lng, .bool false, .int .i64 ik] 149)
        clear cc
        go_wp2_with (first | (go_at_call 91; refine (factor_any x false ik rb grows _ e2a).mono ?_; rintro e w5 ⟨rfl, hb5⟩) | fail)
        go_roundw
        case rel => exact ⟨k + 1, by omega, by go_num, by rw [P2.out], below_then hbA (Nat.le_refl _) hb5⟩
        case measure => simp [intOf]; omega
      · have P1 := P0.out
        rw [hs] at cc P1
        have P2 := hide (show facTo grows xs st (k + 1) = fk from by rw [P1]; simp)
        clear hs P0 P1
        generalize st.is k = ik at *
        generalize fxAt xs k = x at *
        have d0 : wr.cell? ⟨g, k * 9, none⟩ = some (.int .i64 x.b) := cc 0 (by omega)
        have d1 : wr.cell? ⟨g, k * 9 + 1, none⟩ = some (.int .i64 x.le) := cc 1 (by omega)
        have d2 : wr.cell? ⟨g, k * 9 + 2, none⟩ = some (.int .i64 x.mo) := cc 2 (by omega)
        have d3 : wr.cell? ⟨g, k * 9 + 3, none⟩ = some (.int .i64 x.g) := cc 3 (by omega)
        have d4 : wr.cell? ⟨g, k * 9 + 4, none⟩ = some (.int .i64 x.s) := cc 4 (by omega)
        have d5 : wr.cell? ⟨g, k * 9 + 5, none⟩ = some (.int .i64 x.e) := cc 5 (by omega)
        have d6 : wr.cell? ⟨g, k * 9 + 6, none⟩ = some (.int .i64 x.lng) := cc 6 (by omega)
        have d7 : wr.cell? ⟨g, k * 9 + 7, none⟩ = some (.bool true) := cc 7 (by omega)
        have d8 : wr.cell? ⟨g, k * 9 + 8, none⟩ = some (.int .i64 ik) := cc 8 (by omega)
        clear cc
        go_wp2_with fail
        go_roundw
        case rel => exact ⟨k + 1, by omega, by go_num, by rw [P2.out], hbel.alloc hszr _⟩
        case measure => simp [intOf]; omega
    · obtain rfl : k = xs.length := by omega
      obtain ⟨wo, rfl⟩ : ∃ wo : World, wo = wr := ⟨_, rfl⟩
      have hbf := facTo_bd grows HK.out st xs.length
      have hbp := partOf_bd' first (facTo grows xs st xs.length) 1000
      generalize facTo grows xs st xs.length = fa at *
      by_cases hf : fa < 1000
      case' pos =>
        have HF2 := HFR.out
        rw [if_pos hf] at HF2
        have HF3 := hide HF2
        clear HF2 HFR
        go_wp2_with (first | (go_at_call 27; refine (part_any _ _ _ _ (by omega)).mono ?_; rintro e w' ⟨rfl, rfl⟩) | (go_at_call 128; refine (near_any _ _ _ (by omega) (by omega)).mono ?_; rintro e w' ⟨rfl, rfl⟩; rw [← HF3.out]) | fail)
        clear HF3
      case' neg =>
        have HF2 := HFR.out
        rw [if_neg hf] at HF2
        clear HFR
        go_wp2_with fail
        rw [← HF2]
        clear HF2
      all_goals
        obtain ⟨fr, hfr⟩ : ∃ fr : Int, fr = freeO room grows xs st first := ⟨_, rfl⟩
        rw [← hfr] at hbfree HT ⊢
        clear hfr
        have hmk := HMK.out
        go_wp2_with (first | (go_at_call 129; refine (parts_any rb g room fr grows xs st wo hbfree HK.out hn HRr.out).mono ?_; rintro e w5 ⟨v, rfl, hown, hb5⟩; obtain ⟨A, c, rfl, hcx, _⟩ := own_reads hown; have HO := hide hown; clear hown; have HR5 := hide (HRr.out.below hb5); have c5 : w5.cell? ⟨rb, 1, none⟩ = some (.slice (some ⟨g, 0, none⟩) xs.length xs.length) := HR5.out.1.cell 1; have hltr5 := HR5.out.1.lt; have c5a : (w5.alloc (.cells (intsA (List.replicate xs.length 0)) 3)).cell? ⟨rb, 1, none⟩ = some (.slice (some ⟨g, 0, none⟩) xs.length xs.length) := (World.cell?_alloc_lt w5 _ _ hltr5).trans c5) | fail)
        clear c5 c5a hmk
        have HG2 := hide (show 0 < xs.length → ∀ ga, A = some ⟨ga, 0, none⟩ → ga < w5.heap.size from fun h0 ga hA => by
          obtain ⟨g2, cap2, hv2, hg2, hlt2⟩ := HO.out.form (by omega)
          injection hv2 with hA2 _ _
          rw [hA] at hA2
          injection hA2 with hA3
          injection hA3 with hA4
          rw [hA4]
          exact hlt2)
        have hps := parts_bd grows fr (wtsO grows xs st)
        have hpl : (partsO grows fr (wtsO grows xs st)).length = xs.length := by
          unfold partsO
          split
          · rw [shared_length, wts_length]
          · rw [List.length_map, shared_length, wts_length]
        have HPS := hide hps
        have HPL := hide hpl
        clear hps hpl
        generalize partsO grows fr (wtsO grows xs st) = ps at *
        have hW0 := Blk.new w5 3 (intsA (List.replicate xs.length 0))
        have hOA := HO.out.alloc (.cells (intsA (List.replicate xs.length 0)) 3)
        have hB0 : Below w5.heap.size w5 (w5.alloc (.cells (intsA (List.replicate xs.length 0)) 3)) := by go_grown
        rw [← byTo_zero xs st ps] at hW0 hOA hB0 ⊢
        have hRA : RowAt (w5.alloc (.cells (intsA (byTo xs st ps 0)) 3)) rb g room grows xs (stA xs st ps 0) := ⟨(HR5.out.below hB0).1, by rw [stA_zero]; exact (HR5.out.below hB0).2⟩
        have hGA : wo.grownBy (w5.alloc (.cells (intsA (byTo xs st ps 0)) 3)) (some g) := only_of_below (below_then hb5 (Nat.le_refl _) hB0) _
        have HW0 := hide hW0
        have HOA := hide hOA
        have HRA := hide hRA
        have hgo := HRr.out.2.lt
        have hro := HRr.out.1.lt
        have hw5 := hb5.size
        clear hW0 hOA hRA hB0
        obtain ⟨bb, hbb⟩ : ∃ bb : Nat, bb = w5.heap.size := ⟨_, rfl⟩
        rw [← hbb] at HW0 hw5 HG2 ⊢
        generalize w5.alloc (.cells (intsA (byTo xs st ps 0)) 3) = wA at *
        clear HO HR5 hb5 hltr5 hbb
        go_loopw [8, 56] (fun ch i wr => ∃ k : Nat, k ≤ xs.length ∧ i = .int .i64 k ∧ ch = .int .i64 (fsum (byO xs st ps) k) ∧ RowAt wr rb g room grows xs (stA xs st ps k) ∧ Blk wr bb 3 (intsA (byTo xs st ps k)) ∧ wr.ownsRow wo.heap.size 3 1 (.slice A xs.length c) xs.length (ps.map (Value.int .i64)) ∧ wo.grownBy wr (some g)) (fun _ i _ => xs.length - (intOf i).toNat)
        case atStart => exact ⟨0, Nat.zero_le _, rfl, rfl, HRA.out, HW0.out, HOA.out, hGA⟩
        case round =>
          obtain ⟨k, hk, rfl, rfl, hrow, hblk, hown, hgr⟩ := hrel
          have HRq := hide hrow
          have HBq := hide hblk
          have HOq := hide hown
          have hltg := hrow.2.lt
          have hltb := hblk.lt
          clear hrow hblk hown
          have e2 : wr.cell? ⟨rb, 1, none⟩ = some (.slice (some ⟨g, 0, none⟩) xs.length xs.length) := HRq.out.1.cell 1
          by_cases hlt : k < xs.length
          · have cc := itCell HRq.out.2 hlt
            have FS := hide (show fsum (byO xs st ps) (k + 1) = fsum (byO xs st ps) k + byO xs st ps k from rfl)
            have fb := fsum_bd (f := byO xs st ps) (lo := -33554432) (hi := 33554432) (k := k) fun i _ => byO_bd HK.out st ps i
            have PN := hide (byTo_next xs st ps k hlt)
            have QN := hide (stA_next xs st ps k hlt)
            generalize fsum (byO xs st ps) k = ch at *
            have hk1 : (0 : Int) ≤ (k : Int) := by omega
            have hk2 : (k : Int) < (xs.length : Int) := by omega
            have hcs : (stA xs st ps k).set k = st.set k := rfl
            have hci : (stA xs st ps k).is k = st.is k := by simp [stA]
            rw [hcs, hci] at cc
            cases hs : st.set k
            · rw [hs] at cc
              have PB := hide (show byO xs st ps k = isO xs ps k - cut (wouldO xs ps k) from by simp [byO, hs])
              have PI := hide (show isO xs ps k = betw ((fxAt xs k).b + at0 ps k) (fxAt xs k).le (fxAt xs k).mo from rfl)
              have PW := hide (show wouldO xs ps k = (fxAt xs k).b + at0 ps k from rfl)
              have QM := hide (QN.out hs)
              have HIL := hide (show ∀ (W : World), Blk W g 149 (itV xs (stA xs st ps (k + 1))).toArray → W.cell? ⟨g, k * 9 + 8, none⟩ = some (.int .i64 (isO xs ps k)) from fun W hW => by
                have h1 := itCell hW hlt 8 (by omega)
                rw [h1, show (stA xs st ps (k + 1)).is k = isO xs ps k from by simp [stA, hs]]
                rfl)
              have HIK := hide (show ∀ (W : World), Blk W g 149 (itV xs (stA xs st ps k)).toArray → W.cell? ⟨g, k * 9 + 8, none⟩ = some (.int .i64 (st.is k)) from fun W hW => by
                have h1 := itCell hW hlt 8 (by omega)
                rw [h1, hci]
                rfl)
              have hxk := fxAt_ok HK.out k
              unfold Fx.ok at hxk
              clear hs hcs hci QN
              generalize st.is k = ik at *
              generalize fxAt xs k = x at *
              have d0 : wr.cell? ⟨g, k * 9, none⟩ = some (.int .i64 x.b) := cc 0 (by omega)
              have d1 : wr.cell? ⟨g, k * 9 + 1, none⟩ = some (.int .i64 x.le) := cc 1 (by omega)
              have d2 : wr.cell? ⟨g, k * 9 + 2, none⟩ = some (.int .i64 x.mo) := cc 2 (by omega)
              have d3 : wr.cell? ⟨g, k * 9 + 3, none⟩ = some (.int .i64 x.g) := cc 3 (by omega)
              have d4 : wr.cell? ⟨g, k * 9 + 4, none⟩ = some (.int .i64 x.s) := cc 4 (by omega)
              have d5 : wr.cell? ⟨g, k * 9 + 5, none⟩ = some (.int .i64 x.e) := cc 5 (by omega)
              have d6 : wr.cell? ⟨g, k * 9 + 6, none⟩ = some (.int .i64 x.lng) := cc 6 (by omega)
              have d7 : wr.cell? ⟨g, k * 9 + 7, none⟩ = some (.bool false) := cc 7 (by omega)
              have d8 : wr.cell? ⟨g, k * 9 + 8, none⟩ = some (.int .i64 ik) := cc 8 (by omega)
              clear cc
              go_wp2_with fail
              obtain ⟨g2, cap2, hv2, hg2, hlt2⟩ := HOq.out.form (by omega)
              injection hv2 with hA2 hn2 hc2
              clear hn2
              subst hA2
              subst hc2
              have hg2b := HG2.out (by omega) g2 rfl
              have p0 : wr.cell? ⟨g2, k, none⟩ = some (.int .i64 (at0 ps k)) := by
                rw [HOq.out.cellAt k (by omega), List.getElem?_map, List.getElem?_eq_getElem (by rw [HPL.out]; exact hlt), Option.map_some, ← at0_of ps k (by rw [HPL.out]; exact hlt)]
              have hyb := HPS.out k
              generalize at0 ps k = y at *
              have hwr : IntKind.i64.wrap (x.b + y) = x.b + y := by rw [IntWalk.i64_in _ (by omega)]
              have q := Blk.new wr 149 #[.int .i64 x.b, .int .i64 x.le, .int .i64 x.mo, .int .i64 x.g, .int .i64 x.s, .int .i64 x.e, .int .i64 x.lng, .bool false, .int .i64 ik]
              have HRB := hide (show RowAt (wr.alloc (.cells #[.int .i64 x.b, .int .i64 x.le, .int .i64 x.mo, .int .i64 x.g, .int .i64 x.s, .int .i64 x.e, .int .i64 x.lng, .bool false, .int .i64 ik] 149)) rb g room grows xs (stA xs st ps k) from ⟨HRq.out.1.alloc _, HRq.out.2.alloc _⟩)
              have HBB := hide (HBq.out.alloc (.cells #[.int .i64 x.b, .int .i64 x.le, .int .i64 x.mo, .int .i64 x.g, .int .i64 x.s, .int .i64 x.e, .int .i64 x.lng, .bool false, .int .i64 ik] 149))
              have HOB := hide (HOq.out.alloc (.cells #[.int .i64 x.b, .int .i64 x.le, .int .i64 x.mo, .int .i64 x.g, .int .i64 x.s, .int .i64 x.e, .int .i64 x.lng, .bool false, .int .i64 ik] 149))
              have hgB := only_alloc hgr (.cells #[.int .i64 x.b, .int .i64 x.le, .int .i64 x.mo, .int .i64 x.g, .int .i64 x.s, .int .i64 x.e, .int .i64 x.lng, .bool false, .int .i64 ik] 149)
              have p1 : (wr.alloc (.cells #[.int .i64 x.b, .int .i64 x.le, .int .i64 x.mo, .int .i64 x.g, .int .i64 x.s, .int .i64 x.e, .int .i64 x.lng, .bool false, .int .i64 ik] 149)).cell? ⟨g2, k, none⟩ = some (.int .i64 y) := (World.cell?_alloc_lt wr _ _ (cell_lt p0)).trans p0
              have hltr := HRq.out.1.lt
              have hlp := cell_lt p0
              clear d0 d1 d2 d3 d4 d5 d6 d7 d8 e2 p0 HRq HBq HOq hgr
              generalize wr.alloc (.cells #[.int .i64 x.b, .int .i64 x.le, .int .i64 x.mo, .int .i64 x.g, .int .i64 x.s, .int .i64 x.e, .int .i64 x.lng, .bool false, .int .i64 ik] 149) = wB at *
              have q0 : wB.cell? ⟨wr.heap.size, 0, none⟩ = some (.int .i64 x.b) := q.cell 0
              go_region_held3 (fun w' => w'.cell? ⟨wr.heap.size, 0, none⟩ = some (.int .i64 x.b) ∧ w'.cell? ⟨g2, k, none⟩ = some (.int .i64 y)) (exact ⟨q0, p1⟩) (fail)
              all_goals
                have HRC := hide (show RowAt wB.drew rb g room grows xs (stA xs st ps k) from ⟨HRB.out.1.drew, HRB.out.2.drew⟩)
                have HBC := hide HBB.out.drew
                have HOC := hide HOB.out.drew
                have hgC := only_drew hgB
                have qC := q.drew
                clear q0 p1 q HRB HBB HOB hgB
                generalize wB.drew = wC at *
                have q0 : wC.cell? ⟨wr.heap.size, 0, none⟩ = some (.int .i64 x.b) := qC.cell 0
                have q1 : wC.cell? ⟨wr.heap.size, 1, none⟩ = some (.int .i64 x.le) := qC.cell 1
                have q2 : wC.cell? ⟨wr.heap.size, 2, none⟩ = some (.int .i64 x.mo) := qC.cell 2
                have e2 : wC.cell? ⟨rb, 1, none⟩ = some (.slice (some ⟨g, 0, none⟩) xs.length xs.length) := HRC.out.1.cell 1
                have s8 : wC.cell? ⟨g, k * 9 + 8, none⟩ = some (.int .i64 ik) := HIK.out wC HRC.out.2
                have z8 : wC.frozen? ⟨g, k * 9 + 8, none⟩ = false := HRC.out.2.frozen _
                have hrg : rb ≠ g := by
                  rintro rfl
                  have h5 := HRC.out.1.symm.trans HRC.out.2
                  simp at h5
                have hgr2 : g ≠ rb := fun e => hrg e.symm
                have hxg : wr.heap.size ≠ g := by omega
                have hgx : g ≠ wr.heap.size := by omega
                go_wp2_with fail
                go_region_held3 (fun w' => w'.cell? ⟨wr.heap.size, 1, none⟩ = some (.int .i64 x.le) ∧ w'.cell? ⟨wr.heap.size, 2, none⟩ = some (.int .i64 x.mo) ∧ w'.cell? ⟨rb, 1, none⟩ = some (.slice (some ⟨g, 0, none⟩) xs.length xs.length)) (first | exact ⟨q1, q2, e2⟩ | go_keep) (first | (go_at_call 58; refine (between_any _ _ _ _).mono ?_; rintro e w' ⟨rfl, rfl⟩; rw [← PI.out]))
                have hIB : -33554432 ≤ isO xs ps k - cut (x.b + y) ∧ isO xs ps k - cut (x.b + y) ≤ 33554432 := by
                  rw [← PW.out, ← PB.out]
                  exact byO_bd HK.out st ps k
                have FT := hide (show fsum (byO xs st ps) (k + 1) = ch + (isO xs ps k - cut (x.b + y)) from by rw [← PW.out, ← PB.out]; exact FS.out)
                have PT := hide (show (byTo xs st ps k).set k (isO xs ps k - cut (x.b + y)) = byTo xs st ps (k + 1) from by rw [← PW.out, ← PB.out]; exact PN.out)
                have hbg : bb ≠ g := by omega
                have hgb : g ≠ bb := by omega
                have hbr : bb ≠ rb := by omega
                have hrb : rb ≠ bb := by omega
                have HRD := hide (show RowAt (wC.setCell ⟨g, k * 9 + 8, none⟩ (.int .i64 (isO xs ps k))).drew rb g room grows xs (stA xs st ps (k + 1)) from ⟨(HRC.out.1.far hrg _).drew, by have h6 := (HRC.out.2.set_ (k * 9 + 8) (.int .i64 (isO xs ps k))).drew; rw [List.setIfInBounds_toArray, QM.out] at h6; exact h6⟩)
                have HBD := hide (HBC.out.far (p := ⟨g, k * 9 + 8, none⟩) hbg (.int .i64 (isO xs ps k))).drew
                have HOD := hide (own_far HOC.out (p := ⟨g, k * 9 + 8, none⟩) (by simp [Value.ownBlock]; omega) (.int .i64 (isO xs ps k))).drew
                have hgD := only_drew (only_setCell hgC (p := ⟨g, k * 9 + 8, none⟩) (.inl rfl) (.int .i64 (isO xs ps k)))
                clear qC q0 q1 q2 e2 s8 z8 HRC HBC HOC hgC
                generalize (wC.setCell ⟨g, k * 9 + 8, none⟩ (.int .i64 (isO xs ps k))).drew = wD at *
                have e3 : wD.cell? ⟨rb, 1, none⟩ = some (.slice (some ⟨g, 0, none⟩) xs.length xs.length) := HRD.out.1.cell 1
                have s8 : wD.cell? ⟨g, k * 9 + 8, none⟩ = some (.int .i64 (isO xs ps k)) := HIL.out wD HRD.out.2
                have hsz : k < (intsA (byTo xs st ps k)).size := by rw [intsA_size, byTo_length]; exact hlt
                obtain ⟨yb, b8⟩ : ∃ yb, wD.cell? ⟨bb, k, none⟩ = some yb := ⟨_, (HBD.out.cell k).trans (Array.getElem?_eq_getElem hsz)⟩
                have z8 : wD.frozen? ⟨bb, k, none⟩ = false := HBD.out.frozen _
                have hwq : IntKind.i64.wrap (isO xs ps k - cut (x.b + y)) = isO xs ps k - cut (x.b + y) := by rw [IntWalk.i64_in _ (by omega)]
                go_wp2_with fail
                go_region_held3 (fun w' => w'.cell? ⟨rb, 1, none⟩ = some (.slice (some ⟨g, 0, none⟩) xs.length xs.length) ∧ w'.cell? ⟨g, k * 9 + 8, none⟩ = some (.int .i64 (isO xs ps k))) (first | exact ⟨e3, s8⟩ | go_keep) (first | (go_at_call 28; refine (cut_any _ _).mono ?_; rintro e w' ⟨rfl, rfl⟩))
                have HRE := hide (show RowAt (wD.setCell ⟨bb, k, none⟩ (.int .i64 (isO xs ps k - cut (x.b + y)))).drew rb g room grows xs (stA xs st ps (k + 1)) from ⟨(HRD.out.1.far hrb _).drew, (HRD.out.2.far hgb _).drew⟩)
                have HBE := hide (show Blk (wD.setCell ⟨bb, k, none⟩ (.int .i64 (isO xs ps k - cut (x.b + y)))).drew bb 3 (intsA (byTo xs st ps (k + 1))) from by have h6 := (HBD.out.set_ k (.int .i64 (isO xs ps k - cut (x.b + y)))).drew; rw [intsA_set, PT.out] at h6; exact h6)
                have c8 : (wD.setCell ⟨bb, k, none⟩ (.int .i64 (isO xs ps k - cut (x.b + y)))).drew.cell? ⟨bb, k, none⟩ = some (.int .i64 (isO xs ps k - cut (x.b + y))) := ((HBD.out.set_ k (.int .i64 (isO xs ps k - cut (x.b + y)))).drew.cell k).trans (by simp [hsz])
                have hgE := only_drew (only_setCell hgD (p := ⟨bb, k, none⟩) (.inr (by show wo.heap.size ≤ bb; omega)) (.int .i64 (isO xs ps k - cut (x.b + y))))
                have HOE := hide (own_far HOD.out (p := ⟨bb, k, none⟩) (by simp [Value.ownBlock]; omega) (.int .i64 (isO xs ps k - cut (x.b + y)))).drew
                clear HRD HBD HOD hgD e3 s8 b8 z8
                generalize (wD.setCell ⟨bb, k, none⟩ (.int .i64 (isO xs ps k - cut (x.b + y)))).drew = wE at *
                have hwc : IntKind.i64.wrap (ch + (isO xs ps k - cut (x.b + y))) = ch + (isO xs ps k - cut (x.b + y)) := by rw [IntWalk.i64_in _ (by omega)]
                go_wp2_with fail
                go_roundw
                case rel => exact ⟨k + 1, by omega, by go_num, by rw [FT.out], HRE.out, HBE.out, HOE.out, hgE⟩
                case measure => simp [intOf]; omega
            · rw [hs] at cc
              have PB := hide (show byO xs st ps k = 0 from by simp [byO, hs])
              have PS := hide (byTo_same xs st ps k hs)
              have QS := hide (stA_same xs st ps k hs)
              clear hs hcs hci QN
              generalize st.is k = ik at *
              generalize fxAt xs k = x at *
              have d0 : wr.cell? ⟨g, k * 9, none⟩ = some (.int .i64 x.b) := cc 0 (by omega)
              have d1 : wr.cell? ⟨g, k * 9 + 1, none⟩ = some (.int .i64 x.le) := cc 1 (by omega)
              have d2 : wr.cell? ⟨g, k * 9 + 2, none⟩ = some (.int .i64 x.mo) := cc 2 (by omega)
              have d3 : wr.cell? ⟨g, k * 9 + 3, none⟩ = some (.int .i64 x.g) := cc 3 (by omega)
              have d4 : wr.cell? ⟨g, k * 9 + 4, none⟩ = some (.int .i64 x.s) := cc 4 (by omega)
              have d5 : wr.cell? ⟨g, k * 9 + 5, none⟩ = some (.int .i64 x.e) := cc 5 (by omega)
              have d6 : wr.cell? ⟨g, k * 9 + 6, none⟩ = some (.int .i64 x.lng) := cc 6 (by omega)
              have d7 : wr.cell? ⟨g, k * 9 + 7, none⟩ = some (.bool true) := cc 7 (by omega)
              have d8 : wr.cell? ⟨g, k * 9 + 8, none⟩ = some (.int .i64 ik) := cc 8 (by omega)
              clear cc
              go_wp2_with fail
              go_roundw
              case rel => exact ⟨k + 1, by omega, by go_num, by rw [FS.out, PB.out]; simp, ⟨HRq.out.1.alloc _, by rw [QS.out]; exact HRq.out.2.alloc _⟩, by rw [PS.out]; exact HBq.out.alloc _, HOq.out.alloc _, only_alloc hgr _⟩
              case measure => simp [intOf]; omega
          · obtain rfl : k = xs.length := by omega
            obtain ⟨wq, rfl⟩ : ∃ wq : World, wq = wr := ⟨_, rfl⟩
            have HSA := hide (stB_same xs st ps)
            have HSN := hide (stB_next xs st ps)
            have hbyAt : ∀ k, k < xs.length → (intsA (byTo xs st ps xs.length))[k]? = some (.int .i64 (byO xs st ps k)) := fun k hk => by
              simp [intsA, byTo, hk]
            have HBY := hide hbyAt
            clear hbyAt
            go_wp2_with fail
            go_loopw [112] (fun i wr => ∃ k : Nat, k ≤ xs.length ∧ i = .int .i64 k ∧ RowAt wr rb g room grows xs (stB xs st ps k) ∧ Blk wr bb 3 (intsA (byTo xs st ps xs.length)) ∧ wo.grownBy wr (some g)) (fun i _ => xs.length - (intOf i).toNat)
            case atStart => exact ⟨0, Nat.zero_le _, rfl, ⟨HRq.out.1, by rw [stB_zero]; exact HRq.out.2⟩, HBq.out, hgr⟩
            case round =>
              obtain ⟨k, hk3, rfl, hrow3, hblk3, hgr3⟩ := hrel
              have e3 : wr.cell? ⟨rb, 1, none⟩ = some (.slice (some ⟨g, 0, none⟩) xs.length xs.length) := hrow3.1.cell 1
              have HR3 := hide hrow3
              have HB3 := hide hblk3
              clear hrow3 hblk3
              by_cases hlt3 : k < xs.length
              · have b3 : wr.cell? ⟨bb, k, none⟩ = some (.int .i64 (byO xs st ps k)) := (HB3.out.cell k).trans (HBY.out k hlt3)
                have hrg : rb ≠ g := by
                  rintro rfl
                  have h5 := HR3.out.1.symm.trans HR3.out.2
                  simp at h5
                have hbg : bb ≠ g := by omega
                have SA := hide (HSA.out k)
                have SN := hide (HSN.out k hlt3)
                have SD := hide (show settleO (fsum (byO xs st ps) xs.length) (byO xs st ps k) = (((fsum (byO xs st ps) xs.length == 0) || (decide (0 < fsum (byO xs st ps) xs.length) && decide (0 < byO xs st ps k))) || (decide (fsum (byO xs st ps) xs.length < 0) && decide (byO xs st ps k < 0))) from rfl)
                generalize fsum (byO xs st ps) xs.length = ch at *
                generalize byO xs st ps k = bk at *
                have hk1 : (0 : Int) ≤ (k : Int) := by omega
                have hk2 : (k : Int) < (xs.length : Int) := by omega
                have five : (settleO ch bk = true ∧ (ch = 0 ∨ (0 < ch ∧ 0 < bk) ∨ (ch < 0 ∧ bk < 0))) ∨ (settleO ch bk = false ∧ ((0 < ch ∧ ¬ 0 < bk) ∨ (ch < 0 ∧ ¬ bk < 0))) := by
                  have sd := SD.out
                  rcases Int.lt_trichotomy ch 0 with hc | hc | hc
                  · by_cases hb : bk < 0
                    · exact .inl ⟨by rw [sd]; simp [hc, hb], .inr (.inr ⟨hc, hb⟩)⟩
                    · exact .inr ⟨by rw [sd]; simp [hb]; omega, .inr ⟨hc, hb⟩⟩
                  · exact .inl ⟨by rw [sd]; simp [hc], .inl hc⟩
                  · by_cases hb : 0 < bk
                    · exact .inl ⟨by rw [sd]; simp [hc, hb], .inr (.inl ⟨hc, hb⟩)⟩
                    · exact .inr ⟨by rw [sd]; simp [hb]; omega, .inl ⟨hc, hb⟩⟩
                have hk7 : k * 9 + 7 < (itV xs (stB xs st ps k)).length := by rw [itV_len]; omega
                rcases five with ⟨hT, hc⟩ | ⟨hF, hc⟩
                · have SNT := hide (SN.out hT)
                  clear hT SN SA SD HSA HSN
                  obtain ⟨v7, s7⟩ : ∃ v7, wr.cell? ⟨g, k * 9 + 7, none⟩ = some v7 := ⟨_, (HR3.out.2.cell (k * 9 + 7)).trans (by rw [List.getElem?_toArray]; exact List.getElem?_eq_getElem hk7)⟩
                  have z7 : wr.frozen? ⟨g, k * 9 + 7, none⟩ = false := HR3.out.2.frozen _
                  clear hk7
                  have HRD := hide (show RowAt (wr.setCell ⟨g, k * 9 + 7, none⟩ (.bool true)) rb g room grows xs (stB xs st ps (k + 1)) from ⟨HR3.out.1.far hrg _, by have h6 := HR3.out.2.set_ (k * 9 + 7) (.bool true); rw [List.setIfInBounds_toArray, SNT.out] at h6; exact h6⟩)
                  have HBD := hide (HB3.out.far (p := ⟨g, k * 9 + 7, none⟩) hbg (.bool true))
                  have hgD := only_setCell hgr3 (p := ⟨g, k * 9 + 7, none⟩) (.inl rfl) (.bool true)
                  rcases hc with hc | ⟨hc, hb⟩ | ⟨hc, hb⟩
                  case' inl =>
                    subst hc
                  case' inr.inl =>
                    have z1 : (ch == 0) = false := beq_eq_false_iff_ne.2 (by omega)
                  case' inr.inr =>
                    have z1 : (ch == 0) = false := beq_eq_false_iff_ne.2 (by omega)
                  all_goals
                    go_wp2_with fail
                    go_roundw
                    case rel => exact ⟨k + 1, by omega, by go_num, HRD.out, HBD.out, hgD⟩
                    case measure => simp [intOf]; omega
                · have SAF := hide (SA.out hF)
                  clear hF SN SA SD HSA HSN hk7
                  have HRD := hide (show RowAt wr rb g room grows xs (stB xs st ps (k + 1)) from ⟨HR3.out.1, by rw [SAF.out]; exact HR3.out.2⟩)
                  rcases hc with ⟨hc, hb⟩ | ⟨hc, hb⟩
                  all_goals
                    have z1 : (ch == 0) = false := beq_eq_false_iff_ne.2 (by omega)
                    go_wp2_with fail
                    go_roundw
                    case rel => exact ⟨k + 1, by omega, by go_num, HRD.out, HB3.out, hgr3⟩
                    case measure => simp [intOf]; omega
              · obtain rfl : k = xs.length := by omega
                go_wp2_with fail
                go_end0
                exact ⟨rfl, by rw [HT.out]; exact ⟨HR3.out.1, by rw [← stB_all]; exact HR3.out.2⟩, (only_of_below (below_then hb1 (Nat.le_refl _) hbel) _).trans hgr3⟩
end Go.Proofs.Ytadlabndbomgmaa
