/- The walk of lines.Groups. -/
import Derived.BigQuiet
import Derived.Handy
import Derived.IntWalk
import Derived.RegionTactic
import Derived.Deep.QuietTactic
import Derived.Deep.MidRow
import Derived.Deep.RegionHeld3
import Derived.Test.YtadlabndbomgmaaPartsG
import Derived.Test.YtadlabndbomgmaaGroups
import Derived.Test.YtadlabndbomgmaaBack
namespace Go.Proofs.Ytadlabndbomgmaa
open Go.ChangeShapes Go.WideShapes Go.ChangeAt Go.RowKit
theorem Group_info : (Try.prog.info? 169).map (fun i => (i.zero, i.size, i.bytes)) = some (some (.agg #[.int .i64 0, .int .i64 0, .bool false]), 3, 24) := by kernel_rfl
def gdC (d : Int × Int × Bool) : List Value := [.int .i64 d.1, .int .i64 d.2.1, .bool d.2.2]
def gdCells (l : List (Int × Int × Bool)) : List Value := l.flatMap gdC
theorem gdCells_snoc (l : List (Int × Int × Bool)) (d : Int × Int × Bool) : gdCells (l ++ [d]) = gdCells l ++ gdC d := by simp [gdCells]
theorem groups_nil (A : Option Addr) (c : Nat) (w : World) : Calls Try.prog 109 #[.slice A 0 c] w fun e w' => e = .returned (.slice none 0 0) ∧ w = w' := by
  go_enter Try.func109, Try.ntmps109
  go_wp2_with fail
  go_loopw [3, 4, 5] (fun v f k wr => v = .slice none 0 0 ∧ f = .int .i64 0 ∧ k = .int .i64 1 ∧ w = wr) (fun _ _ _ _ => 0)
  case atStart => exact ⟨rfl, rfl, rfl, rfl⟩
  case round =>
    obtain ⟨rfl, rfl, rfl, rfl⟩ := hrel
    go_wp2_with fail
    go_ret
    exact ⟨rfl, rfl⟩
/-- The groups of parts that lie in a row of their own. -/
theorem groups_own (xs : List It) (g : Nat) (ps : List Pt) (B c : Nat) (A : Option Addr) (w : World) (hI : ItsAt w g xs) (hg : 0 < xs.length → g < w.heap.size) (hown : w.ownsRow B 192 5 (.slice A ps.length c) ps.length (ptCells g ps)) (hl : ps.length ≤ 100000) (hc : ps.length ≤ c)
    (hok : ∀ p ∈ ps, p.i < xs.length ∧ PtOk xs p) :
    Calls Try.prog 109 #[.slice A ps.length c] w fun e w' => ∃ v h, e = .returned v ∧ w'.ownsRow w.heap.size 172 1 v (groupsTo xs ps ps.length).1.length (grCells h c (groupsTo xs ps ps.length).1) ∧ (0 < ps.length → h < w.heap.size ∧ PtsAt w g h 0 ps) ∧ Below w.heap.size w w' := by
  rcases Nat.eq_zero_or_pos ps.length with h0 | h0
  · obtain rfl : ps = [] := List.eq_nil_of_length_eq_zero h0
    refine (groups_nil A c w).mono ?_
    rintro e w' ⟨rfl, rfl⟩
    exact ⟨_, 0, rfl, own_none _ _ _ _, fun h => absurd h (Nat.not_lt_zero _), Below.refl _ _⟩
  · obtain ⟨q, rfl, hq, hql, hpq⟩ := pts_of_own hown rfl h0
    have hx : 0 < xs.length := by have := hok _ (List.getElem_mem h0); omega
    refine (groups_any xs g ps q c w hI (hg hx) hpq hql hl h0 hc hok).mono ?_
    rintro e w' ⟨v, rfl, ho, hb⟩
    exact ⟨v, q, rfl, ho, fun _ => ⟨hql, hpq⟩, hb⟩
set_option maxRecDepth 100000 in
set_option maxHeartbeats 4000000 in
theorem Groups_any (xs : List It) (g c : Nat) (A : Option Addr) (w : World) (hA : 0 < xs.length → A = some ⟨g, 0, none⟩) (hI : ItsAt w g xs) (hg : 0 < xs.length → g < w.heap.size) (hok : ItsOk xs) :
    Calls Try.prog 106 #[.slice A xs.length c] w fun e w' => ∃ v, e = .returned v ∧ w'.ownsRow w.heap.size 169 3 v (groupsD xs).length (gdCells (groupsD xs)) ∧ Below w.heap.size w w' := by
  have HI := hide hI
  have HG := hide hg
  have HPA := hide (parts_any xs g c A w hA hI hg hok)
  obtain ⟨hp1, hp2⟩ := partsTo_ok hok xs.length (Nat.le_refl _)
  have hn := hok.1
  have HD := hide (show groupsD xs = (groupsTo xs (partsTo xs xs.length) (partsTo xs xs.length).length).1.map (gData xs (partsTo xs xs.length)) from rfl)
  have HGO := hide (groups_ok xs (partsTo xs xs.length) (partsTo xs xs.length).length (Nat.le_refl _))
  clear hI hg hok hA
  go_enter Try.func106, Try.ntmps106
  go_wp2_with fail
  refine HPA.out.mono ?_
  clear HPA
  rintro e w1 ⟨v1, rfl, own1, hb1⟩
  generalize hps : partsTo xs xs.length = ps at *
  clear hps
  have HP1 := hide hp1
  obtain ⟨A1, c1, rfl, hc1, _⟩ := own_reads own1
  have HI1 := hide (show ItsAt w1 g xs from fun k hk => HI.out.below hb1 (HG.out (by omega)) k hk)
  have HG1 := hide (show 0 < xs.length → g < w1.heap.size from fun h => Nat.lt_of_lt_of_le (HG.out h) hb1.size)
  have HGR := hide (groups_own xs g ps w.heap.size c1 A1 w1 HI1.out HG1.out own1 (by omega) hc1 (fun p hp => ⟨(hp1 p hp).1, (hp1 p hp).2⟩))
  have hs1 := hb1.size
  clear own1 hp1 HI HG
  go_wp2_with fail
  refine HGR.out.mono ?_
  clear HGR
  rintro e w2 ⟨v2, q, rfl, own2, hpt, hb2⟩
  have HPT := hide (show 0 < ps.length → q < w2.heap.size ∧ PtsAt w2 g q 0 ps from fun h => ⟨Nat.lt_of_lt_of_le (hpt h).1 hb2.size, (hpt h).2.below hb2 (hpt h).1⟩)
  have HI2 := hide (show ItsAt w2 g xs from fun k hk => HI1.out.below hb2 (HG1.out (by omega)) k hk)
  have HG2 := hide (show 0 < xs.length → g < w2.heap.size from fun h => Nat.lt_of_lt_of_le (HG1.out h) hb2.size)
  have b2 := below_on hb1 hb2
  generalize hgs : (groupsTo xs ps ps.length).1 = gs at *
  clear hgs
  obtain ⟨A2, c2, rfl, hc2, _⟩ := own_reads own2
  obtain ⟨B2, hB2⟩ : ∃ B, B = w1.heap.size := ⟨_, rfl⟩
  rw [← hB2] at own2
  have O2 := hide own2
  clear own2 hpt hB2 HI1 HG1 hb1 hb2
  obtain ⟨hgo1, hgo2, hgo3⟩ := HGO.out
  have HGK := hide hgo2
  clear hgo1 hgo2 HGO
  have hwB := b2.size
  have hgl : gs.length ≤ 100000 := by omega
  have Bi := Below.refl w2.heap.size w2
  obtain ⟨B, hB⟩ : ∃ B, B = w2.heap.size := ⟨_, rfl⟩
  have hwB0 : w2.heap.size ≤ B := by omega
  have hBw0 : B ≤ w2.heap.size := by omega
  clear hB
  go_wp2_with fail
  go_loopw [3, 10] (fun v i wr => ∃ j : Nat, j ≤ gs.length ∧ i = .int .i64 j ∧ wr.ownsRow B 169 3 v ((gs.take j).map (gData xs ps)).length (gdCells ((gs.take j).map (gData xs ps))) ∧ Hid (wr.ownsRow B2 172 1 (.slice A2 gs.length c2) gs.length (grCells q c1 gs)) ∧ Below w2.heap.size w2 wr) (fun _ i _ => gs.length - (intOf i).toNat)
  case atStart => exact ⟨0, Nat.zero_le _, rfl, own_none _ _ _ _, O2, Bi⟩
  case round =>
    obtain ⟨j, hj, rfl, hown, HGw, hbi⟩ := hrel
    clear O2 Bi
    have HW2 := hide hown
    clear hown
    obtain ⟨v2, hv⟩ : ∃ v, v = u3 := ⟨_, rfl⟩
    rw [← hv] at HW2 ⊢
    clear hv
    by_cases hjl : j < gs.length
    · obtain ⟨ad, u, rfl, hadl, hu, hcell1⟩ := (Reads.of_own HGw.out).at_ hjl
      have hgk := HGK.out _ (List.getElem_mem hjl)
      have HNX := hide (show (gs.take (j + 1)).map (gData xs ps) = (gs.take j).map (gData xs ps) ++ [gData xs ps gs[j]] from by rw [List.take_succ_eq_append_getElem hjl, List.map_append]; rfl)
      have hlj := hide (show ((gs.take j).map (gData xs ps)).length ≤ 1000000 from by simp; omega)
      unfold grCells at hu
      rw [List.getElem?_map, List.getElem?_eq_getElem hjl] at hu
      obtain rfl : grV q c1 gs[j] = u := by simpa using hu
      generalize gs[j] = gr at *
      obtain ⟨a, b⟩ := gr
      unfold grV at hcell1
      simp only at hgk hcell1
      obtain ⟨m, rfl⟩ : ∃ m, b = a + (m + 1) := ⟨b - a - 1, by omega⟩
      rw [show a + (m + 1) - a = m + 1 by omega] at hcell1
      have hpos : 0 < ps.length := by omega
      obtain ⟨hq1, hq2⟩ := HPT.out hpos
      have hseg := hq2.seg a (a + (m + 1)) (by omega)
      rw [Nat.zero_add] at hseg
      have hsl : (segP ps (a, a + (m + 1))).length = m + 1 := by simp only [segP, List.length_take, List.length_drop]; omega
      have hxl := (HP1.out _ (List.getElem_mem (show a + m < ps.length by omega)))
      have hgx : g < w2.heap.size := HG2.out (by omega)
      have hmem : ∀ p ∈ segP ps (a, a + (m + 1)), p.i < xs.length ∧ PtOk xs p := fun p hp => HP1.out p (segP_mem p hp)
      have HWD := hide (fun (W : World) (hb : Below w2.heap.size w2 W) => by
        have := gwidth_any g (segP ps (a, a + (m + 1))) q (a * 5) (c1 - a) W (hseg.below hb hq1) (Nat.lt_of_lt_of_le hq1 hb.size) (by omega) (fun p hp => by have := (hmem p hp).2; unfold PtOk at this; omega)
        rwa [hsl] at this)
      have HTL := hide (fun (W : World) (hb : Below w2.heap.size w2 W) => by
        have := gtail_any xs g (segP ps (a, a + (m + 1))) q (a * 5) (c1 - a) W (fun k hk => HI2.out.below hb hgx k hk) (Nat.lt_of_lt_of_le hgx hb.size) (hseg.below hb hq1) (Nat.lt_of_lt_of_le hq1 hb.size) (by omega) (by omega) hmem
        rwa [hsl] at this)
      have HGD := hide (show gData xs ps (a, a + (m + 1)) = (widthG (segP ps (a, a + (m + 1))), tailG xs (segP ps (a, a + (m + 1))).reverse, pKind xs (ptAt ps (a + m)) == 6) from by unfold gData; simp only; rw [show a + (m + 1) - 1 = a + m by omega])
      rw [HGD.out] at HNX
      have hl1 := hq2.d0 (show a + m < ps.length by omega)
      have hxi : (ptAt ps (a + m)).i < xs.length := by rw [ptAt_of ps _ (by omega)]; exact hxl.1
      have hi1 := HI2.out.c0 hxi
      have e0 : (itAt xs (ptAt ps (a + m)).i).kind = pKind xs (ptAt ps (a + m)) := rfl
      rw [e0] at hi1
      rw [show (a + m) * 5 = a * 5 + m * 5 by omega] at hl1
      have HSW := hide (fun (W : World) (hb : Below w2.heap.size w2 W) => (⟨(hb.cell (p := ⟨q, a * 5 + m * 5, none⟩) hq1).trans hl1, (hb.cell (p := ⟨g, (ptAt ps (a + m)).i * 11, none⟩) hgx).trans hi1⟩ : W.cell? ⟨q, a * 5 + m * 5, none⟩ = some (.pointer (some ⟨g, (ptAt ps (a + m)).i * 11, none⟩)) ∧ W.cell? ⟨g, (ptAt ps (a + m)).i * 11, none⟩ = some (.int .i64 (pKind xs (ptAt ps (a + m))))))
      have W1 := hide (show IntKind.i64.wrap (m : Int) = (m : Int) from IntWalk.i64_in _ (by omega))
      clear hu hadl HGD hl1 hi1 e0 hseg hsl hmem hq2 hxi hxl
      generalize widthG (segP ps (a, a + (m + 1))) = wd at *
      generalize tailG xs (segP ps (a, a + (m + 1))).reverse = tl at *
      generalize pKind xs (ptAt ps (a + m)) = kd at *
      generalize (ptAt ps (a + m)).i = pi at *
      generalize (gs.take j).map (gData xs ps) = lst at *
      generalize q = h at *
      generalize c1 = c at *
      go_wp2_with fail
      clear hcell1
      have b1 := hbi.drew
      have S0 := HSW.out _ b1
      have HO1 := hide HW2.out.drew
      have HG1 := hide HGw.out.drew
      refine wp_region_held_drew (S := fun W => W.cell? ⟨h, a * 5 + m * 5, none⟩ = some (.pointer (some ⟨g, pi * 11, none⟩)) ∧ W.cell? ⟨g, pi * 11, none⟩ = some (.int .i64 kd)) (by kernel_rfl) S0 (fun hHeld => ?_)
      have HPB := hide b1
      have hBw : B ≤ w2.heap.size := hBw0
      have hwB := hwB0
      clear S0 hbi HW2 HGw
      generalize wr.drew = wB at *
      refine take_at (i := 0) (v := v2) (some 14) rfl rfl (by kernel_rfl) (by kernel_rfl) (by kernel_rfl) (fun _ _ _ h => h) (yieldsIf_move (by rfl) _ rfl _ rfl) hHeld ?_
      simp only [Act.put, List.setIfInBounds_toArray, List.set_cons_zero, List.set_cons_succ]
      refine take_at (i := 1) (v := Value.slice (some ⟨h, a * 5, none⟩) (m + 1) (c - a)) (some 15) rfl rfl (by kernel_rfl) (by kernel_rfl) (by kernel_rfl) (fun _ _ _ h => h) (yieldsIf_move (by rfl) _ rfl _ rfl) hHeld ?_
      simp only [Act.put, List.setIfInBounds_toArray, List.set_cons_zero, List.set_cons_succ]
      refine take_at (i := 3) (v := Value.slice (some ⟨h, a * 5, none⟩) (m + 1) (c - a)) (some 17) rfl rfl (by kernel_rfl) (by kernel_rfl) (by kernel_rfl) (fun _ _ _ h => h) (yieldsIf_move (by rfl) _ rfl _ rfl) hHeld ?_
      simp only [Act.put, List.setIfInBounds_toArray, List.set_cons_zero, List.set_cons_succ]
      refine take_at (i := 5) (v := Value.slice (some ⟨h, a * 5, none⟩) (m + 1) (c - a)) (some 19) rfl rfl (by kernel_rfl) (by kernel_rfl) (by kernel_rfl) (fun _ _ _ h => h) (yieldsIf_move (by rfl) _ rfl _ rfl) hHeld ?_
      simp only [Act.put, List.setIfInBounds_toArray, List.set_cons_zero, List.set_cons_succ]
      refine take_at (i := 6) (v := Value.slice (some ⟨h, a * 5, none⟩) (m + 1) (c - a)) (some 20) rfl rfl (by kernel_rfl) (by kernel_rfl) (by kernel_rfl) (fun _ _ _ h => h) (yieldsIf_move (by rfl) _ rfl _ rfl) hHeld ?_
      simp only [Act.put, List.setIfInBounds_toArray, List.set_cons_zero, List.set_cons_succ]
      refine take_at (i := 7) (v := .int .i64 ((m + 1 : Nat) : Int)) (some 21) rfl rfl (by kernel_rfl) (by kernel_rfl) (by kernel_rfl) (fun _ _ _ h => h) (Or.inl ⟨by rfl, fun W hW => ?_⟩) hHeld ?_
      · go_simp
      simp only [Act.put, List.setIfInBounds_toArray, List.set_cons_zero, List.set_cons_succ]
      refine take_at (i := 8) (v := .int .i64 m) (some 22) rfl rfl (by kernel_rfl) (by kernel_rfl) (by kernel_rfl) (fun _ _ _ h => h) (Or.inl ⟨by rfl, fun W hW => ?_⟩) hHeld ?_
      · go_simp; exact W1.out
      simp only [Act.put, List.setIfInBounds_toArray, List.set_cons_zero, List.set_cons_succ]
      refine take_at (i := 9) (v := Value.pointer (some ⟨h, a * 5 + m * 5, none⟩)) (some 23) rfl rfl (by kernel_rfl) (by kernel_rfl) (by kernel_rfl) (fun _ _ _ h => h) (Or.inl ⟨by rfl, fun W hW => ?_⟩) hHeld ?_
      · go_simp; intro h4; exact absurd h4 (by omega)
      simp only [Act.put, List.setIfInBounds_toArray, List.set_cons_zero, List.set_cons_succ]
      refine take_at (i := 10) (v := Value.pointer (some ⟨h, a * 5 + m * 5, none⟩)) (some 24) rfl rfl (by kernel_rfl) (by kernel_rfl) (by kernel_rfl) (fun _ _ _ h => h) (Or.inl ⟨by rfl, fun W hW => ?_⟩) hHeld ?_
      · go_simp
      simp only [Act.put, List.setIfInBounds_toArray, List.set_cons_zero, List.set_cons_succ]
      refine take_at (i := 11) (v := Value.pointer (some ⟨g, pi * 11, none⟩)) (some 25) rfl rfl (by kernel_rfl) (by kernel_rfl) (by kernel_rfl) (fun _ _ _ h => h) (Or.inl ⟨by rfl, fun W hW => ?_⟩) hHeld ?_
      · have h4 := hW.1; go_simp
      simp only [Act.put, List.setIfInBounds_toArray, List.set_cons_zero, List.set_cons_succ]
      refine take_at (i := 12) (v := Value.pointer (some ⟨g, pi * 11, none⟩)) (some 26) rfl rfl (by kernel_rfl) (by kernel_rfl) (by kernel_rfl) (fun _ _ _ h => h) (Or.inl ⟨by rfl, fun W hW => ?_⟩) hHeld ?_
      · go_simp
      simp only [Act.put, List.setIfInBounds_toArray, List.set_cons_zero, List.set_cons_succ]
      refine take_at (i := 13) (v := Value.pointer (some ⟨g, pi * 11, none⟩)) (some 27) rfl rfl (by kernel_rfl) (by kernel_rfl) (by kernel_rfl) (fun _ _ _ h => h) (Or.inl ⟨by rfl, fun W hW => ?_⟩) hHeld ?_
      · go_simp
      simp only [Act.put, List.setIfInBounds_toArray, List.set_cons_zero, List.set_cons_succ]
      refine take_at (i := 14) (v := .int .i64 kd) (some 28) rfl rfl (by kernel_rfl) (by kernel_rfl) (by kernel_rfl) (fun _ _ _ h => h) (Or.inl ⟨by rfl, fun W hW => ?_⟩) hHeld ?_
      · have h4 := hW.2; go_simp
      simp only [Act.put, List.setIfInBounds_toArray, List.set_cons_zero, List.set_cons_succ]
      refine take_at (i := 15) (v := .bool (kd == 6)) (some 29) rfl rfl (by kernel_rfl) (by kernel_rfl) (by kernel_rfl) (fun _ _ _ h => h) (Or.inl ⟨by rfl, fun W hW => ?_⟩) hHeld ?_
      · go_simp
      simp only [Act.put, List.setIfInBounds_toArray, List.set_cons_zero, List.set_cons_succ]
      refine wpAnyH_ready (rs := [2]) (by kernel_rfl) (by simp) ?_
      refine AllReadyH.cons rfl (fun K1 hK1 => ?_) AllReadyH.nil
      go_simp
      go_at_call 132
      refine (HWD.out wB HPB.out).mono ?_
      rintro e w5 ⟨rfl, hb5⟩
      have hH5 := HSW.out _ (below_on b1 hb5)
      have b5 := below_on b1 hb5
      have HO5 := hide (own_keep HO1.out hb5 (own_lt HO1.out))
      have HG5 := hide (own_keep HG1.out hb5 (own_lt HG1.out))
      refine hK1.out _ _ hH5 (fun hH1 => ?_)
      try simp only [Act.put, List.setIfInBounds_toArray, List.set_cons_zero, List.set_cons_succ]
      refine wpAnyH_ready (rs := [4]) (by kernel_rfl) (by simp) ?_
      refine AllReadyH.cons rfl (fun K2 hK2 => ?_) AllReadyH.nil
      go_simp
      go_at_call 133
      refine (HTL.out w5 b5).mono ?_
      rintro e w6 ⟨rfl, hb6⟩
      have b6 := below_on b5 hb6
      have hH6 := HSW.out _ b6
      have HO6 := hide (own_keep HO5.out hb6 (own_lt HO5.out))
      have HG6 := hide (own_keep HG5.out hb6 (own_lt HG5.out))
      refine hK2.out _ _ hH6 (fun hH2 => ?_)
      try simp only [Act.put, List.setIfInBounds_toArray, List.set_cons_zero, List.set_cons_succ]
      refine take_at (i := 16) (v := Value.agg #[.int .i64 wd, .int .i64 tl, .bool (kd == 6)]) (some 30) rfl rfl (by kernel_rfl) (by kernel_rfl) (by kernel_rfl) (fun _ _ _ h => h) (yieldsIf_build (by rfl) 169 _ rfl [(0, .int .i64 wd), (1, .int .i64 tl), (2, .bool (kd == 6))] rfl _ (by kernel_rfl)) hH6 ?_
      simp only [Act.put, List.setIfInBounds_toArray, List.set_cons_zero, List.set_cons_succ]
      refine wpAnyH_ready (rs := [17]) (by kernel_rfl) (by simp) ?_
      refine AllReadyH.cons rfl (fun K3 hK3 => ?_) AllReadyH.nil
      go_simp
      have HVA := hide (HO6.out.alloc (.cells #[.int .i64 wd, .int .i64 tl, .bool (kd == 6)] 169))
      have HGA := hide (HG6.out.alloc (.cells #[.int .i64 wd, .int .i64 tl, .bool (kd == 6)] 169))
      have HBX := hide (Blk.new w6 169 #[.int .i64 wd, .int .i64 tl, .bool (kd == 6)])
      have HBL := hide (b6.alloc b6.size (.cells #[.int .i64 wd, .int .i64 tl, .bool (kd == 6)] 169))
      have hH7 := HSW.out _ HBL.out
      refine hK3.out _ _ hH7 (fun hH3 => ?_)
      try simp only [Act.put, List.setIfInBounds_toArray, List.set_cons_zero, List.set_cons_succ]
      refine wpAnyH_ready (rs := [18]) (by kernel_rfl) (by simp) ?_
      refine AllReadyH.cons rfl (fun K4 hK4 => ?_) AllReadyH.nil
      refine step_app1 rfl (.tmp 14) (.tmp 31) _ rfl B 169 _ 3 24 Try.underlying166 Group_info rfl (Nat.succ_pos _) _ lst.length _ rfl HVA.out w6.heap.size 1 _ HBX.out rfl rfl rfl hlj.out (Nat.le_of_ble_eq_true rfl) (Nat.le_trans hBw HBL.out.size) (fun v4 w4 hown4 hg4 => ?_)
      have hb9 := own_below HVA.out HBL.out hwB (Nat.le_refl _) hg4
      have HG9 := hide (own_other HGA.out HVA.out (by decide) hg4)
      have O4 := hide hown4
      clear hown4 hg4
      have hH9 := HSW.out _ hb9
      refine hK4.out _ _ hH9 (fun hH4 => ?_)
      try simp only [Act.put, List.setIfInBounds_toArray, List.set_cons_zero, List.set_cons_succ]
      refine take_at (i := 19) (v := v4) (some 3) rfl rfl (by kernel_rfl) (by kernel_rfl) (by kernel_rfl) (fun _ _ _ h => h) (Or.inl ⟨by rfl, fun W hW => ?_⟩) hH9 ?_
      · go_simp
      simp only [Act.put, List.setIfInBounds_toArray, List.set_cons_zero, List.set_cons_succ]
      refine wpAnyH_done (by kernel_rfl) ?_ _
      clear HVA HGA HBX HBL hH9 hH7 hH6 hH5 hH4 hH3 hH2 hH1
      go_wp2_with fail
      go_roundw
      case rel => exact ⟨j + 1, by omega, by go_num, by rw [HNX.out, List.length_append, gdCells_snoc]; exact O4.out, HG9.out, hb9⟩
      case measure => simp only [intOf]; omega
    · obtain rfl : j = gs.length := by omega
      rw [List.take_length, ← HD.out] at HW2
      go_wp2_with fail
      go_ret
      exact ⟨_, rfl, own_mono HW2.out (Nat.le_trans hwB hwB0), b2.trans (hbi.mono hwB)⟩
end Go.Proofs.Ytadlabndbomgmaa
