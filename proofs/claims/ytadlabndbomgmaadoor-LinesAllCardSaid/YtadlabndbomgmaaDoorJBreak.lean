/- The walk of lines.Break. -/
import Derived.BigQuiet
import Derived.Handy
import Derived.IntWalk
import Derived.RegionTactic
import Derived.Deep.MidRow
import Derived.Deep.CutBlock
import Derived.Deep.RegionHeld3
import Derived.Test.YtadlabndbomgmaaDoorJPut
import Derived.Test.YtadlabndbomgmaaDoorJ2
import Derived.Test.YtadlabndbomgmaaDoorJPartsG
import Derived.Test.YtadlabndbomgmaaDoorJ5
set_option linter.unusedVariables false
set_option linter.unusedSimpArgs false
namespace Go.Proofs.YtadlabndbomgmaaDoor
open Go.ChangeShapes Go.WideShapes Go.ChangeAt Go.RowKit
theorem groupsK_any (xs : List It) (g : Nat) (ps : List Pt) (B c : Nat) (A : Option Addr) (w : World) (hI : ItsR w g xs) (hown : w.ownsRow B 96 5 (.slice A ps.length c) ps.length (ptCells g ps)) (hl : ps.length ≤ 100000) (hc : ps.length ≤ c) (hok : PsOk xs ps) :
    Calls Tryd.prog 31 #[.slice A ps.length c] w fun e w' => ∃ v h, e = .returned v ∧ w'.ownsRow w.heap.size 79 1 v (groupsTo xs ps ps.length).1.length (grCells h c (groupsTo xs ps ps.length).1) ∧ (0 < ps.length → A = some ⟨h, 0, none⟩) ∧ Below w.heap.size w w' := by
  rcases Nat.eq_zero_or_pos ps.length with h0 | h0
  · refine (groups_own xs g ps B c A w hI.1 hI.2 hown hl hc hok).mono ?_
    rintro e w' ⟨v, h, h1, h2, _, h4⟩
    exact ⟨v, h, h1, h2, fun h9 => by omega, h4⟩
  · obtain ⟨q, rfl, _, hql, hpt⟩ := pts_of_own hown rfl h0
    have hx : 0 < xs.length := Nat.lt_of_le_of_lt (Nat.zero_le _) (hok _ (List.getElem_mem h0)).1
    refine (groups_any xs g ps q c w hI.1 (hI.2 hx) hpt hql hl h0 hc hok).mono ?_
    rintro e w' ⟨v, h1, h2, h4⟩
    exact ⟨v, q, h1, h2, fun _ => rfl, h4⟩
theorem own_keptK {K : Nat → Prop} {w w' : World} {base size n : Nat} {e : TypeId} {v : Value} {xs : List Value} (h : w.ownsRow base e size v n xs) (k : Kept K w w') (hc : ∀ i, v.ownBlock = some i → K i) : w'.ownsRow base e size v n xs := by
  refine ⟨h.1, ?_⟩
  rcases h.2 with hn | ⟨g, cap, cur, rfl, hb, hgg, rest⟩
  · exact .inl hn
  · refine .inr ⟨g, cap, cur, rfl, hb, ?_, rest⟩
    rw [k.block g (hc g rfl)]
    exact hgg
theorem take_flat (l : List (List Pt)) (k : Nat) : (l.take k).flatten.length ≤ l.flatten.length := by
  conv => rhs; rw [← List.take_append_drop k l, List.flatten_append, List.length_append]
  omega
/-- The last line is marked. -/
theorem lastLn_nil : lastLn [] = [] := rfl
theorem lastLn_snoc (o : List Ln) (x : Ln) : lastLn (o ++ [x]) = o ++ [{ x with last := true }] := by
  unfold lastLn
  rw [List.getLast?_concat, List.dropLast_concat]
theorem lines_last {w : World} {B n c j : Nat} {A : Option Addr} {out : List Ln} (h : LinesAt w B (.slice A n c) out) (hj : out.length = j + 1) :
    ∃ q v, A = some ⟨q, 0, none⟩ ∧ w.cell? ⟨q, j * 7 + 6, none⟩ = some v ∧ w.frozen? ⟨q, j * 7 + 6, none⟩ = false ∧ LinesAt (w.setCell ⟨q, j * 7 + 6, none⟩ (.bool true)) B (.slice A n c) (lastLn out) ∧ (Value.slice A n c).ownBlock = some q := by
  obtain ⟨q0, e1, e2, e3⟩ := h
  have hl : q0.length = j + 1 := by rw [← hj, ← e1, List.length_map]
  obtain ⟨q1, ⟨x, v⟩, rfl⟩ : ∃ q1 a, q0 = q1 ++ [a] := ⟨q0.dropLast, q0.getLast (by intro e; rw [e] at hl; cases hl), (List.dropLast_concat_getLast _).symm⟩
  have hl1 : q1.length = j := by rw [List.length_append, List.length_singleton] at hl; omega
  rw [List.map_append, List.map_cons, List.map_nil] at e1
  rcases e2.2 with ⟨_, h0⟩ | ⟨g, cap, cur, hv, hb, hh, hnc, hcm, hcs, htake⟩
  · omega
  · injection hv with hA hn2 hc2
    subst hA
    have hB : Blk w g 52 cur := hh
    have hi : j * 7 + 6 < cur.size := by rw [hcs]; omega
    refine ⟨g, cur[j * 7 + 6], rfl, by rw [hB.cell, Array.getElem?_eq_getElem hi], hB.frozen _, ?_, rfl⟩
    rw [← e1, lastLn_snoc]
    refine ⟨q1 ++ [({ x with last := true }, v)], by rw [List.map_append]; rfl, ?_, fun a ha => ?_⟩
    · have hlen : (q1.map (·.1) ++ [({ x with last := true } : Ln)]).length = out.length := by rw [← e1]; simp
      rw [hlen]
      refine ⟨by rw [lnCells_len, List.length_append, List.length_singleton, hl1, hj], .inr ⟨g, cap, cur.setIfInBounds (j * 7 + 6) (.bool true), by rw [hn2, hc2], hb, hB.set_ _ _, hnc, hcm, by rw [Array.size_setIfInBounds]; exact hcs, ?_⟩⟩
      rw [Array.toList_setIfInBounds, List.take_set, htake, lnCells_snoc, lnCells_snoc, List.set_append_right _ _ (by rw [lnCells_len, hl1]; omega), lnCells_len, hl1, show j * 7 + 6 - j * 7 = 6 by omega]
      rfl
    · have key : ∀ a', a' ∈ q1 ++ [(x, v)] → (w.setCell ⟨g, j * 7 + 6, none⟩ (.bool true)).ownsRow B 54 4 a'.2 a'.1.pcs.length (pcCells a'.1.pcs) := fun a' h' => own_far (e3 a' h') (own_blk_ne (e3 a' h') hB (by decide)) _
      rcases List.mem_append.1 ha with ha | ha
      · exact key a (List.mem_append_left _ ha)
      · obtain rfl : a = ({ x with last := true }, v) := by simpa using ha
        exact key (x, v) (by simp)
theorem run_out_ {ht W : Int} {st st' : BG} (e : BeginR ht W st st') : st'.out = st.out := by
  obtain ⟨fs, _, rfl⟩ := e
  rfl
set_option maxRecDepth 100000 in
set_option maxHeartbeats 8000000 in
theorem break_any (xs : List It) (g c : Nat) (A : Option Addr) (fp : Nat) (W y size height ind al : Int) (Fv : Value) (w : World) (hA : 0 < xs.length → A = some ⟨g, 0, none⟩) (hI : ItsR w g xs) (hok : ItsOk xs) (hgf : 0 < xs.length → g ≠ fp ∧ Fv.ownBlock ≠ some g)
    (hflo : Blk w fp 89 #[.int .i64 W, Fv]) (hfls : w.ownsRow 0 153 5 Fv 0 []) (hW : 0 ≤ W ∧ W ≤ 16777216) :
    Calls Tryd.prog 19 #[.slice A xs.length c, .pointer (some ⟨fp, 0, none⟩), .int .i64 y, .int .i64 size, .int .i64 height, .int .i64 ind, .int .i64 al] w fun e w' => ∃ v out, e = .returned v ∧ BreakR xs (max 0 (cut size)) (max 0 (cut height)) al W (cut y) (cut ind) [] out ∧ LinesAt w' 0 v out ∧ Kept (fun k => k < w.heap.size ∧ k ≠ fp ∧ Fv.ownBlock ≠ some k) w w' := by
  have HI := hide hI
  have HF := hide hflo
  have HFS := hide hfls
  have HOK := hide hok
  have HA := hide hA
  have HGF := hide hgf
  have y1 := cut_lo y
  have y2 := cut_hi y
  have i1 := cut_lo ind
  have i2 := cut_hi ind
  have s2 := cut_hi size
  have t2 := cut_hi height
  clear hI hflo hfls hok hA hgf
  go_enter Tryd.func19, Tryd.ntmps19
  go_wp2_with (go_at_call 13; refine (cut_any _ _).mono ?_; rintro e w' ⟨rfl, rfl⟩)
  have hb := (Below.refl w.heap.size w).alloc (Nat.le_refl _) (.cells (brA fp (cut y) (max 0 (cut size)) (max 0 (cut height)) al (cut ind) 0 0 (.slice none 0 0) false (.slice none 0 0) (.slice none 0 0)) 81)
  have hsA : (w.alloc (.cells (brA fp (cut y) (max 0 (cut size)) (max 0 (cut height)) al (cut ind) 0 0 (.slice none 0 0) false (.slice none 0 0) (.slice none 0 0)) 81)).heap.size = w.heap.size + 1 := by simp
  have HBA := hide (show BrV (w.alloc (.cells (brA fp (cut y) (max 0 (cut size)) (max 0 (cut height)) al (cut ind) 0 0 (.slice none 0 0) false (.slice none 0 0) (.slice none 0 0)) 81)) (fun k => k < w.heap.size ∧ k ≠ fp ∧ Fv.ownBlock ≠ some k) w.heap.size fp g W (max 0 (cut size)) (max 0 (cut height)) al ⟨cut y, cut ind, 0, 0, [], false, [], [], []⟩ (.slice none 0 0) (.slice none 0 0) (.slice none 0 0) Fv from
    ⟨Blk.new w _ _, own_none _ _ _ _, own_none _ _ _ _, LinesAt.none_ _ _, HF.out.alloc _, HFS.out.alloc _, (fun k h => by cases h), fun h => Nat.lt_irrefl _ h.1, fun h => h.2.1 rfl, (fun k h => by cases h), (fun k h => by cases h), (fun k h => by cases h), fun k h1 h2 => h2.2.2 h1, fun k hk => by rw [hsA]; omega⟩)
  have HIA := hide (show ItK (w.alloc (.cells (brA fp (cut y) (max 0 (cut size)) (max 0 (cut height)) al (cut ind) 0 0 (.slice none 0 0) false (.slice none 0 0) (.slice none 0 0)) 81)) (fun k => k < w.heap.size ∧ k ≠ fp ∧ Fv.ownBlock ≠ some k) g xs from
    ⟨HI.out.below hb, fun h0 => ⟨HI.out.2 h0, (HGF.out h0).1, (HGF.out h0).2⟩, itAt_ok HOK.out⟩)
  have HKA := hide (show Kept (fun k => k < w.heap.size ∧ k ≠ fp ∧ Fv.ownBlock ≠ some k) w (w.alloc (.cells (brA fp (cut y) (max 0 (cut size)) (max 0 (cut height)) al (cut ind) 0 0 (.slice none 0 0) false (.slice none 0 0) (.slice none 0 0)) 81)) from Kept.of_below hb fun k hk => hk.1)
  have HS0 := hide (show StOk xs ⟨cut y, cut ind, 0, 0, [], false, [], [], []⟩ 0 0 from ⟨FsOk.nil, ⟨i1, i2⟩, ⟨by show (-16777216 : Int) ≤ 0; decide, by show (0 : Int) ≤ 50331648; decide⟩, ⟨by show (-16777216 : Int) ≤ 0; decide, by show (0 : Int) ≤ 16777216; decide⟩, ⟨y1, by show cut y ≤ 16777216 + 200000000 * ((0 : Nat) : Int); omega⟩, (fun p hp => by cases hp), (fun p hp => by cases hp), Nat.le_refl _, Nat.le_refl _, Nat.le_refl _⟩)
  have hz : 0 ≤ max 0 (cut size) ∧ max 0 (cut size) ≤ 16777216 := by omega
  have hh : 0 ≤ max 0 (cut height) ∧ max 0 (cut height) ≤ 16777216 := by omega
  have HBG := hide (beginV_any xs g _ w.heap.size fp W _ _ al _ _ _ _ Fv _ HIA.out.its HIA.out.kg HIA.out.ok HBA.out FsOk.nil hW ⟨i1, i2⟩ (fun p hp => by cases hp) (Nat.zero_le _))
  have hK0 : ∀ k, (k < w.heap.size ∧ k ≠ fp ∧ Fv.ownBlock ≠ some k) → k < w.heap.size := fun k hk => hk.1
  clear HF HFS HGF HI s2 t2
  generalize hsz : max 0 (cut size) = sz at *
  generalize hht : max 0 (cut height) = ht at *
  generalize hcy : cut y = cy at *
  generalize hci : cut ind = ci at *
  generalize hK : (fun k => k < w.heap.size ∧ k ≠ fp ∧ Fv.ownBlock ≠ some k) = K at *
  have HTIE := hide (show (max 0 (cut size) = sz ∧ max 0 (cut height) = ht) ∧ (cut y = cy ∧ cut ind = ci) ∧ (fun k => k < w.heap.size ∧ k ≠ fp ∧ Fv.ownBlock ≠ some k) = K from ⟨⟨hsz, hht⟩, ⟨hcy, hci⟩, hK⟩)
  clear hK hK0 hsz hht hcy hci
  refine HBG.out.mono ?_
  rintro e w2 ⟨rfl, s1, F1, hbg, hf1, hb2, hk2⟩
  have HS1 := hide (HS0.out.begin hW hbg hf1)
  have HBR := hide hbg
  have HB2 := hide hb2
  have HK2 := hide (HKA.out.trans hk2)
  have HI2 := hide (HIA.out.kept hk2)
  have HPA := hide (parts_any xs g c A w2 HA.out HI2.out.its.1 HI2.out.its.2 HOK.out)
  have hpl := (partsTo_ok HOK.out xs.length (Nat.le_refl _)).2
  have hx25 := HOK.out.1
  have HPO := hide (show PsOk xs (partsTo xs xs.length) from fun p hp => (partsTo_ok HOK.out xs.length (Nat.le_refl _)).1 p hp)
  have hp5 : (partsTo xs xs.length).length ≤ 5000 := by omega
  have HSG := hide (show segsF xs = (groupsTo xs (partsTo xs xs.length) (partsTo xs xs.length).length).1.map (segP (partsTo xs xs.length)) from rfl)
  have HFLT := hide (segs_all xs)
  clear HBG HBA HIA HKA HS0 hbg hf1 hb2 hk2 hpl HA hb
  generalize partsTo xs xs.length = ps at *
  have HGO := hide (groups_ok xs ps ps.length (Nat.le_refl _))
  go_wp2_with fail
  refine HPA.out.mono ?_
  rintro e w3 ⟨v3, rfl, own3, hb3⟩
  obtain ⟨A3, c3, rfl, hc3, _⟩ := own_reads own3
  have HGR := hide (groupsK_any xs g ps w2.heap.size c3 A3 w3 (HI2.out.its.below hb3) own3 (by omega) hc3 HPO.out)
  clear HPA
  go_wp2_with fail
  refine HGR.out.mono ?_
  rintro e w4 ⟨v4, h4, rfl, own4, hA4, hb4⟩
  obtain ⟨A5, c5, rfl, _, _⟩ := own_reads own4
  have b24 := below_on hb3 hb4
  have own3' := own_keep own3 hb4 (own_lt own3)
  have h3s := hb3.size
  have h4s := hb4.size
  have HB4 := hide (HB2.out.fresh (D := fun k => (Value.slice A3 ps.length c3).ownBlock = some k ∨ (Value.slice A5 (groupsTo xs ps ps.length).1.length c5).ownBlock = some k) b24 (fun k hk => hk.elim (fun e => ⟨own_ge own3 k e, by have := own_lt own3 k e; omega⟩) (fun e => ⟨by have := own_ge own4 k e; omega, own_lt own4 k e⟩)))
  have HI4 := hide (show ItK w4 (fun k => K k ∨ (Value.slice A3 ps.length c3).ownBlock = some k ∨ (Value.slice A5 (groupsTo xs ps ps.length).1.length c5).ownBlock = some k) g xs from ⟨HI2.out.its.below b24, fun h0 => .inl (HI2.out.kg h0), HI2.out.ok⟩)
  have HK4 := hide (HK2.out.trans (Kept.of_below b24 HB2.out.kk))
  have HPT := hide (fun (h0 : 0 < ps.length) => (show h4 < w4.heap.size ∧ PtsAt w4 g h4 0 ps ∧ (Value.slice A3 ps.length c3).ownBlock = some h4 from by
    obtain ⟨q, e1, _, e3, e4⟩ := pts_of_own own3' rfl h0
    have e5 := hA4 h0
    rw [e5] at e1
    injection e1 with e1
    injection e1 with e1
    subst e1
    exact ⟨e3, e4, by rw [e5]; rfl⟩))
  have HO4 := hide own4
  clear HGR HB2 HI2 HK2 hb3 hb4 own3 own4 own3' b24 hA4
  generalize hgrs : (groupsTo xs ps ps.length).1 = grs at *
  have HGRS := hide hgrs
  clear hgrs
  generalize hK' : (fun k => K k ∨ (Value.slice A3 ps.length c3).ownBlock = some k ∨ (Value.slice A5 grs.length c5).ownBlock = some k) = K' at *
  have HKK := hide (show ∀ k, K k → K' k from fun k hk => by rw [← hK']; exact .inl hk)
  have HK3 := hide (show ∀ k, (Value.slice A3 ps.length c3).ownBlock = some k → K' k from fun k hk => by rw [← hK']; exact .inr (.inl hk))
  have HK5 := hide (show ∀ k, (Value.slice A5 grs.length c5).ownBlock = some k → K' k from fun k hk => by rw [← hK']; exact .inr (.inr hk))
  clear hK'
  go_wp2_with fail
  go_loopw [17, 39] (fun _ i wr => ∃ (k : Nat) (st' : BG) (L T O F : Value), k ≤ grs.length ∧ i = .int .i64 k ∧ Hid (RunR xs sz ht al W s1 ((segsF xs).take k) st') ∧ Hid (StOk xs st' (((segsF xs).take k).flatten.length) (2 * k)) ∧ Hid (BrV wr K' w.heap.size fp g W sz ht al st' L T O F) ∧ Hid (Kept K' w4 wr)) (fun _ i _ => grs.length - (intOf i).toNat)
  case atStart => exact ⟨0, s1, _, _, _, F1, Nat.zero_le _, rfl, RunR.nil _, HS1.out, HB4.out, Kept.refl _ _⟩
  case round =>
    obtain ⟨k, st', L, T, O, F, hk, rfl, hrun, hok, hbr, hkp⟩ := hrel
    by_cases hlt : k < grs.length
    · as_aux_lemma =>
        have hown := own_keptK HO4.out hkp.out HK5.out
        obtain ⟨q5, cap5, hv5, _, hq5⟩ := hown.form (by omega)
        obtain rfl : A5 = some ⟨q5, 0, none⟩ := by injection hv5
        have hcell := hown.cellAt k (by omega)
        have hgk := HGO.out.2.1 _ (List.getElem_mem hlt)
        have hsk : (segsF xs).take (k + 1) = (segsF xs).take k ++ [segP ps grs[k]] := by
          rw [HSG.out, List.take_succ_eq_append_getElem (by simpa using hlt), List.getElem_map]
        have hfl := take_flat (segsF xs) (k + 1)
        rw [HFLT.out, hsk, List.flatten_append, List.length_append] at hfl
        rw [show (grCells h4 c3 grs)[k]? = some (grV h4 c3 grs[k]) from by unfold grCells; rw [List.getElem?_map, List.getElem?_eq_getElem hlt]; rfl] at hcell
        have HSK := hide hsk
        have hg5 := HGO.out.2.2
        clear hsk hown hv5
        generalize grs[k] = gr at *
        obtain ⟨a, b⟩ := gr
        simp only at hgk
        have hsl : (segP ps (a, b)).length = b - a := by simp only [segP, List.length_take, List.length_drop]; omega
        have hpt := HPT.out (by omega)
        have hpk : PtsK wr K' g (some ⟨h4, a * 5, none⟩) (segP ps (a, b)) := fun _ => by
          obtain ⟨q, off, e1, e2, e3, e4⟩ := (show PtsK w4 K' g (some ⟨h4, 0, none⟩) ps from fun _ => ⟨h4, 0, rfl, hpt.1, HK3.out h4 hpt.2.2, hpt.2.1⟩).kept hkp.out (by omega)
          injection e1 with e1
          injection e1 with e1 e5
          subst e1
          subst e5
          have h9 := e4.seg a b hgk.2
          rw [Nat.zero_add] at h9
          exact ⟨h4, a * 5, rfl, e2, e3, h9⟩
        simp only [List.flatten_cons, List.flatten_nil, List.append_nil] at hfl
        have HPV := hide (putV_any xs g (segP ps (a, b)) (some ⟨h4, a * 5, none⟩) (c3 - a) K' w.heap.size fp W sz ht al st' L T O F _ _ wr (HI4.out.kept hkp.out) hpk (fun p hp => HPO.out p (segP_mem p hp)) hbr.out hok.out (by omega) (by have := HGO.out.2.2; omega) hz hh hW)
        rw [hsl] at HPV
        have HRUN := hide hrun.out
        have HKP := hide hkp.out
        have HFN := hide (show ((segsF xs).take (k + 1)).flatten.length = ((segsF xs).take k).flatten.length + (b - a) from by rw [HSK.out, List.flatten_append, List.length_append]; simp only [List.flatten_cons, List.flatten_nil, List.append_nil]; rw [hsl])
        have hcc : wr.cell? ⟨q5, k, none⟩ = some (.slice (some ⟨h4, a * 5, none⟩) (b - a) (c3 - a)) := hcell
        clear hrun hkp hok hbr hpk hcell hpt hfl hsl HPT
        go_wp2_with fail
        refine HPV.out.mono ?_
        rintro e w5 ⟨rfl, st5, L5, T5, O5, F5, hp5', hok5, hb5, hk5⟩
        have HR5 := hide (show RunR xs sz ht al W s1 ((segsF xs).take (k + 1)) st5 from by rw [HSK.out]; exact HRUN.out.snoc hp5')
        have HO5 := hide (show StOk xs st5 (((segsF xs).take (k + 1)).flatten.length) (2 * (k + 1)) from by rw [HFN.out]; exact hok5.more (Nat.le_refl _) (by omega))
        have HB5 := hide hb5
        have HK5' := hide (HKP.out.trans hk5)
        clear hp5' hok5 hb5 hk5 HPV
        go_wp2_with fail
        go_roundw
        case rel => exact ⟨k + 1, st5, L5, T5, O5, F5, by omega, by go_num, HR5.out, HO5.out, HB5.out, HK5'.out⟩
        case measure => simp only [intOf]; omega
    · as_aux_lemma =>
        obtain rfl : k = grs.length := by omega
        rw [show (segsF xs).take grs.length = segsF xs from List.take_of_length_le (by rw [HSG.out, List.length_map]; exact Nat.le_refl _)] at hrun hok
        rw [HFLT.out] at hok
        have hg5 := HGO.out.2.2
        have HRUN := hide hrun.out
        have HOK5 := hide hok.out
        have HB5 := hide hbr.out
        have HI5 := hide (HI4.out.kept hkp.out)
        have HKP := hide (HK4.out.trans (hkp.out.less HKK.out))
        clear hrun hok hbr hkp HSG HFLT HGO HO4 HI4 HB4 HK4 HK3 HK5 HPT HPO HS1 hlt hk
        obtain ⟨AL, cL, rfl, hpl⟩ := pts_own HB5.out.line
        clear hpl
        have c8 : wr.cell? ⟨w.heap.size, 8, none⟩ = some (.slice AL st'.line.length cL) := HB5.out.blk.cell 8
        have HBR2 := hide (fun out (hf : FinR xs sz ht al W st' out) => (⟨s1, st', HBR.out, HRUN.out, hf⟩ : BreakR xs sz ht al W cy ci [] out))
        clear HBR HRUN
        by_cases hln : st'.line = []
        · as_aux_lemma =>
            have hl0 : ¬ (0 : Int) < (st'.line.length : Int) := by rw [hln]; decide
            have HFN := hide (HBR2.out (lastLn st'.out) (.inr ⟨hln, rfl⟩))
            obtain ⟨ql, hq1, hq2, hq3⟩ := HB5.out.lines
            obtain ⟨AO, cO, rfl, _, _⟩ := own_reads hq2
            clear hq1 hq2 hq3 HBR2
            have c11 : wr.cell? ⟨w.heap.size, 11, none⟩ = some (.slice AO st'.out.length cO) := HB5.out.blk.cell 11
            by_cases hout : st'.out = []
            · have ho0 : ¬ (0 : Int) < (st'.out.length : Int) := by rw [hout]; decide
              have HBG := hide (beginV_any xs g K' w.heap.size fp W sz ht al st' _ T _ F wr HI5.out.its HI5.out.kg HI5.out.ok HB5.out HOK5.out.fs hW HOK5.out.ind (fun p hp => (HOK5.out.late p hp).1) (by have := HOK5.out.lt; omega))
              have HKX := hide HKP.out
              have HLAST := hide (fun (s7 : BG) (h7 : s7.out = st'.out) (Z : World) (hz7 : LinesAt Z 0 (.slice AO st'.out.length cO) s7.out) => (show LinesAt Z 0 (.slice AO st'.out.length cO) (lastLn st'.out) from by have e9 : lastLn st'.out = s7.out := (by rw [h7, hout]; rfl); rw [e9]; exact hz7))
              clear HB5 HOK5 HI5 HKP hln hout
              go_wp2_with fail
              refine HBG.out.mono ?_
              rintro e w7 ⟨rfl, st7, F7, hbg7, _, hb7, hk7⟩
              have HB7 := hide hb7
              have HK7 := hide (HKX.out.trans (hk7.less HKK.out))
              have HO7 := hide (run_out_ hbg7)
              have c11' : w7.cell? ⟨w.heap.size, 11, none⟩ = some (.slice AO st'.out.length cO) := hb7.blk.cell 11
              clear hb7 hk7 hbg7 HBG
              go_wp2_with fail
              go_ret
              exact ⟨_, lastLn st'.out, rfl, (by rw [HTIE.out.1.1, HTIE.out.1.2, HTIE.out.2.1.1, HTIE.out.2.1.2]; exact HFN.out), HLAST.out st7 HO7.out w7 HB7.out.lines, (by rw [HTIE.out.2.2]; exact HK7.out)⟩
            · obtain ⟨j, hj⟩ : ∃ j, st'.out.length = j + 1 := ⟨st'.out.length - 1, by have := List.length_pos_iff.2 hout; omega⟩
              have ho0 : (0 : Int) < (st'.out.length : Int) := by omega
              have hob := HOK5.out.out
              obtain ⟨q9, v9, rfl, hc9, hz9, hl9, ho9⟩ := lines_last HB5.out.lines hj
              have hon : Only (fun i => i = w.heap.size ∨ (Value.slice (some ⟨q9, 0, none⟩) st'.out.length cO).ownBlock = some i) wr (wr.setCell ⟨q9, j * 7 + 6, none⟩ (.bool true)) := Only.setCell (p := ⟨q9, j * 7 + 6, none⟩) (.inr ho9) _
              have hne : w.heap.size ≠ q9 := fun e => by
                obtain ⟨ql, _, hq2, _⟩ := HB5.out.lines
                exact own_blk_ne hq2 HB5.out.blk (by decide) (by rw [e]; exact ho9)
              have HB9 := hide (HB5.out.o_set (st' := { st' with out := lastLn st'.out }) (Ov' := .slice (some ⟨q9, 0, none⟩) st'.out.length cO) (HB5.out.blk.far (p := ⟨q9, j * 7 + 6, none⟩) hne _) hl9 hon (fun k hk => .inl hk) rfl rfl rfl)
              have hk9 := HB5.out.kept_o hon
              have HI9 := hide (HI5.out.kept hk9)
              have HKX := hide (HKP.out.trans (hk9.less HKK.out))
              have HBG := hide (beginV_any xs g K' w.heap.size fp W sz ht al _ _ T _ F _ HI9.out.its HI9.out.kg HI9.out.ok HB9.out HOK5.out.fs hW HOK5.out.ind (fun p hp => (HOK5.out.late p hp).1) (by have := HOK5.out.lt; show st'.late.length ≤ 100000; omega))
              have HLAST := hide (fun (s7 : BG) (h7 : s7.out = lastLn st'.out) (Z : World) (hz7 : LinesAt Z 0 (.slice (some ⟨q9, 0, none⟩) st'.out.length cO) s7.out) => (show LinesAt Z 0 (.slice (some ⟨q9, 0, none⟩) st'.out.length cO) (lastLn st'.out) from by rw [h7] at hz7; exact hz7))
              have hj2 : (st'.out.length : Int) - 1 = (j : Int) := by omega
              have w9 : IntKind.i64.wrap ((st'.out.length : Int) - 1) = (j : Int) := by rw [hj2]; exact IntWalk.i64_in _ (by omega)
              have z1 : (0 : Int) ≤ (j : Int) := by omega
              have z2 : (j : Int) < (st'.out.length : Int) := by omega
              have c11b : (wr.setCell ⟨q9, j * 7 + 6, none⟩ (.bool true)).cell? ⟨w.heap.size, 11, none⟩ = some (.slice (some ⟨q9, 0, none⟩) st'.out.length cO) := HB9.out.blk.cell 11
              clear HB5 HOK5 HI5 HKP hln hout hl9 hon hk9 hne ho9 hj hj2 HB9 HI9
              go_wp2_with fail
              refine HBG.out.mono ?_
              rintro e w7 ⟨rfl, st7, F7, hbg7, _, hb7, hk7⟩
              have HB7 := hide hb7
              have HK7 := hide (HKX.out.trans (hk7.less HKK.out))
              have HO7 := hide (run_out_ hbg7)
              have c11' : w7.cell? ⟨w.heap.size, 11, none⟩ = some (.slice (some ⟨q9, 0, none⟩) st'.out.length cO) := hb7.blk.cell 11
              clear hb7 hk7 hbg7 HBG
              go_wp2_with fail
              go_ret
              exact ⟨_, lastLn st'.out, rfl, (by rw [HTIE.out.1.1, HTIE.out.1.2, HTIE.out.2.1.1, HTIE.out.2.1.2]; exact HFN.out), HLAST.out st7 HO7.out w7 HB7.out.lines, (by rw [HTIE.out.2.2]; exact HK7.out)⟩
        · as_aux_lemma =>
            have hlp : (0 : Int) < (st'.line.length : Int) := by
              have := List.length_pos_iff.2 hln
              omega
            have HEN := hide (endV_any xs g K' w.heap.size fp W sz ht al st' _ T O F _ _ true wr HI5.out HB5.out HOK5.out (by omega) (by omega) hz hh hW)
            clear HB5 HOK5
            go_wp2_with fail
            refine HEN.out.mono ?_
            rintro e w6 ⟨rfl, st6, O6, F6, he6, hok6, hb6, hk6⟩
            have HB6 := hide hb6
            have HK6 := hide (HKP.out.trans (hk6.less HKK.out))
            have HI6 := hide (HI5.out.kept hk6)
            have HBG := hide (beginV_any xs g K' w.heap.size fp W sz ht al st6 _ _ O6 F6 w6 HI6.out.its HI6.out.kg HI6.out.ok hb6 hok6.fs hW hok6.ind (fun p hp => (hok6.late p hp).1) (by have := hok6.lt; omega))
            have HFN := hide (HBR2.out st6.out (.inl ⟨hln, st6, he6, rfl⟩))
            clear hb6 hk6 hok6 he6 HEN HBR2 HKP HI5
            go_wp2_with fail
            refine HBG.out.mono ?_
            rintro e w7 ⟨rfl, st7, F7, hbg7, _, hb7, hk7⟩
            have HB7 := hide hb7
            have HK7 := hide (HK6.out.trans (hk7.less HKK.out))
            have HO7 := hide (run_out_ hbg7)
            have c11 : w7.cell? ⟨w.heap.size, 11, none⟩ = some O6 := hb7.blk.cell 11
            clear hb7 hk7 hbg7 HBG HB6 HK6 HI6
            go_wp2_with fail
            go_ret
            exact ⟨O6, st6.out, rfl, (by rw [HTIE.out.1.1, HTIE.out.1.2, HTIE.out.2.1.1, HTIE.out.2.1.2]; exact HFN.out), by rw [← HO7.out]; exact HB7.out.lines, (by rw [HTIE.out.2.2]; exact HK7.out)⟩
end Go.Proofs.YtadlabndbomgmaaDoor
