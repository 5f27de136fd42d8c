/- The walk of breaker.tell. -/
import Derived.BigQuiet
import Derived.Handy
import Derived.IntWalk
import Derived.RegionTactic
import Derived.Deep.MidRow
import Derived.Deep.CutBlock
import Derived.Deep.RegionHeld3
import Derived.Test.YtadlabndbomgmaaDoorJ6
import Derived.Test.YtadlabndbomgmaaDoorJ2
import Derived.Test.YtadlabndbomgmaaDoorJMayEnd
import Derived.Test.YtadlabndbomgmaaDoorJShareWalk
set_option linter.unusedVariables false
set_option linter.unusedSimpArgs false
namespace Go.Proofs.YtadlabndbomgmaaDoor
open Go.ChangeShapes Go.WideShapes Go.ChangeAt Go.RowKit
theorem solidTo_step (xs : List It) (ps : List Pt) (k : Nat) : solidTo xs ps (k + 1) = if solidF xs (ptAt ps k) = true then k + 1 else solidTo xs ps k := rfl
theorem solidTo_le (xs : List It) (ps : List Pt) (k : Nat) : solidTo xs ps k ≤ k := by
  induction k with
  | zero => exact Nat.le_refl _
  | succ k ih => rw [solidTo_step]; split <;> omega
theorem trimF_zero {xs : List It} {ps : List Pt} (h : solidTo xs ps ps.length = 0) : trimF xs ps = ps := by unfold trimF; simp only [h, if_true]
theorem trimF_same {xs : List It} {ps : List Pt} {e : Nat} (h : solidTo xs ps ps.length = e + 1) (ht : tailF xs (ptAt ps e) = 0) : trimF xs ps = ps := by unfold trimF; simp only [h, Nat.add_sub_cancel, ht, if_true]; split <;> rfl
theorem trimF_cut {xs : List It} {ps : List Pt} {e : Nat} (h : solidTo xs ps ps.length = e + 1) (ht : tailF xs (ptAt ps e) ≠ 0) : trimF xs ps = ps.set e (cutPt xs (ptAt ps e)) := by unfold trimF; simp only [h, Nat.add_sub_cancel, if_neg ht]; rw [if_neg (by omega)]
theorem tail_size {xs : List It} {p : Pt} (h : tailF xs p ≠ 0) : 0 < p.t.size := by
  rcases Nat.eq_zero_or_pos p.t.size with h0 | h0
  · exfalso
    apply h
    have : p.t.data.toList = [] := List.eq_nil_of_length_eq_zero (by rw [Array.length_toList]; exact h0)
    unfold tailF endsF spaceEnd
    simp [this]
  · exact h0
theorem widthG_bd (ts : List Pt) (h : ∀ p ∈ ts, 0 ≤ p.w ∧ p.w ≤ 16777216) : 0 ≤ widthG ts ∧ widthG ts ≤ 16777216 * (ts.length : Int) := by
  induction ts with
  | nil => exact ⟨Int.le_refl _, Int.le_refl _⟩
  | cons p l ih =>
    have h1 := h p (by simp)
    have h2 := ih fun q hq => h q (by simp [hq])
    rw [widthG_cons, List.length_cons]
    omega
theorem Reads.ints_blk {w : World} {G : Nat} {t : TypeId} {l : List Int} {n : Nat} (h : Blk w G t (intsA l)) (hn : l.length = n) : Reads w w.heap.size 1 (some ⟨G, 0, none⟩) n (l.map (Value.int .i64)) := by
  refine ⟨by rw [List.length_map, hn, Nat.mul_one], fun _ => ⟨_, rfl, h.lt, fun j u hu => ?_⟩⟩
  rw [add_plain, h.cell, Nat.zero_add, ← hu]
  simp [intsA]
theorem PtsAt.far {w : World} {g h off : Nat} {ps : List Pt} (hp : PtsAt w g h off ps) {p : Addr} (hne : h ≠ p.block) (u : Value) : PtsAt (w.setCell p u) g h off ps := fun k hk j hj => by
  rw [World.cell?_setCell_other w p ⟨h, off + k * 5 + j, none⟩ u (by intro e; apply hne; first | exact congrArg Addr.block e | exact (congrArg Addr.block e).symm)]; exact hp k hk j hj
theorem blk_size {w : World} {g i : Nat} {t : TypeId} {cs : Array Value} {v : Value} (h : Blk w g t cs) (hc : w.cell? ⟨g, i, none⟩ = some v) : i < cs.size := by
  rw [h.cell] at hc
  rcases Nat.lt_or_ge i cs.size with h9 | h9
  · exact h9
  · rw [Array.getElem?_eq_none h9] at hc; cases hc
/-- One cell of a part is stored anew (the world behind it a letter). -/
theorem PtsAt.set_b {w w' : World} {g h : Nat} {ps : List Pt} {t : TypeId} {cs : Array Value} (hp : PtsAt w g h 0 ps) (hb : Blk w h t cs) (k j : Nat) (hk : k < ps.length) (_hj : j < 5) (p : Pt) (v : Value) (hb' : Blk w' h t (cs.setIfInBounds (k * 5 + j) v)) (hv : (ptC g p)[j]? = some v) (ho : ∀ i, i < 5 → i ≠ j → (ptC g p)[i]? = (ptC g (ptAt ps k))[i]?) :
    PtsAt w' g h 0 (ps.set k p) := by
  intro i hi r hr
  rw [List.length_set] at hi
  have hat : ptAt (ps.set k p) i = if i = k then p else ptAt ps i := by
    rw [ptAt_of _ _ (by rw [List.length_set]; exact hi), List.getElem_set]
    by_cases e : k = i
    · rw [if_pos e, if_pos e.symm]
    · rw [if_neg e, if_neg (fun h => e h.symm), ptAt_of ps i hi]
  have h0 := hp i hi r hr
  have hcl := hb'.cell (0 + i * 5 + r)
  have hcl0 := hb.cell (0 + i * 5 + r)
  rw [hcl, hat]
  by_cases e : i = k
  · subst e
    rw [if_pos rfl]
    by_cases e2 : r = j
    · subst e2
      rw [hv, show 0 + i * 5 + r = i * 5 + r by omega]
      have : i * 5 + r < cs.size := by
        rw [hcl0] at h0
        rcases Nat.lt_or_ge (0 + i * 5 + r) cs.size with h9 | h9
        · omega
        · rw [Array.getElem?_eq_none h9] at h0
          exfalso
          have : (ptC g (ptAt ps i)).length = 5 := rfl
          rw [List.getElem?_eq_getElem (by omega)] at h0
          cases h0
      rw [Array.getElem?_setIfInBounds_self_of_lt this]
    · rw [ho r hr e2, ← h0, hcl0, Array.getElem?_setIfInBounds_ne (by omega)]
  · rw [if_neg e, ← h0, hcl0, Array.getElem?_setIfInBounds_ne (by omega)]
theorem PtsAt.keptB {w w' : World} {g h off X : Nat} {ps : List Pt} (hp : PtsAt w g h off ps) (hh : h < w.heap.size) (hg : w.grownBy w' (some X)) (hne : h ≠ X) : PtsAt w' g h off ps := fun k hk j hj => by
  rw [World.cell?_of_block (w := w) (hg.block h hh (fun e => hne (by injection e)))]
  exact hp k hk j hj
theorem gapWs_len (xs : List It) (ts : List Pt) (m : Nat) : (gapWs xs ts m).length = ts.length := by simp [gapWs]
theorem gapWs_zero (xs : List It) (ts : List Pt) : gapWs xs ts 0 = List.replicate ts.length 0 := by
  refine List.ext_getElem (by simp [gapWs]) fun j h1 h2 => ?_
  simp [gapWs]
theorem gapWs_step (xs : List It) (ts : List Pt) (k : Nat) (hk : k < ts.length) : gapWs xs ts (k + 1) = if endsF xs (ptAt ts k) = true then (gapWs xs ts k).set k 1 else gapWs xs ts k := by
  have key : ∀ (j : Nat) (h1 : j < (gapWs xs ts (k + 1)).length) (h2 : j < (gapWs xs ts k).length), j ≠ k → (gapWs xs ts (k + 1))[j] = (gapWs xs ts k)[j] := fun j h1 h2 hne => by
    simp only [gapWs, List.getElem_map, List.getElem_range]
    have : decide (j < k + 1) = decide (j < k) := by
      by_cases h : j < k
      · rw [decide_eq_true h, decide_eq_true (by omega)]
      · rw [decide_eq_false h, decide_eq_false (by omega)]
    rw [this]
  by_cases he : endsF xs (ptAt ts k) = true
  · rw [if_pos he]
    refine List.ext_getElem (by simp [gapWs]) fun j h1 h2 => ?_
    rw [List.getElem_set]
    by_cases hj : k = j
    · subst hj
      rw [if_pos rfl]
      simp [gapWs, he]
    · rw [if_neg hj]
      exact key j h1 (by simpa using h2) (fun e => hj e.symm)
  · rw [if_neg he]
    refine List.ext_getElem (by simp [gapWs]) fun j h1 h2 => ?_
    by_cases hj : k = j
    · subst hj
      simp [gapWs, he]
    · exact key j h1 h2 (fun e => hj e.symm)
theorem tellTo_next (xs : List It) (ps : List Pt) (gaps : List Int) (k : Nat) : tellTo xs ps gaps (k + 1) = ((tellTo xs ps gaps k).1 + ((ptAt ps k).w + at0 gaps k), if pKind xs (ptAt ps k) = 5 then (tellTo xs ps gaps k).2 else (tellTo xs ps gaps k).2 ++ [⟨(ptAt ps k).i, cut (tellTo xs ps gaps k).1, cut (ptAt ps k).w, (ptAt ps k).t⟩]) := rfl
theorem tell_at (xs : List It) (ts : List Pt) (gp : List Int) (k : Nat) (hg : gp.length = ts.length) (hk : k ≤ ts.length) : (tellTo xs ts gp k).1 = widthG (ts.take k) + psum gp k := by
  induction k with
  | zero => rfl
  | succ k ih =>
    have hlt : k < ts.length := by omega
    rw [tellTo_next, ih (by omega), List.take_succ_eq_append_getElem hlt, widthG_append, psum_succ gp k (by omega), ← ptAt_of ts k hlt]
    simp only [widthG, List.map_cons, List.map_nil, List.sum_cons, List.sum_nil]
    omega
theorem gaps_bd (xs : List It) (al : Int) (last : Bool) (ts : List Pt) (m : Nat) (fr : Int) : ∀ k, k ≤ ts.length → -281474976710656000 ≤ psum (gapsF xs al last ts m fr) k ∧ psum (gapsF xs al last ts m fr) k ≤ 281474976710656000 := by
  intro k hk
  unfold gapsF
  split
  · exact psum_shared_bound fr _ k (by simp [gapWs]; exact hk)
  · rw [psum_rep _ _ hk]; omega
theorem gap_bd {gp : List Int} {n k : Nat} (h : ∀ j, j ≤ n → -281474976710656000 ≤ psum gp j ∧ psum gp j ≤ 281474976710656000) (hg : gp.length = n) (hk : k < n) : -562949953421312000 ≤ at0 gp k ∧ at0 gp k ≤ 562949953421312000 := by
  have h1 := h k (by omega)
  have h2 := h (k + 1) (by omega)
  rw [psum_succ gp k (by omega)] at h2
  omega
theorem line_info : (Tryd.prog.info? 52).map (fun i => (i.zero, i.size, i.bytes)) = some (some (.agg #[.int .i64 0, .int .i64 0, .int .i64 0, .int .i64 0, .int .i64 0, .slice none 0 0, .bool false]), 7, 72) := by kernel_rfl
theorem piece_info : (Tryd.prog.info? 54).map (fun i => (i.zero, i.size, i.bytes)) = some (some (.agg #[.int .i64 0, .int .i64 0, .int .i64 0, .string ByteArray.empty]), 4, 40) := by kernel_rfl
theorem grown_own {a w w' : World} {row : Option Nat} {base size n : Nat} {e : TypeId} {v : Value} {xs : List Value} (h : a.grownBy w row) (ho : w.ownsRow base e size v n xs) (hb : a.heap.size ≤ base) (hg : w.grownBy w' v.ownBlock) : a.grownBy w' row :=
  ⟨hg.os.trans h.os, hg.tape.trans h.tape, hg.output.trans h.output, Nat.le_trans h.size hg.size, fun i hi hr => (hg.block i (Nat.lt_of_lt_of_le hi h.size) (fun e => by have := own_ge ho i e.symm; omega)).trans (h.block i hi hr)⟩
theorem tellTo_len (xs : List It) (ts : List Pt) (gp : List Int) (k : Nat) : (tellTo xs ts gp k).2.length ≤ k := by
  induction k with
  | zero => exact Nat.le_refl _
  | succ k ih =>
    rw [tellTo_next]
    simp only
    split
    · omega
    · rw [List.length_append, List.length_singleton]; omega
theorem trimF_len (xs : List It) (ps : List Pt) : (trimF xs ps).length = ps.length := by
  unfold trimF
  simp only
  split
  · rfl
  · split
    · rfl
    · rw [List.length_set]
theorem trimF_ok {xs : List It} {ps : List Pt} (h : PsOk xs ps) : ∀ p ∈ trimF xs ps, p.i < xs.length ∧ 0 ≤ p.w ∧ p.w ≤ 16777216 ∧ p.t.size ≤ 200 := by
  have key : ∀ p ∈ ps, p.i < xs.length ∧ 0 ≤ p.w ∧ p.w ≤ 16777216 ∧ p.t.size ≤ 200 := fun p hp => by
    have := h p hp
    unfold PtOk at this
    omega
  unfold trimF
  simp only
  split
  · exact key
  · split
    · exact key
    · rename_i h1 h2
      intro p hp
      rcases List.mem_or_eq_of_mem_set hp with hp | rfl
      · exact key p hp
      · have hle := solidTo_le xs ps ps.length
        have hm : ptAt ps (solidTo xs ps ps.length - 1) ∈ ps := by rw [ptAt_of ps _ (by omega)]; exact List.getElem_mem _
        have h3 := h _ hm
        unfold PtOk at h3
        unfold cutPt
        simp only [ByteArray.size_extract]
        omega
theorem PtsAt.row {w : World} {g h : Nat} {ps : List Pt} (hp : PtsAt w g h 0 ps) {k : Nat} (hk : k < ps.length) : w.cell? ⟨h, k * 5, none⟩ = some (.pointer (some ⟨g, (ptAt ps k).i * 11, none⟩)) ∧ w.cell? ⟨h, k * 5 + 1, none⟩ = some (.int .i64 (ptAt ps k).i) ∧ w.cell? ⟨h, k * 5 + 2, none⟩ = some (.string (ptAt ps k).t) ∧ w.cell? ⟨h, k * 5 + 3, none⟩ = some (.int .i64 (ptAt ps k).w) ∧ w.cell? ⟨h, k * 5 + 4, none⟩ = some (.bool (ptAt ps k).last) :=
  ⟨hp.d0 hk, hp.d1 hk, hp.d2 hk, hp.d3 hk, hp.d4 hk⟩
set_option maxRecDepth 100000 in
set_option maxHeartbeats 8000000 in
theorem tell_any (xs : List It) (g : Nat) (ps : List Pt) (A : Option Addr) (c b fp B : Nat) (y sz ht al ind lf rt : Int) (full last : Bool) (late outV : Value) (out : List Ln) (w : World) (hI : ItsR w g xs) (hp : PtsR w g A ps) (h0 : 0 < ps.length) (hl : ps.length ≤ 5000) (hok : PsOk xs ps) (hx : ∀ k, ItOk (itAt xs k))
    (hb : Blk w b 81 (brA fp y sz ht al ind lf rt (.slice A ps.length c) full late outV)) (hz : 0 ≤ sz ∧ sz ≤ 16777216) (hh : 0 ≤ ht ∧ ht ≤ 16777216) (hB : B ≤ w.heap.size) (ho : LinesAt w B outV out) (hol : out.length ≤ 100000)
    (hy : -1000000000000000 ≤ y ∧ y ≤ 1000000000000000) (hlf : -100000000 ≤ lf ∧ lf ≤ 100000000) (hrt : -100000000 ≤ rt ∧ rt ≤ 100000000) :
    Calls Tryd.prog 51 #[.pointer (some ⟨b, 0, none⟩), .bool last] w fun e w' => e = .returned (.tuple #[]) ∧ ∃ outV', Blk w' b 81 (brA fp (y + highF xs sz ht ps) sz ht al ind lf rt (.slice A ps.length c) full late outV') ∧
      LinesAt w' B outV' (out ++ [lnOf xs sz ht al y lf rt ps last]) ∧ (∀ i, i < w.heap.size → i ≠ b → outV.ownBlock ≠ some i → w'.heap[i]? = w.heap[i]?) ∧ (w'.os = w.os ∧ w'.tape = w.tape ∧ w'.output = w.output ∧ w.heap.size ≤ w'.heap.size) ∧ (∀ k, outV'.ownBlock = some k → outV.ownBlock = some k ∨ w.heap.size ≤ k) := by
  obtain ⟨h, off, rfl, hhb, hps0⟩ := hp h0
  have HI := hide hI
  have HO := hide hok
  have HX := hide hx
  have HBK := hide hb
  have HOUT := hide ho
  have HP := hide hps0
  have HMET := hide (fun (W : World) (hbl : Below w.heap.size w W) => metrics_any xs g ps (some ⟨h, off, none⟩) c b fp y sz ht al ind lf rt full late outV W (hI.below hbl) (hp.below hbl) (by omega) hok hx (hb.below hbl hb.lt) hz hh)
  have HCL := hide (cloneP_any g ps h off c w hps0 hhb (by omega) h0)
  have c8 : w.cell? ⟨b, 8, none⟩ = some (.slice (some ⟨h, off, none⟩) ps.length c) := hb.cell 8
  have hbl := hb.lt
  clear hI hp hok hx hb ho hps0
  go_enter Tryd.func51, Tryd.ntmps51
  go_wp2_with fail
  refine HCL.out.mono ?_
  clear HCL
  rintro e w1 ⟨v1, rfl, own1, hb1⟩
  have hlt1 := own_lt own1
  obtain ⟨q, cap, cur, rfl, hq, hq1, hcap⟩ : ∃ q cap cur, v1 = .slice (some ⟨q, 0, none⟩) ps.length cap ∧ w.heap.size ≤ q ∧ Blk w1 q 96 cur ∧ ps.length ≤ cap := by
    rcases own1.2 with h9 | ⟨q, cap, cur, e1, e2, e3, e4, _⟩
    · omega
    · exact ⟨q, cap, cur, e1, e2, e3, e4⟩
  obtain ⟨q', e1, _, hql, hpt⟩ := pts_of_own own1 rfl h0
  obtain rfl : q = q' := by injection e1 with e1; injection e1
  have HQ := hide hq1
  have HPT := hide hpt
  clear own1 hq1 hpt e1 hlt1
  have Bi := Below.refl w1.heap.size w1
  go_wp2_with fail
  go_loopw [5, 25] (fun ev iv wr => ∃ k : Nat, k ≤ ps.length ∧ iv = .int .i64 k ∧ ev = .int .i64 ((solidTo xs ps k : Int) - 1) ∧ Below w1.heap.size w1 wr) (fun _ iv _ => ps.length - (intOf iv).toNat)
  case atStart => exact ⟨0, Nat.zero_le _, rfl, rfl, Bi⟩
  case round =>
    clear Bi
    obtain ⟨k, hk, rfl, rfl, hbi⟩ := hrel
    by_cases hlt : k < ps.length
    · obtain ⟨d0, d1, d2, d3, d4⟩ := (HPT.out.below hbi hql).row hlt
      have hpo := HO.out _ (List.getElem_mem hlt)
      rw [← ptAt_of ps k hlt] at hpo
      have HN := hide (solidTo_step xs ps k)
      have hle := solidTo_le xs ps k
      generalize solidTo xs ps k = e0 at *
      have hszr := hbi.size
      generalize ptAt ps k = p at *
      have HS := hide (solid_any xs g p (wr.alloc (.cells #[.pointer (some ⟨g, p.i * 11, none⟩), .int .i64 p.i, .string p.t, .int .i64 p.w, .bool p.last] 96)) ((HI.out.below (below_on hb1 hbi)).below ((Below.refl wr.heap.size wr).alloc (Nat.le_refl _) _)).1 hpo.1)
      have b1 := hbi.alloc hszr (.cells #[.pointer (some ⟨g, p.i * 11, none⟩), .int .i64 p.i, .string p.t, .int .i64 p.w, .bool p.last] 96)
      clear hpo
      cases hso : solidF xs p
      · have HN2 := hide (HN.out.trans (by rw [hso]))
        rw [hso] at HS
        clear HN hso
        go_wp2_with fail
        refine HS.out.mono ?_
        rintro e w5 ⟨rfl, hb5⟩
        go_wp2_with fail
        go_roundw
        case rel => exact ⟨k + 1, by omega, by go_num, by rw [HN2.out]; rfl, below_on b1 hb5⟩
        case measure => simp only [intOf]; omega
      · have HN2 := hide (HN.out.trans (show _ = k + 1 by rw [hso]; rfl))
        rw [hso] at HS
        clear HN hso
        go_wp2_with fail
        refine HS.out.mono ?_
        rintro e w5 ⟨rfl, hb5⟩
        go_wp2_with fail
        go_roundw
        case rel => exact ⟨k + 1, by omega, by go_num, by rw [HN2.out]; go_num, below_on b1 hb5⟩
        case measure => simp only [intOf]; omega
    · obtain rfl : k = ps.length := by omega
      have HE := hide (solidTo_le xs ps ps.length)
      have HQ2 := hide (HQ.out.below hbi hql)
      have HPT2 := hide (HPT.out.below hbi hql)
      have b2 := below_on hb1 hbi
      have hq2 := hbi.size
      clear HQ HPT hbi hb1 hk hlt
      generalize hE : solidTo xs ps ps.length = E at *
      have HEE := hide hE
      clear hE
      have hEl := HE.out
      obtain ⟨ev, hev⟩ : ∃ ev : Int, ev = (E : Int) - 1 := ⟨_, rfl⟩
      rw [← hev]
      have HEV := hide hev
      clear hev
      go_upto_region 8 with fail
      go_cut [43] from 34 (fun s43 wx => ∃ x : Bool, s43 = .bool x ∧ (x = true → ∃ e, E = e + 1 ∧ tailF xs (ptAt ps e) ≠ 0) ∧ (x = false → trimF xs ps = ps) ∧ Below wr.heap.size wr wx)
      case first => as_aux_lemma =>
        rcases Nat.eq_zero_or_pos E with he | he
        · subst he
          obtain rfl : ev = -1 := by have := HEV.out; omega
          clear HEV
          go_wp2_with fail
          go_meet
          exact ⟨false, rfl, (fun h => by cases h), (fun _ => trimF_zero HEE.out), Below.refl _ _⟩
        · obtain ⟨e, rfl⟩ : ∃ e, E = e + 1 := ⟨E - 1, by omega⟩
          obtain rfl : ev = (e : Int) := by have := HEV.out; omega
          clear HEV
          obtain ⟨d0, d1, d2, d3, d4⟩ := HPT2.out.row (show e < ps.length by omega)
          have hpo := HO.out _ (List.getElem_mem (show e < ps.length by omega))
          rw [← ptAt_of ps e (by omega)] at hpo
          have hpk := hpo.2
          unfold PtOk at hpk
          have HT := hide (ptail_any xs g (ptAt ps e) wr (HI.out.below b2).1 hpo.1 (by omega) (by omega))
          have hel : e < ps.length := by omega
          have HTZ := hide (fun (h9 : tailF xs (ptAt ps e) = 0) => trimF_same HEE.out h9)
          have HTN := hide (fun (h9 : tailF xs (ptAt ps e) ≠ 0) => (⟨e, rfl, h9⟩ : ∃ e', e + 1 = e' + 1 ∧ tailF xs (ptAt ps e') ≠ 0))
          clear hpo
          generalize tailF xs (ptAt ps e) = T at *
          generalize ptAt ps e = p at *
          go_wp2_with fail
          refine HT.out.mono ?_
          rintro e5 w5 ⟨rfl, hb5⟩
          by_cases hT0 : T = 0
          · have hz9 := HTZ.out hT0
            subst hT0
            go_wp2_with fail
            go_meet
            exact ⟨false, rfl, (fun h => by cases h), (fun _ => hz9), hb5⟩
          · have hz9 := HTN.out hT0
            have hz8 : (T != 0) = true := bne_iff_ne.2 hT0
            go_wp2_with fail
            go_meet
            exact ⟨true, rfl, (fun _ => hz9), (fun h => by cases h), hb5⟩
      case rest => as_aux_lemma =>
        obtain ⟨x, rfl, hx1, hx2, hbc⟩ := hcut
        have HPT3 := hide (HPT2.out.below hbc (by omega))
        have HQ3 := hide (HQ2.out.below hbc (by omega))
        have b3 := below_on b2 hbc
        have hq3 := hbc.size
        clear HPT2 HQ2 hbc b2
        go_upto_if 43 with fail
        go_cut [] from 44 (fun wx => PtsAt wx g q 0 (trimF xs ps) ∧ Below w.heap.size w wx ∧ q < wx.heap.size)
        case first => as_aux_lemma =>
          cases x
          · have hz9 := hx2 rfl
            go_wp2_with fail
            go_meet
            exact ⟨by rw [hz9]; exact HPT3.out, b3, by omega⟩
          · obtain ⟨e, rfl, hT0⟩ := hx1 rfl
            have HTC := hide (trimF_cut HEE.out hT0)
            clear hx1 hx2 HEE
            obtain rfl : ev = (e : Int) := by have := HEV.out; omega
            clear HEV
            obtain ⟨d0, d1, d2, d3, d4⟩ := HPT3.out.row (show e < ps.length by omega)
            have hpo := HO.out _ (List.getElem_mem (show e < ps.length by omega))
            rw [← ptAt_of ps e (by omega)] at hpo
            have hpk := hpo.2
            unfold PtOk at hpk
            have HT := hide (ptail_any xs g (ptAt ps e) wc.drew (HI.out.below b3.drew).1 hpo.1 (by omega) (by omega))
            have hel : e < ps.length := by omega
            have hqc : q < wc.drew.heap.size := by have := hq3; show q < wc.heap.size; omega
            have HSW := hide (fun (X : World) (h9 : Below wc.drew.heap.size wc.drew X) => (PtsAt.below (w := wc.drew) HPT3.out h9 hqc).row hel)
            clear hpo
            go_upto_region 9 with fail
            go_cut [] from 44 (fun wx => PtsAt wx g q 0 (ps.set e ⟨(ptAt ps e).i, (ptAt ps e).t, (ptAt ps e).w - tailF xs (ptAt ps e), (ptAt ps e).last⟩) ∧ Hid (∃ cs, Blk wx q 96 cs) ∧ Below w.heap.size w wx)
            case first => as_aux_lemma =>
              have D0 : wc.drew.cell? ⟨q, e * 5, none⟩ = some (.pointer (some ⟨g, (ptAt ps e).i * 11, none⟩)) := d0
              have D1 : wc.drew.cell? ⟨q, e * 5 + 1, none⟩ = some (.int .i64 (ptAt ps e).i) := d1
              have D2 : wc.drew.cell? ⟨q, e * 5 + 2, none⟩ = some (.string (ptAt ps e).t) := d2
              have D3 : wc.drew.cell? ⟨q, e * 5 + 3, none⟩ = some (.int .i64 (ptAt ps e).w) := d3
              have D4 : wc.drew.cell? ⟨q, e * 5 + 4, none⟩ = some (.bool (ptAt ps e).last) := d4
              clear d0 d1 d2 d3 d4
              have y1 : IntKind.i64.wrap ((ptAt ps e).w - tailF xs (ptAt ps e)) = (ptAt ps e).w - tailF xs (ptAt ps e) := IntWalk.i64_in _ (by omega)
              refine wp_region_KL (k := 13) 14 #[false, false, false, false, false, false, false, false, false, false, false, false, false, false] (by kernel_rfl) (by kernel_rfl) (S := fun Z => Z.cell? ⟨q, e * 5, none⟩ = some (.pointer (some ⟨g, (ptAt ps e).i * 11, none⟩)) ∧ Z.cell? ⟨q, e * 5 + 1, none⟩ = some (.int .i64 (ptAt ps e).i) ∧ Z.cell? ⟨q, e * 5 + 2, none⟩ = some (.string (ptAt ps e).t) ∧ Z.cell? ⟨q, e * 5 + 3, none⟩ = some (.int .i64 (ptAt ps e).w) ∧ Z.cell? ⟨q, e * 5 + 4, none⟩ = some (.bool (ptAt ps e).last)) (by kernel_rfl) ⟨D0, D1, D2, D3, D4⟩ (fun hHeld => ?_)
              refine takeK (i := 0) (v := (.slice (some ⟨q, 0, none⟩) ps.length cap)) [2, 3, 4, 10, 11, 12, 13] (some 44) rfl rfl rfl (by kernel_rfl) (by kernel_rfl) (by kernel_rfl) (by kernel_rfl) (fun _ _ _ h => h) (by rfl) (yieldsIf_move (by rfl) _ rfl _ rfl) hHeld ?_
              simp only [Act.put, List.setIfInBounds_toArray, List.set_cons_zero, List.set_cons_succ]
              refine takeK (i := 1) (v := (.int .i64 (e : Int))) [2, 3, 4, 10, 11, 12, 13] (some 45) rfl rfl rfl (by kernel_rfl) (by kernel_rfl) (by kernel_rfl) (by kernel_rfl) (fun _ _ _ h => h) (by rfl) (yieldsIf_move (by rfl) _ rfl _ rfl) hHeld ?_
              simp only [Act.put, List.setIfInBounds_toArray, List.set_cons_zero, List.set_cons_succ]
              refine takeK (i := 2) (v := (Value.pointer (some ⟨q, e * 5, none⟩))) [3, 4, 10, 11, 12, 13] (some 46) rfl rfl rfl (by kernel_rfl) (by kernel_rfl) (by kernel_rfl) (by kernel_rfl) (fun _ _ _ h => h) (by rfl) (yieldsIf_iaddr (by rfl) 79 (.tmp 44) (.tmp 45) rfl q 0 ps.length cap rfl .i64 e rfl (by omega) 5 (by kernel_rfl) _ (Nat.zero_add _)) hHeld ?_
              simp only [Act.put, List.setIfInBounds_toArray, List.set_cons_zero, List.set_cons_succ]
              refine takeK (i := 3) (v := (Value.pointer (some ⟨q, e * 5 + 3, none⟩))) [4, 10, 11, 12, 13] (some 47) rfl rfl rfl (by kernel_rfl) (by kernel_rfl) (by kernel_rfl) (by kernel_rfl) (fun _ _ _ h => h) (by rfl) (yieldsIf_faddr (by rfl) 96 _ 3 rfl _ _ 3 rfl (by kernel_rfl)) hHeld ?_
              simp only [Act.put, List.setIfInBounds_toArray, List.set_cons_zero, List.set_cons_succ]
              refine takeK (i := 4) (v := (.int .i64 (ptAt ps e).w)) [10, 11, 12, 13] (some 48) rfl rfl rfl (by kernel_rfl) (by kernel_rfl) (by kernel_rfl) (by kernel_rfl) (fun _ _ _ h => h) (by rfl) (yieldsIf_load1 (by rfl) 3 _ rfl _ _ _ rfl (by kernel_rfl) (fun _ h => h.2.2.2.1)) hHeld ?_
              simp only [Act.put, List.setIfInBounds_toArray, List.set_cons_zero, List.set_cons_succ]
              refine takeK (i := 5) (v := (.slice (some ⟨q, 0, none⟩) ps.length cap)) [7, 8, 9, 10, 11, 12, 13] (some 49) rfl rfl rfl (by kernel_rfl) (by kernel_rfl) (by kernel_rfl) (by kernel_rfl) (fun _ _ _ h => h) (by rfl) (yieldsIf_move (by rfl) _ rfl _ rfl) hHeld ?_
              simp only [Act.put, List.setIfInBounds_toArray, List.set_cons_zero, List.set_cons_succ]
              refine takeK (i := 6) (v := (.int .i64 (e : Int))) [7, 8, 9, 10, 11, 12, 13] (some 50) rfl rfl rfl (by kernel_rfl) (by kernel_rfl) (by kernel_rfl) (by kernel_rfl) (fun _ _ _ h => h) (by rfl) (yieldsIf_move (by rfl) _ rfl _ rfl) hHeld ?_
              simp only [Act.put, List.setIfInBounds_toArray, List.set_cons_zero, List.set_cons_succ]
              refine takeK (i := 7) (v := (Value.pointer (some ⟨q, e * 5, none⟩))) [8, 9, 10, 11, 12, 13] (some 51) rfl rfl rfl (by kernel_rfl) (by kernel_rfl) (by kernel_rfl) (by kernel_rfl) (fun _ _ _ h => h) (by rfl) (yieldsIf_iaddr (by rfl) 79 (.tmp 49) (.tmp 50) rfl q 0 ps.length cap rfl .i64 e rfl (by omega) 5 (by kernel_rfl) _ (Nat.zero_add _)) hHeld ?_
              simp only [Act.put, List.setIfInBounds_toArray, List.set_cons_zero, List.set_cons_succ]
              refine takeK (i := 8) (v := (Value.agg #[.pointer (some ⟨g, (ptAt ps e).i * 11, none⟩), .int .i64 (ptAt ps e).i, .string (ptAt ps e).t, .int .i64 (ptAt ps e).w, .bool (ptAt ps e).last])) [9, 10, 11, 12, 13] (some 52) rfl rfl rfl (by kernel_rfl) (by kernel_rfl) (by kernel_rfl) (by kernel_rfl) (fun _ _ _ h => h) (by rfl) (yieldsIf_loadMid (by rfl) 96 _ rfl q (e * 5) rfl [.pointer (some ⟨g, (ptAt ps e).i * 11, none⟩), .int .i64 (ptAt ps e).i, .string (ptAt ps e).t, .int .i64 (ptAt ps e).w, .bool (ptAt ps e).last] _ (fun _ h => five_cells h.1 h.2.1 h.2.2.1 h.2.2.2.1 h.2.2.2.2) (by rfl) rfl (by kernel_rfl)) hHeld ?_
              simp only [Act.put, List.setIfInBounds_toArray, List.set_cons_zero, List.set_cons_succ]
              refine callK' (j := 9) (by kernel_rfl) rfl rfl (some 53) rfl 70 #[.agg #[.pointer (some ⟨g, (ptAt ps e).i * 11, none⟩), .int .i64 (ptAt ps e).i, .string (ptAt ps e).t, .int .i64 (ptAt ps e).w, .bool (ptAt ps e).last]] (run_enter Tryd.func70 (by kernel_rfl) (by kernel_rfl) _ _ rfl #[.agg #[.pointer (some ⟨g, (ptAt ps e).i * 11, none⟩), .int .i64 (ptAt ps e).i, .string (ptAt ps e).t, .int .i64 (ptAt ps e).w, .bool (ptAt ps e).last]] (by kernel_rfl) _) HT.out ?_
              rintro e5 w5 ⟨rfl, hb5⟩
              have hS5 := HSW.out _ hb5
              refine ⟨_, rfl, hS5, ?_⟩
              simp only [Act.put, List.setIfInBounds_toArray, List.set_cons_zero, List.set_cons_succ]
              have HQ5 := hide (Blk.below (w := wc.drew) HQ3.out hb5 hqc)
              have hsz5 := blk_size HQ5.out hS5.2.2.2.1
              refine takeK (i := 10) (v := (.int .i64 ((ptAt ps e).w - tailF xs (ptAt ps e)))) [11, 12, 13] (some 54) rfl rfl rfl (by kernel_rfl) (by kernel_rfl) (by kernel_rfl) (by kernel_rfl) (fun _ _ _ h => h) (by rfl) (Or.inl ⟨by rfl, fun W hW => ?_⟩) hS5 ?_
              · go_simp
              simp only [Act.put, List.setIfInBounds_toArray, List.set_cons_zero, List.set_cons_succ]
              refine takeK (i := 11) (v := (Value.pointer (some ⟨q, e * 5, none⟩))) [12, 13] (some 55) rfl rfl rfl (by kernel_rfl) (by kernel_rfl) (by kernel_rfl) (by kernel_rfl) (fun _ _ _ h => h) (by rfl) (yieldsIf_iaddr (by rfl) 79 (.tmp 44) (.tmp 45) rfl q 0 ps.length cap rfl .i64 e rfl (by omega) 5 (by kernel_rfl) _ (Nat.zero_add _)) hS5 ?_
              simp only [Act.put, List.setIfInBounds_toArray, List.set_cons_zero, List.set_cons_succ]
              refine takeK (i := 12) (v := (Value.pointer (some ⟨q, e * 5 + 3, none⟩))) [13] (some 56) rfl rfl rfl (by kernel_rfl) (by kernel_rfl) (by kernel_rfl) (by kernel_rfl) (fun _ _ _ h => h) (by rfl) (yieldsIf_faddr (by rfl) 96 _ 3 rfl _ _ 3 rfl (by kernel_rfl)) hS5 ?_
              simp only [Act.put, List.setIfInBounds_toArray, List.set_cons_zero, List.set_cons_succ]
              refine exitK (by kernel_rfl) ?_
              refine storeH (j := 13) (by kernel_rfl) rfl rfl rfl 3 (.tmp 56) (.tmp 54) rfl q (e * 5 + 3) 96 _ (.int .i64 ((ptAt ps e).w - tailF xs (ptAt ps e))) (by kernel_rfl) (by kernel_rfl) HQ5.out hsz5 (by kernel_rfl) rfl rfl (fun w6 hB hG => ⟨trivial, ?_⟩)
              simp only [Act.put, List.setIfInBounds_toArray, List.set_cons_zero, List.set_cons_succ]
              refine wpAnyH_done (by kernel_rfl) ?_ _
              have hgo := PtsAt.set_b (PtsAt.below (w := wc.drew) HPT3.out hb5 hqc) HQ5.out e 3 hel (by decide) ⟨(ptAt ps e).i, (ptAt ps e).t, (ptAt ps e).w - tailF xs (ptAt ps e), (ptAt ps e).last⟩ (.int .i64 ((ptAt ps e).w - tailF xs (ptAt ps e))) hB rfl (fun i h1 h2 => by
                rcases (show i = 0 ∨ i = 1 ∨ i = 2 ∨ i = 4 by omega) with rfl | rfl | rfl | rfl <;> rfl)
              have hbo := (below_on b3.drew hb5).grown hG (by have := b3.size; have := hb5.size; omega) (fun k e => by injection e with e; omega)
              have HB9 := hide hB
              clear hB hG hS5 hHeld
              go_wp2_with fail
              go_meet
              exact ⟨hgo, ⟨_, HB9.out⟩, hbo⟩
            case rest => as_aux_lemma =>
              clear HT HSW HPT3 HQ3 d0 d1 d2 d3 d4 hqc
              rename_i w6
              obtain ⟨hp6, hq6, b6⟩ := hcut
              obtain ⟨cs6, hq6⟩ := hq6
              have HP6 := hide hp6
              have HQ6 := hide hq6
              have q6 := hq6.lt
              clear hp6 hq6
              have htz := tail_size hT0
              obtain ⟨d0, d1, d2, d3, d4⟩ := HP6.out.row (k := e) (by rw [List.length_set]; exact hel)
              rw [show ptAt (ps.set e ⟨(ptAt ps e).i, (ptAt ps e).t, (ptAt ps e).w - tailF xs (ptAt ps e), (ptAt ps e).last⟩) e = ⟨(ptAt ps e).i, (ptAt ps e).t, (ptAt ps e).w - tailF xs (ptAt ps e), (ptAt ps e).last⟩ from by rw [ptAt_of _ _ (by rw [List.length_set]; exact hel)]; simp] at d2
              simp only at d2
              have hfz := HQ6.out.frozen (e * 5 + 2)
              clear d0 d1 d3 d4
              have z1 : (0 : Int) ≤ ((ptAt ps e).t.size : Int) - 1 := by omega
              have z2 : ((ptAt ps e).t.size : Int) - 1 ≤ ((ptAt ps e).t.size : Int) := by omega
              have z3 : IntKind.i64.wrap (((ptAt ps e).t.size : Int) - 1) = ((ptAt ps e).t.size : Int) - 1 := IntWalk.i64_in _ (by omega)
              go_wp2_with fail
              refine wp_region_KL (k := 17) 18 #[false, false, false, false, false, false, false, false, false, false, false, false, false, false, false, false, false, false] (by kernel_rfl) (by kernel_rfl) (S := fun Z => Z.cell? ⟨q, e * 5 + 2, none⟩ = some (.string (ptAt ps e).t)) (by kernel_rfl) d2 (fun hHeld => ?_)
              have hqd := blk_size HQ6.out d2
              refine takeK (i := 0) (v := (.slice (some ⟨q, 0, none⟩) ps.length cap)) [15, 16, 17] (some 57) rfl rfl rfl (by kernel_rfl) (by kernel_rfl) (by kernel_rfl) (by kernel_rfl) (fun _ _ _ h => h) (by rfl) (yieldsIf_move (by rfl) _ rfl _ rfl) hHeld ?_
              simp only [Act.put, List.setIfInBounds_toArray, List.set_cons_zero, List.set_cons_succ]
              refine takeK (i := 1) (v := (.int .i64 (e : Int))) [15, 16, 17] (some 58) rfl rfl rfl (by kernel_rfl) (by kernel_rfl) (by kernel_rfl) (by kernel_rfl) (fun _ _ _ h => h) (by rfl) (yieldsIf_move (by rfl) _ rfl _ rfl) hHeld ?_
              simp only [Act.put, List.setIfInBounds_toArray, List.set_cons_zero, List.set_cons_succ]
              refine takeK (i := 2) (v := (.slice (some ⟨q, 0, none⟩) ps.length cap)) [4, 5, 6, 14, 15, 16, 17] (some 59) rfl rfl rfl (by kernel_rfl) (by kernel_rfl) (by kernel_rfl) (by kernel_rfl) (fun _ _ _ h => h) (by rfl) (yieldsIf_move (by rfl) _ rfl _ rfl) hHeld ?_
              simp only [Act.put, List.setIfInBounds_toArray, List.set_cons_zero, List.set_cons_succ]
              refine takeK (i := 3) (v := (.int .i64 (e : Int))) [4, 5, 6, 14, 15, 16, 17] (some 60) rfl rfl rfl (by kernel_rfl) (by kernel_rfl) (by kernel_rfl) (by kernel_rfl) (fun _ _ _ h => h) (by rfl) (yieldsIf_move (by rfl) _ rfl _ rfl) hHeld ?_
              simp only [Act.put, List.setIfInBounds_toArray, List.set_cons_zero, List.set_cons_succ]
              refine takeK (i := 4) (v := (Value.pointer (some ⟨q, e * 5, none⟩))) [5, 6, 14, 15, 16, 17] (some 61) rfl rfl rfl (by kernel_rfl) (by kernel_rfl) (by kernel_rfl) (by kernel_rfl) (fun _ _ _ h => h) (by rfl) (yieldsIf_iaddr (by rfl) 79 (.tmp 59) (.tmp 60) rfl q 0 ps.length cap rfl .i64 e rfl (by omega) 5 (by kernel_rfl) _ (Nat.zero_add _)) hHeld ?_
              simp only [Act.put, List.setIfInBounds_toArray, List.set_cons_zero, List.set_cons_succ]
              refine takeK (i := 5) (v := (Value.pointer (some ⟨q, e * 5 + 2, none⟩))) [6, 14, 15, 16, 17] (some 62) rfl rfl rfl (by kernel_rfl) (by kernel_rfl) (by kernel_rfl) (by kernel_rfl) (fun _ _ _ h => h) (by rfl) (yieldsIf_faddr (by rfl) 96 _ 2 rfl _ _ 2 rfl (by kernel_rfl)) hHeld ?_
              simp only [Act.put, List.setIfInBounds_toArray, List.set_cons_zero, List.set_cons_succ]
              refine takeK (i := 6) (v := (.string (ptAt ps e).t)) [14, 15, 16, 17] (some 63) rfl rfl rfl (by kernel_rfl) (by kernel_rfl) (by kernel_rfl) (by kernel_rfl) (fun _ _ _ h => h) (by rfl) (yieldsIf_load1 (by rfl) 9 _ rfl _ _ _ rfl (by kernel_rfl) (fun _ h => h)) hHeld ?_
              simp only [Act.put, List.setIfInBounds_toArray, List.set_cons_zero, List.set_cons_succ]
              refine takeK (i := 7) (v := (.slice (some ⟨q, 0, none⟩) ps.length cap)) [9, 10, 11, 12, 13, 14, 15, 16, 17] (some 64) rfl rfl rfl (by kernel_rfl) (by kernel_rfl) (by kernel_rfl) (by kernel_rfl) (fun _ _ _ h => h) (by rfl) (yieldsIf_move (by rfl) _ rfl _ rfl) hHeld ?_
              simp only [Act.put, List.setIfInBounds_toArray, List.set_cons_zero, List.set_cons_succ]
              refine takeK (i := 8) (v := (.int .i64 (e : Int))) [9, 10, 11, 12, 13, 14, 15, 16, 17] (some 65) rfl rfl rfl (by kernel_rfl) (by kernel_rfl) (by kernel_rfl) (by kernel_rfl) (fun _ _ _ h => h) (by rfl) (yieldsIf_move (by rfl) _ rfl _ rfl) hHeld ?_
              simp only [Act.put, List.setIfInBounds_toArray, List.set_cons_zero, List.set_cons_succ]
              refine takeK (i := 9) (v := (Value.pointer (some ⟨q, e * 5, none⟩))) [10, 11, 12, 13, 14, 15, 16, 17] (some 66) rfl rfl rfl (by kernel_rfl) (by kernel_rfl) (by kernel_rfl) (by kernel_rfl) (fun _ _ _ h => h) (by rfl) (yieldsIf_iaddr (by rfl) 79 (.tmp 64) (.tmp 65) rfl q 0 ps.length cap rfl .i64 e rfl (by omega) 5 (by kernel_rfl) _ (Nat.zero_add _)) hHeld ?_
              simp only [Act.put, List.setIfInBounds_toArray, List.set_cons_zero, List.set_cons_succ]
              refine takeK (i := 10) (v := (Value.pointer (some ⟨q, e * 5 + 2, none⟩))) [11, 12, 13, 14, 15, 16, 17] (some 67) rfl rfl rfl (by kernel_rfl) (by kernel_rfl) (by kernel_rfl) (by kernel_rfl) (fun _ _ _ h => h) (by rfl) (yieldsIf_faddr (by rfl) 96 _ 2 rfl _ _ 2 rfl (by kernel_rfl)) hHeld ?_
              simp only [Act.put, List.setIfInBounds_toArray, List.set_cons_zero, List.set_cons_succ]
              refine takeK (i := 11) (v := (.string (ptAt ps e).t)) [12, 13, 14, 15, 16, 17] (some 68) rfl rfl rfl (by kernel_rfl) (by kernel_rfl) (by kernel_rfl) (by kernel_rfl) (fun _ _ _ h => h) (by rfl) (yieldsIf_load1 (by rfl) 9 _ rfl _ _ _ rfl (by kernel_rfl) (fun _ h => h)) hHeld ?_
              simp only [Act.put, List.setIfInBounds_toArray, List.set_cons_zero, List.set_cons_succ]
              refine takeK (i := 12) (v := (.int .i64 ((ptAt ps e).t.size : Int))) [13, 14, 15, 16, 17] (some 69) rfl rfl rfl (by kernel_rfl) (by kernel_rfl) (by kernel_rfl) (by kernel_rfl) (fun _ _ _ h => h) (by rfl) (Or.inl ⟨by rfl, fun W hW => ?_⟩) hHeld ?_
              · go_simp
              simp only [Act.put, List.setIfInBounds_toArray, List.set_cons_zero, List.set_cons_succ]
              refine takeK (i := 13) (v := (.int .i64 (((ptAt ps e).t.size : Int) - 1))) [14, 15, 16, 17] (some 70) rfl rfl rfl (by kernel_rfl) (by kernel_rfl) (by kernel_rfl) (by kernel_rfl) (fun _ _ _ h => h) (by rfl) (Or.inl ⟨by rfl, fun W hW => ?_⟩) hHeld ?_
              · go_simp
              simp only [Act.put, List.setIfInBounds_toArray, List.set_cons_zero, List.set_cons_succ]
              refine takeK (i := 14) (v := (.string ((ptAt ps e).t.extract 0 ((ptAt ps e).t.size - 1)))) [15, 16, 17] (some 71) rfl rfl rfl (by kernel_rfl) (by kernel_rfl) (by kernel_rfl) (by kernel_rfl) (fun _ _ _ h => h) (by rfl) (yieldsIf_strcut (by rfl) 9 (.tmp 63) (.tmp 70) rfl (ptAt ps e).t rfl ((ptAt ps e).t.size - 1) _ rfl (by omega) (by omega) (by kernel_rfl)) hHeld ?_
              simp only [Act.put, List.setIfInBounds_toArray, List.set_cons_zero, List.set_cons_succ]
              refine takeK (i := 15) (v := (Value.pointer (some ⟨q, e * 5, none⟩))) [16, 17] (some 72) rfl rfl rfl (by kernel_rfl) (by kernel_rfl) (by kernel_rfl) (by kernel_rfl) (fun _ _ _ h => h) (by rfl) (yieldsIf_iaddr (by rfl) 79 (.tmp 57) (.tmp 58) rfl q 0 ps.length cap rfl .i64 e rfl (by omega) 5 (by kernel_rfl) _ (Nat.zero_add _)) hHeld ?_
              simp only [Act.put, List.setIfInBounds_toArray, List.set_cons_zero, List.set_cons_succ]
              refine takeK (i := 16) (v := (Value.pointer (some ⟨q, e * 5 + 2, none⟩))) [17] (some 73) rfl rfl rfl (by kernel_rfl) (by kernel_rfl) (by kernel_rfl) (by kernel_rfl) (fun _ _ _ h => h) (by rfl) (yieldsIf_faddr (by rfl) 96 _ 2 rfl _ _ 2 rfl (by kernel_rfl)) hHeld ?_
              simp only [Act.put, List.setIfInBounds_toArray, List.set_cons_zero, List.set_cons_succ]
              refine exitK (by kernel_rfl) ?_
              refine storeH (j := 17) (by kernel_rfl) rfl rfl rfl 9 (.tmp 73) (.tmp 71) rfl q (e * 5 + 2) 96 _ (.string ((ptAt ps e).t.extract 0 ((ptAt ps e).t.size - 1))) (by kernel_rfl) (by kernel_rfl) HQ6.out.drew hqd (by kernel_rfl) rfl rfl (fun w7 hB hG => ⟨trivial, ?_⟩)
              simp only [Act.put, List.setIfInBounds_toArray, List.set_cons_zero, List.set_cons_succ]
              refine wpAnyH_done (by kernel_rfl) ?_ _
              have hbo := b6.drew.grown hG b6.drew.size (fun k e => by injection e with e; omega)
              have h9 := PtsAt.set_b HP6.out HQ6.out e 2 (by rw [List.length_set]; exact hel) (by decide) (cutPt xs (ptAt ps e)) (.string ((ptAt ps e).t.extract 0 ((ptAt ps e).t.size - 1))) hB rfl (fun i h1 h2 => by
                rw [show ptAt (ps.set e ⟨(ptAt ps e).i, (ptAt ps e).t, (ptAt ps e).w - tailF xs (ptAt ps e), (ptAt ps e).last⟩) e = ⟨(ptAt ps e).i, (ptAt ps e).t, (ptAt ps e).w - tailF xs (ptAt ps e), (ptAt ps e).last⟩ from by rw [ptAt_of _ _ (by rw [List.length_set]; exact hel)]; simp]
                rcases (show i = 0 ∨ i = 1 ∨ i = 3 ∨ i = 4 by omega) with rfl | rfl | rfl | rfl <;> rfl)
              rw [List.set_set] at h9
              have hq7 : q < w7.heap.size := Nat.lt_of_lt_of_le q6 hG.size
              clear hB hG hHeld
              go_wp2_with fail
              go_meet
              exact ⟨by rw [HTC.out]; exact h9, hbo, hq7⟩
        case rest => as_aux_lemma =>
          obtain ⟨hpt4, b4, hq4⟩ := hcut
          have HPT4 := hide hpt4
          have HTL := hide (trimF_len xs ps)
          have HTO := hide (trimF_ok HO.out)
          have HLN := hide (show lnOf xs sz ht al y lf rt ps last = ⟨cut (lf + shiftF al (freeF lf rt (trimF xs ps))), cut y, cut (tellTo xs (trimF xs ps) (gapsF xs al last (trimF xs ps) (E - 1) (freeF lf rt (trimF xs ps))) (trimF xs ps).length).1, cut (highF xs sz ht ps), cut (metTo xs sz ht ps).1, (tellTo xs (trimF xs ps) (gapsF xs al last (trimF xs ps) (E - 1) (freeF lf rt (trimF xs ps))) (trimF xs ps).length).2, last⟩ from by rw [← HEE.out]; rfl)
          clear hpt4 hx1 hx2 HPT3 HQ3 b3 hq3
          generalize trimF xs ps = ts at *
          go_wp2_with fail
          refine (HMET.out wc b4).mono ?_
          clear HMET
          rintro e w5 ⟨rfl, hb5⟩
          have b5 := below_on b4 hb5
          have HPT5 := hide (HPT4.out.below hb5 hq4)
          have hq5 : q < w5.heap.size := Nat.lt_of_lt_of_le hq4 hb5.size
          clear HPT4 hb5 b4 hq4
          have hhi : 0 ≤ highF xs sz ht ps ∧ highF xs sz ht ps ≤ 200000000 := by
            have h9 := metTo_bd HX.out sz ht hh ps
            unfold MetB at h9
            unfold highF
            omega
          generalize (metTo xs sz ht ps).1 = base at *
          generalize hHI : highF xs sz ht ps = hi at *
          have HHI := hide hHI
          clear hHI
          have HB5 := hide (HBK.out.below b5 hbl)
          have D1 : w5.drew.cell? ⟨b, 1, none⟩ = some (.int .i64 y) := HB5.out.cell 1
          have D6 : w5.drew.cell? ⟨b, 6, none⟩ = some (.int .i64 lf) := HB5.out.cell 6
          have HSA := hide (fun (X : World) (h9 : Below w5.heap.size w5 X) => (⟨(HB5.out.below h9 HB5.out.lt).cell 1, (HB5.out.below h9 HB5.out.lt).cell 6⟩ : X.cell? ⟨b, 1, none⟩ = some (.int .i64 y) ∧ X.cell? ⟨b, 6, none⟩ = some (.int .i64 lf)))
          go_wp2_with fail
          go_region_held3 (fun X => X.cell? ⟨b, 1, none⟩ = some (.int .i64 y) ∧ X.cell? ⟨b, 6, none⟩ = some (.int .i64 lf)) (first | exact ⟨D1, D6⟩ | exact HSA.out _ (((Below.refl w5.heap.size w5).alloc (Nat.le_refl _) _).drew) | exact HSA.out _ ((Below.refl w5.heap.size w5).alloc (Nat.le_refl _) _) | go_keep) (fail)
          have HXB := hide (show Blk (w5.alloc (.cells #[.int .i64 lf, .int .i64 y, .int .i64 0, .int .i64 hi, .int .i64 base, .slice none 0 0, .bool last] 52)).drew w5.heap.size 52 #[.int .i64 lf, .int .i64 y, .int .i64 0, .int .i64 hi, .int .i64 base, .slice none 0 0, .bool last] from Blk.new w5 _ _)
          have b6 := Below.drew (b5.alloc b5.size (.cells #[.int .i64 lf, .int .i64 y, .int .i64 0, .int .i64 hi, .int .i64 base, .slice none 0 0, .bool last] 52))
          have HPT6 := hide ((HPT5.out.below ((Below.refl w5.heap.size w5).alloc (Nat.le_refl _) (.cells #[.int .i64 lf, .int .i64 y, .int .i64 0, .int .i64 hi, .int .i64 base, .slice none 0 0, .bool last] 52)).drew hq5))
          have hX := b5.size
          generalize (w5.alloc (.cells #[.int .i64 lf, .int .i64 y, .int .i64 0, .int .i64 hi, .int .i64 base, .slice none 0 0, .bool last] 52)).drew = w6 at *
          generalize w5.heap.size = X at *
          clear D1 D6 HSA HB5 HPT5 b5
          have hX6 := HXB.out.lt
          have hwd := widthG_bd ts (fun p hp => ⟨(HTO.out p hp).2.1, (HTO.out p hp).2.2.1⟩)
          have HGW := hide (gwidth_any g ts q 0 cap w6.drew HPT6.out (by show q < w6.heap.size; omega) (by rw [HTL.out]; omega) (fun p hp => ⟨(HTO.out p hp).2.1, (HTO.out p hp).2.2.1⟩))
          rw [HTL.out] at HGW hwd
          have HFR := hide (show freeF lf rt ts = max 0 (rt - lf - widthG ts) from rfl)
          have hwd2 : widthG ts ≤ 100000000000 := by omega
          have hwd3 := hwd.1
          clear hwd
          generalize widthG ts = wg at *
          have HB6 := hide (HBK.out.below b6 hbl)
          have D7 : w6.drew.cell? ⟨b, 7, none⟩ = some (.int .i64 rt) := HB6.out.cell 7
          have D6 : w6.drew.cell? ⟨b, 6, none⟩ = some (.int .i64 lf) := HB6.out.cell 6
          have HSA := hide (fun (W : World) (h9 : Below w6.drew.heap.size w6.drew W) => (⟨(HB6.out.below (w := w6.drew) h9 HB6.out.lt).cell 7, (HB6.out.below (w := w6.drew) h9 HB6.out.lt).cell 6⟩ : W.cell? ⟨b, 7, none⟩ = some (.int .i64 rt) ∧ W.cell? ⟨b, 6, none⟩ = some (.int .i64 lf)))
          have y1 : IntKind.i64.wrap (rt - lf) = rt - lf := IntWalk.i64_in _ (by omega)
          have y2 : IntKind.i64.wrap (rt - lf - wg) = rt - lf - wg := IntWalk.i64_in _ (by omega)
          go_wp2_with fail
          go_region_held3 (fun W => W.cell? ⟨b, 7, none⟩ = some (.int .i64 rt) ∧ W.cell? ⟨b, 6, none⟩ = some (.int .i64 lf)) (first | exact ⟨D7, D6⟩ | exact HSA.out _ hb7 | go_keep) ((go_at_call 45; refine HGW.out.mono ?_; rintro e w7 ⟨rfl, hb7⟩))
          have b7 : Below w.heap.size w w7 := below_on b6.drew hb7
          have HPT7 := hide (PtsAt.below (w := w6.drew) HPT6.out hb7 (by show q < w6.heap.size; omega))
          have HX7 := hide (Blk.below (w := w6.drew) HXB.out hb7 (by show X < w6.heap.size; omega))
          have hX7 := HX7.out.lt
          obtain ⟨fr, hfr⟩ : ∃ fr, fr = max 0 (rt - lf - wg) := ⟨_, rfl⟩
          rw [← hfr] at HFR ⊢
          have hfr0 : 0 ≤ fr := by omega
          have hfr1 : fr ≤ 1000000000 := by omega
          clear HGW HXB HPT6 b6 HB6 D7 D6 HSA y1 y2 hb7 hfr hwd2 hwd3 hX6
          obtain ⟨i0, hi0, hz0, hz1, hz2⟩ := info_parts int_info
          have hmk := run_make_rowN (P := Tryd.prog) 39 3 i0 _ Tryd.underlying39 hi0 hz0 .i64 .i64 ps.length ps.length (Nat.le_refl _) (by rw [hz2]; omega) (by omega) w7
          rw [hz1, Nat.mul_one, show (Value.int .i64 0).cells = #[.int .i64 0] from rfl, made_ints] at hmk
          clear hz0 hz1 hz2 hi0
          have b8 := b7.alloc b7.size (.cells (intsA (List.replicate ps.length 0)) 3)
          have HPT8 := hide (HPT7.out.below ((Below.refl w7.heap.size w7).alloc (Nat.le_refl _) (.cells (intsA (List.replicate ps.length 0)) 3)) (by omega))
          have HX8 := hide (HX7.out.alloc (.cells (intsA (List.replicate ps.length 0)) 3))
          have HG8 := hide (Blk.new w7 3 (intsA (List.replicate ps.length 0)))
          have D4 : (w7.alloc (.cells (intsA (List.replicate ps.length 0)) 3)).cell? ⟨b, 4, none⟩ = some (.int .i64 al) := (HBK.out.below b8 hbl).cell 4
          go_upto_block 2 with fail
          clear hmk
          have hG7 : w7.heap.size < (w7.alloc (.cells (intsA (List.replicate ps.length 0)) 3)).heap.size := by simp
          generalize w7.alloc (.cells (intsA (List.replicate ps.length 0)) 3) = w8 at *
          have hq8 : q < w7.heap.size := by omega
          have hwG : w.heap.size ≤ w7.heap.size := b7.size
          generalize w7.heap.size = G at *
          clear b7 HPT7 HX7
          have x0 : w8.cell? ⟨X, 0, none⟩ = some (.int .i64 lf) := HX8.out.cell 0
          have xz := HX8.out.frozen 0
          go_cut [12, 13, 14] from 108 (fun s12 s13 s14 wx => (∃ B12, wx.ownsRow B12 3 1 s12 ps.length ((gapsF xs al last ts (E - 1) fr).map (Value.int .i64))) ∧ Hid (Blk wx X 52 #[.int .i64 (lf + shiftF al fr), .int .i64 y, .int .i64 0, .int .i64 hi, .int .i64 base, .slice none 0 0, .bool last]) ∧ Below w.heap.size w wx ∧ Hid (PtsAt wx g q 0 ts))
          case first => as_aux_lemma =>
            have HGR := hide (fun (W : World) (h9 : Blk W G 3 (intsA (List.replicate ps.length 0))) => own_of_blk (n := ps.length) (size := 1) h9 (Nat.zero_le _) (by simp only [maxLen]; omega) (by rw [intsA_size, List.length_replicate, Nat.mul_one]))
            rw [intsA_list] at HGR
            by_cases ha1 : al = 1
            · subst ha1
              have HGP := hide (show gapsF xs 1 last ts (E - 1) fr = List.replicate ps.length 0 from by unfold gapsF; rw [if_neg (by omega), HTL.out])
              have y1 : IntKind.i64.wrap (lf + fr) = lf + fr := IntWalk.i64_in _ (by omega)
              go_wp2_with fail
              go_meet
              refine ⟨⟨0, ?_⟩, HX8.out.set_ 0 _, Below.setCell (p := ⟨X, 0, none⟩) b8 hX _, PtsAt.far (p := ⟨X, 0, none⟩) HPT8.out (by show q ≠ X; omega) _⟩
              rw [HGP.out]
              exact HGR.out _ (HG8.out.far (p := ⟨X, 0, none⟩) (by show G ≠ X; omega) _)
            · by_cases ha2 : al = 2
              · subst ha2
                have HGP := hide (show gapsF xs 2 last ts (E - 1) fr = List.replicate ps.length 0 from by unfold gapsF; rw [if_neg (by omega), HTL.out])
                have hp1 := cut_lo (cut fr * cut 1 / cut 2)
                have hp2 := cut_hi (cut fr * cut 1 / cut 2)
                have hpp : partOf fr 1 2 = cut (cut fr * cut 1 / cut 2) := rfl
                rw [← hpp] at hp1 hp2
                clear hpp
                have HSH := hide (show shiftF 2 fr = partOf fr 1 2 from rfl)
                have HPA := hide (fun (Z : World) => part_any fr 1 2 Z (by decide))
                generalize partOf fr 1 2 = pt at *
                have y1 : IntKind.i64.wrap (lf + pt) = lf + pt := IntWalk.i64_in _ (by omega)
                have x0' : w8.drew.cell? ⟨X, 0, none⟩ = some (.int .i64 lf) := x0
                have xz' : w8.drew.frozen? ⟨X, 0, none⟩ = false := xz
                go_wp2_with fail
                refine wp_region_KL (k := 6) 7 #[false, false, false, false, false, false, false] (by kernel_rfl) (by kernel_rfl) (S := fun Z => Z.cell? ⟨X, 0, none⟩ = some (.int .i64 lf)) (by kernel_rfl) x0' (fun hHeld => ?_)
                refine takeK (i := 0) (v := (Value.pointer (some ⟨X, 0, none⟩))) [1, 4, 5, 6] (some 124) rfl rfl rfl (by kernel_rfl) (by kernel_rfl) (by kernel_rfl) (by kernel_rfl) (fun _ _ _ h => h) (by rfl) (yieldsIf_faddr (by rfl) 52 _ 0 rfl _ _ 0 rfl (by kernel_rfl)) hHeld ?_
                simp only [Act.put, List.setIfInBounds_toArray, List.set_cons_zero, List.set_cons_succ]
                refine takeK (i := 1) (v := (.int .i64 lf)) [4, 5, 6] (some 125) rfl rfl rfl (by kernel_rfl) (by kernel_rfl) (by kernel_rfl) (by kernel_rfl) (fun _ _ _ h => h) (by rfl) (yieldsIf_load1 (by rfl) 3 _ rfl _ _ _ rfl (by kernel_rfl) (fun _ h => h)) hHeld ?_
                simp only [Act.put, List.setIfInBounds_toArray, List.set_cons_zero, List.set_cons_succ]
                refine takeK (i := 2) (v := (.int .i64 fr)) [3, 4, 5, 6] (some 126) rfl rfl rfl (by kernel_rfl) (by kernel_rfl) (by kernel_rfl) (by kernel_rfl) (fun _ _ _ h => h) (by rfl) (yieldsIf_move (by rfl) _ rfl _ rfl) hHeld ?_
                simp only [Act.put, List.setIfInBounds_toArray, List.set_cons_zero, List.set_cons_succ]
                refine callK (i := 3) (v := .int .i64 pt) [4, 5, 6] (some 127) rfl rfl rfl (by kernel_rfl) (by kernel_rfl) (by kernel_rfl) (by kernel_rfl) (fun _ _ _ h => h) (by rfl) 24 #[.int .i64 fr, .int .i64 1, .int .i64 2] (fun _ _ => run_enter Tryd.func24 (by kernel_rfl) (by kernel_rfl) _ _ rfl #[.int .i64 fr, .int .i64 1, .int .i64 2] (by kernel_rfl) _) (fun W _ => HPA.out _) hHeld ?_
                simp only [Act.put, List.setIfInBounds_toArray, List.set_cons_zero, List.set_cons_succ]
                refine takeK (i := 4) (v := (.int .i64 (lf + pt))) [5, 6] (some 128) rfl rfl rfl (by kernel_rfl) (by kernel_rfl) (by kernel_rfl) (by kernel_rfl) (fun _ _ _ h => h) (by rfl) (Or.inl ⟨by rfl, fun W hW => ?_⟩) hHeld ?_
                · go_simp
                simp only [Act.put, List.setIfInBounds_toArray, List.set_cons_zero, List.set_cons_succ]
                refine takeK (i := 5) (v := (Value.pointer (some ⟨X, 0, none⟩))) [6] (some 129) rfl rfl rfl (by kernel_rfl) (by kernel_rfl) (by kernel_rfl) (by kernel_rfl) (fun _ _ _ h => h) (by rfl) (yieldsIf_faddr (by rfl) 52 _ 0 rfl _ _ 0 rfl (by kernel_rfl)) hHeld ?_
                simp only [Act.put, List.setIfInBounds_toArray, List.set_cons_zero, List.set_cons_succ]
                refine exitK (by kernel_rfl) ?_
                refine storeH (j := 6) (by kernel_rfl) rfl rfl rfl 3 (.tmp 129) (.tmp 128) rfl X 0 52 _ (.int .i64 (lf + pt)) (by kernel_rfl) (by kernel_rfl) HX8.out.drew (Nat.le_of_ble_eq_true rfl) (by kernel_rfl) rfl rfl (fun w9 hB hG => ⟨trivial, ?_⟩)
                simp only [Act.put, List.setIfInBounds_toArray, List.set_cons_zero, List.set_cons_succ]
                refine wpAnyH_done (by kernel_rfl) ?_ _
                have hbo := b8.drew.grown hG (by have := b8.size; show w.heap.size ≤ w8.heap.size; omega) (fun k e => by injection e with e; omega)
                have hpo := PtsAt.keptB (w := w8.drew) HPT8.out (by show q < w8.heap.size; omega) hG (by omega)
                have hgo := HG8.out.drew.grown hG (fun e => by injection e with e; omega)
                have HB9 := hide hB
                clear hB hG hHeld
                go_wp2_with fail
                go_meet
                exact ⟨⟨_, by rw [HGP.out]; exact HGR.out _ hgo⟩, (by rw [HSH.out]; exact HB9.out), hbo, hpo⟩
              · by_cases ha3 : al = 3 ∧ last = false
                · obtain ⟨rfl, rfl⟩ := ha3
                  have hmx : max 0 ev = ((E - 1 : Nat) : Int) := by have := HEV.out; omega
                  have hm1 : E - 1 ≤ ps.length := by omega
                  have HM := hide hmx
                  have z1 : (0 : Int) ≤ max 0 ev := by omega
                  have z2 : max 0 ev ≤ (cap : Int) := by omega
                  clear hmx
                  go_wp2_with fail
                  rw [HM.out, Int.toNat_natCast]
                  have HGP := hide (show gapsF xs 3 false ts (E - 1) fr = shared fr (gapWs xs ts (E - 1)) from if_pos ⟨rfl, rfl⟩)
                  have HSH := hide (show shiftF 3 fr = 0 from rfl)
                  have hEm : E - 1 < ps.length := by omega
                  have HG0 := hide (show Blk w8 G 3 (intsA (gapWs xs ts 0)) from by rw [gapWs_zero, HTL.out]; exact HG8.out)
                  have HEN := hide (fun (p : Pt) (W : World) (h9 : ItsAt W g xs) (h8 : p.i < xs.length) (h7 : p.t.size ≤ 200) => ends_any xs g p W h9 h8 (by omega))
                  clear HG8 HGR D4 x0 xz HM HEE hm1 z1 z2
                  generalize hEM : E - 1 = m at *
                  clear hEM
                  go_loopw [145] (fun i wr => ∃ k : Nat, k ≤ m ∧ i = .int .i64 k ∧ Hid (Blk wr G 3 (intsA (gapWs xs ts k))) ∧ Below G w8 wr) (fun i _ => m - (intOf i).toNat)
                  case atStart => exact ⟨0, Nat.zero_le _, rfl, HG0, Below.refl _ _⟩
                  case round =>
                    clear HG0
                    obtain ⟨k, hk, rfl, hgk, hbk⟩ := hrel
                    have hszk := hbk.size
                    by_cases hlt : k < m
                    · have hkt : k < ts.length := by rw [HTL.out]; omega
                      obtain ⟨d0, d1, d2, d3, d4⟩ := (HPT8.out.below hbk hq8).row hkt
                      have hpo := HTO.out _ (List.getElem_mem hkt)
                      rw [← ptAt_of ts k hkt] at hpo
                      have HN := hide (gapWs_step xs ts k hkt)
                      have hkl : k < ps.length := by omega
                      have HLG := hide (gapWs_len xs ts k)
                      generalize ptAt ts k = p at *
                      have HEC := hide (HEN.out p (wr.alloc (.cells #[.pointer (some ⟨g, p.i * 11, none⟩), .int .i64 p.i, .string p.t, .int .i64 p.w, .bool p.last] 96)) ((HI.out.below (b8.trans (hbk.mono hwG))).below ((Below.refl wr.heap.size wr).alloc (Nat.le_refl _) _)).1 hpo.1 hpo.2.2.2)
                      have bA := hbk.alloc (by omega) (.cells #[.pointer (some ⟨g, p.i * 11, none⟩), .int .i64 p.i, .string p.t, .int .i64 p.w, .bool p.last] 96)
                      have HGA := hide (hgk.out.alloc (.cells #[.pointer (some ⟨g, p.i * 11, none⟩), .int .i64 p.i, .string p.t, .int .i64 p.w, .bool p.last] 96))
                      have hszA := bA.size
                      have hGw : G < (wr.alloc (.cells #[.pointer (some ⟨g, p.i * 11, none⟩), .int .i64 p.i, .string p.t, .int .i64 p.w, .bool p.last] 96)).heap.size := HGA.out.lt
                      clear hpo hgk
                      cases hen : endsF xs p
                      · have HN2 := hide (HN.out.trans (show _ = gapWs xs ts k from by rw [hen]; rfl))
                        rw [hen] at HEC
                        clear HN hen
                        go_wp2_with fail
                        refine HEC.out.mono ?_
                        rintro e w5 ⟨rfl, hb5⟩
                        go_wp2_with fail
                        go_roundw
                        case rel => exact ⟨k + 1, by omega, by go_num, by rw [HN2.out]; exact HGA.out.below hb5 hGw, bA.trans (hb5.mono (by omega))⟩
                        case measure => simp only [intOf]; omega
                      · have HN2 := hide (HN.out.trans (show _ = (gapWs xs ts k).set k 1 from by rw [hen]; rfl))
                        rw [hen] at HEC
                        clear HN hen
                        go_wp2_with fail
                        refine HEC.out.mono ?_
                        rintro e w5 ⟨rfl, hb5⟩
                        have HG5 := hide (HGA.out.below hb5 hGw)
                        have g0 := (HG5.out.cell k).trans (intsA_at (gapWs xs ts k) k (by rw [HLG.out]; exact hkt))
                        have gz := HG5.out.frozen k
                        go_wp2_with fail
                        go_roundw
                        case rel => exact ⟨k + 1, by omega, by go_num, by rw [HN2.out, ← intsA_set]; exact HG5.out.set_ k _, Below.setCell (p := ⟨G, k, none⟩) (bA.trans (hb5.mono (by omega))) (Nat.le_refl _) _⟩
                        case measure => simp only [intOf]; omega
                    · obtain rfl : k = m := by omega
                      have HSC := hide (Share_any fr (some ⟨G, 0, none⟩) ps.length ps.length (gapWs xs ts k) wr (Reads.ints_blk hgk.out (by rw [gapWs_len, HTL.out])) (by omega))
                      go_wp2_with fail
                      refine HSC.out.mono ?_
                      rintro e w5 ⟨v5, rfl, own5, hb5⟩
                      obtain ⟨A5, c5, rfl, _, _⟩ := own_reads own5
                      have bx := below_then (b8.trans (hbk.mono hwG)) (Nat.le_refl _) hb5
                      go_wp2_with fail
                      go_meet
                      exact ⟨⟨_, by rw [HGP.out]; exact own5⟩, by rw [HSH.out, Int.add_zero]; exact (HX8.out.below hbk (by omega)).below hb5 (by omega), bx, (HPT8.out.below hbk hq8).below hb5 (by omega)⟩
                · have HSH := hide (show shiftF al fr = 0 from by unfold shiftF; rw [if_neg ha1, if_neg ha2])
                  have HGP := hide (show gapsF xs al last ts (E - 1) fr = List.replicate ps.length 0 from by unfold gapsF; rw [if_neg ha3, HTL.out])
                  have h1 : decide (al = 1) = false := decide_eq_false ha1
                  have h2 : decide (al = 2) = false := decide_eq_false ha2
                  by_cases h3 : al = 3
                  · subst h3
                    obtain rfl : last = true := by cases last; exact absurd ⟨rfl, rfl⟩ ha3; rfl
                    go_wp2_with fail
                    go_meet
                    exact ⟨⟨_, by rw [HGP.out]; exact HGR.out _ HG8.out⟩, by rw [HSH.out, Int.add_zero]; exact HX8.out, b8, HPT8.out⟩
                  · have h3' : decide (al = 3) = false := decide_eq_false h3
                    go_wp2_with fail
                    go_meet
                    exact ⟨⟨_, by rw [HGP.out]; exact HGR.out _ HG8.out⟩, by rw [HSH.out, Int.add_zero]; exact HX8.out, b8, HPT8.out⟩
          case rest => as_aux_lemma =>
            obtain ⟨⟨B12, own12⟩, hxb, b9, hpt9⟩ := hcut
            obtain ⟨A12, c12, rfl, _, _⟩ := own_reads own12
            have O12 := hide own12
            have hX9 := hxb.out.lt
            have hLN := HLN.out
            rw [HFR.out] at hLN
            have HL9 := hide hLN
            have HGL := hide (gapsF_len xs al last ts (E - 1) fr)
            have HGB := hide (gaps_bd xs al last ts (E - 1) fr)
            clear HLN hLN own12 HFR HPT8 HX8 HG8 D4 x0 xz b8 hG7
            generalize gapsF xs al last ts (E - 1) fr = gp at *
            have hgp : gp.length = ts.length := HGL.out
            have HAT := hide (fun k hk => tell_at xs ts gp k hgp hk)
            have HWB := hide (fun k => widthG_bd (ts.take k) (fun p hp => by have := HTO.out p (List.mem_of_mem_take hp); exact ⟨this.2.1, this.2.2.1⟩))
            clear hgp
            go_wp2_with fail
            go_loopw [15, 161] (fun av iv wr => ∃ k : Nat, k ≤ ps.length ∧ iv = .int .i64 k ∧ av = .int .i64 (tellTo xs ts gp k).1 ∧ ∃ pv, Hid (Blk wr X 52 #[.int .i64 (lf + shiftF al fr), .int .i64 y, .int .i64 0, .int .i64 hi, .int .i64 base, pv, .bool last]) ∧ Hid (wr.ownsRow wc.heap.size 54 4 pv (tellTo xs ts gp k).2.length (pcCells (tellTo xs ts gp k).2)) ∧ wc.grownBy wr (some X)) (fun _ iv _ => ps.length - (intOf iv).toNat)
            case atStart => exact ⟨0, Nat.zero_le _, rfl, rfl, _, hxb, own_none _ _ _ _, World.grownBy.refl _ _⟩
            case round =>
              obtain ⟨k, hk, rfl, rfl, pv, hxk, hpk, hgk⟩ := hrel
              by_cases hlt : k < ps.length
              · have hkt : k < ts.length := by rw [HTL.out]; omega
                have bk : Below X wc wr := ⟨hgk.os, hgk.tape, hgk.output, hgk.size, fun i hi => hgk.block i (by omega) (fun e => by injection e with e; omega)⟩
                obtain ⟨d0, d1, d2, d3, d4⟩ := (hpt9.out.below bk (by omega)).row hkt
                have HT1 := hide (tellTo_next xs ts gp k)
                have hgap := gap_bd HGB.out (by rw [HGL.out]) hkt
                have ha1 := HAT.out k (by omega)
                have hw1 := HWB.out k
                have hp1 := HGB.out k (by omega)
                have hpo := HTO.out _ (List.getElem_mem hkt)
                rw [← ptAt_of ts k hkt] at hpo
                have O12k := hide (own_stays O12.out hgk (own_blk_ne O12.out hxb.out (by decide)))
                have hszk := hgk.size
                obtain ⟨G2, cp2, hv2, _, hG2⟩ := O12k.out.form (by omega)
                obtain rfl : A12 = some ⟨G2, 0, none⟩ := by injection hv2
                have e9 := O12k.out.cellAt k (by omega)
                have HGC := hide (show (gp.map (Value.int .i64))[k]? = some (.int .i64 (at0 gp k)) from by rw [List.getElem?_map, List.getElem?_eq_getElem (by rw [HGL.out]; exact hkt), at0_of gp k (by rw [HGL.out]; exact hkt)]; rfl)
                rw [HGC.out] at e9
                clear hv2
                generalize at0 gp k = gk at *
                have HIW := hide ((HI.out.below (b9.trans (bk.mono hX))))
                have hpkd : pKind xs (ptAt ts k) = (itAt xs (ptAt ts k).i).kind := rfl
                rw [hpkd] at HT1
                clear hpkd
                generalize ptAt ts k = p at *
                have HIA := hide (HIW.out.below ((Below.refl wr.heap.size wr).alloc (Nat.le_refl _) (.cells #[.pointer (some ⟨g, p.i * 11, none⟩), .int .i64 p.i, .string p.t, .int .i64 p.w, .bool p.last] 96)))
                have f0 := HIA.out.1 p.i hpo.1 0 (by omega)
                generalize itAt xs p.i = x at *
                obtain ⟨kd, bx, tx, xsz, xsp, xht, xmd, xsh, xw, xh, xsd⟩ := x
                have f0' : (wr.alloc (.cells #[.pointer (some ⟨g, p.i * 11, none⟩), .int .i64 p.i, .string p.t, .int .i64 p.w, .bool p.last] 96)).cell? ⟨g, p.i * 11, none⟩ = some (.int .i64 kd) := f0
                simp only at HT1
                clear f0
                have HBX := hide (Blk.new wr 96 #[.pointer (some ⟨g, p.i * 11, none⟩), .int .i64 p.i, .string p.t, .int .i64 p.w, .bool p.last])
                have HXA := hide (hxk.out.alloc (.cells #[.pointer (some ⟨g, p.i * 11, none⟩), .int .i64 p.i, .string p.t, .int .i64 p.w, .bool p.last] 96))
                have HPA := hide (hpk.out.alloc (.cells #[.pointer (some ⟨g, p.i * 11, none⟩), .int .i64 p.i, .string p.t, .int .i64 p.w, .bool p.last] 96))
                have HGA := hide (O12k.out.alloc (.cells #[.pointer (some ⟨g, p.i * 11, none⟩), .int .i64 p.i, .string p.t, .int .i64 p.w, .bool p.last] 96))
                have e9A : (wr.alloc (.cells #[.pointer (some ⟨g, p.i * 11, none⟩), .int .i64 p.i, .string p.t, .int .i64 p.w, .bool p.last] 96)).cell? ⟨G2, k, none⟩ = some (.int .i64 gk) := (World.cell?_alloc_lt wr _ _ hG2).trans e9
                have gA := only_alloc hgk (.cells #[.pointer (some ⟨g, p.i * 11, none⟩), .int .i64 p.i, .string p.t, .int .i64 p.w, .bool p.last] 96)
                have hsA : (wr.alloc (.cells #[.pointer (some ⟨g, p.i * 11, none⟩), .int .i64 p.i, .string p.t, .int .i64 p.w, .bool p.last] 96)).heap.size = wr.heap.size + 1 := by simp
                clear e9 O12k hxk hpk HIW HIA
                generalize hat : (tellTo xs ts gp k).1 = at_ at *
                generalize hpcs : (tellTo xs ts gp k).2 = pcs at *
                have y1 : IntKind.i64.wrap (p.w + gk) = p.w + gk := IntWalk.i64_in _ (by omega)
                have hw2 : widthG (ts.take k) ≤ 16777216 * 5000 := by
                  have h8 : (ts.take k).length ≤ 5000 := by rw [List.length_take]; omega
                  omega
                have y2 : IntKind.i64.wrap (at_ + (p.w + gk)) = at_ + (p.w + gk) := IntWalk.i64_in _ (by omega)
                clear ha1 hw1 hw2 hp1
                have hpl : pcs.length ≤ k := by rw [← hpcs]; exact tellTo_len xs ts gp k
                clear hat hpcs
                cases h5 : (kd == 5)
                · have hk5 : ¬ kd = 5 := by simpa using h5
                  have HT2 := hide (HT1.out.trans (by rw [if_neg hk5]))
                  have h5' : (kd != 5) = true := by simp [bne, h5]
                  clear HT1
                  go_wp2_with fail
                  have HS0 := hide (show (wr.alloc (.cells #[.pointer (some ⟨g, p.i * 11, none⟩), .int .i64 p.i, .string p.t, .int .i64 p.w, .bool p.last] 96)).drew.cell? ⟨X, 5, none⟩ = some pv ∧ (wr.alloc (.cells #[.pointer (some ⟨g, p.i * 11, none⟩), .int .i64 p.i, .string p.t, .int .i64 p.w, .bool p.last] 96)).drew.cell? ⟨wr.heap.size, 1, none⟩ = some (.int .i64 p.i) ∧ (wr.alloc (.cells #[.pointer (some ⟨g, p.i * 11, none⟩), .int .i64 p.i, .string p.t, .int .i64 p.w, .bool p.last] 96)).drew.cell? ⟨wr.heap.size, 2, none⟩ = some (.string p.t) ∧ (wr.alloc (.cells #[.pointer (some ⟨g, p.i * 11, none⟩), .int .i64 p.i, .string p.t, .int .i64 p.w, .bool p.last] 96)).drew.cell? ⟨wr.heap.size, 3, none⟩ = some (.int .i64 p.w) from ⟨HXA.out.cell 5, HBX.out.cell 1, HBX.out.cell 2, HBX.out.cell 3⟩)
                  replace HXA := hide HXA.out.drew
                  replace HBX := hide HBX.out.drew
                  replace HPA := hide HPA.out.drew
                  replace HGA := hide HGA.out.drew
                  replace gA := only_drew gA
                  clear f0' e9A
                  generalize wr.alloc (.cells #[.pointer (some ⟨g, p.i * 11, none⟩), .int .i64 p.i, .string p.t, .int .i64 p.w, .bool p.last] 96) = wA at *
                  refine wp_region_KL (k := 13) 16 #[false, false, false, false, false, false, false, false, false, false, false, false, false, false, false, false] (by kernel_rfl) (by kernel_rfl) (S := fun W => W.cell? ⟨X, 5, none⟩ = some pv ∧ W.cell? ⟨wr.heap.size, 1, none⟩ = some (.int .i64 p.i) ∧ W.cell? ⟨wr.heap.size, 2, none⟩ = some (.string p.t) ∧ W.cell? ⟨wr.heap.size, 3, none⟩ = some (.int .i64 p.w)) (by kernel_rfl) (HS0.out) (fun hHeld => ?_)
                  generalize wA.drew = wB at *
                  refine takeK (i := 0) (v := (Value.pointer (some ⟨X, 5, none⟩))) [1, 13, 14, 15] (some 172) rfl rfl rfl (by kernel_rfl) (by kernel_rfl) (by kernel_rfl) (by kernel_rfl) (fun _ _ _ h => h) (by rfl) (yieldsIf_faddr (by rfl) 52 _ 5 rfl _ _ 5 rfl (by kernel_rfl)) hHeld ?_
                  simp only [Act.put, List.setIfInBounds_toArray, List.set_cons_zero, List.set_cons_succ]
                  refine takeK (i := 1) (v := (pv)) [13, 14, 15] (some 173) rfl rfl rfl (by kernel_rfl) (by kernel_rfl) (by kernel_rfl) (by kernel_rfl) (fun _ _ _ h => h) (by rfl) (yieldsIf_load1 (by rfl) 50 _ rfl _ _ _ rfl (by kernel_rfl) (fun _ h => h.1)) hHeld ?_
                  simp only [Act.put, List.setIfInBounds_toArray, List.set_cons_zero, List.set_cons_succ]
                  refine takeK (i := 2) (v := (Value.pointer (some ⟨wr.heap.size, 1, none⟩))) [3, 11, 12, 13, 14, 15] (some 174) rfl rfl rfl (by kernel_rfl) (by kernel_rfl) (by kernel_rfl) (by kernel_rfl) (fun _ _ _ h => h) (by rfl) (yieldsIf_faddr (by rfl) 96 _ 1 rfl _ _ 1 rfl (by kernel_rfl)) hHeld ?_
                  simp only [Act.put, List.setIfInBounds_toArray, List.set_cons_zero, List.set_cons_succ]
                  refine takeK (i := 3) (v := (.int .i64 p.i)) [11, 12, 13, 14, 15] (some 175) rfl rfl rfl (by kernel_rfl) (by kernel_rfl) (by kernel_rfl) (by kernel_rfl) (fun _ _ _ h => h) (by rfl) (yieldsIf_load1 (by rfl) 3 _ rfl _ _ _ rfl (by kernel_rfl) (fun _ h => h.2.1)) hHeld ?_
                  simp only [Act.put, List.setIfInBounds_toArray, List.set_cons_zero, List.set_cons_succ]
                  refine takeK (i := 4) (v := (.int .i64 at_)) [5, 8, 11, 12, 13, 14, 15] (some 176) rfl rfl rfl (by kernel_rfl) (by kernel_rfl) (by kernel_rfl) (by kernel_rfl) (fun _ _ _ h => h) (by rfl) (yieldsIf_move (by rfl) _ rfl _ rfl) hHeld ?_
                  simp only [Act.put, List.setIfInBounds_toArray, List.set_cons_zero, List.set_cons_succ]
                  refine callK (i := 5) (v := .int .i64 (cut at_)) [8, 11, 12, 13, 14, 15] (some 177) rfl rfl rfl (by kernel_rfl) (by kernel_rfl) (by kernel_rfl) (by kernel_rfl) (fun _ _ _ h => h) (by rfl) 13 #[.int .i64 at_] (fun _ _ => run_enter Tryd.func13 (by kernel_rfl) (by kernel_rfl) _ _ rfl #[.int .i64 at_] (by kernel_rfl) _) (fun W _ => cut_any _ _) hHeld ?_
                  simp only [Act.put, List.setIfInBounds_toArray, List.set_cons_zero, List.set_cons_succ]
                  refine takeK (i := 6) (v := (Value.pointer (some ⟨wr.heap.size, 3, none⟩))) [7, 8, 11, 12, 13, 14, 15] (some 178) rfl rfl rfl (by kernel_rfl) (by kernel_rfl) (by kernel_rfl) (by kernel_rfl) (fun _ _ _ h => h) (by rfl) (yieldsIf_faddr (by rfl) 96 _ 3 rfl _ _ 3 rfl (by kernel_rfl)) hHeld ?_
                  simp only [Act.put, List.setIfInBounds_toArray, List.set_cons_zero, List.set_cons_succ]
                  refine takeK (i := 7) (v := (.int .i64 p.w)) [8, 11, 12, 13, 14, 15] (some 179) rfl rfl rfl (by kernel_rfl) (by kernel_rfl) (by kernel_rfl) (by kernel_rfl) (fun _ _ _ h => h) (by rfl) (yieldsIf_load1 (by rfl) 3 _ rfl _ _ _ rfl (by kernel_rfl) (fun _ h => h.2.2.2)) hHeld ?_
                  simp only [Act.put, List.setIfInBounds_toArray, List.set_cons_zero, List.set_cons_succ]
                  refine callK (i := 8) (v := .int .i64 (cut p.w)) [11, 12, 13, 14, 15] (some 180) rfl rfl rfl (by kernel_rfl) (by kernel_rfl) (by kernel_rfl) (by kernel_rfl) (fun _ _ _ h => h) (by rfl) 13 #[.int .i64 p.w] (fun _ _ => run_enter Tryd.func13 (by kernel_rfl) (by kernel_rfl) _ _ rfl #[.int .i64 p.w] (by kernel_rfl) _) (fun W _ => cut_any _ _) hHeld ?_
                  simp only [Act.put, List.setIfInBounds_toArray, List.set_cons_zero, List.set_cons_succ]
                  refine takeK (i := 9) (v := (Value.pointer (some ⟨wr.heap.size, 2, none⟩))) [10, 11, 12, 13, 14, 15] (some 181) rfl rfl rfl (by kernel_rfl) (by kernel_rfl) (by kernel_rfl) (by kernel_rfl) (fun _ _ _ h => h) (by rfl) (yieldsIf_faddr (by rfl) 96 _ 2 rfl _ _ 2 rfl (by kernel_rfl)) hHeld ?_
                  simp only [Act.put, List.setIfInBounds_toArray, List.set_cons_zero, List.set_cons_succ]
                  refine takeK (i := 10) (v := (.string p.t)) [11, 12, 13, 14, 15] (some 182) rfl rfl rfl (by kernel_rfl) (by kernel_rfl) (by kernel_rfl) (by kernel_rfl) (fun _ _ _ h => h) (by rfl) (yieldsIf_load1 (by rfl) 9 _ rfl _ _ _ rfl (by kernel_rfl) (fun _ h => h.2.2.1)) hHeld ?_
                  simp only [Act.put, List.setIfInBounds_toArray, List.set_cons_zero, List.set_cons_succ]
                  refine takeK (i := 11) (v := (Value.agg #[.int .i64 p.i, .int .i64 (cut at_), .int .i64 (cut p.w), .string p.t])) [12, 13, 14, 15] (some 183) rfl rfl rfl (by kernel_rfl) (by kernel_rfl) (by kernel_rfl) (by kernel_rfl) (fun _ _ _ h => h) (by rfl) (yieldsIf_build (by rfl) 54 _ rfl [(0, .int .i64 p.i), (1, .int .i64 (cut at_)), (2, .int .i64 (cut p.w)), (3, .string p.t)] rfl _ (by kernel_rfl)) hHeld ?_
                  simp only [Act.put, List.setIfInBounds_toArray, List.set_cons_zero, List.set_cons_succ]
                  have HVA := hide (HPA.out.alloc (.cells #[.int .i64 p.i, .int .i64 (cut at_), .int .i64 (cut p.w), .string p.t] 54))
                  have HPC := hide (Blk.new wB 54 #[.int .i64 p.i, .int .i64 (cut at_), .int .i64 (cut p.w), .string p.t])
                  have HXV := hide (HXA.out.alloc (.cells #[.int .i64 p.i, .int .i64 (cut at_), .int .i64 (cut p.w), .string p.t] 54))
                  have HBV := hide (HBX.out.alloc (.cells #[.int .i64 p.i, .int .i64 (cut at_), .int .i64 (cut p.w), .string p.t] 54))
                  have HGV := hide (HGA.out.alloc (.cells #[.int .i64 p.i, .int .i64 (cut at_), .int .i64 (cut p.w), .string p.t] 54))
                  have gV := only_alloc gA (.cells #[.int .i64 p.i, .int .i64 (cut at_), .int .i64 (cut p.w), .string p.t] 54)
                  have hsV : (wB.alloc (.cells #[.int .i64 p.i, .int .i64 (cut at_), .int .i64 (cut p.w), .string p.t] 54)).heap.size = wB.heap.size + 1 := by simp
                  have hwB := gA.size
                  refine layK (j := 12) (by kernel_rfl) rfl rfl 184 rfl 50 1 _ rfl [(0, Value.agg #[.int .i64 p.i, .int .i64 (cut at_), .int .i64 (cut p.w), .string p.t])] (by kernel_rfl) #[.int .i64 p.i, .int .i64 (cut at_), .int .i64 (cut p.w), .string p.t] 54 (by kernel_rfl) ⟨HXV.out.cell 5, HBV.out.cell 1, HBV.out.cell 2, HBV.out.cell 3⟩ ?_
                  simp only [Act.put, List.setIfInBounds_toArray, List.set_cons_zero, List.set_cons_succ]
                  refine exitK (by kernel_rfl) ?_
                  refine app1H (j := 13) (by kernel_rfl) rfl rfl 185 rfl (.tmp 173) (.tmp 184) _ rfl wc.heap.size 54 _ 4 40 Tryd.underlying50 piece_info rfl (Nat.succ_pos _) (pv) pcs.length _ (by kernel_rfl) HVA.out wB.heap.size 1 #[.int .i64 p.i, .int .i64 (cut at_), .int .i64 (cut p.w), .string p.t] HPC.out rfl (by kernel_rfl) rfl (by omega) (Nat.le_of_ble_eq_true rfl) (by omega) (fun v4 w4 hown4 hg4 hat4 => ⟨trivial, ?_⟩)
                  simp only [Act.put, List.setIfInBounds_toArray, List.set_cons_zero, List.set_cons_succ]
                  have HX4 := hide (HXV.out.grown hg4 (Ne.symm (own_blk_ne HVA.out HXV.out (by decide))))
                  have HB4 := hide (HBV.out.grown hg4 (Ne.symm (own_blk_ne HVA.out HBV.out (by decide))))
                  have HG4 := hide (own_other HGV.out HVA.out (by decide) hg4)
                  have g4 := grown_own gV HVA.out (Nat.le_refl _) hg4
                  obtain ⟨A4, c4, rfl, _, _⟩ := own_reads hown4
                  have O4 := hide hown4
                  clear hown4 hg4 hat4
                  refine take_at (i := 14) (v := (Value.pointer (some ⟨X, 5, none⟩))) (some 186) rfl rfl (by kernel_rfl) (by kernel_rfl) (by kernel_rfl) (fun _ _ _ h => h) (yieldsIf_faddr (by rfl) 52 _ 5 rfl _ _ 5 rfl (by kernel_rfl)) trivial ?_
                  simp only [Act.put, List.setIfInBounds_toArray, List.set_cons_zero, List.set_cons_succ]
                  refine storeH (j := 15) (by kernel_rfl) rfl rfl rfl 50 (.tmp 186) (.tmp 185) rfl X 5 52 _ (.slice A4 (pcs.length + 1) c4) (by kernel_rfl) (by kernel_rfl) HX4.out (Nat.le_of_ble_eq_true rfl) (by kernel_rfl) rfl rfl (fun w5 hB hG => ⟨trivial, ?_⟩)
                  simp only [Act.put, List.setIfInBounds_toArray, List.set_cons_zero, List.set_cons_succ]
                  have HX5 := hide hB
                  have hg5 := hG
                  have HB5 := hide (HB4.out.grown hg5 (fun e => (HB4.out.ne_ HX4.out (by decide)) (by injection e)))
                  have HG5 := hide (own_stays HG4.out hg5 (own_blk_ne HG4.out HX4.out (by decide)))
                  have O5 := hide (own_stays O4.out hg5 (own_blk_ne O4.out HX4.out (by decide)))
                  have g5 := grownBy_trans g4 hg5
                  clear hB hG hg5 HVA HPC HXV HBV HGV gV HX4 HB4 HG4 g4 O4
                  refine wpAnyH_done (by kernel_rfl) ?_ _
                  clear hHeld HS0 hsV hwB HXA HBX HPA HGA gA
                  have z3 : w5.drew.cell? ⟨wr.heap.size, 3, none⟩ = some (.int .i64 p.w) := HB5.out.cell 3
                  have z9 : w5.drew.cell? ⟨G2, k, none⟩ = some (.int .i64 gk) := (HG5.out.cellAt k (by omega)).trans HGC.out
                  go_wp2_with fail
                  go_region_held3 (fun W => W.cell? ⟨wr.heap.size, 3, none⟩ = some (.int .i64 p.w) ∧ W.cell? ⟨G2, k, none⟩ = some (.int .i64 gk)) (first | exact ⟨z3, z9⟩ | go_keep) (fail)
                  all_goals
                    go_wp2_with fail
                    go_roundw
                    case rel => exact ⟨k + 1, by omega, by go_num, by rw [HT2.out], _, HX5.out.drew, by rw [HT2.out]; simp only [List.length_append, List.length_singleton, pcCells_snoc]; exact O5.out.drew, only_drew g5⟩
                    case measure => simp only [intOf]; omega
                · have hk5 : kd = 5 := by simpa using h5
                  have HT2 := hide (HT1.out.trans (by rw [if_pos hk5]))
                  have h5' : (kd != 5) = false := by simp [bne, h5]
                  clear HT1 hk5
                  go_wp2_with fail
                  have z3 : (wr.alloc (.cells #[.pointer (some ⟨g, p.i * 11, none⟩), .int .i64 p.i, .string p.t, .int .i64 p.w, .bool p.last] 96)).drew.cell? ⟨wr.heap.size, 3, none⟩ = some (.int .i64 p.w) := HBX.out.cell 3
                  have z9 : (wr.alloc (.cells #[.pointer (some ⟨g, p.i * 11, none⟩), .int .i64 p.i, .string p.t, .int .i64 p.w, .bool p.last] 96)).drew.cell? ⟨G2, k, none⟩ = some (.int .i64 gk) := e9A
                  generalize wr.alloc (.cells #[.pointer (some ⟨g, p.i * 11, none⟩), .int .i64 p.i, .string p.t, .int .i64 p.w, .bool p.last] 96) = wA at *
                  go_region_held3 (fun W => W.cell? ⟨wr.heap.size, 3, none⟩ = some (.int .i64 p.w) ∧ W.cell? ⟨G2, k, none⟩ = some (.int .i64 gk)) (first | exact ⟨z3, z9⟩ | go_keep) (fail)
                  all_goals
                    go_wp2_with fail
                    go_roundw
                    case rel => exact ⟨k + 1, by omega, by go_num, by rw [HT2.out], _, HXA.out.drew, by rw [HT2.out]; exact HPA.out.drew, only_drew gA⟩
                    case measure => simp only [intOf]; omega
              · obtain rfl : k = ps.length := by omega
                have bk : Below X wc wr := ⟨hgk.os, hgk.tape, hgk.output, hgk.size, fun i hi => hgk.block i (by omega) (fun e => by injection e with e; omega)⟩
                have bw := b9.trans (bk.mono hX)
                have HBr := hide (HBK.out.below bw hbl)
                have HOr := hide (HOUT.out.below bw)
                have HOUTW := hide (fun (Z : World) (h9 : Below w.heap.size w Z) => HOUT.out.below h9)
                have HOB := hide (show ∀ i, outV.ownBlock = some i → i < w.heap.size from by obtain ⟨q0, _, h2, _⟩ := HOUT.out; exact own_lt h2)
                have HXr := hide hxk.out
                have HPr := hide hpk.out
                rw [HTL.out] at HL9
                clear hxk hpk HAT HWB HGB HGL O12 hpt9 hxb HTO HOUT HBK HO HX HI HP bk hlt hk
                generalize (tellTo xs ts gp ps.length).1 = at_ at *
                generalize (tellTo xs ts gp ps.length).2 = pcs at *
                generalize lf + shiftF al fr = x1 at *
                go_wp2_with fail
                have HS0 := hide (show wr.drew.cell? ⟨X, 0, none⟩ = some (.int .i64 x1) ∧ wr.drew.cell? ⟨X, 1, none⟩ = some (.int .i64 y) ∧ wr.drew.cell? ⟨X, 3, none⟩ = some (.int .i64 hi) ∧ wr.drew.cell? ⟨X, 4, none⟩ = some (.int .i64 base) from ⟨HXr.out.cell 0, HXr.out.cell 1, HXr.out.cell 3, HXr.out.cell 4⟩)
                replace HXr := hide HXr.out.drew
                replace HPr := hide HPr.out.drew
                replace HBr := hide HBr.out.drew
                replace HOr := hide (show LinesAt wr.drew B outV out from HOr.out)
                replace hgk := only_drew hgk
                have hXr := HXr.out.lt
                refine wp_region_KL (k := 15) 24 #[false, false, false, false, false, false, false, false, false, false, false, false, false, false, false, false, false, false, false, false, false, false, false, false] (by kernel_rfl) (by kernel_rfl) (S := fun W => W.cell? ⟨X, 0, none⟩ = some (.int .i64 x1) ∧ W.cell? ⟨X, 1, none⟩ = some (.int .i64 y) ∧ W.cell? ⟨X, 3, none⟩ = some (.int .i64 hi) ∧ W.cell? ⟨X, 4, none⟩ = some (.int .i64 base)) (by kernel_rfl) (HS0.out) (fun hHeld => ?_)
                generalize wr.drew = wB at *
                refine takeK (i := 0) (v := (Value.pointer (some ⟨X, 0, none⟩))) [1, 2, 4, 7, 10, 13, 14, 15, 16, 17, 18, 19, 20, 21, 22, 23] (some 197) rfl rfl rfl (by kernel_rfl) (by kernel_rfl) (by kernel_rfl) (by kernel_rfl) (fun _ _ _ h => h) (by rfl) (yieldsIf_faddr (by rfl) 52 _ 0 rfl _ _ 0 rfl (by kernel_rfl)) hHeld ?_
                simp only [Act.put, List.setIfInBounds_toArray, List.set_cons_zero, List.set_cons_succ]
                refine takeK (i := 1) (v := (.int .i64 x1)) [2, 4, 7, 10, 13, 14, 15, 16, 17, 18, 19, 20, 21, 22, 23] (some 198) rfl rfl rfl (by kernel_rfl) (by kernel_rfl) (by kernel_rfl) (by kernel_rfl) (fun _ _ _ h => h) (by rfl) (yieldsIf_load1 (by rfl) 3 _ rfl _ _ _ rfl (by kernel_rfl) (fun _ h => h.1)) hHeld ?_
                simp only [Act.put, List.setIfInBounds_toArray, List.set_cons_zero, List.set_cons_succ]
                refine callK (i := 2) (v := .int .i64 (cut x1)) [4, 7, 10, 13, 14, 15, 16, 17, 18, 19, 20, 21, 22, 23] (some 199) rfl rfl rfl (by kernel_rfl) (by kernel_rfl) (by kernel_rfl) (by kernel_rfl) (fun _ _ _ h => h) (by rfl) 13 #[.int .i64 x1] (fun _ _ => run_enter Tryd.func13 (by kernel_rfl) (by kernel_rfl) _ _ rfl #[.int .i64 x1] (by kernel_rfl) _) (fun W _ => cut_any _ _) hHeld ?_
                simp only [Act.put, List.setIfInBounds_toArray, List.set_cons_zero, List.set_cons_succ]
                refine takeK (i := 3) (v := (.int .i64 at_)) [4, 7, 10, 13, 15, 16, 17, 18, 19, 20, 21, 22, 23] (some 200) rfl rfl rfl (by kernel_rfl) (by kernel_rfl) (by kernel_rfl) (by kernel_rfl) (fun _ _ _ h => h) (by rfl) (yieldsIf_move (by rfl) _ rfl _ rfl) hHeld ?_
                simp only [Act.put, List.setIfInBounds_toArray, List.set_cons_zero, List.set_cons_succ]
                refine callK (i := 4) (v := .int .i64 (cut at_)) [7, 10, 13, 15, 16, 17, 18, 19, 20, 21, 22, 23] (some 201) rfl rfl rfl (by kernel_rfl) (by kernel_rfl) (by kernel_rfl) (by kernel_rfl) (fun _ _ _ h => h) (by rfl) 13 #[.int .i64 at_] (fun _ _ => run_enter Tryd.func13 (by kernel_rfl) (by kernel_rfl) _ _ rfl #[.int .i64 at_] (by kernel_rfl) _) (fun W _ => cut_any _ _) hHeld ?_
                simp only [Act.put, List.setIfInBounds_toArray, List.set_cons_zero, List.set_cons_succ]
                refine takeK (i := 5) (v := (Value.pointer (some ⟨X, 1, none⟩))) [6, 7, 10, 13, 14, 15, 16, 17, 18, 19, 20, 21, 22, 23] (some 202) rfl rfl rfl (by kernel_rfl) (by kernel_rfl) (by kernel_rfl) (by kernel_rfl) (fun _ _ _ h => h) (by rfl) (yieldsIf_faddr (by rfl) 52 _ 1 rfl _ _ 1 rfl (by kernel_rfl)) hHeld ?_
                simp only [Act.put, List.setIfInBounds_toArray, List.set_cons_zero, List.set_cons_succ]
                refine takeK (i := 6) (v := (.int .i64 y)) [7, 10, 13, 14, 15, 16, 17, 18, 19, 20, 21, 22, 23] (some 203) rfl rfl rfl (by kernel_rfl) (by kernel_rfl) (by kernel_rfl) (by kernel_rfl) (fun _ _ _ h => h) (by rfl) (yieldsIf_load1 (by rfl) 3 _ rfl _ _ _ rfl (by kernel_rfl) (fun _ h => h.2.1)) hHeld ?_
                simp only [Act.put, List.setIfInBounds_toArray, List.set_cons_zero, List.set_cons_succ]
                refine callK (i := 7) (v := .int .i64 (cut y)) [10, 13, 15, 16, 17, 18, 19, 20, 21, 22, 23] (some 204) rfl rfl rfl (by kernel_rfl) (by kernel_rfl) (by kernel_rfl) (by kernel_rfl) (fun _ _ _ h => h) (by rfl) 13 #[.int .i64 y] (fun _ _ => run_enter Tryd.func13 (by kernel_rfl) (by kernel_rfl) _ _ rfl #[.int .i64 y] (by kernel_rfl) _) (fun W _ => cut_any _ _) hHeld ?_
                simp only [Act.put, List.setIfInBounds_toArray, List.set_cons_zero, List.set_cons_succ]
                refine takeK (i := 8) (v := (Value.pointer (some ⟨X, 3, none⟩))) [9, 10, 13, 14, 15, 16, 17, 18, 19, 20, 21, 22, 23] (some 205) rfl rfl rfl (by kernel_rfl) (by kernel_rfl) (by kernel_rfl) (by kernel_rfl) (fun _ _ _ h => h) (by rfl) (yieldsIf_faddr (by rfl) 52 _ 3 rfl _ _ 3 rfl (by kernel_rfl)) hHeld ?_
                simp only [Act.put, List.setIfInBounds_toArray, List.set_cons_zero, List.set_cons_succ]
                refine takeK (i := 9) (v := (.int .i64 hi)) [10, 13, 14, 15, 16, 17, 18, 19, 20, 21, 22, 23] (some 206) rfl rfl rfl (by kernel_rfl) (by kernel_rfl) (by kernel_rfl) (by kernel_rfl) (fun _ _ _ h => h) (by rfl) (yieldsIf_load1 (by rfl) 3 _ rfl _ _ _ rfl (by kernel_rfl) (fun _ h => h.2.2.1)) hHeld ?_
                simp only [Act.put, List.setIfInBounds_toArray, List.set_cons_zero, List.set_cons_succ]
                refine callK (i := 10) (v := .int .i64 (cut hi)) [13, 15, 16, 17, 18, 19, 20, 21, 22, 23] (some 207) rfl rfl rfl (by kernel_rfl) (by kernel_rfl) (by kernel_rfl) (by kernel_rfl) (fun _ _ _ h => h) (by rfl) 13 #[.int .i64 hi] (fun _ _ => run_enter Tryd.func13 (by kernel_rfl) (by kernel_rfl) _ _ rfl #[.int .i64 hi] (by kernel_rfl) _) (fun W _ => cut_any _ _) hHeld ?_
                simp only [Act.put, List.setIfInBounds_toArray, List.set_cons_zero, List.set_cons_succ]
                refine takeK (i := 11) (v := (Value.pointer (some ⟨X, 4, none⟩))) [12, 13, 14, 15, 16, 17, 18, 19, 20, 21, 22, 23] (some 208) rfl rfl rfl (by kernel_rfl) (by kernel_rfl) (by kernel_rfl) (by kernel_rfl) (fun _ _ _ h => h) (by rfl) (yieldsIf_faddr (by rfl) 52 _ 4 rfl _ _ 4 rfl (by kernel_rfl)) hHeld ?_
                simp only [Act.put, List.setIfInBounds_toArray, List.set_cons_zero, List.set_cons_succ]
                refine takeK (i := 12) (v := (.int .i64 base)) [13, 14, 15, 16, 17, 18, 19, 20, 21, 22, 23] (some 209) rfl rfl rfl (by kernel_rfl) (by kernel_rfl) (by kernel_rfl) (by kernel_rfl) (fun _ _ _ h => h) (by rfl) (yieldsIf_load1 (by rfl) 3 _ rfl _ _ _ rfl (by kernel_rfl) (fun _ h => h.2.2.2)) hHeld ?_
                simp only [Act.put, List.setIfInBounds_toArray, List.set_cons_zero, List.set_cons_succ]
                refine callK (i := 13) (v := .int .i64 (cut base)) [15, 16, 17, 18, 19, 20, 21, 22, 23] (some 210) rfl rfl rfl (by kernel_rfl) (by kernel_rfl) (by kernel_rfl) (by kernel_rfl) (fun _ _ _ h => h) (by rfl) 13 #[.int .i64 base] (fun _ _ => run_enter Tryd.func13 (by kernel_rfl) (by kernel_rfl) _ _ rfl #[.int .i64 base] (by kernel_rfl) _) (fun W _ => cut_any _ _) hHeld ?_
                simp only [Act.put, List.setIfInBounds_toArray, List.set_cons_zero, List.set_cons_succ]
                refine takeK (i := 14) (v := (Value.pointer (some ⟨X, 0, none⟩))) [15, 16, 17, 18, 19, 20, 21, 22, 23] (some 211) rfl rfl rfl (by kernel_rfl) (by kernel_rfl) (by kernel_rfl) (by kernel_rfl) (fun _ _ _ h => h) (by rfl) (yieldsIf_faddr (by rfl) 52 _ 0 rfl _ _ 0 rfl (by kernel_rfl)) hHeld ?_
                simp only [Act.put, List.setIfInBounds_toArray, List.set_cons_zero, List.set_cons_succ]
                refine exitK (by kernel_rfl) ?_
                refine storeH (j := 15) (by kernel_rfl) rfl rfl rfl 3 (.tmp 211) (.tmp 199) rfl X 0 52 _ (.int .i64 (cut x1)) (by kernel_rfl) (by kernel_rfl) HXr.out (Nat.le_of_ble_eq_true rfl) (by kernel_rfl) rfl rfl (fun w31 hB hG => ⟨trivial, ?_⟩)
                simp only [Act.put, List.setIfInBounds_toArray, List.set_cons_zero, List.set_cons_succ]
                simp only [List.setIfInBounds_toArray, List.set_cons_zero, List.set_cons_succ] at hB
                have HX31 := hide hB
                have gg1 := hG
                clear hB hG
                refine take_at (i := 16) (v := (Value.pointer (some ⟨X, 2, none⟩))) (some 212) rfl rfl (by kernel_rfl) (by kernel_rfl) (by kernel_rfl) (fun _ _ _ h => h) (yieldsIf_faddr (by rfl) 52 _ 2 rfl _ _ 2 rfl (by kernel_rfl)) trivial ?_
                simp only [Act.put, List.setIfInBounds_toArray, List.set_cons_zero, List.set_cons_succ]
                refine storeH (j := 17) (by kernel_rfl) rfl rfl rfl 3 (.tmp 212) (.tmp 201) rfl X 2 52 _ (.int .i64 (cut at_)) (by kernel_rfl) (by kernel_rfl) HX31.out (Nat.le_of_ble_eq_true rfl) (by kernel_rfl) rfl rfl (fun w32 hB hG => ⟨trivial, ?_⟩)
                simp only [Act.put, List.setIfInBounds_toArray, List.set_cons_zero, List.set_cons_succ]
                simp only [List.setIfInBounds_toArray, List.set_cons_zero, List.set_cons_succ] at hB
                have HX32 := hide hB
                have gg2 := grownBy_trans gg1 hG
                clear hB hG HX31 gg1
                refine take_at (i := 18) (v := (Value.pointer (some ⟨X, 1, none⟩))) (some 213) rfl rfl (by kernel_rfl) (by kernel_rfl) (by kernel_rfl) (fun _ _ _ h => h) (yieldsIf_faddr (by rfl) 52 _ 1 rfl _ _ 1 rfl (by kernel_rfl)) trivial ?_
                simp only [Act.put, List.setIfInBounds_toArray, List.set_cons_zero, List.set_cons_succ]
                refine storeH (j := 19) (by kernel_rfl) rfl rfl rfl 3 (.tmp 213) (.tmp 204) rfl X 1 52 _ (.int .i64 (cut y)) (by kernel_rfl) (by kernel_rfl) HX32.out (Nat.le_of_ble_eq_true rfl) (by kernel_rfl) rfl rfl (fun w33 hB hG => ⟨trivial, ?_⟩)
                simp only [Act.put, List.setIfInBounds_toArray, List.set_cons_zero, List.set_cons_succ]
                simp only [List.setIfInBounds_toArray, List.set_cons_zero, List.set_cons_succ] at hB
                have HX33 := hide hB
                have gg3 := grownBy_trans gg2 hG
                clear hB hG HX32 gg2
                refine take_at (i := 20) (v := (Value.pointer (some ⟨X, 3, none⟩))) (some 214) rfl rfl (by kernel_rfl) (by kernel_rfl) (by kernel_rfl) (fun _ _ _ h => h) (yieldsIf_faddr (by rfl) 52 _ 3 rfl _ _ 3 rfl (by kernel_rfl)) trivial ?_
                simp only [Act.put, List.setIfInBounds_toArray, List.set_cons_zero, List.set_cons_succ]
                refine storeH (j := 21) (by kernel_rfl) rfl rfl rfl 3 (.tmp 214) (.tmp 207) rfl X 3 52 _ (.int .i64 (cut hi)) (by kernel_rfl) (by kernel_rfl) HX33.out (Nat.le_of_ble_eq_true rfl) (by kernel_rfl) rfl rfl (fun w34 hB hG => ⟨trivial, ?_⟩)
                simp only [Act.put, List.setIfInBounds_toArray, List.set_cons_zero, List.set_cons_succ]
                simp only [List.setIfInBounds_toArray, List.set_cons_zero, List.set_cons_succ] at hB
                have HX34 := hide hB
                have gg4 := grownBy_trans gg3 hG
                clear hB hG HX33 gg3
                refine take_at (i := 22) (v := (Value.pointer (some ⟨X, 4, none⟩))) (some 215) rfl rfl (by kernel_rfl) (by kernel_rfl) (by kernel_rfl) (fun _ _ _ h => h) (yieldsIf_faddr (by rfl) 52 _ 4 rfl _ _ 4 rfl (by kernel_rfl)) trivial ?_
                simp only [Act.put, List.setIfInBounds_toArray, List.set_cons_zero, List.set_cons_succ]
                refine storeH (j := 23) (by kernel_rfl) rfl rfl rfl 3 (.tmp 215) (.tmp 210) rfl X 4 52 _ (.int .i64 (cut base)) (by kernel_rfl) (by kernel_rfl) HX34.out (Nat.le_of_ble_eq_true rfl) (by kernel_rfl) rfl rfl (fun w35 hB hG => ⟨trivial, ?_⟩)
                simp only [Act.put, List.setIfInBounds_toArray, List.set_cons_zero, List.set_cons_succ]
                simp only [List.setIfInBounds_toArray, List.set_cons_zero, List.set_cons_succ] at hB
                have HX35 := hide hB
                have gg5 := grownBy_trans gg4 hG
                clear hB hG HX34 gg4
                refine wpAnyH_done (by kernel_rfl) ?_ _
                clear hHeld HS0
                have g35 := grownBy_trans hgk gg5
                have HPs := hide (own_stays HPr.out gg5 (own_blk_ne HPr.out HXr.out (by decide)))
                have HBs := hide (HBr.out.grown gg5 (fun e => (HBr.out.ne_ HXr.out (by decide)) (by injection e)))
                have bk : Below X wc w35 := ⟨g35.os, g35.tape, g35.output, g35.size, fun i hi => g35.block i (by omega) (fun e => by injection e with e; omega)⟩
                have bX : Below X wB w35 := ⟨gg5.os, gg5.tape, gg5.output, gg5.size, fun i hi => gg5.block i (by omega) (fun e => by injection e with e; omega)⟩
                have bw := b9.trans (bk.mono hX)
                have HOs := hide (HOUTW.out _ bw)
                clear HPr HBr HOr HXr gg5 hgk bX
                go_wp2_with fail
                have HS1 := hide (show w35.drew.cell? ⟨b, 11, none⟩ = some outV ∧ Blk w35.drew X 52 #[.int .i64 (cut x1), .int .i64 (cut y), .int .i64 (cut at_), .int .i64 (cut hi), .int .i64 (cut base), pv, .bool last] from ⟨HBs.out.cell 11, HX35.out⟩)
                replace HPs := hide HPs.out.drew
                replace HBs := hide HBs.out.drew
                replace HX35 := hide HX35.out.drew
                replace HOs := hide (show LinesAt w35.drew B outV out from HOs.out)
                replace bw := Below.drew bw
                clear bk g35
                refine wp_region_KL (k := 10) 11 #[false, false, false, false, false, false, false, false, false, false, false] (by kernel_rfl) (by kernel_rfl) (S := fun W => W.cell? ⟨b, 11, none⟩ = some outV ∧ Blk W X 52 #[.int .i64 (cut x1), .int .i64 (cut y), .int .i64 (cut at_), .int .i64 (cut hi), .int .i64 (cut base), pv, .bool last]) (by kernel_rfl) (HS1.out) (fun hHeld => ?_)
                generalize w35.drew = wD at *
                refine takeK (i := 0) (v := (Value.pointer (some ⟨b, 0, none⟩))) [8, 9, 10] (some 216) rfl rfl rfl (by kernel_rfl) (by kernel_rfl) (by kernel_rfl) (by kernel_rfl) (fun _ _ _ h => h) (by rfl) (yieldsIf_move (by rfl) _ rfl _ rfl) hHeld ?_
                simp only [Act.put, List.setIfInBounds_toArray, List.set_cons_zero, List.set_cons_succ]
                refine takeK (i := 1) (v := (Value.pointer (some ⟨b, 0, none⟩))) [2, 3, 4, 7, 8, 9, 10] (some 217) rfl rfl rfl (by kernel_rfl) (by kernel_rfl) (by kernel_rfl) (by kernel_rfl) (fun _ _ _ h => h) (by rfl) (yieldsIf_move (by rfl) _ rfl _ rfl) hHeld ?_
                simp only [Act.put, List.setIfInBounds_toArray, List.set_cons_zero, List.set_cons_succ]
                refine takeK (i := 2) (v := (Value.pointer (some ⟨b, 0, none⟩))) [3, 4, 7, 8, 9, 10] (some 218) rfl rfl rfl (by kernel_rfl) (by kernel_rfl) (by kernel_rfl) (by kernel_rfl) (fun _ _ _ h => h) (by rfl) (yieldsIf_nil (by rfl) _ rfl _ rfl) hHeld ?_
                simp only [Act.put, List.setIfInBounds_toArray, List.set_cons_zero, List.set_cons_succ]
                refine takeK (i := 3) (v := (Value.pointer (some ⟨b, 11, none⟩))) [4, 7, 8, 9, 10] (some 219) rfl rfl rfl (by kernel_rfl) (by kernel_rfl) (by kernel_rfl) (by kernel_rfl) (fun _ _ _ h => h) (by rfl) (yieldsIf_faddr (by rfl) 81 _ 11 rfl _ _ 11 rfl (by kernel_rfl)) hHeld ?_
                simp only [Act.put, List.setIfInBounds_toArray, List.set_cons_zero, List.set_cons_succ]
                refine takeK (i := 4) (v := (outV)) [7, 8, 9, 10] (some 220) rfl rfl rfl (by kernel_rfl) (by kernel_rfl) (by kernel_rfl) (by kernel_rfl) (fun _ _ _ h => h) (by rfl) (yieldsIf_load1 (by rfl) 44 _ rfl _ _ _ rfl (by kernel_rfl) (fun _ h => h.1)) hHeld ?_
                simp only [Act.put, List.setIfInBounds_toArray, List.set_cons_zero, List.set_cons_succ]
                refine takeK (i := 5) (v := (Value.agg #[.int .i64 (cut x1), .int .i64 (cut y), .int .i64 (cut at_), .int .i64 (cut hi), .int .i64 (cut base), pv, .bool last])) [6, 7, 8, 9, 10] (some 221) rfl rfl rfl (by kernel_rfl) (by kernel_rfl) (by kernel_rfl) (by kernel_rfl) (fun _ _ _ h => h) (by rfl) (yieldsIf_load_blk (by rfl) 52 _ rfl X rfl 52 _ _ (fun _ h => h.2) (by rfl) rfl (by kernel_rfl)) hHeld ?_
                simp only [Act.put, List.setIfInBounds_toArray, List.set_cons_zero, List.set_cons_succ]
                have HBv := hide (HBs.out.alloc (.cells #[.int .i64 (cut x1), .int .i64 (cut y), .int .i64 (cut at_), .int .i64 (cut hi), .int .i64 (cut base), pv, .bool last] 52))
                have HXv := hide (HX35.out.alloc (.cells #[.int .i64 (cut x1), .int .i64 (cut y), .int .i64 (cut at_), .int .i64 (cut hi), .int .i64 (cut base), pv, .bool last] 52))
                have HPv := hide (HPs.out.alloc (.cells #[.int .i64 (cut x1), .int .i64 (cut y), .int .i64 (cut at_), .int .i64 (cut hi), .int .i64 (cut base), pv, .bool last] 52))
                have HOv := hide (HOs.out.below ((Below.refl wD.heap.size wD).alloc (Nat.le_refl _) (.cells #[.int .i64 (cut x1), .int .i64 (cut y), .int .i64 (cut at_), .int .i64 (cut hi), .int .i64 (cut base), pv, .bool last] 52)))
                have HNv := hide (Blk.new wD 52 #[.int .i64 (cut x1), .int .i64 (cut y), .int .i64 (cut at_), .int .i64 (cut hi), .int .i64 (cut base), pv, .bool last])
                have bv := bw.alloc bw.size (.cells #[.int .i64 (cut x1), .int .i64 (cut y), .int .i64 (cut at_), .int .i64 (cut hi), .int .i64 (cut base), pv, .bool last] 52)
                have hXd := HX35.out.lt
                have hwD := bw.size
                refine layK (j := 6) (by kernel_rfl) rfl rfl 222 rfl 44 1 _ rfl [(0, Value.agg #[.int .i64 (cut x1), .int .i64 (cut y), .int .i64 (cut at_), .int .i64 (cut hi), .int .i64 (cut base), pv, .bool last])] (by kernel_rfl) #[.int .i64 (cut x1), .int .i64 (cut y), .int .i64 (cut at_), .int .i64 (cut hi), .int .i64 (cut base), pv, .bool last] 52 (by kernel_rfl) ⟨HBv.out.cell 11, HXv.out⟩ ?_
                simp only [Act.put, List.setIfInBounds_toArray, List.set_cons_zero, List.set_cons_succ]
                obtain ⟨q, hq1, hq2, hq3⟩ := HOv.out
                refine app1K (j := 7) (by kernel_rfl) rfl rfl 223 rfl (.tmp 220) (.tmp 222) _ rfl B 52 _ 7 72 Tryd.underlying44 line_info rfl (Nat.succ_pos _) (outV) out.length _ (by kernel_rfl) hq2 wD.heap.size 1 #[.int .i64 (cut x1), .int .i64 (cut y), .int .i64 (cut at_), .int .i64 (cut hi), .int .i64 (cut base), pv, .bool last] HNv.out rfl (by kernel_rfl) (by obtain ⟨Ap, cp, hpv, _, _⟩ := own_reads HPv.out; rw [hpv]; rfl) (by omega) (Nat.le_of_ble_eq_true rfl) (by simp; omega) (fun v4 w4 hown4 hg4 hat4 => ⟨⟨(HBv.out.grown hg4 (Ne.symm (own_blk_ne hq2 HBv.out (by decide)))).cell 11, HXv.out.grown hg4 (fun e => by have := HOB.out X e.symm; omega)⟩, ?_⟩)
                simp only [Act.put, List.setIfInBounds_toArray, List.set_cons_zero, List.set_cons_succ]
                have HX4 := hide (HXv.out.grown hg4 (fun e => by have := HOB.out X e.symm; omega))
                have HB4 := hide (HBv.out.grown hg4 (Ne.symm (own_blk_ne hq2 HBv.out (by decide))))
                have HP4 := hide (own_other HPv.out hq2 (by decide) hg4)
                have HQ4 := hide (fun a (ha : a ∈ q) => own_other (hq3 a ha) hq2 (by decide) hg4)
                have O4 := hide hown4
                have HQ1 := hide hq1
                have HG4 := hide hg4
                have HA4 := hide hat4
                clear hown4 hg4 hat4 hq1 hq2 hq3 HOv
                refine takeK (i := 8) (v := (Value.pointer (some ⟨b, 0, none⟩))) [9, 10] (some 224) rfl rfl rfl (by kernel_rfl) (by kernel_rfl) (by kernel_rfl) (by kernel_rfl) (fun _ _ _ h => h) (by rfl) (yieldsIf_nil (by rfl) _ rfl _ rfl) ⟨HB4.out.cell 11, HX4.out⟩ ?_
                simp only [Act.put, List.setIfInBounds_toArray, List.set_cons_zero, List.set_cons_succ]
                refine takeK (i := 9) (v := (Value.pointer (some ⟨b, 11, none⟩))) [10] (some 225) rfl rfl rfl (by kernel_rfl) (by kernel_rfl) (by kernel_rfl) (by kernel_rfl) (fun _ _ _ h => h) (by rfl) (yieldsIf_faddr (by rfl) 81 _ 11 rfl _ _ 11 rfl (by kernel_rfl)) ⟨HB4.out.cell 11, HX4.out⟩ ?_
                simp only [Act.put, List.setIfInBounds_toArray, List.set_cons_zero, List.set_cons_succ]
                refine exitK (by kernel_rfl) ?_
                refine storeH (j := 10) (by kernel_rfl) rfl rfl rfl 44 (.tmp 225) (.tmp 223) rfl b 11 81 _ (v4) (by kernel_rfl) (by kernel_rfl) HB4.out (Nat.le_of_ble_eq_true rfl) (by kernel_rfl) (by obtain ⟨A4, c4, rfl, _, _⟩ := own_reads O4.out; rfl) (by obtain ⟨A4, c4, rfl, _, _⟩ := own_reads O4.out; rfl) (fun w5 hB hG => ⟨trivial, ?_⟩)
                simp only [Act.put, List.setIfInBounds_toArray, List.set_cons_zero, List.set_cons_succ]
                have HB5 := hide (show Blk w5 b 81 (brA fp y sz ht al ind lf rt (.slice (some ⟨h, off, none⟩) ps.length c) full late v4) from hB)
                have hg5 := hG
                have O5 := hide (own_stays O4.out hg5 (own_blk_ne O4.out HB4.out (by decide)))
                have HP5 := hide (own_stays HP4.out hg5 (own_blk_ne HP4.out HB4.out (by decide)))
                have HQ5 := hide (fun a (ha : a ∈ q) => own_stays (HQ4.out a ha) hg5 (own_blk_ne (HQ4.out a ha) HB4.out (by decide)))
                have HG5 := hide hg5
                clear hB hG hg5 HB4 HP4 HQ4 O4 HX4 HXv HBv HPv HNv
                refine wpAnyH_done (by kernel_rfl) ?_ _
                clear hHeld HS1 HBs HX35 HPs HOs
                have c1 : w5.cell? ⟨b, 1, none⟩ = some (.int .i64 y) := HB5.out.cell 1
                have fz1 : w5.frozen? ⟨b, 1, none⟩ = false := HB5.out.frozen 1
                have y1 : IntKind.i64.wrap (y + hi) = y + hi := IntWalk.i64_in _ (by omega)
                go_wp2_with fail
                go_end0
                have hL : pcs.length = (lnOf xs sz ht al y lf rt ps last).pcs.length := by rw [HL9.out]
                refine ⟨rfl, v4, (by rw [HHI.out]; exact HB5.out.set_ 1 _), ⟨q ++ [(lnOf xs sz ht al y lf rt ps last, pv)], by rw [List.map_append, HQ1.out]; rfl, ?_, fun a ha => ?_⟩, fun i hi1 hi2 hi3 => ?_, ⟨HG5.out.os.trans (HG4.out.os.trans bv.os), HG5.out.tape.trans (HG4.out.tape.trans bv.tape), HG5.out.output.trans (HG4.out.output.trans bv.output), ?_⟩, fun k hk => ?_⟩
                · rw [List.length_append, lnCells_snoc, HL9.out]
                  exact own_far O5.out (own_blk_ne O5.out HB5.out (by decide)) _
                · rcases List.mem_append.1 ha with ha | ha
                  · exact own_far (HQ5.out a ha) (own_blk_ne (HQ5.out a ha) HB5.out (by decide)) _
                  · obtain rfl : a = (lnOf xs sz ht al y lf rt ps last, pv) := by simpa using ha
                    rw [HL9.out]
                    exact own_far (own_mono HP5.out (by omega)) (own_blk_ne HP5.out HB5.out (by decide)) _
                · have h9 := bv.block i hi1
                  rw [Below.heap_setCell _ _ _ _ hi2, HG5.out.block i (by have := HG4.out.size; have := bv.size; omega) (fun e => hi2 (by injection e)), HG4.out.block i (by have := bv.size; omega) (fun e => hi3 e.symm)]
                  exact h9
                · have := HG5.out.size; have := HG4.out.size; have := bv.size
                  show w.heap.size ≤ (w5.setCell _ _).heap.size
                  simp only [World.setCell, Array.size_modify]
                  omega
                · rcases HA4.out with h9 | h9
                  · exact .inl (by rw [← h9]; exact hk)
                  · right
                    rw [h9] at hk
                    injection hk with hk
                    rw [← hk]
                    exact bv.size
end Go.Proofs.YtadlabndbomgmaaDoor
