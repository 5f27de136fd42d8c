/- Parts of the proof, joined: BrkOk, EndW. -/
import Derived.BigQuiet
import Derived.Handy
import Derived.IntWalk
import Derived.RegionTactic
import Derived.Deep.MidRow
import Derived.Deep.RegionHeld3
import Derived.Test.YtadlabndbomgmaaDoorJBeginW
import Derived.Test.YtadlabndbomgmaaDoorJTell
set_option linter.unusedVariables false
set_option linter.unusedSimpArgs false
/- The bounds that the breaker's state keeps. -/
namespace Go.Proofs.YtadlabndbomgmaaDoor
open Go.RowKit
structure StOk (xs : List It) (st : BG) (n m : Nat) : Prop where
  fs : FsOk st.fs
  ind : -16777216 ≤ st.ind ∧ st.ind ≤ 16777216
  lf : -16777216 ≤ st.left ∧ st.left ≤ 50331648
  rt : -16777216 ≤ st.right ∧ st.right ≤ 16777216
  y : -16777216 ≤ st.y ∧ st.y ≤ 16777216 + 200000000 * (st.out.length : Int)
  line : PsOk xs st.line
  late : PsOk xs st.late
  ll : st.line.length ≤ n
  lt : st.late.length ≤ n
  out : st.out.length ≤ m
section
variable {xs : List It} {sz ht al W : Int} {st st' : BG} {n m : Nat}
theorem ends_ok (hW : 0 ≤ W ∧ W ≤ 16777216) (hf : FsOk st.fs) (hi : -16777216 ≤ st.ind ∧ st.ind ≤ 16777216) : (-16777216 ≤ (endsG ht W st).left ∧ (endsG ht W st).left ≤ 50331648) ∧ (-16777216 ≤ (endsG ht W st).right ∧ (endsG ht W st).right ≤ 16777216) := by
  have h1 := edgesF_range (width := W) (y := cut st.y) (h := cut ht) (fs := st.fs) (by omega) (fun f hfm => by have := (hf.2 f hfm).1; unfold FlBd at this; omega)
  have h2 := edgesF_bd W (cut st.y) (cut ht) st.fs
  unfold endsG
  simp only
  omega
theorem StOk.ends (hW : 0 ≤ W ∧ W ≤ 16777216) (h : StOk xs st n m) : StOk xs (endsG ht W st) n m :=
  have := ends_ok (ht := ht) hW h.fs h.ind
  ⟨h.fs, h.ind, this.1, this.2, h.y, h.line, h.late, h.ll, h.lt, h.out⟩
theorem StOk.more (h : StOk xs st n m) {n' m' : Nat} (hn : n ≤ n') (hm : m ≤ m') : StOk xs st n' m' := ⟨h.fs, h.ind, h.lf, h.rt, h.y, h.line, h.late, Nat.le_trans h.ll hn, Nat.le_trans h.lt hn, Nat.le_trans h.out hm⟩
theorem StOk.begin (hW : 0 ≤ W ∧ W ≤ 16777216) (h : StOk xs st n m) (e : BeginR ht W st st') (hf : FsOk st'.fs) : StOk xs st' n m := by
  obtain ⟨fs, _, rfl⟩ := e
  exact StOk.ends hW ⟨hf, h.ind, h.lf, h.rt, h.y, (fun p hp => by cases hp), (fun p hp => by cases hp), Nat.zero_le _, Nat.zero_le _, h.out⟩
theorem StOk.tell (hx : ∀ k, ItOk (itAt xs k)) (hh : 0 ≤ ht ∧ ht ≤ 16777216) (h : StOk xs st n m) (last : Bool) : StOk xs { tellG xs sz ht al last st with ind := 0 } n (m + 1) := by
  have hb : 0 ≤ highF xs sz ht st.line ∧ highF xs sz ht st.line ≤ 200000000 := by
    have h9 := metTo_bd hx sz ht hh st.line
    unfold MetB at h9
    unfold highF
    omega
  have hy := h.y
  have ho := h.out
  unfold tellG
  split
  · refine ⟨h.fs, ⟨by show (-16777216 : Int) ≤ 0; decide, by show (0 : Int) ≤ 16777216; decide⟩, h.lf, h.rt, ?_, h.line, h.late, h.ll, h.lt, by simp only [List.length_append, List.length_singleton]; omega⟩
    simp only [List.length_append, List.length_singleton]
    omega
  · exact ⟨h.fs, ⟨by show (-16777216 : Int) ≤ 0; decide, by show (0 : Int) ≤ 16777216; decide⟩, h.lf, h.rt, h.y, h.line, h.late, h.ll, h.lt, by show st.out.length ≤ m + 1; omega⟩
theorem StOk.end_ (hx : ∀ k, ItOk (itAt xs k)) (hh : 0 ≤ ht ∧ ht ≤ 16777216) (hW : 0 ≤ W ∧ W ≤ 16777216) (h : StOk xs st n m) {last : Bool} (e : EndR xs sz ht al W last st st') (hf : FsOk st'.fs) : StOk xs st' n (m + 1) :=
  (h.tell hx hh last).begin hW e hf
theorem end_full {last : Bool} (e : EndR xs sz ht al W last st st') : st'.full = false ∧ st'.line = [] := by
  obtain ⟨fs, _, rfl⟩ := e
  exact ⟨rfl, rfl⟩
theorem end_y {last : Bool} (hx : ∀ k, ItOk (itAt xs k)) (hh : 0 ≤ ht ∧ ht ≤ 16777216) (e : EndR xs sz ht al W last st st') : st.y ≤ st'.y := by
  obtain ⟨fs, _, rfl⟩ := e
  show st.y ≤ (tellG xs sz ht al last st).y
  unfold tellG
  split
  · show st.y ≤ st.y + highF xs sz ht st.line
    unfold highF
    omega
  · exact Int.le_refl _
theorem low_y (h : noLow W st = false) : st.y < lowF st.y st.fs ∧ lowF st.y st.fs ≤ 16777216 := by
  unfold noLow at h
  rw [Bool.or_eq_false_iff] at h
  have h1 := of_decide_eq_false h.1
  have h2 : lowF st.y st.fs = 16777217 ∨ st.y < lowF st.y st.fs := by
    unfold lowF
    suffices H : ∀ a : Int, a = 16777217 ∨ st.y < a → st.fs.foldl (lowStep st.y) a = 16777217 ∨ st.y < st.fs.foldl (lowStep st.y) a from H 16777217 (.inl rfl)
    induction st.fs with
    | nil => intro a h; exact h
    | cons f fs ih =>
      intro a h
      refine ih _ ?_
      unfold lowStep
      split
      · rcases h with h | h
        · by_cases h2 : f.y + f.h ≤ 16777217
          · right; omega
          · left; omega
        · right; omega
      · exact h
  omega
theorem StOk.low (hW : 0 ≤ W ∧ W ≤ 16777216) (h : StOk xs st n m) (hn : noLow W st = false) : StOk xs (lowG ht W st) n m := by
  have hy := low_y hn
  have h1 := h.y
  refine StOk.ends hW ⟨h.fs, h.ind, h.lf, h.rt, ?_, h.line, h.late, h.ll, h.lt, h.out⟩
  simp only
  omega
end
end Go.Proofs.YtadlabndbomgmaaDoor
/- The walk of breaker.end on the breaker's state. -/
namespace Go.Proofs.YtadlabndbomgmaaDoor
open Go.ChangeShapes Go.WideShapes Go.ChangeAt Go.RowKit
/-- Lines told: the breaker's own block and its row of lines are written. -/
theorem BrV.o_set {w w' : World} {K : Nat → Prop} {b fp g : Nat} {W sz ht al : Int} {st st' : BG} {Lv Tv Ov Fv Ov' : Value} (h : BrV w K b fp g W sz ht al st Lv Tv Ov Fv) (hb : Blk w' b 81 (brA fp st'.y sz ht al st'.ind st'.left st'.right Lv st'.full Tv Ov')) (hl : LinesAt w' 0 Ov' st'.out)
    (hg : Only (fun i => i = b ∨ Ov.ownBlock = some i) w w') (hn : ∀ k, Ov'.ownBlock = some k → Ov.ownBlock = some k ∨ w.heap.size ≤ k) (e1 : st'.line = st.line) (e2 : st'.late = st.late) (e3 : st'.fs = st.fs) : BrV w' K b fp g W sz ht al st' Lv Tv Ov' Fv := by
  obtain ⟨q, hq1, hq2, hq3⟩ := h.lines
  have hkey : ∀ i, i < w.heap.size → (i = b ∨ Ov.ownBlock = some i) → ∃ t cs, Blk w i t cs ∧ (t = 81 ∨ t = 52) := fun i _ hi => by
    rcases hi with rfl | hi
    · exact ⟨_, _, h.blk, .inl rfl⟩
    · rcases hq2.2 with ⟨h9, _⟩ | ⟨q2, cap, cur, h9, _, hqq, _⟩
      · rw [h9] at hi; cases hi
      · rw [h9] at hi
        have : q2 = i := by injection hi
        subst this
        exact ⟨_, _, hqq, .inr rfl⟩
  have row : ∀ {e : TypeId} {size n : Nat} {v : Value} {xs : List Value}, w.ownsRow 0 e size v n xs → e ≠ 81 → e ≠ 52 → w'.ownsRow 0 e size v n xs := fun ho n1 n2 => by
    refine own_only ho hg fun i hi hci => ?_
    obtain ⟨t, cs, hqq, ht⟩ := hkey i (own_lt ho i hi) hci
    refine own_blk_ne ho hqq ?_ hi
    rcases ht with rfl | rfl
    · exact n1
    · exact n2
  have hfp : ¬ (fp = b ∨ Ov.ownBlock = some fp) := fun hc => by
    obtain ⟨t, cs, hqq, ht⟩ := hkey fp h.flo.lt hc
    rcases ht with rfl | rfl
    · exact (hqq.ne_ h.flo (by decide)) rfl
    · exact (hqq.ne_ h.flo (by decide)) rfl
  refine ⟨hb, by rw [e1]; exact row h.line (by decide) (by decide), by rw [e2]; exact row h.late (by decide) (by decide), hl, blk_only h.flo hg hfp, by rw [e3]; exact row h.fls (by decide) (by decide), h.two, h.kb, h.kf, h.kL, h.kT, ?_, h.kF, fun i hi => Nat.lt_of_lt_of_le (h.kk i hi) hg.size⟩
  intro k hk
  rcases hn k hk with h9 | h9
  · exact h.kO k h9
  · exact fun hK => by have := h.kk k hK; omega
theorem BrV.kept_o {w w' : World} {K : Nat → Prop} {b fp g : Nat} {W sz ht al : Int} {st : BG} {Lv Tv Ov Fv : Value} (h : BrV w K b fp g W sz ht al st Lv Tv Ov Fv) (hg : Only (fun i => i = b ∨ Ov.ownBlock = some i) w w') : Kept K w w' := Kept.of_only hg h.kk fun k hk => by
  rcases hk with rfl | hk
  · exact h.kb
  · exact h.kO k hk
/-- What the items' side of a world holds: items in block g, which is kept. -/
structure ItK (w : World) (K : Nat → Prop) (g : Nat) (xs : List It) : Prop where
  its : ItsR w g xs
  kg : 0 < xs.length → K g
  ok : ∀ k, ItOk (itAt xs k)
theorem ItK.kept {w w' : World} {K : Nat → Prop} {g : Nat} {xs : List It} (h : ItK w K g xs) (k : Kept K w w') : ItK w' K g xs := ⟨⟨h.its.1.kept k h.kg, fun h0 => Nat.lt_of_lt_of_le (h.its.2 h0) k.size⟩, h.kg, h.ok⟩
theorem pts_own {w : World} {g : Nat} {Lv : Value} {ps : List Pt} (h : w.ownsRow 0 96 5 Lv ps.length (ptCells g ps)) : ∃ A c, Lv = .slice A ps.length c ∧ PtsR w g A ps := by
  obtain ⟨A, c, rfl, _, _⟩ := own_reads h
  exact ⟨A, c, rfl, PtsR.own h rfl⟩
theorem tellV_any (xs : List It) (g : Nat) (K : Nat → Prop) (b fp : Nat) (W sz ht al : Int) (st : BG) (Lv Tv Ov Fv : Value) (n m : Nat) (last : Bool) (w : World) (hI : ItK w K g xs) (h : BrV w K b fp g W sz ht al st Lv Tv Ov Fv) (hs : StOk xs st n m) (hn : n ≤ 5000) (hm : m ≤ 50000) (h0 : st.line.any (toldF xs) = true) (hz : 0 ≤ sz ∧ sz ≤ 16777216) (hh : 0 ≤ ht ∧ ht ≤ 16777216) :
    Calls Tryd.prog 51 #[.pointer (some ⟨b, 0, none⟩), .bool last] w fun e w' => e = .returned (.tuple #[]) ∧ ∃ Ov', BrV w' K b fp g W sz ht al (tellG xs sz ht al last st) Lv Tv Ov' Fv ∧ Kept K w w' := by
  obtain ⟨A, c, rfl, hp⟩ := pts_own h.line
  have hlen : 0 < st.line.length := by
    rcases Nat.eq_zero_or_pos st.line.length with h9 | h9
    · rw [List.eq_nil_of_length_eq_zero h9] at h0; cases h0
    · exact h9
  have hll := hs.ll
  have hout := hs.out
  have hy := hs.y
  have hlf := hs.lf
  have hrt := hs.rt
  have hb := h.blk
  refine (tell_any xs g st.line A c b fp 0 st.y sz ht al st.ind st.left st.right st.full last Tv Ov st.out w hI.its hp hlen (by omega) hs.line hI.ok hb hz hh (Nat.zero_le _) h.lines (by omega) (by omega) (by omega) (by omega)).mono ?_
  rintro e w' ⟨rfl, Ov', h1, h2, h3, ⟨h4, h5, h6, h7⟩, h8⟩
  have ho : Only (fun i => i = b ∨ Ov.ownBlock = some i) w w' := ⟨h4, h5, h6, h7, fun k hk hc => h3 k hk (fun e => hc (.inl e)) (fun e => hc (.inr e))⟩
  have e0 : tellG xs sz ht al last st = { st with y := st.y + highF xs sz ht st.line, out := st.out ++ [lnOf xs sz ht al st.y st.left st.right st.line last] } := by unfold tellG; rw [if_pos h0]
  refine ⟨rfl, Ov', ?_, h.kept_o ho⟩
  rw [e0]
  exact h.o_set h1 h2 ho h8 rfl rfl rfl
set_option maxRecDepth 100000 in
set_option maxHeartbeats 4000000 in
theorem endV_any (xs : List It) (g : Nat) (K : Nat → Prop) (b fp : Nat) (W sz ht al : Int) (st : BG) (Lv Tv Ov Fv : Value) (n m : Nat) (last : Bool) (w : World) (hI : ItK w K g xs) (h : BrV w K b fp g W sz ht al st Lv Tv Ov Fv) (hs : StOk xs st n m) (hn : n ≤ 5000) (hm : m ≤ 50000) (hz : 0 ≤ sz ∧ sz ≤ 16777216) (hh : 0 ≤ ht ∧ ht ≤ 16777216) (hW : 0 ≤ W ∧ W ≤ 16777216) :
    Calls Tryd.prog 34 #[.pointer (some ⟨b, 0, none⟩), .bool last] w fun e w' => e = .returned (.tuple #[]) ∧ ∃ st' Ov' Fv', EndR xs sz ht al W last st st' ∧ StOk xs st' n (m + 1) ∧ BrV w' K b fp g W sz ht al st' (.slice none 0 0) (.slice none 0 0) Ov' Fv' ∧ Kept K w w' := by
  obtain ⟨A, c, rfl, hp⟩ := pts_own h.line
  have hll := hs.ll
  have HC := hide (contains_told xs g st.line A c w hI.its hp (by omega) hs.line)
  have HT := hide (fun (w2 : World) (h0 : st.line.any (toldF xs) = true) (i2 : ItK w2 K g xs) (b2 : BrV w2 K b fp g W sz ht al st (.slice A st.line.length c) Tv Ov Fv) => tellV_any xs g K b fp W sz ht al st _ Tv Ov Fv n m last w2 i2 b2 hs hn hm h0 hz hh)
  have HST := hide (hs.tell (sz := sz) (al := al) hI.ok hh last)
  have HB := hide h
  have HI := hide hI
  have HN := hide (fun (h0 : ¬ st.line.any (toldF xs) = true) => (show tellG xs sz ht al last st = st from by unfold tellG; rw [if_neg h0]))
  have HBG := hide (fun (w2 : World) (Ov2 : Value) (i2 : ItK w2 K g xs) (b2 : BrV w2 K b fp g W sz ht al { tellG xs sz ht al last st with ind := 0 } (.slice A st.line.length c) Tv Ov2 Fv) => beginV_any xs g K b fp W sz ht al _ _ Tv Ov2 Fv w2 i2.its i2.kg i2.ok b2 HST.out.fs hW HST.out.ind (fun p hp => (HST.out.late p hp).1) (by have := HST.out.lt; omega))
  have HEND := hide (fun (s' : BG) (e : EndR xs sz ht al W last st s') (hf : FsOk s'.fs) => hs.end_ hI.ok hh hW e hf)
  have c8 : w.cell? ⟨b, 8, none⟩ = some (.slice A st.line.length c) := h.blk.cell 8
  clear hI h hs hp hll
  go_enter Tryd.func34, Tryd.ntmps34
  go_wp2_with fail
  refine HC.out.mono ?_
  rintro e w1 ⟨rfl, hb1⟩
  have HB1 := hide (HB.out.below hb1)
  have HK1 := hide (Kept.of_below hb1 HB.out.kk)
  have HI1 := hide (HI.out.kept HK1.out)
  clear HC hb1 c8 HB HI
  have key : ∀ (w2 : World) (Ov2 : Value), ItK w2 K g xs → Kept K w w2 → BrV w2 K b fp g W sz ht al (tellG xs sz ht al last st) (.slice A st.line.length c) Tv Ov2 Fv →
      ∃ w3, w3 = w2.setCell ⟨b, 5, none⟩ (.int .i64 0) ∧ w2.cell? ⟨b, 5, none⟩ = some (.int .i64 (tellG xs sz ht al last st).ind) ∧ w2.frozen? ⟨b, 5, none⟩ = false ∧ Hid (Calls Tryd.prog 30 #[.pointer (some ⟨b, 0, none⟩)] w3 fun e w' => e = .returned (.tuple #[]) ∧ ∃ st' Ov' Fv', EndR xs sz ht al W last st st' ∧ StOk xs st' n (m + 1) ∧ BrV w' K b fp g W sz ht al st' (.slice none 0 0) (.slice none 0 0) Ov' Fv' ∧ Kept K w w') := fun w2 Ov2 i2 k2 b2 => by
    have hg := only_setCell (p := ⟨b, 5, none⟩) (World.grownBy.refl w2 (some b)) (.inl rfl) (.int .i64 0)
    have hk := b2.kept_b hg
    refine ⟨_, rfl, b2.blk.cell 5, b2.blk.frozen 5, (HBG.out _ Ov2 (i2.kept hk) (b2.b_set (st' := { tellG xs sz ht al last st with ind := 0 }) (b2.blk.set_ 5 (.int .i64 0)) hg (.inl ⟨rfl, rfl⟩) (.inl ⟨rfl, rfl⟩) rfl rfl)).mono ?_⟩
    rintro e w' ⟨rfl, st', Fv', e1, e2, e3, e4⟩
    exact ⟨rfl, st', Ov2, Fv', e1, HEND.out st' e1 e2, e3, k2.trans (hk.trans e4)⟩
  have KEY := hide key
  clear key HBG HEND HST
  cases h0 : st.line.any (toldF xs)
  · have hne := HN.out (by rw [h0]; decide)
    obtain ⟨w3, e3, q5, z5, hc⟩ := KEY.out w1 Ov HI1.out HK1.out (by rw [hne]; exact HB1.out)
    have HE3 := hide e3
    clear KEY HT HN hne e3 HB1 HI1 HK1
    go_wp2_with fail
    rw [← HE3.out]
    refine hc.out.mono ?_
    rintro e w5 ⟨rfl, h5⟩
    have H5 := hide h5
    clear h5 hc
    go_wp2_with fail
    go_end0
    exact ⟨rfl, H5.out⟩
  · have HTT := hide (HT.out w1 h0 HI1.out HB1.out)
    clear HT HN
    go_wp2_with fail
    refine HTT.out.mono ?_
    rintro e w2 ⟨rfl, Ov2, hb2, hk2⟩
    obtain ⟨w3, e3, q5, z5, hc⟩ := KEY.out w2 Ov2 (HI1.out.kept hk2) (HK1.out.trans hk2) hb2
    have HE3 := hide e3
    clear KEY HTT e3 HB1 HI1 HK1 hb2 hk2
    go_wp2_with fail
    rw [← HE3.out]
    refine hc.out.mono ?_
    rintro e w5 ⟨rfl, h5⟩
    have H5 := hide h5
    clear h5 hc
    go_wp2_with fail
    go_end0
    exact ⟨rfl, H5.out⟩
end Go.Proofs.YtadlabndbomgmaaDoor
