/- Parts of the proof, joined: Pieces, TakeK, TextPlain, FitPlain, LinesPlain, SizesPlain, BrkPlain, LinesMem, BrkOne, BrkGen, OpenL, PartsPlain, Tame, WhitePlain, White, WhiteTwicePlain, RunesCut, BrkFit, BrkTold, BrkAll, BrkSmall, WidthS, PartA, PartB. -/
import Derived.BigQuiet
import Derived.Handy
import Derived.Lib.MapLaws
import Derived.Lib.ValidLaws
import Derived.Lib.TrimUEq
import Derived.IntWalk
import Derived.Deep.MidRow
import Derived.Lib.IndexBytes
import Derived.Lib.IndexMore
import Derived.Lib.Strings
import Derived.Lib.OthersKept
import Derived.Deep.QuietTactic
import Derived.RegionTactic
import Derived.Deep.RegionHeld3
import Derived.Test.YtadlabndbomgmaaJBreaks
import Derived.Test.YtadlabndbomgmaaJ1
set_option linter.unusedVariables false
set_option linter.unusedSimpArgs false
/- Walks: breaks.Pieces; the closed fact broken. -/
namespace Go.Proofs.Ytadlabndbomgmaa
open Go.ChangeShapes Go.WideShapes Go.ChangeAt Go.RowKit
theorem brkCell {w : World} {B c : Nat} {A : Option Addr} {L : List (Nat × Bool)} (h : w.ownsRow B 72 2 (.slice A L.length c) L.length (brkCells L)) {k : Nat} (hk : k < L.length) :
    ∃ g, A = some ⟨g, 0, none⟩ ∧ B ≤ g ∧ g < w.heap.size ∧ w.cell? ⟨g, k * 2, none⟩ = some (.int .i64 L[k].1) ∧ w.cell? ⟨g, k * 2 + 1, none⟩ = some (.bool L[k].2) := by
  obtain ⟨g, cap, hv, hg, hlt⟩ := h.form (by omega)
  injection hv with hA _ _
  subst hA
  obtain ⟨h1, h2⟩ := brkCells_at L k hk
  exact ⟨g, rfl, hg, hlt, by rw [h.cellAt _ (by omega)]; exact h1, by rw [h.cellAt _ (by omega)]; exact h2⟩
theorem str_info : (Try.prog.info? 9).map (fun i => (i.zero, i.size, i.bytes)) = some (some (.string ByteArray.empty), 1, 16) := by kernel_rfl
/-- The pieces of the first k ends. -/
def pcsTo (s : ByteArray) (l : List Nat) (k : Nat) : List ByteArray := pcs s 0 (l.take k)
def lastTo (l : List Nat) (k : Nat) : Nat := lastOf 0 (l.take k)
theorem pcsTo_succ (s : ByteArray) (l : List Nat) (k : Nat) (h : k < l.length) : pcsTo s l (k + 1) = pcsTo s l k ++ (if lastTo l k < l[k] then [s.extract (lastTo l k) l[k]] else []) := by
  unfold pcsTo lastTo
  rw [List.take_succ_eq_append_getElem h, pcs_append]
  congr 1
theorem lastTo_succ (l : List Nat) (k : Nat) (h : k < l.length) : lastTo l (k + 1) = if lastTo l k < l[k] then l[k] else lastTo l k := by
  unfold lastTo
  rw [List.take_succ_eq_append_getElem h, lastOf_append]
  simp only [lastOf]
theorem pcs_len (s : ByteArray) : ∀ (l : List Nat) (a : Nat), (pcs s a l).length ≤ l.length
  | [], _ => Nat.le_refl _
  | b :: r, a => by
    simp only [pcs]
    split
    · have := pcs_len s r b; simp; omega
    · have := pcs_len s r a; simp; omega
set_option maxRecDepth 100000 in
set_option maxHeartbeats 2000000 in
theorem Pieces_any (s : ByteArray) (mode : Int) (w : World) (hs : s.size ≤ 400) :
    Calls Try.prog 47 #[.string s, .int .i64 mode] w fun e w' => ∃ v, e = .returned v ∧ w'.ownsRow w.heap.size 9 1 v (piecesF s (modeW mode) (modeK mode)).length ((piecesF s (modeW mode) (modeK mode)).map Value.string) ∧ Below w.heap.size w w' := by
  obtain ⟨i0, hi0, hz0, hz1, hz2⟩ := info_parts lbreak_info
  have HI := hide (⟨hi0, hz0, hz1, hz2⟩ : Try.prog.info? 72 = some i0 ∧ i0.zero = some (.agg #[.int .i64 0, .bool false]) ∧ i0.size = 2 ∧ i0.bytes = 16)
  clear hi0 hz0 hz1 hz2
  obtain ⟨j0, hi0, hz0, hz1, hz2⟩ := info_parts str_info
  have HJ := hide (⟨hi0, hz0, hz1, hz2⟩ : Try.prog.info? 9 = some j0 ∧ j0.zero = some (.string ByteArray.empty) ∧ j0.size = 1 ∧ j0.bytes = 16)
  clear hi0 hz0 hz1 hz2
  have hl0 := brk_len s (modeW mode) (modeK mode) (s.size + 1) 0 0 (Nat.zero_le _)
  have hl1 : (brkAll s (modeW mode) (modeK mode)).length ≤ 401 := by unfold brkAll; omega
  have HE := hide (ends_le s (modeW mode) (modeK mode))
  have HF := hide (show piecesF s (modeW mode) (modeK mode) = pcsTo s (brkEnds s (modeW mode) (modeK mode)) (brkEnds s (modeW mode) (modeK mode)).length from by unfold piecesF pcsTo; rw [List.take_length])
  have HB := hide (show brkEnds s (modeW mode) (modeK mode) = ((brkAll s (modeW mode) (modeK mode)) ++ [(s.size, false)]).map (·.1) from by simp [brkEnds])
  clear hl0
  go_enter Try.func47, Try.ntmps47
  go_wp2_with fail
  refine (All_any s mode w hs).mono ?_
  rintro e w1 ⟨v, rfl, hown, hb1⟩
  have HO := hide hown
  have hs1 := hb1.size
  clear hown
  generalize brkAll s (modeW mode) (modeK mode) = L at *
  generalize brkEnds s (modeW mode) (modeK mode) = E at *
  generalize hPf : piecesF s (modeW mode) (modeK mode) = Pf at *
  have TP := hide hPf
  clear hPf
  go_wp2_with (first
    | (at_builtin; refine wpList_app rfl (.tmp 11) (.tmp 15) _ rfl w.heap.size 72 i0 _ 2 16 Try.underlying69 HI.out.1 HI.out.2.1 HI.out.2.2.1 HI.out.2.2.2 rfl (by omega) _ _ _ rfl (HO.out.alloc _) (w1.heap.size + 1) _ 1 1 _ rfl (Reads.lit w1 _ _ 2 1 rfl) (by intro u hu; simp at hu; rcases hu with rfl | rfl <;> rfl) (by simp only [maxLen]; omega) (by omega) w ((hb1).alloc (by omega) _) (Nat.le_refl _) ?_; intro v2 w2 hown3 hb3; obtain ⟨X, cx, hv2, hcx, _⟩ := own_reads hown3; have HO3 := hide hown3; clear hown3; subst hv2) | fail)
  obtain ⟨L2, hL2⟩ : ∃ L2, L2 = L ++ [(s.size, false)] := ⟨_, rfl⟩
  have hl2 : L2.length = L.length + 1 := by rw [hL2]; simp
  have hO4 := HO3.out
  rw [← brkCells_snoc L (s.size, false), ← hL2, ← hl2] at hO4
  have HO4 := hide hO4
  have hEB := HB.out
  rw [← hL2] at hEB
  have HEB := hide hEB
  rw [← hl2] at hcx
  clear hO4 HO3 HB hEB HO hs1
  rw [show ((L.length : Int) + 1) = ((L2.length : Nat) : Int) by omega, ← hl2]
  have hl3 : L2.length ≤ 402 := by omega
  clear hl2 hL2
  have hsz2 := hb3.size
  go_loopw [5, 6, 18] (fun v fr i wr => ∃ (k : Nat), k ≤ L2.length ∧ i = .int .i64 k ∧ fr = .int .i64 (lastTo E k) ∧ wr.ownsRow w2.heap.size 9 1 v (pcsTo s E k).length ((pcsTo s E k).map Value.string) ∧ Below w2.heap.size w2 wr) (fun _ _ i _ => L2.length - (intOf i).toNat)
  case atStart => exact ⟨0, Nat.zero_le _, rfl, rfl, own_none _ _ _ _, Below.refl _ _⟩
  case round =>
    obtain ⟨k, hk, rfl, rfl, hown, hbel⟩ := hrel
    have HOr := hide hown
    have hszr := hbel.size
    have helen : E.length = L2.length := by rw [HEB.out]; simp
    clear hown
    by_cases hlt : k < L2.length
    · obtain ⟨g, rfl, hg1, hg2, c0, c1⟩ := brkCell HO4.out hlt
      have d0 := (hbel.cell (p := ⟨g, k * 2, none⟩) hg2).trans c0
      have d1 := (hbel.cell (p := ⟨g, k * 2 + 1, none⟩) hg2).trans c1
      have hek : E[k]'(by omega) = L2[k].1 := by simp [HEB.out]
      have hes : L2[k].1 ≤ s.size := by rw [← hek]; exact HE.out _ (List.getElem_mem _)
      have P1 := hide (pcsTo_succ s E k (by omega))
      have P2 := hide (lastTo_succ E k (by omega))
      have hpl : (pcsTo s E k).length ≤ 402 := by have := pcs_len s (E.take k) 0; unfold pcsTo; simp only [List.length_take] at this; omega
      rw [hek] at P1 P2
      generalize L2[k] = bk at *
      obtain ⟨at_, mu⟩ := bk
      dsimp only at d0 d1 P1 P2 hes
      generalize lastTo E k = fr at *
      generalize pcsTo s E k = Pk at *
      clear c0 c1 hek helen
      by_cases hc : fr < at_
      · rw [if_pos hc] at P1 P2
        have hrd := Reads.lit1 (wr.alloc (.cells #[.int .i64 at_, .bool mu] 72)) 9 (.string (s.extract fr at_))
        rw [show (wr.alloc (.cells #[.int .i64 at_, .bool mu] 72)).heap.size = wr.heap.size + 1 by simp] at hrd
        have HRD := hide hrd
        clear hrd
        have HOA := hide ((HOr.out.alloc (.cells #[.int .i64 at_, .bool mu] 72)).alloc (.cells #[.string (s.extract fr at_)] 9))
        have HBX := hide ((Blk.new wr 72 #[.int .i64 at_, .bool mu]).alloc (.cells #[.string (s.extract fr at_)] 9))
        have HNE := hide (Ne.symm (own_blk_ne HOA.out HBX.out (by decide)))
        have HBL := hide ((hbel.alloc hszr (.cells #[.int .i64 at_, .bool mu] 72)).alloc (show w2.heap.size ≤ (wr.alloc (.cells #[.int .i64 at_, .bool mu] 72)).heap.size by simp; omega) (.cells #[.string (s.extract fr at_)] 9))
        have HMX := hide (show Pk.length + 1 ≤ maxLen by simp only [maxLen]; omega)
        have HMY := hide (show (Pk.length + 1) * 16 ≤ 140737488355328 by omega)
        have HM1 := hide (show ∀ u ∈ ([.string (s.extract fr at_)] : List Value), u.oneCell' = true by intro u hu; simp at hu; subst hu; rfl)
        go_wp2_with (first
          | (at_builtin; refine wpList_append_any _ rfl (.tmp 26) (.tmp 32) _ rfl w2.heap.size 9 j0 _ 1 16 Try.underlying67 HJ.out.1 HJ.out.2.1 HJ.out.2.2.1 HJ.out.2.2.2 rfl Nat.one_pos _ Pk.length _ rfl HOA.out (wr.heap.size + 1 + 1) _ 1 1 _ rfl HRD.out HM1.out HMX.out HMY.out HBL.out.size ?_; intro v4 w4 hown4 hg4 hat4; have q0 : w4.cell? ⟨wr.heap.size, 0, none⟩ = some (.int .i64 at_) := (HBX.out.grown hg4 HNE.out).cell 0; have hb4 := own_below HOA.out HBL.out (Nat.le_refl _) (Nat.le_refl _) hg4) | fail)
        go_roundw
        case rel => exact ⟨k + 1, by omega, by go_num, by rw [P2.out], by rw [P1.out, List.length_append, List.map_append]; exact hown4, hb4⟩
        case measure => simp [intOf]; omega
      · rw [if_neg hc] at P1 P2
        go_wp2_with fail
        go_roundw
        case rel => exact ⟨k + 1, by omega, by go_num, by rw [P2.out], by rw [P1.out, List.append_nil]; exact HOr.out.alloc _, hbel.alloc hszr _⟩
        case measure => simp [intOf]; omega
    · obtain rfl : k = L2.length := by omega
      go_wp2_with fail
      go_ret
      rw [← helen] at HOr
      exact ⟨_, rfl, by rw [TP.out, HF.out]; exact own_mono HOr.out hsz2, below_then hb3 (Nat.le_refl _) hbel⟩
end Go.Proofs.Ytadlabndbomgmaa
/- Operations of a region may be taken first although a later one (number k) writes what they read, where k waits for them. No program in sight. -/
namespace Go.Proofs.Ytadlabndbomgmaa
open Go.RowKit
section
variable {P : Program} {ops : Array Oper} {Q : Exit → Act → World → Prop} {md : Region.Mode} {S : World → Prop} {k : Nat}
/-- Whatever order is picked, and S holds behind every operation as long as number k has not come up. -/
def wpAnyK (P : Program) (md : Region.Mode) (ops : Array Oper) (Q : Exit → Act → World → Prop) (S : World → Prop) (k : Nat) : Nat → Array Bool → Act → World → Prop
  | 0, l, a, w => Region.ready md ops l = [] ∧ Q .normal a w
  | f + 1, l, a, w => (Region.ready md ops l = [] → Q .normal a w) ∧
      ∀ i ∈ Region.ready md ops l, wpOp P ops Q i (fun a' w' => ((l.setIfInBounds i true).getD k true = false → S w') ∧ wpAnyK P md ops Q S k f (l.setIfInBounds i true) a' w') a w
theorem wpAny_of_K : ∀ (f : Nat) (l : Array Bool) (a : Act) (w : World), wpAnyK P md ops Q S k f l a w → wpAny P md ops Q f l a w
  | 0, _, _, _, h => h
  | f + 1, _, _, _, h => ⟨h.1, fun i hi => wpOp_mono (fun a' w' h' => wpAny_of_K f _ a' w' h'.2) (h.2 i hi)⟩
theorem wp_region_K {id : Nat} {a : Act} {w : World} (hm : P.follows .mixedOrders = true) (hS : S w.drew)
    (h : S w.drew → wpAnyK P .any ops Q S k ops.size (Array.replicate ops.size false) a w.drew) : (Code.region id ops true).wp P Q a w :=
  wp_region_any hm (wpAny_of_K _ _ _ _ (h hS))
theorem wp_region_KL {id : Nat} {a : Act} {w : World} (n : Nat) (l : Array Bool) (hn : ops.size = n) (hl : Array.replicate n false = l) (hm : P.follows .mixedOrders = true) (hS : S w.drew)
    (h : S w.drew → wpAnyK P .any ops Q S k n l a w.drew) : (Code.region id ops true).wp P Q a w := by
  subst hn hl
  exact wp_region_K hm hS h
/-- D: operations that have not come up and wait for i. -/
def Waits (md : Region.Mode) (ops : Array Oper) (l : Array Bool) (i : Nat) (D : List Nat) : Prop :=
  ∀ d ∈ D, l.getD d true = false ∧ ∃ o e, ops[d]? = some o ∧ e ∈ o.after ∧ Region.binds md e = true ∧ (e.on = i ∨ e.on ∈ D)
def waitsB (md : Region.Mode) (ops : Array Oper) (l : Array Bool) (i : Nat) (D : List Nat) : Bool :=
  D.all fun d => !(l.getD d true) && (match ops[d]? with | some o => o.after.any (fun e => Region.binds md e && (e.on == i || D.contains e.on)) | none => false)
theorem waits_of {l : Array Bool} {i : Nat} {D : List Nat} (h : waitsB md ops l i D = true) : Waits md ops l i D := by
  intro d hd
  have h1 := List.all_eq_true.1 h d hd
  rw [Bool.and_eq_true] at h1
  obtain ⟨h2, h3⟩ := h1
  refine ⟨by simpa using h2, ?_⟩
  cases ho : ops[d]? with
  | none => rw [ho] at h3; cases h3
  | some o =>
    rw [ho] at h3
    simp only at h3
    obtain ⟨e, he, h4⟩ := Array.any_eq_true'.1 h3
    rw [Bool.and_eq_true, Bool.or_eq_true] at h4
    exact ⟨o, e, rfl, he, h4.1, by simpa using h4.2⟩
theorem unready {l : Array Bool} {e j : Nat} (h0 : l.getD e true = false) (h1 : l.getD e false = true) : j ≠ j := by
  rcases Nat.lt_or_ge e l.size with h' | h'
  · simp [h'] at h0 h1; rw [h0] at h1; cases h1
  · simp [Array.getElem?_eq_none h'] at h1
theorem waits_not {l : Array Bool} {i : Nat} {D : List Nat} (h : Waits md ops l i D) (hi : l.getD i true = false) {d : Nat} (hd : d ∈ D) : ¬ d ∈ Region.ready md ops l := by
  intro hr
  obtain ⟨_, o, ho, hall⟩ := mem_ready.1 hr
  obtain ⟨_, o', e, ho', he, hb, hon⟩ := h d hd
  rw [ho] at ho'
  injection ho' with ho'
  subst ho'
  have h1 := hall e he hb
  rcases hon with hon | hon
  · rw [hon] at h1; exact unready hi h1 (j := 0) rfl
  · exact unready (h _ hon).1 h1 (j := 0) rfl
theorem pays_firstK {i : Nat} {oi : Oper} {v : Value} {D : List Nat} (hkD : k ∈ D) (hi : ops[i]? = some oi) (hsel : ∀ (j : Nat) (o : Oper) cs b, ops[j]? = some o → o.op ≠ .select cs b) (hQ : ∀ c a w, Q (.panic c) (a.put oi.dst v) w → Q (.panic c) a w) :
    ∀ (fuel : Nat) (l : Array Bool) (a : Act) (w : World), (∀ j oj, ops[j]? = some oj → j ≠ i → l.getD j true = false → (∀ e ∈ oj.after, Region.binds md e = true → e.on ≠ i) → oi.apart ops oj = true) →
      i ∈ Region.ready md ops l → Waits md ops l i D → Pays P ops S oi v a → S w → wpAnyK P md ops Q S k fuel (l.setIfInBounds i true) (a.put oi.dst v) w → wpAnyK P md ops Q S k (fuel + 1) l a w := by
  intro fuel
  induction fuel with
  | zero =>
    intro l a w _ hr _ hy hS H
    refine ⟨fun h => absurd hr (by rw [h]; exact List.not_mem_nil), fun j hj => ?_⟩
    by_cases e : j = i
    · subst e; exact hy.wpOp hi hS ⟨fun _ => hS, H⟩
    · have := ready_mono hj e
      rw [H.1] at this
      exact absurd this List.not_mem_nil
  | succ fuel ih =>
    intro l a w hfree hr hD hy hS H
    refine ⟨fun h => absurd hr (by rw [h]; exact List.not_mem_nil), fun j hj => ?_⟩
    by_cases e : j = i
    · subst e; exact hy.wpOp hi hS ⟨fun _ => hS, H⟩
    · obtain ⟨hun, oj, hoj, hall⟩ := mem_ready.1 hj
      have h0 := (mem_ready.1 hr).1
      have hnot : ∀ e ∈ oj.after, Region.binds md e = true → e.on ≠ i := fun e he hb heq => by
        have h1 := hall e he hb
        rw [heq] at h1
        exact unready h0 h1 (j := 0) rfl
      have hjD : ∀ d ∈ D, j ≠ d := fun d hd he => waits_not hD h0 hd (by rw [← he]; exact hj)
      have hik : i ≠ k := fun he => waits_not hD h0 hkD (by rw [← he]; exact hr)
      have hD' : Waits md ops (l.setIfInBounds j true) i D := fun d hd => ⟨by rw [getD_set_ne true (hjD d hd)]; exact (hD d hd).1, (hD d hd).2⟩
      have hkf : ((l.setIfInBounds i true).setIfInBounds j true).getD k true = false := by
        rw [getD_set_ne true (hjD k hkD), getD_set_ne true hik]; exact (hD k hkD).1
      refine wpOp_mono (fun a' w' h3 => ?_) (wpOp_before hoj (hfree j oj hoj e hun hnot) (fun cs b => hsel i oi cs b hi) (fun cs b => hsel j oj cs b hoj) hQ hy (H.2 j (ready_mono hj e)))
      have hS' := h3.2.1 hkf
      refine ⟨fun _ => hS', ih (l.setIfInBounds j true) a' w' (fun m om hm hmi hu hno => hfree m om hm hmi (unlisted_set hu) hno) (ready_mono hr (Ne.symm e)) hD' h3.1 hS' ?_⟩
      rw [Array.setIfInBounds_comm _ _ e]
      exact h3.2.2
/-- A value that an operation yields where S holds. -/
theorem pays_plain {oi : Oper} {v : Value} {a : Act} (hw : Region.wanted oi (yielded ops a.tmps) = true) (h : ∀ W, S W → (execOp a.eval oi).run P W = .ok (.value v) W) : Pays P ops S oi v a := ⟨hw, fun W hW => .inl (h W hW)⟩
theorem pays_yields {oi : Oper} {v : Value} {a : Act} (hw : Region.wanted oi (yielded ops a.tmps) = true) (hy : YieldsIf P ops S oi v a) : Pays P ops S oi v a :=
  ⟨hw, fun W hW => .inl (hy.elim (fun h => h.2 W hW) (fun h => by rw [hw] at h; cases h.1))⟩
theorem takeK {i : Nat} {oi : Oper} {v : Value} {fuel : Nat} {l : Array Bool} {a : Act} {w : World} (D : List Nat) (d : Option Tmp) (hi : ops[i]? = some oi) (hd : oi.dst = d) (hkD : D.contains k = true)
    (hs : Region.noSelect ops = true) (hf : Region.free md ops l i = true) (hr : (Region.ready md ops l).contains i = true) (hD : waitsB md ops l i D = true)
    (hQ : ∀ c a w, Q (.panic c) (a.put oi.dst v) w → Q (.panic c) a w) (hw : Region.wanted oi (yielded ops a.tmps) = true) (hy : YieldsIf P ops S oi v a) (hS : S w)
    (h : wpAnyK P md ops Q S k fuel (l.setIfInBounds i true) (a.put d v) w) : wpAnyK P md ops Q S k (fuel + 1) l a w := by
  subst hd
  exact pays_firstK (by simpa using hkD) hi (Region.noSelect_spec hs) hQ fuel l a w (Region.free_spec hi hf) (by simpa using hr) (waits_of hD) (pays_yields hw hy) hS h
theorem callK {i : Nat} {oi : Oper} {v : Value} {fuel : Nat} {l : Array Bool} {a : Act} {w : World} (D : List Nat) (d : Option Tmp) (hi : ops[i]? = some oi) (hd : oi.dst = d) (hkD : D.contains k = true)
    (hs : Region.noSelect ops = true) (hf : Region.free md ops l i = true) (hr : (Region.ready md ops l).contains i = true) (hD : waitsB md ops l i D = true)
    (hQ : ∀ c a w, Q (.panic c) (a.put oi.dst v) w → Q (.panic c) a w) (hw : Region.wanted oi (yielded ops a.tmps) = true) (f : FuncId) (args : Array Value) (he : ∀ W, S W → (execOp a.eval oi).run P W = .ok (.enter f args) W)
    (hc : ∀ W, S W → Calls P f args W fun e w' => e = .returned v ∧ W = w') (hS : S w)
    (h : wpAnyK P md ops Q S k fuel (l.setIfInBounds i true) (a.put d v) w) : wpAnyK P md ops Q S k (fuel + 1) l a w := by
  subst hd
  exact pays_firstK (by simpa using hkD) hi (Region.noSelect_spec hs) hQ fuel l a w (Region.free_spec hi hf) (by simpa using hr) (waits_of hD) ⟨hw, fun W hW => .inr ⟨f, args, he W hW, hc W hW⟩⟩ hS h
/-- An operation that yields its value in whatever world waits for nothing. -/
theorem pays_anyK {i : Nat} {oi : Oper} {v : Value} (hik : i ≠ k) (hi : ops[i]? = some oi) (hsel : ∀ (j : Nat) (o : Oper) cs b, ops[j]? = some o → o.op ≠ .select cs b) (hQ : ∀ c a w, Q (.panic c) (a.put oi.dst v) w → Q (.panic c) a w) :
    ∀ (fuel : Nat) (l : Array Bool) (a : Act) (w : World), (∀ j oj, ops[j]? = some oj → j ≠ i → l.getD j true = false → (∀ e ∈ oj.after, Region.binds md e = true → e.on ≠ i) → oi.apart ops oj = true) →
      i ∈ Region.ready md ops l → Pays P ops (fun _ => True) oi v a → (l.getD k true = false → S w) → wpAnyK P md ops Q S k fuel (l.setIfInBounds i true) (a.put oi.dst v) w → wpAnyK P md ops Q S k (fuel + 1) l a w := by
  intro fuel
  induction fuel with
  | zero =>
    intro l a w _ hr hy hS H
    refine ⟨fun h => absurd hr (by rw [h]; exact List.not_mem_nil), fun j hj => ?_⟩
    by_cases e : j = i
    · subst e; exact hy.wpOp hi trivial ⟨fun h => hS (unlisted_set h), H⟩
    · have := ready_mono hj e
      rw [H.1] at this
      exact absurd this List.not_mem_nil
  | succ fuel ih =>
    intro l a w hfree hr hy hS H
    refine ⟨fun h => absurd hr (by rw [h]; exact List.not_mem_nil), fun j hj => ?_⟩
    by_cases e : j = i
    · subst e; exact hy.wpOp hi trivial ⟨fun h => hS (unlisted_set h), H⟩
    · obtain ⟨hun, oj, hoj, hall⟩ := mem_ready.1 hj
      have h0 := (mem_ready.1 hr).1
      have hnot : ∀ e ∈ oj.after, Region.binds md e = true → e.on ≠ i := fun e he hb heq => by
        have h1 := hall e he hb
        rw [heq] at h1
        exact unready h0 h1 (j := 0) rfl
      refine wpOp_mono (fun a' w' h3 => ?_) (wpOp_before hoj (hfree j oj hoj e hun hnot) (fun cs b => hsel i oi cs b hi) (fun cs b => hsel j oj cs b hoj) hQ hy (H.2 j (ready_mono hj e)))
      have hS' : (l.setIfInBounds j true).getD k true = false → S w' := fun h => h3.2.1 (by rw [Array.setIfInBounds_comm _ _ (Ne.symm e), getD_set_ne true hik]; exact h)
      refine ⟨hS', ih (l.setIfInBounds j true) a' w' (fun m om hm hmi hu hno => hfree m om hm hmi (unlisted_set hu) hno) (ready_mono hr (Ne.symm e)) h3.1 hS' ?_⟩
      rw [Array.setIfInBounds_comm _ _ e]
      exact h3.2.2
theorem takeAnyK {i : Nat} {oi : Oper} {v : Value} {fuel : Nat} {l : Array Bool} {a : Act} {w : World} (d : Option Tmp) (hik : (i == k) = false) (hi : ops[i]? = some oi) (hd : oi.dst = d)
    (hs : Region.noSelect ops = true) (hf : Region.free md ops l i = true) (hr : (Region.ready md ops l).contains i = true)
    (hQ : ∀ c a w, Q (.panic c) (a.put oi.dst v) w → Q (.panic c) a w) (hw : Region.wanted oi (yielded ops a.tmps) = true) (hy : YieldsIf P ops (fun _ => True) oi v a) (hS : S w)
    (h : wpAnyK P md ops Q S k fuel (l.setIfInBounds i true) (a.put d v) w) : wpAnyK P md ops Q S k (fuel + 1) l a w := by
  subst hd
  exact pays_anyK (by simpa using hik) hi (Region.noSelect_spec hs) hQ fuel l a w (Region.free_spec hi hf) (by simpa using hr) (pays_yields hw hy) (fun _ => hS) h
theorem callAnyK {i : Nat} {oi : Oper} {v : Value} {fuel : Nat} {l : Array Bool} {a : Act} {w : World} (d : Option Tmp) (hik : (i == k) = false) (hi : ops[i]? = some oi) (hd : oi.dst = d)
    (hs : Region.noSelect ops = true) (hf : Region.free md ops l i = true) (hr : (Region.ready md ops l).contains i = true)
    (hQ : ∀ c a w, Q (.panic c) (a.put oi.dst v) w → Q (.panic c) a w) (hw : Region.wanted oi (yielded ops a.tmps) = true) (f : FuncId) (args : Array Value) (he : ∀ W, True → (execOp a.eval oi).run P W = .ok (.enter f args) W)
    (hc : ∀ W, True → Calls P f args W fun e w' => e = .returned v ∧ W = w') (hS : S w)
    (h : wpAnyK P md ops Q S k fuel (l.setIfInBounds i true) (a.put d v) w) : wpAnyK P md ops Q S k (fuel + 1) l a w := by
  subst hd
  exact pays_anyK (by simpa using hik) hi (Region.noSelect_spec hs) hQ fuel l a w (Region.free_spec hi hf) (by simpa using hr) ⟨hw, fun W hW => .inr ⟨f, args, he W hW, hc W hW⟩⟩ (fun _ => hS) h
theorem K_listed : ∀ (f : Nat) (l : Array Bool) (a : Act) (w : World), l.getD k true = true → wpAnyH P md ops Q (fun _ => True) f l a w → wpAnyK P md ops Q S k f l a w
  | 0, _, _, _, _, h => h
  | f + 1, l, _, _, hk, h => ⟨h.1, fun i hi => wpOp_mono (fun a' w' h' => by
      have hk' : (l.setIfInBounds i true).getD k true = true := by
        by_cases e : i = k
        · subst e
          rcases Nat.lt_or_ge i l.size with h9 | h9
          · simp [h9]
          · simp
        · rw [getD_set_ne true e]; exact hk
      exact ⟨(fun hc => by rw [hk'] at hc; cases hc), K_listed f _ a' w' hk' h'.2⟩) (h.2 i hi)⟩
/-- When k alone may come up next S is no longer asked for. -/
theorem exitK {fuel : Nat} {l : Array Bool} {a : Act} {w : World} (hr : Region.ready md ops l = [k]) (h : wpAnyH P md ops Q (fun _ => True) fuel l a w) : wpAnyK P md ops Q S k fuel l a w := by
  cases fuel with
  | zero => exact h
  | succ f =>
    refine ⟨h.1, fun i hi => ?_⟩
    have hik : i = k := by rw [hr] at hi; simpa using hi
    subst hik
    refine wpOp_mono (fun a' w' h' => ?_) (h.2 i hi)
    have hk' : (l.setIfInBounds i true).getD i true = true := by
      rcases Nat.lt_or_ge i l.size with h9 | h9
      · simp [h9]
      · simp
    exact ⟨(fun hc => by rw [hk'] at hc; cases hc), K_listed f _ a' w' hk' h'.2⟩
/-- One operation alone may come up next; behind it S is to be shown anew. -/
theorem oneK {fuel : Nat} {l : Array Bool} {a : Act} {w : World} {j : Nat} {o : Oper} (hr : Region.ready md ops l = [j]) (ho : ops[j]? = some o)
    (h : ∀ K' : Act → World → Prop, Shut (∀ a w, S w → wpAnyK P md ops Q S k fuel (l.setIfInBounds j true) a w → K' a w) → if Region.wanted o (yielded ops a.tmps) = true then Oper.wp P o a w K' Q else K' (a.put o.dst undef) w) :
    wpAnyK P md ops Q S k (fuel + 1) l a w :=
  ⟨(fun h0 => by rw [hr] at h0; cases h0), fun i hi => by
    have hij : i = j := by rw [hr] at hi; simpa using hi
    subst hij
    exact wpOp_step ho fun K' hK => h K' fun a w hS hW => hK a w ⟨fun _ => hS, hW⟩⟩
end
theorem step_app1h {P : Program} {w : World} {ops : Array Oper} {o : Oper} {a : Act} {K : Act → World → Prop} {Q : Exit → Act → World → Prop} {E : Prop} (hgd : o.guard = none) (s x : Operand) (t : TypeId)
    (ho : o.op = .call { callee := .builtin .append, args := #[s, x], argTypes := #[t, t] }) (base : Nat) (e : TypeId) (z : Value) (size bytes : Nat) (ht : P.underlying t = some (.slice e))
    (hinfo : (P.info? e).map (fun i => (i.zero, i.size, i.bytes)) = some (some z, size, bytes)) (hzs : z.cells.size = size) (hsz : 0 < size)
    (v : Value) (n : Nat) (xs : List Value) (hs : a.eval s = v) (hown : w.ownsRow base e size v n xs) (g c : Nat) (cs : Array Value) (hb : Blk w g e cs) (hcs : cs.size = size) (hx : a.eval x = .slice (some ⟨g, 0, none⟩) 1 c)
    (h1 : cs.toList.all (·.oneCell') = true) (hn : n ≤ 1000000) (hby : bytes ≤ 1000) (hbase : base ≤ w.heap.size)
    (h : ∀ v' w', w'.ownsRow base e size v' (n + 1) (xs ++ cs.toList) → w.grownBy w' v.ownBlock → (v'.ownBlock = v.ownBlock ∨ v'.ownBlock = some w.heap.size) → K (a.put o.dst v') w') : if Region.wanted o (yielded ops a.tmps) = true then Oper.wp P o a w K Q else E := by
  obtain ⟨i, hi, hz, hsize, hbytes⟩ := info_parts hinfo
  refine step_append_any w hgd s x t ho base e i z size bytes ht hi hz hsize hbytes hzs hsz v n xs hs hown (g + 1) (some ⟨g, 0, none⟩) 1 c cs.toList hx (reads_blk hb size hcs) (List.all_eq_true.1 h1) (by simp only [maxLen]; omega) ?_ hbase fun v' w' h2 h3 h4 => h v' w' h2 h3 h4
  have := Nat.mul_le_mul (show n + 1 ≤ 1000001 by omega) hby
  omega
end Go.Proofs.Ytadlabndbomgmaa
/- Plain facts on texts that are valid: the runes of two texts, one behind the other; of a piece; widths. No program in sight. -/
namespace Go.Proofs.Ytadlabndbomgmaa
open Go.Lib
/-- The runes of a list of bytes. -/
def runesG : Nat → List UInt8 → List Int
  | 0, _ => []
  | f + 1, l => if l = [] then [] else ((decodeL l).1 : Int) :: runesG f (l.drop (decodeL l).2)
def runesL (l : List UInt8) : List Int := runesG l.length l
theorem runesG_fuel : ∀ (f g : Nat) (l : List UInt8), l.length ≤ f → l.length ≤ g → runesG f l = runesG g l
  | 0, 0, _, _, _ => rfl
  | 0, g + 1, l, h, _ => by
    obtain rfl : l = [] := List.eq_nil_of_length_eq_zero (by omega)
    simp [runesG]
  | f + 1, 0, l, _, h => by
    obtain rfl : l = [] := List.eq_nil_of_length_eq_zero (by omega)
    simp [runesG]
  | f + 1, g + 1, l, h1, h2 => by
    simp only [runesG]
    by_cases hne : l = []
    · rw [if_pos hne, if_pos hne]
    · have hw := decodeL_width l
      have hl : 0 < l.length := List.length_pos_iff.2 hne
      rw [if_neg hne, if_neg hne, runesG_fuel f g _ (by rw [List.length_drop]; omega) (by rw [List.length_drop]; omega)]
theorem runesL_nil : runesL [] = [] := rfl
theorem runesL_step (l : List UInt8) (hne : l ≠ []) : runesL l = ((decodeL l).1 : Int) :: runesL (l.drop (decodeL l).2) := by
  have hl : 0 < l.length := List.length_pos_iff.2 hne
  have hw := decodeL_width l
  obtain ⟨n, hn⟩ : ∃ n, l.length = n + 1 := ⟨l.length - 1, by omega⟩
  unfold runesL
  rw [hn]
  simp only [runesG]
  rw [if_neg hne, runesG_fuel n _ _ (by rw [List.length_drop]; omega) (Nat.le_refl _)]
theorem runesAt_list (s : ByteArray) : ∀ (f pos : Nat), s.size - pos ≤ f → runesAt s pos = runesL (s.data.toList.drop pos)
  | 0, pos, h => by
    rw [runesAt_end s pos (by omega), List.drop_of_length_le (by rw [Array.length_toList]; show s.size ≤ pos; omega)]; rfl
  | f + 1, pos, h => by
    by_cases hp : pos < s.size
    · have hw := decode_wd s pos hp
      rw [runesAt_step s pos hp, runesL_step _ (by
        intro e
        have := congrArg List.length e
        rw [List.length_drop, Array.length_toList] at this
        have h9 : s.data.size - pos = 0 := this
        have : s.data.size = s.size := rfl
        omega), decodeL_drop, List.drop_drop, runesAt_list s f _ (by omega)]
    · rw [runesAt_end s pos (by omega), List.drop_of_length_le (by rw [Array.length_toList]; show s.size ≤ pos; omega)]; rfl
theorem runes_all (s : ByteArray) : runesAt s 0 = runesL s.data.toList := by rw [runesAt_list s s.size 0 (by omega), List.drop_zero]
/-- A step that is no error reads no further than its own bytes. -/
theorem decodeN_same (n n' b0 b1 b2 b3 c1 c2 c3 : Nat) (hw : (decodeN n b0 b1 b2 b3).2 ≤ n') (h1 : 1 < (decodeN n b0 b1 b2 b3).2 → b1 = c1) (h2 : 2 < (decodeN n b0 b1 b2 b3).2 → b2 = c2) (h3 : 3 < (decodeN n b0 b1 b2 b3).2 → b3 = c3)
    (hne : ¬ ((decodeN n b0 b1 b2 b3).1 = 65533 ∧ (decodeN n b0 b1 b2 b3).2 = 1)) : decodeN n' b0 c1 c2 c3 = decodeN n b0 b1 b2 b3 := by
  rcases decodeN_shape n b0 b1 b2 b3 with ⟨c, e⟩ | ⟨k1, k2, k3, kv, e⟩ | ⟨k1, k2, k3, k4, kv, ks, e⟩ | ⟨k1, k2, k3, k4, k5, kv, kw, e⟩ | e
  · rw [e]; unfold decodeN; rw [if_pos c]
  · rw [e] at hw h1 ⊢
    obtain rfl := h1 (by simp)
    simp only at hw
    unfold decodeN
    rw [if_neg (by omega), if_pos ⟨k1, by omega, k3⟩, if_pos kv]
  · rw [e] at hw h1 h2 ⊢
    obtain rfl := h1 (by simp)
    obtain rfl := h2 (by simp)
    simp only at hw
    unfold decodeN
    rw [if_neg (by omega), if_neg (by omega), if_pos ⟨k1, ⟨by omega, k3⟩, by omega, k4⟩, if_pos ⟨kv, by omega⟩]
  · rw [e] at hw h1 h2 h3 ⊢
    obtain rfl := h1 (by simp)
    obtain rfl := h2 (by simp)
    obtain rfl := h3 (by simp)
    simp only at hw
    unfold decodeN
    rw [if_neg (by omega), if_neg (by omega), if_neg (by omega), if_pos ⟨k1, ⟨by omega, k3⟩, ⟨by omega, k4⟩, by omega, k5⟩, if_pos ⟨kv, by omega⟩]
  · rw [e] at hne; exact absurd ⟨rfl, rfl⟩ hne
theorem decodeL_pre (l p : List UInt8) (hp : (decodeL l).2 ≤ p.length) (he : p.take (decodeL l).2 = l.take (decodeL l).2) (hne : ¬ ((decodeL l).1 = 65533 ∧ (decodeL l).2 = 1)) : decodeL p = decodeL l := by
  have hw1 := decodeL_width l
  have hg : ∀ i, i < (decodeL l).2 → p.getD i 0 = l.getD i 0 := fun i hi => by
    have h1 : (p.take (decodeL l).2)[i]? = (l.take (decodeL l).2)[i]? := by rw [he]
    rw [List.getElem?_take_of_lt hi, List.getElem?_take_of_lt hi] at h1
    simp only [List.getD, h1]
  rw [decodeL_N p, decodeL_N l, hg 0 (by omega)]
  refine decodeN_same _ _ _ _ _ _ _ _ _ (by rw [← decodeL_N]; exact hp) (fun h => ?_) (fun h => ?_) (fun h => ?_) (by rw [← decodeL_N]; exact hne)
  · rw [← decodeL_N] at h; rw [hg 1 h]
  · rw [← decodeL_N] at h; rw [hg 2 h]
  · rw [← decodeL_N] at h; rw [hg 3 h]
/-- A text that is valid: each step is no error. -/
theorem valid_head {l : List UInt8} (hne : l ≠ []) (h : validD l = true) : ¬ ((decodeL l).1 = 65533 ∧ (decodeL l).2 = 1) ∧ validD (l.drop (decodeL l).2) = true := by
  rw [validD_step l hne] at h
  split at h
  · cases h
  · exact ⟨by assumption, h⟩
theorem runes_append : ∀ (f : Nat) (a b : List UInt8), a.length ≤ f → validD a = true → runesL (a ++ b) = runesL a ++ runesL b
  | 0, a, b, h, _ => by
    obtain rfl : a = [] := List.eq_nil_of_length_eq_zero (by omega)
    rfl
  | f + 1, a, b, h, hv => by
    by_cases hne : a = []
    · subst hne; rfl
    · obtain ⟨h1, h2⟩ := valid_head hne hv
      have hl := decodeL_le a hne
      have hw := decodeL_width a
      have e : decodeL (a ++ b) = decodeL a := decodeL_pre a (a ++ b) (by rw [List.length_append]; omega) (by rw [List.take_append_of_le_length hl]) h1
      rw [runesL_step a hne, runesL_step (a ++ b) (by simp [hne]), e, List.drop_append_of_le_length hl, runes_append f _ b (by rw [List.length_drop]; omega) h2]
      rfl
theorem runesL_len : ∀ (f : Nat) (l : List UInt8), l.length ≤ f → (runesL l).length ≤ f
  | 0, l, h => by
    obtain rfl : l = [] := List.eq_nil_of_length_eq_zero (by omega)
    simp [runesL_nil]
  | f + 1, l, h => by
    by_cases hne : l = []
    · subst hne; simp [runesL_nil]
    · have hw := decodeL_width l
      rw [runesL_step l hne]
      have := runesL_len f (l.drop (decodeL l).2) (by rw [List.length_drop]; omega)
      simp; omega
/-! Widths. -/
def widthF (size sp : Int) (l : List Int) : Int := cut (wideS size (cut sp) l)
theorem wideS_bd (size sp : Int) (M : Int) (hs : sizeF size ≤ M) (hsp : -M ≤ sp ∧ sp ≤ M) (hM : 0 ≤ M) : ∀ l : List Int, -(M * l.length) ≤ wideS size sp l ∧ wideS size sp l ≤ 2 * (M * l.length)
  | [] => by simp [wideS]
  | r :: l => by
    have ih := wideS_bd size sp M hs hsp hM l
    have ha := adv_bd r size
    simp only [wideS, List.length_cons]
    have e : M * ((l.length + 1 : Nat) : Int) = M * (l.length : Int) + M := by rw [Int.natCast_add, Int.mul_add]; simp
    rw [e]
    omega
/-- Two texts, one behind the other, are as wide as both. -/
theorem width_joined (size sp : Int) (hs : sizeF size ≤ 32767) (hsp : -128 ≤ sp ∧ sp ≤ 127) (a b : List Int) (ha : a.length ≤ 100) (hb : b.length ≤ 100) : widthF size sp (a ++ b) = widthF size sp a + widthF size sp b := by
  have hc : cut sp = sp := cut_of (by omega) (by omega)
  have h1 := wideS_bd size sp 32767 hs (by omega) (by omega) a
  have h2 := wideS_bd size sp 32767 hs (by omega) (by omega) b
  unfold widthF
  rw [hc, wideS_append, cut_of (by omega) (by omega), cut_of (by omega) (by omega), cut_of (by omega) (by omega)]
end Go.Proofs.Ytadlabndbomgmaa
/- Plain facts on what fits: as much as has room; one rune more has none. No program in sight. -/
namespace Go.Proofs.Ytadlabndbomgmaa
open Go.Lib
theorem valid_append : ∀ (f : Nat) (a b : List UInt8), a.length ≤ f → validD a = true → validD (a ++ b) = validD b
  | 0, a, b, h, _ => by
    obtain rfl : a = [] := List.eq_nil_of_length_eq_zero (by omega)
    rfl
  | f + 1, a, b, h, hv => by
    by_cases hne : a = []
    · subst hne; rfl
    · obtain ⟨h1, h2⟩ := valid_head hne hv
      have hl := decodeL_le a hne
      have hw := decodeL_width a
      have e : decodeL (a ++ b) = decodeL a := decodeL_pre a (a ++ b) (by rw [List.length_append]; omega) (by rw [List.take_append_of_le_length hl]) h1
      rw [validD_step (a ++ b) (by simp [hne]), e, if_neg h1, List.drop_append_of_le_length hl, valid_append f _ b (by rw [List.length_drop]; omega) h2]
/-- One rune alone. -/
theorem one_rune {q : List UInt8} (hne : q ≠ []) (hv : validD q = true) : runesL (q.take (decodeL q).2) = [((decodeL q).1 : Int)] ∧ validD (q.take (decodeL q).2) = true := by
  obtain ⟨h1, _⟩ := valid_head hne hv
  have hl := decodeL_le q hne
  have hw := decodeL_width q
  have hlen : (q.take (decodeL q).2).length = (decodeL q).2 := by rw [List.length_take]; omega
  have e : decodeL (q.take (decodeL q).2) = decodeL q := decodeL_pre q _ (by omega) (by rw [List.take_take, Nat.min_self]) h1
  have hn2 : q.take (decodeL q).2 ≠ [] := fun h => by rw [h] at hlen; simp at hlen; omega
  have hd : (q.take (decodeL q).2).drop (decodeL q).2 = [] := List.drop_of_length_le (by omega)
  constructor
  · rw [runesL_step _ hn2, e, hd]; rfl
  · rw [validD_step _ hn2, e, if_neg h1, hd]; rfl
/-- As much as has room, from a place on. -/
def fitG (size sp room : Int) (s : ByteArray) : Nat → Nat → Int → Nat
  | 0, _, _ => s.size
  | f + 1, pos, acc => if pos < s.size then (if room < cut (acc + (advF ((Utf8.decode s pos).1 : Int) size + sp)) then pos else fitG size sp room s f (pos + (Utf8.decode s pos).2) (acc + (advF ((Utf8.decode s pos).1 : Int) size + sp))) else s.size
def fitF (size sp room : Int) (s : ByteArray) : Nat := fitG size sp room s s.size 0 0
theorem bytes_len (s : ByteArray) : s.data.toList.length = s.size := by rw [Array.length_toList]; rfl
def FitOk (size sp room : Int) (s : ByteArray) (k : Nat) : Prop :=
  k ≤ s.size ∧ cut (wideS size sp (runesL (s.data.toList.take k))) ≤ room ∧ (k < s.size → room < cut (wideS size sp (runesL (s.data.toList.take (k + (Utf8.decode s k).2)))))
theorem fit_to (size sp room : Int) (s : ByteArray) : ∀ (f pos : Nat) (acc : Int), s.size - pos ≤ f → pos ≤ s.size → validD (s.data.toList.take pos) = true → validD (s.data.toList.drop pos) = true → acc = wideS size sp (runesL (s.data.toList.take pos)) → cut acc ≤ room → FitOk size sp room s (fitG size sp room s f pos acc)
  | 0, pos, acc, hf, hp, _, _, ha, hc => by
    obtain rfl : pos = s.size := by omega
    unfold fitG
    exact ⟨Nat.le_refl _, by rw [← ha]; exact hc, fun h => absurd h (Nat.lt_irrefl _)⟩
  | f + 1, pos, acc, hf, hp, hv1, hv2, ha, hc => by
    unfold fitG
    by_cases hlt : pos < s.size
    · rw [if_pos hlt]
      have hw := decode_wd s pos hlt
      have hne : s.data.toList.drop pos ≠ [] := fun e => by
        have := congrArg List.length e
        rw [List.length_drop, bytes_len] at this
        simp at this; omega
      have hd := decodeL_drop s pos
      obtain ⟨o1, o2⟩ := one_rune hne hv2
      obtain ⟨_, h2⟩ := valid_head hne hv2
      rw [hd] at o1 o2 h2
      have ht : s.data.toList.take (pos + (Utf8.decode s pos).2) = s.data.toList.take pos ++ (s.data.toList.drop pos).take (Utf8.decode s pos).2 := List.take_add
      have hr : runesL (s.data.toList.take (pos + (Utf8.decode s pos).2)) = runesL (s.data.toList.take pos) ++ [((Utf8.decode s pos).1 : Int)] := by
        rw [ht, runes_append _ _ _ (Nat.le_refl _) hv1, o1]
      have hacc : acc + (advF ((Utf8.decode s pos).1 : Int) size + sp) = wideS size sp (runesL (s.data.toList.take (pos + (Utf8.decode s pos).2))) := by
        rw [hr, wideS_append, ha]; simp [wideS]
      by_cases hrm : room < cut (acc + (advF ((Utf8.decode s pos).1 : Int) size + sp))
      · rw [if_pos hrm]
        exact ⟨hp, by rw [← ha]; exact hc, fun _ => by rw [← hacc]; exact hrm⟩
      · rw [if_neg hrm]
        refine fit_to size sp room s f _ _ (by omega) (by omega) ?_ ?_ hacc (by omega)
        · rw [ht, valid_append _ _ _ (Nat.le_refl _) hv1, o2]
        · rw [List.drop_drop] at h2; exact h2
    · rw [if_neg hlt]
      obtain rfl : pos = s.size := by omega
      exact ⟨Nat.le_refl _, by rw [← ha]; exact hc, fun h => absurd h (Nat.lt_irrefl _)⟩
theorem fit_law (size sp room : Int) (s : ByteArray) (hr : 0 ≤ room) (hv : validD s.data.toList = true) : FitOk size sp room s (fitF size sp room s) :=
  fit_to size sp room s s.size 0 0 (by omega) (Nat.zero_le _) rfl (by rw [List.drop_zero]; exact hv) rfl (by rw [show cut 0 = 0 from rfl]; exact hr)
end Go.Proofs.Ytadlabndbomgmaa
/- Plain facts on items of lines: the parts they are cut into, groups of parts, widths. No program in sight. -/
namespace Go.Proofs.Ytadlabndbomgmaa
open Go.Lib
/-- A blank behind a text is a rune of its own, whatever stands ahead. -/
theorem decodeL_space (l : List UInt8) (hne : l ≠ []) : decodeL (l ++ [32]) = decodeL l := by
  have key : ∀ n b0 b1 b2 b3 c1 c2 c3 : Nat, 1 ≤ n → (1 < n → b1 = c1) → (2 < n → b2 = c2) → (3 < n → b3 = c3) → (n = 1 → b1 = 32) → (n = 2 → b2 = 32) → (n = 3 → b3 = 32) → decodeN (n + 1) b0 b1 b2 b3 = decodeN n b0 c1 c2 c3 := by
    intro n b0 b1 b2 b3 c1 c2 c3 hn e1 e2 e3 f1 f2 f3
    rcases (show n = 1 ∨ n = 2 ∨ n = 3 ∨ 3 < n by omega) with h | h | h | h
    · subst h
      have := f1 rfl
      subst this
      unfold decodeN
      simp
    · subst h
      have := f2 rfl
      have h1 := e1 (by omega)
      subst this h1
      unfold decodeN
      simp
    · subst h
      have := f3 rfl
      have h1 := e1 (by omega)
      have h2 := e2 (by omega)
      subst this h1 h2
      unfold decodeN
      simp
    · have h1 := e1 (by omega)
      have h2 := e2 (by omega)
      have h3 := e3 (by omega)
      subst h1 h2 h3
      unfold decodeN
      simp [show 1 < n by omega, show 2 < n by omega, h]
      have a1 : 0 < n := by omega
      have a2 : 2 < n + 1 := by omega
      have a3 : 3 < n + 1 := by omega
      simp [a1, a2, a3]
  have hl : 0 < l.length := List.length_pos_iff.2 hne
  have g : ∀ i, i < l.length → (l ++ [32]).getD i 0 = l.getD i 0 := fun i hi => by simp [List.getD, List.getElem?_append_left hi]
  have g2 : (l ++ [32]).getD l.length 0 = 32 := by simp [List.getD]
  rw [decodeL_N, decodeL_N l, List.length_append, List.length_singleton, g 0 hl]
  exact key _ _ _ _ _ _ _ _ hl (fun h => by rw [g 1 h]) (fun h => by rw [g 2 h]) (fun h => by rw [g 3 h]) (fun h => by rw [← h, g2]; rfl) (fun h => by rw [← h, g2]; rfl) (fun h => by rw [← h, g2]; rfl)
theorem decodeL_le (l : List UInt8) (hne : l ≠ []) : (decodeL l).2 ≤ l.length := by
  have hl : 0 < l.length := List.length_pos_iff.2 hne
  have := (decode_wd ⟨l.toArray⟩ 0 (by simpa [ByteArray.size] using hl)).2.1
  simpa [decodeL, ByteArray.size] using this
theorem runes_space : ∀ (f : Nat) (l : List UInt8), l.length ≤ f → runesL (l ++ [32]) = runesL l ++ [32]
  | 0, l, h => by
    obtain rfl : l = [] := List.eq_nil_of_length_eq_zero (by omega)
    kernel_rfl
  | f + 1, l, h => by
    by_cases hne : l = []
    · subst hne; kernel_rfl
    · have h1 := decodeL_width l
      have h2 := decodeL_le l hne
      rw [runesL_step (l ++ [32]) (by simp), runesL_step l hne, decodeL_space l hne, List.drop_append_of_le_length h2, runes_space f (l.drop (decodeL l).2) (by rw [List.length_drop]; omega)]
      rfl
/-- An item of lines. -/
structure It where
  kind : Int
  box : Int
  text : ByteArray
  size : Int
  spacing : Int
  height : Int
  mode : Int
  shift : Int
  w : Int
  h : Int
  side : Int
def it0 : It := ⟨0, 0, ByteArray.empty, 0, 0, 0, 0, 0, 0, 0, 0⟩
def itAt (xs : List It) (k : Nat) : It := xs.getD k it0
theorem itAt_of (xs : List It) (k : Nat) (h : k < xs.length) : itAt xs k = xs[k] := by simp [itAt, List.getD, List.getElem?_eq_getElem h]
/-- A part of an item: the item's number, its text, its width, whether it is the last one. -/
structure Pt where
  i : Nat
  t : ByteArray
  w : Int
  last : Bool
def txW (x : It) (t : ByteArray) : Int := widthF x.size x.spacing (runesL t.data.toList)
def textParts (i : Nat) (x : It) : Nat → List ByteArray → List Pt
  | _, [] => []
  | n, t :: r => ⟨i, t, txW x t, n == 1⟩ :: textParts i x (n - 1) r
def partsOf (i : Nat) (x : It) : List Pt :=
  if x.kind = 1 then textParts i x (piecesF x.text (modeW x.mode) (modeK x.mode)).length (piecesF x.text (modeW x.mode) (modeK x.mode))
  else if x.kind = 6 ∨ x.kind = 7 ∨ x.kind = 5 then [⟨i, ByteArray.empty, 0, true⟩]
  else if x.kind = 4 then [⟨i, ByteArray.empty, max 0 (cut x.w), true⟩]
  else [⟨i, ByteArray.empty, cut x.w, true⟩]
def partsTo (xs : List It) (k : Nat) : List Pt := (List.range k).flatMap fun i => partsOf i (itAt xs i)
theorem partsTo_next (xs : List It) (k : Nat) : partsTo xs (k + 1) = partsTo xs k ++ partsOf k (itAt xs k) := by simp [partsTo, List.range_succ]
def pt0 : Pt := ⟨0, ByteArray.empty, 0, false⟩
def ptAt (ps : List Pt) (k : Nat) : Pt := ps.getD k pt0
theorem ptAt_of (ps : List Pt) (k : Nat) (h : k < ps.length) : ptAt ps k = ps[k] := by simp [ptAt, List.getD, List.getElem?_eq_getElem h]
section
variable (xs : List It)
def pKind (p : Pt) : Int := (itAt xs p.i).kind
def pMode (p : Pt) : Int := (itAt xs p.i).mode
def solidF (p : Pt) : Bool := pKind xs p == 1 || pKind xs p == 4
def collF (p : Pt) : Bool := pKind xs p == 1 && (pMode xs p == 0 || pMode xs p == 2)
def spaceEnd (t : ByteArray) : Bool := t.data.toList.getLast? == some 32
def endsF (p : Pt) : Bool := pKind xs p == 1 && spaceEnd p.t
def tailF (p : Pt) : Int := if collF xs p && endsF xs p then p.w - txW (itAt xs p.i) (p.t.extract 0 (p.t.size - 1)) else 0
/-- Is it passed by on the way back, on the way on? -/
def skipA (k : Int) : Bool := k == 3 || k == 7 || k == 5
def skipB (k : Int) : Bool := k == 2 || k == 7 || k == 5
def widthG (ps : List Pt) : Int := (ps.map (·.w)).sum
def tailG : List Pt → Int
  | [] => 0
  | p :: r => if skipA (pKind xs p) then tailG r else tailF xs p
/-- The nearest part back from k - 1 that is not passed by: one more than its place, or 0. -/
def downF (ps : List Pt) : Nat → Nat
  | 0 => 0
  | k + 1 => if skipA (pKind xs (ptAt ps k)) then downF ps k else k + 1
/-- The nearest part on from k, of the f next ones, that is not passed by. -/
def upF (ps : List Pt) : Nat → Nat → Nat
  | 0, k => k
  | f + 1, k => if skipB (pKind xs (ptAt ps k)) then upF ps f (k + 1) else k
def mayAt (ps : List Pt) (a b : Nat) : Bool :=
  if pKind xs (ptAt ps a) = 4 ∨ pKind xs (ptAt ps b) = 4 then true
  else (pKind xs (ptAt ps a) == 1 && pKind xs (ptAt ps b) == 1) && (!(ptAt ps a).last || (endsF xs (ptAt ps a) && (pMode xs (ptAt ps a) == 0 || pMode xs (ptAt ps a) == 3)))
def mayEndF (ps : List Pt) (k : Nat) : Bool :=
  if pKind xs (ptAt ps (k - 1)) = 2 ∨ pKind xs (ptAt ps k) = 3 then false
  else if downF xs ps k = 0 ∨ upF xs ps (ps.length - k) k = ps.length then false
  else mayAt xs ps (downF xs ps k - 1) (upF xs ps (ps.length - k) k)
def cutsAt (ps : List Pt) (k : Nat) : Bool := k == ps.length || pKind xs (ptAt ps (k - 1)) == 6 || mayEndF xs ps k
/-- The groups that end at k or ahead, and where the next one begins. -/
def groupsTo (ps : List Pt) : Nat → List (Nat × Nat) × Nat
  | 0 => ([], 0)
  | k + 1 => let g := groupsTo ps k; if cutsAt xs ps (k + 1) then (g.1 ++ [(g.2, k + 1)], k + 1) else g
def segP (ps : List Pt) (g : Nat × Nat) : List Pt := (ps.drop g.1).take (g.2 - g.1)
end
end Go.Proofs.Ytadlabndbomgmaa
/- Plain facts on how wide parts and groups of parts are, and on the least and the greatest width. No program in sight. -/
namespace Go.Proofs.Ytadlabndbomgmaa
open Go.Lib
def ItOk (x : It) : Prop := x.text.size ≤ 200 ∧ 0 ≤ x.size ∧ x.size ≤ 65535 ∧ (60 < x.text.size → x.size ≤ 255) ∧ 0 ≤ x.spacing ∧ x.spacing ≤ 255 ∧ 0 ≤ x.height ∧ x.height ≤ 65535 ∧ -128 ≤ x.shift ∧ x.shift ≤ 127 ∧ 0 ≤ x.w ∧ x.w ≤ 65535 ∧ 0 ≤ x.h ∧ x.h ≤ 65535
def ItsOk (xs : List It) : Prop := xs.length ≤ 25 ∧ ∀ x ∈ xs, ItOk x
theorem it0_ok : ItOk it0 := by
  have h : (ByteArray.empty).size = 0 := rfl
  unfold ItOk it0
  simp only [h]
  omega
theorem itAt_ok {xs : List It} (h : ItsOk xs) (k : Nat) : ItOk (itAt xs k) := by
  by_cases hk : k < xs.length
  · rw [itAt_of xs k hk]; exact h.2 _ (List.getElem_mem hk)
  · have : itAt xs k = it0 := by simp [itAt, List.getD, List.getElem?_eq_none (Nat.le_of_not_lt hk)]
    rw [this]; exact it0_ok
theorem wideS_pos (size sp : Int) (h : 0 ≤ sp) (l : List Int) : 0 ≤ wideS size sp l := by
  induction l with
  | nil => exact Int.le_refl _
  | cons r l ih => have := adv_bd r size; simp only [wideS] at ih ⊢; omega
theorem txW_eq {x : It} (hx : ItOk x) (t : ByteArray) (ht : t.size ≤ x.text.size) : txW x t = wideS x.size x.spacing (runesL t.data.toList) ∧ 0 ≤ txW x t ∧ txW x t ≤ 7895000 := by
  unfold ItOk at hx
  have hl := runesL_len t.data.toList.length t.data.toList (Nat.le_refl _)
  have ht2 : t.data.toList.length ≤ x.text.size := by rw [Array.length_toList]; exact ht
  have hc : cut x.spacing = x.spacing := by unfold cut; omega
  have hs : sizeF x.size = x.size := by unfold sizeF cut; omega
  have h0 := wideS_pos x.size x.spacing (by omega) (runesL t.data.toList)
  have e : txW x t = cut (wideS x.size x.spacing (runesL t.data.toList)) := by unfold txW widthF; rw [hc]
  rw [e]
  by_cases h60 : 60 < x.text.size
  · have h2 := hx.2.2.2.1 h60
    have h1 := (wideS_bd x.size x.spacing 255 (by omega) (by omega) (by omega) (runesL t.data.toList)).2
    generalize wideS x.size x.spacing (runesL t.data.toList) = n at *
    generalize (runesL t.data.toList).length = k at *
    unfold cut
    omega
  · have h1 := (wideS_bd x.size x.spacing 65535 (by omega) (by omega) (by omega) (runesL t.data.toList)).2
    generalize wideS x.size x.spacing (runesL t.data.toList) = n at *
    generalize (runesL t.data.toList).length = k at *
    unfold cut
    omega
theorem txW_space {x : It} (hx : ItOk x) (t : ByteArray) (ht : t.size ≤ x.text.size) (he : spaceEnd t = true) : txW x (t.extract 0 (t.size - 1)) ≤ txW x t ∧ 0 ≤ txW x (t.extract 0 (t.size - 1)) := by
  unfold spaceEnd at he
  have he2 : t.data.toList.getLast? = some 32 := by simpa using he
  have hne : t.data.toList ≠ [] := by intro h; rw [h] at he2; cases he2
  have hsz : t.data.toList.length = t.size := Array.length_toList
  have e1 : t.data.toList = t.data.toList.dropLast ++ [32] := by
    have h1 := List.dropLast_concat_getLast hne
    have h2 : t.data.toList.getLast hne = 32 := by rw [List.getLast?_eq_some_getLast hne] at he2; injection he2
    rw [h2] at h1; exact h1.symm
  have e2 : (t.extract 0 (t.size - 1)).data.toList = t.data.toList.dropLast := by
    simp
  have hs2 : (t.extract 0 (t.size - 1)).size ≤ x.text.size := by
    have := congrArg List.length e2
    rw [List.length_dropLast] at this
    show (t.extract 0 (t.size - 1)).data.size ≤ x.text.size
    rw [← Array.length_toList, this]
    omega
  have h1 := txW_eq hx t ht
  have h2 := txW_eq hx _ hs2
  have hr : runesL t.data.toList = runesL (t.extract 0 (t.size - 1)).data.toList ++ [32] := by
    rw [e2]
    conv => lhs; rw [e1]
    exact runes_space _ _ (Nat.le_refl _)
  rw [hr, wideS_append] at h1
  have h3 := wideS_pos x.size x.spacing (by unfold ItOk at hx; omega) [32]
  omega
theorem pcs_le (s : ByteArray) : ∀ (l : List Nat) (a : Nat), ∀ p ∈ pcs s a l, p.size ≤ s.size
  | [], _ => by intro p hp; simp [pcs] at hp
  | b :: r, a => by
    intro p hp
    simp only [pcs] at hp
    split at hp
    · rcases List.mem_cons.1 hp with rfl | hp
      · simp only [ByteArray.size_extract]; omega
      · exact pcs_le s r b p hp
    · exact pcs_le s r a p hp
theorem pieces_le (s : ByteArray) (wr ke : Bool) : ∀ p ∈ piecesF s wr ke, p.size ≤ s.size := pcs_le s _ 0
theorem pieces_count (s : ByteArray) (wr ke : Bool) : (piecesF s wr ke).length ≤ s.size := by
  have h1 := pieces_join s wr ke
  have h2 := pieces_some s wr ke
  have h3 : ∀ l : List ByteArray, (∀ p ∈ l, 0 < p.size) → l.length ≤ ((l.map (·.data.toList)).flatten).length := by
    intro l
    induction l with
    | nil => intro _; exact Nat.zero_le _
    | cons p l ih =>
      intro h
      have h4 := ih fun q hq => h q (by simp [hq])
      have h5 := h p (by simp)
      have h6 : p.data.toList.length = p.size := Array.length_toList
      simp only [List.map_cons, List.flatten_cons, List.length_append, List.length_cons]
      omega
  have h4 := h3 _ h2
  rw [h1] at h4
  have h5 : s.data.toList.length = s.size := Array.length_toList
  omega
/-- A part's width and its last blank's. -/
def PtOk (xs : List It) (p : Pt) : Prop := 0 ≤ p.w ∧ p.w ≤ 16777216 ∧ 0 ≤ tailF xs p ∧ tailF xs p ≤ p.w ∧ p.t.size ≤ 200
theorem textParts_mem (i : Nat) (x : It) : ∀ (l : List ByteArray) (n : Nat), ∀ p ∈ textParts i x n l, p.i = i ∧ p.t ∈ l ∧ p.w = txW x p.t
  | [], _ => by intro p hp; simp [textParts] at hp
  | t :: r, n => by
    intro p hp
    simp only [textParts, List.mem_cons] at hp
    rcases hp with rfl | hp
    · exact ⟨rfl, by simp, rfl⟩
    · obtain ⟨h1, h2, h3⟩ := textParts_mem i x r (n - 1) p hp
      exact ⟨h1, by simp [h2], h3⟩
theorem textParts_len (i : Nat) (x : It) : ∀ (l : List ByteArray) (n : Nat), (textParts i x n l).length = l.length
  | [], _ => rfl
  | _ :: r, n => by simp [textParts, textParts_len i x r (n - 1)]
theorem tail_zero (xs : List It) (p : Pt) (h : pKind xs p ≠ 1) : tailF xs p = 0 := by
  unfold tailF collF
  simp [h]
theorem partsOf_ok {xs : List It} (h : ItsOk xs) (i : Nat) : ∀ p ∈ partsOf i (itAt xs i), p.i = i ∧ PtOk xs p := by
  have hx := itAt_ok h i
  intro p hp
  unfold partsOf at hp
  have hxw : 0 ≤ (itAt xs i).w ∧ (itAt xs i).w ≤ 65535 := by unfold ItOk at hx; omega
  by_cases h1 : (itAt xs i).kind = 1
  · rw [if_pos h1] at hp
    obtain ⟨e1, e2, e3⟩ := textParts_mem i _ _ _ p hp
    have hsz : p.t.size ≤ (itAt xs i).text.size := pieces_le _ _ _ _ e2
    have hw := txW_eq hx p.t hsz
    refine ⟨e1, by omega, by omega, ?_, ?_, Nat.le_trans hsz hx.1⟩
    · unfold tailF
      split
      · rename_i hc
        rw [e1, e3]
        have hs : spaceEnd p.t = true := by
          rw [Bool.and_eq_true] at hc
          have := hc.2
          unfold endsF at this
          rw [Bool.and_eq_true] at this
          exact this.2
        have := txW_space hx p.t hsz hs
        omega
      · exact Int.le_refl _
    · unfold tailF
      split
      · rename_i hc
        rw [e1, e3]
        have hs : spaceEnd p.t = true := by
          rw [Bool.and_eq_true] at hc
          have := hc.2
          unfold endsF at this
          rw [Bool.and_eq_true] at this
          exact this.2
        have := txW_space hx p.t hsz hs
        omega
      · omega
  · rw [if_neg h1] at hp
    have key : ∀ w : Int, 0 ≤ w → w ≤ 16777216 → p = ⟨i, ByteArray.empty, w, true⟩ → p.i = i ∧ PtOk xs p := by
      intro w hw0 hw1 e
      have e1 : p.i = i := by rw [e]
      have e2 : tailF xs p = 0 := tail_zero xs p (by unfold pKind; rw [e1]; exact h1)
      refine ⟨e1, ?_, ?_, ?_, ?_, ?_⟩
      · rw [e]; exact hw0
      · rw [e]; exact hw1
      · rw [e2]; exact Int.le_refl _
      · rw [e2, e]; exact hw0
      · rw [e]; exact Nat.zero_le _
    by_cases h2 : (itAt xs i).kind = 6 ∨ (itAt xs i).kind = 7 ∨ (itAt xs i).kind = 5
    · rw [if_pos h2] at hp
      exact key 0 (Int.le_refl _) (by decide) (by simpa using hp)
    · rw [if_neg h2] at hp
      by_cases h3 : (itAt xs i).kind = 4
      · rw [if_pos h3] at hp
        exact key (max 0 (cut (itAt xs i).w)) (by omega) (by unfold cut; omega) (by simpa using hp)
      · rw [if_neg h3] at hp
        exact key (cut (itAt xs i).w) (by unfold cut; omega) (by unfold cut; omega) (by simpa using hp)
theorem partsOf_len {xs : List It} (h : ItsOk xs) (i : Nat) : (partsOf i (itAt xs i)).length ≤ 200 := by
  have hx := itAt_ok h i
  unfold partsOf
  split
  · rw [textParts_len]; exact Nat.le_trans (pieces_count _ _ _) hx.1
  · split
    · simp
    · split <;> simp
theorem partsTo_ok {xs : List It} (h : ItsOk xs) (k : Nat) (hk : k ≤ xs.length) : (∀ p ∈ partsTo xs k, p.i < k ∧ PtOk xs p) ∧ (partsTo xs k).length ≤ k * 200 := by
  induction k with
  | zero => exact ⟨fun p hp => by simp [partsTo] at hp, by simp [partsTo]⟩
  | succ k ih =>
    obtain ⟨h1, h2⟩ := ih (by omega)
    have h3 := partsOf_len h k
    rw [partsTo_next]
    refine ⟨fun p hp => ?_, by rw [List.length_append, Nat.succ_mul]; omega⟩
    rcases List.mem_append.1 hp with hp | hp
    · have := h1 p hp; exact ⟨by omega, this.2⟩
    · have := partsOf_ok h k p hp; exact ⟨by omega, this.2⟩
theorem widthG_cons (p : Pt) (r : List Pt) : widthG (p :: r) = p.w + widthG r := by simp [widthG]
theorem widthG_append (l r : List Pt) : widthG (l ++ r) = widthG l + widthG r := by simp [widthG]
theorem widthG_rev (l : List Pt) : widthG l.reverse = widthG l := by
  induction l with
  | nil => rfl
  | cons p l ih => rw [List.reverse_cons, widthG_append, ih, widthG_cons]; simp [widthG]; omega
theorem tailG_ok {xs : List It} (l : List Pt) (h : ∀ p ∈ l, PtOk xs p) : 0 ≤ tailG xs l ∧ tailG xs l ≤ widthG l ∧ widthG l ≤ 16777216 * l.length ∧ 0 ≤ widthG l := by
  induction l with
  | nil => simp [tailG, widthG]
  | cons p l ih =>
    have h1 := h p (by simp)
    have h2 := ih fun q hq => h q (by simp [hq])
    unfold PtOk at h1
    rw [widthG_cons, List.length_cons]
    simp only [tailG]
    split <;> omega
/-- The least and the greatest width of groups: width, last blank, must the line end? -/
structure Sz where
  least : Int
  most : Int
  sum : Int
  fin : Int
def szStep (st : Sz) (g : Int × Int × Bool) : Sz :=
  let fin := st.sum + g.1 - g.2.1
  if g.2.2 then ⟨max st.least (g.1 - g.2.1), max st.most fin, 0, 0⟩ else ⟨max st.least (g.1 - g.2.1), st.most, st.sum + g.1, fin⟩
def szTo (gs : List (Int × Int × Bool)) : Sz := gs.foldl szStep ⟨0, 0, 0, 0⟩
theorem szTo_snoc (gs : List (Int × Int × Bool)) (g : Int × Int × Bool) : szTo (gs ++ [g]) = szStep (szTo gs) g := by simp [szTo]
def SzOk (n : Nat) (s : Sz) : Prop := 0 ≤ s.least ∧ s.least ≤ max s.most s.fin ∧ 0 ≤ s.fin ∧ s.fin ≤ s.sum ∧ 0 ≤ s.most ∧ s.least ≤ 100000000000 * n ∧ s.most ≤ 100000000000 * n ∧ s.sum ≤ 100000000000 * n
def GsOk (gs : List (Int × Int × Bool)) : Prop := ∀ g ∈ gs, 0 ≤ g.2.1 ∧ g.2.1 ≤ g.1 ∧ g.1 ≤ 100000000000
theorem szTo_ok (gs : List (Int × Int × Bool)) (h : GsOk gs) (k : Nat) (hk : k ≤ gs.length) : SzOk k (szTo (gs.take k)) := by
  induction k with
  | zero => simp [szTo, SzOk]
  | succ k ih =>
    have h1 := ih (by omega)
    have hlt : k < gs.length := by omega
    have h2 := h _ (List.getElem_mem hlt)
    rw [List.take_succ_eq_append_getElem hlt, szTo_snoc]
    generalize szTo (gs.take k) = s at *
    generalize gs[k] = g at *
    obtain ⟨w, t, m⟩ := g
    unfold SzOk at h1 ⊢
    simp only at h2
    unfold szStep
    cases m <;> simp only [if_true, if_false, Bool.false_eq_true] <;> omega
theorem sizes_law (gs : List (Int × Int × Bool)) (h : GsOk gs) : 0 ≤ cut (szTo gs).least ∧ cut (szTo gs).least ≤ cut (max (szTo gs).most (szTo gs).fin) := by
  have := szTo_ok gs h gs.length (Nat.le_refl _)
  rw [List.take_length] at this
  unfold SzOk at this
  unfold cut
  omega
section
variable (xs : List It)
def gData (ps : List Pt) (g : Nat × Nat) : Int × Int × Bool := (widthG (segP ps g), tailG xs (segP ps g).reverse, pKind xs (ptAt ps (g.2 - 1)) == 6)
def groupsD : List (Int × Int × Bool) := (groupsTo xs (partsTo xs xs.length) (partsTo xs xs.length).length).1.map (gData xs (partsTo xs xs.length))
end
theorem groups_ok (xs : List It) (ps : List Pt) (k : Nat) (hk : k ≤ ps.length) : (groupsTo xs ps k).2 ≤ k ∧ (∀ g ∈ (groupsTo xs ps k).1, g.1 < g.2 ∧ g.2 ≤ k) ∧ (groupsTo xs ps k).1.length ≤ k := by
  induction k with
  | zero => simp [groupsTo]
  | succ k ih =>
    obtain ⟨h1, h2, h3⟩ := ih (by omega)
    simp only [groupsTo]
    split
    · refine ⟨Nat.le_refl _, fun g hg => ?_, by simp; omega⟩
      rcases List.mem_append.1 hg with hg | hg
      · have := h2 g hg; omega
      · obtain rfl : g = ((groupsTo xs ps k).2, k + 1) := by simpa using hg
        simp only; omega
    · exact ⟨by omega, fun g hg => by have := h2 g hg; omega, by omega⟩
theorem segP_mem {ps : List Pt} {g : Nat × Nat} : ∀ p ∈ segP ps g, p ∈ ps := fun _ hp => List.mem_of_mem_drop (List.mem_of_mem_take hp)
theorem groupsD_ok {xs : List It} (h : ItsOk xs) : GsOk (groupsD xs) := by
  obtain ⟨h1, h2⟩ := partsTo_ok h xs.length (Nat.le_refl _)
  intro g hg
  unfold groupsD at hg
  obtain ⟨q, hq, rfl⟩ := List.mem_map.1 hg
  have h3 : ∀ p ∈ (segP (partsTo xs xs.length) q).reverse, PtOk xs p := fun p hp => (h1 p (segP_mem p (List.mem_reverse.1 hp))).2
  have h4 := tailG_ok _ h3
  rw [widthG_rev] at h4
  have h5 : (segP (partsTo xs xs.length) q).length ≤ (partsTo xs xs.length).length := by unfold segP; rw [List.length_take, List.length_drop]; omega
  have h6 := h.1
  have h7 : (segP (partsTo xs xs.length) q).reverse.length ≤ 5000 := by rw [List.length_reverse]; omega
  unfold gData
  simp only
  generalize (segP (partsTo xs xs.length) q).reverse.length = n at *
  omega
end Go.Proofs.Ytadlabndbomgmaa
/- Lines as they are broken where nothing floats: a plain model. No program in sight. -/
namespace Go.Proofs.Ytadlabndbomgmaa
section
variable (xs : List It)
def toldF (p : Pt) : Bool := if pKind xs p == 1 || pKind xs p == 4 || pKind xs p == 6 then true else if pKind xs p == 2 || pKind xs p == 3 then p.w != 0 else false
/-- Is a text one blank? (as the walk asks it) -/
def isSp (t : ByteArray) : Bool := t.toList == [32]
def cleanF : Bool → List Pt → List Pt
  | _, [] => []
  | full, p :: r => if !full && (collF xs p && isSp p.t) then cleanF full r else p :: cleanF (full || solidF xs p) r
/-- A piece of a line that is told; the line. -/
structure Pc where
  item : Int
  x : Int
  w : Int
  t : ByteArray
structure Ln where
  x : Int
  y : Int
  w : Int
  h : Int
  base : Int
  pcs : List Pc
  last : Bool
def aboveF (size height : Int) : Int := ascF size + partOf (height - size) 1 2
def metStep (st : Int × Int) (p : Pt) : Int × Int :=
  let x := itAt xs p.i
  if pKind xs p == 1 then (max st.1 (aboveF x.size x.height + x.shift), max st.2 (x.height - aboveF x.size x.height - x.shift))
  else if pKind xs p == 4 then (max st.1 (x.h + x.shift), max st.2 (-x.shift))
  else st
def metTo (size height : Int) (ps : List Pt) : Int × Int := ps.foldl (metStep xs) (aboveF size height, height - aboveF size height)
/-- One more than the place of the last solid part, or 0. -/
def solidTo : List Pt → Nat → Nat
  | _, 0 => 0
  | ps, k + 1 => if solidF xs (ptAt ps k) then k + 1 else solidTo ps k
def cutPt (p : Pt) : Pt := ⟨p.i, p.t.extract 0 (p.t.size - 1), p.w - tailF xs p, p.last⟩
def trimF (ps : List Pt) : List Pt :=
  let e := solidTo xs ps ps.length
  if e = 0 then ps else if tailF xs (ptAt ps (e - 1)) = 0 then ps else ps.set (e - 1) (cutPt xs (ptAt ps (e - 1)))
/-- Which parts get a gap behind them; the gaps; the pieces of the line. -/
def gapWs (ps : List Pt) (m : Nat) : List Int := (List.range ps.length).map fun k => if k < m && endsF xs (ptAt ps k) then 1 else 0
def gapsF (al : Int) (last : Bool) (ps : List Pt) (m : Nat) (free : Int) : List Int :=
  if al = 3 ∧ last = false then shared free (gapWs xs ps m) else List.replicate ps.length 0
def tellTo (ps : List Pt) (gaps : List Int) : Nat → Int × List Pc
  | 0 => (0, [])
  | k + 1 =>
    let s := tellTo ps gaps k
    (s.1 + ((ptAt ps k).w + at0 gaps k), if pKind xs (ptAt ps k) = 5 then s.2 else s.2 ++ [⟨(ptAt ps k).i, cut s.1, cut (ptAt ps k).w, (ptAt ps k).t⟩])
def freeF (left right : Int) (ps : List Pt) : Int := max 0 (right - left - widthG ps)
def shiftF (al free : Int) : Int := if al = 1 then free else if al = 2 then partOf free 1 2 else 0
def highF (sz ht : Int) (line : List Pt) : Int := max 0 ((metTo xs sz ht line).1 + (metTo xs sz ht line).2)
def toldTo (al left right : Int) (line : List Pt) (last : Bool) : Int × List Pc :=
  tellTo xs (trimF xs line) (gapsF xs al last (trimF xs line) (solidTo xs line line.length - 1) (freeF left right (trimF xs line))) (trimF xs line).length
/-- The line that is told. -/
def lnOf (sz ht al y left right : Int) (line : List Pt) (last : Bool) : Ln :=
  ⟨cut (left + shiftF al (freeF left right (trimF xs line))), cut y, cut (toldTo xs al left right line last).1, cut (highF xs sz ht line), cut (metTo xs sz ht line).1, (toldTo xs al left right line last).2, last⟩
/-- The breaker's state, where nothing floats and nothing is indented. -/
structure BSt where
  y : Int
  line : List Pt
  full : Bool
  out : List Ln
def endF (sz ht al W : Int) (last : Bool) (st : BSt) : BSt :=
  if st.line.any (toldF xs) then ⟨st.y + highF xs sz ht st.line, [], false, st.out ++ [lnOf xs sz ht al st.y 0 W st.line last]⟩ else ⟨st.y, [], false, st.out⟩
def lastMust (c : List Pt) : Bool := match c.getLast? with | some p => pKind xs p == 6 | none => false
def appF (sz ht al W : Int) (st : BSt) (c : List Pt) : BSt :=
  if lastMust xs c then endF xs sz ht al W true ⟨st.y, st.line ++ c, st.full || c.any (solidF xs), st.out⟩ else ⟨st.y, st.line ++ c, st.full || c.any (solidF xs), st.out⟩
/-- Is there room? -/
def fitsF (W : Int) (line : List Pt) (full : Bool) (c : List Pt) : Bool := decide (widthG line + widthG c - tailG xs c.reverse ≤ W) || (!c.any (solidF xs) && full)
def putF (sz ht al W : Int) (st : BSt) (g : List Pt) : BSt :=
  if !fitsF xs W st.line st.full (cleanF xs st.full g) && st.full then appF xs sz ht al W (endF xs sz ht al W false st) (cleanF xs false g) else appF xs sz ht al W st (cleanF xs st.full g)
def segsF : List (List Pt) := (groupsTo xs (partsTo xs xs.length) (partsTo xs xs.length).length).1.map (segP (partsTo xs xs.length))
def lastLn (l : List Ln) : List Ln := match l.getLast? with | some x => l.dropLast ++ [{ x with last := true }] | none => []
def runF (sz ht al W y : Int) (gs : List (List Pt)) : BSt := gs.foldl (putF xs sz ht al W) ⟨y, [], false, []⟩
def finF (sz ht al W : Int) (st : BSt) : List Ln := if st.line ≠ [] then (endF xs sz ht al W true st).out else lastLn st.out
def breakF (sz ht al W y : Int) : List Ln := finF xs sz ht al W (runF xs sz ht al W y (segsF xs))
end
end Go.Proofs.Ytadlabndbomgmaa
/- How items of lines and their parts lie in memory. No program in sight. -/
namespace Go.Proofs.Ytadlabndbomgmaa
open Go.RowKit
def itC (x : It) : List Value := [.int .i64 x.kind, .int .i64 x.box, .string x.text, .int .i64 x.size, .int .i64 x.spacing, .int .i64 x.height, .int .i64 x.mode, .int .i64 x.shift, .int .i64 x.w, .int .i64 x.h, .int .i64 x.side]
def itCells (xs : List It) : List Value := xs.flatMap itC
theorem itCells_len (l : List It) : (itCells l).length = l.length * 11 := by
  induction l with
  | nil => rfl
  | cons c l ih => simp only [itCells, List.flatMap_cons, List.length_append] at ih ⊢; rw [ih]; simp [itC]; omega
theorem itCells_snoc (l : List It) (c : It) : itCells (l ++ [c]) = itCells l ++ itC c := by simp [itCells]
theorem itCells_at : ∀ (l : List It) (k j : Nat), k < l.length → j < 11 → (itCells l)[k * 11 + j]? = (itC (itAt l k))[j]?
  | [], _, _, h, _ => absurd h (Nat.not_lt_zero _)
  | d :: l, 0, j, _, hj => by
    show (itC d ++ itCells l)[0 * 11 + j]? = _
    rw [Nat.zero_mul, Nat.zero_add, List.getElem?_append_left (by simpa [itC] using hj)]; rfl
  | d :: l, k + 1, j, h, hj => by
    show (itC d ++ itCells l)[(k + 1) * 11 + j]? = _
    rw [List.getElem?_append_right (by simp [itC]; omega), show (k + 1) * 11 + j - (itC d).length = k * 11 + j by simp [itC]; omega, itCells_at l k j (by simpa using h) hj]; rfl
/-- The items lie in block g. -/
def ItsAt (w : World) (g : Nat) (xs : List It) : Prop := ∀ k, k < xs.length → ∀ j, j < 11 → w.cell? ⟨g, k * 11 + j, none⟩ = (itC (itAt xs k))[j]?
theorem ItsAt.below {w w' : World} {g B : Nat} {xs : List It} (h : ItsAt w g xs) (hb : Below B w w') (hg : g < B) : ItsAt w' g xs := fun k hk j hj => (hb.cell (p := ⟨g, k * 11 + j, none⟩) hg).trans (h k hk j hj)
theorem ItsAt.lt {w : World} {g : Nat} {xs : List It} (h : ItsAt w g xs) (hl : 0 < xs.length) : g < w.heap.size := by
  have h1 := h 0 hl 0 (by omega)
  have h2 : (w.cell? ⟨g, 0 * 11 + 0, none⟩) = some (.int .i64 (itAt xs 0).kind) := h1
  unfold World.cell? at h2
  rcases Nat.lt_or_ge g w.heap.size with hlt | hge
  · exact hlt
  · rw [Array.getElem?_eq_none hge] at h2; cases h2
theorem ItsAt.alloc {w : World} {g : Nat} {xs : List It} (h : ItsAt w g xs) (o : Obj) (hl : g < w.heap.size) : ItsAt (w.alloc o) g xs := h.below ((Below.refl w.heap.size w).alloc (Nat.le_refl _) o) hl
theorem its_of_own {w : World} {base : Nat} {t : TypeId} {A : Option Addr} {n c : Nat} {xs : List It} (h : w.ownsRow base t 11 (.slice A n c) n (itCells xs)) (hl : xs.length = n) (h0 : 0 < n) : ∃ g, A = some ⟨g, 0, none⟩ ∧ base ≤ g ∧ g < w.heap.size ∧ ItsAt w g xs := by
  obtain ⟨g, cap, hv, hg, hgl⟩ := h.form h0
  have hA : A = some ⟨g, 0, none⟩ := by injection hv
  subst hA
  refine ⟨g, rfl, hg, hgl, fun k hk j hj => ?_⟩
  rw [h.cellAt _ (by omega), itCells_at xs k j hk hj]
def ptC (g : Nat) (p : Pt) : List Value := [.pointer (some ⟨g, p.i * 11, none⟩), .int .i64 p.i, .string p.t, .int .i64 p.w, .bool p.last]
def ptV (g : Nat) (p : Pt) : Array Value := #[.pointer (some ⟨g, p.i * 11, none⟩), .int .i64 p.i, .string p.t, .int .i64 p.w, .bool p.last]
def ptCells (g : Nat) (ps : List Pt) : List Value := ps.flatMap (ptC g)
theorem ptCells_len (g : Nat) (l : List Pt) : (ptCells g l).length = l.length * 5 := by
  induction l with
  | nil => rfl
  | cons c l ih => simp only [ptCells, List.flatMap_cons, List.length_append] at ih ⊢; rw [ih]; simp [ptC]; omega
theorem ptCells_snoc (g : Nat) (l : List Pt) (c : Pt) : ptCells g (l ++ [c]) = ptCells g l ++ ptC g c := by simp [ptCells]
theorem ptCells_at (g : Nat) : ∀ (l : List Pt) (k j : Nat), k < l.length → j < 5 → (ptCells g l)[k * 5 + j]? = (ptC g (ptAt l k))[j]?
  | [], _, _, h, _ => absurd h (Nat.not_lt_zero _)
  | d :: l, 0, j, _, hj => by
    show (ptC g d ++ ptCells g l)[0 * 5 + j]? = _
    rw [Nat.zero_mul, Nat.zero_add, List.getElem?_append_left (by simpa [ptC] using hj)]; rfl
  | d :: l, k + 1, j, h, hj => by
    show (ptC g d ++ ptCells g l)[(k + 1) * 5 + j]? = _
    rw [List.getElem?_append_right (by simp [ptC]; omega), show (k + 1) * 5 + j - (ptC g d).length = k * 5 + j by simp [ptC]; omega, ptCells_at g l k j (by simpa using h) hj]; rfl
/-- Parts lie in block h from place off on; they point to items in block g. -/
def PtsAt (w : World) (g h off : Nat) (ps : List Pt) : Prop := ∀ k, k < ps.length → ∀ j, j < 5 → w.cell? ⟨h, off + k * 5 + j, none⟩ = (ptC g (ptAt ps k))[j]?
theorem PtsAt.below {w w' : World} {g h off B : Nat} {ps : List Pt} (hp : PtsAt w g h off ps) (hb : Below B w w') (hg : h < B) : PtsAt w' g h off ps := fun k hk j hj => (hb.cell (p := ⟨h, off + k * 5 + j, none⟩) hg).trans (hp k hk j hj)
theorem ptAt_seg (ps : List Pt) (a b k : Nat) (hb : b ≤ ps.length) (hk : a + k < b) : ptAt (segP ps (a, b)) k = ptAt ps (a + k) := by
  have h1 : (segP ps (a, b)).length = b - a := by simp only [segP, List.length_take, List.length_drop]; omega
  rw [ptAt_of _ k (by omega), ptAt_of _ (a + k) (by omega)]
  simp [segP]
theorem PtsAt.seg {w : World} {g h off : Nat} {ps : List Pt} (hp : PtsAt w g h off ps) (a b : Nat) (hb : b ≤ ps.length) : PtsAt w g h (off + a * 5) (segP ps (a, b)) := by
  intro k hk j hj
  have h1 : (segP ps (a, b)).length = b - a := by simp only [segP, List.length_take, List.length_drop]; omega
  rw [ptAt_seg ps a b k hb (by omega), ← hp (a + k) (by omega) j hj, show off + a * 5 + k * 5 + j = off + (a + k) * 5 + j by omega]
theorem pts_of_own {w : World} {base g : Nat} {t : TypeId} {A : Option Addr} {n c : Nat} {ps : List Pt} (h : w.ownsRow base t 5 (.slice A n c) n (ptCells g ps)) (hl : ps.length = n) (h0 : 0 < n) : ∃ q, A = some ⟨q, 0, none⟩ ∧ base ≤ q ∧ q < w.heap.size ∧ PtsAt w g q 0 ps := by
  obtain ⟨q, cap, hv, hg, hgl⟩ := h.form h0
  have hA : A = some ⟨q, 0, none⟩ := by injection hv
  subst hA
  refine ⟨q, rfl, hg, hgl, fun k hk j hj => ?_⟩
  rw [Nat.zero_add, h.cellAt _ (by omega), ptCells_at g ps k j hk hj]
theorem suffix_space (t : ByteArray) : Lib.hasSuffix t.data.toList [32] = spaceEnd t := by
  unfold Lib.hasSuffix spaceEnd
  rw [Bool.eq_iff_iff]
  simp only [List.isSuffixOf_iff_suffix, beq_iff_eq]
  constructor
  · rintro ⟨l, hl⟩
    rw [← hl]; simp
  · intro h
    have hne : t.data.toList ≠ [] := by intro e; rw [e] at h; cases h
    have h1 := List.dropLast_concat_getLast hne
    have h2 : t.data.toList.getLast hne = 32 := by rw [List.getLast?_eq_some_getLast hne] at h; injection h
    rw [h2] at h1
    exact ⟨_, h1⟩
end Go.Proofs.Ytadlabndbomgmaa
/- Plain law: in room enough nothing breaks. No program in sight. -/
namespace Go.Proofs.Ytadlabndbomgmaa
def dG (xs : List It) (ps : List Pt) : Int := widthG ps - tailG xs ps.reverse
def allSkip (xs : List It) (ps : List Pt) : Bool := ps.all fun p => skipA (pKind xs p)
theorem allSkip_cons (xs : List It) (p : Pt) (a : List Pt) : allSkip xs (p :: a) = (skipA (pKind xs p) && allSkip xs a) := rfl
theorem tailG_append (xs : List It) (a b : List Pt) : tailG xs (a ++ b) = if allSkip xs a then tailG xs b else tailG xs a := by
  induction a with
  | nil => rfl
  | cons p a ih =>
    rw [List.cons_append, allSkip_cons]
    simp only [tailG]
    by_cases h : skipA (pKind xs p) = true
    · rw [if_pos h, if_pos h, h, Bool.true_and]; exact ih
    · rw [if_neg h, if_neg h, if_neg (show ¬ (skipA (pKind xs p) && allSkip xs a) = true from by rw [Bool.and_eq_true]; exact fun q => h q.1)]
theorem allSkip_rev (xs : List It) (a : List Pt) : allSkip xs a.reverse = allSkip xs a := by simp [allSkip]
theorem tailG_skip (xs : List It) (a : List Pt) (h : allSkip xs a = true) : tailG xs a = 0 := by
  have := tailG_append xs a []
  rw [List.append_nil, h] at this
  simpa [tailG] using this
theorem dG_cons (xs : List It) (p : Pt) (r : List Pt) : dG xs (p :: r) = if allSkip xs r then p.w + widthG r - (if skipA (pKind xs p) then 0 else tailF xs p) else p.w + dG xs r := by
  unfold dG
  rw [widthG_cons, List.reverse_cons, tailG_append, allSkip_rev]
  split
  · simp [tailG]
  · omega
theorem dG_skip (xs : List It) (r : List Pt) (h : allSkip xs r = true) : dG xs r = widthG r := by
  unfold dG; rw [tailG_skip xs _ (by rw [allSkip_rev]; exact h)]; omega
theorem skip_coll {xs : List It} {p : Pt} (h : skipA (pKind xs p) = true) : collF xs p = false := by
  unfold collF
  unfold skipA at h
  have : (pKind xs p == 1) = false := by
    rw [Bool.or_eq_true, Bool.or_eq_true] at h
    simp only [beq_iff_eq] at h
    rw [beq_eq_false_iff_ne]
    omega
  rw [this]; rfl
theorem cleanF_skip (xs : List It) : ∀ (r : List Pt) (f : Bool), allSkip xs r = true → cleanF xs f r = r
  | [], _, _ => rfl
  | p :: r, f, h => by
    simp only [allSkip, List.all_cons, Bool.and_eq_true] at h
    have h1 := skip_coll h.1
    simp only [cleanF, h1, Bool.false_and, Bool.and_false, Bool.false_eq_true, if_false]
    rw [cleanF_skip xs r _ h.2]
theorem cleanF_width (xs : List It) : ∀ (r : List Pt) (f : Bool), (∀ p ∈ r, PtOk xs p) → widthG (cleanF xs f r) ≤ widthG r ∧ dG xs (cleanF xs f r) ≤ dG xs r
  | [], _, _ => ⟨Int.le_refl _, Int.le_refl _⟩
  | p :: r, f, h => by
    have hp := h p (by simp)
    unfold PtOk at hp
    have hr : ∀ q ∈ r, PtOk xs q := fun q hq => h q (by simp [hq])
    have hw := tailG_ok r.reverse (fun q hq => hr q (List.mem_reverse.1 hq))
    rw [widthG_rev] at hw
    simp only [cleanF]
    split
    · obtain ⟨i1, i2⟩ := cleanF_width xs r f hr
      rw [widthG_cons, dG_cons]
      refine ⟨by omega, ?_⟩
      by_cases hs : allSkip xs r = true
      · rw [if_pos hs]
        have := dG_skip xs r hs
        split <;> omega
      · rw [if_neg hs]; omega
    · obtain ⟨i1, i2⟩ := cleanF_width xs r (f || solidF xs p) hr
      rw [widthG_cons, widthG_cons, dG_cons, dG_cons]
      refine ⟨by omega, ?_⟩
      by_cases hs : allSkip xs r = true
      · rw [cleanF_skip xs r _ hs, if_pos hs]; exact Int.le_refl _
      · rw [if_neg hs]
        by_cases hc : allSkip xs (cleanF xs (f || solidF xs p) r) = true
        · rw [if_pos hc]
          have := dG_skip xs _ hc
          split <;> omega
        · rw [if_neg hc]; omega
theorem cleanF_sub (xs : List It) : ∀ (r : List Pt) (f : Bool), (cleanF xs f r).Sublist r
  | [], _ => List.Sublist.slnil
  | p :: r, f => by
    simp only [cleanF]
    split
    · exact List.Sublist.cons _ (cleanF_sub xs r f)
    · exact List.Sublist.cons_cons _ (cleanF_sub xs r _)
theorem cleanF_ends (xs : List It) (p : Pt) (hp : collF xs p = false) : ∀ (r : List Pt) (f : Bool), ∃ c, cleanF xs f (r ++ [p]) = c ++ [p]
  | [], f => ⟨[], by simp [cleanF, hp]⟩
  | q :: r, f => by
    simp only [List.cons_append, cleanF]
    split
    · exact cleanF_ends xs p hp r f
    · obtain ⟨c, hc⟩ := cleanF_ends xs p hp r (f || solidF xs q)
      exact ⟨q :: c, by rw [hc]; rfl⟩
/-- How many parts end their line. -/
def mustN (xs : List It) (ps : List Pt) : Nat := ps.countP fun p => pKind xs p == 6
theorem lastMust_of {xs : List It} {c : List Pt} (h : lastMust xs c = true) : 1 ≤ mustN xs c := by
  unfold lastMust at h
  cases hc : c.getLast? with
  | none => rw [hc] at h; cases h
  | some p =>
    rw [hc] at h
    have hm : p ∈ c := List.mem_of_getLast? hc
    exact List.countP_pos_iff.2 ⟨p, hm, h⟩
theorem endF_out (xs : List It) (sz ht al W : Int) (last : Bool) (st : BSt) : (endF xs sz ht al W last st).out.length ≤ st.out.length + 1 ∧ (endF xs sz ht al W last st).line = [] := by
  unfold endF; split <;> simp
theorem appF_out (xs : List It) (sz ht al W : Int) (st : BSt) (c : List Pt) : (appF xs sz ht al W st c).out.length ≤ st.out.length + mustN xs c ∧ ((appF xs sz ht al W st c).line = if lastMust xs c then [] else st.line ++ c) := by
  unfold appF
  by_cases h : lastMust xs c = true
  · rw [if_pos h, if_pos h]
    have h1 := endF_out xs sz ht al W true ⟨st.y, st.line ++ c, st.full || c.any (solidF xs), st.out⟩
    have h2 := lastMust_of h
    exact ⟨by have := h1.1; simp only at this; omega, h1.2⟩
  · rw [if_neg h, if_neg h]; exact ⟨Nat.le_add_right _ _, rfl⟩
theorem putF_fits (xs : List It) (sz ht al W : Int) (st : BSt) (g : List Pt) (h : widthG st.line + dG xs (cleanF xs st.full g) ≤ W) : putF xs sz ht al W st g = appF xs sz ht al W st (cleanF xs st.full g) := by
  unfold putF
  have : fitsF xs W st.line st.full (cleanF xs st.full g) = true := by
    unfold fitsF
    unfold dG at h
    rw [decide_eq_true (by omega)]; rfl
  rw [this]; rfl
def phi (s : Sz) : Int := max s.most s.fin
theorem szStep_phi {n : Nat} {s : Sz} {g : Int × Int × Bool} (h : SzOk n s) (hg : 0 ≤ g.2.1 ∧ g.2.1 ≤ g.1) : phi s ≤ phi (szStep s g) ∧ s.sum + (g.1 - g.2.1) ≤ phi (szStep s g) ∧ (szStep s g).sum = if g.2.2 then 0 else s.sum + g.1 := by
  obtain ⟨w, t, m⟩ := g
  unfold SzOk at h
  unfold szStep phi
  simp only at hg
  cases m
  · simp only [if_false, Bool.false_eq_true]
    exact ⟨by omega, by omega, trivial⟩
  · simp only [if_true]
    exact ⟨by omega, by omega, trivial⟩
theorem szTo_phi (gs : List (Int × Int × Bool)) (h : GsOk gs) (k j : Nat) (hj : k + j ≤ gs.length) : phi (szTo (gs.take k)) ≤ phi (szTo (gs.take (k + j))) := by
  induction j with
  | zero => exact Int.le_refl _
  | succ j ih =>
    have hlt : k + j < gs.length := by omega
    have h1 := szTo_ok gs h (k + j) (by omega)
    have h2 := h _ (List.getElem_mem hlt)
    rw [show k + (j + 1) = k + j + 1 by omega, List.take_succ_eq_append_getElem hlt, szTo_snoc]
    exact Int.le_trans (ih (by omega)) (szStep_phi h1 ⟨h2.1, h2.2.1⟩).1
/-- A group of parts as it is measured. -/
def gD (xs : List It) (g : List Pt) : Int × Int × Bool := (widthG g, tailG xs g.reverse, lastMust xs g)
theorem run_step (xs : List It) (sz ht al W y : Int) (gs : List (List Pt)) (k : Nat) (h : k < gs.length) : runF xs sz ht al W y (gs.take (k + 1)) = putF xs sz ht al W (runF xs sz ht al W y (gs.take k)) gs[k] := by
  unfold runF; rw [List.take_succ_eq_append_getElem h, List.foldl_append]; rfl
theorem collF_must {xs : List It} {p : Pt} (h : (pKind xs p == 6) = true) : collF xs p = false := by
  unfold collF
  have : (pKind xs p == 1) = false := by rw [beq_eq_false_iff_ne]; have := eq_of_beq h; omega
  rw [this]; rfl
theorem lastMust_clean {xs : List It} {g : List Pt} (f : Bool) (h : lastMust xs g = true) : lastMust xs (cleanF xs f g) = true := by
  unfold lastMust at h
  cases hc : g.getLast? with
  | none => rw [hc] at h; cases h
  | some p =>
    rw [hc] at h
    have hm : collF xs p = false := collF_must h
    obtain ⟨l, rfl⟩ := List.getLast?_eq_some_iff.1 hc
    obtain ⟨c, hc2⟩ := cleanF_ends xs p hm l f
    unfold lastMust
    rw [hc2]
    simpa using h
theorem run_one (xs : List It) (sz ht al W y : Int) (gs : List (List Pt)) (hok : ∀ g ∈ gs, ∀ p ∈ g, PtOk xs p) (hG : GsOk (gs.map (gD xs))) (hW : phi (szTo (gs.map (gD xs))) ≤ W) (k : Nat) (hk : k ≤ gs.length) :
    (runF xs sz ht al W y (gs.take k)).out.length ≤ ((gs.take k).map (mustN xs)).sum ∧ widthG (runF xs sz ht al W y (gs.take k)).line ≤ (szTo ((gs.map (gD xs)).take k)).sum := by
  induction k with
  | zero => simp [runF, szTo, widthG]
  | succ k ih =>
    obtain ⟨i1, i2⟩ := ih (by omega)
    have hlt : k < gs.length := by omega
    have hlt2 : k < (gs.map (gD xs)).length := by rw [List.length_map]; exact hlt
    have h1 := szTo_ok _ hG k (by omega)
    have h2 := hG _ (List.getElem_mem hlt2)
    have hcl := hok _ (List.getElem_mem hlt)
    have h3 := szTo_phi _ hG (k + 1) (gs.length - (k + 1)) (by rw [List.length_map]; omega)
    rw [show k + 1 + (gs.length - (k + 1)) = (gs.map (gD xs)).length by rw [List.length_map]; omega, List.take_length] at h3
    rw [run_step _ _ _ _ _ _ _ _ hlt]
    have eT : ((gs.take (k + 1)).map (mustN xs)).sum = ((gs.take k).map (mustN xs)).sum + mustN xs gs[k] := by
      rw [List.take_succ_eq_append_getElem hlt, List.map_append, List.sum_append]; simp
    have eD : (gs.map (gD xs)).take (k + 1) = (gs.map (gD xs)).take k ++ [gD xs gs[k]] := by
      rw [List.take_succ_eq_append_getElem hlt2, List.getElem_map]
    rw [eD, szTo_snoc] at h3 ⊢
    rw [eT]
    rw [List.getElem_map] at h2
    have h4 := szStep_phi h1 (g := gD xs gs[k]) ⟨h2.1, h2.2.1⟩
    generalize runF xs sz ht al W y (gs.take k) = st at *
    generalize gs[k] = g at *
    obtain ⟨c1, c2⟩ := cleanF_width xs g st.full hcl
    have c3 : dG xs g = (gD xs g).1 - (gD xs g).2.1 := rfl
    have c4 : widthG g = (gD xs g).1 := rfl
    rw [putF_fits xs sz ht al W st g (by omega)]
    obtain ⟨a1, a2⟩ := appF_out xs sz ht al W st (cleanF xs st.full g)
    have a3 : mustN xs (cleanF xs st.full g) ≤ mustN xs g := (cleanF_sub xs g st.full).countP_le
    refine ⟨by omega, ?_⟩
    rw [a2, h4.2.2]
    by_cases hm : lastMust xs g = true
    · rw [if_pos (lastMust_clean st.full hm), if_pos (show (gD xs g).2.2 = true from hm)]; simp [widthG]
    · rw [if_neg (show ¬ (gD xs g).2.2 = true from hm)]
      split
      · have : (0 : Int) ≤ (szTo ((gs.map (gD xs)).take k)).sum := by unfold SzOk at h1; omega
        simp only [widthG, List.map_nil, List.sum_nil]
        omega
      · rw [widthG_append]; omega
theorem segs_must (xs : List It) (ps : List Pt) (k : Nat) (hk : k ≤ ps.length) : (((groupsTo xs ps k).1.map (segP ps)).map (mustN xs)).sum ≤ mustN xs (ps.take (groupsTo xs ps k).2) := by
  induction k with
  | zero => simp [groupsTo]
  | succ k ih =>
    have h1 := ih (by omega)
    have h2 := (groups_ok xs ps k (by omega)).1
    simp only [groupsTo]
    split
    · simp only [List.map_append, List.sum_append, List.map_cons, List.map_nil, List.sum_cons, List.sum_nil]
      have e : ps.take (k + 1) = ps.take (groupsTo xs ps k).2 ++ segP ps ((groupsTo xs ps k).2, k + 1) := by
        unfold segP
        simp only
        rw [← List.take_add, show (groupsTo xs ps k).2 + (k + 1 - (groupsTo xs ps k).2) = k + 1 by omega]
      rw [e]
      unfold mustN at *
      rw [List.countP_append]
      omega
    · exact h1
theorem mustN_of (i : Nat) (x : It) (xs : List It) (hx : itAt xs i = x) : mustN xs (partsOf i x) = if x.kind = 6 then 1 else 0 := by
  have key : ∀ p : Pt, p.i = i → pKind xs p = x.kind := fun p h => by unfold pKind; rw [h, hx]
  unfold partsOf mustN
  by_cases h1 : x.kind = 1
  · rw [if_pos h1, if_neg (by omega)]
    rw [List.countP_eq_zero]
    intro p hp
    have := textParts_mem i x _ _ p hp
    rw [key p this.1, h1]; decide
  · rw [if_neg h1]
    by_cases h6 : x.kind = 6
    · rw [if_pos (.inl h6), if_pos h6]
      simp [key ⟨i, ByteArray.empty, 0, true⟩ rfl, h6]
    · rw [if_neg h6]
      split
      · simp [key ⟨i, ByteArray.empty, 0, true⟩ rfl, h6]
      · split
        · simp [key ⟨i, ByteArray.empty, max 0 (cut x.w), true⟩ rfl, h6]
        · simp [key ⟨i, ByteArray.empty, cut x.w, true⟩ rfl, h6]
theorem parts_must (xs : List It) (k : Nat) (hk : k ≤ xs.length) : mustN xs (partsTo xs k) = (xs.take k).countP fun x => x.kind == 6 := by
  induction k with
  | zero => simp [partsTo, mustN]
  | succ k ih =>
    have hlt : k < xs.length := by omega
    rw [partsTo_next, List.take_succ_eq_append_getElem hlt, List.countP_append, ← ih (by omega), ← itAt_of xs k hlt]
    show List.countP _ (_ ++ _) = _
    rw [List.countP_append]
    have := mustN_of k (itAt xs k) xs rfl
    unfold mustN at this ⊢
    rw [this]
    congr 1
    simp [List.countP_cons]
theorem lastMust_seg (xs : List It) (ps : List Pt) (g : Nat × Nat) (h1 : g.1 < g.2) (h2 : g.2 ≤ ps.length) : lastMust xs (segP ps g) = (pKind xs (ptAt ps (g.2 - 1)) == 6) := by
  have hl : (segP ps g).length = g.2 - g.1 := by unfold segP; rw [List.length_take, List.length_drop]; omega
  have hlast : (segP ps g).getLast? = some (ptAt ps (g.2 - 1)) := by
    rw [List.getLast?_eq_getElem?, hl]
    have := ptAt_seg ps g.1 g.2 (g.2 - g.1 - 1) h2 (by omega)
    rw [List.getElem?_eq_getElem (by omega)]
    rw [ptAt_of _ _ (by show g.2 - g.1 - 1 < (segP ps (g.1, g.2)).length; rw [show (g.1, g.2) = g from rfl]; omega)] at this
    rw [show g.1 + (g.2 - g.1 - 1) = g.2 - 1 by omega] at this
    exact congrArg some this
  unfold lastMust
  rw [hlast]
theorem groupsD_segs (xs : List It) : groupsD xs = (segsF xs).map (gD xs) := by
  unfold groupsD segsF
  rw [List.map_map]
  refine List.map_congr_left fun g hg => ?_
  have h := (groups_ok xs (partsTo xs xs.length) (partsTo xs xs.length).length (Nat.le_refl _)).2.1 g hg
  unfold gData gD
  simp only [Function.comp]
  rw [lastMust_seg xs _ g h.1 h.2]
/-- In room enough nothing breaks. -/
theorem one_law (xs : List It) (hok : ItsOk xs) (sz ht al y W : Int) (hW : W = cut (max (szTo (groupsD xs)).most (szTo (groupsD xs)).fin)) (hlt : W < 16777216) :
    (breakF xs sz ht al W y).length ≤ 1 + xs.countP fun x => x.kind == 6 := by
  have hG := groupsD_ok hok
  have hp := (partsTo_ok hok xs.length (Nat.le_refl _)).1
  have h0 := szTo_ok _ hG (groupsD xs).length (Nat.le_refl _)
  rw [List.take_length] at h0
  have hphi : phi (szTo (groupsD xs)) ≤ W := by
    unfold SzOk at h0
    unfold cut at hW
    unfold phi
    omega
  rw [groupsD_segs] at hG hphi
  have hseg : ∀ g ∈ segsF xs, ∀ p ∈ g, PtOk xs p := fun g hg p hpg => by
    unfold segsF at hg
    obtain ⟨q, _, rfl⟩ := List.mem_map.1 hg
    exact (hp p (segP_mem p hpg)).2
  obtain ⟨r1, _⟩ := run_one xs sz ht al W y (segsF xs) hseg hG hphi (segsF xs).length (Nat.le_refl _)
  rw [List.take_length] at r1
  have hm := segs_must xs (partsTo xs xs.length) (partsTo xs xs.length).length (Nat.le_refl _)
  have hm2 : mustN xs ((partsTo xs xs.length).take (groupsTo xs (partsTo xs xs.length) (partsTo xs xs.length).length).2) ≤ mustN xs (partsTo xs xs.length) := (List.take_sublist _ _).countP_le
  have hm3 := parts_must xs xs.length (Nat.le_refl _)
  rw [List.take_length] at hm3
  have r2 : (runF xs sz ht al W y (segsF xs)).out.length ≤ xs.countP fun x => x.kind == 6 := Nat.le_trans r1 (Nat.le_trans hm (Nat.le_trans hm2 (Nat.le_of_eq hm3)))
  unfold breakF finF
  split
  · have := (endF_out xs sz ht al W true (runF xs sz ht al W y (segsF xs))).1
    omega
  · unfold lastLn
    split
    · rename_i x hx
      obtain ⟨l, hl⟩ := List.getLast?_eq_some_iff.1 hx
      rw [hl] at r2 ⊢
      simp at r2 ⊢
      omega
    · simp
end Go.Proofs.Ytadlabndbomgmaa
/- Lines as they are broken, where things float among them: a plain model that lets what floats stand anywhere; where nothing floats it is the breaker of BrkPlain. No program in sight. -/
namespace Go.Proofs.Ytadlabndbomgmaa
/-- The breaker's state. -/
structure BG where
  y : Int
  ind : Int
  left : Int
  right : Int
  line : List Pt
  full : Bool
  late : List Pt
  out : List Ln
  fs : List Fl
section
variable (xs : List It) (sz ht al W : Int)
def floatP (p : Pt) : Bool := pKind xs p == 5
def endsG (st : BG) : BG := { st with left := (edgesF W (cut st.y) (cut ht) st.fs).1 + st.ind, right := (edgesF W (cut st.y) (cut ht) st.fs).2.1 }
def resetG (st : BG) (fs : List Fl) : BG := endsG ht W { st with line := [], full := false, late := [], fs := fs }
def BeginR (st st' : BG) : Prop := ∃ fs, (st.late = [] → fs = st.fs) ∧ st' = resetG ht W st fs
def tellG (last : Bool) (st : BG) : BG := if st.line.any (toldF xs) then { st with y := st.y + highF xs sz ht st.line, out := st.out ++ [lnOf xs sz ht al st.y st.left st.right st.line last] } else st
def EndR (last : Bool) (st st' : BG) : Prop := BeginR ht W { tellG xs sz ht al last st with ind := 0 } st'
def lowStep (y a : Int) (f : Fl) : Int := if 0 < f.h ∧ y < f.y + f.h then min a (f.y + f.h) else a
def lowF (y : Int) (fs : List Fl) : Int := fs.foldl (lowStep y) 16777217
def noLow (st : BG) : Bool := decide (16777216 < lowF st.y st.fs) || (st.left == st.ind && st.right == W)
def lowG (st : BG) : BG := endsG ht W { st with y := lowF st.y st.fs }
def fitsG (st : BG) (c : List Pt) : Bool := decide (widthG st.line + widthG c - tailG xs c.reverse ≤ st.right - st.left) || (!c.any (solidF xs) && st.full)
/-- A round of put's loop. -/
def StepR (g : List Pt) (st st' : BG) : Prop := fitsG xs st (cleanF xs st.full g) = false ∧ ((st.full = true ∧ EndR xs sz ht al W false st st') ∨ (st.full = false ∧ noLow W st = false ∧ st' = lowG ht W st))
inductive Steps (g : List Pt) : BG → BG → Prop
  | refl (a : BG) : Steps g a a
  | snoc {a b c : BG} : Steps g a b → StepR xs sz ht al W g b c → Steps g a c
def DoneR (g : List Pt) (st : BG) : Prop := fitsG xs st (cleanF xs st.full g) = true ∨ (st.full = false ∧ noLow W st = true)
def addFl (st : BG) (c : List Pt) (st' : BG) : Prop :=
  (st.full = true ∧ st' = { st with late := st.late ++ c.filter (floatP xs) }) ∨ (st.full = false ∧ ((c.filter (floatP xs) = [] ∧ st' = st) ∨ (c.filter (floatP xs) ≠ [] ∧ ∃ fs, st' = endsG ht W { st with fs := fs })))
def addLn (st : BG) (c : List Pt) : BG := { st with line := st.line ++ c, full := st.full || c.any (solidF xs) }
def PutR (st : BG) (g : List Pt) (st' : BG) : Prop :=
  ∃ s1 s2, Steps xs sz ht al W g st s1 ∧ DoneR xs W g s1 ∧ addFl xs ht W s1 (cleanF xs s1.full g) s2 ∧
    ((lastMust xs (cleanF xs s1.full g) = true ∧ EndR xs sz ht al W true (addLn xs s2 (cleanF xs s1.full g)) st') ∨ (lastMust xs (cleanF xs s1.full g) = false ∧ st' = addLn xs s2 (cleanF xs s1.full g)))
inductive RunR : BG → List (List Pt) → BG → Prop
  | nil (a : BG) : RunR a [] a
  | snoc {a b c : BG} {gs : List (List Pt)} {g : List Pt} : RunR a gs b → PutR xs sz ht al W b g c → RunR a (gs ++ [g]) c
def FinR (st : BG) (out : List Ln) : Prop := (st.line ≠ [] ∧ ∃ st', EndR xs sz ht al W true st st' ∧ out = st'.out) ∨ (st.line = [] ∧ out = lastLn st.out)
def BreakR (y ind : Int) (fs : List Fl) (out : List Ln) : Prop :=
  ∃ s0 s1, BeginR ht W ⟨y, ind, 0, 0, [], false, [], [], fs⟩ s0 ∧ RunR xs sz ht al W s0 (segsF xs) s1 ∧ FinR xs sz ht al W s1 out
end
/-! Where nothing floats. -/
structure Sim (W : Int) (st : BG) (s : BSt) : Prop where
  y : st.y = s.y
  line : st.line = s.line
  full : st.full = s.full
  out : st.out = s.out
  ind : st.ind = 0
  left : st.left = 0
  right : st.right = W
  late : st.late = []
  fs : st.fs = []
theorem sim_end {xs : List It} {sz ht al W : Int} {st st' : BG} {s : BSt} (h : Sim W st s) (last : Bool) (e : EndR xs sz ht al W last st st') : Sim W st' (endF xs sz ht al W last s) := by
  obtain ⟨fs, hf, rfl⟩ := e
  obtain ⟨h1, h2, h3, h4, h5, h6, h7, h8, h9⟩ := h
  have hl : ({ tellG xs sz ht al last st with ind := 0 } : BG).late = [] := by unfold tellG; split <;> exact h8
  have hs : ({ tellG xs sz ht al last st with ind := 0 } : BG).fs = [] := by unfold tellG; split <;> exact h9
  obtain rfl := (hf hl).trans hs
  unfold resetG endsG tellG endF
  rw [h2]
  by_cases ht : s.line.any (toldF xs) = true
  · rw [if_pos ht, if_pos ht]
    refine ⟨?_, rfl, rfl, ?_, rfl, rfl, rfl, rfl, rfl⟩
    · simp only [h1]
    · simp only [h1, h4, h6, h7]
  · rw [if_neg ht, if_neg ht]
    exact ⟨h1, rfl, rfl, h4, rfl, rfl, rfl, rfl, rfl⟩
theorem sim_noLow {W : Int} {st : BG} {s : BSt} (h : Sim W st s) : noLow W st = true := by
  unfold noLow
  rw [h.fs]
  rfl
theorem sim_fits {xs : List It} {W : Int} {st : BG} {s : BSt} (h : Sim W st s) (c : List Pt) : fitsG xs st c = fitsF xs W s.line s.full c := by
  unfold fitsG fitsF
  rw [h.line, h.left, h.right, h.full, Int.sub_zero]
theorem sim_steps {xs : List It} {sz ht al W : Int} {g : List Pt} {st st' : BG} {s : BSt} (h : Sim W st s) (e : Steps xs sz ht al W g st st') :
    (Sim W st' s) ∨ (fitsF xs W s.line s.full (cleanF xs s.full g) = false ∧ s.full = true ∧ Sim W st' (endF xs sz ht al W false s)) := by
  induction e with
  | refl => exact .inl h
  | snoc _ k ih =>
    rcases ih with i | ⟨i1, i2, i3⟩
    · obtain ⟨k1, k2⟩ := k
      rw [i.full, sim_fits i] at k1
      rcases k2 with ⟨k2, k3⟩ | ⟨_, k3, _⟩
      · exact .inr ⟨k1, by rw [← i.full]; exact k2, sim_end i false k3⟩
      · rw [sim_noLow i] at k3; cases k3
    · obtain ⟨k1, k2⟩ := k
      rcases k2 with ⟨k2, _⟩ | ⟨_, k3, _⟩
      · rw [i3.full] at k2
        unfold endF at k2
        split at k2 <;> cases k2
      · rw [sim_noLow i3] at k3; cases k3
theorem sim_add {xs : List It} {ht W : Int} {st st' : BG} {s : BSt} {c : List Pt} (hc : ∀ p ∈ c, floatP xs p = false) (h : Sim W st s) (e : addFl xs ht W st c st') : Sim W (addLn xs st' c) ⟨s.y, s.line ++ c, s.full || c.any (solidF xs), s.out⟩ := by
  have hn : c.filter (floatP xs) = [] := List.filter_eq_nil_iff.2 fun p hp => by rw [hc p hp]; simp
  obtain ⟨h1, h2, h3, h4, h5, h6, h7, h8, h9⟩ := h
  rcases e with ⟨_, rfl⟩ | ⟨_, ⟨_, rfl⟩ | ⟨e1, _⟩⟩
  · exact ⟨h1, by simp only [addLn, h2], by simp only [addLn, h3], h4, h5, h6, h7, by simp only [addLn, hn, h8, List.append_nil], h9⟩
  · exact ⟨h1, by simp only [addLn, h2], by simp only [addLn, h3], h4, h5, h6, h7, h8, h9⟩
  · exact absurd hn e1
theorem sim_app {xs : List It} {sz ht al W : Int} {s1 s2 st' : BG} {s : BSt} {c : List Pt} (hc : ∀ p ∈ c, floatP xs p = false) (h : Sim W s1 s) (e : addFl xs ht W s1 c s2)
    (k : (lastMust xs c = true ∧ EndR xs sz ht al W true (addLn xs s2 c) st') ∨ (lastMust xs c = false ∧ st' = addLn xs s2 c)) : Sim W st' (appF xs sz ht al W s c) := by
  have hs := sim_add hc h e
  unfold appF
  rcases k with ⟨k1, k2⟩ | ⟨k1, rfl⟩
  · rw [if_pos k1]
    exact sim_end hs true k2
  · rw [if_neg (by rw [k1]; decide)]
    exact hs
theorem sim_put {xs : List It} {sz ht al W : Int} {g : List Pt} {st st' : BG} {s : BSt} (hg : ∀ p ∈ g, floatP xs p = false) (h : Sim W st s) (e : PutR xs sz ht al W st g st') : Sim W st' (putF xs sz ht al W s g) := by
  obtain ⟨s1, s2, e1, e2, e3, e4⟩ := e
  have hc : ∀ f, ∀ p ∈ cleanF xs f g, floatP xs p = false := fun f p hp => hg p ((cleanF_sub xs g f).mem hp)
  unfold putF
  rcases sim_steps h e1 with i | ⟨i1, i2, i3⟩
  · have hd : ¬ ((!fitsF xs W s.line s.full (cleanF xs s.full g) && s.full) = true) := by
      intro hh
      rw [Bool.and_eq_true] at hh
      rcases e2 with d | ⟨d, _⟩
      · rw [i.full, sim_fits i] at d
        rw [d] at hh
        cases hh.1
      · rw [i.full, hh.2] at d; cases d
    rw [if_neg hd, ← i.full]
    exact sim_app (hc _) i e3 e4
  · rw [if_pos (by rw [i1, i2]; rfl)]
    have hf : s1.full = false := by rw [i3.full]; unfold endF; split <;> rfl
    rw [hf] at e3 e4
    exact sim_app (hc _) i3 e3 e4
theorem sim_run {xs : List It} {sz ht al W : Int} {gs : List (List Pt)} {st st' : BG} {s : BSt} (h : Sim W st s) (e : RunR xs sz ht al W st gs st') (hg : ∀ g ∈ gs, ∀ p ∈ g, floatP xs p = false) : Sim W st' (gs.foldl (putF xs sz ht al W) s) := by
  induction e with
  | nil => exact h
  | snoc _ k ih =>
    rw [List.foldl_append]
    exact sim_put (hg _ (by simp)) (ih fun g hgm => hg g (by simp [hgm])) k
theorem break_sim {xs : List It} {sz ht al W y : Int} {out : List Ln} (hx : ∀ x ∈ xs, x.kind ≠ 5) (e : BreakR xs sz ht al W y 0 [] out) : out = breakF xs sz ht al W y := by
  obtain ⟨s0, s1, e1, e2, e3⟩ := e
  have hfl : ∀ p : Pt, floatP xs p = false := fun p => by
    unfold floatP pKind itAt List.getD
    cases hq : xs[p.i]? with
    | none => rfl
    | some x =>
      have := hx x (List.mem_of_getElem? hq)
      simpa using this
  obtain ⟨fs, hf, rfl⟩ := e1
  obtain rfl : fs = [] := hf rfl
  have h0 : Sim W (resetG ht W ⟨y, 0, 0, 0, [], false, [], [], []⟩ []) ⟨y, [], false, []⟩ := ⟨rfl, rfl, rfl, rfl, rfl, rfl, rfl, rfl, rfl⟩
  have h1 := sim_run h0 e2 fun g _ p _ => hfl p
  show out = finF xs sz ht al W (runF xs sz ht al W y (segsF xs))
  unfold runF
  generalize (segsF xs).foldl (putF xs sz ht al W) ⟨y, [], false, []⟩ = s at h1 ⊢
  unfold finF
  rcases e3 with ⟨k1, st', k2, rfl⟩ | ⟨k1, rfl⟩
  · rw [if_pos (by rw [← h1.line]; exact k1)]
    exact (sim_end h1 true k2).out
  · rw [if_neg (by rw [← h1.line]; exact fun h => h k1), h1.out]
end Go.Proofs.Ytadlabndbomgmaa
/- Items of lines that came in, opened: what lies in memory reads as a list of them. -/
namespace Go.Proofs.Ytadlabndbomgmaa
open Go.RowKit Go.ChangeShapes Go.WideShapes Go.Deep Go.ChangeAt
theorem its_of {P : Nat → It → Prop} : ∀ n, (∀ k, k < n → ∃ c, P k c) → ∃ l : List It, l.length = n ∧ ∀ k, k < n → P k (itAt l k)
  | 0, _ => ⟨[], rfl, fun k hk => absurd hk (Nat.not_lt_zero _)⟩
  | n + 1, h => by
    obtain ⟨l, hl, hp⟩ := its_of n fun k hk => h k (by omega)
    obtain ⟨c, hc⟩ := h n (by omega)
    refine ⟨l ++ [c], by simp [hl], fun k hk => ?_⟩
    by_cases e : k = n
    · subst e
      rw [itAt_of _ _ (by simp; omega), List.getElem_append_right (by omega)]
      simpa [hl] using hc
    · have := hp k (by omega)
      rw [itAt_of _ _ (by omega)] at this
      rw [itAt_of _ _ (by simp; omega), List.getElem_append_left (by omega)]
      exact this
/-- Items that came in: they lie from some place on. -/
def ItsIn (w : World) (A : Option Addr) (l : List It) : Prop := ∀ k, k < l.length → ∃ g off, A = some ⟨g, off, none⟩ ∧ g < w.heap.size ∧ ∀ j, j < 11 → w.cell? ⟨g, off + k * 11 + j, none⟩ = (itC (itAt l k))[j]?
section
variable {H : Type} {enc : TypeId × Value → H} {w : World} {base : Nat} {spare : Nat → Bool} {held : Bool}
set_option maxRecDepth 100000 in
theorem open_its {r : Reach} {b0 : Nat} {v : Value} {d : DataW H} {ps : List MemPlace} (hval : Value.okWide Try.prog w r b0 96 v) (hd : DataW.Trod enc Try.prog w base spare held 96 v d ps) :
    ∃ (A : Option Addr) (n c : Nat) (l : List It), v = .slice A n c ∧ n ≤ c ∧ c ≤ maxLen ∧ l.length = n ∧ ItsIn w A l ∧ ∀ k, k < n → (itAt l k).text.size ≤ maxLen := by
  obtain ⟨A, n, c, rfl⟩ := okWide_slice Try.underlying96 hval
  obtain ⟨fuel, hf⟩ := hd
  rcases open_slice_fields Try.underlying96 Try.underlying100 (by kernel_rfl) (by kernel_rfl) hf with ⟨hcs, _⟩ | ⟨a, l, c', m, D, Pl, hcs, _, hl, hm, hmm, _, hel⟩
  · simp [Value.cells] at hcs
    obtain ⟨rfl, rfl, rfl⟩ := hcs
    exact ⟨none, 0, 0, [], rfl, Nat.le_refl _, Nat.zero_le _, rfl, fun k hk => absurd hk (Nat.not_lt_zero _), fun k hk => absurd hk (Nat.not_lt_zero _)⟩
  · simp [Value.cells] at hcs
    obtain ⟨rfl, rfl, rfl⟩ := hcs
    have hnm : n ≤ m := by rw [hmm]; split <;> omega
    have hx : ∀ k, k < n → ∃ x : It, (∀ j, j < 11 → w.cell? (a.add (k * 11 + j)) = (itC x)[j]?) ∧ x.text.size ≤ maxLen := by
      intro k hk
      obtain ⟨ys, n', _, _, _, hfd⟩ := hel k (by omega)
      obtain ⟨v0, y0, c0, _, t0⟩ := hfd 0 _ rfl
      obtain ⟨v1, y1, c1, _, t1⟩ := hfd 1 _ rfl
      obtain ⟨v2, y2, c2, _, t2⟩ := hfd 2 _ rfl
      obtain ⟨v3, y3, c3, _, t3⟩ := hfd 3 _ rfl
      obtain ⟨v4, y4, c4, _, t4⟩ := hfd 4 _ rfl
      obtain ⟨v5, y5, c5, _, t5⟩ := hfd 5 _ rfl
      obtain ⟨v6, y6, c6, _, t6⟩ := hfd 6 _ rfl
      obtain ⟨v7, y7, c7, _, t7⟩ := hfd 7 _ rfl
      obtain ⟨v8, y8, c8, _, t8⟩ := hfd 8 _ rfl
      obtain ⟨v9, y9, c9, _, t9⟩ := hfd 9 _ rfl
      obtain ⟨v10, y10, c10, _, t10⟩ := hfd 10 _ rfl
      obtain ⟨x0, e0, _, _⟩ := DataW.trod_int Try.underlying3 t0
      obtain ⟨x1, e1, _, _⟩ := DataW.trod_int Try.underlying3 t1
      obtain ⟨x2, e2, _, sz2⟩ := DataW.trod_string Try.underlying9 t2
      obtain ⟨x3, e3, _, _⟩ := DataW.trod_int Try.underlying3 t3
      obtain ⟨x4, e4, _, _⟩ := DataW.trod_int Try.underlying3 t4
      obtain ⟨x5, e5, _, _⟩ := DataW.trod_int Try.underlying3 t5
      obtain ⟨x6, e6, _, _⟩ := DataW.trod_int Try.underlying3 t6
      obtain ⟨x7, e7, _, _⟩ := DataW.trod_int Try.underlying3 t7
      obtain ⟨x8, e8, _, _⟩ := DataW.trod_int Try.underlying3 t8
      obtain ⟨x9, e9, _, _⟩ := DataW.trod_int Try.underlying3 t9
      obtain ⟨x10, e10, _, _⟩ := DataW.trod_int Try.underlying3 t10
      injection e0 with e0 _; injection e1 with e1 _; injection e2 with e2 _; injection e3 with e3 _; injection e4 with e4 _; injection e5 with e5 _; injection e6 with e6 _; injection e7 with e7 _; injection e8 with e8 _; injection e9 with e9 _; injection e10 with e10 _
      subst e0 e1 e2 e3 e4 e5 e6 e7 e8 e9 e10
      refine ⟨⟨x0, x1, x2, x3, x4, x5, x6, x7, x8, x9, x10⟩, fun j hj => ?_, sz2⟩
      rcases (show j = 0 ∨ j = 1 ∨ j = 2 ∨ j = 3 ∨ j = 4 ∨ j = 5 ∨ j = 6 ∨ j = 7 ∨ j = 8 ∨ j = 9 ∨ j = 10 by omega) with rfl | rfl | rfl | rfl | rfl | rfl | rfl | rfl | rfl | rfl | rfl
      · exact c0
      · exact c1
      · exact c2
      · exact c3
      · exact c4
      · exact c5
      · exact c6
      · exact c7
      · exact c8
      · exact c9
      · exact c10
    obtain ⟨L, hL, hc⟩ := its_of n hx
    refine ⟨some a, n, c, L, rfl, hl, hm, hL, fun k hk => ?_, fun k hk => (hc k hk).2⟩
    have h0 := (hc k (by omega)).1 0 (by omega)
    have h1 := cell_lt (h0.trans rfl)
    rw [block_of_add] at h1
    obtain ⟨g, off, spot⟩ := a
    have hspot : spot = none := by
      have h2 := (hc 0 (by omega)).1 0 (by omega)
      simp [Addr.add] at h2
      have h3 : w.cell? ⟨g, off, spot⟩ = some (.int .i64 (itAt L 0).kind) := h2
      simpa using World.cell?_spot h3
    subst hspot
    refine ⟨g, off, rfl, h1, fun j hj => ?_⟩
    have hadd : ∀ i, (⟨g, off, none⟩ : Addr).add i = ⟨g, off + i, none⟩ := fun i => by unfold Addr.add; split <;> simp_all
    rw [Nat.add_assoc, ← hadd]
    exact (hc k (by omega)).1 j hj
end
end Go.Proofs.Ytadlabndbomgmaa
/- Plain facts on the parts of a text. No program in sight. -/
namespace Go.Proofs.Ytadlabndbomgmaa
open Go.RowKit
def pieceAt (l : List ByteArray) (q : Nat) : ByteArray := l.getD q ByteArray.empty
theorem pieceAt_of (l : List ByteArray) (q : Nat) (h : q < l.length) : pieceAt l q = l[q] := by simp [pieceAt, List.getD, List.getElem?_eq_getElem h]
def textPt (i : Nat) (x : It) (l : List ByteArray) (q : Nat) : Pt := ⟨i, pieceAt l q, txW x (pieceAt l q), l.length - q == 1⟩
def textTo (i : Nat) (x : It) (l : List ByteArray) (k : Nat) : List Pt := (List.range k).map (textPt i x l)
theorem textTo_next (i : Nat) (x : It) (l : List ByteArray) (k : Nat) : textTo i x l (k + 1) = textTo i x l k ++ [textPt i x l k] := by simp [textTo, List.range_succ]
theorem textParts_map (i : Nat) (x : It) : ∀ (l : List ByteArray) (n : Nat), textParts i x n l = (List.range l.length).map fun q => ⟨i, pieceAt l q, txW x (pieceAt l q), n - q == 1⟩
  | [], n => rfl
  | t :: r, n => by
    simp only [textParts]
    rw [textParts_map i x r (n - 1), List.length_cons, List.range_succ_eq_map, List.map_cons, List.map_map]
    congr 1
    refine List.map_congr_left fun q _ => ?_
    simp only [Function.comp]
    have e : n - 1 - q = n - (q + 1) := by omega
    rw [e]; rfl
theorem textTo_all (i : Nat) (x : It) (l : List ByteArray) : textTo i x l l.length = textParts i x l.length l := (textParts_map i x l l.length).symm
end Go.Proofs.Ytadlabndbomgmaa
/- The walk of tame: at most 25 items, of bounded numbers. -/
namespace Go.Proofs.Ytadlabndbomgmaa
open Go.ChangeShapes Go.WideShapes Go.ChangeAt Go.RowKit
theorem item_info : (Try.prog.info? 100).map (fun i => (i.zero, i.size, i.bytes)) = some (some (.agg #[.int .i64 0, .int .i64 0, .string ByteArray.empty, .int .i64 0, .int .i64 0, .int .i64 0, .int .i64 0, .int .i64 0, .int .i64 0, .int .i64 0, .int .i64 0]), 11, 96) := by kernel_rfl
theorem tu16 (n : Int) : 0 ≤ IntKind.u16.wrap n ∧ IntKind.u16.wrap n ≤ 65535 := by rw [IntKind.wrap_u16]; omega
theorem ti8 (n : Int) : -128 ≤ IntKind.i8.wrap n ∧ IntKind.i8.wrap n ≤ 127 := by simp only [IntKind.wrap, IntKind.bits, IntKind.signed]; simp; omega
def tameI (x : It) : It := ⟨x.kind, x.box, x.text.extract 0 (min (x.text.size : Int) 60).toNat, IntKind.u16.wrap x.size, x.spacing % 256, IntKind.u16.wrap x.height, x.mode, IntKind.i8.wrap x.shift, IntKind.u16.wrap x.w, IntKind.u16.wrap x.h, x.side⟩
def tameTo (l : List It) (k : Nat) : List It := (l.take k).map tameI
def tameF (l : List It) : List It := tameTo l (min l.length 25)
theorem tameTo_len (l : List It) (k : Nat) (h : k ≤ l.length) : (tameTo l k).length = k := by simp [tameTo, h]
theorem tameTo_next (l : List It) (k : Nat) (h : k < l.length) : tameTo l (k + 1) = tameTo l k ++ [tameI (itAt l k)] := by
  unfold tameTo; rw [List.take_succ_eq_append_getElem h, List.map_append, itAt_of l k h]; rfl
theorem tameI_ok (x : It) : ItOk (tameI x) := by
  have h1 := tu16 x.size
  have h2 := tu16 x.height
  have h3 := ti8 x.shift
  have h4 := tu16 x.w
  have h5 := tu16 x.h
  have h6 : (x.text.extract 0 (min (x.text.size : Int) 60).toNat).size ≤ 60 := by rw [ByteArray.size_extract]; omega
  unfold ItOk tameI
  simp only
  omega
theorem tameF_ok (l : List It) : ItsOk (tameF l) := by
  refine ⟨by unfold tameF; rw [tameTo_len _ _ (by omega)]; omega, fun x hx => ?_⟩
  unfold tameF tameTo at hx
  obtain ⟨y, _, rfl⟩ := List.mem_map.1 hx
  exact tameI_ok y
set_option maxRecDepth 100000 in
set_option maxHeartbeats 4000000 in
theorem tame_any (l : List It) (A : Option Addr) (c : Nat) (w : World) (hr : ItsIn w A l) (hn : l.length ≤ c) (hc : c ≤ maxLen) (hs : ∀ k, k < l.length → (itAt l k).text.size ≤ maxLen) :
    Calls Try.prog 63 #[.slice A l.length c] w fun e w' => ∃ v, e = .returned v ∧ w'.ownsRow w.heap.size 100 11 v (tameF l).length (itCells (tameF l)) ∧ Below w.heap.size w w' := by
  unfold maxLen at hc
  have Hr := hide hr
  have HZ := hide hs
  have HF := hide (show tameF l = tameTo l (min l.length 25) from rfl)
  clear hr hs
  go_enter Try.func63, Try.ntmps63
  go_wp2_with fail
  have En : (min (l.length : Int) 25).toNat = min l.length 25 := by omega
  have En3 : max (min (l.length : Int) 25) 0 = ((min l.length 25 : Nat) : Int) := by omega
  have En2 : min (l.length : Int) 25 = ((min l.length 25 : Nat) : Int) := by omega
  rw [En, En3, En2]
  clear En En3 En2
  have hn1 : min l.length 25 ≤ l.length := by omega
  have hn2 : min l.length 25 ≤ 25 := by omega
  generalize hm : min l.length 25 = m at *
  clear hm
  go_loopw [3, 12] (fun v i wr => ∃ k : Nat, k ≤ m ∧ i = .int .i64 k ∧ wr.ownsRow w.heap.size 100 11 v k (itCells (tameTo l k)) ∧ Below w.heap.size w wr) (fun _ i _ => m - (intOf i).toNat)
  case atStart => exact ⟨0, Nat.zero_le _, rfl, own_none _ _ _ _, Below.refl _ _⟩
  case round =>
    obtain ⟨k, hk, rfl, hown, hbel⟩ := hrel
    have HW := hide hown
    have hszr := hbel.size
    clear hown
    obtain ⟨v, hv⟩ : ∃ v, v = u3 := ⟨_, rfl⟩
    rw [← hv] at HW ⊢
    clear hv
    by_cases hlt : k < m
    · obtain ⟨g, off, rfl, hgl, hcell⟩ := Hr.out k (by omega)
      have cc : ∀ j, j < 11 → wr.cell? ⟨g, off + k * 11 + j, none⟩ = (itC (itAt l k))[j]? := fun j hj => (hbel.cell (p := ⟨g, off + k * 11 + j, none⟩) hgl).trans (hcell j hj)
      have HNX := hide (tameTo_next l k (by omega))
      have hsz := HZ.out k (by omega)
      unfold maxLen at hsz
      clear hcell
      generalize itAt l k = x at *
      obtain ⟨kd, bx, tx, sz, sp, ht, md, sh, wd, hh, sd⟩ := x
      simp only at hsz
      have d0 : wr.cell? ⟨g, off + k * 11, none⟩ = some (.int .i64 kd) := cc 0 (by omega)
      have d1 : wr.cell? ⟨g, off + k * 11 + 1, none⟩ = some (.int .i64 bx) := cc 1 (by omega)
      have d2 : wr.cell? ⟨g, off + k * 11 + 2, none⟩ = some (.string tx) := cc 2 (by omega)
      have d3 : wr.cell? ⟨g, off + k * 11 + 3, none⟩ = some (.int .i64 sz) := cc 3 (by omega)
      have d4 : wr.cell? ⟨g, off + k * 11 + 4, none⟩ = some (.int .i64 sp) := cc 4 (by omega)
      have d5 : wr.cell? ⟨g, off + k * 11 + 5, none⟩ = some (.int .i64 ht) := cc 5 (by omega)
      have d6 : wr.cell? ⟨g, off + k * 11 + 6, none⟩ = some (.int .i64 md) := cc 6 (by omega)
      have d7 : wr.cell? ⟨g, off + k * 11 + 7, none⟩ = some (.int .i64 sh) := cc 7 (by omega)
      have d8 : wr.cell? ⟨g, off + k * 11 + 8, none⟩ = some (.int .i64 wd) := cc 8 (by omega)
      have d9 : wr.cell? ⟨g, off + k * 11 + 9, none⟩ = some (.int .i64 hh) := cc 9 (by omega)
      have d10 : wr.cell? ⟨g, off + k * 11 + 10, none⟩ = some (.int .i64 sd) := cc 10 (by omega)
      clear cc
      have h1 := tu16 sz
      have h2 := tu16 ht
      have h3 := ti8 sh
      have h4 := tu16 wd
      have h5 := tu16 hh
      have MS := hide (show itCells (tameTo l (k + 1)) = itCells (tameTo l k) ++ (#[.int .i64 kd, .int .i64 bx, .string (tx.extract 0 (min (tx.size : Int) 60).toNat), .int .i64 (IntKind.u16.wrap sz), .int .i64 (sp % 256), .int .i64 (IntKind.u16.wrap ht), .int .i64 md, .int .i64 (IntKind.i8.wrap sh), .int .i64 (IntKind.u16.wrap wd), .int .i64 (IntKind.u16.wrap hh), .int .i64 sd] : Array Value).toList from by rw [HNX.out, itCells_snoc]; rfl)
      have hsA : (wr.alloc (.cells #[.int .i64 kd, .int .i64 bx, .string (tx.extract 0 (min (tx.size : Int) 60).toNat), .int .i64 (IntKind.u16.wrap sz), .int .i64 (sp % 256), .int .i64 (IntKind.u16.wrap ht), .int .i64 md, .int .i64 (IntKind.i8.wrap sh), .int .i64 (IntKind.u16.wrap wd), .int .i64 (IntKind.u16.wrap hh), .int .i64 sd] 100)).heap.size = wr.heap.size + 1 := by simp
      have HBX := Blk.new (wr.alloc (.cells #[.int .i64 kd, .int .i64 bx, .string (tx.extract 0 (min (tx.size : Int) 60).toNat), .int .i64 (IntKind.u16.wrap sz), .int .i64 (sp % 256), .int .i64 (IntKind.u16.wrap ht), .int .i64 md, .int .i64 (IntKind.i8.wrap sh), .int .i64 (IntKind.u16.wrap wd), .int .i64 (IntKind.u16.wrap hh), .int .i64 sd] 100)) 100 #[.int .i64 kd, .int .i64 bx, .string (tx.extract 0 (min (tx.size : Int) 60).toNat), .int .i64 (IntKind.u16.wrap sz), .int .i64 (sp % 256), .int .i64 (IntKind.u16.wrap ht), .int .i64 md, .int .i64 (IntKind.i8.wrap sh), .int .i64 (IntKind.u16.wrap wd), .int .i64 (IntKind.u16.wrap hh), .int .i64 sd]
      rw [hsA] at HBX
      have HBX2 := hide HBX
      have HVA := hide ((HW.out.alloc (.cells #[.int .i64 kd, .int .i64 bx, .string (tx.extract 0 (min (tx.size : Int) 60).toNat), .int .i64 (IntKind.u16.wrap sz), .int .i64 (sp % 256), .int .i64 (IntKind.u16.wrap ht), .int .i64 md, .int .i64 (IntKind.i8.wrap sh), .int .i64 (IntKind.u16.wrap wd), .int .i64 (IntKind.u16.wrap hh), .int .i64 sd] 100)).alloc (.cells #[.int .i64 kd, .int .i64 bx, .string (tx.extract 0 (min (tx.size : Int) 60).toNat), .int .i64 (IntKind.u16.wrap sz), .int .i64 (sp % 256), .int .i64 (IntKind.u16.wrap ht), .int .i64 md, .int .i64 (IntKind.i8.wrap sh), .int .i64 (IntKind.u16.wrap wd), .int .i64 (IntKind.u16.wrap hh), .int .i64 sd] 100))
      have HBL := hide ((hbel.alloc hszr (.cells #[.int .i64 kd, .int .i64 bx, .string (tx.extract 0 (min (tx.size : Int) 60).toNat), .int .i64 (IntKind.u16.wrap sz), .int .i64 (sp % 256), .int .i64 (IntKind.u16.wrap ht), .int .i64 md, .int .i64 (IntKind.i8.wrap sh), .int .i64 (IntKind.u16.wrap wd), .int .i64 (IntKind.u16.wrap hh), .int .i64 sd] 100)).alloc (by rw [hsA]; omega) (.cells #[.int .i64 kd, .int .i64 bx, .string (tx.extract 0 (min (tx.size : Int) 60).toNat), .int .i64 (IntKind.u16.wrap sz), .int .i64 (sp % 256), .int .i64 (IntKind.u16.wrap ht), .int .i64 md, .int .i64 (IntKind.i8.wrap sh), .int .i64 (IntKind.u16.wrap wd), .int .i64 (IntKind.u16.wrap hh), .int .i64 sd] 100))
      clear HBX hsA HNX
      go_wp2_with (first | (at_builtin; refine wpList_app1 rfl (.tmp 54) (.tmp 56) _ rfl w.heap.size 100 _ 11 96 Try.underlying96 item_info rfl (Nat.succ_pos _) _ k _ rfl HVA.out (wr.heap.size + 1) 1 _ HBX2.out rfl rfl rfl (by omega) (Nat.le_of_ble_eq_true rfl) HBL.out.size ?_; intro v4 w4 hown4 hg4; have hb9 := own_below HVA.out HBL.out (Nat.le_refl _) (Nat.le_refl _) hg4) | fail)
      go_roundw
      case rel => exact ⟨k + 1, by omega, by go_num, by rw [MS.out]; exact hown4, hb9⟩
      case measure => simp [intOf]; omega
    · obtain rfl : k = m := by omega
      go_wp2_with fail
      go_ret
      exact ⟨v, rfl, by rw [HF.out, tameTo_len _ _ (by omega)]; exact HW.out, hbel⟩
end Go.Proofs.Ytadlabndbomgmaa
/- Plain facts on blanks that are collapsed. No program in sight. -/
namespace Go.Proofs.Ytadlabndbomgmaa
/-- Is a byte a blank? -/
def isBl (x : Int) : Bool := decide (0 ≤ Lib.indexByte [32, 9, 10, 12, 13] x.toNat.toUInt8)
def keepsM (mode : Int) : Bool := mode == 1 || mode == 3
def wstep (p : List UInt8 × Bool) (c : UInt8) : List UInt8 × Bool := if isBl c.toNat then (if p.2 then p else (p.1 ++ [32], true)) else (p.1 ++ [c], false)
def wfold (b : Bool) (l : List UInt8) : List UInt8 × Bool := l.foldl wstep ([], b)
/-- What is collapsed. -/
def colS (mode : Int) (l : List UInt8) (b : Bool) : List UInt8 := if keepsM mode then l else (wfold b l).1
def colB (mode : Int) (l : List UInt8) (b : Bool) : Bool := if keepsM mode then false else (wfold b l).2
theorem wstep_len (p : List UInt8 × Bool) (c : UInt8) : (wstep p c).1.length ≤ p.1.length + 1 := by
  unfold wstep
  by_cases h : isBl c.toNat = true
  · rw [if_pos h]
    by_cases h2 : p.2 = true
    · rw [if_pos h2]; omega
    · rw [if_neg h2]; simp
  · rw [if_neg h]; simp
theorem foldl_wstep_len (l : List UInt8) : ∀ p : List UInt8 × Bool, (l.foldl wstep p).1.length ≤ p.1.length + l.length := by
  induction l with
  | nil => intro p; simp
  | cons c l ih => intro p; have h1 := ih (wstep p c); have h2 := wstep_len p c; simp only [List.foldl_cons, List.length_cons]; omega
theorem wfold_len (b : Bool) (l : List UInt8) : (wfold b l).1.length ≤ l.length := by
  have := foldl_wstep_len l ([], b); simpa [wfold] using this
theorem wfold_take (b : Bool) (l : List UInt8) (k : Nat) (h : k < l.length) : wfold b (l.take (k + 1)) = wstep (wfold b (l.take k)) l[k] := by
  unfold wfold; rw [List.take_succ_eq_append_getElem h, List.foldl_append]; rfl
theorem wstep_split (p : List UInt8 × Bool) (c : UInt8) : wstep p c = (p.1 ++ (wstep ([], p.2) c).1, (wstep ([], p.2) c).2) := by
  unfold wstep
  by_cases h : isBl c.toNat = true
  · simp only [if_pos h]
    by_cases h2 : p.2 = true
    · simp only [if_pos h2, List.append_nil]
    · simp only [if_neg h2, List.nil_append]
  · simp only [if_neg h, List.nil_append]
theorem foldl_wstep (l : List UInt8) : ∀ p : List UInt8 × Bool, l.foldl wstep p = (p.1 ++ (wfold p.2 l).1, (wfold p.2 l).2) := by
  induction l with
  | nil => intro p; simp [wfold]
  | cons c l ih =>
    intro p
    unfold wfold
    simp only [List.foldl_cons]
    rw [ih (wstep p c), ih (wstep ([], p.2) c)]
    have e := wstep_split p c
    rw [e]
    simp [List.append_assoc]
theorem wfold_append (b : Bool) (l m : List UInt8) : wfold b (l ++ m) = ((wfold b l).1 ++ (wfold (wfold b l).2 m).1, (wfold (wfold b l).2 m).2) := by
  unfold wfold
  rw [List.foldl_append, foldl_wstep m]
  rfl
theorem colS_append (mode : Int) (l m : List UInt8) (b : Bool) : colS mode (l ++ m) b = colS mode l b ++ colS mode m (colB mode l b) := by
  unfold colS colB
  by_cases h : keepsM mode = true
  · simp only [if_pos h]
  · simp only [if_neg h, wfold_append]
theorem colB_append (mode : Int) (l m : List UInt8) (b : Bool) : colB mode (l ++ m) b = colB mode m (colB mode l b) := by
  unfold colB
  by_cases h : keepsM mode = true
  · simp only [if_pos h]
  · simp only [if_neg h, wfold_append]
theorem colS_len (mode : Int) (l : List UInt8) (b : Bool) : (colS mode l b).length ≤ l.length := by
  unfold colS
  split
  · exact Nat.le_refl _
  · exact wfold_len b l
end Go.Proofs.Ytadlabndbomgmaa
/- Walks: white.Keeps, white.isBlank, white.Collapse: what they return. -/
namespace Go.Proofs.Ytadlabndbomgmaa
open Go.ChangeShapes Go.WideShapes Go.ChangeAt Go.RowKit
theorem keeps_any (m : Int) (w : World) : Calls Try.prog 71 #[.int .i64 m] w fun e w' => e = .returned (.bool (keepsM m)) ∧ w = w' := by
  have hk := Lib.hid (show keepsM m = (m == 1 || m == 3) from rfl)
  cases h1 : (m == 1) <;> cases h3 : (m == 3)
  all_goals
    go_enter Try.func71, Try.ntmps71
    go_wp2
    go_ret
    exact ⟨ret_bool (by rw [hk.out, h1, h3]; rfl), rfl⟩
theorem refKeeps_any (m : Int) (w : World) : Calls Try.prog 31 #[.int .i64 m] w fun e w' => e = .returned (.bool (keepsM m)) ∧ w = w' := by
  have hk := Lib.hid (show keepsM m = (m == 1 || m == 3) from rfl)
  cases h1 : (m == 1) <;> cases h3 : (m == 3)
  all_goals
    go_enter Try.func31, Try.ntmps31
    go_wp2
    go_ret
    exact ⟨ret_bool (by rw [hk.out, h1, h3]; rfl), rfl⟩
theorem isBlank_any (x : Int) (w : World) : Calls Try.prog 72 #[.int .u8 x] w fun e w' => e = .returned (.bool (isBl x)) ∧ w = w' := by
  have hk := Lib.hid (show isBl x = decide (0 ≤ Lib.indexByte [32, 9, 10, 12, 13] x.toNat.toUInt8) from rfl)
  go_enter Try.func72, Try.ntmps72
  go_wp2_with (go_at_call 116; refine (Try.strings_IndexByte _ _ _).mono ?_; rintro e w' ⟨rfl, rfl⟩)
  go_ret
  exact ⟨ret_bool (by rw [hk.out]), rfl⟩
theorem byte_info : (Try.prog.info? 5).map (fun i => (i.zero, i.size, i.bytes)) = some (some (.int .u8 0), 1, 1) := by kernel_rfl
set_option maxRecDepth 100000 in
theorem collapse_any (s : ByteArray) (m : Int) (b : Bool) (w : World) (hs : s.size ≤ 140737488355328) :
    Calls Try.prog 29 #[.string s, .int .i64 m, .bool b] w fun e w' =>
      e = .returned (.tuple #[.string (bytesStr (colS m s.data.toList b)), .bool (colB m s.data.toList b)]) ∧ Below w.heap.size w w' := by
  obtain ⟨i0, hi0, hz0, hz1, hz2⟩ := info_parts byte_info
  cases hkm : keepsM m
  · have e1 := hide (show colS m s.data.toList b = (wfold b s.data.toList).1 from by unfold colS; rw [hkm]; rfl)
    have e2 := hide (show colB m s.data.toList b = (wfold b s.data.toList).2 from by unfold colB; rw [hkm]; rfl)
    go_enter Try.func29, Try.ntmps29
    go_wp2_with (go_at_call 71; refine (keeps_any _ _).mono ?_; rintro e w' ⟨rfl, rfl⟩; rw [hkm])
    clear hkm
    go_loopw [2, 8, 9, 10, 16] (fun bl v x c i wr => ∃ k : Nat, k ≤ s.size ∧ i = .int .i64 k ∧ bl = .bool (wfold b (s.data.toList.take k)).2 ∧
      wr.ownsRow w.heap.size 5 1 v (wfold b (s.data.toList.take k)).1.length ((byteNums (wfold b (s.data.toList.take k)).1).map (Value.int .u8)) ∧ Below w.heap.size w wr) (fun _ _ _ _ i _ => s.size - (intOf i).toNat)
    case atStart => exact ⟨0, Nat.zero_le _, rfl, rfl, own_none _ _ _ _, Below.refl _ _⟩
    case round =>
      obtain ⟨k, hk, rfl, rfl, hown, hbel⟩ := hrel
      have hlen := foldl_wstep_len (s.data.toList.take k) ([], b)
      have hlen2 : (wfold b (s.data.toList.take k)).1.length ≤ s.size := by
        rw [List.length_take] at hlen; unfold wfold; simp at hlen; omega
      clear hlen
      by_cases hlt : k < s.size
      · have ht : wfold b (s.data.toList.take (k + 1)) = wstep (wfold b (s.data.toList.take k)) s[k] := wfold_take b s.data.toList k (by rw [size_eq]; exact hlt)
        have hle : (wfold b (s.data.toList.take k)).1.length ≤ k := by
          have h := foldl_wstep_len (s.data.toList.take k) ([], b)
          rw [List.length_take] at h; unfold wfold; simp at h; omega
        have Ht := hide ht
        clear ht hlen2
        generalize wfold b (s.data.toList.take k) = p at *
        obtain ⟨o, bl⟩ := p
        have Hown := hide hown
        clear hown
        cases hbl : isBl s[k].toNat
        · have hn := hide (show wfold b (s.data.toList.take (k + 1)) = (o ++ [s[k]], false) from by rw [Ht.out]; unfold wstep; rw [hbl]; rfl)
          clear Ht
          go_wp2_with (first
            | (go_at_call 72; refine (isBlank_any _ _).mono ?_; rintro e w' ⟨rfl, rfl⟩; rw [hbl])
            | (at_builtin
               refine wpList_app rfl (.tmp 26) (.tmp 28) _ rfl w.heap.size 5 i0 _ 1 1 Try.underlying114 hi0 hz0 hz1 hz2 rfl (by omega) _ _ _ rfl
                 (Hown.out.alloc _) (wr.heap.size + 1) _ 1 1 _ rfl (Reads.lit1 wr _ _) (by intro u hu; simp at hu; subst hu; rfl) (by simp only [maxLen]; omega) (by omega) w (hbel.alloc hbel.size _) (Nat.le_refl _) ?_
               intro v1 w1 hown1 hb1))
          go_roundw
          case rel => exact ⟨k + 1, by omega, by go_num, by rw [hn.out], by rw [hn.out]; simpa [byteNums] using hown1, hb1⟩
          case measure => simp [intOf]; omega
        · cases bl
          · have hn := hide (show wfold b (s.data.toList.take (k + 1)) = (o ++ [32], true) from by rw [Ht.out]; unfold wstep; rw [hbl]; rfl)
            clear Ht
            go_wp2_with (first
              | (go_at_call 72; refine (isBlank_any _ _).mono ?_; rintro e w' ⟨rfl, rfl⟩; rw [hbl])
              | (at_builtin
                 refine wpList_app rfl (.tmp 33) (.tmp 34) _ rfl w.heap.size 5 i0 _ 1 1 Try.underlying114 hi0 hz0 hz1 hz2 rfl (by omega) _ _ _ rfl
                   (Hown.out.alloc _) (wr.heap.size + 1) _ 1 1 _ rfl (Reads.lit1 wr _ _) (by intro u hu; simp at hu; subst hu; rfl) (by simp only [maxLen]; omega) (by omega) w (hbel.alloc hbel.size _) (Nat.le_refl _) ?_
                 intro v1 w1 hown1 hb1))
            go_roundw
            case rel => exact ⟨k + 1, by omega, by go_num, by rw [hn.out], by rw [hn.out]; simpa [byteNums] using hown1, hb1⟩
            case measure => simp [intOf]; omega
          · have hn := hide (show wfold b (s.data.toList.take (k + 1)) = (o, true) from by rw [Ht.out]; unfold wstep; rw [hbl]; rfl)
            clear Ht
            go_wp2_with (go_at_call 72; refine (isBlank_any _ _).mono ?_; rintro e w' ⟨rfl, rfl⟩; rw [hbl])
            go_roundw
            case rel => exact ⟨k + 1, by omega, by go_num, by rw [hn.out], by rw [hn.out]; exact Hown.out, hbel⟩
            case measure => simp [intOf]; omega
      · have hk2 : k = s.size := by omega
        subst hk2
        have ht : s.data.toList.take s.size = s.data.toList := List.take_of_length_le (by rw [size_eq]; exact Nat.le_refl _)
        rw [ht] at hown ⊢
        obtain ⟨X, cx, hv, _, hx⟩ := own_reads hown
        have hcv := run_convert_reads (P := Try.prog) 114 9 5 Try.underlying114 Try.underlying5 Try.underlying9 (c := cx) hx
        rw [hv]
        clear hv hown hx ht hlen2
        go_wp2
        go_ret2
        exact ⟨ret_sb (by rw [e1.out]) e2.out.symm, hbel⟩
  · have e1 := hide (show bytesStr (colS m s.data.toList b) = s from by unfold colS; rw [hkm]; exact bytesStr_toList s)
    have e2 := hide (show colB m s.data.toList b = false from by unfold colB; rw [hkm]; rfl)
    go_enter Try.func29, Try.ntmps29
    go_wp2_with (go_at_call 71; refine (keeps_any _ _).mono ?_; rintro e w' ⟨rfl, rfl⟩; rw [hkm])
    go_ret2
    exact ⟨ret_sb e1.out.symm e2.out.symm, Below.refl _ _⟩
end Go.Proofs.Ytadlabndbomgmaa
/- Plain facts: what is collapsed stays as it is; no blanks stand side by side. No program in sight. -/
namespace Go.Proofs.Ytadlabndbomgmaa
theorem isBl_32 : isBl ((32 : UInt8).toNat) = true := by decide +kernel
/-- No two blanks side by side, none first where b says so, and each a space. -/
def Tidy : Bool → List UInt8 → Prop
  | _, [] => True
  | b, c :: r => if isBl c.toNat then c = 32 ∧ b = false ∧ Tidy true r else Tidy false r
theorem wfold_cons (b : Bool) (c : UInt8) (l : List UInt8) : wfold b (c :: l) = ((wstep ([], b) c).1 ++ (wfold (wstep ([], b) c).2 l).1, (wfold (wstep ([], b) c).2 l).2) := by
  show List.foldl wstep ([], b) (c :: l) = _
  rw [List.foldl_cons, foldl_wstep]
theorem wfold_skip {c : UInt8} (h : isBl c.toNat = true) (l : List UInt8) : wfold true (c :: l) = wfold true l := by
  rw [wfold_cons]; unfold wstep; simp only [h, if_true]; rfl
theorem wfold_blank {c : UInt8} (h : isBl c.toNat = true) (l : List UInt8) : wfold false (c :: l) = (32 :: (wfold true l).1, (wfold true l).2) := by
  rw [wfold_cons]; unfold wstep; simp only [h, if_true, Bool.false_eq_true, if_false]; rfl
theorem wfold_sign {c : UInt8} (h : isBl c.toNat = false) (b : Bool) (l : List UInt8) : wfold b (c :: l) = (c :: (wfold false l).1, (wfold false l).2) := by
  rw [wfold_cons]; unfold wstep; simp only [h, Bool.false_eq_true, if_false]; rfl
theorem wfold_tidy (l : List UInt8) : ∀ b, Tidy b (wfold b l).1 ∧ wfold b (wfold b l).1 = wfold b l := by
  induction l with
  | nil => intro b; exact ⟨trivial, rfl⟩
  | cons c l ih =>
    intro b
    cases h : isBl c.toNat
    · rw [wfold_sign h]
      refine ⟨?_, ?_⟩
      · show Tidy b (c :: (wfold false l).1)
        unfold Tidy; rw [h]; exact (ih false).1
      · show wfold b (c :: (wfold false l).1) = _
        rw [wfold_sign h, (ih false).2]
    · cases b
      · rw [wfold_blank h]
        refine ⟨?_, ?_⟩
        · show Tidy false (32 :: (wfold true l).1)
          unfold Tidy; rw [isBl_32]; exact ⟨rfl, rfl, (ih true).1⟩
        · show wfold false (32 :: (wfold true l).1) = _
          rw [wfold_blank isBl_32, (ih true).2]
      · rw [wfold_skip h]; exact ih true
theorem Tidy.none : ∀ (l : List UInt8) (b : Bool), Tidy b l → Lib.index l [32, 32] = -1
  | [], _, _ => rfl
  | c :: r, b, h => by
    unfold Tidy at h
    have hr : ∃ b', Tidy b' r := by
      split at h
      · exact ⟨_, h.2.2⟩
      · exact ⟨_, h⟩
    obtain ⟨b', hr'⟩ := hr
    have ih := Tidy.none r b' hr'
    have hp : ([32, 32] : List UInt8).isPrefixOf (c :: r) = false := by
      cases hc : isBl c.toNat
      · have : ((32 : UInt8) == c) = false := by
          rw [beq_eq_false_iff_ne]; rintro rfl; rw [isBl_32] at hc; cases hc
        simp [List.isPrefixOf, this]
      · rw [hc] at h
        obtain ⟨_, _, h2⟩ := h
        cases r with
        | nil => simp [List.isPrefixOf]
        | cons d r =>
          unfold Tidy at h2
          have : ((32 : UInt8) == d) = false := by
            rw [beq_eq_false_iff_ne]; rintro rfl; rw [isBl_32] at h2; exact absurd h2.2.1 (by decide)
          simp [List.isPrefixOf, this]
    show (if ([32, 32] : List UInt8).isPrefixOf (c :: r) then (0 : Int) else if Lib.index r [32, 32] == -1 then -1 else Lib.index r [32, 32] + 1) = -1
    rw [hp, ih]; rfl
theorem Tidy.first {l : List UInt8} (h : Tidy true l) : Lib.hasPrefix l [32] = false := by
  cases l with
  | nil => rfl
  | cons c r =>
    unfold Tidy at h
    have : ((32 : UInt8) == c) = false := by
      rw [beq_eq_false_iff_ne]; rintro rfl; rw [isBl_32] at h; exact absurd h.2.1 (by decide)
    simp [Lib.hasPrefix, List.isPrefixOf, this]
theorem col_twice (m : Int) (l : List UInt8) (b : Bool) : colS m (colS m l b) b = colS m l b ∧ colB m (colS m l b) b = colB m l b := by
  unfold colS colB
  by_cases h : keepsM m = true
  · simp only [if_pos h]; exact ⟨trivial, trivial⟩
  · simp only [if_neg h]
    rw [(wfold_tidy l b).2]; exact ⟨rfl, rfl⟩
theorem col_none {m : Int} (h : keepsM m = false) (l : List UInt8) (b : Bool) : Lib.contains (colS m l b) [32, 32] = false ∧ (b = true → Lib.hasPrefix (colS m l b) [32] = false) := by
  have e : colS m l b = (wfold b l).1 := by unfold colS; rw [h]; rfl
  rw [e]
  have ht := (wfold_tidy l b).1
  refine ⟨?_, fun hb => ?_⟩
  · unfold Lib.contains; rw [Tidy.none _ _ ht]; decide
  · subst hb; exact ht.first
end Go.Proofs.Ytadlabndbomgmaa
/- Plain facts: the pieces of a text have its runes, one behind the other; no piece is a blank alone. No program in sight. -/
namespace Go.Proofs.Ytadlabndbomgmaa
open Go.Lib
/-- A text that ends behind its first rune: the rune is the same. -/
theorem decodeL_cut (l p : List UInt8) (hne : p ≠ []) (hpre : p <+: l) (hw : (decodeL l).2 ≤ p.length) : decodeL p = decodeL l := by
  obtain ⟨c, rfl⟩ := hpre
  by_cases h : ((decodeL (p ++ c)).1 = 65533 ∧ (decodeL (p ++ c)).2 = 1)
  · by_cases h2 : ((decodeL p).1 = 65533 ∧ (decodeL p).2 = 1)
    · exact Prod.ext (h2.1.trans h.1.symm) (h2.2.trans h.2.symm)
    · have hl := decodeL_le p hne
      exact (decodeL_pre p (p ++ c) (by rw [List.length_append]; omega) (by rw [List.take_append_of_le_length hl]) h2).symm
  · exact decodeL_pre (p ++ c) p hw (by rw [List.take_append_of_le_length hw]) h
/-- The runes of a ++ c end at the end of a. -/
def Bd : Nat → List UInt8 → List UInt8 → Prop
  | 0, a, _ => a = []
  | f + 1, a, c => a = [] ∨ ((decodeL (a ++ c)).2 ≤ a.length ∧ Bd f (a.drop (decodeL (a ++ c)).2) c)
theorem Bd.nil (f : Nat) (c : List UInt8) : Bd f [] c := by cases f; rfl; exact .inl rfl
theorem Bd.more : ∀ (f g : Nat) (a c : List UInt8), f ≤ g → Bd f a c → Bd g a c
  | 0, g, a, c, _, h => by rw [show a = [] from h]; exact Bd.nil g c
  | f + 1, 0, a, c, hl, _ => by omega
  | f + 1, g + 1, a, c, hl, h => by
    rcases h with h | ⟨h1, h2⟩
    · exact .inl h
    · exact .inr ⟨h1, Bd.more f g _ c (by omega) h2⟩
theorem Bd.runes : ∀ (f : Nat) (a c c' : List UInt8), Bd f a c → c' <+: c → runesL (a ++ c') = runesL a ++ runesL c'
  | 0, a, c, c', h, _ => by rw [show a = [] from h]; rfl
  | f + 1, a, c, c', h, hp => by
    rcases h with h | ⟨h1, h2⟩
    · rw [h]; rfl
    · by_cases hne : a = []
      · rw [hne]; rfl
      · have e1 : decodeL (a ++ c') = decodeL (a ++ c) := decodeL_cut _ _ (by simp [hne]) (by obtain ⟨d, rfl⟩ := hp; exact ⟨d, by simp⟩) (by rw [List.length_append]; omega)
        have e2 : decodeL a = decodeL (a ++ c) := decodeL_cut _ _ hne ⟨c, rfl⟩ h1
        rw [runesL_step (a ++ c') (by simp [hne]), runesL_step a hne, e1, e2, List.drop_append_of_le_length h1, Bd.runes f _ c c' h2 hp]
        rfl
theorem Bd.snoc : ∀ (f : Nat) (a r c : List UInt8), Bd f a (r ++ c) → (decodeL (r ++ c)).2 = r.length → Bd (f + 1) (a ++ r) c
  | 0, a, r, c, h, hr => by
    rw [show a = [] from h, List.nil_append]
    refine .inr ⟨by rw [hr]; exact Nat.le_refl _, ?_⟩
    rw [hr, List.drop_length]; exact Bd.nil _ _
  | f + 1, a, r, c, h, hr => by
    rcases h with h | ⟨h1, h2⟩
    · rw [h, List.nil_append]
      refine .inr ⟨by rw [hr]; exact Nat.le_refl _, ?_⟩
      rw [hr, List.drop_length]; exact Bd.nil _ _
    · refine .inr ?_
      rw [List.append_assoc]
      refine ⟨by rw [List.length_append]; omega, ?_⟩
      rw [List.drop_append_of_le_length h1]
      exact Bd.snoc f _ r c h2 hr
/-- Pieces that end where runes end. -/
def Cuts : List (List UInt8) → Prop
  | [] => True
  | m :: r => (∃ f, Bd f m r.flatten) ∧ Cuts r
theorem Cuts.drop : ∀ (u r : List (List UInt8)), Cuts (u ++ r) → Cuts r
  | [], _, h => h
  | _ :: u, r, h => Cuts.drop u r h.2
theorem Cuts.runes : ∀ (m v : List (List UInt8)) (p : List UInt8), Cuts (m ++ v) → p <+: v.flatten → runesL (m.flatten ++ p) = (m.map runesL).flatten ++ runesL p
  | [], _, p, _, _ => rfl
  | a :: m, v, p, h, hp => by
    obtain ⟨⟨f, hb⟩, hr⟩ := h
    have e := Bd.runes f a _ (m.flatten ++ p) hb (by show _ <+: (m ++ v).flatten; rw [List.flatten_append]; obtain ⟨d, hd⟩ := hp; exact ⟨d, by rw [← hd]; simp⟩)
    rw [List.flatten_cons, List.append_assoc, e, Cuts.runes m v p hr hp, List.map_cons, List.flatten_cons, List.append_assoc]
theorem drop_cons_at (s : ByteArray) (pos : Nat) (h : pos < s.size) : s.data.toList.drop pos = s[pos] :: s.data.toList.drop (pos + 1) := by
  have hl : pos < s.data.toList.length := by rw [Array.length_toList]; exact h
  exact List.drop_eq_getElem_cons hl
theorem bytes_len2 (s : ByteArray) : s.data.toList.length = s.size := Array.length_toList
/-- A piece, and what stands behind it. -/
theorem piece_split (s : ByteArray) (a b : Nat) (hab : a ≤ b) (hb : b ≤ s.size) : s.data.toList.drop a = (s.extract a b).data.toList ++ s.data.toList.drop b := by
  have e1 : (s.extract a b).data.toList = (s.data.toList.drop a).take (b - a) := by simp [ByteArray.data_extract, Array.toList_extract]
  have e2 : s.data.toList.drop b = (s.data.toList.drop a).drop (b - a) := by rw [List.drop_drop]; congr 1; omega
  rw [e1, e2, List.take_append_drop]
theorem ends_flat (s : ByteArray) (l : List Nat) (a : Nat) (ha : a ≤ s.size) (hb : ∀ b ∈ l, b ≤ s.size) : ((pcs s a (l ++ [s.size])).map (·.data.toList)).flatten = s.data.toList.drop a := by
  have hb2 : ∀ b ∈ l ++ [s.size], b ≤ s.size := by
    intro b h
    rcases List.mem_append.1 h with h | h
    · exact hb b h
    · simp at h; omega
  rw [pcs_join s _ a ha hb2]
  have h1 := lastOf_le s.size (l ++ [s.size]) a ha hb2
  have h2 : lastOf a (l ++ [s.size]) = s.size := by
    rw [lastOf_append] at h1 ⊢
    simp only [lastOf] at h1 ⊢
    have h3 := lastOf_le s.size l a ha hb
    split <;> omega
  rw [h2, List.take_of_length_le (by rw [List.length_drop, bytes_len2]; exact Nat.le_refl _)]
theorem bd_step (s : ByteArray) (a pos : Nat) (hap : a ≤ pos) (hp : pos < s.size) (h : ∃ f, Bd f (s.extract a pos).data.toList (s.data.toList.drop pos)) : ∃ f, Bd f (s.extract a (pos + (Utf8.decode s pos).2)).data.toList (s.data.toList.drop (pos + (Utf8.decode s pos).2)) := by
  obtain ⟨f, hb⟩ := h
  obtain ⟨h1, h2, _⟩ := dec_facts s pos hp
  have e := piece_split s pos (pos + (Utf8.decode s pos).2) (by omega) h2
  have e2 : (s.extract a (pos + (Utf8.decode s pos).2)).data.toList = (s.extract a pos).data.toList ++ (s.extract pos (pos + (Utf8.decode s pos).2)).data.toList := by
    have h3 := piece_split s a pos hap (by omega)
    have h4 := piece_split s a (pos + (Utf8.decode s pos).2) (by omega) h2
    rw [h3, e, ← List.append_assoc] at h4
    exact (List.append_cancel_right h4).symm
  refine ⟨f + 1, ?_⟩
  rw [e2]
  rw [e] at hb
  refine Bd.snoc f _ _ _ hb ?_
  rw [← e, decodeL_drop]
  have : (s.extract pos (pos + (Utf8.decode s pos).2)).data.toList.length = (Utf8.decode s pos).2 := by
    rw [Array.length_toList]
    show (s.extract pos (pos + (Utf8.decode s pos).2)).size = _
    rw [ByteArray.size_extract]; omega
  exact this.symm
theorem brk_le (s : ByteArray) (wr ke : Bool) : ∀ (f pos : Nat) (last : Int), pos ≤ s.size → ∀ b ∈ (brk s wr ke f pos last).map (·.1), b ≤ s.size
  | 0, _, _, _, b, hb => by simp [brk] at hb
  | f + 1, pos, last, hp, b, hb => by
    by_cases h : pos < s.size
    · rw [brk_step s wr ke f pos last h, List.map_append] at hb
      obtain ⟨_, h2, _⟩ := dec_facts s pos h
      rcases List.mem_append.1 hb with hb | hb
      · unfold brkStep at hb
        split at hb
        · simp at hb; omega
        · simp at hb
      · exact brk_le s wr ke f _ _ h2 b hb
    · rw [brk_end s wr ke f pos last h] at hb
      unfold brkEnd at hb
      split at hb
      · simp at hb; omega
      · simp at hb
/-- No blank stands first in a piece. -/
def noBlank (l : List UInt8) : Prop := l.head? ≠ some 32
theorem first_rune (s : ByteArray) (pos b : Nat) (h : pos < s.size) (hb : pos < b) (h32 : (s.extract pos b).data.toList.head? = some 32) : ((Utf8.decode s pos).1 : Int) = 32 := by
  have e : (s.extract pos b).data.toList = (s.data.toList.drop pos).take (b - pos) := by simp [ByteArray.data_extract, Array.toList_extract]
  rw [e, drop_cons_at s pos h, show b - pos = (b - pos - 1) + 1 by omega, List.take_succ_cons] at h32
  simp only [List.head?_cons, Option.some.injEq] at h32
  have hd := Lib.decode_at s pos
  rw [get_bang s pos h, h32] at hd
  rw [hd]
  unfold Lib.decodeN
  rfl
theorem may_blank (last : Int) : mayF last 32 = false := by
  unfold mayF
  split
  · rfl
  · split
    · rfl
    · simp [wideF, otherF]
theorem brk_cuts (s : ByteArray) : ∀ (f pos a : Nat) (last : Int), pos ≤ s.size → s.size < pos + f → a ≤ pos → (∃ g, Bd g (s.extract a pos).data.toList (s.data.toList.drop pos)) → (pos = a → a < s.size → ((Utf8.decode s pos).1 : Int) ≠ 32) → (a < pos → ∀ b, a < b → noBlank (s.extract a b).data.toList) →
      Cuts ((pcs s a ((brk s true false f pos last).map (·.1) ++ [s.size])).map (·.data.toList)) ∧ ∀ p ∈ pcs s a ((brk s true false f pos last).map (·.1) ++ [s.size]), noBlank p.data.toList
  | 0, pos, a, _, h1, h2, _, _, _, _ => by omega
  | f + 1, pos, a, last, hp, hf, ha, hb, hs, hn => by
    by_cases h : pos < s.size
    · obtain ⟨h1, h2, _⟩ := dec_facts s pos h
      have hb2 := bd_step s a pos ha h hb
      rw [brk_step s true false f pos last h]
      have hle := brk_le s true false f (pos + (Utf8.decode s pos).2) (Utf8.decode s pos).1 h2
      have cont : Cuts ((pcs s a ((brk s true false f (pos + (Utf8.decode s pos).2) (Utf8.decode s pos).1).map (·.1) ++ [s.size])).map (·.data.toList)) ∧ ∀ p ∈ pcs s a ((brk s true false f (pos + (Utf8.decode s pos).2) (Utf8.decode s pos).1).map (·.1) ++ [s.size]), noBlank p.data.toList := by
        refine brk_cuts s f _ a _ h2 (by omega) (by omega) hb2 (fun e => by omega) (fun _ b hab => ?_)
        by_cases hpa : pos = a
        · intro h32
          subst hpa
          exact hs rfl h (first_rune s pos b h hab h32)
        · exact hn (by omega) b hab
      unfold brkStep
      split
      · rename_i hc
        simp only [Bool.false_and, Bool.false_or, Bool.true_and, Bool.and_eq_true, decide_eq_true_eq] at hc
        simp only [List.cons_append, List.nil_append, List.map_cons, pcs]
        by_cases hap : a < pos
        · rw [if_pos hap]
          have ih := brk_cuts s f (pos + (Utf8.decode s pos).2) pos (Utf8.decode s pos).1 h2 (by omega) (by omega) (bd_step s pos pos (Nat.le_refl _) h ⟨0, by
            have : (s.extract pos pos).data.toList = [] := by simp [ByteArray.data_extract, Array.toList_extract]
            exact this⟩) (fun e => by omega) (fun _ b hab h32 => by
              have := first_rune s pos b h hab h32
              rw [this, may_blank] at hc
              exact absurd hc.2 (by decide))
          refine ⟨?_, fun p hp2 => ?_⟩
          · rw [List.map_cons]
            refine ⟨?_, ih.1⟩
            rw [ends_flat s _ pos hp hle]
            exact hb
          · rcases List.mem_cons.1 hp2 with rfl | hp2
            · exact hn hap pos hap
            · exact ih.2 p hp2
        · rw [if_neg hap]; exact cont
      · exact cont
    · obtain rfl : pos = s.size := by omega
      rw [brk_end s true false f _ last h]
      simp only [brkEnd, Bool.false_and, Bool.false_eq_true, if_false, List.map_nil, List.nil_append, pcs]
      by_cases hap : a < s.size
      · rw [if_pos hap]
        refine ⟨⟨?_, trivial⟩, fun p hp2 => ?_⟩
        · obtain ⟨g, hg⟩ := hb
          rw [List.drop_of_length_le (by rw [bytes_len2]; exact Nat.le_refl _)] at hg
          exact ⟨g, hg⟩
        · obtain rfl : p = s.extract a s.size := by simpa using hp2
          exact hn hap s.size hap
      · rw [if_neg hap]
        exact ⟨trivial, fun p hp2 => by cases hp2⟩
/-- The pieces of a text without a blank ahead. -/
theorem pieces_cuts (s : ByteArray) (h0 : noBlank s.data.toList) : Cuts ((piecesF s true false).map (·.data.toList)) ∧ ∀ p ∈ piecesF s true false, noBlank p.data.toList := by
  unfold piecesF brkEnds brkAll
  refine brk_cuts s (s.size + 1) 0 0 0 (Nat.zero_le _) (by omega) (Nat.le_refl _) ⟨0, by
    have : (s.extract 0 0).data.toList = [] := by simp [ByteArray.data_extract, Array.toList_extract]
    exact this⟩ (fun _ hlt h32 => h0 ?_) (fun h => absurd h (Nat.lt_irrefl _))
  obtain ⟨_, _, _, _, _⟩ := dec_facts s 0 hlt
  have hd := drop_cons_at s 0 hlt
  rw [List.drop_zero] at hd
  rw [hd, List.head?_cons]
  congr 1
  have hb : (s[0] : UInt8).toNat = 32 := by
    have h := Lib.decode_at s 0
    rw [get_bang s 0 hlt] at h
    rw [h] at h32
    unfold Lib.decodeN at h32
    revert h32
    repeat' split
    all_goals (intro h32; simp only at h32; omega)
  exact UInt8.toNat_inj.1 hb
end Go.Proofs.Ytadlabndbomgmaa
/- Plain facts on the lines of one text: what they hold, how wide they are, what would not have fitted. No program in sight. -/
namespace Go.Proofs.Ytadlabndbomgmaa
open Go.Lib
def oneIt (s : ByteArray) (z : Int) : It := ⟨1, 0, s, z, 0, 10, 0, 0, 0, 0, 0⟩
theorem one_ok (s : ByteArray) (z : Int) (hs : s.size ≤ 200) (hz : 0 ≤ z ∧ z ≤ 255) : ItsOk [oneIt s z] := ⟨Nat.le_of_ble_eq_true rfl, fun x hx => by
  obtain rfl : x = oneIt s z := by simpa using hx
  unfold ItOk oneIt
  simp only
  omega⟩
/-- A part of the one text. -/
def TxP (xs : List It) (p : Pt) : Prop := pKind xs p = 1 ∧ pMode xs p = 0 ∧ PtOk xs p ∧ isSp p.t = false
theorem TxP.solid {xs : List It} {p : Pt} (h : TxP xs p) : solidF xs p = true := by unfold solidF; rw [h.1]; rfl
theorem TxP.told {xs : List It} {p : Pt} (h : TxP xs p) : toldF xs p = true := by unfold toldF; rw [h.1]; rfl
theorem TxP.skip {xs : List It} {p : Pt} (h : TxP xs p) : skipA (pKind xs p) = false := by rw [h.1]; rfl
theorem TxP.clean {xs : List It} {p : Pt} (h : TxP xs p) (f : Bool) : cleanF xs f [p] = [p] := by simp [cleanF, h.2.2.2]
theorem TxP.must {xs : List It} {p : Pt} (h : TxP xs p) : lastMust xs [p] = false := by unfold lastMust; simp [h.1]
theorem TxP.dG {xs : List It} {p : Pt} (h : TxP xs p) : dG xs [p] = p.w - tailF xs p := by unfold Go.Proofs.Ytadlabndbomgmaa.dG; simp [widthG, tailG, h.skip]
theorem dG_snoc {xs : List It} {p : Pt} (h : TxP xs p) (l : List Pt) : dG xs (l ++ [p]) = widthG l + dG xs [p] := by
  rw [h.dG]
  unfold Go.Proofs.Ytadlabndbomgmaa.dG
  rw [List.reverse_append, widthG_append]
  simp only [List.reverse_cons, List.reverse_nil, List.nil_append, List.cons_append, tailG, h.skip, Bool.false_eq_true, if_false]
  simp [widthG]; omega
def lineStep (xs : List It) (W : Int) (st : List (List Pt) × List Pt) (p : Pt) : List (List Pt) × List Pt :=
  if st.2 ≠ [] ∧ W < widthG st.2 + dG xs [p] then (st.1 ++ [st.2], [p]) else (st.1, st.2 ++ [p])
def lineRun (xs : List It) (W : Int) (ps : List Pt) : List (List Pt) × List Pt := ps.foldl (lineStep xs W) ([], [])
theorem lineRun_snoc (xs : List It) (W : Int) (ps : List Pt) (p : Pt) : lineRun xs W (ps ++ [p]) = lineStep xs W (lineRun xs W ps) p := by simp [lineRun]
def Chn (R : List Pt → List Pt → Prop) : List (List Pt) → Prop
  | [] => True
  | [_] => True
  | a :: b :: r => R a b ∧ Chn R (b :: r)
theorem chn_snoc (R : List Pt → List Pt → Prop) : ∀ (l : List (List Pt)) (a b : List Pt), Chn R (l ++ [a]) → R a b → Chn R (l ++ [a] ++ [b])
  | [], _, _, _, h => ⟨h, trivial⟩
  | [_], _, _, h, h2 => ⟨h.1, h2, trivial⟩
  | _ :: d :: l, a, b, h, h2 => ⟨h.1, chn_snoc R (d :: l) a b h.2 h2⟩
theorem chn_last (R : List Pt → List Pt → Prop) : ∀ (l : List (List Pt)) (a b : List Pt), Chn R (l ++ [a]) → (∀ c, R c a → R c b) → Chn R (l ++ [b])
  | [], _, _, _, _ => trivial
  | [_], _, _, h, h2 => ⟨h2 _ h.1, trivial⟩
  | _ :: d :: l, a, b, h, h2 => ⟨h.1, chn_last R (d :: l) a b h.2 h2⟩
theorem chn_at (R : List Pt → List Pt → Prop) : ∀ (l : List (List Pt)) (i : Nat) (h : i + 1 < l.length), Chn R l → R l[i] l[i + 1]
  | a :: b :: r, 0, _, h => h.1
  | a :: b :: r, i + 1, hi, h => chn_at R (b :: r) i (by simpa using hi) h.2
/-- What first stands in the next line would have had no room. -/
def NoRoom (xs : List It) (W : Int) (a b : List Pt) : Prop := W < widthG a + dG xs [ptAt b 0]
structure LineOk (xs : List It) (W : Int) (ps : List Pt) (r : List (List Pt) × List Pt) : Prop where
  flat : r.1.flatten ++ r.2 = ps
  some : ∀ L ∈ r.1, L ≠ []
  some2 : ps ≠ [] → r.2 ≠ []
  room : ∀ L ∈ r.1 ++ [r.2], L.length ≤ 1 ∨ dG xs L ≤ W
  chain : Chn (NoRoom xs W) (r.1 ++ [r.2])
theorem line_ok (xs : List It) (W : Int) (ps : List Pt) (h : ∀ p ∈ ps, TxP xs p) (k : Nat) (hk : k ≤ ps.length) : LineOk xs W (ps.take k) (lineRun xs W (ps.take k)) := by
  induction k with
  | zero => exact ⟨rfl, fun L hL => by simp [lineRun] at hL, fun h => absurd (List.take_zero ..) h, fun L hL => by simp [lineRun] at hL; subst hL; exact .inl (Nat.zero_le _), trivial⟩
  | succ k ih =>
    have hlt : k < ps.length := by omega
    have hp := h _ (List.getElem_mem hlt)
    obtain ⟨i1, i2, i3, i4, i5⟩ := ih (by omega)
    rw [List.take_succ_eq_append_getElem hlt, lineRun_snoc]
    generalize lineRun xs W (ps.take k) = r at *
    generalize ps[k] = p at *
    obtain ⟨done, line⟩ := r
    simp only at i1 i2 i3 i4 i5
    unfold lineStep
    simp only
    by_cases hc : line ≠ [] ∧ W < widthG line + dG xs [p]
    · rw [if_pos hc]
      refine ⟨by simp [i1], fun L hL => ?_, fun _ => by simp, fun L hL => ?_, chn_snoc _ done line [p] i5 hc.2⟩
      · rcases List.mem_append.1 hL with hL | hL
        · exact i2 L hL
        · obtain rfl : L = line := by simpa using hL
          exact hc.1
      · rcases List.mem_append.1 hL with hL | hL
        · exact i4 L hL
        · obtain rfl : L = [p] := by simpa using hL
          exact .inl (Nat.le_refl _)
    · rw [if_neg hc]
      refine ⟨by simp [← i1], i2, fun _ => by simp, fun L hL => ?_, ?_⟩
      · rcases List.mem_append.1 hL with hL | hL
        · exact i4 L (List.mem_append_left _ hL)
        · obtain rfl : L = line ++ [p] := by simpa using hL
          by_cases hl : line = []
          · subst hl; exact .inl (Nat.le_refl _)
          · refine .inr ?_
            rw [dG_snoc hp]
            have : ¬ W < widthG line + dG xs [p] := fun h2 => hc ⟨hl, h2⟩
            omega
      · by_cases hl : line = []
        · have hd : done = [] := by
            rcases List.eq_nil_or_concat done with hd | ⟨d, L, hd⟩
            · exact hd
            · exfalso
              have h1 := i2 L (by rw [hd]; simp)
              rw [hl, List.append_nil] at i1
              by_cases hn : ps.take k = []
              · rw [hn, hd] at i1
                simp at i1
                exact h1 i1.2
              · exact i3 hn hl
          subst hl hd
          exact trivial
        · refine chn_last _ done line _ i5 fun c hc2 => ?_
          unfold NoRoom at hc2 ⊢
          rwa [show ptAt (line ++ [p]) 0 = ptAt line 0 from by
            cases line with
            | nil => exact absurd rfl hl
            | cons q l => rfl]
/-- Lines as they are told. -/
def Told1 (xs : List It) (sz ht al W : Int) : List (List Pt) → List Ln → Prop
  | [], [] => True
  | L :: Ls, o :: out => (∃ y, o = lnOf xs sz ht al y 0 W L false) ∧ Told1 xs sz ht al W Ls out
  | _, _ => False
theorem told1_snoc (xs : List It) (sz ht al W y : Int) (L : List Pt) : ∀ (Ls : List (List Pt)) (out : List Ln), Told1 xs sz ht al W Ls out → Told1 xs sz ht al W (Ls ++ [L]) (out ++ [lnOf xs sz ht al y 0 W L false])
  | [], [], _ => ⟨⟨y, rfl⟩, trivial⟩
  | _ :: Ls, _ :: out, h => ⟨h.1, told1_snoc xs sz ht al W y L Ls out h.2⟩
  | [], _ :: _, h => h.elim
  | _ :: _, [], h => h.elim
theorem told1_len (xs : List It) (sz ht al W : Int) : ∀ (Ls : List (List Pt)) (out : List Ln), Told1 xs sz ht al W Ls out → out.length = Ls.length
  | [], [], _ => rfl
  | _ :: Ls, _ :: out, h => by simp [told1_len xs sz ht al W Ls out h.2]
  | [], _ :: _, h => h.elim
  | _ :: _, [], h => h.elim
theorem told1_at (xs : List It) (sz ht al W : Int) : ∀ (Ls : List (List Pt)) (out : List Ln) (i : Nat) (h1 : i < Ls.length) (h2 : i < out.length), Told1 xs sz ht al W Ls out → ∃ y, out[i] = lnOf xs sz ht al y 0 W Ls[i] false
  | _ :: _, _ :: _, 0, _, _, h => h.1
  | _ :: Ls, _ :: out, i + 1, h1, h2, h => told1_at xs sz ht al W Ls out i (by simpa using h1) (by simpa using h2) h.2
theorem run_lines (xs : List It) (sz ht al W y : Int) (ps : List Pt) (h : ∀ p ∈ ps, TxP xs p) (k : Nat) (hk : k ≤ ps.length) :
    (runF xs sz ht al W y ((ps.map fun p => [p]).take k)).line = (lineRun xs W (ps.take k)).2 ∧ (runF xs sz ht al W y ((ps.map fun p => [p]).take k)).full = !(lineRun xs W (ps.take k)).2.isEmpty ∧
      Told1 xs sz ht al W (lineRun xs W (ps.take k)).1 (runF xs sz ht al W y ((ps.map fun p => [p]).take k)).out := by
  induction k with
  | zero => exact ⟨rfl, rfl, trivial⟩
  | succ k ih =>
    have hlt : k < ps.length := by omega
    have hp := h _ (List.getElem_mem hlt)
    have hmem : ∀ p ∈ (lineRun xs W (ps.take k)).2, TxP xs p := fun p hp2 => by
      have := (line_ok xs W ps h k (by omega)).flat
      exact h p (List.mem_of_mem_take (by rw [← this]; exact List.mem_append_right _ hp2))
    obtain ⟨i1, i2, i3⟩ := ih (by omega)
    have hlt2 : k < (ps.map fun p => [p]).length := by rw [List.length_map]; exact hlt
    rw [List.take_succ_eq_append_getElem hlt, lineRun_snoc, run_step xs sz ht al W y _ k hlt2, List.getElem_map]
    generalize runF xs sz ht al W y ((ps.map fun p => [p]).take k) = st at *
    generalize lineRun xs W (ps.take k) = r at *
    generalize ps[k] = p at *
    obtain ⟨done, line⟩ := r
    obtain ⟨yy, ln, full, out⟩ := st
    simp only at i1 i2 i3 hmem
    subst i1 i2
    have happ : ∀ st : BSt, appF xs sz ht al W st [p] = ⟨st.y, st.line ++ [p], true, st.out⟩ := fun st => by
      unfold appF
      rw [hp.must]
      simp [hp.solid]
    have hwd : widthG ln + widthG [p] - tailG xs [p].reverse = widthG ln + dG xs [p] := by unfold dG; omega
    have hso : ([p].any (solidF xs)) = true := by simp [hp.solid]
    unfold putF lineStep fitsF
    simp only [hp.clean, hwd, hso, Bool.not_true, Bool.false_and, Bool.or_false]
    cases ln with
    | nil =>
      simp only [List.isEmpty_nil, Bool.not_true, Bool.and_false, Bool.false_eq_true, if_false, ne_eq, not_true_eq_false, false_and]
      rw [happ]
      exact ⟨rfl, rfl, i3⟩
    | cons q l =>
      simp only [List.isEmpty_cons, Bool.not_false, Bool.and_true, ne_eq, reduceCtorEq, not_false_eq_true, true_and]
      by_cases hc : W < widthG (q :: l) + dG xs [p]
      · have hd : (!decide (widthG (q :: l) + dG xs [p] ≤ W)) = true := by rw [decide_eq_false (by omega)]; rfl
        rw [if_pos hd, if_pos hc, happ]
        have htold : (q :: l).any (toldF xs) = true := by rw [List.any_cons, (hmem q (by simp)).told]; rfl
        have he : endF xs sz ht al W false ⟨yy, q :: l, true, out⟩ = ⟨yy + highF xs sz ht (q :: l), [], false, out ++ [lnOf xs sz ht al yy 0 W (q :: l) false]⟩ := by
          unfold endF
          simp only
          rw [if_pos htold]
        rw [he]
        exact ⟨rfl, rfl, told1_snoc xs sz ht al W yy (q :: l) done out i3⟩
      · have hd : ¬ (!decide (widthG (q :: l) + dG xs [p] ≤ W)) = true := by rw [decide_eq_true (by omega)]; decide
        rw [if_neg hd, if_neg hc, happ]
        exact ⟨rfl, by simp, i3⟩
/-! The parts of the one text. -/
section
variable (s : ByteArray) (z : Int)
def pcsOf : List ByteArray := piecesF s true false
def psOf : List Pt := textTo 0 (oneIt s z) (pcsOf s) (pcsOf s).length
theorem parts_one : partsTo [oneIt s z] 1 = psOf s z := by
  have e : partsTo [oneIt s z] 1 = partsOf 0 (oneIt s z) := by simp [partsTo, itAt]
  rw [e]
  unfold partsOf
  rw [if_pos (show (oneIt s z).kind = 1 from rfl)]
  exact (textTo_all 0 (oneIt s z) (pcsOf s)).symm
theorem psOf_len : (psOf s z).length = (pcsOf s).length := by simp [psOf, textTo]
theorem psOf_at (k : Nat) (h : k < (pcsOf s).length) : ptAt (psOf s z) k = textPt 0 (oneIt s z) (pcsOf s) k := by
  rw [ptAt_of _ _ (by rw [psOf_len]; exact h)]
  simp [psOf, textTo]
theorem psOf_kind (k : Nat) (h : k < (pcsOf s).length) : pKind [oneIt s z] (ptAt (psOf s z) k) = 1 := by rw [psOf_at s z k h]; rfl
theorem cuts_one (k : Nat) (h : k < (psOf s z).length) : cutsAt [oneIt s z] (psOf s z) (k + 1) = true := by
  have hl := psOf_len s z
  unfold cutsAt
  by_cases he : k + 1 = (psOf s z).length
  · rw [he]; simp
  · have hk1 := psOf_kind s z k (by omega)
    have hk2 := psOf_kind s z (k + 1) (by omega)
    have e1 : downF [oneIt s z] (psOf s z) (k + 1) = k + 1 := by
      show (if skipA (pKind _ (ptAt _ k)) then _ else k + 1) = k + 1
      rw [hk1]; rfl
    have e2 : upF [oneIt s z] (psOf s z) ((psOf s z).length - (k + 1)) (k + 1) = k + 1 := by
      obtain ⟨m, hm⟩ : ∃ m, (psOf s z).length - (k + 1) = m + 1 := ⟨(psOf s z).length - (k + 1) - 1, by omega⟩
      rw [hm]
      show (if skipB (pKind _ (ptAt _ (k + 1))) then _ else k + 1) = k + 1
      rw [hk2]; rfl
    have e3 : (ptAt (psOf s z) k).last = false := by
      rw [psOf_at s z k (by omega)]
      unfold textPt
      simp only
      rw [beq_eq_false_iff_ne]; omega
    have : mayEndF [oneIt s z] (psOf s z) (k + 1) = true := by
      unfold mayEndF
      rw [Nat.add_sub_cancel, hk1, hk2, e1, e2, if_neg (by omega), if_neg (by omega)]
      unfold mayAt
      rw [Nat.add_sub_cancel, hk1, hk2, e3, if_neg (by omega)]
      rfl
    rw [this]; simp
theorem groups_one (k : Nat) (h : k ≤ (psOf s z).length) : groupsTo [oneIt s z] (psOf s z) k = ((List.range k).map fun j => (j, j + 1), k) := by
  induction k with
  | zero => rfl
  | succ k ih =>
    simp only [groupsTo]
    rw [ih (by omega), cuts_one s z k (by omega), if_pos rfl, List.range_succ, List.map_append]
    rfl
theorem segs_one : segsF [oneIt s z] = (psOf s z).map fun p => [p] := by
  unfold segsF
  rw [show ([oneIt s z] : List It).length = 1 from rfl, parts_one, groups_one s z _ (Nat.le_refl _)]
  simp only [List.map_map]
  refine List.ext_getElem (by simp) fun j h1 h2 => ?_
  simp only [List.length_map, List.length_range] at h1
  simp only [List.getElem_map, List.getElem_range, Function.comp, segP]
  rw [show j + 1 - j = 1 by omega, List.drop_eq_getElem_cons h1]
  rfl
end
end Go.Proofs.Ytadlabndbomgmaa
/- Plain laws on the lines of one text: LinesFit, LinesJustified. No program in sight. -/
namespace Go.Proofs.Ytadlabndbomgmaa
open Go.Lib
def trimPt (xs : List It) (p : Pt) : Pt := if tailF xs p = 0 then p else cutPt xs p
theorem trimPt_i (xs : List It) (p : Pt) : (trimPt xs p).i = p.i := by unfold trimPt; split <;> rfl
theorem trimPt_w (xs : List It) (p : Pt) : (trimPt xs p).w = p.w - tailF xs p := by unfold trimPt; split <;> simp_all [cutPt]
theorem ptAt_snoc (L : List Pt) (p : Pt) : ptAt (L ++ [p]) L.length = p := by simp [ptAt, List.getD]
theorem ptAt_left (L M : List Pt) (k : Nat) (h : k < L.length) : ptAt (L ++ M) k = ptAt L k := by simp [ptAt, List.getD, List.getElem?_append_left h]
theorem solidTo_snoc {xs : List It} {p : Pt} (h : TxP xs p) (L : List Pt) : solidTo xs (L ++ [p]) (L ++ [p]).length = L.length + 1 := by
  rw [List.length_append, List.length_singleton]
  simp only [solidTo]
  rw [ptAt_snoc, if_pos h.solid]
theorem trimF_snoc {xs : List It} {p : Pt} (h : TxP xs p) (L : List Pt) : trimF xs (L ++ [p]) = L ++ [trimPt xs p] := by
  unfold trimF trimPt
  rw [solidTo_snoc h]
  simp only [Nat.add_sub_cancel, ptAt_snoc]
  rw [if_neg (by omega)]
  split
  · rfl
  · rw [List.set_append_right _ _ (Nat.le_refl _), Nat.sub_self]; rfl
theorem widthG_trim {xs : List It} {p : Pt} (h : TxP xs p) (L : List Pt) : widthG (L ++ [trimPt xs p]) = dG xs (L ++ [p]) := by
  rw [dG_snoc h, h.dG, widthG_append]
  simp [widthG, trimPt_w]
theorem tellTo_eq (xs : List It) (qs : List Pt) (gaps : List Int) (hk : ∀ q ∈ qs, pKind xs q ≠ 5) (hg : gaps.length = qs.length) (k : Nat) (h : k ≤ qs.length) :
    tellTo xs qs gaps k = (widthG (qs.take k) + psum gaps k, (List.range k).map fun j => ⟨(ptAt qs j).i, cut (widthG (qs.take j) + psum gaps j), cut (ptAt qs j).w, (ptAt qs j).t⟩) := by
  induction k with
  | zero => simp [tellTo, widthG, psum]
  | succ k ih =>
    have hlt : k < qs.length := by omega
    have hq := hk _ (List.getElem_mem hlt)
    rw [← ptAt_of qs k hlt] at hq
    simp only [tellTo]
    rw [ih (by omega), if_neg hq, List.take_succ_eq_append_getElem hlt, widthG_append, psum_succ gaps k (by omega), List.range_succ, List.map_append, ← ptAt_of qs k hlt]
    refine Prod.ext ?_ rfl
    simp only [widthG, List.map_cons, List.map_nil, List.sum_cons, List.sum_nil]
    omega
theorem gapsF_len (xs : List It) (al : Int) (last : Bool) (ps : List Pt) (m : Nat) (free : Int) : (gapsF xs al last ps m free).length = ps.length := by
  unfold gapsF
  split
  · rw [shared_length]; simp [gapWs]
  · simp
theorem gapsF_nonneg (xs : List It) (al : Int) (last : Bool) (ps : List Pt) (m : Nat) (free : Int) (h : 0 ≤ free) (k : Nat) : 0 ≤ at0 (gapsF xs al last ps m free) k := by
  unfold gapsF
  split
  · exact shared_nonneg _ h k
  · have e : at0 (List.replicate ps.length 0) k = 0 := by
      unfold at0 List.getD
      rw [List.getElem?_replicate]
      split <;> rfl
    rw [e]; exact Int.le_refl _
theorem psum_nonneg (l : List Int) (h : ∀ k, 0 ≤ at0 l k) (k : Nat) (hk : k ≤ l.length) : 0 ≤ psum l k := by
  induction k with
  | zero => rw [psum_zero]; exact Int.le_refl _
  | succ k ih => rw [psum_succ l k (by omega)]; have := ih (by omega); have := h k; omega
theorem psum_rep (n k : Nat) (hk : k ≤ n) : psum (List.replicate n 0) k = 0 := by
  unfold psum
  rw [List.take_replicate]
  induction min k n with
  | zero => rfl
  | succ m ih => rw [List.replicate_succ, List.sum_cons, ih]; rfl
/-- A line of parts of one text, as it is told. -/
theorem ln_told {xs : List It} {p : Pt} (L : List Pt) (hL : ∀ q ∈ L, TxP xs q) (hp : TxP xs p) (sz ht al y W : Int) (last : Bool) :
    ∃ g : List Int, g = gapsF xs al last (L ++ [trimPt xs p]) L.length (max 0 (W - dG xs (L ++ [p]))) ∧ (lnOf xs sz ht al y 0 W (L ++ [p]) last).last = last ∧
      (lnOf xs sz ht al y 0 W (L ++ [p]) last).w = cut (dG xs (L ++ [p]) + psum g (L.length + 1)) ∧
      (lnOf xs sz ht al y 0 W (L ++ [p]) last).pcs = (List.range (L.length + 1)).map fun j => ⟨(ptAt (L ++ [trimPt xs p]) j).i, cut (widthG ((L ++ [trimPt xs p]).take j) + psum g j), cut (ptAt (L ++ [trimPt xs p]) j).w, (ptAt (L ++ [trimPt xs p]) j).t⟩ := by
  refine ⟨_, rfl, rfl, ?_⟩
  have hk : ∀ q ∈ L ++ [trimPt xs p], pKind xs q ≠ 5 := fun q hq => by
    rcases List.mem_append.1 hq with hq | hq
    · rw [(hL q hq).1]; decide
    · obtain rfl : q = trimPt xs p := by simpa using hq
      unfold pKind
      rw [trimPt_i]
      have := hp.1
      unfold pKind at this
      rw [this]; decide
  have e := tellTo_eq xs (L ++ [trimPt xs p]) (gapsF xs al last (L ++ [trimPt xs p]) L.length (max 0 (W - dG xs (L ++ [p])))) hk (gapsF_len ..) (L.length + 1) (by simp)
  have ef : freeF 0 W (L ++ [trimPt xs p]) = max 0 (W - dG xs (L ++ [p])) := by unfold freeF; rw [widthG_trim hp]; omega
  have el : (L ++ [trimPt xs p]).length = L.length + 1 := by simp
  have et : toldTo xs al 0 W (L ++ [p]) last = tellTo xs (L ++ [trimPt xs p]) (gapsF xs al last (L ++ [trimPt xs p]) L.length (max 0 (W - dG xs (L ++ [p])))) (L.length + 1) := by
    unfold toldTo
    rw [trimF_snoc hp, solidTo_snoc hp, Nat.add_sub_cancel, ef, el]
  have ew : (L ++ [trimPt xs p]).take (L.length + 1) = L ++ [trimPt xs p] := List.take_of_length_le (by simp)
  rw [ew, widthG_trim hp] at e
  unfold lnOf
  simp only
  rw [et, e]
  exact ⟨rfl, rfl⟩
/-- What a text is without its last blank. -/
def spTrim (l : List UInt8) : List UInt8 := if l.getLast? = some 32 then l.dropLast else l
theorem spTrim_pre (l : List UInt8) : spTrim l <+: l := by
  unfold spTrim; split
  · exact List.dropLast_prefix l
  · exact List.prefix_rfl
theorem tidy_double : ∀ (l : List UInt8) (b : Bool), Tidy b l → ∀ u v, l ≠ u ++ (32 :: 32 :: v)
  | [], _, _, u, v => by simp
  | c :: r, b, h, [], v => by
    intro e
    simp only [List.nil_append, List.cons.injEq] at e
    obtain ⟨rfl, rfl⟩ := e
    unfold Tidy at h
    rw [isBl_32] at h
    obtain ⟨_, _, h2⟩ := h
    unfold Tidy at h2
    rw [isBl_32] at h2
    exact absurd h2.2.1 (by decide)
  | c :: r, b, h, d :: u, v => by
    intro e
    simp only [List.cons_append, List.cons.injEq] at e
    unfold Tidy at h
    split at h
    · exact tidy_double r _ h.2.2 u v e.2
    · exact tidy_double r _ h u v e.2
theorem tidy_first {l : List UInt8} (h : Tidy true l) : noBlank l := by
  intro h32
  cases l with
  | nil => cases h32
  | cons c r =>
    simp only [List.head?_cons, Option.some.injEq] at h32
    subst h32
    unfold Tidy at h
    rw [isBl_32] at h
    exact absurd h.2.1 (by decide)
theorem last_split {l : List UInt8} (h : l.getLast? = some 32) : l = l.dropLast ++ [32] := by
  obtain ⟨m, hm⟩ := List.getLast?_eq_some_iff.1 h
  rw [hm]; simp
theorem spTrim_twice {l : List UInt8} (h : ∀ u, l ≠ u ++ [32, 32]) : spTrim (spTrim l) = spTrim l := by
  unfold spTrim
  by_cases h1 : l.getLast? = some 32
  · rw [if_pos h1, if_neg]
    intro h2
    have e1 := last_split h1
    have e2 := last_split h2
    rw [e2] at e1
    exact h l.dropLast.dropLast (e1.trans (by rw [List.append_assoc]; rfl))
  · rw [if_neg h1, if_neg h1]
section
variable (s : ByteArray) (z : Int)
theorem psOf_mem (p : Pt) (hp : p ∈ psOf s z) : p.i = 0 ∧ p.t ∈ pcsOf s ∧ p.w = txW (oneIt s z) p.t := by
  unfold psOf textTo at hp
  obtain ⟨q, hq, rfl⟩ := List.mem_map.1 hp
  have hq := List.mem_range.1 hq
  refine ⟨rfl, ?_, rfl⟩
  unfold textPt
  simp only
  rw [pieceAt_of _ q hq]
  exact List.getElem_mem hq
theorem psOf_bytes : (psOf s z).map (fun p => p.t.data.toList) = (pcsOf s).map (·.data.toList) := by
  unfold psOf textTo
  rw [List.map_map]
  refine List.ext_getElem (by simp) fun j h1 h2 => ?_
  simp only [List.length_map, List.length_range] at h1
  simp only [List.getElem_map, List.getElem_range, Function.comp, textPt]
  rw [pieceAt_of _ j h1]
theorem psOf_txp (hs : s.size ≤ 200) (hz : 0 ≤ z ∧ z ≤ 255) (ht : Tidy true s.data.toList) : ∀ p ∈ psOf s z, TxP [oneIt s z] p := fun p hp => by
  obtain ⟨h1, h2, h3⟩ := psOf_mem s z p hp
  refine ⟨by unfold pKind; rw [h1]; rfl, by unfold pMode; rw [h1]; rfl, ?_, ?_⟩
  · have := (partsTo_ok (one_ok s z hs hz) 1 (Nat.le_refl _)).1 p (by rw [parts_one]; exact hp)
    exact this.2
  · have := (pieces_cuts s (tidy_first ht)).2 _ h2
    unfold isSp
    rw [beq_eq_false_iff_ne, ByteArray.toList_eq]
    intro e
    unfold noBlank at this
    rw [e] at this
    exact this rfl
theorem tx_one (hs : s.size ≤ 200) (hz : 0 ≤ z ∧ z ≤ 255) (t : ByteArray) (ht : t.size ≤ s.size) : txW (oneIt s z) t = wideS z 0 (runesL t.data.toList) :=
  (txW_eq ((one_ok s z hs hz).2 _ (by simp)) t ht).1
theorem psOf_size (p : Pt) (hp : p ∈ psOf s z) : p.t.size ≤ s.size := pieces_le s true false _ (psOf_mem s z p hp).2.1
theorem dG_one (hs : s.size ≤ 200) (hz : 0 ≤ z ∧ z ≤ 255) (ht : Tidy true s.data.toList) (p : Pt) (hp : p ∈ psOf s z) : dG [oneIt s z] [p] = wideS z 0 (runesL (spTrim p.t.data.toList)) := by
  have hx := psOf_txp s z hs hz ht p hp
  obtain ⟨h1, h2, h3⟩ := psOf_mem s z p hp
  have hsz := psOf_size s z p hp
  rw [hx.dG]
  have hc : collF [oneIt s z] p = true := by unfold collF; rw [hx.1, hx.2.1]; rfl
  have he : endsF [oneIt s z] p = spaceEnd p.t := by unfold endsF; rw [hx.1]; rfl
  unfold tailF
  rw [hc, he, Bool.true_and]
  unfold spTrim
  by_cases hsp : spaceEnd p.t = true
  · have hl : p.t.data.toList.getLast? = some 32 := by unfold spaceEnd at hsp; simpa using hsp
    rw [if_pos hsp, if_pos hl, h1]
    have e1 : itAt [oneIt s z] 0 = oneIt s z := rfl
    have e2 : (p.t.extract 0 (p.t.size - 1)).data.toList = p.t.data.toList.dropLast := by simp
    rw [e1, tx_one s z hs hz _ (by rw [ByteArray.size_extract]; omega), e2]
    omega
  · have hl : ¬ p.t.data.toList.getLast? = some 32 := fun e => hsp (by unfold spaceEnd; simpa using e)
    rw [if_neg hsp, if_neg hl, h3, tx_one s z hs hz _ hsz]
    omega
theorem widthG_bytes (hs : s.size ≤ 200) (hz : 0 ≤ z ∧ z ≤ 255) : ∀ L : List Pt, (∀ p ∈ L, p ∈ psOf s z) → widthG L = wideS z 0 ((L.map fun p => runesL p.t.data.toList).flatten)
  | [], _ => rfl
  | p :: L, h => by
    have hp := h p (by simp)
    rw [widthG_cons, widthG_bytes hs hz L fun q hq => h q (by simp [hq]), List.map_cons, List.flatten_cons, wideS_append, (psOf_mem s z p hp).2.2, tx_one s z hs hz _ (psOf_size s z p hp)]
def bytesG (L : List Pt) : List UInt8 := (L.map fun p => p.t.data.toList).flatten
theorem bytesG_append (L M : List Pt) : bytesG (L ++ M) = bytesG L ++ bytesG M := by simp [bytesG]
theorem trimPt_bytes (hs : s.size ≤ 200) (hz : 0 ≤ z ∧ z ≤ 255) (ht : Tidy true s.data.toList) (p : Pt) (hp : p ∈ psOf s z) :
    (trimPt [oneIt s z] p).t.data.toList = p.t.data.toList ∨ (p.t.data.toList.getLast? = some 32 ∧ (trimPt [oneIt s z] p).t.data.toList = p.t.data.toList.dropLast) := by
  have hx := psOf_txp s z hs hz ht p hp
  unfold trimPt
  split
  · exact .inl rfl
  · rename_i hn
    refine .inr ⟨?_, by simp [cutPt]⟩
    have he : endsF [oneIt s z] p = spaceEnd p.t := by unfold endsF; rw [hx.1]; rfl
    unfold tailF at hn
    rw [he] at hn
    by_cases hsp : spaceEnd p.t = true
    · unfold spaceEnd at hsp; simpa using hsp
    · rw [if_neg (by simp [hsp])] at hn; exact absurd rfl hn
/-- No two blanks end a piece. -/
theorem piece_single (ht : Tidy true s.data.toList) (p : Pt) (hp : p ∈ psOf s z) : ∀ u, p.t.data.toList ≠ u ++ [32, 32] := by
  intro u e
  have hj := pieces_join s true false
  obtain ⟨a, b, hab⟩ := List.append_of_mem (psOf_mem s z p hp).2.1
  unfold pcsOf at hab
  rw [hab, List.map_append, List.flatten_append, List.map_cons, List.flatten_cons, e] at hj
  refine tidy_double _ _ ht ((a.map (·.data.toList)).flatten ++ u) ((b.map (·.data.toList)).flatten) ?_
  rw [← hj]
  simp
theorem fit_pair (hs : s.size ≤ 200) (hz : 0 ≤ z ∧ z ≤ 255) (ht : Tidy true s.data.toList) (W : Int) (hW : W ≤ 65535) (U A T V : List Pt) (p q : Pt) (hps : psOf s z = U ++ ((A ++ [p]) ++ ((q :: T) ++ V)))
    (hn : W < widthG (A ++ [p]) + dG [oneIt s z] [q]) :
    W < widthF z 0 (runesL (bytesG (A ++ [trimPt [oneIt s z] p]) ++ spTrim q.t.data.toList)) ∨ W < widthF z 0 (runesL (bytesG (A ++ [trimPt [oneIt s z] p]) ++ [32] ++ spTrim q.t.data.toList)) := by
  have hpm : p ∈ psOf s z := by rw [hps]; simp
  have hqm : q ∈ psOf s z := by rw [hps]; simp
  have hAm : ∀ r ∈ A ++ [p], r ∈ psOf s z := fun r hr => by rw [hps]; exact List.mem_append_right _ (List.mem_append_left _ hr)
  have hc := (pieces_cuts s (tidy_first ht)).1
  have hb := psOf_bytes s z
  unfold pcsOf at hb
  rw [← hb, hps, List.map_append] at hc
  have hc2 := Cuts.drop _ _ hc
  rw [List.map_append] at hc2
  have hr := Cuts.runes _ _ (spTrim q.t.data.toList) hc2 (by
    rw [List.map_append, List.map_cons, List.cons_append, List.flatten_cons]
    exact (spTrim_pre _).trans (List.prefix_append _ _))
  have key : W < widthF z 0 (runesL (bytesG (A ++ [p]) ++ spTrim q.t.data.toList)) := by
    unfold bytesG
    rw [hr]
    unfold widthF
    rw [show cut 0 = 0 from rfl, wideS_append, List.map_map]
    have h1 := widthG_bytes s z hs hz _ hAm
    have h2 := dG_one s z hs hz ht q hqm
    have h3 : (List.map (runesL ∘ fun p : Pt => p.t.data.toList) (A ++ [p])) = (A ++ [p]).map fun p => runesL p.t.data.toList := rfl
    rw [h3, ← h1, ← h2]
    unfold cut
    omega
  rcases trimPt_bytes s z hs hz ht p hpm with e | ⟨e1, e2⟩
  · left
    rw [bytesG_append] at key ⊢
    rw [show bytesG [trimPt [oneIt s z] p] = bytesG [p] from by simp [bytesG, e]]
    exact key
  · right
    rw [bytesG_append] at key ⊢
    have : bytesG [trimPt [oneIt s z] p] ++ [32] = bytesG [p] := by simp [bytesG, e2]; exact (last_split e1).symm
    rw [List.append_assoc (bytesG A), this]
    exact key
end
/-! The lines as they come out. -/
structure Lines1 (xs : List It) (sz ht al W : Int) (ps : List Pt) (Ls : List (List Pt)) (out : List Ln) : Prop where
  len : out.length = Ls.length
  flat : Ls.flatten = ps
  some : ∀ L ∈ Ls, L ≠ []
  room : ∀ L ∈ Ls, L.length ≤ 1 ∨ dG xs L ≤ W
  chain : Chn (NoRoom xs W) Ls
  told : ∀ (i : Nat) (h : i < out.length) (h2 : i < Ls.length), ∃ y, out[i] = lnOf xs sz ht al y 0 W Ls[i] (decide (i + 1 = Ls.length))
def linesF (xs : List It) (W : Int) (ps : List Pt) : List (List Pt) := if ps = [] then [] else (lineRun xs W ps).1 ++ [(lineRun xs W ps).2]
theorem lines_one (xs : List It) (sz ht al W y : Int) (ps : List Pt) (hseg : segsF xs = ps.map fun p => [p]) (h : ∀ p ∈ ps, TxP xs p) : Lines1 xs sz ht al W ps (linesF xs W ps) (breakF xs sz ht al W y) := by
  have hl := line_ok xs W ps h ps.length (Nat.le_refl _)
  have hr := run_lines xs sz ht al W y ps h ps.length (Nat.le_refl _)
  rw [List.take_length] at hl
  rw [List.take_length, show ps.length = (ps.map fun p => [p]).length by simp, List.take_length, ← hseg] at hr
  unfold breakF linesF
  by_cases hn : ps = []
  · rw [if_pos hn]
    have e : runF xs sz ht al W y (segsF xs) = ⟨y, [], false, []⟩ := by rw [hseg, hn]; rfl
    rw [e]
    exact ⟨rfl, by rw [hn]; rfl, (fun L hL => by cases hL), (fun L hL => by cases hL), trivial, (fun i h => absurd h (Nat.not_lt_zero _))⟩
  · rw [if_neg hn]
    have h2 := hl.some2 hn
    obtain ⟨r1, r2, r3⟩ := hr
    generalize runF xs sz ht al W y (segsF xs) = st at *
    have hmem : ∀ p ∈ (lineRun xs W ps).2, TxP xs p := fun p hp2 => h p (by rw [← hl.flat]; exact List.mem_append_right _ hp2)
    have hf := hl.flat
    have hs := hl.some
    have hro := hl.room
    have hch := hl.chain
    generalize lineRun xs W ps = r at *
    obtain ⟨done, line⟩ := r
    obtain ⟨yy, ln, full, out⟩ := st
    simp only at *
    subst r1
    have hfin : finF xs sz ht al W ⟨yy, ln, full, out⟩ = out ++ [lnOf xs sz ht al yy 0 W ln true] := by
      unfold finF endF
      simp only
      rw [if_pos h2]
      cases ln with
      | nil => exact absurd rfl h2
      | cons q l =>
        rw [if_pos (by rw [List.any_cons, (hmem q (by simp)).told]; rfl)]
    rw [hfin]
    have hlen := told1_len xs sz ht al W done out r3
    refine ⟨by simp [hlen], by simp [hf], fun L hL => ?_, hro, hch, fun i hi hi2 => ?_⟩
    · rcases List.mem_append.1 hL with hL | hL
      · exact hs L hL
      · obtain rfl : L = ln := by simpa using hL
        exact h2
    · by_cases he : i < out.length
      · obtain ⟨y', hy⟩ := told1_at xs sz ht al W done out i (by omega) he r3
        refine ⟨y', ?_⟩
        rw [List.getElem_append_left he, List.getElem_append_left (by omega), hy, decide_eq_false (by simp; omega)]
      · have hie : i = out.length := by simp at hi; omega
        subst hie
        refine ⟨yy, ?_⟩
        rw [List.getElem_append_right (Nat.le_refl _), List.getElem_append_right (by omega), decide_eq_true (by simp; omega)]
        simp [hlen]
theorem last_of (L : List Pt) (h : L ≠ []) : ∃ A p, L = A ++ [p] := ⟨_, _, (List.dropLast_concat_getLast h).symm⟩
def pcBytes (l : List Pc) : List UInt8 := (l.map fun c => c.t.data.toList).flatten
theorem pcs_map (qs : List Pt) (n : Nat) (hn : n = qs.length) (f : Nat → Int) (g : Nat → Int) (h : Nat → Int) : (((List.range n).map fun j => (⟨f j, g j, h j, (ptAt qs j).t⟩ : Pc)).map fun c => c.t.data.toList) = qs.map fun p => p.t.data.toList := by
  refine List.ext_getElem (by simp [hn]) fun j h1 h2 => ?_
  simp only [List.length_map, List.length_range] at h1
  simp only [List.getElem_map, List.getElem_range]
  rw [ptAt_of _ _ (by omega)]
theorem noGaps (xs : List It) (al : Int) (last : Bool) (ps : List Pt) (m : Nat) (free : Int) (h : ¬ (al = 3 ∧ last = false)) (k : Nat) (hk : k ≤ ps.length) : psum (gapsF xs al last ps m free) k = 0 := by
  unfold gapsF
  rw [if_neg h]
  exact psum_rep _ _ hk
theorem split_at {α : Type} : ∀ (l : List α) (i : Nat) (h : i + 1 < l.length), ∃ u v, l = u ++ (l[i] :: l[i + 1] :: v)
  | a :: b :: r, 0, _ => ⟨[], r, rfl⟩
  | a :: b :: r, i + 1, h => by
    obtain ⟨u, v, e⟩ := split_at (b :: r) i (by simpa using h)
    exact ⟨a :: u, v, by rw [List.cons_append]; exact congrArg (a :: ·) e⟩
/-- A justified line beside the same one that is not. -/
def JustOk (W : Int) (a b : Ln) : Prop :=
  a.pcs.length = b.pcs.length ∧ (∀ (k : Nat) (hk : k < a.pcs.length) (hk' : k < b.pcs.length), b.pcs[k].x ≤ a.pcs[k].x ∧ a.pcs[k].t = b.pcs[k].t) ∧
    (a.last = false → (∃ (k : Nat) (hk : k < a.pcs.length), k + 1 < a.pcs.length ∧ spaceEnd a.pcs[k].t = true) → a.w = W) ∧ (a.last = true → a.w = b.w)
/-- What first stands in a line would have had no room in the one ahead. -/
def FitPair (W z : Int) (a b : Ln) : Prop :=
  ∃ c r, b.pcs = c :: r ∧ (W < widthF z 0 (runesL (pcBytes a.pcs ++ spTrim c.t.data.toList)) ∨ W < widthF z 0 (runesL (pcBytes a.pcs ++ [32] ++ spTrim c.t.data.toList)))
section
variable (s : ByteArray) (z : Int)
theorem lines_text (hs : s.size ≤ 200) (hz : 0 ≤ z ∧ z ≤ 255) (ht : Tidy true s.data.toList) (sz ht2 al y W : Int) : Lines1 [oneIt s z] sz ht2 al W (psOf s z) (linesF [oneIt s z] W (psOf s z)) (breakF [oneIt s z] sz ht2 al W y) :=
  lines_one _ _ _ _ _ _ _ (segs_one s z) (psOf_txp s z hs hz ht)
theorem mem_line {xs : List It} {sz ht2 al W : Int} {ps : List Pt} {Ls : List (List Pt)} {out : List Ln} (h : Lines1 xs sz ht2 al W ps Ls out) {i : Nat} (hi : i < Ls.length) : ∀ p ∈ Ls[i], p ∈ ps := fun p hp => by
  rw [← h.flat]
  exact List.mem_flatten.2 ⟨_, List.getElem_mem hi, hp⟩
/-- A line of words is no wider than its room, unless it is one piece alone; what stands first in the next one would have had no room. -/
theorem fit_out (hs : s.size ≤ 200) (hz : 0 ≤ z ∧ z ≤ 255) (ht : Tidy true s.data.toList) (sz ht2 y W : Int) (hW0 : 0 ≤ W) (hW : W ≤ 65535) (out : List Ln) (hout : breakF [oneIt s z] sz ht2 0 W y = out) (i : Nat) (h : i < out.length) :
    (out[i].w ≤ W ∨ out[i].pcs.length = 1) ∧ ∀ h2 : i + 1 < out.length, FitPair W z out[i] out[i + 1] := by
  have H := lines_text s z hs hz ht sz ht2 0 y W
  have hps := psOf_txp s z hs hz ht
  rw [hout] at H
  clear hout
  generalize hLs : linesF [oneIt s z] W (psOf s z) = Ls at *
  have hl := H.len
  have hiL : i < Ls.length := by omega
  obtain ⟨A, p, hL⟩ := last_of _ (H.some _ (List.getElem_mem hiL))
  obtain ⟨y1, ho⟩ := H.told i h hiL
  have hm := mem_line H hiL
  rw [hL] at ho hm
  obtain ⟨g, hg, _, hw, hp⟩ := ln_told (xs := [oneIt s z]) A (fun q hq => hps q (hm q (by simp [hq]))) (hps p (hm p (by simp))) sz ht2 0 y1 W (decide (i + 1 = Ls.length))
  rw [← ho] at hw hp
  constructor
  · have hro := H.room _ (List.getElem_mem hiL)
    rw [hL] at hro
    rcases hro with hro | hro
    · right
      rw [hp, List.length_map, List.length_range]
      simp at hro
      rw [hro]; rfl
    · left
      rw [hw, hg, noGaps _ _ _ _ _ _ (fun q => absurd q.1 (by decide)) _ (by rw [List.length_append]; exact Nat.le_refl _)]
      unfold cut
      omega
  · intro h2
    have hiL2 : i + 1 < Ls.length := by omega
    have hch := chn_at _ _ _ hiL2 H.chain
    unfold NoRoom at hch
    have hsome := H.some _ (List.getElem_mem hiL2)
    obtain ⟨A2, p2, hL2⟩ := last_of _ hsome
    obtain ⟨y2, ho2⟩ := H.told (i + 1) h2 hiL2
    have hm2 := mem_line H hiL2
    obtain ⟨U, V, hsp⟩ := split_at Ls i hiL2
    have hfl := H.flat
    rw [hsp] at hfl
    rw [hL] at hch hfl
    rw [hL2] at ho2 hm2 hch hfl
    obtain ⟨g2, _, _, _, hp2⟩ := ln_told (xs := [oneIt s z]) A2 (fun q hq => hps q (hm2 q (by simp [hq]))) (hps p2 (hm2 p2 (by simp))) sz ht2 0 y2 W (decide (i + 1 + 1 = Ls.length))
    rw [← ho2] at hp2
    have hbytes : pcBytes out[i].pcs = bytesG (A ++ [trimPt [oneIt s z] p]) := by
      rw [hp]
      unfold pcBytes bytesG
      rw [pcs_map _ _ (by simp)]
    unfold FitPair
    rw [hbytes]
    obtain ⟨q, T, hqT⟩ : ∃ q T, A2 ++ [p2] = q :: T := by
      cases A2 with
      | nil => exact ⟨p2, [], rfl⟩
      | cons q T => exact ⟨q, T ++ [p2], rfl⟩
    rw [hqT] at hch hfl
    have hq0 : ptAt (q :: T) 0 = q := rfl
    rw [hq0] at hch
    have hpair := fit_pair s z hs hz ht W hW U.flatten A T V.flatten p q (by rw [← hfl]; simp) hch
    rw [List.range_succ_eq_map, List.map_cons] at hp2
    refine ⟨_, _, hp2, ?_⟩
    have hqm : q ∈ psOf s z := hm2 q (by rw [hqT]; simp)
    have hfirst : spTrim (ptAt (A2 ++ [trimPt [oneIt s z] p2]) 0).t.data.toList = spTrim q.t.data.toList := by
      cases A2 with
      | cons a A3 =>
        simp only [List.cons_append, List.cons.injEq] at hqT
        obtain ⟨rfl, _⟩ := hqT
        rfl
      | nil =>
        simp only [List.nil_append, List.cons.injEq] at hqT
        obtain ⟨rfl, _⟩ := hqT
        show spTrim (trimPt [oneIt s z] p2).t.data.toList = _
        rcases trimPt_bytes s z hs hz ht p2 hqm with e | ⟨e1, e2⟩
        · rw [e]
        · have h3 := spTrim_twice (piece_single s z ht p2 hqm)
          have h4 : spTrim p2.t.data.toList = p2.t.data.toList.dropLast := by unfold spTrim; rw [if_pos e1]
          rw [e2, ← h4, h3]
    simp only
    rw [hfirst]
    exact hpair
/-- A line that is justified, and has blanks in it, is as wide as its room. -/
theorem just_out (hs : s.size ≤ 200) (hz : 0 ≤ z ∧ z ≤ 255) (ht : Tidy true s.data.toList) (sz ht2 y W : Int) (hW0 : 0 ≤ W) (hW : W ≤ 65535) (out out0 : List Ln) (ho1 : breakF [oneIt s z] sz ht2 3 W y = out) (ho2 : breakF [oneIt s z] sz ht2 0 W y = out0) :
    out.length = out0.length ∧ ∀ (i : Nat) (h : i < out.length) (h' : i < out0.length), JustOk W out[i] out0[i] := by
  have H := lines_text s z hs hz ht sz ht2 3 y W
  have H0 := lines_text s z hs hz ht sz ht2 0 y W
  have hps := psOf_txp s z hs hz ht
  rw [ho1] at H
  rw [ho2] at H0
  clear ho1 ho2
  generalize hLs : linesF [oneIt s z] W (psOf s z) = Ls at *
  have hl := H.len
  have hl0 := H0.len
  refine ⟨by omega, fun i h h' => ?_⟩
  have hiL : i < Ls.length := by omega
  obtain ⟨A, p, hL⟩ := last_of _ (H.some _ (List.getElem_mem hiL))
  obtain ⟨y1, ho⟩ := H.told i h hiL
  obtain ⟨y0, ho0⟩ := H0.told i h' hiL
  have hm := mem_line H hiL
  have hro := H.room _ (List.getElem_mem hiL)
  rw [hL] at ho ho0 hm hro
  have hA : ∀ q ∈ A, TxP [oneIt s z] q := fun q hq => hps q (hm q (by simp [hq]))
  have hP : TxP [oneIt s z] p := hps p (hm p (by simp))
  obtain ⟨g, hg, hla, hw, hp⟩ := ln_told (xs := [oneIt s z]) A hA hP sz ht2 3 y1 W (decide (i + 1 = Ls.length))
  obtain ⟨g0, hg0, _, hw0, hp0⟩ := ln_told (xs := [oneIt s z]) A hA hP sz ht2 0 y0 W (decide (i + 1 = Ls.length))
  rw [← ho] at hw hp hla
  rw [← ho0] at hw0 hp0
  have hz0 : ∀ k, k ≤ A.length + 1 → psum g0 k = 0 := fun k hk => by
    rw [hg0]
    refine noGaps _ _ _ _ _ _ (fun q => absurd q.1 (by decide)) _ ?_
    rw [List.length_append]; exact hk
  have hfree : (0 : Int) ≤ max 0 (W - dG [oneIt s z] (A ++ [p])) := by omega
  have hgl : g.length = A.length + 1 := by rw [hg, gapsF_len]; simp
  have hgn : ∀ j, 0 ≤ at0 g j := fun j => by
    rw [hg]
    exact gapsF_nonneg _ _ _ _ _ _ hfree j
  have hpos : ∀ k, k ≤ A.length + 1 → 0 ≤ psum g k := fun k hk => psum_nonneg g hgn k (by omega)
  have hlp : out[i].pcs.length = A.length + 1 := by rw [hp]; simp
  have hlp0 : out0[i].pcs.length = A.length + 1 := by rw [hp0]; simp
  refine ⟨by omega, fun k hk hk' => ?_, fun hlast hb => ?_, fun hlast => ?_⟩
  · clear hg hg0 hw hw0 hro
    have e1 : out[i].pcs[k] = ⟨(ptAt (A ++ [trimPt [oneIt s z] p]) k).i, cut (widthG ((A ++ [trimPt [oneIt s z] p]).take k) + psum g k), cut (ptAt (A ++ [trimPt [oneIt s z] p]) k).w, (ptAt (A ++ [trimPt [oneIt s z] p]) k).t⟩ := by
      simp only [hp, List.getElem_map, List.getElem_range]
    have e2 : out0[i].pcs[k] = ⟨(ptAt (A ++ [trimPt [oneIt s z] p]) k).i, cut (widthG ((A ++ [trimPt [oneIt s z] p]).take k) + psum g0 k), cut (ptAt (A ++ [trimPt [oneIt s z] p]) k).w, (ptAt (A ++ [trimPt [oneIt s z] p]) k).t⟩ := by
      simp only [hp0, List.getElem_map, List.getElem_range]
    rw [e1, e2]
    refine ⟨?_, rfl⟩
    simp only
    rw [hz0 k (by omega)]
    have := hpos k (by omega)
    exact cut_mono (by omega)
  · obtain ⟨k, hk, hk1, hsp⟩ := hb
    have e1 : out[i].pcs[k].t = (ptAt (A ++ [trimPt [oneIt s z] p]) k).t := by
      simp only [hp, List.getElem_map, List.getElem_range]
    rw [e1] at hsp
    have hkA : k < A.length := by omega
    have hr : dG [oneIt s z] (A ++ [p]) ≤ W := by
      rcases hro with hro | hro
      · rw [List.length_append, List.length_singleton] at hro; omega
      · exact hro
    rw [hla] at hlast
    have hends : endsF [oneIt s z] (ptAt (A ++ [trimPt [oneIt s z] p]) k) = true := by
      rw [ptAt_left _ _ _ hkA] at hsp ⊢
      have := hA _ (List.getElem_mem hkA)
      rw [← ptAt_of A k hkA] at this
      unfold endsF
      rw [this.1, hsp]; rfl
    have hsome : somePos (gapWs [oneIt s z] (A ++ [trimPt [oneIt s z] p]) A.length) (gapWs [oneIt s z] (A ++ [trimPt [oneIt s z] p]) A.length).length = true := by
      cases hsm : somePos (gapWs [oneIt s z] (A ++ [trimPt [oneIt s z] p]) A.length) (gapWs [oneIt s z] (A ++ [trimPt [oneIt s z] p]) A.length).length
      · have h9 := somePos_false hsm k (by simp [gapWs]; omega)
        rw [at0_of _ _ (by simp [gapWs]; omega)] at h9
        simp only [gapWs, List.getElem_map, List.getElem_range, decide_eq_true hkA, hends, Bool.and_self, if_true] at h9
        omega
      · rfl
    have hsum : psum g (A.length + 1) = cut (max 0 (W - dG [oneIt s z] (A ++ [p]))) := by
      rw [← hgl, psum_all, hg]
      unfold gapsF
      rw [if_pos ⟨rfl, hlast⟩]
      refine shared_sum_some _ _ ?_ hsome
      have h5 : A.length + 1 ≤ 200 := by
        have h6 := (psOf_len s z)
        have h7 := pieces_count s true false
        have h8 : (A ++ [p]).length ≤ (psOf s z).length := by
          have h9 : (A ++ [p]).Sublist Ls.flatten := by rw [← hL]; exact List.sublist_flatten_of_mem (List.getElem_mem hiL)
          rw [H.flat] at h9
          exact h9.length_le
        unfold pcsOf at h6
        rw [List.length_append, List.length_singleton] at h8
        omega
      simp [gapWs]; omega
    have hd0 : 0 ≤ dG [oneIt s z] (A ++ [p]) := by
      have := tailG_ok (A ++ [p]).reverse (xs := [oneIt s z]) (fun q hq => (hps q (hm q (List.mem_reverse.1 hq))).2.2.1)
      rw [widthG_rev] at this
      unfold dG; omega
    rw [hw, hsum]
    unfold cut
    omega
  · rw [hla] at hlast
    have : psum g (A.length + 1) = 0 := by rw [hg]; exact noGaps _ _ _ _ _ _ (by rw [hlast]; simp) _ (by simp)
    rw [hw, hw0, this, hz0 _ (Nat.le_refl _)]
end
end Go.Proofs.Ytadlabndbomgmaa
/- Plain law of LinesAll: all texts stand in the lines, but for blanks, in order, lines one below the other. No program in sight. -/
namespace Go.Proofs.Ytadlabndbomgmaa
def nbs (l : List UInt8) : List UInt8 := l.filter (· != 32)
def ptNb (i : Nat) (l : List Pt) : List UInt8 := l.flatMap fun p => if p.i = i then nbs p.t.data.toList else []
def kNb (i : Nat) (a : Int × ByteArray) : List UInt8 := if a.1 = (i : Int) then nbs a.2.data.toList else []
def pcNb (i : Nat) (l : List Pc) : List UInt8 := l.flatMap fun c => kNb i (c.item, c.t)
def pcsOut (out : List Ln) : List Pc := out.flatMap (·.pcs)
theorem nbs_append (a b : List UInt8) : nbs (a ++ b) = nbs a ++ nbs b := by simp [nbs]
theorem ptNb_append (i : Nat) (a b : List Pt) : ptNb i (a ++ b) = ptNb i a ++ ptNb i b := by simp [ptNb]
theorem pcNb_append (i : Nat) (a b : List Pc) : pcNb i (a ++ b) = pcNb i a ++ pcNb i b := by simp [pcNb]
theorem pcsOut_snoc (out : List Ln) (l : Ln) : pcsOut (out ++ [l]) = pcsOut out ++ l.pcs := by simp [pcsOut]
theorem pcNb_key (i : Nat) (l : List Pc) : pcNb i l = (l.map fun c => (c.item, c.t)).flatMap (kNb i) := by simp [pcNb, List.flatMap_map]
/-- Who is no text has none. -/
def PtT (xs : List It) (p : Pt) : Prop := pKind xs p ≠ 1 → p.t.data.toList = []
theorem tell_key (xs : List It) (ts : List Pt) (gp : List Int) (k : Nat) (hk : k ≤ ts.length) : (tellTo xs ts gp k).2.map (fun c => (c.item, c.t)) = ((ts.take k).filter (fun p => !floatP xs p)).map (fun p => ((p.i : Int), p.t)) := by
  induction k with
  | zero => simp [tellTo]
  | succ k ih =>
    have hlt : k < ts.length := by omega
    rw [List.take_succ_eq_append_getElem hlt, List.filter_append, List.map_append, ← ih (by omega), ← ptAt_of ts k hlt]
    simp only [tellTo]
    by_cases h5 : pKind xs (ptAt ts k) = 5
    · have hf : floatP xs (ptAt ts k) = true := by unfold floatP; simpa using h5
      rw [if_pos h5]
      simp [hf]
    · have hf : floatP xs (ptAt ts k) = false := by unfold floatP; simpa using h5
      rw [if_neg h5]
      simp [hf]
theorem ptNb_noFloat {xs : List It} (i : Nat) : ∀ (l : List Pt), (∀ p ∈ l, PtT xs p) → ptNb i (l.filter fun p => !floatP xs p) = ptNb i l
  | [], _ => rfl
  | p :: r, h => by
    have ih := ptNb_noFloat i r fun q hq => h q (by simp [hq])
    by_cases hf : floatP xs p = true
    · have hk : pKind xs p ≠ 1 := by
        unfold floatP at hf
        have : pKind xs p = 5 := by simpa using hf
        omega
      have ht := h p (by simp) hk
      rw [List.filter_cons_of_neg (by simp [hf]), ih]
      show ptNb i r = (if p.i = i then nbs p.t.data.toList else []) ++ ptNb i r
      rw [ht]
      split <;> rfl
    · rw [List.filter_cons_of_pos (by simp [hf])]
      show (if p.i = i then nbs p.t.data.toList else []) ++ ptNb i _ = (if p.i = i then nbs p.t.data.toList else []) ++ ptNb i r
      rw [ih]
theorem flatMap_set {α β : Type} (f : α → List β) : ∀ (l : List α) (k : Nat) (a : α), (∀ h : k < l.length, f a = f l[k]) → (l.set k a).flatMap f = l.flatMap f
  | [], _, _, _ => rfl
  | b :: r, 0, a, h => by
    have := h (by simp)
    simp only [List.getElem_cons_zero] at this
    simp [this]
  | b :: r, k + 1, a, h => by
    have ih := flatMap_set f r k a fun hk => by have := h (by simpa using hk); simpa using this
    simp [ih]
theorem map_set_same {α β : Type} (f : α → β) : ∀ (l : List α) (k : Nat) (a : α), (∀ h : k < l.length, f a = f l[k]) → (l.set k a).map f = l.map f
  | [], _, _, _ => rfl
  | b :: r, 0, a, h => by
    have := h (by simp)
    simp only [List.getElem_cons_zero] at this
    simp [this]
  | b :: r, k + 1, a, h => by
    have ih := map_set_same f r k a fun hk => by have := h (by simpa using hk); simpa using this
    simp [ih]
theorem cutPt_nbs {xs : List It} {p : Pt} (h : tailF xs p ≠ 0) : nbs (cutPt xs p).t.data.toList = nbs p.t.data.toList := by
  have hd : (cutPt xs p).t.data.toList = p.t.data.toList.dropLast := by simp [cutPt]
  have he : endsF xs p = true := by
    unfold tailF at h
    by_cases he : endsF xs p = true
    · exact he
    · rw [if_neg (by simp [he])] at h; exact absurd rfl h
  have hsp : p.t.data.toList.getLast? = some 32 := by
    unfold endsF spaceEnd at he
    rw [Bool.and_eq_true] at he
    simpa using he.2
  rw [hd]
  conv => rhs; rw [last_split hsp, nbs_append]
  simp [nbs]
theorem trim_same (xs : List It) (line : List Pt) (i : Nat) : ptNb i (trimF xs line) = ptNb i line ∧ (trimF xs line).map (·.i) = line.map (·.i) := by
  unfold trimF
  simp only
  split
  · exact ⟨rfl, rfl⟩
  · split
    · exact ⟨rfl, rfl⟩
    · rename_i h1 h2
      refine ⟨flatMap_set _ _ _ _ fun h => ?_, map_set_same _ _ _ _ fun h => ?_⟩
      · rw [ptAt_of line _ h] at h2 ⊢
        rw [cutPt_nbs h2]; rfl
      · rw [ptAt_of line _ h]; rfl
theorem trim_ptt {xs : List It} {line : List Pt} (h : ∀ p ∈ line, PtT xs p) : ∀ p ∈ trimF xs line, PtT xs p := by
  unfold trimF
  simp only
  split
  · exact h
  · split
    · exact h
    · rename_i h1 h2
      intro p hp
      rcases List.mem_or_eq_of_mem_set hp with hp | rfl
      · exact h p hp
      · intro hk
        exfalso
        apply hk
        have h3 : ¬ pKind xs (ptAt line (solidTo xs line line.length - 1)) ≠ 1 := fun h4 => h2 (tail_zero xs _ h4)
        have h4 : pKind xs (ptAt line (solidTo xs line line.length - 1)) = 1 := Decidable.not_not.1 h3
        exact h4
theorem told_none {xs : List It} {line : List Pt} (h : ∀ p ∈ line, PtT xs p) (hn : ¬ line.any (toldF xs) = true) (i : Nat) : ptNb i line = [] := by
  unfold ptNb
  rw [List.flatMap_eq_nil_iff]
  intro p hp
  have hk : pKind xs p ≠ 1 := fun hk => hn (List.any_eq_true.2 ⟨p, hp, by unfold toldF; rw [hk]; rfl⟩)
  rw [h p hp hk]
  split <;> rfl
theorem clean_nb (xs : List It) (i : Nat) : ∀ (g : List Pt) (f : Bool), ptNb i (cleanF xs f g) = ptNb i g
  | [], _ => rfl
  | p :: r, f => by
    simp only [cleanF]
    by_cases h : (!f && (collF xs p && isSp p.t)) = true
    · rw [if_pos h, clean_nb xs i r f]
      have hs : p.t.data.toList = [32] := by
        simp only [Bool.and_eq_true] at h
        have h3 := h.2.2
        unfold isSp at h3
        rw [← ByteArray.toList_eq]
        simpa using h3
      show ptNb i r = (if p.i = i then nbs p.t.data.toList else []) ++ ptNb i r
      rw [hs]
      split <;> rfl
    · rw [if_neg h]
      show (if p.i = i then nbs p.t.data.toList else []) ++ ptNb i _ = (if p.i = i then nbs p.t.data.toList else []) ++ ptNb i r
      rw [clean_nb xs i r _]
/-! The lines: one below the other. -/
def ln0 : Ln := ⟨0, 0, 0, 0, 0, [], false⟩
def lnAt (out : List Ln) (k : Nat) : Ln := out.getD k ln0
theorem lnAt_of (out : List Ln) (k : Nat) (h : k < out.length) : lnAt out k = out[k] := by simp [lnAt, List.getD, List.getElem?_eq_getElem h]
def yAt (out : List Ln) : Nat → Int
  | 0 => 0
  | k + 1 => min ((lnAt out k).y + (lnAt out k).h) 16777216
def YOk (out : List Ln) : Prop := ∀ k, k < out.length → 0 ≤ (lnAt out k).h ∧ yAt out k ≤ (lnAt out k).y
theorem lnAt_left (out : List Ln) (l : Ln) (k : Nat) (h : k < out.length) : lnAt (out ++ [l]) k = lnAt out k := by simp [lnAt, List.getD, List.getElem?_append_left h]
theorem lnAt_last (out : List Ln) (l : Ln) : lnAt (out ++ [l]) out.length = l := by simp [lnAt, List.getD]
theorem yAt_left (out : List Ln) (l : Ln) (k : Nat) (h : k ≤ out.length) : yAt (out ++ [l]) k = yAt out k := by
  cases k with
  | zero => rfl
  | succ k => simp only [yAt]; rw [lnAt_left out l k (by omega)]
theorem yok_snoc {out : List Ln} {l : Ln} (h : YOk out) (h1 : yAt out out.length ≤ l.y) (h2 : 0 ≤ l.h) : YOk (out ++ [l]) := by
  intro k hk
  rw [List.length_append, List.length_singleton] at hk
  by_cases e : k < out.length
  · rw [lnAt_left out l k e, yAt_left out l k (by omega)]
    exact h k e
  · obtain rfl : k = out.length := by omega
    rw [lnAt_last, yAt_left out l _ (Nat.le_refl _)]
    exact ⟨h2, h1⟩
structure InvA (xs : List It) (st : BG) (done : List Pt) : Prop where
  nb : ∀ i, pcNb i (pcsOut st.out) ++ ptNb i st.line = ptNb i done
  sub : ((pcsOut st.out).map (·.item) ++ st.line.map (fun p => (p.i : Int))).Sublist (done.map fun p => (p.i : Int))
  nofl : ∀ c ∈ pcsOut st.out, ∃ p ∈ done, c.item = (p.i : Int) ∧ floatP xs p = false
  mem : ∀ p ∈ st.line, p ∈ done
  y0 : 0 ≤ st.y
  yc : YOk st.out
  yl : yAt st.out st.out.length ≤ cut st.y
section
variable {xs : List It} {sz ht al W : Int}
theorem inv_tell {st : BG} {done : List Pt} (hd : ∀ p ∈ done, PtT xs p) (h : InvA xs st done) (last : Bool) :
    (∀ i, pcNb i (pcsOut (tellG xs sz ht al last st).out) = ptNb i done) ∧ ((pcsOut (tellG xs sz ht al last st).out).map (·.item)).Sublist (done.map fun p => (p.i : Int)) ∧
    (∀ c ∈ pcsOut (tellG xs sz ht al last st).out, ∃ p ∈ done, c.item = (p.i : Int) ∧ floatP xs p = false) ∧ 0 ≤ (tellG xs sz ht al last st).y ∧ YOk (tellG xs sz ht al last st).out ∧
    yAt (tellG xs sz ht al last st).out (tellG xs sz ht al last st).out.length ≤ cut (tellG xs sz ht al last st).y := by
  have hl : ∀ p ∈ st.line, PtT xs p := fun p hp => hd p (h.mem p hp)
  unfold tellG
  by_cases ht' : st.line.any (toldF xs) = true
  · rw [if_pos ht']
    simp only [pcsOut_snoc, pcNb_append, List.map_append]
    have hkey : (lnOf xs sz ht al st.y st.left st.right st.line last).pcs.map (fun c => (c.item, c.t)) = ((trimF xs st.line).filter (fun p => !floatP xs p)).map (fun p => ((p.i : Int), p.t)) := by
      show ((toldTo xs al st.left st.right st.line last).2).map _ = _
      unfold toldTo
      rw [tell_key xs _ _ _ (Nat.le_refl _), List.take_length]
    have hi : (lnOf xs sz ht al st.y st.left st.right st.line last).pcs.map (·.item) = ((trimF xs st.line).filter (fun p => !floatP xs p)).map (fun p => (p.i : Int)) := by
      have := congrArg (List.map Prod.fst) hkey
      simpa [List.map_map, Function.comp_def] using this
    have hmi : (trimF xs st.line).map (fun p => (p.i : Int)) = st.line.map (fun p => (p.i : Int)) := by
      have := congrArg (List.map (fun (n : Nat) => (n : Int))) (trim_same xs st.line 0).2
      simpa [List.map_map, Function.comp_def] using this
    have hh : 0 ≤ highF xs sz ht st.line := by unfold highF; omega
    have hy0 := h.y0
    refine ⟨fun i => ?_, ?_, ?_, ?_, ?_, ?_⟩
    · rw [pcNb_key i (lnOf _ _ _ _ _ _ _ _ _).pcs, hkey, ← h.nb i]
      congr 1
      rw [List.flatMap_map]
      have e : (fun p : Pt => kNb i ((p.i : Int), p.t)) = fun p => if p.i = i then nbs p.t.data.toList else [] := by
        funext p
        unfold kNb
        by_cases hp : p.i = i
        · rw [if_pos hp, if_pos (by rw [hp])]
        · rw [if_neg hp, if_neg (by omega)]
      rw [e]
      show ptNb i _ = _
      rw [ptNb_noFloat i _ (trim_ptt hl), (trim_same xs st.line i).1]
    · rw [hi]
      refine List.Sublist.trans (List.Sublist.append_left ?_ _) h.sub
      rw [← hmi]
      exact (List.filter_sublist).map _
    · intro c hc
      rcases List.mem_append.1 hc with hc | hc
      · exact h.nofl c hc
      · have h1 : c.item ∈ (lnOf xs sz ht al st.y st.left st.right st.line last).pcs.map (·.item) := List.mem_map_of_mem hc
        rw [hi] at h1
        obtain ⟨q, hq, he⟩ := List.mem_map.1 h1
        obtain ⟨hq1, hq2⟩ := List.mem_filter.1 hq
        have h2 : q.i ∈ (trimF xs st.line).map (·.i) := List.mem_map_of_mem hq1
        rw [(trim_same xs st.line 0).2] at h2
        obtain ⟨p, hp, hpi⟩ := List.mem_map.1 h2
        refine ⟨p, h.mem p hp, by rw [hpi]; exact he.symm, ?_⟩
        have : floatP xs p = floatP xs q := by unfold floatP pKind; rw [hpi]
        rw [this]
        simpa using hq2
    · omega
    · refine yok_snoc h.yc h.yl ?_
      show 0 ≤ cut (highF xs sz ht st.line)
      unfold cut; omega
    · rw [List.length_append, List.length_singleton]
      simp only [yAt]
      rw [lnAt_last]
      show min (cut st.y + cut (highF xs sz ht st.line)) 16777216 ≤ cut (st.y + highF xs sz ht st.line)
      unfold cut; omega
  · rw [if_neg ht']
    refine ⟨fun i => ?_, ?_, h.nofl, h.y0, h.yc, h.yl⟩
    · rw [← h.nb i, told_none hl ht' i, List.append_nil]
    · exact (List.sublist_append_left _ _).trans h.sub
theorem inv_end {st st' : BG} {done : List Pt} (hd : ∀ p ∈ done, PtT xs p) (h : InvA xs st done) {last : Bool} (e : EndR xs sz ht al W last st st') : InvA xs st' done ∧ st'.line = [] := by
  obtain ⟨fs, _, rfl⟩ := e
  obtain ⟨h1, h2, h3, h4, h5, h6⟩ := inv_tell hd h (sz := sz) (ht := ht) (al := al) last
  refine ⟨⟨fun i => ?_, ?_, h3, (fun p hp => by cases hp), h4, h5, h6⟩, rfl⟩
  · show pcNb i (pcsOut (tellG xs sz ht al last st).out) ++ [] = _
    rw [List.append_nil]; exact h1 i
  · show ((pcsOut (tellG xs sz ht al last st).out).map (fun c : Pc => c.item) ++ []).Sublist _
    rw [List.append_nil]; exact h2
theorem lowF_gt (y : Int) (fs : List Fl) : lowF y fs = 16777217 ∨ y < lowF y fs := by
  unfold lowF
  suffices H : ∀ a : Int, a = 16777217 ∨ y < a → fs.foldl (lowStep y) a = 16777217 ∨ y < fs.foldl (lowStep y) a from H 16777217 (.inl rfl)
  induction fs with
  | nil => intro a h; exact h
  | cons f fs ih =>
    intro a h
    refine ih _ ?_
    unfold lowStep
    split
    · rename_i h1
      rcases h with h | h
      · by_cases h2 : f.y + f.h ≤ 16777217
        · right; omega
        · left; omega
      · right; omega
    · exact h
theorem noLow_y {st : BG} (h : noLow W st = false) : st.y < lowF st.y st.fs ∧ lowF st.y st.fs ≤ 16777216 := by
  unfold noLow at h
  rw [Bool.or_eq_false_iff] at h
  have h1 := of_decide_eq_false h.1
  have := lowF_gt st.y st.fs
  omega
theorem inv_steps {st st' : BG} {g done : List Pt} (hd : ∀ p ∈ done, PtT xs p) (h : InvA xs st done) (e : Steps xs sz ht al W g st st') : InvA xs st' done := by
  induction e with
  | refl => exact h
  | snoc _ k ih =>
    rcases k.2 with ⟨_, k2⟩ | ⟨_, k2, rfl⟩
    · exact (inv_end hd ih k2).1
    · have hy := noLow_y k2
      have y0 := ih.y0
      refine ⟨ih.nb, ih.sub, ih.nofl, ih.mem, ?_, ih.yc, Int.le_trans ih.yl (cut_mono ?_)⟩
      · show 0 ≤ lowF _ _; omega
      · show _ ≤ lowF _ _; omega
theorem inv_put {st st' : BG} {g done : List Pt} (hd : ∀ p ∈ done ++ g, PtT xs p) (h : InvA xs st done) (e : PutR xs sz ht al W st g st') : InvA xs st' (done ++ g) := by
  obtain ⟨s1, s2, e1, _, e3, e4⟩ := e
  have h1 := inv_steps (fun p hp => hd p (by simp [hp])) h e1
  generalize hc : cleanF xs s1.full g = c at e3 e4
  have hsub : c.Sublist g := by rw [← hc]; exact cleanF_sub xs g _
  have h2 : InvA xs (addLn xs s2 c) (done ++ g) := by
    have key : s2.y = s1.y ∧ s2.line = s1.line ∧ s2.out = s1.out := by
      rcases e3 with ⟨_, rfl⟩ | ⟨_, ⟨_, rfl⟩ | ⟨_, fs, rfl⟩⟩ <;> exact ⟨rfl, rfl, rfl⟩
    obtain ⟨k1, k2, k3⟩ := key
    refine ⟨fun i => ?_, ?_, fun q hq => ?_, fun p hp => ?_, ?_, ?_, ?_⟩
    · show pcNb i (pcsOut s2.out) ++ ptNb i (s2.line ++ c) = _
      rw [k2, k3, ptNb_append, ptNb_append, ← List.append_assoc, h1.nb i, ← hc, clean_nb]
    · show ((pcsOut s2.out).map (·.item) ++ (s2.line ++ c).map (fun p => (p.i : Int))).Sublist _
      rw [k2, k3, List.map_append, List.map_append, ← List.append_assoc]
      exact h1.sub.append (hsub.map _)
    · have hq' : q ∈ pcsOut s1.out := by rw [← k3]; exact hq
      obtain ⟨p, hp, e5⟩ := h1.nofl q hq'
      exact ⟨p, by simp [hp], e5⟩
    · have hp' : p ∈ s1.line ++ c := by rw [← k2]; exact hp
      rcases List.mem_append.1 hp' with hp' | hp'
      · exact List.mem_append_left _ (h1.mem p hp')
      · exact List.mem_append_right _ (hsub.mem hp')
    · show 0 ≤ s2.y; rw [k1]; exact h1.y0
    · show YOk s2.out; rw [k3]; exact h1.yc
    · show yAt s2.out s2.out.length ≤ cut s2.y; rw [k1, k3]; exact h1.yl
  rcases e4 with ⟨_, e4⟩ | ⟨_, rfl⟩
  · exact (inv_end hd h2 e4).1
  · exact h2
theorem inv_run {st st' : BG} {gs : List (List Pt)} {done : List Pt} (h : InvA xs st done) (e : RunR xs sz ht al W st gs st') (hd : ∀ p ∈ done ++ gs.flatten, PtT xs p) : InvA xs st' (done ++ gs.flatten) := by
  induction e with
  | nil => simpa using h
  | snoc _ k ih =>
    rw [List.flatten_append] at hd ⊢
    have h1 := ih fun p hp => hd p (by simp only [List.mem_append] at hp ⊢; rcases hp with hp | hp <;> simp [hp])
    rw [← List.append_assoc] at hd ⊢
    simp only [List.flatten_cons, List.flatten_nil, List.append_nil] at hd ⊢
    exact inv_put hd h1 k
theorem lastLn_pcs (out : List Ln) : pcsOut (lastLn out) = pcsOut out ∧ (lastLn out).length = out.length ∧ ∀ k, (lnAt (lastLn out) k).y = (lnAt out k).y ∧ (lnAt (lastLn out) k).h = (lnAt out k).h := by
  unfold lastLn
  cases hl : out.getLast? with
  | none =>
    obtain rfl : out = [] := by simpa using hl
    exact ⟨rfl, rfl, fun k => ⟨rfl, rfl⟩⟩
  | some x =>
    have hne : out ≠ [] := by intro e; rw [e] at hl; cases hl
    have hx : out = out.dropLast ++ [x] := by
      have := List.dropLast_concat_getLast hne
      rw [List.getLast?_eq_some_getLast hne] at hl
      injection hl with hl
      rw [hl] at this
      exact this.symm
    generalize out.dropLast = o at hx
    subst hx
    simp only
    refine ⟨by rw [pcsOut_snoc, pcsOut_snoc], by simp, fun k => ?_⟩
    by_cases hk : k < o.length
    · rw [lnAt_left _ _ _ hk, lnAt_left _ _ _ hk]; exact ⟨rfl, rfl⟩
    · by_cases hk2 : k = o.length
      · subst hk2; rw [lnAt_last, lnAt_last]; exact ⟨rfl, rfl⟩
      · have e1 : ∀ y : Ln, lnAt (o ++ [y]) k = ln0 := fun y => by
          unfold lnAt List.getD
          rw [List.getElem?_eq_none (by simp; omega)]; rfl
        rw [e1, e1]; exact ⟨rfl, rfl⟩
theorem yAt_congr {a b : List Ln} (h : ∀ k, (lnAt a k).y = (lnAt b k).y ∧ (lnAt a k).h = (lnAt b k).h) (k : Nat) : yAt a k = yAt b k := by
  cases k with
  | zero => rfl
  | succ k => simp only [yAt]; rw [(h k).1, (h k).2]
theorem segs_flat (xs : List It) (ps : List Pt) (k : Nat) (hk : k ≤ ps.length) : ((groupsTo xs ps k).1.map (segP ps)).flatten = ps.take (groupsTo xs ps k).2 := by
  induction k with
  | zero => simp [groupsTo]
  | succ k ih =>
    have h1 := ih (by omega)
    have h2 := (groups_ok xs ps k (by omega)).1
    simp only [groupsTo]
    split
    · rw [List.map_append, List.flatten_append, h1, List.map_cons, List.map_nil, List.flatten_cons, List.flatten_nil, List.append_nil]
      unfold segP
      simp only
      rw [← List.take_add, show (groupsTo xs ps k).2 + (k + 1 - (groupsTo xs ps k).2) = k + 1 by omega]
    · exact h1
theorem segs_all (xs : List It) : (segsF xs).flatten = partsTo xs xs.length := by
  unfold segsF
  generalize partsTo xs xs.length = ps
  rw [segs_flat xs ps _ (Nat.le_refl _)]
  cases hn : ps.length with
  | zero => rw [List.eq_nil_of_length_eq_zero hn]; rfl
  | succ n =>
    have hc : cutsAt xs ps (n + 1) = true := by unfold cutsAt; simp [hn]
    simp only [groupsTo]
    rw [if_pos hc, ← hn, List.take_length]
theorem partsOf_i (i : Nat) (x : It) : ∀ p ∈ partsOf i x, p.i = i := by
  intro p hp
  unfold partsOf at hp
  split at hp
  · exact (textParts_mem i x _ _ p hp).1
  · split at hp
    · simp at hp; rw [hp]
    · split at hp <;> (simp at hp; rw [hp])
theorem parts_i (xs : List It) (n : Nat) : (∀ p ∈ partsTo xs n, p.i < n) ∧ ((partsTo xs n).map fun p => (p.i : Int)).Pairwise (· ≤ ·) := by
  induction n with
  | zero => simp [partsTo]
  | succ n ih =>
    rw [partsTo_next]
    refine ⟨fun p hp => ?_, ?_⟩
    · rcases List.mem_append.1 hp with hp | hp
      · have := ih.1 p hp; omega
      · have := partsOf_i n _ p hp; omega
    · rw [List.map_append, List.pairwise_append]
      refine ⟨ih.2, ?_, ?_⟩
      · rw [List.pairwise_map, List.pairwise_iff_getElem]
        intro a b ha hb _
        have h1 := partsOf_i n _ _ (List.getElem_mem ha)
        have h2 := partsOf_i n _ _ (List.getElem_mem hb)
        omega
      · intro a ha b hb
        obtain ⟨p, hp, rfl⟩ := List.mem_map.1 ha
        obtain ⟨q, hq, rfl⟩ := List.mem_map.1 hb
        have h1 := ih.1 p hp
        have h2 := partsOf_i n _ q hq
        omega
theorem parts_t (xs : List It) (n : Nat) : ∀ p ∈ partsTo xs n, PtT xs p := by
  induction n with
  | zero => intro p hp; simp [partsTo] at hp
  | succ n ih =>
    rw [partsTo_next]
    intro p hp
    rcases List.mem_append.1 hp with hp | hp
    · exact ih p hp
    · have hi := partsOf_i n _ p hp
      intro hk
      unfold pKind at hk
      rw [hi] at hk
      unfold partsOf at hp
      rw [if_neg hk] at hp
      split at hp
      · simp at hp; rw [hp]; rfl
      · split at hp <;> (simp at hp; rw [hp]; rfl)
theorem ptNb_none {i : Nat} {l : List Pt} (h : ∀ p ∈ l, p.i ≠ i) : ptNb i l = [] := by
  unfold ptNb
  rw [List.flatMap_eq_nil_iff]
  intro p hp
  rw [if_neg (h p hp)]
theorem ptNb_text (i : Nat) (x : It) : ∀ (l : List ByteArray) (n : Nat), ptNb i (textParts i x n l) = nbs ((l.map (·.data.toList)).flatten)
  | [], _ => rfl
  | t :: r, n => by
    show (if i = i then nbs t.data.toList else []) ++ ptNb i (textParts i x (n - 1) r) = _
    rw [if_pos rfl, ptNb_text i x r (n - 1), List.map_cons, List.flatten_cons, nbs_append]
theorem parts_nb (xs : List It) (n i : Nat) (hi : i < n) (hk : (itAt xs i).kind = 1) : ptNb i (partsTo xs n) = nbs (itAt xs i).text.data.toList := by
  induction n with
  | zero => omega
  | succ n ih =>
    rw [partsTo_next, ptNb_append]
    by_cases e : i < n
    · rw [ih e, ptNb_none (l := partsOf n (itAt xs n)) fun p hp => by have := partsOf_i n _ p hp; omega, List.append_nil]
    · obtain rfl : i = n := by omega
      rw [ptNb_none (l := partsTo xs i) fun p hp => by have := (parts_i xs i).1 p hp; omega, List.nil_append]
      unfold partsOf
      rw [if_pos hk, ptNb_text, pieces_join]
/-- What the statement asks of the lines. -/
structure AllOk (xs : List It) (out : List Ln) : Prop where
  y : YOk out
  rise : ((pcsOut out).map (·.item)).Pairwise (· ≤ ·)
  item : ∀ c ∈ pcsOut out, ∃ i : Nat, c.item = (i : Int) ∧ i < xs.length ∧ (itAt xs i).kind ≠ 5
  text : ∀ i, i < xs.length → (itAt xs i).kind = 1 → pcNb i (pcsOut out) = nbs (itAt xs i).text.data.toList
theorem all_law {y ind : Int} {out : List Ln} (hy : 0 ≤ y) (e : BreakR xs sz ht al W y ind [] out) : AllOk xs out := by
  obtain ⟨s0, s1, e1, e2, e3⟩ := e
  have h0 : InvA xs s0 [] := by
    obtain ⟨fs, _, rfl⟩ := e1
    refine ⟨fun i => rfl, List.Sublist.refl _, fun c hc => (by cases hc), fun p hp => (by cases hp), hy, fun k hk => (by cases hk), ?_⟩
    show (0 : Int) ≤ cut y
    unfold cut; omega
  have ht := parts_t xs xs.length
  have h1 := inv_run h0 e2 (by rw [segs_all]; exact ht)
  rw [segs_all, List.nil_append] at h1
  have fin : ∀ o : List Ln, (∀ i, pcNb i (pcsOut o) = ptNb i (partsTo xs xs.length)) → ((pcsOut o).map (·.item)).Sublist ((partsTo xs xs.length).map fun p => (p.i : Int)) → (∀ c ∈ pcsOut o, ∃ p ∈ partsTo xs xs.length, c.item = (p.i : Int) ∧ floatP xs p = false) → YOk o → AllOk xs o := fun o a1 a2 a3 a4 => by
    refine ⟨a4, (parts_i xs xs.length).2.sublist a2, fun c hc => ?_, fun i hi hk => by rw [a1 i, parts_nb xs _ i hi hk]⟩
    obtain ⟨p, hp, e5, e6⟩ := a3 c hc
    refine ⟨p.i, e5, (parts_i xs xs.length).1 p hp, fun hk => ?_⟩
    unfold floatP pKind at e6
    rw [hk] at e6
    cases e6
  rcases e3 with ⟨_, st', k2, rfl⟩ | ⟨k1, rfl⟩
  · obtain ⟨h2, hl⟩ := inv_end ht h1 k2
    refine fin _ (fun i => ?_) ?_ h2.nofl h2.yc
    · have := h2.nb i
      rw [hl] at this
      rw [← this]; exact (List.append_nil _).symm
    · have := h2.sub
      rw [hl, List.map_nil, List.append_nil] at this
      exact this
  · obtain ⟨q1, q2, q3⟩ := lastLn_pcs s1.out
    refine fin _ (fun i => ?_) ?_ (by rw [q1]; exact h1.nofl) (fun k hk => ?_)
    · have := h1.nb i
      rw [k1] at this
      rw [q1, ← this]; exact (List.append_nil _).symm
    · have := h1.sub
      rw [k1, List.map_nil, List.append_nil] at this
      rw [q1]; exact this
    · rw [q2] at hk
      rw [(q3 k).1, (q3 k).2, yAt_congr q3]
      exact h1.yc k hk
end
end Go.Proofs.Ytadlabndbomgmaa
/- How long the pieces of lines of one text are. No program in sight. -/
namespace Go.Proofs.Ytadlabndbomgmaa
section
variable (s : ByteArray) (z : Int)
theorem pcs_small (hs : s.size ≤ 200) (hz : 0 ≤ z ∧ z ≤ 255) (ht : Tidy true s.data.toList) (sz ht2 al y W : Int) (out : List Ln) (hout : breakF [oneIt s z] sz ht2 al W y = out) (i : Nat) (h : i < out.length) :
    out[i].pcs.length ≤ 200 ∧ 0 < out[i].pcs.length ∧ ∀ c ∈ out[i].pcs, c.t.size ≤ 200 := by
  have H := lines_text s z hs hz ht sz ht2 al y W
  have hps := psOf_txp s z hs hz ht
  rw [hout] at H
  clear hout
  generalize hLs : linesF [oneIt s z] W (psOf s z) = Ls at *
  have hl := H.len
  have hiL : i < Ls.length := by omega
  obtain ⟨A, p, hL⟩ := last_of _ (H.some _ (List.getElem_mem hiL))
  obtain ⟨y1, ho⟩ := H.told i h hiL
  have hm := mem_line H hiL
  rw [hL] at ho hm
  obtain ⟨g, hg, _, hw, hp⟩ := ln_told (xs := [oneIt s z]) A (fun q hq => hps q (hm q (by simp [hq]))) (hps p (hm p (by simp))) sz ht2 al y1 W (decide (i + 1 = Ls.length))
  rw [← ho] at hw hp
  have h5 : A.length + 1 ≤ 200 := by
    have h6 := (psOf_len s z)
    have h7 := pieces_count s true false
    have h8 : (A ++ [p]).length ≤ (psOf s z).length := by
      have h9 : (A ++ [p]).Sublist Ls.flatten := by rw [← hL]; exact List.sublist_flatten_of_mem (List.getElem_mem hiL)
      rw [H.flat] at h9
      exact h9.length_le
    unfold pcsOf at h6
    rw [List.length_append, List.length_singleton] at h8
    omega
  have hlp : out[i].pcs.length = A.length + 1 := by rw [hp]; simp
  refine ⟨by omega, by omega, fun c hc => ?_⟩
  rw [hp] at hc
  obtain ⟨j, hj, rfl⟩ := List.mem_map.1 hc
  have hj := List.mem_range.1 hj
  simp only
  have hjl : j < (A ++ [trimPt [oneIt s z] p]).length := by simp; omega
  rw [ptAt_of _ j hjl]
  have hmem := List.getElem_mem hjl
  rcases List.mem_append.1 hmem with hq | hq
  · have := psOf_size s z _ (hm _ (List.mem_append_left _ hq)); omega
  · have hq : (A ++ [trimPt [oneIt s z] p])[j] = trimPt [oneIt s z] p := by simpa using hq
    rw [hq]
    have hpp := hm p (by simp)
    have h1 := psOf_size s z p hpp
    rcases trimPt_bytes s z hs hz ht p hpp with e | ⟨_, e⟩
    · have : (trimPt [oneIt s z] p).t.data.toList.length = p.t.data.toList.length := by rw [e]
      simp only [Array.length_toList] at this
      change (trimPt [oneIt s z] p).t.size = p.t.size at this
      omega
    · have : (trimPt [oneIt s z] p).t.data.toList.length = p.t.data.toList.dropLast.length := by rw [e]
      rw [List.length_dropLast] at this
      simp only [Array.length_toList] at this
      change (trimPt [oneIt s z] p).t.size = p.t.size - 1 at this
      omega
end
end Go.Proofs.Ytadlabndbomgmaa
/- The walk of font.Width. -/
namespace Go.Proofs.Ytadlabndbomgmaa
open Go.ChangeShapes Go.WideShapes Go.ChangeAt Go.RowKit
theorem wide_step (size sp : Int) (s : ByteArray) (pos : Nat) (h : pos < s.size) : wideS size sp (runesAt s pos) = advF ((Utf8.decode s pos).1 : Int) size + sp + wideS size sp (runesAt s (pos + (Utf8.decode s pos).2)) := by
  rw [runesAt_step s pos h]; rfl
set_option maxRecDepth 100000 in
set_option maxHeartbeats 2000000 in
theorem Width_big (s : ByteArray) (size sp0 : Int) (w : World) (hs : s.size ≤ 100000) :
    Calls Try.prog 69 #[.string s, .int .i64 size, .int .i64 sp0] w fun e w' => e = .returned (.int .i64 (widthF size sp0 (runesL s.data.toList))) ∧ Below w.heap.size w w' := by
  have HW := hide (show cut (wideS size (cut sp0) (runesAt s 0)) = widthF size sp0 (runesL s.data.toList) from by rw [runes_all]; rfl)
  have HSZ := sizeF_bd size
  have hb1 := cut_lo sp0
  have hb2 := cut_hi sp0
  have hlen := runesAt_len s s.size 0 (by omega)
  generalize hsp : cut sp0 = sp at *
  have HSP := hide hsp
  clear hsp hlen
  generalize htot : wideS size sp (runesAt s 0) = tot at *
  have HT := hide htot
  clear htot
  go_enter Try.func69, Try.ntmps69
  go_wp2_with fail
  have hit0 : (w.iter s 0).heap[w.heap.size]? = some (.stringIter s 0) := World.iter_heap w s 0
  have hb3 : Below w.heap.size w (w.iter s 0) := (Below.refl _ _).alloc (Nat.le_refl _) _
  have HIT0 := hide hit0
  clear hit0
  go_loopw [7] (fun v W => ∃ (pos : Nat) (acc : Int), v = .int .i64 acc ∧ pos ≤ s.size ∧ W.heap[w.heap.size]? = some (.stringIter s pos) ∧ Below w.heap.size w W ∧ Hid (acc + wideS size sp (runesAt s pos) = tot) ∧ -33554432 * (pos : Int) ≤ acc ∧ acc ≤ 33554432 * (pos : Int)) (fun _ W => s.size - W.iterPos w.heap.size)
  case atStart => exact ⟨0, 0, rfl, Nat.zero_le _, HIT0.out, hb3, hide (by rw [HT.out]; exact Int.zero_add _), by omega, by omega⟩
  case round =>
    obtain ⟨pos, acc, rfl, hps, hit, hbw, hgs, hl1, hl2⟩ := hrel
    have hszw : w.heap.size < wr.heap.size := (Array.getElem?_eq_some_iff.1 hit).1
    by_cases hp : pos < s.size
    · have hnx : ∀ ty, (Instr.next (.pointer (some ⟨w.heap.size, 0, none⟩)) true ty).run Try.prog wr = _ := fun ty => Lib.run_next_any_at wr w.heap.size s pos ty hit hp
      obtain ⟨d1, d2, d3⟩ := decode_wd s pos hp
      have HGS := hide (show acc + (advF ((Utf8.decode s pos).1 : Int) size + sp) + wideS size sp (runesAt s (pos + (Utf8.decode s pos).2)) = tot from by have h8 := hgs.out; rw [wide_step size sp s pos hp] at h8; omega)
      have hit2 := Lib.iterAt_heap wr w.heap.size s pos (pos + (Utf8.decode s pos).2) hit
      have hbw2 := Lib.below_iterAt hbw (Nat.le_refl _) s (pos + (Utf8.decode s pos).2)
      have hpos2 : wr.iterPos w.heap.size = pos := by simp [World.iterPos, hit]
      have HP2 := hide hpos2
      have HI2 := hide hit2
      clear hit hit2 hpos2 hgs hbw
      generalize wr.iterAt w.heap.size s (pos + (Utf8.decode s pos).2) = W1 at *
      generalize Utf8.decode s pos = d at *
      obtain ⟨dr, dw⟩ := d
      dsimp only at *
      have had := adv_bd dr size
      go_wp2_with (first | (go_at_call 115; refine (Advance_any _ _ _).mono ?_; rintro e w' ⟨rfl, k1, rfl⟩) | (go_at_call 28; refine (cut_any _ _).mono ?_; rintro e w' ⟨rfl, rfl⟩; rw [HSP.out]) | fail)
      go_roundw
      case rel => exact ⟨pos + dw, acc + (advF dr size + sp), by go_num, by omega, HI2.out, below_drewN hbw2 _, HGS, by omega, by omega⟩
      case measure =>
        rw [HP2.out]
        simp only [World.iterPos, World.drewN, HI2.out]
        omega
    · have hnx : ∀ ty, (Instr.next (.pointer (some ⟨w.heap.size, 0, none⟩)) true ty).run Try.prog wr = _ := fun ty => Lib.run_next_end_at wr w.heap.size s pos ty hit hp
      have HE := hide (show acc = tot from by have h8 := hgs.out; rw [runesAt_end s pos (by omega)] at h8; simpa [wideS] using h8)
      go_wp2_with (first | (go_at_call 28; refine (cut_any _ _).mono ?_; rintro e w' ⟨rfl, rfl⟩) | fail)
      go_ret
      exact ⟨ret_int (by rw [HE.out]; exact HW.out), hbw⟩
theorem Width_any (s : ByteArray) (size sp0 : Int) (w : World) (hs : s.size ≤ 400) :
    Calls Try.prog 69 #[.string s, .int .i64 size, .int .i64 sp0] w fun e w' => e = .returned (.int .i64 (widthF size sp0 (runesL s.data.toList))) ∧ Below w.heap.size w w' := Width_big s size sp0 w (by omega)
end Go.Proofs.Ytadlabndbomgmaa
/- Walks of parts of lines: do they end with a blank, do they collapse, how wide is the last blank; how wide a group is. -/
namespace Go.Proofs.Ytadlabndbomgmaa
open Go.ChangeShapes Go.WideShapes Go.ChangeAt Go.RowKit
theorem ItsAt.c0 {w : World} {g : Nat} {xs : List It} (h : ItsAt w g xs) {k : Nat} (hk : k < xs.length) : w.cell? ⟨g, k * 11, none⟩ = some (.int .i64 (itAt xs k).kind) := h k hk 0 (by omega)
theorem ItsAt.c6 {w : World} {g : Nat} {xs : List It} (h : ItsAt w g xs) {k : Nat} (hk : k < xs.length) : w.cell? ⟨g, k * 11 + 6, none⟩ = some (.int .i64 (itAt xs k).mode) := h k hk 6 (by omega)
theorem ItsAt.c3 {w : World} {g : Nat} {xs : List It} (h : ItsAt w g xs) {k : Nat} (hk : k < xs.length) : w.cell? ⟨g, k * 11 + 3, none⟩ = some (.int .i64 (itAt xs k).size) := h k hk 3 (by omega)
theorem ItsAt.c4 {w : World} {g : Nat} {xs : List It} (h : ItsAt w g xs) {k : Nat} (hk : k < xs.length) : w.cell? ⟨g, k * 11 + 4, none⟩ = some (.int .i64 (itAt xs k).spacing) := h k hk 4 (by omega)
theorem suffix_any (t : ByteArray) (w : World) (hs : t.size ≤ 100000) : Calls Try.prog 67 #[.string t, .string ⟨#[32]⟩] w fun e w' => e = .returned (.bool (spaceEnd t)) ∧ w = w' := by
  refine (Try.strings_HasSuffix t ⟨#[32]⟩ w (by omega)).mono ?_
  rintro e w' ⟨rfl, rfl⟩
  rw [show (⟨#[32]⟩ : ByteArray).data.toList = [32] from rfl, suffix_space]
  exact ⟨rfl, rfl⟩
theorem ends_any (xs : List It) (g : Nat) (p : Pt) (w : World) (hI : ItsAt w g xs) (hi : p.i < xs.length) (hs : p.t.size ≤ 100000) :
    Calls Try.prog 158 #[.agg #[.pointer (some ⟨g, p.i * 11, none⟩), .int .i64 p.i, .string p.t, .int .i64 p.w, .bool p.last]] w fun e w' => e = .returned (.bool (endsF xs p)) ∧ Below w.heap.size w w' := by
  have hg := hI.lt (by omega)
  have HK := hide (show endsF xs p = ((itAt xs p.i).kind == 1 && spaceEnd p.t) from rfl)
  have HS := hide (fun W => suffix_any p.t W hs)
  have c0 := (hI.alloc (.cells #[.pointer (some ⟨g, p.i * 11, none⟩), .int .i64 p.i, .string p.t, .int .i64 p.w, .bool p.last] 192) hg).c0 hi
  generalize (itAt xs p.i).kind = kd at *
  clear hI
  cases hk : (kd == 1)
  · have hr := hide (show endsF xs p = false from by rw [HK.out, hk]; rfl)
    clear HK
    go_enter Try.func158, Try.ntmps158
    go_wp2_with fail
    go_ret
    exact ⟨ret_bool (by rw [hr.out]), by go_grown⟩
  · have hr := hide (show endsF xs p = spaceEnd p.t from by rw [HK.out, hk]; rfl)
    clear HK
    go_enter Try.func158, Try.ntmps158
    go_wp2_with (go_at_call 67; refine (HS.out _).mono ?_; rintro e w' ⟨rfl, rfl⟩)
    go_ret
    exact ⟨ret_bool (by rw [hr.out]), by go_grown⟩
theorem collapses_any (xs : List It) (g : Nat) (p : Pt) (w : World) (hI : ItsAt w g xs) (hi : p.i < xs.length) :
    Calls Try.prog 159 #[.agg #[.pointer (some ⟨g, p.i * 11, none⟩), .int .i64 p.i, .string p.t, .int .i64 p.w, .bool p.last]] w fun e w' => e = .returned (.bool (collF xs p)) ∧ Below w.heap.size w w' := by
  have hg := hI.lt (by omega)
  have HK := hide (show collF xs p = ((itAt xs p.i).kind == 1 && ((itAt xs p.i).mode == 0 || (itAt xs p.i).mode == 2)) from rfl)
  have hI2 := hI.alloc (.cells #[.pointer (some ⟨g, p.i * 11, none⟩), .int .i64 p.i, .string p.t, .int .i64 p.w, .bool p.last] 192) hg
  have c0 := hI2.c0 hi
  have c6 := hI2.c6 hi
  generalize (itAt xs p.i).kind = kd at *
  generalize (itAt xs p.i).mode = md at *
  clear hI hI2
  cases hk : (kd == 1) <;> cases hm : (md == 0)
  all_goals
    have hr := hide (HK.out.trans (by rw [hk, hm]))
    clear HK
    go_enter Try.func159, Try.ntmps159
    go_wp2_with fail
    go_ret
    exact ⟨ret_bool (by rw [hr.out]; first | rfl | simp), by go_grown⟩
set_option maxRecDepth 100000 in
set_option maxHeartbeats 2000000 in
theorem gwidth_any (g : Nat) (ps : List Pt) (h off c : Nat) (w : World) (hp : PtsAt w g h off ps) (hh : h < w.heap.size) (hl : ps.length ≤ 100000) (hw : ∀ p ∈ ps, 0 ≤ p.w ∧ p.w ≤ 16777216) :
    Calls Try.prog 132 #[.slice (some ⟨h, off, none⟩) ps.length c] w fun e w' => e = .returned (.int .i64 (widthG ps)) ∧ Below w.heap.size w w' := by
  have HP := hide hp
  have HW := hide hw
  clear hp hw
  go_enter Try.func132, Try.ntmps132
  go_wp2_with fail
  go_loopw [2, 7] (fun n i wr => ∃ k : Nat, k ≤ ps.length ∧ i = .int .i64 k ∧ n = .int .i64 (widthG (ps.take k)) ∧ 0 ≤ widthG (ps.take k) ∧ widthG (ps.take k) ≤ 16777216 * k ∧ Below w.heap.size w wr) (fun _ i _ => ps.length - (intOf i).toNat)
  case atStart => exact ⟨0, Nat.zero_le _, rfl, rfl, by simp [widthG], by simp [widthG], Below.refl _ _⟩
  case round =>
    obtain ⟨k, hk, rfl, rfl, h0, h1, hbel⟩ := hrel
    by_cases hlt : k < ps.length
    · have hps := HP.out.below hbel hh
      have d0 : wr.cell? ⟨h, off + k * 5, none⟩ = some (.pointer (some ⟨g, (ptAt ps k).i * 11, none⟩)) := hps k hlt 0 (by omega)
      have d1 : wr.cell? ⟨h, off + k * 5 + 1, none⟩ = some (.int .i64 (ptAt ps k).i) := hps k hlt 1 (by omega)
      have d2 : wr.cell? ⟨h, off + k * 5 + 2, none⟩ = some (.string (ptAt ps k).t) := hps k hlt 2 (by omega)
      have d3 : wr.cell? ⟨h, off + k * 5 + 3, none⟩ = some (.int .i64 (ptAt ps k).w) := hps k hlt 3 (by omega)
      have d4 : wr.cell? ⟨h, off + k * 5 + 4, none⟩ = some (.bool (ptAt ps k).last) := hps k hlt 4 (by omega)
      have hw := HW.out _ (List.getElem_mem hlt)
      have HN := hide (show widthG (ps.take (k + 1)) = widthG (ps.take k) + (ptAt ps k).w from by rw [List.take_succ_eq_append_getElem hlt, widthG_append, ptAt_of ps k hlt]; simp [widthG])
      rw [← ptAt_of ps k hlt] at hw
      clear hps
      generalize ptAt ps k = p at *
      generalize widthG (ps.take k) = s at *
      have hb2 := hbel.alloc hbel.size (.cells #[.pointer (some ⟨g, p.i * 11, none⟩), .int .i64 p.i, .string p.t, .int .i64 p.w, .bool p.last] 192)
      go_wp2_with fail
      go_roundw
      case rel => exact ⟨k + 1, by omega, by go_num, by rw [HN.out], by rw [HN.out]; omega, by rw [HN.out]; omega, hb2⟩
      case measure => simp only [intOf]; omega
    · obtain rfl : k = ps.length := by omega
      go_wp2_with fail
      go_ret
      exact ⟨ret_int (by rw [List.take_length]), hbel⟩
end Go.Proofs.Ytadlabndbomgmaa
/- The walk of a part's last blank. -/
namespace Go.Proofs.Ytadlabndbomgmaa
open Go.ChangeShapes Go.WideShapes Go.ChangeAt Go.RowKit
theorem txW_any (x : It) (t : ByteArray) (w : World) (hs : t.size ≤ 400) : Calls Try.prog 69 #[.string t, .int .i64 x.size, .int .i64 x.spacing] w fun e w' => e = .returned (.int .i64 (txW x t)) ∧ Below w.heap.size w w' := Width_any t x.size x.spacing w hs
set_option maxRecDepth 100000 in
set_option maxHeartbeats 2000000 in
theorem ptail_any (xs : List It) (g : Nat) (p : Pt) (w : World) (hI : ItsAt w g xs) (hi : p.i < xs.length) (hs : p.t.size ≤ 400) (hw : -1000000000 ≤ p.w ∧ p.w ≤ 1000000000) :
    Calls Try.prog 157 #[.agg #[.pointer (some ⟨g, p.i * 11, none⟩), .int .i64 p.i, .string p.t, .int .i64 p.w, .bool p.last]] w fun e w' => e = .returned (.int .i64 (tailF xs p)) ∧ Below w.heap.size w w' := by
  have hg := hI.lt (by omega)
  have HT := hide (show tailF xs p = if collF xs p && endsF xs p then p.w - txW (itAt xs p.i) (p.t.extract 0 (p.t.size - 1)) else 0 from rfl)
  have HI1 := hide (hI.alloc (.cells #[.pointer (some ⟨g, p.i * 11, none⟩), .int .i64 p.i, .string p.t, .int .i64 p.w, .bool p.last] 192) hg)
  have HB1 := hide (Blk.new w 192 #[.pointer (some ⟨g, p.i * 11, none⟩), .int .i64 p.i, .string p.t, .int .i64 p.w, .bool p.last])
  have hb1 : Below w.heap.size w (w.alloc (.cells #[.pointer (some ⟨g, p.i * 11, none⟩), .int .i64 p.i, .string p.t, .int .i64 p.w, .bool p.last] 192)) := by go_grown
  have hgb : g < (w.alloc (.cells #[.pointer (some ⟨g, p.i * 11, none⟩), .int .i64 p.i, .string p.t, .int .i64 p.w, .bool p.last] 192)).heap.size := by simp; omega
  clear hI
  go_enter Try.func157, Try.ntmps157
  go_wp2_with fail
  generalize hwA : w.alloc (.cells #[.pointer (some ⟨g, p.i * 11, none⟩), .int .i64 p.i, .string p.t, .int .i64 p.w, .bool p.last] 192) = wA at *
  clear hwA
  refine (collapses_any xs g p wA HI1.out hi).mono ?_
  rintro e w2 ⟨rfl, hb2⟩
  have HI2 := hide (HI1.out.below hb2 hgb)
  have HB2 := hide (HB1.out.below hb2 HB1.out.lt)
  have b2 := below_on hb1 hb2
  have hg2 := Nat.lt_of_lt_of_le hgb hb2.size
  clear HI1 HB1 hb2 hgb hb1
  have bc0 : w2.cell? ⟨w.heap.size, 0, none⟩ = some (.pointer (some ⟨g, p.i * 11, none⟩)) := HB2.out.cell 0
  have bc1 : w2.cell? ⟨w.heap.size, 1, none⟩ = some (.int .i64 p.i) := HB2.out.cell 1
  have bc2 : w2.cell? ⟨w.heap.size, 2, none⟩ = some (.string p.t) := HB2.out.cell 2
  have bc3 : w2.cell? ⟨w.heap.size, 3, none⟩ = some (.int .i64 p.w) := HB2.out.cell 3
  have bc4 : w2.cell? ⟨w.heap.size, 4, none⟩ = some (.bool p.last) := HB2.out.cell 4
  cases hc : collF xs p
  · have hr := hide (show tailF xs p = 0 from by rw [HT.out, hc]; rfl)
    clear HT
    go_wp2_with fail
    go_ret
    exact ⟨ret_int (by rw [hr.out]), b2⟩
  · have hr := hide (HT.out.trans (by rw [hc]))
    clear HT
    go_wp2_with fail
    refine (ends_any xs g p w2 HI2.out hi (by omega)).mono ?_
    rintro e w3 ⟨rfl, hb3⟩
    have HI3 := hide (HI2.out.below hb3 hg2)
    have HB3 := hide (HB2.out.below hb3 HB2.out.lt)
    have b3 := below_on b2 hb3
    have hg3 := Nat.lt_of_lt_of_le hg2 hb3.size
    clear HI2 HB2 hb3 hg2 b2 bc0 bc1 bc2 bc3 bc4
    have hz3 := HB3.out.lt
    cases he : endsF xs p
    · have hr2 := hide (show tailF xs p = 0 from by rw [hr.out, he]; rfl)
      clear hr
      go_wp2_with fail
      go_ret
      exact ⟨ret_int (by rw [hr2.out]), b3⟩
    · have hr2 := hide (show tailF xs p = p.w - txW (itAt xs p.i) (p.t.extract 0 (p.t.size - 1)) from by rw [hr.out, he]; rfl)
      have hsz : 1 ≤ p.t.size := by
        unfold endsF at he
        rw [Bool.and_eq_true] at he
        have h2 := he.2
        unfold spaceEnd at h2
        have h3 : p.t.data.toList.length = p.t.size := Array.length_toList
        cases h4 : p.t.data.toList with
        | nil => rw [h4] at h2; cases h2
        | cons a l => rw [h4] at h3; simp at h3; omega
      have hbd : -16777216 ≤ txW (itAt xs p.i) (p.t.extract 0 (p.t.size - 1)) ∧ txW (itAt xs p.i) (p.t.extract 0 (p.t.size - 1)) ≤ 16777216 := ⟨cut_lo _, cut_hi _⟩
      have HWD := hide (fun W => txW_any (itAt xs p.i) (p.t.extract 0 (p.t.size - 1)) W (by rw [ByteArray.size_extract]; omega))
      have bc0 : w3.drew.cell? ⟨w.heap.size, 0, none⟩ = some (.pointer (some ⟨g, p.i * 11, none⟩)) := HB3.out.cell 0
      have bc2 : w3.drew.cell? ⟨w.heap.size, 2, none⟩ = some (.string p.t) := HB3.out.cell 2
      have bc3 : w3.drew.cell? ⟨w.heap.size, 3, none⟩ = some (.int .i64 p.w) := HB3.out.cell 3
      have e3 : w3.drew.cell? ⟨g, p.i * 11 + 3, none⟩ = some (.int .i64 (itAt xs p.i).size) := HI3.out.c3 hi
      have e4 : w3.drew.cell? ⟨g, p.i * 11 + 4, none⟩ = some (.int .i64 (itAt xs p.i).spacing) := HI3.out.c4 hi
      have b3' := b3.drew
      clear hr he hc HI3 HB3 b3
      go_wp2_with fail
      have hz4 : w.heap.size < w3.drew.heap.size := hz3
      have hg4 : g < w3.drew.heap.size := hg3
      generalize hTW : txW (itAt xs p.i) (p.t.extract 0 (p.t.size - 1)) = tw at *
      clear hTW
      have w2 : IntKind.i64.wrap (p.w - tw) = p.w - tw := IntWalk.i64_in _ (by omega)
      have w1 : IntKind.i64.wrap ((p.t.size : Int) - 1) = ((p.t.size - 1 : Nat) : Int) := by rw [IntWalk.i64_in _ (by omega)]; omega
      have HS := hide (fun (W : World) (hb5 : Below w3.drew.heap.size w3.drew W) => (⟨(hb5.cell (p := ⟨w.heap.size, 0, none⟩) hz4).trans bc0, (hb5.cell (p := ⟨w.heap.size, 2, none⟩) hz4).trans bc2, (hb5.cell (p := ⟨w.heap.size, 3, none⟩) hz4).trans bc3, (hb5.cell (p := ⟨g, p.i * 11 + 3, none⟩) hg4).trans e3, (hb5.cell (p := ⟨g, p.i * 11 + 4, none⟩) hg4).trans e4⟩ : W.cell? ⟨w.heap.size, 0, none⟩ = some (.pointer (some ⟨g, p.i * 11, none⟩)) ∧ W.cell? ⟨w.heap.size, 2, none⟩ = some (.string p.t) ∧ W.cell? ⟨w.heap.size, 3, none⟩ = some (.int .i64 p.w) ∧ W.cell? ⟨g, p.i * 11 + 3, none⟩ = some (.int .i64 (itAt xs p.i).size) ∧ W.cell? ⟨g, p.i * 11 + 4, none⟩ = some (.int .i64 (itAt xs p.i).spacing)))
      go_region_held3 (fun W => W.cell? ⟨w.heap.size, 0, none⟩ = some (.pointer (some ⟨g, p.i * 11, none⟩)) ∧ W.cell? ⟨w.heap.size, 2, none⟩ = some (.string p.t) ∧ W.cell? ⟨w.heap.size, 3, none⟩ = some (.int .i64 p.w) ∧ W.cell? ⟨g, p.i * 11 + 3, none⟩ = some (.int .i64 (itAt xs p.i).size) ∧ W.cell? ⟨g, p.i * 11 + 4, none⟩ = some (.int .i64 (itAt xs p.i).spacing)) (first | exact ⟨bc0, bc2, bc3, e3, e4⟩ | exact HS.out _ hb5) ((go_at_call 69; refine (HWD.out _).mono ?_; rintro e w5 ⟨rfl, hb5⟩))
      clear HS bc0 bc2 bc3 e3 e4 w1
      clear w2
      go_wp2_with fail
      go_ret
      exact ⟨ret_int (by rw [hr2.out]), below_on b3' hb5⟩
end Go.Proofs.Ytadlabndbomgmaa
