/- The walk of LinesAll. -/
import Derived.BigQuiet
import Derived.Handy
import Derived.IntWalk
import Derived.RegionTactic
import Derived.Deep.MidRow
import Derived.Deep.CutBlock
import Derived.Test.YtadlabndbomgmaaDoorJ9
import Derived.Test.YtadlabndbomgmaaDoorJTame
import Derived.Test.YtadlabndbomgmaaDoorJ2
import Derived.Test.YtadlabndbomgmaaDoorJ1
set_option linter.unusedVariables false
set_option linter.unusedSimpArgs false
namespace Go.Proofs.YtadlabndbomgmaaDoor
open Go.ChangeShapes Go.WideShapes Go.ChangeAt Go.RowKit
theorem ItsIn.below {w w' : World} {A : Option Addr} {l : List It} (h : ItsIn w A l) (hb : Below w.heap.size w w') : ItsIn w' A l := fun k hk => by
  obtain ⟨g, off, h1, h2, h3⟩ := h k hk
  exact ⟨g, off, h1, Nat.lt_of_lt_of_le h2 hb.size, fun j hj => (hb.cell (p := ⟨g, off + k * 11 + j, none⟩) h2).trans (h3 j hj)⟩
theorem its_own_any {w : World} {base : Nat} {t : TypeId} {A : Option Addr} {n c : Nat} {xs : List It} (h : w.ownsRow base t 11 (.slice A n c) n (itCells xs)) (hl : xs.length = n) : ∃ g, (0 < xs.length → A = some ⟨g, 0, none⟩) ∧ ItsAt w g xs ∧ (0 < xs.length → g < w.heap.size) := by
  rcases Nat.eq_zero_or_pos n with h0 | h0
  · exact ⟨0, fun h => by omega, fun k hk => by omega, fun h => by omega⟩
  · obtain ⟨g, h1, _, h2, h3⟩ := its_of_own h hl h0
    exact ⟨g, fun _ => h1, h3, fun _ => h2⟩
theorem strs_info : (Tryd.prog.info? 9).map (fun i => (i.zero, i.size, i.bytes)) = some (some (.string ByteArray.empty), 1, 16) := by kernel_rfl
theorem made_strs (m : Nat) : madeCells #[.string ByteArray.empty] m = Array.replicate m (Value.string ByteArray.empty) := by
  apply Array.ext'
  rw [madeCells_rep, Array.toList_replicate]
def tsAt (ts : List ByteArray) (i : Nat) : ByteArray := ts.getD i ByteArray.empty
theorem tsAt_of (ts : List ByteArray) (i : Nat) (h : i < ts.length) : tsAt ts i = ts[i] := by simp [tsAt, List.getD, List.getElem?_eq_getElem h]
/-- The texts gathered so far. -/
def TxAt (w : World) (T n : Nat) (P : List Pc) (ts : List ByteArray) : Prop := ts.length = n ∧ Blk w T 9 (ts.map Value.string).toArray ∧ ∀ i, i < n → (tsAt ts i).data.toList = txTo P i
theorem TxAt.cell {w : World} {T n : Nat} {P : List Pc} {ts : List ByteArray} (h : TxAt w T n P ts) (i : Nat) (hi : i < n) : w.cell? ⟨T, i, none⟩ = some (.string (tsAt ts i)) := by
  rw [h.2.1.cell, tsAt_of ts i (by rw [h.1]; exact hi)]
  simp [List.getElem?_toArray, h.1, hi]
theorem TxAt.put {w : World} {T n : Nat} {P : List Pc} {ts : List ByteArray} {c : Pc} {i : Nat} (h : TxAt w T n P ts) (hc : c.item = (i : Int)) (hi : i < n) : TxAt (w.setCell ⟨T, i, none⟩ (.string (tsAt ts i ++ c.t))) T n (P ++ [c]) (ts.set i (tsAt ts i ++ c.t)) := by
  obtain ⟨h1, h2, h3⟩ := h
  refine ⟨by rw [List.length_set]; exact h1, ?_, fun j hj => ?_⟩
  · have h4 := h2.set_ i (.string (tsAt ts i ++ c.t))
    have e : ((ts.set i (tsAt ts i ++ c.t)).map Value.string).toArray = (ts.map Value.string).toArray.setIfInBounds i (.string (tsAt ts i ++ c.t)) := by
      rw [List.map_set]; simp
    rw [e]; exact h4
  · rw [txTo_snoc]
    by_cases hj2 : j = i
    · subst hj2
      rw [tsAt_of _ j (by rw [List.length_set]; omega), List.getElem_set_self, if_pos hc, ← h3 j hj]
      simp [ByteArray.data_append]
    · rw [tsAt_of _ j (by rw [List.length_set]; omega), List.getElem_set_ne (fun e => hj2 e.symm), if_neg (by omega), List.append_nil, ← tsAt_of ts j (by omega)]
      exact h3 j hj
def lastIt (P : List Pc) : Int := match P.getLast? with | some c => c.item | none => 0
theorem lastIt_snoc (P : List Pc) (c : Pc) : lastIt (P ++ [c]) = c.item := by unfold lastIt; rw [List.getLast?_concat]
theorem lastIt_le {P r : List Pc} {c : Pc} (h : ((P ++ c :: r).map (·.item)).Pairwise (· ≤ ·)) (h0 : 0 ≤ c.item) : lastIt P ≤ c.item := by
  rcases List.eq_nil_or_concat P with rfl | ⟨Q, d, rfl⟩
  · exact h0
  · rw [List.concat_eq_append, lastIt_snoc]
    rw [List.map_append, List.pairwise_append] at h
    exact h.2.2 d.item (List.mem_map_of_mem (by simp)) c.item (List.mem_map_of_mem (by simp))
theorem LinesAt.len {w : World} {B : Nat} {v : Value} {out : List Ln} (h : LinesAt w B v out) : out.length ≤ maxLen := by
  obtain ⟨qs, e1, e2, _⟩ := h
  rcases e2.2 with ⟨_, h0⟩ | ⟨g, cap, cur, hv, hb, hh, hnc, hcm, hcs, htake⟩
  · rw [h0]; exact Nat.zero_le _
  · omega
theorem TxAt.start {w : World} {T n : Nat} (h : Blk w T 9 (Array.replicate n (Value.string ByteArray.empty))) : TxAt w T n [] (List.replicate n ByteArray.empty) := by
  refine ⟨List.length_replicate, ?_, fun i hi => ?_⟩
  · have e : ((List.replicate n ByteArray.empty).map Value.string).toArray = Array.replicate n (Value.string ByteArray.empty) := by
      apply Array.ext'
      rw [List.map_replicate, Array.toList_replicate]
    rw [e]; exact h
  · rw [tsAt_of _ i (by rw [List.length_replicate]; exact hi), List.getElem_replicate]; rfl
theorem TxAt.kept {w w' : World} {T n : Nat} {P : List Pc} {ts : List ByteArray} (h : TxAt w T n P ts) (e : w'.heap[T]? = w.heap[T]?) : TxAt w' T n P ts := ⟨h.1, e.trans h.2.1, h.2.2⟩
theorem TxAt.below {w w' : World} {T n : Nat} {P : List Pc} {ts : List ByteArray} (h : TxAt w T n P ts) (hb : Below w.heap.size w w') : TxAt w' T n P ts := ⟨h.1, h.2.1.below hb h.2.1.lt, h.2.2⟩
theorem kept_cell {K : Nat → Prop} {a b c : World} {B g off : Nat} {v : Value} (hb : Below B a b) (hk : Kept K b c) (hg : g < B) (hK : K g) (h : a.cell? ⟨g, off, none⟩ = some v) : c.cell? ⟨g, off, none⟩ = some v := by
  have h1 := (hb.cell (p := ⟨g, off, none⟩) hg).trans h
  have h2 : c.cell? ⟨g, off, none⟩ = b.cell? ⟨g, off, none⟩ := by unfold World.cell?; rw [hk.block g hK]
  exact h2.trans h1
theorem kept_alloc {K : Nat → Prop} {b c : World} (hk : Kept K b c) (hK : ∀ k, K k → k < b.heap.size) (o : Obj) : Kept K b (c.alloc o) :=
  hk.trans (Kept.of_below ((Below.refl c.heap.size c).alloc (Nat.le_refl _) o) fun k h => Nat.lt_of_lt_of_le (hK k h) hk.size)
theorem kept_set {K : Nat → Prop} {b c : World} {p : Addr} {v : Value} (hk : Kept K b c) (hp : ¬ K p.block) : Kept K b (c.setCell p v) :=
  hk.trans ⟨rfl, rfl, rfl, by simp [World.setCell], fun k h => Below.heap_setCell _ _ _ _ fun e => hp (by rw [← e]; exact h)⟩
theorem pcKJ_next (out : List Ln) (k j : Nat) (h : j < (lnAt out k).pcs.length) : pcKJ out k (j + 1) = pcKJ out k j ++ [pcAt (lnAt out k).pcs j] := by
  rw [pcKJ_succ out k j h, pcAt_of _ j h]
  simp [List.getD, List.getElem?_eq_getElem h]
theorem piece_ok {xs : List It} {out : List Ln} (h : AllOk xs out) (k j : Nat) (hk : k < out.length) (hj : j < (lnAt out k).pcs.length) :
    ∃ i : Nat, (pcAt (lnAt out k).pcs j).item = (i : Int) ∧ i < xs.length ∧ (itAt xs i).kind ≠ 5 ∧ lastIt (pcKJ out k j) ≤ (pcAt (lnAt out k).pcs j).item := by
  obtain ⟨r, hr⟩ := pcKJ_pre out k (j + 1) hk
  rw [pcKJ_next out k j hj] at hr
  obtain ⟨i, h1, h2, h3⟩ := h.item (pcAt (lnAt out k).pcs j) (by rw [hr]; simp)
  refine ⟨i, h1, h2, h3, lastIt_le (r := r) ?_ (by rw [h1]; omega)⟩
  have := h.rise
  rw [hr, List.append_assoc] at this
  exact this
theorem repl_same {tm tx : ByteArray} (h : nbs tm.data.toList = nbs tx.data.toList) : ∃ R : ByteArray,
    (⟨(Lib.replaceAll tm.data.toList (⟨#[32]⟩ : ByteArray).data.toList (⟨#[]⟩ : ByteArray).data.toList).toArray⟩ : ByteArray) = R ∧ (⟨(Lib.replaceAll tx.data.toList (⟨#[32]⟩ : ByteArray).data.toList (⟨#[]⟩ : ByteArray).data.toList).toArray⟩ : ByteArray) = R := by
  refine ⟨_, ?_, rfl⟩
  show (⟨(Lib.replaceAll tm.data.toList [32] []).toArray⟩ : ByteArray) = ⟨(Lib.replaceAll tx.data.toList [32] []).toArray⟩
  rw [replaceAll_nbs, replaceAll_nbs, h]
theorem repl_len (s : ByteArray) (h : s.size ≤ 1000000) : s.size + Lib.countB s ⟨#[32]⟩ * (⟨#[]⟩ : ByteArray).size ≤ 140737488355328 := by
  show s.size + Lib.countB s ⟨#[32]⟩ * 0 ≤ 140737488355328
  omega
theorem tx_size {w : World} {T n : Nat} {P : List Pc} {ts : List ByteArray} (h : TxAt w T n P ts) (i : Nat) (hi : i < n) (h1 : ∀ c ∈ P, c.t.size ≤ 200) (h2 : P.length ≤ 5000) : (tsAt ts i).size ≤ 1000000 := by
  have h3 := txTo_len i P h1
  rw [← h.2.2 i hi, size_eq] at h3
  omega
theorem pcsOut_mem (out : List Ln) (k : Nat) (hk : k < out.length) (c : Pc) (hc : c ∈ (lnAt out k).pcs) : c ∈ pcsOut out := by
  rw [lnAt_of out k hk] at hc
  exact List.mem_flatMap.2 ⟨_, List.getElem_mem hk, hc⟩
set_option maxRecDepth 100000 in
set_option maxHeartbeats 40000000 in
theorem linesAll_any (l : List It) (A : Option Addr) (c : Nat) (width indent align : Int) (w : World) (hr : ItsIn w A l) (hn : l.length ≤ c) (hc : c ≤ maxLen) (hs : ∀ k, k < l.length → (itAt l k).text.size ≤ maxLen) (mv : Int) (hmv : w.cell? ⟨2, 0, none⟩ = some (.int .i64 mv)) (hm2 : 2 < w.heap.size) :
    Calls Tryd.prog 6 #[.slice A l.length c, .int .i64 width, .int .i64 indent, .int .i64 align] w fun e w' => e = .returned (.bool true) ∧ Below w.heap.size w w' := by
  have HK := hide (tameF_ok l)
  have h1 := tu16 width
  have h2 := ti8 indent
  go_enter Tryd.func6, Tryd.ntmps6
  go_wp2_with fail
  refine (lined_any _).mono ?_
  rintro e w0 ⟨rfl, hb0⟩
  have HT := hide (tame_any l A c w0 (hr.below hb0) hn hc hs)
  clear hr hs hc
  generalize tameF l = xs at *
  go_wp2_with fail
  refine HT.out.mono ?_
  clear HT
  rintro e w1 ⟨v1, rfl, own1, hb1⟩
  have b1 := below_on hb0 hb1
  obtain ⟨A1, c1, rfl, _, _⟩ := own_reads own1
  obtain ⟨g, hA, hI, hg⟩ := its_own_any own1 rfl
  have HA := hide hA
  have HI := hide (show ItsR w1 g xs from ⟨hI, hg⟩)
  have HG := hide hg
  have hxl := HK.out.1
  clear own1 hA hI hg hb0 hb1
  go_wp2_with fail
  generalize IntKind.u16.wrap width = W at *
  have HCW := hide (cutW W h1)
  refine (New_blk W _).mono ?_
  rintro e w2 ⟨rfl, hF, hb2⟩
  rw [HCW.out] at hF
  have b2 := below_on b1 hb2
  have HBK := hide (break_any xs g c1 A1 w1.heap.size W 0 640 800 (IntKind.i8.wrap indent) align (.slice none 0 0) w2 HA.out (ItsR.below HI.out hb2) HK.out (fun h0 => ⟨Nat.ne_of_lt (HG.out h0), fun e => by cases e⟩) hF (own_none _ _ _ _) (by omega))
  have hfl := hF.lt
  clear hF
  go_wp2_with fail
  refine HBK.out.mono ?_
  clear HBK
  rintro e w3 ⟨v3, out, rfl, hbr, hl3, hk3⟩
  have HALL := hide (all_law (by decide) hbr)
  have hbd := hide (bd_law hbr)
  obtain ⟨hL1, hL2⟩ := len_law 200 (fun p hp => ((partsTo_ok HK.out xs.length (Nat.le_refl _)).1 p hp).2.2.2.2.2) hbr
  have hcnt := (partsTo_ok HK.out xs.length (Nat.le_refl _)).2
  have hLEN := hl3.len
  unfold maxLen at hLEN
  have hI3 : ItsAt w3 g xs := fun k hk j hj => by
    have h0 : 0 < xs.length := by omega
    have hgl := HG.out h0
    have e1 : w3.heap[g]? = w2.heap[g]? := hk3.block g ⟨Nat.lt_of_lt_of_le hgl hb2.size, Nat.ne_of_lt hgl, fun e => by cases e⟩
    have e2 : w3.cell? ⟨g, k * 11 + j, none⟩ = w2.cell? ⟨g, k * 11 + j, none⟩ := by unfold World.cell?; rw [e1]
    exact e2.trans ((ItsR.below HI.out hb2).1 k hk j hj)
  have b3 : Below w.heap.size w w3 := b2.trans (hk3.below fun k hk => ⟨by have := b2.size; omega, by have := b1.size; omega, fun e => by cases e⟩)
  have hg3 : 0 < xs.length → g < w3.heap.size := fun h => Nat.lt_of_lt_of_le (HG.out h) (Nat.le_trans hb2.size hk3.size)
  obtain ⟨A3, c3, rfl⟩ := hl3.slice
  have HL := hide (fun h0 => hl3.form h0)
  have HI3 := hide hI3
  clear hbr hl3 hk3 hI3 HI hb2 b1 b2 hfl
  obtain ⟨i0, hi0, hz0, hz1, hz2⟩ := info_parts strs_info
  have hmk := run_make_rowN (P := Tryd.prog) 49 9 i0 _ Tryd.underlying49 hi0 hz0 .i64 .i64 xs.length xs.length (Nat.le_refl _) (by rw [hz2]; omega) (by omega) w3
  rw [hz1, Nat.mul_one, show (Value.string ByteArray.empty).cells = #[.string ByteArray.empty] from rfl, made_strs] at hmk
  have hX := Blk.new w3 9 (Array.replicate xs.length (Value.string ByteArray.empty))
  have bX := b3.alloc b3.size (.cells (Array.replicate xs.length (Value.string ByteArray.empty)) 9)
  have bX3 := (Below.refl w3.heap.size w3).alloc (Nat.le_refl _) (.cells (Array.replicate xs.length (Value.string ByteArray.empty)) 9)
  clear hz0 hz1 hz2 hi0
  go_wp2_with fail
  generalize hwx : w3.alloc (.cells (Array.replicate xs.length (Value.string ByteArray.empty)) 9) = wx at *
  clear hwx hmk
  have TX0 := hide (TxAt.start hX)
  have hKs : ∀ b, (b < wx.heap.size ∧ b ≠ w3.heap.size) → b < wx.heap.size := fun b h => h.1
  have hKT : ¬ (w3.heap.size < wx.heap.size ∧ w3.heap.size ≠ w3.heap.size) := fun h => h.2 rfl
  have hKq : ∀ b, b < w3.heap.size → (b < wx.heap.size ∧ b ≠ w3.heap.size) := fun b h => ⟨Nat.lt_of_lt_of_le h bX3.size, Nat.ne_of_lt h⟩
  have HKS := hide hKs
  have HKT := hide hKT
  have HKQ := hide hKq
  have BX := hide bX
  have BX3 := hide bX3
  have hb3w := b3.size
  clear hX hKs hKT hKq bX bX3 b3
  have hyb : ∀ k, -16777216 ≤ yAt out k ∧ yAt out k ≤ 16777216 := fun k => by
    cases k with
    | zero => exact (show (-16777216 : Int) ≤ 0 ∧ (0 : Int) ≤ 16777216 by decide)
    | succ k =>
      by_cases hk : k < out.length
      · have h8 := hbd.out k hk
        have h9 := (HALL.out.y k hk).1
        unfold LnB at h8
        simp only [yAt]
        omega
      · have e : lnAt out k = ln0 := by unfold lnAt List.getD; rw [List.getElem?_eq_none (by omega)]; rfl
        simp only [yAt, e]
        exact (show (-16777216 : Int) ≤ min (0 + 0) 16777216 ∧ min ((0 : Int) + 0) 16777216 ≤ 16777216 by decide)
  have HYB := hide hyb
  clear hyb
  go_loopw [11, 12, 38] (fun la yy i wr => ∃ (k : Nat) (ts : List ByteArray), k ≤ out.length ∧ i = .int .i64 k ∧ yy = .int .i64 (yAt out k) ∧ la = .int .i64 (lastIt (pcKJ out k 0)) ∧ TxAt wr w3.heap.size xs.length (pcKJ out k 0) ts ∧ Kept (fun b => b < wx.heap.size ∧ b ≠ w3.heap.size) wx wr) (fun _ _ i _ => out.length - (intOf i).toNat)
  case atStart => exact ⟨0, _, Nat.zero_le _, rfl, rfl, rfl, TX0.out, Kept.refl _ _⟩
  case round =>
    clear TX0
    obtain ⟨k, ts, hk, rfl, rfl, rfl, htx, hkp⟩ := hrel
    have HTX := hide htx
    have HKP := hide hkp
    clear htx hkp
    by_cases hlt : k < out.length
    · obtain ⟨q, cq, hv, hq, hc⟩ := HL.out (by omega)
      obtain rfl : A3 = some ⟨q, 0, none⟩ := by injection hv
      clear hv
      obtain ⟨pv, d0, d1, d2, d3, d4, d5, d6, ho⟩ := hc k hlt
      have tr : ∀ {j : Nat} {v : Value}, w3.cell? ⟨q, j, none⟩ = some v → wr.cell? ⟨q, j, none⟩ = some v := fun h => kept_cell BX3.out HKP.out hq (HKQ.out _ hq) h
      have e0 := tr d0
      have e1 := tr d1
      have e2 := tr d2
      have e3 := tr d3
      have e4 := tr d4
      have e5 := tr d5
      have e6 := tr d6
      have hy1 := HALL.out.y k hlt
      have hy2 := hbd.out k hlt
      unfold LnB at hy2
      have hya := HYB.out k
      have HYN := hide (show yAt out (k + 1) = min ((lnAt out k).y + (lnAt out k).h) 16777216 from rfl)
      have HLN := hide (pcKJ_line out k hlt)
      have HPN := hide (fun j hj => pcKJ_next out k j hj)
      have HPO := hide (fun j hj => piece_ok HALL.out k j hlt hj)
      have HPM := hide (fun c hc => hL1 c (pcsOut_mem out k hlt c hc))
      obtain ⟨A2, cp, rfl, _, _⟩ := own_reads ho
      have HPF := hide (fun h0 => pcs_form ho h0)
      clear d0 d1 d2 d3 d4 d5 d6 ho hc tr
      generalize yAt out k = yk at *
      have HPB := hide (fun j => show (∀ c ∈ pcKJ out k j, c.t.size ≤ 200) ∧ (pcKJ out k j).length ≤ 5000 from by
        obtain ⟨r, hr⟩ := pcKJ_pre out k j hlt
        refine ⟨fun c hc => hL1 c (by rw [hr]; exact List.mem_append_left _ hc), ?_⟩
        have := congrArg List.length hr
        rw [List.length_append] at this
        omega)
      have hnb : (lnAt out k).pcs.length ≤ 5000 := by
        obtain ⟨r, hr⟩ := pcKJ_pre out k (lnAt out k).pcs.length hlt
        have := congrArg List.length hr
        unfold pcKJ at this
        rw [List.length_append, List.length_append, List.take_length] at this
        omega
      generalize hyn : yAt out (k + 1) = yn at *
      have HYE := hide hyn
      generalize pcKJ out k = PK at *
      generalize hpn : pcKJ out (k + 1) 0 = PN at *
      have HPE := hide hpn
      clear hyn hpn
      generalize lnAt out k = ln at *
      obtain ⟨lx, ly, lw, lh, lb, lp, ll⟩ := ln
      simp only at hy1 hy2 e0 e1 e2 e3 e4 e5 e6 hnb
      obtain ⟨np, hnp⟩ : ∃ np, lp.length = np := ⟨_, rfl⟩
      rw [hnp] at e5 hnb
      have HNP := hide hnp
      clear hnp
      have HKA := hide (kept_alloc HKP.out HKS.out (.cells #[.int .i64 lx, .int .i64 ly, .int .i64 lw, .int .i64 lh, .int .i64 lb, .slice A2 np cp, .bool ll] 52))
      have HTA := hide (HTX.out.below ((Below.refl wr.heap.size wr).alloc (Nat.le_refl _) (.cells #[.int .i64 lx, .int .i64 ly, .int .i64 lw, .int .i64 lh, .int .i64 lb, .slice A2 np cp, .bool ll] 52)))
      generalize wr = wo at *
      have hy3 : ¬ ly < yk := by omega
      have hy4 : ¬ lh < 0 := by omega
      have hy5 : yn = min (ly + lh) 16777216 := HYN.out
      go_wp2_with fail
      go_loopw [11, 60] (fun la i Wd => ∃ (j : Nat) (tt : List ByteArray), j ≤ np ∧ i = .int .i64 j ∧ la = .int .i64 (lastIt (PK j)) ∧ TxAt Wd w3.heap.size xs.length (PK j) tt ∧ Kept (fun b => b < wx.heap.size ∧ b ≠ w3.heap.size) wx Wd) (fun _ i _ => np - (intOf i).toNat)
      case atStart => exact ⟨0, ts, Nat.zero_le _, rfl, rfl, HTA.out, HKA.out⟩
      case round =>
        clear HTA HKA HTX HKP e0 e1 e2 e3 e4 e5 e6
        obtain ⟨j, tt, hj, rfl, rfl, htx, hkp⟩ := hrel
        have HTX := hide htx
        have HKP := hide hkp
        clear htx hkp
        by_cases hjl : j < np
        · have hjl2 : j < lp.length := by have := HNP.out; omega
          obtain ⟨qp, cp2, hv, hqp, hpc⟩ := HPF.out (Nat.lt_of_le_of_lt (Nat.zero_le _) hjl2)
          obtain rfl : A2 = some ⟨qp, 0, none⟩ := by injection hv
          clear hv
          obtain ⟨p0, p1, p2, p3⟩ := hpc j hjl2
          have r0 := kept_cell BX3.out HKP.out hqp (HKQ.out _ hqp) p0
          have r1 := kept_cell BX3.out HKP.out hqp (HKQ.out _ hqp) p1
          have r2 := kept_cell BX3.out HKP.out hqp (HKQ.out _ hqp) p2
          have r3 := kept_cell BX3.out HKP.out hqp (HKQ.out _ hqp) p3
          obtain ⟨i, hi1, hi2, hi3, hi4⟩ := HPO.out j hjl2
          have HPJ := hide (HPN.out j hjl2)
          clear p0 p1 p2 p3 hpc
          change (pcAt lp j).item = (i : Int) at hi1
          change lastIt (PK j) ≤ (pcAt lp j).item at hi4
          have HPJ2 := hide (show PK (j + 1) = PK j ++ [pcAt lp j] from HPJ.out)
          clear HPJ
          have hmem : pcAt lp j ∈ lp := by rw [pcAt_of lp j hjl2]; exact List.getElem_mem _
          generalize pcAt lp j = pc at *
          obtain ⟨pi, px, pw, pt⟩ := pc
          simp only at hi1 hi4 r0 r1 r2 r3
          subst hi1
          have hn0 : 0 < xs.length := by omega
          obtain rfl := HA.out hn0
          have kc : w3.cell? ⟨g, i * 11, none⟩ = some (.int .i64 (itAt xs i).kind) := HI3.out i hi2 0 (by omega)
          have HK2 := hide (kept_alloc HKP.out HKS.out (.cells #[.int .i64 i, .int .i64 px, .int .i64 pw, .string pt] 54))
          have k0 := kept_cell BX3.out HK2.out (hg3 hn0) (HKQ.out _ (hg3 hn0)) kc
          clear kc
          generalize (itAt xs i).kind = kd at *
          have HT2 := hide (HTX.out.below ((Below.refl wr.heap.size wr).alloc (Nat.le_refl _) (.cells #[.int .i64 i, .int .i64 px, .int .i64 pw, .string pt] 54)))
          have hY := Blk.new wr 54 #[.int .i64 i, .int .i64 px, .int .i64 pw, .string pt]
          have u0 : (wr.alloc (.cells #[.int .i64 i, .int .i64 px, .int .i64 pw, .string pt] 54)).cell? ⟨wr.heap.size, 0, none⟩ = some (.int .i64 i) := hY.cell 0
          have u3 : (wr.alloc (.cells #[.int .i64 i, .int .i64 px, .int .i64 pw, .string pt] 54)).cell? ⟨wr.heap.size, 3, none⟩ = some (.string pt) := hY.cell 3
          have t0 := HT2.out.cell i hi2
          have f0 := HT2.out.2.1.frozen i
          have hne : w3.heap.size ≠ wr.heap.size := Nat.ne_of_lt HTX.out.2.1.lt
          have hlast : ¬ (i : Int) < lastIt (PK j) := by omega
          have hlen : ¬ xs.length ≤ i := by omega
          clear hY
          have hsm := HPM.out ⟨i, px, pw, pt⟩ hmem
          have htz := tx_size HTX.out i hi2 (HPB.out j).1 (HPB.out j).2
          have hsz : ¬ 9223372036854775807 < (tsAt tt i).size + pt.size := by
            change pt.size ≤ 200 at hsm
            omega
          clear hsm htz hmem
          generalize lastIt (PK j) = lj at *
          go_wp2_with fail
          generalize hwd : wr.alloc (.cells #[.int .i64 i, .int .i64 px, .int .i64 pw, .string pt] 54) = wd at *
          clear hwd
          go_region
          go_wp2_with fail
          go_roundw
          case rel => exact ⟨j + 1, tt.set i (tsAt tt i ++ pt), by omega, by go_num, by rw [HPJ2.out, lastIt_snoc], by rw [HPJ2.out]; exact TxAt.put (c := ⟨i, px, pw, pt⟩) (TxAt.kept HT2.out rfl) rfl hi2, kept_set HK2.out.drew HKT.out⟩
          case measure => simp only [intOf]; omega
        · have hPN : PK j = PN := by rw [← HLN.out, show j = lp.length by have := HNP.out; omega]
          obtain rfl : j = np := by omega
          go_wp2_with fail
          go_roundw
          case rel => exact ⟨k + 1, tt, by omega, by go_num, by rw [HYE.out, HYN.out], by rw [HPE.out, hPN], by rw [HPE.out, ← hPN]; exact HTX.out, HKP.out⟩
          case measure => simp only [intOf]; omega
    · obtain rfl : k = out.length := by omega
      have HT3 := HTX.out
      rw [pcKJ_end] at HT3
      have HTZ := hide HT3
      have hb3 : Below w.heap.size w wr := BX.out.trans (HKP.out.below fun b hb => ⟨Nat.lt_of_lt_of_le hb BX.out.size, by have := BX3.out.size; have h9 := hb3w; omega⟩)
      clear HT3 HTX HYB
      generalize wr = wz at *
      have Bj := Below.refl wz.heap.size wz
      go_wp2_with fail
      go_loopw [99] (fun i Wz => ∃ m : Nat, m ≤ xs.length ∧ i = .int .i64 m ∧ Below wz.heap.size wz Wz) (fun i _ => xs.length - (intOf i).toNat)
      case atStart => exact ⟨0, Nat.zero_le _, rfl, Bj⟩
      case round =>
        clear Bj
        obtain ⟨m, hm, rfl, hbm⟩ := hrel
        by_cases hml : m < xs.length
        · have hn0 : 0 < xs.length := by omega
          obtain rfl := HA.out hn0
          have hgz : g < wz.heap.size := Nat.lt_of_lt_of_le (hg3 hn0) (Nat.le_trans BX3.out.size HKP.out.size)
          have cc : ∀ j, j < 11 → wr.cell? ⟨g, m * 11 + j, none⟩ = (itC (itAt xs m))[j]? := fun j hj => by
            have h8 := HI3.out m hml j hj
            cases hq8 : (itC (itAt xs m))[j]? with
            | none =>
              rw [List.getElem?_eq_none_iff] at hq8
              simp [itC] at hq8; omega
            | some v =>
              rw [hq8] at h8
              exact (hbm.cell (p := ⟨g, m * 11 + j, none⟩) hgz).trans (kept_cell BX3.out HKP.out (hg3 hn0) (HKQ.out _ (hg3 hn0)) h8)
          have htx := HALL.out.text m hml
          have HTM := hide (HTZ.out.below hbm)
          have htsz := tx_size HTZ.out m hml hL1 (by omega)
          have hok := HK.out.2 (itAt xs m) (by rw [itAt_of xs m hml]; exact List.getElem_mem _)
          have hnb2 := HTZ.out.2.2 m hml
          generalize itAt xs m = x at *
          obtain ⟨kd, bx, tx, sz, sp, ht, md, sh, wd, hh, sd⟩ := x
          have d0 : wr.cell? ⟨g, m * 11, none⟩ = some (.int .i64 kd) := cc 0 (by omega)
          have d1 : wr.cell? ⟨g, m * 11 + 1, none⟩ = some (.int .i64 bx) := cc 1 (by omega)
          have d2 : wr.cell? ⟨g, m * 11 + 2, none⟩ = some (.string tx) := cc 2 (by omega)
          have d3 : wr.cell? ⟨g, m * 11 + 3, none⟩ = some (.int .i64 sz) := cc 3 (by omega)
          have d4 : wr.cell? ⟨g, m * 11 + 4, none⟩ = some (.int .i64 sp) := cc 4 (by omega)
          have d5 : wr.cell? ⟨g, m * 11 + 5, none⟩ = some (.int .i64 ht) := cc 5 (by omega)
          have d6 : wr.cell? ⟨g, m * 11 + 6, none⟩ = some (.int .i64 md) := cc 6 (by omega)
          have d7 : wr.cell? ⟨g, m * 11 + 7, none⟩ = some (.int .i64 sh) := cc 7 (by omega)
          have d8 : wr.cell? ⟨g, m * 11 + 8, none⟩ = some (.int .i64 wd) := cc 8 (by omega)
          have d9 : wr.cell? ⟨g, m * 11 + 9, none⟩ = some (.int .i64 hh) := cc 9 (by omega)
          have d10 : wr.cell? ⟨g, m * 11 + 10, none⟩ = some (.int .i64 sd) := cc 10 (by omega)
          clear cc
          simp only at htx
          have htxs : tx.size ≤ 200 := hok.1
          have t0 := HTM.out.cell m hml
          have hTl := HTM.out.2.1.lt
          have hbA := hbm.alloc hbm.size (.cells #[.int .i64 kd, .int .i64 bx, .string tx, .int .i64 sz, .int .i64 sp, .int .i64 ht, .int .i64 md, .int .i64 sh, .int .i64 wd, .int .i64 hh, .int .i64 sd] 41)
          have hbI := (Below.refl wr.heap.size wr).alloc (Nat.le_refl _) (.cells #[.int .i64 kd, .int .i64 bx, .string tx, .int .i64 sz, .int .i64 sp, .int .i64 ht, .int .i64 md, .int .i64 sh, .int .i64 wd, .int .i64 hh, .int .i64 sd] 41)
          have hY := Blk.new wr 41 #[.int .i64 kd, .int .i64 bx, .string tx, .int .i64 sz, .int .i64 sp, .int .i64 ht, .int .i64 md, .int .i64 sh, .int .i64 wd, .int .i64 hh, .int .i64 sd]
          have u0 : (wr.alloc (.cells #[.int .i64 kd, .int .i64 bx, .string tx, .int .i64 sz, .int .i64 sp, .int .i64 ht, .int .i64 md, .int .i64 sh, .int .i64 wd, .int .i64 hh, .int .i64 sd] 41)).cell? ⟨wr.heap.size, 0, none⟩ = some (.int .i64 kd) := hY.cell 0
          have u2 : (wr.alloc (.cells #[.int .i64 kd, .int .i64 bx, .string tx, .int .i64 sz, .int .i64 sp, .int .i64 ht, .int .i64 md, .int .i64 sh, .int .i64 wd, .int .i64 hh, .int .i64 sd] 41)).cell? ⟨wr.heap.size, 2, none⟩ = some (.string tx) := hY.cell 2
          have ut := (hbI.cell (p := ⟨w3.heap.size, m, none⟩) hTl).trans t0
          have um : (wr.alloc (.cells #[.int .i64 kd, .int .i64 bx, .string tx, .int .i64 sz, .int .i64 sp, .int .i64 ht, .int .i64 md, .int .i64 sh, .int .i64 wd, .int .i64 hh, .int .i64 sd] 41)).cell? ⟨2, 0, none⟩ = some (.int .i64 mv) := ((hb3.trans (hbA.mono hb3.size)).cell (p := ⟨2, 0, none⟩) hm2).trans hmv
          have hl1 := hY.lt
          have hl2 : w3.heap.size < (wr.alloc (.cells #[.int .i64 kd, .int .i64 bx, .string tx, .int .i64 sz, .int .i64 sp, .int .i64 ht, .int .i64 md, .int .i64 sh, .int .i64 wd, .int .i64 hh, .int .i64 sd] 41)).heap.size := Nat.lt_of_lt_of_le hTl hbI.size
          have hl3 : 2 < (wr.alloc (.cells #[.int .i64 kd, .int .i64 bx, .string tx, .int .i64 sz, .int .i64 sp, .int .i64 ht, .int .i64 md, .int .i64 sh, .int .i64 wd, .int .i64 hh, .int .i64 sd] 41)).heap.size := Nat.lt_of_lt_of_le hm2 (Nat.le_trans hb3.size hbA.size)
          clear hY t0 hok
          go_wp2_with fail
          generalize hwd : wr.alloc (.cells #[.int .i64 kd, .int .i64 bx, .string tx, .int .i64 sz, .int .i64 sp, .int .i64 ht, .int .i64 md, .int .i64 sh, .int .i64 wd, .int .i64 hh, .int .i64 sd] 41) = wi at *
          clear hwd d0 d1 d2 d3 d4 d5 d6 d7 d8 d9 d10
          by_cases hk1 : kd = 1
          · subst hk1
            obtain ⟨tm, htm⟩ : ∃ tm, tsAt ts m = tm := ⟨_, rfl⟩
            rw [htm] at ut hnb2 htsz
            have htxx := htx rfl
            obtain ⟨R, hR1, hR2⟩ := repl_same (tm := tm) (tx := tx) (by rw [hnb2, nbs_txTo, htxx])
            have HR1 := hide hR1
            have HR2 := hide hR2
            have HS1 := hide (show tm.size < 4294967281 by omega)
            have HS2 := hide (show tx.size < 4294967281 by omega)
            have HL1 := hide (repl_len tm (by omega))
            have HL2 := hide (repl_len tx (by omega))
            have HM := hide (show wi.drew.cell? ⟨2, 0, none⟩ = some (.int .i64 mv) from um)
            have HUT := hide (show wi.drew.cell? ⟨w3.heap.size, m, none⟩ = some (.string tm) from ut)
            have HU2 := hide (show wi.drew.cell? ⟨wr.heap.size, 2, none⟩ = some (.string tx) from u2)
            have HLX := hide (show wr.heap.size < wi.drew.heap.size from hl1)
            have HLT := hide (show w3.heap.size < wi.drew.heap.size from hl2)
            have HLM := hide (show 2 < wi.drew.heap.size from hl3)
            have HBD := hide (show Below wz.heap.size wz wi.drew from Below.drew hbA)
            have HO := hide (show 1 ≤ (⟨#[32]⟩ : ByteArray).size from Nat.le_refl _)
            clear hR1 hR2 htm hnb2 htxx htx htsz htxs hl1 hl2 hl3 HTM hbI
            go_region_with (first
              | (go_at_call 21; refine (Tryd.strings_ReplaceAll tm ⟨#[32]⟩ ⟨#[]⟩ mv wi.drew HS1.out HM.out HO.out HL1.out).mono ?_; rintro e wa ⟨rfl, hba⟩; rw [HR1.out]; have sa : wa.cell? ⟨wr.heap.size, 2, none⟩ = some (.string tx) := (hba.cell (p := ⟨wr.heap.size, 2, none⟩) HLX.out).trans HU2.out; have ma : wa.cell? ⟨2, 0, none⟩ = some (.int .i64 mv) := (hba.cell (p := ⟨2, 0, none⟩) HLM.out).trans HM.out)
              | (go_at_call 21; refine (Tryd.strings_ReplaceAll tx ⟨#[32]⟩ ⟨#[]⟩ mv wi.drew HS2.out HM.out HO.out HL2.out).mono ?_; rintro e wb ⟨rfl, hbb⟩; rw [HR2.out]; have sb : wb.cell? ⟨w3.heap.size, m, none⟩ = some (.string tm) := (hbb.cell (p := ⟨w3.heap.size, m, none⟩) HLT.out).trans HUT.out; have mb : wb.cell? ⟨2, 0, none⟩ = some (.int .i64 mv) := (hbb.cell (p := ⟨2, 0, none⟩) HLM.out).trans HM.out)
              | (go_at_call 21; refine (Tryd.strings_ReplaceAll tx ⟨#[32]⟩ ⟨#[]⟩ mv wa HS2.out ma HO.out HL2.out).mono ?_; rintro e wc ⟨rfl, hbc⟩; rw [HR2.out]; have hfin := below_then (below_then HBD.out (Nat.le_refl _) hba) (Nat.le_refl _) hbc)
              | (go_at_call 21; refine (Tryd.strings_ReplaceAll tm ⟨#[32]⟩ ⟨#[]⟩ mv wb HS1.out mb HO.out HL1.out).mono ?_; rintro e wc ⟨rfl, hbc⟩; rw [HR1.out]; have hfin := below_then (below_then HBD.out (Nat.le_refl _) hbb) (Nat.le_refl _) hbc))
            all_goals
              go_wp2_with fail
              go_roundw
              case rel => exact ⟨m + 1, by omega, by go_num, hfin⟩
              case measure => simp only [intOf]; omega
          · have hd1 : (kd == 1) = false := by simpa using hk1
            have hd2 : decide (kd = 1) = false := decide_eq_false hk1
            go_quiet (fail)
            go_wp2_with fail
            go_roundw
            case rel => exact ⟨m + 1, by omega, by go_num, below_drewN hbA nq⟩
            case measure => simp only [intOf]; omega
        · obtain rfl : m = xs.length := by omega
          have b9 := below_on hb3 hbm
          go_wp2_with fail
          go_ret
          exact ⟨rfl, b9⟩
end Go.Proofs.YtadlabndbomgmaaDoor
