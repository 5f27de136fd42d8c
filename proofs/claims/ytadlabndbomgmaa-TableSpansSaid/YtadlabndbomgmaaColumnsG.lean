/- The walk of table.Columns at any cells. -/
import Derived.BigQuiet
import Derived.Handy
import Derived.IntWalk
import Derived.RegionTactic
import Derived.Deep.QuietTactic
import Derived.Deep.MidRow
import Derived.Deep.RegionHeld3
import Derived.Deep.Cut
import Derived.Deep.CutRange
import Derived.Test.YtadlabndbomgmaaStable
import Derived.Test.YtadlabndbomgmaaWiden
import Derived.Test.YtadlabndbomgmaaSpansLaw
import Derived.Test.YtadlabndbomgmaaShelfE
namespace Go.Proofs.Ytadlabndbomgmaa
open Go.ChangeShapes Go.WideShapes Go.ChangeAt Go.RowKit
theorem row_or {w : World} {base : Nat} {t : TypeId} {v : Value} {l : List Ce} (h : w.ownsRow base t 4 v l.length (ceCells l)) : (v = .slice none 0 0 ∧ l = []) ∨ ∃ g cap rs, v = .slice (some ⟨g, 0, none⟩) l.length cap ∧ base ≤ g ∧ Blk w g t (ceArr l rs) := by
  rcases h.2 with ⟨h0, h1⟩ | ⟨g, cap, cur, rfl, hb, hh, h1, h2, h3, h4⟩
  · refine .inl ⟨h0, ?_⟩
    exact List.eq_nil_of_length_eq_zero h1
  · refine .inr ⟨g, cap, cur.toList.drop (l.length * 4), rfl, hb, ?_⟩
    have e : ceArr l (cur.toList.drop (l.length * 4)) = cur := by
      unfold ceArr
      rw [← h4, List.take_append_drop]
    rw [e]; exact hh
theorem row_blk {w : World} {base : Nat} {t : TypeId} {v : Value} {l : List Ce} (h : w.ownsRow base t 4 v l.length (ceCells l)) (h0 : 0 < l.length) : ∃ g cap rs, v = .slice (some ⟨g, 0, none⟩) l.length cap ∧ base ≤ g ∧ Blk w g t (ceArr l rs) := by
  rcases h.2 with ⟨_, h1⟩ | ⟨g, cap, cur, rfl, hb, hh, h1, h2, h3, h4⟩
  · omega
  · refine ⟨g, cap, cur.toList.drop (l.length * 4), rfl, hb, ?_⟩
    have e : ceArr l (cur.toList.drop (l.length * 4)) = cur := by
      unfold ceArr
      rw [← h4, List.take_append_drop]
    rw [e]; exact hh
structure ColsAt (w0 wr : World) (g p q many : Nat) (rs : List Value) (l : List Ce) (k : Nat) (L M : List Int) : Prop where
  P : Blk wr p 3 (intsA L)
  Q : Blk wr q 3 (intsA M)
  G : Blk wr g 162 (ceArr l rs)
  B : Below w0.heap.size w0 wr
  ll : L.length = many
  lm : M.length = many
  okL : RowOk L
  okM : RowOk M
  met : ∀ j, j < k → Met_ L M (ceAt l j)
theorem at0_set (L : List Int) (a k : Nat) (v : Int) (h : a < L.length) : at0 (L.set a v) k = if k = a then v else at0 L k := by
  simp only [at0, List.getD_eq_getElem?_getD, List.getElem?_set]
  by_cases e : a = k
  · subst e; simp [h]
  · rw [if_neg e, if_neg (fun x => e x.symm)]
theorem set_ok {L : List Int} (h : RowOk L) (a : Nat) (v : Int) (ha : a < L.length) (hv : v ≤ 32767) : RowOk (L.set a (max (at0 L a) v)) ∧ ∀ k, at0 L k ≤ at0 (L.set a (max (at0 L a) v)) k := by
  refine ⟨fun k => ?_, fun k => ?_⟩
  · rw [at0_set L a k _ ha]
    have := h k
    have := h a
    split <;> omega
  · rw [at0_set L a k _ ha]
    split
    · rename_i e; subst e; omega
    · omega
theorem met_mono {L M L' M' : List Int} {c : Ce} (h : Met_ L M c) (hL : ∀ k, at0 L k ≤ at0 L' k) (hM : ∀ k, at0 M k ≤ at0 M' k) : Met_ L' M' c :=
  ⟨Int.le_trans h.1 (segs_mono hL _ _), Int.le_trans h.2 (segs_mono hM _ _)⟩
theorem cols_one {w0 wr wE : World} {g p q many : Nat} {rs : List Value} {l : List Ce} {k : Nat} {L M : List Int} (h : ColsAt w0 wr g p q many rs l k L M) {le mo : Int} {a n : Nat} (hc : ceAt l k = ⟨le, mo, a, n⟩) (hn : n = 1) (ha : a < many) (hle : le ≤ 32767) (hmo : mo ≤ 32767)
    (P : Blk wE p 3 (intsA (L.set a (max (at0 L a) le)))) (Q : Blk wE q 3 (intsA (M.set a (max (at0 M a) mo)))) (G : Blk wE g 162 (ceArr l rs)) (B : Below w0.heap.size w0 wE) : ColsAt w0 wE g p q many rs l (k + 1) (L.set a (max (at0 L a) le)) (M.set a (max (at0 M a) mo)) := by
  subst hn
  have hl := h.ll
  have hm := h.lm
  obtain ⟨o1, m1⟩ := set_ok h.okL a le (by omega) hle
  obtain ⟨o2, m2⟩ := set_ok h.okM a mo (by omega) hmo
  refine ⟨P, Q, G, B, by rw [List.length_set]; exact hl, by rw [List.length_set]; exact hm, o1, o2, fun j hj => ?_⟩
  by_cases e : j < k
  · exact met_mono (h.met j e) m1 m2
  · obtain rfl : j = k := by omega
    rw [hc]
    refine ⟨?_, ?_⟩
    · show le ≤ segs _ (a : Int).toNat ((1 : Nat) : Int).toNat
      rw [Int.toNat_natCast, Int.toNat_natCast]
      simp only [segs]
      rw [Nat.add_zero, at0_set L a a _ (by omega), if_pos rfl]; omega
    · show mo ≤ segs _ (a : Int).toNat ((1 : Nat) : Int).toNat
      rw [Int.toNat_natCast, Int.toNat_natCast]
      simp only [segs]
      rw [Nat.add_zero, at0_set M a a _ (by omega), if_pos rfl]; omega
theorem cols_wide {w0 wr wE : World} {g p q many : Nat} {rs : List Value} {l : List Ce} {k : Nat} {L M L' M' : List Int} (h : ColsAt w0 wr g p q many rs l k L M) {le mo : Int} {a n : Nat} (hc : ceAt l k = ⟨le, mo, a, n⟩) (hle : le ≤ 32767) (hmo : mo ≤ 32767)
    (hL : Wider L L' a n le) (hM : Wider M M' a n mo) (P : Blk wE p 3 (intsA L')) (Q : Blk wE q 3 (intsA M')) (G : Blk wE g 162 (ceArr l rs)) (B : Below w0.heap.size w0 wE) : ColsAt w0 wE g p q many rs l (k + 1) L' M' := by
  refine ⟨P, Q, G, B, hL.len.trans h.ll, hM.len.trans h.lm, fun j => ?_, fun j => ?_, fun j hj => ?_⟩
  · have h1 := h.okL j
    have h2 := hL.le j
    have h3 := hL.bd j
    omega
  · have h1 := h.okM j
    have h2 := hM.le j
    have h3 := hM.bd j
    omega
  · by_cases e : j < k
    · exact met_mono (h.met j e) hL.le hM.le
    · obtain rfl : j = k := by omega
      rw [hc]
      refine ⟨?_, ?_⟩
      · show le ≤ segs L' (a : Int).toNat (n : Int).toNat
        rw [Int.toNat_natCast, Int.toNat_natCast]; exact hL.sum
      · show mo ≤ segs M' (a : Int).toNat (n : Int).toNat
        rw [Int.toNat_natCast, Int.toNat_natCast]; exact hM.sum
theorem zeros_ok (many : Nat) : RowOk (List.replicate many 0) := fun k => by
  simp only [at0, List.getD_eq_getElem?_getD, List.getElem?_replicate]
  split <;> simp
set_option maxRecDepth 100000 in
set_option maxHeartbeats 4000000 in
theorem columns_any (arg : Value) (l0 : List Ce) (many : Nat) (w : World) (hm : many ≤ 60) (hl : l0.length ≤ 1000) (hl0 : l0 = [] → many = 0) (hok : ∀ c ∈ l0, CellOk many c)
    (hc : Calls Try.prog 101 #[arg] w fun e w' => ∃ v, e = .returned (.tuple #[v, .int .i64 many]) ∧ w'.ownsRow w.heap.size 162 4 v l0.length (ceCells l0) ∧ Below w.heap.size w w') :
    Calls Try.prog 60 #[arg] w fun e w' => ∃ p q L M, e = .returned (.tuple #[.slice (some ⟨p, 0, none⟩) many many, .slice (some ⟨q, 0, none⟩) many many]) ∧ Blk w' p 3 (intsA L) ∧ Blk w' q 3 (intsA M) ∧ L.length = many ∧ M.length = many ∧ (∀ k, 0 ≤ at0 L k ∧ at0 L k ≤ at0 M k ∧ at0 M k ≤ 32767) ∧ (∀ c ∈ l0, Met_ L M c) ∧ Below w.heap.size w w' := by
  have HC := hide hc
  clear hc
  obtain ⟨i0, hi0, hz0, hz1, hz2⟩ := info_parts int_info
  have hmk := fun Wo => run_make_rowN (P := Try.prog) 22 3 i0 _ Try.underlying22 hi0 hz0 .i64 .i64 many many (Nat.le_refl _) (by rw [hz2]; omega) (by omega) Wo
  rw [hz1, Nat.mul_one, show (Value.int .i64 0).cells = #[.int .i64 0] from rfl, made_ints] at hmk
  clear hz0 hz1 hz2 hi0
  go_enter Try.func60, Try.ntmps60
  go_wp2_with fail
  refine HC.out.mono ?_
  clear HC
  rintro e w1 ⟨v1, rfl, own1, hb1⟩
  rcases row_or own1 with ⟨rfl, hnil⟩ | ⟨g, cap, rs, rfl, hg, hgb⟩
  · obtain rfl : many = 0 := hl0 hnil
    subst hnil
    have hK1 := hide ((Blk.new w1 3 (intsA (List.replicate 0 0))).alloc (.cells (intsA (List.replicate 0 0)) 3))
    have hk2 := Blk.new (w1.alloc (.cells (intsA (List.replicate 0 0)) 3)) 3 (intsA (List.replicate 0 0))
    rw [show (w1.alloc (.cells (intsA (List.replicate 0 0)) 3)).heap.size = w1.heap.size + 1 by simp] at hk2
    have hK2 := hide hk2
    have hL := (hb1.alloc hb1.size (.cells (intsA (List.replicate 0 0)) 3)).alloc (by simp; have := hb1.size; omega) (.cells (intsA (List.replicate 0 0)) 3)
    have hmk0 : ∀ Wo : World, (Instr.makeSlice 22 (.int .i64 0) (.int .i64 0)).run Try.prog Wo = .ok (.slice (some ⟨Wo.heap.size, 0, none⟩) 0 0) (Wo.alloc (.cells (intsA (List.replicate 0 0)) 3)) := hmk
    clear hk2 hb1 own1 hmk
    go_upto_region 2 with fail
    go_cut [6, 7] from 17 (fun s6 s7 wx => ∃ p q, s6 = .slice (some ⟨p, 0, none⟩) 0 0 ∧ s7 = .slice (some ⟨q, 0, none⟩) 0 0 ∧ Hid (Blk wx p 3 (intsA (List.replicate 0 0))) ∧ Hid (Blk wx q 3 (intsA (List.replicate 0 0))) ∧ Below w.heap.size w wx)
    case first =>
      go_region
      all_goals
        have hL' := hL.drew
        clear hmk0
        go_wp2_with fail
        go_meet
        first | exact ⟨w1.heap.size, w1.heap.size + 1, rfl, rfl, hide hK1.out.drew, hide hK2.out.drew, hL'⟩ | exact ⟨w1.heap.size + 1, w1.heap.size, rfl, rfl, hide hK2.out.drew, hide hK1.out.drew, hL'⟩
    case rest =>
      clear hK1 hK2 hL hmk0
      obtain ⟨p, q, rfl, rfl, K1, K2, hL'⟩ := hcut
      go_wp2_with fail
      refine (sortStableNil_any wc).mono ?_
      rintro e w2 ⟨rfl, rfl⟩
      go_wp2_with fail
      go_loopw [25] (fun i wr => i = .int .i64 0 ∧ wc = wr) (fun _ _ => 0)
      case atStart => exact ⟨rfl, rfl⟩
      case round =>
        obtain ⟨rfl, rfl⟩ := hrel
        go_wp2_with fail
        go_loopw [92] (fun i wr => i = .int .i64 0 ∧ wc = wr) (fun _ _ => 0)
        case atStart => exact ⟨rfl, rfl⟩
        case round =>
          obtain ⟨rfl, rfl⟩ := hrel
          go_wp2_with fail
          go_ret2
          exact ⟨p, q, [], [], rfl, K1.out, K2.out, rfl, rfl, fun k => by rw [at0_past [] k (Nat.zero_le _)]; omega, fun c hc => absurd hc List.not_mem_nil, hL'⟩
  have hgl := hgb.lt
  have O1 := hide ((hgb.alloc (.cells (intsA (List.replicate many 0)) 3)).alloc (.cells (intsA (List.replicate many 0)) 3))
  have hK1 := hide ((Blk.new w1 3 (intsA (List.replicate many 0))).alloc (.cells (intsA (List.replicate many 0)) 3))
  have hk2 := Blk.new (w1.alloc (.cells (intsA (List.replicate many 0)) 3)) 3 (intsA (List.replicate many 0))
  rw [show (w1.alloc (.cells (intsA (List.replicate many 0)) 3)).heap.size = w1.heap.size + 1 by simp] at hk2
  have hK2 := hide hk2
  have hL := (hb1.alloc hb1.size (.cells (intsA (List.replicate many 0)) 3)).alloc (by simp; have := hb1.size; omega) (.cells (intsA (List.replicate many 0)) 3)
  have hs1 := hb1.size
  clear hk2 hb1 own1 hgb
  go_upto_region 2 with fail
  go_cut [6, 7] from 17 (fun s6 s7 wx => ∃ p q, p ≠ q ∧ w.heap.size ≤ p ∧ w.heap.size ≤ q ∧ g ≠ p ∧ g ≠ q ∧ s6 = .slice (some ⟨p, 0, none⟩) many many ∧ s7 = .slice (some ⟨q, 0, none⟩) many many ∧ Hid (Blk wx p 3 (intsA (List.replicate many 0))) ∧ Hid (Blk wx q 3 (intsA (List.replicate many 0))) ∧ Hid (Blk wx g 162 (ceArr l0 rs)) ∧ Below w.heap.size w wx)
  case first =>
    go_region
    obtain ⟨p, hp⟩ : ∃ p, p = w1.heap.size := ⟨_, rfl⟩
    obtain ⟨q, hq⟩ : ∃ q, q = w1.heap.size + 1 := ⟨_, rfl⟩
    have hpq : p ≠ q := by omega
    have hpw : w.heap.size ≤ p ∧ w.heap.size ≤ q ∧ g ≠ p ∧ g ≠ q := by omega
    have K1 := hide (show Blk ((w1.alloc (.cells (intsA (List.replicate many 0)) 3)).alloc (.cells (intsA (List.replicate many 0)) 3)).drew p 3 (intsA (List.replicate many 0)) from by rw [hp]; exact hK1.out.drew)
    have K2 := hide (show Blk ((w1.alloc (.cells (intsA (List.replicate many 0)) 3)).alloc (.cells (intsA (List.replicate many 0)) 3)).drew q 3 (intsA (List.replicate many 0)) from by rw [hq]; exact hK2.out.drew)
    have hL' := hL.drew
    have O2 := hide O1.out.drew
    rw [← hq, ← hp]
    clear hp hq hK1 hK2 hL hmk O1
    rotate_left
    obtain ⟨p, hp⟩ : ∃ p, p = w1.heap.size + 1 := ⟨_, rfl⟩
    obtain ⟨q, hq⟩ : ∃ q, q = w1.heap.size := ⟨_, rfl⟩
    have hpq : p ≠ q := by omega
    have hpw : w.heap.size ≤ p ∧ w.heap.size ≤ q ∧ g ≠ p ∧ g ≠ q := by omega
    have K1 := hide (show Blk ((w1.alloc (.cells (intsA (List.replicate many 0)) 3)).alloc (.cells (intsA (List.replicate many 0)) 3)).drew p 3 (intsA (List.replicate many 0)) from by rw [hp]; exact hK2.out.drew)
    have K2 := hide (show Blk ((w1.alloc (.cells (intsA (List.replicate many 0)) 3)).alloc (.cells (intsA (List.replicate many 0)) 3)).drew q 3 (intsA (List.replicate many 0)) from by rw [hq]; exact hK1.out.drew)
    have hL' := hL.drew
    have O2 := hide O1.out.drew
    rw [← hp, ← hq]
    clear hp hq hK1 hK2 hL hmk O1
    all_goals
      go_wp2_with fail
      go_meet
      exact ⟨p, q, hpq, hpw.1, hpw.2.1, hpw.2.2.1, hpw.2.2.2, rfl, rfl, K1, K2, O2, hL'⟩
  case rest =>
    clear hK1 hK2 hL hmk O1
    obtain ⟨p, q, hpq, hpw1, hpw2, hpw3, hpw4, rfl, rfl, K1, K2, O2, hL'⟩ := hcut
    have hpw : w.heap.size ≤ p ∧ w.heap.size ≤ q ∧ g ≠ p ∧ g ≠ q := ⟨hpw1, hpw2, hpw3, hpw4⟩
    have hspan : SpanOk l0 := fun c hc => by have := hok c hc; unfold CellOk at this; omega
    go_wp2_with fail
    refine (sortStable_any l0 g cap wc (by omega) hspan O2.out).mono ?_
    rintro e w2 ⟨rfl, l, hperm, hG, hgr⟩
    have hll := hperm.length_eq
    have O3 := hide hG
    have P3 := hide (show Blk w2 p 3 (intsA (List.replicate many 0)) from (hgr.block p K1.out.lt (fun e => hpw.2.2.1 (by simpa using e.symm))).trans K1.out)
    have Q3 := hide (show Blk w2 q 3 (intsA (List.replicate many 0)) from (hgr.block q K2.out.lt (fun e => hpw.2.2.2 (by simpa using e.symm))).trans K2.out)
    have L3 : Below w.heap.size w w2 := ⟨hgr.os.trans hL'.os, hgr.tape.trans hL'.tape, hgr.output.trans hL'.output, Nat.le_trans hL'.size hgr.size, fun i hi => (hgr.block i (Nat.lt_of_lt_of_le hi hL'.size) (fun e => by have e2 : i = g := (by simpa using e); omega)).trans (hL'.block i hi)⟩
    clear K1 K2 hL' O2 hG hgr
    have hok2 : ∀ c ∈ l, CellOk many c := fun c hc => hok c (hperm.mem_iff.1 hc)
    have C3 : ColsAt w w2 g p q many rs l 0 (List.replicate many 0) (List.replicate many 0) := ⟨P3.out, Q3.out, O3.out, L3, List.length_replicate, List.length_replicate, zeros_ok many, zeros_ok many, fun j hj => absurd hj (Nat.not_lt_zero _)⟩
    have CC := hide C3
    clear C3 P3 Q3 O3 L3
    go_wp2_with fail
    go_loopw [25] (fun i wr => ∃ k : Nat, k ≤ l0.length ∧ i = .int .i64 k ∧ ∃ L M, Hid (ColsAt w wr g p q many rs l k L M)) (fun i _ => l0.length - (intOf i).toNat)
    case atStart => exact ⟨0, Nat.zero_le _, rfl, _, _, CC⟩
    case round =>
      obtain ⟨k, hk, rfl, L, M, HC⟩ := hrel
      clear CC
      by_cases hkl : k < l0.length
      · have HCE := hide (ce_range HC.out.G (k := k) (by omega))
        have hck := hok2 (ceAt l k) (by rw [ceAt_of l k (by omega)]; exact List.getElem_mem _)
        have hkn : ¬ l0.length ≤ k := by omega
        generalize hcd : ceAt l k = c at *
        obtain ⟨le, mo, at1, sp1⟩ := c
        obtain ⟨c1, c2, c3, c4, c5, c6, c7, c8⟩ := hck
        simp only at c1 c2 c3 c4 c5 c6 c7 c8
        obtain ⟨a, rfl⟩ : ∃ a : Nat, at1 = a := ⟨at1.toNat, by omega⟩
        obtain ⟨n, rfl⟩ : ∃ n : Nat, sp1 = n := ⟨sp1.toNat, by omega⟩
        have HCD := hide hcd
        clear hcd
        have HCF := hide (show wr.rangeAt g (k * 4) [.int .i64 le, .int .i64 mo, .int .i64 a, .int .i64 n] from HCE.out)
        clear HCE
        have B1 := hide (Blk.new wr 162 #[.int .i64 le, .int .i64 mo, .int .i64 a, .int .i64 n])
        have w1 : IntKind.i64.wrap ((a : Int) + n) = a + n := IntWalk.i64_in _ (by omega)
        go_upto_if 36 with (first | (refine wpList_load_mid rfl 162 _ rfl g (k * 4) (by rfl) [.int .i64 le, .int .i64 mo, .int .i64 a, .int .i64 n] _ HCF.out (by rfl) rfl (by kernel_rfl) ?_) | fail)
        have P1 := hide (HC.out.P.alloc (.cells #[.int .i64 le, .int .i64 mo, .int .i64 a, .int .i64 n] 162))
        have Q1 := hide (HC.out.Q.alloc (.cells #[.int .i64 le, .int .i64 mo, .int .i64 a, .int .i64 n] 162))
        have G1 := hide (HC.out.G.alloc (.cells #[.int .i64 le, .int .i64 mo, .int .i64 a, .int .i64 n] 162))
        have L1 := HC.out.B.alloc HC.out.B.size (.cells #[.int .i64 le, .int .i64 mo, .int .i64 a, .int .i64 n] 162)
        have hpc : p ≠ wr.heap.size ∧ q ≠ wr.heap.size ∧ wr.heap.size ≠ p ∧ wr.heap.size ≠ q ∧ w.heap.size ≤ wr.heap.size := by have := HC.out.P.lt; have := HC.out.Q.lt; have := HC.out.B.size; omega
        have hqp : q ≠ p := fun h => hpq h.symm
        have hlm : L.length = many := HC.out.ll
        have hmm : M.length = many := HC.out.lm
        have hla : a < L.length := by omega
        have hma : a < M.length := by omega
        have hna : ¬ many ≤ a := by omega
        generalize wr.alloc (.cells #[.int .i64 le, .int .i64 mo, .int .i64 a, .int .i64 n] 162) = wA at *
        generalize wr.heap.size = cb at *
        cases hz : ((n : Int) == 1)
        rotate_left
        · have hn1 : n ≤ 1 := by
            have := of_decide_eq_true hz
            omega
          obtain ⟨x, hx⟩ : ∃ x, at0 L a = x := ⟨_, rfl⟩
          obtain ⟨y, hy⟩ : ∃ y, at0 M a = y := ⟨_, rfl⟩
          go_wp2_with fail
          refine wp_region_held_drew (S := fun W => Blk W cb 162 #[.int .i64 le, .int .i64 mo, .int .i64 a, .int .i64 n]) (by kernel_rfl) B1.out.drew (fun hHeld => ?_)
          have P2 := hide P1.out.drew
          have Q2 := hide Q1.out.drew
          have G2 := hide G1.out.drew
          have L2 := L1.drew
          clear B1 P1 Q1 G1 L1
          generalize wA.drew = wB at *
          have p0 : wB.cell? ⟨p, a, none⟩ = some (.int .i64 x) := by rw [P2.out.cell a, intsA_at _ _ hla, hx]
          have q0 : wB.cell? ⟨q, a, none⟩ = some (.int .i64 y) := by rw [Q2.out.cell a, intsA_at _ _ hma, hy]
          have fp : wB.frozen? ⟨p, a, none⟩ = false := P2.out.frozen a
          have fq : wB.frozen? ⟨q, a, none⟩ = false := Q2.out.frozen a
          refine take_at (i := 0) (v := Value.slice (some ⟨p, 0, none⟩) many many) (some 37) rfl rfl (by kernel_rfl) (by kernel_rfl) (by kernel_rfl) (fun _ _ _ h => h) (yieldsIf_move (by rfl) _ rfl _ rfl) hHeld ?_
          simp only [Act.put, List.setIfInBounds_toArray, List.set_cons_zero, List.set_cons_succ]
          refine take_at (i := 1) (v := Value.pointer (some ⟨cb, 2, none⟩)) (some 38) rfl rfl (by kernel_rfl) (by kernel_rfl) (by kernel_rfl) (fun _ _ _ h => h) (Or.inl ⟨by rfl, fun W hW => ?_⟩) hHeld ?_
          · go_simp
          simp only [Act.put, List.setIfInBounds_toArray, List.set_cons_zero, List.set_cons_succ]
          refine take_at (i := 2) (v := .int .i64 a) (some 39) rfl rfl (by kernel_rfl) (by kernel_rfl) (by kernel_rfl) (fun _ _ _ h => h) (Or.inl ⟨by rfl, fun W hW => ?_⟩) hHeld ?_
          · have h4 : W.cell? ⟨cb, 2, none⟩ = some (.int .i64 a) := hW.cell 2; go_simp
          simp only [Act.put, List.setIfInBounds_toArray, List.set_cons_zero, List.set_cons_succ]
          refine take_at (i := 3) (v := Value.slice (some ⟨q, 0, none⟩) many many) (some 40) rfl rfl (by kernel_rfl) (by kernel_rfl) (by kernel_rfl) (fun _ _ _ h => h) (yieldsIf_move (by rfl) _ rfl _ rfl) hHeld ?_
          simp only [Act.put, List.setIfInBounds_toArray, List.set_cons_zero, List.set_cons_succ]
          refine take_at (i := 4) (v := Value.pointer (some ⟨cb, 2, none⟩)) (some 41) rfl rfl (by kernel_rfl) (by kernel_rfl) (by kernel_rfl) (fun _ _ _ h => h) (Or.inl ⟨by rfl, fun W hW => ?_⟩) hHeld ?_
          · go_simp
          simp only [Act.put, List.setIfInBounds_toArray, List.set_cons_zero, List.set_cons_succ]
          refine take_at (i := 5) (v := .int .i64 a) (some 42) rfl rfl (by kernel_rfl) (by kernel_rfl) (by kernel_rfl) (fun _ _ _ h => h) (Or.inl ⟨by rfl, fun W hW => ?_⟩) hHeld ?_
          · have h4 : W.cell? ⟨cb, 2, none⟩ = some (.int .i64 a) := hW.cell 2; go_simp
          simp only [Act.put, List.setIfInBounds_toArray, List.set_cons_zero, List.set_cons_succ]
          refine take_at (i := 6) (v := Value.slice (some ⟨p, 0, none⟩) many many) (some 43) rfl rfl (by kernel_rfl) (by kernel_rfl) (by kernel_rfl) (fun _ _ _ h => h) (yieldsIf_move (by rfl) _ rfl _ rfl) hHeld ?_
          simp only [Act.put, List.setIfInBounds_toArray, List.set_cons_zero, List.set_cons_succ]
          refine take_at (i := 7) (v := Value.pointer (some ⟨cb, 2, none⟩)) (some 44) rfl rfl (by kernel_rfl) (by kernel_rfl) (by kernel_rfl) (fun _ _ _ h => h) (Or.inl ⟨by rfl, fun W hW => ?_⟩) hHeld ?_
          · go_simp
          simp only [Act.put, List.setIfInBounds_toArray, List.set_cons_zero, List.set_cons_succ]
          refine take_at (i := 8) (v := .int .i64 a) (some 45) rfl rfl (by kernel_rfl) (by kernel_rfl) (by kernel_rfl) (fun _ _ _ h => h) (Or.inl ⟨by rfl, fun W hW => ?_⟩) hHeld ?_
          · have h4 : W.cell? ⟨cb, 2, none⟩ = some (.int .i64 a) := hW.cell 2; go_simp
          simp only [Act.put, List.setIfInBounds_toArray, List.set_cons_zero, List.set_cons_succ]
          refine take_at (i := 9) (v := Value.pointer (some ⟨p, a, none⟩)) (some 46) rfl rfl (by kernel_rfl) (by kernel_rfl) (by kernel_rfl) (fun _ _ _ h => h) (Or.inl ⟨by rfl, fun W hW => ?_⟩) hHeld ?_
          · go_simp
          simp only [Act.put, List.setIfInBounds_toArray, List.set_cons_zero, List.set_cons_succ]
          refine take_at (i := 11) (v := Value.pointer (some ⟨cb, 0, none⟩)) (some 48) rfl rfl (by kernel_rfl) (by kernel_rfl) (by kernel_rfl) (fun _ _ _ h => h) (Or.inl ⟨by rfl, fun W hW => ?_⟩) hHeld ?_
          · go_simp
          simp only [Act.put, List.setIfInBounds_toArray, List.set_cons_zero, List.set_cons_succ]
          refine take_at (i := 12) (v := .int .i64 le) (some 49) rfl rfl (by kernel_rfl) (by kernel_rfl) (by kernel_rfl) (fun _ _ _ h => h) (Or.inl ⟨by rfl, fun W hW => ?_⟩) hHeld ?_
          · have h4 : W.cell? ⟨cb, 0, none⟩ = some (.int .i64 le) := hW.cell 0; go_simp
          simp only [Act.put, List.setIfInBounds_toArray, List.set_cons_zero, List.set_cons_succ]
          refine take_at (i := 14) (v := Value.slice (some ⟨q, 0, none⟩) many many) (some 51) rfl rfl (by kernel_rfl) (by kernel_rfl) (by kernel_rfl) (fun _ _ _ h => h) (yieldsIf_move (by rfl) _ rfl _ rfl) hHeld ?_
          simp only [Act.put, List.setIfInBounds_toArray, List.set_cons_zero, List.set_cons_succ]
          refine take_at (i := 15) (v := Value.pointer (some ⟨cb, 2, none⟩)) (some 52) rfl rfl (by kernel_rfl) (by kernel_rfl) (by kernel_rfl) (fun _ _ _ h => h) (Or.inl ⟨by rfl, fun W hW => ?_⟩) hHeld ?_
          · go_simp
          simp only [Act.put, List.setIfInBounds_toArray, List.set_cons_zero, List.set_cons_succ]
          refine take_at (i := 16) (v := .int .i64 a) (some 53) rfl rfl (by kernel_rfl) (by kernel_rfl) (by kernel_rfl) (fun _ _ _ h => h) (Or.inl ⟨by rfl, fun W hW => ?_⟩) hHeld ?_
          · have h4 : W.cell? ⟨cb, 2, none⟩ = some (.int .i64 a) := hW.cell 2; go_simp
          simp only [Act.put, List.setIfInBounds_toArray, List.set_cons_zero, List.set_cons_succ]
          refine take_at (i := 17) (v := Value.pointer (some ⟨q, a, none⟩)) (some 54) rfl rfl (by kernel_rfl) (by kernel_rfl) (by kernel_rfl) (fun _ _ _ h => h) (Or.inl ⟨by rfl, fun W hW => ?_⟩) hHeld ?_
          · go_simp
          simp only [Act.put, List.setIfInBounds_toArray, List.set_cons_zero, List.set_cons_succ]
          refine take_at (i := 19) (v := Value.pointer (some ⟨cb, 1, none⟩)) (some 56) rfl rfl (by kernel_rfl) (by kernel_rfl) (by kernel_rfl) (fun _ _ _ h => h) (Or.inl ⟨by rfl, fun W hW => ?_⟩) hHeld ?_
          · go_simp
          simp only [Act.put, List.setIfInBounds_toArray, List.set_cons_zero, List.set_cons_succ]
          refine take_at (i := 20) (v := .int .i64 mo) (some 57) rfl rfl (by kernel_rfl) (by kernel_rfl) (by kernel_rfl) (fun _ _ _ h => h) (Or.inl ⟨by rfl, fun W hW => ?_⟩) hHeld ?_
          · have h4 : W.cell? ⟨cb, 1, none⟩ = some (.int .i64 mo) := hW.cell 1; go_simp
          simp only [Act.put, List.setIfInBounds_toArray, List.set_cons_zero, List.set_cons_succ]
          refine wpAnyH_ready (rs := [10, 18]) (by kernel_rfl) (by simp) ?_
          refine AllReadyH.cons rfl (fun K1 hK1 => ?_) (AllReadyH.cons rfl (fun K1 hK1 => ?_) AllReadyH.nil)
          · go_simp
            refine hK1.out _ _ hHeld (fun hH1 => ?_)
            try simp only [Act.put, List.setIfInBounds_toArray, List.set_cons_zero, List.set_cons_succ]
            refine take_at (i := 13) (v := .int .i64 (max x le)) (some 50) rfl rfl (by kernel_rfl) (by kernel_rfl) (by kernel_rfl) (fun _ _ _ h => h) (Or.inl ⟨by rfl, fun W hW => ?_⟩) hH1 ?_
            · go_simp
            simp only [Act.put, List.setIfInBounds_toArray, List.set_cons_zero, List.set_cons_succ]
            refine wpAnyH_ready (rs := [18]) (by kernel_rfl) (by simp) ?_
            refine AllReadyH.cons rfl (fun K2 hK2 => ?_) AllReadyH.nil
            go_simp
            refine hK2.out _ _ hHeld (fun hH2 => ?_)
            try simp only [Act.put, List.setIfInBounds_toArray, List.set_cons_zero, List.set_cons_succ]
            refine take_at (i := 21) (v := .int .i64 (max y mo)) (some 58) rfl rfl (by kernel_rfl) (by kernel_rfl) (by kernel_rfl) (fun _ _ _ h => h) (Or.inl ⟨by rfl, fun W hW => ?_⟩) hH2 ?_
            · go_simp
            simp only [Act.put, List.setIfInBounds_toArray, List.set_cons_zero, List.set_cons_succ]
            refine take_at (i := 22) (v := Value.pointer (some ⟨p, a, none⟩)) (some 59) rfl rfl (by kernel_rfl) (by kernel_rfl) (by kernel_rfl) (fun _ _ _ h => h) (Or.inl ⟨by rfl, fun W hW => ?_⟩) hHeld ?_
            · go_simp
            simp only [Act.put, List.setIfInBounds_toArray, List.set_cons_zero, List.set_cons_succ]
            refine wpAnyH_ready (rs := [23]) (by kernel_rfl) (by simp) ?_
            refine AllReadyH.cons rfl (fun K3 hK3 => ?_) AllReadyH.nil
            go_simp
            refine hK3.out _ _ (hHeld.far (p := ⟨p, a, none⟩) hpc.2.2.1 _) (fun hH3 => ?_)
            try simp only [Act.put, List.setIfInBounds_toArray, List.set_cons_zero, List.set_cons_succ]
            have q1 : (wB.setCell ⟨p, a, none⟩ (.int .i64 (max x le))).cell? ⟨q, a, none⟩ = some (.int .i64 y) := by rw [(Q2.out.far (p := ⟨p, a, none⟩) hqp _).cell a, intsA_at _ _ hma, hy]
            have fq1 : (wB.setCell ⟨p, a, none⟩ (.int .i64 (max x le))).frozen? ⟨q, a, none⟩ = false := (Q2.out.far (p := ⟨p, a, none⟩) hqp _).frozen a
            refine take_at (i := 24) (v := Value.pointer (some ⟨q, a, none⟩)) (some 60) rfl rfl (by kernel_rfl) (by kernel_rfl) (by kernel_rfl) (fun _ _ _ h => h) (Or.inl ⟨by rfl, fun W hW => ?_⟩) hH3 ?_
            · go_simp
            simp only [Act.put, List.setIfInBounds_toArray, List.set_cons_zero, List.set_cons_succ]
            refine wpAnyH_ready (rs := [25]) (by kernel_rfl) (by simp) ?_
            refine AllReadyH.cons rfl (fun K4 hK4 => ?_) AllReadyH.nil
            go_simp
            refine hK4.out _ _ (hH3.far (p := ⟨q, a, none⟩) hpc.2.2.2.1 _) (fun hH4 => ?_)
            try simp only [Act.put, List.setIfInBounds_toArray, List.set_cons_zero, List.set_cons_succ]
            refine wpAnyH_done (by kernel_rfl) ?_ _
            have P5 := (P2.out.set_ a (.int .i64 (max x le))).far (p := ⟨q, a, none⟩) hpq (.int .i64 (max y mo))
            have Q5 := (Q2.out.far (p := ⟨p, a, none⟩) hqp (.int .i64 (max x le))).set_ a (.int .i64 (max y mo))
            have G5 := (G2.out.far (p := ⟨p, a, none⟩) hpw3 (.int .i64 (max x le))).far (p := ⟨q, a, none⟩) hpw4 (.int .i64 (max y mo))
            have L5 := (L2.setCell (p := ⟨p, a, none⟩) hpw1 (.int .i64 (max x le))).setCell (p := ⟨q, a, none⟩) hpw2 (.int .i64 (max y mo))
            rw [intsA_set] at P5 Q5
            have P6 := hide P5
            have Q6 := hide Q5
            have G6 := hide G5
            clear p0 q0 fp fq q1 fq1 P5 Q5 G5 P2 Q2 G2 L2 hHeld hH3 hH4
            generalize (wB.setCell ⟨p, a, none⟩ (.int .i64 (max x le))).setCell ⟨q, a, none⟩ (.int .i64 (max y mo)) = wE at *
            have C6 := cols_one HC.out HCD.out (by omega) (by omega) c2 c4 (by rw [hx]; exact P6.out) (by rw [hy]; exact Q6.out) G6.out L5
            have CC := hide C6
            clear C6 P6 Q6 G6 L5 HC HCD HCF hx hy
            go_wp2_with fail
            go_roundw
            case rel => exact ⟨k + 1, by omega, by go_num, _, _, CC⟩
            case measure => simp only [intOf]; omega
          · go_simp
            refine hK1.out _ _ hHeld (fun hH1 => ?_)
            try simp only [Act.put, List.setIfInBounds_toArray, List.set_cons_zero, List.set_cons_succ]
            refine take_at (i := 21) (v := .int .i64 (max y mo)) (some 58) rfl rfl (by kernel_rfl) (by kernel_rfl) (by kernel_rfl) (fun _ _ _ h => h) (Or.inl ⟨by rfl, fun W hW => ?_⟩) hH1 ?_
            · go_simp
            simp only [Act.put, List.setIfInBounds_toArray, List.set_cons_zero, List.set_cons_succ]
            refine wpAnyH_ready (rs := [10]) (by kernel_rfl) (by simp) ?_
            refine AllReadyH.cons rfl (fun K2 hK2 => ?_) AllReadyH.nil
            go_simp
            refine hK2.out _ _ hHeld (fun hH2 => ?_)
            try simp only [Act.put, List.setIfInBounds_toArray, List.set_cons_zero, List.set_cons_succ]
            refine take_at (i := 13) (v := .int .i64 (max x le)) (some 50) rfl rfl (by kernel_rfl) (by kernel_rfl) (by kernel_rfl) (fun _ _ _ h => h) (Or.inl ⟨by rfl, fun W hW => ?_⟩) hH2 ?_
            · go_simp
            simp only [Act.put, List.setIfInBounds_toArray, List.set_cons_zero, List.set_cons_succ]
            refine take_at (i := 22) (v := Value.pointer (some ⟨p, a, none⟩)) (some 59) rfl rfl (by kernel_rfl) (by kernel_rfl) (by kernel_rfl) (fun _ _ _ h => h) (Or.inl ⟨by rfl, fun W hW => ?_⟩) hHeld ?_
            · go_simp
            simp only [Act.put, List.setIfInBounds_toArray, List.set_cons_zero, List.set_cons_succ]
            refine wpAnyH_ready (rs := [23]) (by kernel_rfl) (by simp) ?_
            refine AllReadyH.cons rfl (fun K3 hK3 => ?_) AllReadyH.nil
            go_simp
            refine hK3.out _ _ (hHeld.far (p := ⟨p, a, none⟩) hpc.2.2.1 _) (fun hH3 => ?_)
            try simp only [Act.put, List.setIfInBounds_toArray, List.set_cons_zero, List.set_cons_succ]
            have q1 : (wB.setCell ⟨p, a, none⟩ (.int .i64 (max x le))).cell? ⟨q, a, none⟩ = some (.int .i64 y) := by rw [(Q2.out.far (p := ⟨p, a, none⟩) hqp _).cell a, intsA_at _ _ hma, hy]
            have fq1 : (wB.setCell ⟨p, a, none⟩ (.int .i64 (max x le))).frozen? ⟨q, a, none⟩ = false := (Q2.out.far (p := ⟨p, a, none⟩) hqp _).frozen a
            refine take_at (i := 24) (v := Value.pointer (some ⟨q, a, none⟩)) (some 60) rfl rfl (by kernel_rfl) (by kernel_rfl) (by kernel_rfl) (fun _ _ _ h => h) (Or.inl ⟨by rfl, fun W hW => ?_⟩) hH3 ?_
            · go_simp
            simp only [Act.put, List.setIfInBounds_toArray, List.set_cons_zero, List.set_cons_succ]
            refine wpAnyH_ready (rs := [25]) (by kernel_rfl) (by simp) ?_
            refine AllReadyH.cons rfl (fun K4 hK4 => ?_) AllReadyH.nil
            go_simp
            refine hK4.out _ _ (hH3.far (p := ⟨q, a, none⟩) hpc.2.2.2.1 _) (fun hH4 => ?_)
            try simp only [Act.put, List.setIfInBounds_toArray, List.set_cons_zero, List.set_cons_succ]
            refine wpAnyH_done (by kernel_rfl) ?_ _
            have P5 := (P2.out.set_ a (.int .i64 (max x le))).far (p := ⟨q, a, none⟩) hpq (.int .i64 (max y mo))
            have Q5 := (Q2.out.far (p := ⟨p, a, none⟩) hqp (.int .i64 (max x le))).set_ a (.int .i64 (max y mo))
            have G5 := (G2.out.far (p := ⟨p, a, none⟩) hpw3 (.int .i64 (max x le))).far (p := ⟨q, a, none⟩) hpw4 (.int .i64 (max y mo))
            have L5 := (L2.setCell (p := ⟨p, a, none⟩) hpw1 (.int .i64 (max x le))).setCell (p := ⟨q, a, none⟩) hpw2 (.int .i64 (max y mo))
            rw [intsA_set] at P5 Q5
            have P6 := hide P5
            have Q6 := hide Q5
            have G6 := hide G5
            clear p0 q0 fp fq q1 fq1 P5 Q5 G5 P2 Q2 G2 L2 hHeld hH3 hH4
            generalize (wB.setCell ⟨p, a, none⟩ (.int .i64 (max x le))).setCell ⟨q, a, none⟩ (.int .i64 (max y mo)) = wE at *
            have C6 := cols_one HC.out HCD.out (by omega) (by omega) c2 c4 (by rw [hx]; exact P6.out) (by rw [hy]; exact Q6.out) G6.out L5
            have CC := hide C6
            clear C6 P6 Q6 G6 L5 HC HCD HCF hx hy
            go_wp2_with fail
            go_roundw
            case rel => exact ⟨k + 1, by omega, by go_num, _, _, CC⟩
            case measure => simp only [intOf]; omega
        · have hn1 : 1 < n := by
            have : ¬ (n : Int) = 1 := fun h => by rw [h] at hz; exact absurd hz (by decide)
            omega
          have hLs : a + n ≤ L.length := by omega
          have hMs : a + n ≤ M.length := by omega
          have CB := hide B1.out
          have PP := hide P1.out
          have QQ := hide Q1.out
          have GG := hide G1.out
          have LL := L1
          clear B1 P1 Q1 G1 L1
          have okL := HC.out.okL
          have okM := HC.out.okM
          have pL1 : ∀ j, 0 ≤ at0 L j ∧ at0 L j ≤ 16777216 := fun j => by have := okL j; omega
          have pM1 : ∀ j, 0 ≤ at0 (seg M a n) j ∧ at0 (seg M a n) j ≤ 16777216 := fun j => by
            by_cases h : j < n
            · rw [at0_seg h]; have := okM (a + j); omega
            · rw [at0_past _ j (by rw [seg_len hMs]; omega)]; omega
          have pM := hMs
          go_wp2_with fail
          refine wp_region_held_drew (S := fun W => Blk W cb 162 #[.int .i64 le, .int .i64 mo, .int .i64 a, .int .i64 n]) (by kernel_rfl) CB.out.drew (fun hHeld => ?_)
          have P2 := hide PP.out.drew
          have Q2 := hide QQ.out.drew
          have G2 := hide GG.out.drew
          have L2 := LL.drew
          clear CB PP QQ GG LL
          generalize wA.drew = wB at *
          refine take_at (i := 0) (v := Value.slice (some ⟨p, 0, none⟩) many many) (some 61) rfl rfl (by kernel_rfl) (by kernel_rfl) (by kernel_rfl) (fun _ _ _ h => h) (yieldsIf_move (by rfl) _ rfl _ rfl) hHeld ?_
          simp only [Act.put, List.setIfInBounds_toArray, List.set_cons_zero, List.set_cons_succ]
          refine take_at (i := 1) (v := Value.pointer (some ⟨cb, 2, none⟩)) (some 62) rfl rfl (by kernel_rfl) (by kernel_rfl) (by kernel_rfl) (fun _ _ _ h => h) (Or.inl ⟨by rfl, fun W hW => ?_⟩) hHeld ?_
          · go_simp
          simp only [Act.put, List.setIfInBounds_toArray, List.set_cons_zero, List.set_cons_succ]
          refine take_at (i := 2) (v := .int .i64 a) (some 63) rfl rfl (by kernel_rfl) (by kernel_rfl) (by kernel_rfl) (fun _ _ _ h => h) (Or.inl ⟨by rfl, fun W hW => ?_⟩) hHeld ?_
          · have h4 : W.cell? ⟨cb, 2, none⟩ = some (.int .i64 a) := hW.cell 2; go_simp
          simp only [Act.put, List.setIfInBounds_toArray, List.set_cons_zero, List.set_cons_succ]
          refine take_at (i := 3) (v := .int .i64 (↑a + ↑n)) (some 64) rfl rfl (by kernel_rfl) (by kernel_rfl) (by kernel_rfl) (fun _ _ _ h => h) (yieldsIf_move (by rfl) _ rfl _ rfl) hHeld ?_
          simp only [Act.put, List.setIfInBounds_toArray, List.set_cons_zero, List.set_cons_succ]
          refine take_at (i := 4) (v := Value.slice (some ⟨p, a, none⟩) n (many - a)) (some 65) rfl rfl (by kernel_rfl) (by kernel_rfl) (by kernel_rfl) (fun _ _ _ h => h) (Or.inl ⟨by rfl, fun W hW => ?_⟩) hHeld ?_
          · go_simp; rw [if_pos (show (0 : Int) ≤ ↑a + ↑n by omega), if_pos (show a ≤ ((a : Int) + n).toNat by omega), if_neg (show ¬ many = a by omega), show ((a : Int) + n).toNat - a = n by omega]
          simp only [Act.put, List.setIfInBounds_toArray, List.set_cons_zero, List.set_cons_succ]
          refine take_at (i := 5) (v := Value.pointer (some ⟨cb, 0, none⟩)) (some 66) rfl rfl (by kernel_rfl) (by kernel_rfl) (by kernel_rfl) (fun _ _ _ h => h) (Or.inl ⟨by rfl, fun W hW => ?_⟩) hHeld ?_
          · go_simp
          simp only [Act.put, List.setIfInBounds_toArray, List.set_cons_zero, List.set_cons_succ]
          refine take_at (i := 6) (v := .int .i64 le) (some 67) rfl rfl (by kernel_rfl) (by kernel_rfl) (by kernel_rfl) (fun _ _ _ h => h) (Or.inl ⟨by rfl, fun W hW => ?_⟩) hHeld ?_
          · have h4 : W.cell? ⟨cb, 0, none⟩ = some (.int .i64 le) := hW.cell 0; go_simp
          simp only [Act.put, List.setIfInBounds_toArray, List.set_cons_zero, List.set_cons_succ]
          refine take_at (i := 7) (v := Value.slice (some ⟨q, 0, none⟩) many many) (some 68) rfl rfl (by kernel_rfl) (by kernel_rfl) (by kernel_rfl) (fun _ _ _ h => h) (yieldsIf_move (by rfl) _ rfl _ rfl) hHeld ?_
          simp only [Act.put, List.setIfInBounds_toArray, List.set_cons_zero, List.set_cons_succ]
          refine take_at (i := 8) (v := Value.pointer (some ⟨cb, 2, none⟩)) (some 69) rfl rfl (by kernel_rfl) (by kernel_rfl) (by kernel_rfl) (fun _ _ _ h => h) (Or.inl ⟨by rfl, fun W hW => ?_⟩) hHeld ?_
          · go_simp
          simp only [Act.put, List.setIfInBounds_toArray, List.set_cons_zero, List.set_cons_succ]
          refine take_at (i := 9) (v := .int .i64 a) (some 70) rfl rfl (by kernel_rfl) (by kernel_rfl) (by kernel_rfl) (fun _ _ _ h => h) (Or.inl ⟨by rfl, fun W hW => ?_⟩) hHeld ?_
          · have h4 : W.cell? ⟨cb, 2, none⟩ = some (.int .i64 a) := hW.cell 2; go_simp
          simp only [Act.put, List.setIfInBounds_toArray, List.set_cons_zero, List.set_cons_succ]
          refine take_at (i := 10) (v := .int .i64 (↑a + ↑n)) (some 71) rfl rfl (by kernel_rfl) (by kernel_rfl) (by kernel_rfl) (fun _ _ _ h => h) (yieldsIf_move (by rfl) _ rfl _ rfl) hHeld ?_
          simp only [Act.put, List.setIfInBounds_toArray, List.set_cons_zero, List.set_cons_succ]
          refine take_at (i := 11) (v := Value.slice (some ⟨q, a, none⟩) n (many - a)) (some 72) rfl rfl (by kernel_rfl) (by kernel_rfl) (by kernel_rfl) (fun _ _ _ h => h) (Or.inl ⟨by rfl, fun W hW => ?_⟩) hHeld ?_
          · go_simp; rw [if_pos (show (0 : Int) ≤ ↑a + ↑n by omega), if_pos (show a ≤ ((a : Int) + n).toNat by omega), if_neg (show ¬ many = a by omega), show ((a : Int) + n).toNat - a = n by omega]
          simp only [Act.put, List.setIfInBounds_toArray, List.set_cons_zero, List.set_cons_succ]
          refine wpAnyH_ready (rs := [12]) (by kernel_rfl) (by simp) ?_
          refine AllReadyH.cons rfl (fun K1 hK1 => ?_) AllReadyH.nil
          go_simp
          go_at_call 105
          refine (Try.slices_Clone_int q a n (many - a) (seg M a n) wB (by rw [seg_len pM]; omega) (by omega) (fun j hj => ?_)).mono ?_
          · rw [seg_len pM] at hj
            rw [Q2.out.cell, intsA_at _ _ (by omega), ← at0_seg hj]; rfl
          rintro e w2 ⟨v2, rfl, own2, -, hb2⟩
          rw [List.take_of_length_le (by rw [seg_len pM]; omega)] at own2
          obtain ⟨A2, cp2, rfl, _, rd2⟩ := own_reads own2
          have hHe2 := hHeld.below hb2 hHeld.lt
          have P3 := hide (P2.out.below hb2 P2.out.lt)
          have Q3 := hide (Q2.out.below hb2 Q2.out.lt)
          have G3 := hide (G2.out.below hb2 G2.out.lt)
          have L3 := below_then L2 (Nat.le_refl _) hb2
          have RD := hide rd2
          clear own2 rd2
          refine hK1.out _ _ hHe2 (fun hH1 => ?_)
          try simp only [Act.put, List.setIfInBounds_toArray, List.set_cons_zero, List.set_cons_succ]
          refine wpAnyH_ready (rs := [13]) (by kernel_rfl) (by simp) ?_
          refine AllReadyH.cons rfl (fun K2 hK2 => ?_) AllReadyH.nil
          go_simp
          go_at_call 104
          refine (widen_any L (seg M a n) p a n (many - a) _ le _ w2 (by omega) (by omega) (fun j => pL1 j) (fun j => pM1 j) (by omega) (by omega) P3.out RD.out).mono ?_
          rintro e w3 ⟨rfl, L', hWp, P4, hg3⟩
          have P5 := hide P4
          have Q5 := hide (blk_grown Q3.out hg3 hqp)
          have G5 := hide (blk_grown G3.out hg3 hpw3)
          have L5 := below_grown L3 (Nat.le_refl _) hg3 hpw1
          have H5 := blk_grown hHe2 hg3 hpc.2.2.1.symm.symm
          have HWp := hide hWp
          clear P4 hg3 RD P3 Q3 G3 L3 P2 Q2 G2 L2 hWp
          refine hK2.out _ _ H5 (fun hH2 => ?_)
          try simp only [Act.put, List.setIfInBounds_toArray, List.set_cons_zero, List.set_cons_succ]
          refine wpAnyH_done (by kernel_rfl) ?_ _
          have CB := hide H5
          have PP := hide P5.out
          have QQ := hide Q5.out
          have GG := hide G5.out
          have LL := L5
          clear P5 Q5 G5 L5 H5 hH1 hH2 hHe2 hHeld hb2
          clear pL1 pM1
          have qM := hMs
          have qL1 : ∀ j, 0 ≤ at0 M j ∧ at0 M j ≤ 16777216 := fun j => by have := okM j; omega
          have qM1 : ∀ j, 0 ≤ at0 (seg M a n) j ∧ at0 (seg M a n) j ≤ 16777216 := fun j => by
            by_cases h : j < n
            · rw [at0_seg h]; have := okM (a + j); omega
            · rw [at0_past _ j (by rw [seg_len hMs]; omega)]; omega
          have hmo1 : 0 ≤ mo := by omega
          go_wp2_with fail
          refine wp_region_held_drew (S := fun W => Blk W cb 162 #[.int .i64 le, .int .i64 mo, .int .i64 a, .int .i64 n]) (by kernel_rfl) CB.out.drew (fun hHeld => ?_)
          have P2 := hide PP.out.drew
          have Q2 := hide QQ.out.drew
          have G2 := hide GG.out.drew
          have L2 := LL.drew
          clear CB PP QQ GG LL
          generalize w3.drew = wB at *
          refine take_at (i := 0) (v := Value.slice (some ⟨q, 0, none⟩) many many) (some 75) rfl rfl (by kernel_rfl) (by kernel_rfl) (by kernel_rfl) (fun _ _ _ h => h) (yieldsIf_move (by rfl) _ rfl _ rfl) hHeld ?_
          simp only [Act.put, List.setIfInBounds_toArray, List.set_cons_zero, List.set_cons_succ]
          refine take_at (i := 1) (v := Value.pointer (some ⟨cb, 2, none⟩)) (some 76) rfl rfl (by kernel_rfl) (by kernel_rfl) (by kernel_rfl) (fun _ _ _ h => h) (Or.inl ⟨by rfl, fun W hW => ?_⟩) hHeld ?_
          · go_simp
          simp only [Act.put, List.setIfInBounds_toArray, List.set_cons_zero, List.set_cons_succ]
          refine take_at (i := 2) (v := .int .i64 a) (some 77) rfl rfl (by kernel_rfl) (by kernel_rfl) (by kernel_rfl) (fun _ _ _ h => h) (Or.inl ⟨by rfl, fun W hW => ?_⟩) hHeld ?_
          · have h4 : W.cell? ⟨cb, 2, none⟩ = some (.int .i64 a) := hW.cell 2; go_simp
          simp only [Act.put, List.setIfInBounds_toArray, List.set_cons_zero, List.set_cons_succ]
          refine take_at (i := 3) (v := .int .i64 (↑a + ↑n)) (some 78) rfl rfl (by kernel_rfl) (by kernel_rfl) (by kernel_rfl) (fun _ _ _ h => h) (yieldsIf_move (by rfl) _ rfl _ rfl) hHeld ?_
          simp only [Act.put, List.setIfInBounds_toArray, List.set_cons_zero, List.set_cons_succ]
          refine take_at (i := 4) (v := Value.slice (some ⟨q, a, none⟩) n (many - a)) (some 79) rfl rfl (by kernel_rfl) (by kernel_rfl) (by kernel_rfl) (fun _ _ _ h => h) (Or.inl ⟨by rfl, fun W hW => ?_⟩) hHeld ?_
          · go_simp; rw [if_pos (show (0 : Int) ≤ ↑a + ↑n by omega), if_pos (show a ≤ ((a : Int) + n).toNat by omega), if_neg (show ¬ many = a by omega), show ((a : Int) + n).toNat - a = n by omega]
          simp only [Act.put, List.setIfInBounds_toArray, List.set_cons_zero, List.set_cons_succ]
          refine take_at (i := 5) (v := Value.pointer (some ⟨cb, 1, none⟩)) (some 80) rfl rfl (by kernel_rfl) (by kernel_rfl) (by kernel_rfl) (fun _ _ _ h => h) (Or.inl ⟨by rfl, fun W hW => ?_⟩) hHeld ?_
          · go_simp
          simp only [Act.put, List.setIfInBounds_toArray, List.set_cons_zero, List.set_cons_succ]
          refine take_at (i := 6) (v := .int .i64 mo) (some 81) rfl rfl (by kernel_rfl) (by kernel_rfl) (by kernel_rfl) (fun _ _ _ h => h) (Or.inl ⟨by rfl, fun W hW => ?_⟩) hHeld ?_
          · have h4 : W.cell? ⟨cb, 1, none⟩ = some (.int .i64 mo) := hW.cell 1; go_simp
          simp only [Act.put, List.setIfInBounds_toArray, List.set_cons_zero, List.set_cons_succ]
          refine take_at (i := 7) (v := Value.slice (some ⟨q, 0, none⟩) many many) (some 82) rfl rfl (by kernel_rfl) (by kernel_rfl) (by kernel_rfl) (fun _ _ _ h => h) (yieldsIf_move (by rfl) _ rfl _ rfl) hHeld ?_
          simp only [Act.put, List.setIfInBounds_toArray, List.set_cons_zero, List.set_cons_succ]
          refine take_at (i := 8) (v := Value.pointer (some ⟨cb, 2, none⟩)) (some 83) rfl rfl (by kernel_rfl) (by kernel_rfl) (by kernel_rfl) (fun _ _ _ h => h) (Or.inl ⟨by rfl, fun W hW => ?_⟩) hHeld ?_
          · go_simp
          simp only [Act.put, List.setIfInBounds_toArray, List.set_cons_zero, List.set_cons_succ]
          refine take_at (i := 9) (v := .int .i64 a) (some 84) rfl rfl (by kernel_rfl) (by kernel_rfl) (by kernel_rfl) (fun _ _ _ h => h) (Or.inl ⟨by rfl, fun W hW => ?_⟩) hHeld ?_
          · have h4 : W.cell? ⟨cb, 2, none⟩ = some (.int .i64 a) := hW.cell 2; go_simp
          simp only [Act.put, List.setIfInBounds_toArray, List.set_cons_zero, List.set_cons_succ]
          refine take_at (i := 10) (v := .int .i64 (↑a + ↑n)) (some 85) rfl rfl (by kernel_rfl) (by kernel_rfl) (by kernel_rfl) (fun _ _ _ h => h) (yieldsIf_move (by rfl) _ rfl _ rfl) hHeld ?_
          simp only [Act.put, List.setIfInBounds_toArray, List.set_cons_zero, List.set_cons_succ]
          refine take_at (i := 11) (v := Value.slice (some ⟨q, a, none⟩) n (many - a)) (some 86) rfl rfl (by kernel_rfl) (by kernel_rfl) (by kernel_rfl) (fun _ _ _ h => h) (Or.inl ⟨by rfl, fun W hW => ?_⟩) hHeld ?_
          · go_simp; rw [if_pos (show (0 : Int) ≤ ↑a + ↑n by omega), if_pos (show a ≤ ((a : Int) + n).toNat by omega), if_neg (show ¬ many = a by omega), show ((a : Int) + n).toNat - a = n by omega]
          simp only [Act.put, List.setIfInBounds_toArray, List.set_cons_zero, List.set_cons_succ]
          refine wpAnyH_ready (rs := [12]) (by kernel_rfl) (by simp) ?_
          refine AllReadyH.cons rfl (fun K1 hK1 => ?_) AllReadyH.nil
          go_simp
          go_at_call 105
          refine (Try.slices_Clone_int q a n (many - a) (seg M a n) wB (by rw [seg_len qM]; omega) (by omega) (fun j hj => ?_)).mono ?_
          · rw [seg_len qM] at hj
            rw [Q2.out.cell, intsA_at _ _ (by omega), ← at0_seg hj]; rfl
          rintro e w2 ⟨v2, rfl, own2, -, hb2⟩
          rw [List.take_of_length_le (by rw [seg_len qM]; omega)] at own2
          obtain ⟨A2, cp2, rfl, _, rd2⟩ := own_reads own2
          have hHe2 := hHeld.below hb2 hHeld.lt
          have P3 := hide (P2.out.below hb2 P2.out.lt)
          have Q3 := hide (Q2.out.below hb2 Q2.out.lt)
          have G3 := hide (G2.out.below hb2 G2.out.lt)
          have L3 := below_then L2 (Nat.le_refl _) hb2
          have RD := hide rd2
          clear own2 rd2
          refine hK1.out _ _ hHe2 (fun hH1 => ?_)
          try simp only [Act.put, List.setIfInBounds_toArray, List.set_cons_zero, List.set_cons_succ]
          refine wpAnyH_ready (rs := [13]) (by kernel_rfl) (by simp) ?_
          refine AllReadyH.cons rfl (fun K2 hK2 => ?_) AllReadyH.nil
          go_simp
          go_at_call 104
          refine (widen_any M (seg M a n) q a n (many - a) _ mo _ w2 (by omega) (by omega) (fun j => qL1 j) (fun j => qM1 j) (by omega) (by omega) Q3.out RD.out).mono ?_
          rintro e w3 ⟨rfl, M', hWq, Q4, hg3⟩
          have P5 := hide (blk_grown P3.out hg3 hpq)
          have Q5 := hide Q4
          have G5 := hide (blk_grown G3.out hg3 hpw4)
          have L5 := below_grown L3 (Nat.le_refl _) hg3 hpw2
          have H5 := blk_grown hHe2 hg3 hpc.2.2.2.1
          have HWq := hide hWq
          clear Q4 hg3 RD P3 Q3 G3 L3 P2 Q2 G2 L2 hWq
          refine hK2.out _ _ H5 (fun hH2 => ?_)
          try simp only [Act.put, List.setIfInBounds_toArray, List.set_cons_zero, List.set_cons_succ]
          refine wpAnyH_done (by kernel_rfl) ?_ _
          have CB := hide H5
          have PP := hide P5.out
          have QQ := hide Q5.out
          have GG := hide G5.out
          have LL := L5
          clear P5 Q5 G5 L5 H5 hH1 hH2 hHe2 hHeld hb2
          have C6 := cols_wide HC.out HCD.out c2 c4 HWp.out HWq.out PP.out QQ.out GG.out LL
          have CC := hide C6
          clear C6 PP QQ GG LL CB HWp HWq HC HCD HCF qM qL1 qM1 hmo1 okL okM pM
          go_wp2_with fail
          go_roundw
          case rel => exact ⟨k + 1, by omega, by go_num, _, _, CC⟩
          case measure => simp only [intOf]; omega
      · obtain rfl : k = l0.length := by omega
        have HMet := hide (show ∀ c ∈ l0, Met_ L M c from fun c hc => by
          obtain ⟨j, hj, e⟩ := List.getElem_of_mem (hperm.mem_iff.2 hc)
          rw [← e, ← ceAt_of l j hj]
          exact HC.out.met j (by omega))
        have hlm : L.length = many := HC.out.ll
        have H0 := hide (show M.length = many ∧ RowOk M ∧ (∀ k, at0 M k ≤ at0 M k) ∧ ∀ k, k < 0 → at0 L k ≤ at0 M k from ⟨HC.out.lm, HC.out.okM, fun _ => Int.le_refl _, fun k hk => absurd hk (Nat.not_lt_zero _)⟩)
        have HOL := hide HC.out.okL
        have HP0 := hide HC.out.P
        have HQ0 := hide HC.out.Q
        have hB0 := HC.out.B
        clear HC hok hok2 hperm hspan hll
        go_wp2_with fail
        go_loopw [92] (fun i wr => ∃ j : Nat, j ≤ many ∧ i = .int .i64 j ∧ ∃ M', Hid (Blk wr p 3 (intsA L)) ∧ Hid (Blk wr q 3 (intsA M')) ∧ Hid (M'.length = many ∧ RowOk M' ∧ (∀ k, at0 M k ≤ at0 M' k) ∧ ∀ k, k < j → at0 L k ≤ at0 M' k) ∧ Below w.heap.size w wr) (fun i _ => many - (intOf i).toNat)
        case atStart => exact ⟨0, Nat.zero_le _, rfl, M, HP0, HQ0, H0, hB0⟩
        case round =>
          obtain ⟨j, hj, rfl, M2, HP, HQ, HH, hbel⟩ := hrel
          clear HP0 HQ0 H0 hB0
          by_cases hjl : j < many
          · have hm2 := HH.out.1
            have s1 : wr.cell? ⟨p, j, none⟩ = some (.int .i64 (at0 L j)) := by rw [HP.out.cell j, intsA_at _ _ (by omega)]
            have s2 : wr.cell? ⟨q, j, none⟩ = some (.int .i64 (at0 M2 j)) := by rw [HQ.out.cell j, intsA_at _ _ (by omega)]
            have s3 : wr.frozen? ⟨q, j, none⟩ = false := HQ.out.frozen j
            have HN := hide (show (M2.set j (max (at0 M2 j) (at0 L j))).length = many ∧ RowOk (M2.set j (max (at0 M2 j) (at0 L j))) ∧ (∀ k, at0 M k ≤ at0 (M2.set j (max (at0 M2 j) (at0 L j))) k) ∧ ∀ k, k < j + 1 → at0 L k ≤ at0 (M2.set j (max (at0 M2 j) (at0 L j))) k from by
              obtain ⟨h1, h2, h3, h4⟩ := HH.out
              obtain ⟨o1, m1⟩ := set_ok h2 j (at0 L j) (by omega) (HOL.out j).2
              refine ⟨by rw [List.length_set]; exact h1, o1, fun k => Int.le_trans (h3 k) (m1 k), fun k hk => ?_⟩
              by_cases e : k = j
              · subst e; rw [at0_set M2 k k _ (by omega), if_pos rfl]; omega
              · exact Int.le_trans (h4 k (by omega)) (m1 k))
            have P9 := hide ((HP.out.far (p := ⟨q, j, none⟩) hpq (.int .i64 (max (at0 M2 j) (at0 L j)))).drew)
            have q9 := (HQ.out.set_ j (.int .i64 (max (at0 M2 j) (at0 L j)))).drew
            rw [intsA_set] at q9
            have Q9 := hide q9
            have L9 := (hbel.setCell (p := ⟨q, j, none⟩) hpw2 (.int .i64 (max (at0 M2 j) (at0 L j)))).drew
            clear q9 HP HQ HH hbel
            generalize at0 L j = x at *
            generalize at0 M2 j = y at *
            go_wp2_with fail
            go_region
            generalize (wr.setCell ⟨q, j, none⟩ (.int .i64 (max y x))).drew = wE at *
            clear s1 s2 s3
            go_wp2_with fail
            go_roundw
            case rel => exact ⟨j + 1, by omega, by go_num, _, P9, Q9, HN, L9⟩
            case measure => simp only [intOf]; omega
          · obtain rfl : j = many := by omega
            have HF := hide (show (∀ k, 0 ≤ at0 L k ∧ at0 L k ≤ at0 M2 k ∧ at0 M2 k ≤ 32767) ∧ ∀ c ∈ l0, Met_ L M2 c from ⟨fun k => by
              obtain ⟨h1, h2, h3, h4⟩ := HH.out
              by_cases hk : k < j
              · exact ⟨(HOL.out k).1, h4 k hk, (h2 k).2⟩
              · rw [at0_past L k (by omega), at0_past M2 k (by omega)]; omega, fun c hc => met_mono (HMet.out c hc) (fun _ => Int.le_refl _) HH.out.2.2.1⟩)
            have hm2 := HH.out.1
            clear HH HMet
            go_wp2_with fail
            go_ret2
            exact ⟨p, q, L, M2, rfl, HP.out, HQ.out, hlm, hm2, HF.out.1, HF.out.2, hbel⟩
end Go.Proofs.Ytadlabndbomgmaa
