/- The walk of table.widen at a stretch of a row of its own. -/
import Derived.BigQuiet
import Derived.Handy
import Derived.IntWalk
import Derived.RegionTactic
import Derived.Deep.QuietTactic
import Derived.Deep.MidRow
import Derived.Deep.RegionHeld3
import Derived.Test.YtadlabndbomgmaaTable
import Derived.Test.YtadlabndbomgmaaSpansPlain
namespace Go.Proofs.Ytadlabndbomgmaa
open Go.ChangeShapes Go.WideShapes Go.ChangeAt Go.RowKit
/-- A stretch of a block of ints, as a slice reads it. -/
theorem reads_seg {w : World} {g n a : Nat} {t : TypeId} {L : List Int} (h : Blk w g t (intsA L)) (hn : a + n ≤ L.length) : Reads w w.heap.size 1 (some ⟨g, a, none⟩) n ((seg L a n).map (Value.int .i64)) := by
  refine ⟨by rw [List.length_map, seg_len hn, Nat.mul_one], fun _ => ⟨_, rfl, h.lt, fun j u hu => ?_⟩⟩
  have hj : j < n := by have := (List.getElem?_eq_some_iff.1 hu).1; rw [List.length_map, seg_len hn] at this; exact this
  rw [show (⟨g, a, none⟩ : Addr).add j = ⟨g, a + j, none⟩ by simp [Addr.add], h.cell, intsA_at _ _ (by omega), ← at0_seg hj, ← hu, List.getElem?_map, List.getElem?_eq_getElem (by rw [seg_len hn]; exact hj), at0_of _ _ (by rw [seg_len hn]; exact hj)]
  rfl
theorem psum_seg {L : List Int} {a n k : Nat} (h : a + n ≤ L.length) (hk : k ≤ n) : psum (seg L a n) k = segs L a k := by
  rw [← segs_psum _ k (by rw [seg_len h]; exact hk)]
  exact segs_congr k fun j hj => by rw [Nat.zero_add, at0_seg (by omega)]
set_option maxRecDepth 100000 in
set_option maxHeartbeats 4000000 in
theorem widen_any (L b : List Int) (p a n cap c : Nat) (to : Int) (A : Option Addr) (w : World) (hn : n ≤ 1000) (hn0 : 0 < n) (hL : ∀ k, 0 ≤ at0 L k ∧ at0 L k ≤ 16777216) (hb : ∀ k, 0 ≤ at0 b k ∧ at0 b k ≤ 16777216) (hto : 0 ≤ to ∧ to ≤ 16777216) (ha : a + n ≤ L.length) (hP : Blk w p 3 (intsA L)) (hr : Reads w w.heap.size 1 A n (b.map (Value.int .i64))) :
    Calls Try.prog 104 #[.slice (some ⟨p, a, none⟩) n cap, .int .i64 to, .slice A n c] w fun e w' => e = .returned (.tuple #[]) ∧ ∃ L', Wider L L' a n to ∧ Blk w' p 3 (intsA L') ∧ w.grownBy w' (some p) := by
  have hbl : b.length = n := by have := hr.1; simpa using this
  have HR := hide hr
  have HP := hide hP
  have hss := seg_sum ha
  have hsl := seg_len ha
  have h0 := segs_nonneg (fun k => (hL k).1) a n
  have h1 := segs_bd (fun k => (hL k).2) a n
  have h2 : (n : Int) * 16777216 ≤ 1000 * 16777216 := Int.mul_le_mul_of_nonneg_right (by omega) (by omega)
  have HS := hide (fun k (hk : k ≤ n) => (by rw [psum_seg ha hk]; have q0 := segs_nonneg (fun k => (hL k).1) a k; have q1 := segs_bd (fun k => (hL k).2) a k; have q2 : (k : Int) * 16777216 ≤ 1000 * 16777216 := Int.mul_le_mul_of_nonneg_right (by omega) (by omega); omega : -1000000000000000000 ≤ psum (seg L a n) k ∧ psum (seg L a n) k ≤ 1000000000000000000))
  have HSB := hide (fun k (hk : k ≤ n) => (by have := psum_bd hb n hn hbl k hk; omega : -1000000000000000000 ≤ psum b k ∧ psum b k ≤ 1000000000000000000))
  clear hP hr
  go_enter Try.func104, Try.ntmps104
  go_wp2_with fail
  refine (tsum_any _ n cap (seg L a n) w.heap.size w (reads_seg HP.out ha) (by omega) HS.out).mono ?_
  rintro e w' ⟨rfl, rfl⟩
  rw [hss]
  obtain ⟨lack, hlk⟩ : ∃ x, to - segs L a n = x := ⟨_, rfl⟩
  have s1 : IntKind.i64.wrap lack = lack := IntWalk.i64_in _ (by omega)
  go_wp2_with fail
  · refine bodyPost_ret (results_none (by rfl) _ _ _) rfl ?_
    exact ⟨rfl, L, wider_none L a n to (by omega), HP.out, .refl _ _⟩
  · refine (tsum_any A n c b w.heap.size w HR.out (by omega) HSB.out).mono ?_
    rintro e w' ⟨rfl, rfl⟩
    by_cases hz : b.sum = 0
    · have z1 : (b.sum == 0) = true := by simp [hz]
      go_wp2_with fail
      refine (Repeat_any w.heap.size 1 n _ ((Blk.new w 3 #[.int .i64 1]).cell 0) hn).mono ?_
      rintro e w2 ⟨v2, rfl, own2, hb2⟩
      obtain ⟨X, cx, rfl, _, rx⟩ := own_reads own2
      have P5 := hide ((HP.out.alloc (.cells #[.int .i64 1] 3)).below hb2 (by have := HP.out.lt; simp; omega))
      have RX := hide rx
      have hg2 : w.grownBy w2 (some p) := (only_of_below (Below.alloc (Below.refl _ _) (Nat.le_refl _) _) (some p)).trans (only_of_below hb2 (some p))
      obtain ⟨b2, hb2e⟩ : ∃ x, x = List.replicate n (1 : Int) := ⟨_, rfl⟩
      have hb2l : b2.length = n := by rw [hb2e, List.length_replicate]
      have hpos : ∃ k, k < n ∧ 0 < at0 b2 k := ⟨0, hn0, by rw [hb2e, at0_of _ 0 (by simpa using hn0)]; simp⟩
      rw [← hb2e] at RX
      clear own2 hb2 rx z1 HP hb2e
      go_wp2_with fail
      refine (Share_any lack X n cx b2 w2 RX.out (by omega)).mono ?_
      rintro e w3 ⟨v3, rfl, own3, hb3⟩
      have HM0 := shared_nonneg (n := lack) b2 (by omega)
      have HM1 := shared_le (n := lack) b2 (by omega)
      have HMS := hide (fun j => (⟨HM0 j, HM1 j⟩ : 0 ≤ at0 (shared lack b2) j ∧ at0 (shared lack b2) j ≤ 16777216))
      have WD := hide (show Wider L (raise L a (shared lack b2)) a n to from by rw [← hlk]; exact wider_share L b2 a n to hn (fun k => (hL k).1) hto.2 ha hb2l hpos (by omega))
      have hml := shared_length lack b2
      rw [hb2l] at hml
      have HML := hide hml
      generalize shared lack b2 = ms at *
      obtain ⟨Y, cy, rfl, _, _⟩ := own_reads own3
      have P6 := hide (P5.out.below hb3 P5.out.lt)
      have NP := hide (show ∀ g, (Value.slice Y n cy).ownBlock = some g → g ≠ p from fun g hg => by have := own_ge own3 g hg; have := P5.out.lt; omega)
      have S3 := hide own3
      have G3 := hg2.trans (only_of_below hb3 (some p))
      have HLL := hide hL
      clear own3 hb3 HM0 HM1 hml RX P5 hg2 hpos hL hb hss hsl h0 h1 h2 HS HSB
      go_wp2_with fail
      go_loopw [26] (fun i wq => ∃ j : Nat, j ≤ n ∧ i = .int .i64 j ∧ Hid (Blk wq p 3 (intsA (raise L a (ms.take j)))) ∧ Hid (wq.ownsRow w2.heap.size 3 1 (.slice Y n cy) n (ms.map (Value.int .i64))) ∧ w.grownBy wq (some p)) (fun i _ => n - (intOf i).toNat)
      case atStart => exact ⟨0, Nat.zero_le _, rfl, hide (by rw [raise_none]; exact P6.out), S3, G3⟩
      case round =>
        obtain ⟨j, hj, rfl, HQ, HS, hgq⟩ := hrel
        clear P6 S3 G3
        by_cases hjk : j < n
        · obtain ⟨ady, rfl, _, cy1⟩ := (Reads.of_own HS.out).int_at hjk
          have hp1 : wr.cell? ⟨p, a + j, none⟩ = some (.int .i64 (at0 L (a + j))) := (HQ.out.cell (a + j)).trans (by rw [intsA_at _ _ (by rw [raise_len]; omega), raise_at _ _ _ _ (by omega)])
          have hz1 : wr.frozen? ⟨p, a + j, none⟩ = false := HQ.out.frozen (a + j)
          have hj1 : (0 : Int) ≤ (j : Int) := by omega
          have hj2 : (j : Int) < (n : Int) := by omega
          have hb1 := HLL.out (a + j)
          have hb2 := HMS.out j
          have NX := hide (raise_next L a ms j)
          generalize at0 L (a + j) = x at *
          generalize at0 ms j = y at *
          have q1 := HQ.out.set_ (a + j) (.int .i64 (x + y))
          rw [intsA_set, NX.out] at q1
          have Q1 := hide q1
          have S1 := hide (own_far HS.out (p := ⟨p, a + j, none⟩) (fun h => NP.out _ h rfl) (.int .i64 (x + y)))
          have Lq := only_setCell hgq (p := ⟨p, a + j, none⟩) (.inl rfl) (.int .i64 (x + y))
          clear q1 HQ HS NX
          go_wp2_with fail
          go_roundw
          case rel => exact ⟨j + 1, by omega, by go_num, Q1, S1, Lq⟩
          case measure => simp [intOf]; omega
        · obtain rfl : j = n := by omega
          have hq := HQ.out
          rw [raise_all _ _ _ _ HML.out] at hq
          have HQ2 := hide hq
          clear hq HQ
          go_wp2_with fail
          go_end0
          exact ⟨rfl, _, WD.out, HQ2.out, hgq⟩
    · have z1 : (b.sum == 0) = false := by simp [hz]
      have hpos := pos_of_sum b (fun k => (hb k).1) hz
      rw [hbl] at hpos
      go_wp2_with fail
      obtain ⟨w2, hw2⟩ : ∃ x, x = w := ⟨_, rfl⟩
      have hg2 : w.grownBy w2 (some p) := by rw [hw2]; exact .refl _ _
      have P5 := hide (show Blk w2 p 3 (intsA L) from by rw [hw2]; exact HP.out)
      have RX := hide (show Reads w2 w2.heap.size 1 A n (b.map (Value.int .i64)) from by rw [hw2]; exact HR.out)
      rw [← hw2]
      clear hw2 HP z1
      obtain ⟨X, hX⟩ : ∃ x, x = A := ⟨_, rfl⟩
      rw [← hX] at RX ⊢
      obtain ⟨b2, hb2e⟩ : ∃ x, x = b := ⟨_, rfl⟩
      rw [← hb2e] at RX hpos
      have hb2l : b2.length = n := by rw [hb2e]; exact hbl
      obtain ⟨cx, hcx⟩ : ∃ x, x = c := ⟨_, rfl⟩
      rw [← hcx]
      clear hX hb2e hcx
      refine (Share_any lack X n cx b2 w2 RX.out (by omega)).mono ?_
      rintro e w3 ⟨v3, rfl, own3, hb3⟩
      have HM0 := shared_nonneg (n := lack) b2 (by omega)
      have HM1 := shared_le (n := lack) b2 (by omega)
      have HMS := hide (fun j => (⟨HM0 j, HM1 j⟩ : 0 ≤ at0 (shared lack b2) j ∧ at0 (shared lack b2) j ≤ 16777216))
      have WD := hide (show Wider L (raise L a (shared lack b2)) a n to from by rw [← hlk]; exact wider_share L b2 a n to hn (fun k => (hL k).1) hto.2 ha hb2l hpos (by omega))
      have hml := shared_length lack b2
      rw [hb2l] at hml
      have HML := hide hml
      generalize shared lack b2 = ms at *
      obtain ⟨Y, cy, rfl, _, _⟩ := own_reads own3
      have P6 := hide (P5.out.below hb3 P5.out.lt)
      have NP := hide (show ∀ g, (Value.slice Y n cy).ownBlock = some g → g ≠ p from fun g hg => by have := own_ge own3 g hg; have := P5.out.lt; omega)
      have S3 := hide own3
      have G3 := hg2.trans (only_of_below hb3 (some p))
      have HLL := hide hL
      clear own3 hb3 HM0 HM1 hml RX P5 hg2 hpos hL hb hss hsl h0 h1 h2 HS HSB
      go_wp2_with fail
      go_loopw [26] (fun i wq => ∃ j : Nat, j ≤ n ∧ i = .int .i64 j ∧ Hid (Blk wq p 3 (intsA (raise L a (ms.take j)))) ∧ Hid (wq.ownsRow w2.heap.size 3 1 (.slice Y n cy) n (ms.map (Value.int .i64))) ∧ w.grownBy wq (some p)) (fun i _ => n - (intOf i).toNat)
      case atStart => exact ⟨0, Nat.zero_le _, rfl, hide (by rw [raise_none]; exact P6.out), S3, G3⟩
      case round =>
        obtain ⟨j, hj, rfl, HQ, HS, hgq⟩ := hrel
        clear P6 S3 G3
        by_cases hjk : j < n
        · obtain ⟨ady, rfl, _, cy1⟩ := (Reads.of_own HS.out).int_at hjk
          have hp1 : wr.cell? ⟨p, a + j, none⟩ = some (.int .i64 (at0 L (a + j))) := (HQ.out.cell (a + j)).trans (by rw [intsA_at _ _ (by rw [raise_len]; omega), raise_at _ _ _ _ (by omega)])
          have hz1 : wr.frozen? ⟨p, a + j, none⟩ = false := HQ.out.frozen (a + j)
          have hj1 : (0 : Int) ≤ (j : Int) := by omega
          have hj2 : (j : Int) < (n : Int) := by omega
          have hb1 := HLL.out (a + j)
          have hb2 := HMS.out j
          have NX := hide (raise_next L a ms j)
          generalize at0 L (a + j) = x at *
          generalize at0 ms j = y at *
          have q1 := HQ.out.set_ (a + j) (.int .i64 (x + y))
          rw [intsA_set, NX.out] at q1
          have Q1 := hide q1
          have S1 := hide (own_far HS.out (p := ⟨p, a + j, none⟩) (fun h => NP.out _ h rfl) (.int .i64 (x + y)))
          have Lq := only_setCell hgq (p := ⟨p, a + j, none⟩) (.inl rfl) (.int .i64 (x + y))
          clear q1 HQ HS NX
          go_wp2_with fail
          go_roundw
          case rel => exact ⟨j + 1, by omega, by go_num, Q1, S1, Lq⟩
          case measure => simp [intOf]; omega
        · obtain rfl : j = n := by omega
          have hq := HQ.out
          rw [raise_all _ _ _ _ HML.out] at hq
          have HQ2 := hide hq
          clear hq HQ
          go_wp2_with fail
          go_end0
          exact ⟨rfl, _, WD.out, HQ2.out, hgq⟩
end Go.Proofs.Ytadlabndbomgmaa
