/- The walk of the statement TableSpans. -/
import Derived.BigQuiet
import Derived.Handy
import Derived.IntWalk
import Derived.RegionTactic
import Derived.Deep.QuietTactic
import Derived.Deep.MidRow
import Derived.Deep.RegionHeld3
import Derived.Test.YtadlabndbomgmaaColumnsG
import Derived.Test.YtadlabndbomgmaaCells
import Derived.Test.YtadlabndbomgmaaOwnRows
import Derived.Test.YtadlabndbomgmaaTabled
namespace Go.Proofs.Ytadlabndbomgmaa
open Go.ChangeShapes Go.WideShapes Go.ChangeAt Go.RowKit
theorem lc_info : (Try.prog.info? 92).map (fun i => (i.zero, i.size, i.bytes)) = some (some (.agg #[.int .i64 0, .int .i64 0, .int .i64 0]), 3, 24) := by kernel_rfl
theorem lcs_info : (Try.prog.info? 90).map (fun i => (i.zero, i.size, i.bytes)) = some (some (.slice none 0 0), 1, 24) := by kernel_rfl
theorem RowsIn.at_ {w w' : World} {size n : Nat} {A : Option Addr} {F : Nat → Hd} {R : Nat → Nat → Nat → Int} (h : RowsIn w size A n F R) (hb : Below w.heap.size w w') {i : Nat} (hi : i < n) : ∃ g off, A = some ⟨g, off, none⟩ ∧ w'.cell? ⟨g, off + i, none⟩ = some (hdV (F i)) := by
  obtain ⟨g, off, h1, h2, h3⟩ := h.outer i hi
  exact ⟨g, off, h1, (hb.cell (p := ⟨g, off + i, none⟩) h2).trans h3⟩
set_option maxRecDepth 100000 in
set_option maxHeartbeats 4000000 in
theorem tableSpans_any (A : Option Addr) (n c : Nat) (F : Nat → Hd) (R : Nat → Nat → Nat → Int) (w : World) (hr : RowsIn w 3 A n F R) (hn : n ≤ c) (hc : c ≤ maxLen) :
    Calls Try.prog 18 #[.slice A n c] w fun e w' => e = .returned (.bool true) ∧ Below w.heap.size w w' := by
  unfold maxLen at hc
  have HR := hide hr
  clear hr
  go_enter Try.func18, Try.ntmps18
  go_wp2_with fail
  have En : (min (n : Int) 12).toNat = min n 12 := by omega
  have En3 : max (min (n : Int) 12) 0 = ((min n 12 : Nat) : Int) := by omega
  have En2 : min (n : Int) 12 = ((min n 12 : Nat) : Int) := by omega
  rw [En, En3, En2]
  clear En En3 En2
  have hn1 : min n 12 ≤ n := by omega
  have hn2 : min n 12 ≤ 12 := by omega
  have HOK := hide (ownRows_ok n F R)
  have HLN := hide (ownRows_len n F R)
  have HAT := hide (ownRows_at n F R)
  generalize hm : min n 12 = m at *
  clear hm
  generalize ownRows n F R = rows at *
  go_loopw [3, 23] (fun v i wr => ∃ k : Nat, k ≤ m ∧ i = .int .i64 k ∧ ∃ G, Hid (Made wr w.heap.size 90 92 v rows k G) ∧ Below w.heap.size w wr) (fun _ i _ => m - (intOf i).toNat)
  case atStart => exact ⟨0, Nat.zero_le _, rfl, _, hide (Made.none_ _ _ _ _ _), Below.refl _ _⟩
  case round =>
    obtain ⟨k, hk, rfl, G, HM, hbel⟩ := hrel
    have hszr := hbel.size
    obtain ⟨v, hv⟩ : ∃ v, v = u3 := ⟨_, rfl⟩
    rw [← hv] at HM ⊢
    clear hv
    by_cases hlt : k < m
    · obtain ⟨g, off, rfl, hcell0⟩ := HR.out.at_ hbel (show k < n by omega)
      obtain ⟨hf1, hf2, hf3⟩ := HR.out.inner k (by omega)
      have HA := hide (HAT.out k hlt)
      generalize F k = hd at *
      generalize R k = Rk at *
      obtain ⟨A1, n1, c1⟩ := hd
      simp only at hf1 hf2 hf3 HA
      unfold maxLen at hf2
      have HF3 := hide hf3
      have hcell : wr.cell? ⟨g, off + k, none⟩ = some (.slice A1 n1 c1) := hcell0
      clear hcell0 hf3
      go_wp2_with fail
      clear hcell
      have En : (min (n1 : Int) 12).toNat = min n1 12 := by omega
      have En3 : max (min (n1 : Int) 12) 0 = ((min n1 12 : Nat) : Int) := by omega
      have En2 : min (n1 : Int) 12 = ((min n1 12 : Nat) : Int) := by omega
      rw [En, En3, En2]
      clear En En3 En2
      have hq1 : min n1 12 ≤ n1 := by omega
      have hq2 : min n1 12 ≤ 12 := by omega
      have HOL := hide (ownRow_len n1 Rk)
      have HON := hide (ownRow_next n1 Rk)
      generalize hq : min n1 12 = q at *
      clear hq
      generalize ownRow n1 Rk = row at *
      obtain ⟨wo, hwo⟩ : ∃ wo : World, wo = wr := ⟨_, rfl⟩
      rw [← hwo] at HM hbel hszr ⊢
      clear hwo
      go_loopw [6, 33] (fun v i wr => ∃ j : Nat, j ≤ q ∧ i = .int .i64 j ∧ wr.ownsRow wo.heap.size 92 3 v j (lcCells (row.take j)) ∧ Below wo.heap.size wo wr) (fun _ i _ => q - (intOf i).toNat)
      case atStart => exact ⟨0, Nat.zero_le _, rfl, own_none _ _ _ _, Below.refl _ _⟩
      case round =>
        obtain ⟨j, hj, rfl, hown, hbi⟩ := hrel
        have HW := hide hown
        have hsz2 := hbi.size
        clear hown
        obtain ⟨v2, hv⟩ : ∃ v, v = u6 := ⟨_, rfl⟩
        rw [← hv] at HW ⊢
        clear hv
        have hbw := hbel.trans (hbi.mono hszr)
        by_cases hjl : j < q
        · obtain ⟨g2, off2, rfl, hg2, hc3⟩ := HF3.out j (by omega)
          have d0 := (hbw.cell (p := ⟨g2, off2 + j * 3 + 0, none⟩) hg2).trans (hc3 0 (by omega))
          have d1 := (hbw.cell (p := ⟨g2, off2 + j * 3 + 1, none⟩) hg2).trans (hc3 1 (by omega))
          have d2 := (hbw.cell (p := ⟨g2, off2 + j * 3 + 2, none⟩) hg2).trans (hc3 2 (by omega))
          rw [Nat.add_zero] at d0
          have MS := hide (show lcCells (row.take (j + 1)) = lcCells (row.take j) ++ [.int .i64 (IntKind.i16.wrap (Rk j 0)), .int .i64 (IntKind.i16.wrap (Rk j 1)), .int .i64 (Rk j 2 % 256 % 5 + 1)] from by rw [HON.out j hjl, lcCells_snoc]; rfl)
          generalize Rk j 0 = x0 at *
          generalize Rk j 1 = x1 at *
          generalize Rk j 2 = x2 at *
          have HBX := Blk.new (wr.alloc (.cells #[.int .i64 x0, .int .i64 x1, .int .i64 x2] 92)) 92 #[.int .i64 (IntKind.i16.wrap x0), .int .i64 (IntKind.i16.wrap x1), .int .i64 (x2 % 256 % 5 + 1)]
          have hsA : (wr.alloc (.cells #[.int .i64 x0, .int .i64 x1, .int .i64 x2] 92)).heap.size = wr.heap.size + 1 := by simp
          rw [hsA] at HBX
          have HBX2 := hide HBX
          have HVA := hide ((HW.out.alloc (.cells #[.int .i64 x0, .int .i64 x1, .int .i64 x2] 92)).alloc (.cells #[.int .i64 (IntKind.i16.wrap x0), .int .i64 (IntKind.i16.wrap x1), .int .i64 (x2 % 256 % 5 + 1)] 92))
          have HBL := hide ((hbi.alloc hsz2 (.cells #[.int .i64 x0, .int .i64 x1, .int .i64 x2] 92)).alloc (by rw [hsA]; omega) (.cells #[.int .i64 (IntKind.i16.wrap x0), .int .i64 (IntKind.i16.wrap x1), .int .i64 (x2 % 256 % 5 + 1)] 92))
          have hb0 := wi16t x0
          have hb1 := wi16t x1
          clear HBX hsA hc3 hbw
          go_wp2_with (first | (at_builtin; refine wpList_app1 rfl (.tmp 37) (.tmp 53) _ rfl wo.heap.size 92 _ 3 24 Try.underlying90 lc_info rfl (Nat.succ_pos _) _ j _ rfl HVA.out (wr.heap.size + 1) 1 _ HBX2.out rfl rfl rfl (by omega) (Nat.le_of_ble_eq_true rfl) HBL.out.size ?_; intro v4 w4 hown4 hg4; have hb9 := own_below HVA.out HBL.out (Nat.le_refl _) (Nat.le_refl _) hg4) | fail)
          go_roundw
          case rel => exact ⟨j + 1, by omega, by go_num, by rw [MS.out]; exact hown4, hb9⟩
          case measure => simp [intOf]; omega
        · obtain rfl : j = q := by omega
          have hW2 := HW.out
          rw [List.take_of_length_le (by have := HOL.out; omega)] at hW2
          obtain ⟨A2, c2, rfl, _, _⟩ := own_reads hW2
          have HM1 := hide ((HM.out.below hbi).below ((Below.refl wr.heap.size wr).alloc (Nat.le_refl _) (.cells #[.slice A2 j c2] 90)))
          have HW3 := hide (own_mono (hW2.alloc (.cells #[.slice A2 j c2] 90)) hszr)
          have HBX := hide (Blk.new wr 90 #[.slice A2 j c2])
          have HBL := hide (hbw.alloc hbw.size (.cells #[.slice A2 j c2] 90))
          have hk1 : k ≤ 1000000 := by omega
          have HOL2 := hide (show j = (rowAt rows k).length from by rw [HA.out]; exact HOL.out.symm)
          rw [← HA.out] at HW3
          clear hW2 HM HW HON HF3 hbi hbw hbel
          go_wp2_with (first | (at_builtin; refine wpList_app1 rfl (.tmp 56) (.tmp 58) _ rfl w.heap.size 90 _ 1 24 Try.underlying89 lcs_info rfl (Nat.succ_pos _) _ k _ rfl HM1.out.outer wr.heap.size 1 _ HBX.out rfl rfl rfl hk1 (Nat.le_of_ble_eq_true rfl) HBL.out.size ?_; intro v4 w4 hown4 hg4; have HN := hide (HM1.out.next (hd := (A2, j, c2)) (by decide) HOL2.out (by rw [← HOL2.out]; exact HW3.out) hg4 hown4); have hb9 := own_below HM1.out.outer HBL.out (Nat.le_refl _) (Nat.le_refl _) hg4; clear hown4 hg4) | fail)
          go_roundw
          case rel => exact ⟨k + 1, by omega, by go_num, _, HN, hb9⟩
          case measure => simp [intOf]; omega
    · obtain rfl : k = m := by omega
      obtain ⟨A2, c2, rfl, _, _⟩ := own_reads HM.out.outer
      obtain rfl := HLN.out
      have HRW := hide (HM.out.rowsAt rfl)
      obtain ⟨many, hmany⟩ : ∃ k : Nat, manyOf rows = k := ⟨(manyOf rows).toNat, by have := manyOf_nonneg rows; omega⟩
      have hm60 : many ≤ 60 := by have := manyOf_le rows HOK.out; omega
      have hce := cells_any A2 c2 G rows wr.heap.size wr (Nat.le_refl _) hn2 HOK.out HRW.out
      rw [hmany] at hce
      have hall := allCes_ok rows HOK.out
      rw [hmany, Int.toNat_natCast] at hall
      have hln := allCes_len rows 12 fun r hr => (HOK.out r hr).1
      have hln2 := Nat.mul_le_mul_right 12 hn2
      have HCOL := hide (columns_any (.slice A2 rows.length c2) (allCes rows) many wr hm60 (by omega) (fun h => by have := manyOf_nil rows h; omega) hall hce)
      have HMANY := hide hmany
      clear HM hmany hce hall hln hln2 HLN HAT HR
      go_wp2_with fail
      refine HCOL.out.mono ?_
      clear HCOL
      rintro e w1 ⟨p, q, L, M, rfl, hP, hQ, hLl, hMl, hLM, hmet, hb1⟩
      have b1 := below_then hbel (Nat.le_refl _) hb1
      have HP := hide hP
      have HQ := hide hQ
      have HLM := hide hLM
      have HMET := hide hmet
      have HRW1 := hide (HRW.out.below hb1)
      clear hP hQ hLM hmet HRW hbel hszr
      go_wp2_with fail
      refine (tabled_any w1).mono ?_
      rintro e w2 ⟨rfl, hb2⟩
      have b2 := below_then b1 (Nat.le_refl _) hb2
      have HP2 := hide (HP.out.below hb2 HP.out.lt)
      have HQ2 := hide (HQ.out.below hb2 HQ.out.lt)
      have HRW2 := hide (HRW1.out.below (hb2.mono hb1.size))
      have hz12 := hb2.size
      clear HP HQ HRW1 hb2 b1
      go_wp2_with fail
      have HSP := hide (fun i j hi hj => spans_at rows L M many HOK.out HMET.out HMANY.out i j hi hj)
      have hz2 := HRW2.out
      have hB2 : wr.heap.size ≤ w2.heap.size := Nat.le_trans hb1.size hz12
      clear hb1 HMET HMANY
      obtain ⟨B, hB⟩ : ∃ B, B = wr.heap.size := ⟨_, rfl⟩
      rw [← hB] at HRW2 hB2
      clear hB hz2
      have B22 := Below.refl w2.heap.size w2
      go_loopw [77] (fun i wr => ∃ k : Nat, k ≤ rows.length ∧ i = .int .i64 k ∧ Below w2.heap.size w2 wr) (fun i _ => rows.length - (intOf i).toNat)
      case atStart => exact ⟨0, Nat.zero_le _, rfl, B22⟩
      case round =>
        obtain ⟨k, hk, rfl, hbel⟩ := hrel
        clear B22
        by_cases hlt : k < rows.length
        · obtain ⟨g, off, rfl, hg, hcell0⟩ := (HRW2.out.below (hbel.mono hB2)).outer k hlt
          have hlen := HRW2.out.len k hlt
          have HIN := hide (HRW2.out.inner k hlt)
          generalize G k = hd at *
          obtain ⟨A1, n1, c1⟩ := hd
          simp only at hlen
          subst hlen
          have hcell : wr.cell? ⟨g, off + k, none⟩ = some (.slice A1 (rowAt rows k).length c1) := hcell0
          have hl12 : (rowAt rows k).length ≤ 12 := by rw [rowAt_of rows k hlt]; exact (HOK.out _ (List.getElem_mem hlt)).1
          clear hcell0
          go_wp2_with fail
          clear hcell
          have H0 := hide (show atS rows k 0 = 0 from by simp [atS, spanSum])
          go_loopw [13, 83] (fun at_ i wr => ∃ j : Nat, j ≤ (rowAt rows k).length ∧ i = .int .i64 j ∧ at_ = .int .i64 (atS rows k j) ∧ Below w2.heap.size w2 wr) (fun _ i _ => (rowAt rows k).length - (intOf i).toNat)
          case atStart => exact ⟨0, Nat.zero_le _, rfl, by rw [H0.out], hbel⟩
          case round =>
            obtain ⟨j, hj, rfl, rfl, hbel2⟩ := hrel
            clear hbel
            by_cases hjl : j < (rowAt rows k).length
            · obtain ⟨g2, off2, rfl, hg2, hc3⟩ := (HIN.out.below (hbel2.mono hB2)) j hjl
              obtain ⟨a, nn, e1, e2, n1', n5, han, hs1, hs2⟩ := HSP.out k j hlt hjl
              have HAN := hide (atS_next rows k j hjl)
              have d0 : wr.cell? ⟨g2, off2 + j * 3, none⟩ = some (.int .i64 (lcAt (rowAt rows k) j).l) := hc3 0 (by omega)
              have d1 : wr.cell? ⟨g2, off2 + j * 3 + 1, none⟩ = some (.int .i64 (lcAt (rowAt rows k) j).m) := hc3 1 (by omega)
              have d2 : wr.cell? ⟨g2, off2 + j * 3 + 2, none⟩ = some (.int .i64 (lcAt (rowAt rows k) j).s) := hc3 2 (by omega)
              clear hc3
              rw [e2] at d2
              rw [e2, e1] at HAN
              rw [e1]
              generalize (lcAt (rowAt rows k) j).l = l at *
              generalize (lcAt (rowAt rows k) j).m = m at *
              clear e1 e2
              have RL := hide (reads_seg (L := L) (a := a) (n := nn) ((HP2.out.below hbel2 HP2.out.lt).alloc (.cells #[.int .i64 l, .int .i64 m, .int .i64 nn] 92)) (by omega))
              have RM := hide (reads_seg (L := M) (a := a) (n := nn) ((HQ2.out.below hbel2 HQ2.out.lt).alloc (.cells #[.int .i64 l, .int .i64 m, .int .i64 nn] 92)) (by omega))
              have q0 := (Blk.new wr 92 #[.int .i64 l, .int .i64 m, .int .i64 nn]).cell 0
              have q1 := (Blk.new wr 92 #[.int .i64 l, .int .i64 m, .int .i64 nn]).cell 1
              have q2 := (Blk.new wr 92 #[.int .i64 l, .int .i64 m, .int .i64 nn]).cell 2
              have BX := hbel2.alloc hbel2.size (.cells #[.int .i64 l, .int .i64 m, .int .i64 nn] 92)
              go_wp2_with fail
              generalize wr.alloc (.cells #[.int .i64 l, .int .i64 m, .int .i64 nn] 92) = wA at *
              generalize wr.heap.size = bx at *
              have HSL : ∀ x, (Calls Try.prog 33 #[.slice (some ⟨p, a, none⟩) nn (many - a)] (wA.drewN x) fun e w' => e = .returned (.int .i64 (segs L a nn)) ∧ wA.drewN x = w') := fun x => (by
                have := sum_any (some ⟨p, a, none⟩) nn (many - a) (seg L a nn) _ (wA.drewN x) (RL.out.drewN x) (by omega) (fun i hi => by
                  rw [psum_seg (by omega) hi]
                  have h1 := segs_nonneg (fun k => (HLM.out k).1) a i
                  have h2 := segs_bd (L := L) (B := 32767) (fun k => by have := HLM.out k; omega) a i
                  have h3 : (i : Int) * 32767 ≤ 5 * 32767 := Int.mul_le_mul_of_nonneg_right (by omega) (by omega)
                  omega)
                rwa [seg_sum (by omega)] at this)
              have HSM : ∀ x, (Calls Try.prog 33 #[.slice (some ⟨q, a, none⟩) nn (many - a)] (wA.drewN x) fun e w' => e = .returned (.int .i64 (segs M a nn)) ∧ wA.drewN x = w') := fun x => (by
                have := sum_any (some ⟨q, a, none⟩) nn (many - a) (seg M a nn) _ (wA.drewN x) (RM.out.drewN x) (by omega) (fun i hi => by
                  rw [psum_seg (by omega) hi]
                  have h1 := segs_nonneg (L := M) (fun k => by have := HLM.out k; omega) a i
                  have h2 := segs_bd (L := M) (B := 32767) (fun k => (HLM.out k).2.2) a i
                  have h3 : (i : Int) * 32767 ≤ 5 * 32767 := Int.mul_le_mul_of_nonneg_right (by omega) (by omega)
                  omega)
                rwa [seg_sum (by omega)] at this)
              have HSL2 := hide HSL
              have HSM2 := hide HSM
              clear HSL HSM RL RM d0 d1 d2
              generalize segs L a nn = sl at *
              generalize segs M a nn = sm at *
              have z0 : decide ((many : Int) < (a : Int) + nn) = false := decide_eq_false (by omega)
              have z1 : decide (sl < l) = false := decide_eq_false (by omega)
              have z2 : decide (sm < max l m) = false := decide_eq_false (by omega)
              have w1 : IntKind.i64.wrap ((a : Int) + nn) = a + nn := IntWalk.i64_in _ (by omega)
              have f1 : (0 : Int) ≤ (a : Int) + nn := by omega
              have f2 : ((a : Int) + nn).toNat = a + nn := by omega
              have f3 : ¬ many = a := by omega
              have f4 : a ≤ a + nn := by omega
              have f5 : a + nn - a = nn := by omega
              have f6 : a + nn ≤ many := han
              clear hs1 hs2 han
              go_quiet ((first | (go_at_call 33; with_reducible exact quiet_left (HSL2.out _)) | (go_at_call 33; with_reducible exact quiet_left (HSM2.out _))))
              clear HSL2 HSM2 z0 z1 z2 f1 f2 f3 f4 f5 f6
              go_wp2_with fail
              go_roundw
              case rel => exact ⟨j + 1, by omega, by go_num, by rw [HAN.out], below_drewN BX _⟩
              case measure => simp only [intOf]; omega
            · obtain rfl : j = (rowAt rows k).length := by omega
              obtain ⟨am, ham⟩ : ∃ x, atS rows k (rowAt rows k).length = x := ⟨_, rfl⟩
              rw [ham]
              clear ham
              go_wp2_with fail
              go_roundw
              case rel => exact ⟨k + 1, by omega, by go_num, hbel2⟩
              case measure => simp only [intOf]; omega
        · clear HSP HRW2
          go_wp2_with fail
          go_loopw [131] (fun i wr => ∃ k : Nat, k ≤ many ∧ i = .int .i64 k ∧ Below w2.heap.size w2 wr) (fun i _ => many - (intOf i).toNat)
          case atStart => exact ⟨0, Nat.zero_le _, rfl, hbel⟩
          case round =>
            clear hbel
            obtain ⟨i, hi, rfl, hbel⟩ := hrel
            by_cases hil : i < many
            · have s1 : wr.cell? ⟨p, i, none⟩ = some (.int .i64 (at0 L i)) := by rw [(HP2.out.below hbel HP2.out.lt).cell i, intsA_at _ _ (by omega)]
              have s2 : wr.cell? ⟨q, i, none⟩ = some (.int .i64 (at0 M i)) := by rw [(HQ2.out.below hbel HQ2.out.lt).cell i, intsA_at _ _ (by omega)]
              obtain ⟨b1, b3, b4⟩ := HLM.out i
              generalize at0 L i = x at *
              generalize at0 M i = y at *
              have z1 : decide (x < 0) = false := decide_eq_false (by omega)
              have z2 : decide (y < x) = false := decide_eq_false (by omega)
              clear b1 b3 b4
              go_wp2_with fail
              go_quiet (fail)
              clear s1 s2 z1 z2
              go_wp2_with fail
              go_roundw
              case rel => exact ⟨i + 1, by omega, by go_num, below_drewN hbel _⟩
              case measure => simp only [intOf]; omega
            · go_wp2_with fail
              go_ret
              exact ⟨rfl, b2.trans (hbel.mono b2.size)⟩
end Go.Proofs.Ytadlabndbomgmaa
