/- The walk of LinesFit. -/
import Derived.BigQuiet
import Derived.Handy
import Derived.IntWalk
import Derived.RegionTactic
import Derived.Deep.MidRow
import Derived.Deep.CutBlock
import Derived.Test.YtadlabndbomgmaaJ6
import Derived.Test.YtadlabndbomgmaaJ2
import Derived.Test.YtadlabndbomgmaaJBrkSmall2
import Derived.Test.YtadlabndbomgmaaJ1
set_option linter.unusedVariables false
set_option linter.unusedSimpArgs false
namespace Go.Proofs.Ytadlabndbomgmaa
open Go.ChangeShapes Go.WideShapes Go.ChangeAt Go.RowKit
theorem trim_sp (l : List UInt8) : Lib.trimSuffix l [32] = spTrim l := by
  unfold Lib.trimSuffix spTrim
  by_cases h : l.getLast? = some 32
  · have h1 : Lib.hasSuffix l [32] = true := by
      have h2 := last_split h
      unfold Lib.hasSuffix
      rw [List.isSuffixOf_iff_suffix]
      exact ⟨_, h2.symm⟩
    rw [if_pos h1, if_pos h, List.dropLast_eq_take]; rfl
  · have h1 : ¬ Lib.hasSuffix l [32] = true := fun e => h (by
      unfold Lib.hasSuffix at e
      rw [List.isSuffixOf_iff_suffix] at e
      obtain ⟨m, hm⟩ := e
      rw [← hm]; simp)
    rw [if_neg h1, if_neg h]
theorem col_tidy (s : ByteArray) (h : s.size ≤ 200) : (bytesStr (colS 0 s.data.toList true)).size ≤ 200 ∧ Tidy true (bytesStr (colS 0 s.data.toList true)).data.toList := by
  have h1 := colS_len 0 s.data.toList true
  rw [size_eq] at h1
  refine ⟨by rw [bytesStr_size]; omega, ?_⟩
  rw [bytesStr_data]
  exact (wfold_tidy s.data.toList true).1
def pcTo (l : List Pc) (k : Nat) : List UInt8 := pcBytes (l.take k)
theorem pcTo_succ (l : List Pc) (k : Nat) (h : k < l.length) : pcTo l (k + 1) = pcTo l k ++ (pcAt l k).t.data.toList := by
  unfold pcTo pcBytes
  rw [List.take_succ_eq_append_getElem h, List.map_append, List.flatten_append, pcAt_of l k h]
  simp
theorem next_text (t : ByteArray) (h : t.size ≤ 200) : ∃ nx : ByteArray, (⟨(Lib.trimSuffix t.data.toList (⟨#[32]⟩ : ByteArray).data.toList).toArray⟩ : ByteArray) = nx ∧ nx.data.toList = spTrim t.data.toList ∧ nx.size ≤ 200 := by
  refine ⟨_, rfl, trim_sp _, ?_⟩
  have h1 : (⟨(Lib.trimSuffix t.data.toList (⟨#[32]⟩ : ByteArray).data.toList).toArray⟩ : ByteArray).size = (spTrim t.data.toList).length := by
    rw [← trim_sp]; rfl
  rw [h1]
  have h2 := (spTrim_pre t.data.toList).length_le
  rw [size_eq] at h2
  omega
theorem fit_words {st nx : ByteArray} {a b : List UInt8} {W z : Int} (h1 : st.data.toList = a) (h2 : nx.data.toList = b) (h : W < widthF z 0 (runesL (a ++ b)) ∨ W < widthF z 0 (runesL (a ++ [32] ++ b))) :
    W < widthF z 0 (runesL (st ++ nx).data.toList) ∨ W < widthF z 0 (runesL (st ++ ⟨#[32]⟩ ++ nx).data.toList) := by
  subst h1 h2
  have e1 : (st ++ nx).data.toList = st.data.toList ++ nx.data.toList := by simp [ByteArray.data_append]
  have e2 : (st ++ ⟨#[32]⟩ ++ nx).data.toList = st.data.toList ++ [32] ++ nx.data.toList := by simp [ByteArray.data_append]
  rw [e1, e2]; exact h
set_option maxRecDepth 100000 in
set_option maxHeartbeats 40000000 in
theorem linesFit_any (s : ByteArray) (width size : Int) (w : World) (hs : s.size ≤ maxLen) :
    Calls Try.prog 23 #[.string s, .int .i64 width, .int .i64 size] w fun e w' => e = .returned (.bool true) ∧ Below w.heap.size w w' := by
  unfold maxLen at hs
  go_enter Try.func23, Try.ntmps23
  have h1 := tu16 width
  go_wp2_with fail
  refine (lined_any _).mono ?_
  rintro e w0 ⟨rfl, hb0⟩
  go_wp2_with fail
  have hs1 : (s.extract 0 (min (s.size : Int) 200).toNat).size ≤ 200 := by rw [ByteArray.size_extract]; omega
  have hz : 0 ≤ size % 256 ∧ size % 256 ≤ 255 := by omega
  generalize s.extract 0 (min (s.size : Int) 200).toNat = s1 at *
  generalize IntKind.u16.wrap width = W at *
  generalize size % 256 = z at *
  refine (collapse_any s1 0 true _ (by omega)).mono ?_
  rintro e w1 ⟨rfl, hb1⟩
  obtain ⟨ht1, ht2⟩ := col_tidy s1 hs1
  generalize bytesStr (colS 0 s1.data.toList true) = t at *
  generalize colB 0 s1.data.toList true = tb at *
  have b1 := below_on hb0 hb1
  clear hb0 hb1
  have hFIT := hide (fun i hi => fit_out t z ht1 hz ht2 z 10 0 W h1.1 h1.2 (breakF [oneIt t z] z 10 0 W 0) rfl i hi)
  have hSML := hide (fun i hi => pcs_small t z ht1 hz ht2 z 10 0 0 W (breakF [oneIt t z] z 10 0 W 0) rfl i hi)
  have hLEN := out_small t z ht1 hz ht2 z 10 0 0 W (breakF [oneIt t z] z 10 0 W 0) rfl
  have hBRK := hide (fun g fp B c w hI hg hf hB => break_text t z 0 W ht1 hz h1 g fp B c w hI hg hf hB)
  clear ht2
  generalize breakF [oneIt t z] z 10 0 W 0 = out at *
  go_wp2_with fail
  have BX := Blk.new w1 100 #[.int .i64 1, .int .i64 0, .string t, .int .i64 z, .int .i64 0, .int .i64 10, .int .i64 0, .int .i64 0, .int .i64 0, .int .i64 0, .int .i64 0]
  have bX := b1.alloc b1.size (.cells #[.int .i64 1, .int .i64 0, .string t, .int .i64 z, .int .i64 0, .int .i64 10, .int .i64 0, .int .i64 0, .int .i64 0, .int .i64 0, .int .i64 0] 100)
  generalize hwx : w1.alloc (.cells #[.int .i64 1, .int .i64 0, .string t, .int .i64 z, .int .i64 0, .int .i64 10, .int .i64 0, .int .i64 0, .int .i64 0, .int .i64 0, .int .i64 0] 100) = wx at *
  clear hwx
  go_cut [8] from 42 (fun v wy => LinesAt wy 0 v out ∧ Below w.heap.size w wy)
  case first =>
    have c0 := BX.cell 0
    have c1 := BX.cell 1
    have c2 := BX.cell 2
    have c3 := BX.cell 3
    have c4 := BX.cell 4
    have c5 := BX.cell 5
    have c6 := BX.cell 6
    have c7 := BX.cell 7
    have c8 := BX.cell 8
    have c9 := BX.cell 9
    have c10 := BX.cell 10
    clear hFIT hSML
    have HLT := hide BX.lt
    have HCW := hide (cutW W h1)
    have HSZ := hide (show (wx.alloc (.cells #[.int .i64 1, .int .i64 0, .string t, .int .i64 z, .int .i64 0, .int .i64 10, .int .i64 0, .int .i64 0, .int .i64 0, .int .i64 0, .int .i64 0] 100)).drew.heap.size = wx.heap.size + 1 from by simp [World.drew])
    have HLE := hide (show w.heap.size ≤ wx.heap.size + 1 from Nat.le_trans bX.size (Nat.le_succ _))
    have HB1 := hide (show Below w.heap.size w (wx.alloc (.cells #[.int .i64 1, .int .i64 0, .string t, .int .i64 z, .int .i64 0, .int .i64 10, .int .i64 0, .int .i64 0, .int .i64 0, .int .i64 0, .int .i64 0] 100)).drew from Below.drew (bX.alloc bX.size (.cells #[.int .i64 1, .int .i64 0, .string t, .int .i64 z, .int .i64 0, .int .i64 10, .int .i64 0, .int .i64 0, .int .i64 0, .int .i64 0, .int .i64 0] 100)))
    have HBX := hide (show Below w.heap.size w wx.drew from Below.drew bX)
    have HI1 := hide (show ItsR (wx.alloc (.cells #[.int .i64 1, .int .i64 0, .string t, .int .i64 z, .int .i64 0, .int .i64 10, .int .i64 0, .int .i64 0, .int .i64 0, .int .i64 0, .int .i64 0] 100)) wx.heap.size [oneIt t z] from oneIt_blk (Blk.new wx _ _))
    clear BX bX
    go_region_with (first
      | (go_at_call 34; refine (New_blk _ _).mono ?_; rintro e wn ⟨rfl, hF, hbn⟩; rw [HCW.out] at hF; have r0 : wn.cell? ⟨w1.heap.size, 0, none⟩ = some (.int .i64 1) := (hbn.cell (p := ⟨w1.heap.size, 0, none⟩) HLT.out).trans c0; have r1 : wn.cell? ⟨w1.heap.size, 1, none⟩ = some (.int .i64 0) := (hbn.cell (p := ⟨w1.heap.size, 1, none⟩) HLT.out).trans c1; have r2 : wn.cell? ⟨w1.heap.size, 2, none⟩ = some (.string t) := (hbn.cell (p := ⟨w1.heap.size, 2, none⟩) HLT.out).trans c2; have r3 : wn.cell? ⟨w1.heap.size, 3, none⟩ = some (.int .i64 z) := (hbn.cell (p := ⟨w1.heap.size, 3, none⟩) HLT.out).trans c3; have r4 : wn.cell? ⟨w1.heap.size, 4, none⟩ = some (.int .i64 0) := (hbn.cell (p := ⟨w1.heap.size, 4, none⟩) HLT.out).trans c4; have r5 : wn.cell? ⟨w1.heap.size, 5, none⟩ = some (.int .i64 10) := (hbn.cell (p := ⟨w1.heap.size, 5, none⟩) HLT.out).trans c5; have r6 : wn.cell? ⟨w1.heap.size, 6, none⟩ = some (.int .i64 0) := (hbn.cell (p := ⟨w1.heap.size, 6, none⟩) HLT.out).trans c6; have r7 : wn.cell? ⟨w1.heap.size, 7, none⟩ = some (.int .i64 0) := (hbn.cell (p := ⟨w1.heap.size, 7, none⟩) HLT.out).trans c7; have r8 : wn.cell? ⟨w1.heap.size, 8, none⟩ = some (.int .i64 0) := (hbn.cell (p := ⟨w1.heap.size, 8, none⟩) HLT.out).trans c8; have r9 : wn.cell? ⟨w1.heap.size, 9, none⟩ = some (.int .i64 0) := (hbn.cell (p := ⟨w1.heap.size, 9, none⟩) HLT.out).trans c9; have r10 : wn.cell? ⟨w1.heap.size, 10, none⟩ = some (.int .i64 0) := (hbn.cell (p := ⟨w1.heap.size, 10, none⟩) HLT.out).trans c10; have hbm : Below wx.heap.size wx.drew wn := hbn; have hF2 := hide hF; clear hF)
      | (go_at_call 34; refine (New_blk _ _).mono ?_; rintro e wn ⟨rfl, hF, hbn⟩; rw [HCW.out, HSZ.out] at hF; have hF1 := hide hF; have hbm := hbn; rw [HSZ.out] at hbm; clear hF)
      | (go_at_call 66; refine (hBRK.out wx.heap.size _ w.heap.size 1 _ (ItsR.below (w := (wx.alloc (.cells #[.int .i64 1, .int .i64 0, .string t, .int .i64 z, .int .i64 0, .int .i64 10, .int .i64 0, .int .i64 0, .int .i64 0, .int .i64 0, .int .i64 0] 100)).drew) HI1.out hbn) (Nat.ne_of_lt (Nat.lt_succ_self _)) hF1.out HLE.out).mono ?_; rintro e w' ⟨v, rfl, hl, hb⟩; have hB9 : Below w.heap.size w w' := HB1.out.trans ((hbm.mono HLE.out).trans hb))
      | (go_at_call 66; refine (hBRK.out wn.heap.size wx.heap.size w.heap.size 1 _ (oneIt_blk (Blk.new wn _ _)) (Nat.ne_of_gt hF2.out.lt) (hF2.out.below ((Below.refl wn.heap.size wn).alloc (Nat.le_refl _) (.cells #[.int .i64 1, .int .i64 0, .string t, .int .i64 z, .int .i64 0, .int .i64 10, .int .i64 0, .int .i64 0, .int .i64 0, .int .i64 0, .int .i64 0] 100)) hF2.out.lt) HBX.out.size).mono ?_; rintro e w' ⟨v, rfl, hl, hb⟩; have hB9 : Below w.heap.size w w' := HBX.out.trans ((hbm.mono HBX.out.size).trans (((Below.refl wn.heap.size wn).alloc (Nat.le_refl _) (.cells #[.int .i64 1, .int .i64 0, .string t, .int .i64 z, .int .i64 0, .int .i64 10, .int .i64 0, .int .i64 0, .int .i64 0, .int .i64 0, .int .i64 0] 100)).mono (Nat.le_trans HBX.out.size hbm.size) |>.trans hb))))
    all_goals
      go_wp2_with fail
      go_meet
      case rel => exact ⟨hl, hB9⟩
  case rest =>
    obtain ⟨hl, hb3⟩ := hcut
    clear BX bX hBRK b1
    have hform := hide (fun h0 => hl.form h0)
    obtain ⟨A3, c3, rfl⟩ := hl.slice
    clear hl
    have Bi := Below.refl wc.heap.size wc
    go_wp2_with fail
    go_loopw [44] (fun i wr => ∃ k : Nat, k ≤ out.length ∧ i = .int .i64 k ∧ Below wc.heap.size wc wr) (fun i _ => out.length - (intOf i).toNat)
    case atStart => exact ⟨0, Nat.zero_le _, rfl, Bi⟩
    case round =>
      clear Bi
      obtain ⟨k, hk, rfl, hbel⟩ := hrel
      by_cases hlt : k < out.length
      · obtain ⟨q, cq, hv, hq, hc⟩ := hform.out (by omega)
        obtain rfl : A3 = some ⟨q, 0, none⟩ := by injection hv
        clear hv
        obtain ⟨hf1, hf2⟩ := hFIT.out k hlt
        obtain ⟨hp1, hp2, hp3⟩ := hSML.out k hlt
        rw [← lnAt_of out k hlt] at hf1 hf2 hp1 hp2 hp3
        obtain ⟨pv, d0, d1, d2, d3, d4, d5, d6, ho⟩ := hc k hlt
        have tr : ∀ {j : Nat} {v : Value}, wc.cell? ⟨q, j, none⟩ = some v → wr.cell? ⟨q, j, none⟩ = some v := fun h => (hbel.cell (p := ⟨q, _, none⟩) hq).trans h
        have e0 := tr d0
        have e1 := tr d1
        have e2 := tr d2
        have e3 := tr d3
        have e4 := tr d4
        have e5 := tr d5
        have e6 := tr d6
        obtain ⟨qp, cp, rfl, hqp, hpc⟩ := pcs_form ho hp2
        have hsz := hbel.size
        have HF2 := hide hf2
        have HP3 := hide hp3
        have HPC := hide hpc
        have HC := hide hc
        have HTR := hide (fun j v => @tr j v)
        clear d0 d1 d2 d3 d4 d5 d6 ho hf2 hp3 hpc hc tr
        generalize lnAt out k = ln at *
        obtain ⟨lx, ly, lw, lh, lb, lp, ll⟩ := ln
        simp only at hf1 hp1 hp2 e0 e1 e2 e3 e4 e5 e6
        obtain ⟨np, hnp⟩ : ∃ np, lp.length = np := ⟨_, rfl⟩
        have HNP := hide hnp
        rw [hnp] at hf1 hp1 hp2 e5
        clear hnp
        have hbA := hbel.alloc hsz (.cells #[.int .i64 lx, .int .i64 ly, .int .i64 lw, .int .i64 lh, .int .i64 lb, .slice (some ⟨qp, 0, none⟩) np cp, .bool ll] 108)
        generalize wr = wo at *
        by_cases hl : k + 1 < out.length
        · obtain ⟨pv2, _, _, _, _, _, g5, _, ho2⟩ := HC.out (k + 1) hl
          obtain ⟨pc2, pr2, hpcs, hfit⟩ := HF2.out hl
          rw [lnAt_of out (k + 1) hl] at ho2
          rw [hpcs] at ho2
          obtain ⟨qp2, cp2, rfl, hqp2, hpc2⟩ := pcs_form ho2 (Nat.succ_pos _)
          have g3 : wc.cell? ⟨qp2, 3, none⟩ = some (.string pc2.t) := (hpc2 0 (Nat.succ_pos _)).2.2.2
          have hsm2 := (hSML.out (k + 1) hl).2.2 pc2 (by rw [hpcs]; simp)
          have f5 := (hbA.cell (p := ⟨q, (k + 1) * 7 + 5, none⟩) hq).trans g5
          have G5 := hide g5
          have G3 := hide g3
          have HFIT2 := hide hfit
          clear g5 g3 hfit hpc2 ho2
          by_cases hW : lw ≤ W
          · have hW2 : ¬ W < lw := by omega
            have hnp := HNP.out
            go_wp2_with fail
            go_loopw [11, 77] (fun v i Wd => ∃ (j : Nat) (st : ByteArray), j ≤ np ∧ i = .int .i64 j ∧ v = .string st ∧ st.data.toList = pcTo lp j ∧ st.size ≤ 200 * j ∧ Below wc.heap.size wc Wd) (fun _ i _ => np - (intOf i).toNat)
            case atStart => exact ⟨0, ByteArray.empty, Nat.zero_le _, rfl, rfl, rfl, Nat.zero_le _, hbA⟩
            case round =>
              clear hbA
              obtain ⟨j, st, hj, rfl, rfl, hst, hsz2, hbi⟩ := hrel
              by_cases hjl : j < np
              · obtain ⟨p0, p1, p2, p3⟩ := HPC.out j (by omega)
                have hts := HP3.out (pcAt lp j) (by rw [pcAt_of lp j (by omega)]; exact List.getElem_mem _)
                have HS := hide (pcTo_succ lp j (by omega))
                have r0 := (hbi.cell (p := ⟨qp, j * 4, none⟩) hqp).trans p0
                have r1 := (hbi.cell (p := ⟨qp, j * 4 + 1, none⟩) hqp).trans p1
                have r2 := (hbi.cell (p := ⟨qp, j * 4 + 2, none⟩) hqp).trans p2
                have r3 := (hbi.cell (p := ⟨qp, j * 4 + 3, none⟩) hqp).trans p3
                clear p0 p1 p2 p3
                generalize pcAt lp j = pc at *
                obtain ⟨pi, px, pw, pt⟩ := pc
                simp only at hts r0 r1 r2 r3
                have HST := hide hst
                clear hst
                have hbB := hbi.alloc hbi.size (.cells #[.int .i64 pi, .int .i64 px, .int .i64 pw, .string pt] 110)
                go_wp2_with fail
                go_roundw
                case rel => exact ⟨j + 1, st ++ pt, by omega, by go_num, rfl, by rw [HS.out, ← HST.out]; simp [ByteArray.data_append], by rw [ByteArray.size_append]; omega, hbB⟩
                case measure => simp only [intOf]; omega
              · have hpc : pcTo lp j = pcBytes lp := by unfold pcTo; rw [show j = lp.length by omega, List.take_length]
                obtain rfl : j = np := by omega
                rw [hpc] at hst
                clear f5 hpc e0 e1 e2 e3 e4 e5 e6
                have f5 := (hbi.cell (p := ⟨q, (k + 1) * 7 + 5, none⟩) hq).trans G5.out
                have f3 := (hbi.cell (p := ⟨qp2, 3, none⟩) hqp2).trans G3.out
                have hbS := hbi.size
                obtain ⟨nx, hnx, HN, hns⟩ := next_text pc2.t hsm2
                have HF3 := hide (fit_words hst HN HFIT2.out)
                have hs1 : (st ++ nx).size ≤ 100000 := by rw [ByteArray.size_append]; omega
                have hs2 : (st ++ ⟨#[32]⟩ ++ nx).size ≤ 100000 := by rw [ByteArray.size_append, ByteArray.size_append]; show st.size + 1 + nx.size ≤ 100000; omega
                obtain ⟨s3, hs3⟩ : ∃ s3 : ByteArray, st ++ ⟨#[32]⟩ ++ nx = s3 := ⟨_, rfl⟩
                rw [hs3] at hs2 HF3
                have HS3 := hide hs3
                clear hs3
                have HS1 := hide hs1
                have HS2 := hide hs2
                have HNX := hide hnx
                clear hs1 hs2 hnx HN hst
                go_wp2_with fail
                refine (Try.strings_TrimSuffix _ _ _ (by omega)).mono ?_
                rintro e w5 ⟨rfl, rfl⟩
                rw [HNX.out]
                go_wp2_with fail
                refine (Width_big (st ++ nx) z 0 _ HS1.out).mono ?_
                rintro e w6 ⟨rfl, hb6⟩
                have hb7 := below_then hbi (Nat.le_refl _) hb6
                have hf3 := HF3.out
                generalize widthF z 0 (runesL (st ++ nx).data.toList) = wa at *
                by_cases hwa : wa ≤ W
                · have hf4 := hf3.resolve_left (by omega)
                  go_wp2_with fail
                  rw [HS3.out]
                  refine (Width_big s3 z 0 _ HS2.out).mono ?_
                  rintro e w8 ⟨rfl, hb8⟩
                  have hb9 := below_then hb7 (Nat.le_refl _) hb8
                  generalize widthF z 0 (runesL s3.data.toList) = wb at *
                  have hwb : ¬ wb ≤ W := by omega
                  go_wp2_with fail
                  go_roundw
                  case rel => exact ⟨k + 1, by omega, by go_num, hb9⟩
                  case measure => simp only [intOf]; omega
                · go_wp2_with fail
                  go_roundw
                  case rel => exact ⟨k + 1, by omega, by go_num, hb7⟩
                  case measure => simp only [intOf]; omega
          · have hW2 : W < lw := by omega
            obtain rfl := hf1.resolve_left hW
            have hnp := HNP.out
            go_wp2_with fail
            go_loopw [11, 77] (fun v i Wd => ∃ (j : Nat) (st : ByteArray), j ≤ 1 ∧ i = .int .i64 j ∧ v = .string st ∧ st.data.toList = pcTo lp j ∧ st.size ≤ 200 * j ∧ Below wc.heap.size wc Wd) (fun _ i _ => 1 - (intOf i).toNat)
            case atStart => exact ⟨0, ByteArray.empty, Nat.zero_le _, rfl, rfl, rfl, Nat.zero_le _, hbA⟩
            case round =>
              clear hbA
              obtain ⟨j, st, hj, rfl, rfl, hst, hsz2, hbi⟩ := hrel
              by_cases hjl : j < 1
              · obtain ⟨p0, p1, p2, p3⟩ := HPC.out j (by omega)
                have hts := HP3.out (pcAt lp j) (by rw [pcAt_of lp j (by omega)]; exact List.getElem_mem _)
                have HS := hide (pcTo_succ lp j (by omega))
                have r0 := (hbi.cell (p := ⟨qp, j * 4, none⟩) hqp).trans p0
                have r1 := (hbi.cell (p := ⟨qp, j * 4 + 1, none⟩) hqp).trans p1
                have r2 := (hbi.cell (p := ⟨qp, j * 4 + 2, none⟩) hqp).trans p2
                have r3 := (hbi.cell (p := ⟨qp, j * 4 + 3, none⟩) hqp).trans p3
                clear p0 p1 p2 p3
                generalize pcAt lp j = pc at *
                obtain ⟨pi, px, pw, pt⟩ := pc
                simp only at hts r0 r1 r2 r3
                have HST := hide hst
                clear hst
                have hbB := hbi.alloc hbi.size (.cells #[.int .i64 pi, .int .i64 px, .int .i64 pw, .string pt] 110)
                go_wp2_with fail
                go_roundw
                case rel => exact ⟨j + 1, st ++ pt, by omega, by go_num, rfl, by rw [HS.out, ← HST.out]; simp [ByteArray.data_append], by rw [ByteArray.size_append]; omega, hbB⟩
                case measure => simp only [intOf]; omega
              · have hpc : pcTo lp j = pcBytes lp := by unfold pcTo; rw [show j = lp.length by omega, List.take_length]
                obtain rfl : j = 1 := by omega
                rw [hpc] at hst
                clear f5 hpc e0 e1 e2 e3 e4 e5 e6
                have f5 := (hbi.cell (p := ⟨q, (k + 1) * 7 + 5, none⟩) hq).trans G5.out
                have f3 := (hbi.cell (p := ⟨qp2, 3, none⟩) hqp2).trans G3.out
                have hbS := hbi.size
                obtain ⟨nx, hnx, HN, hns⟩ := next_text pc2.t hsm2
                have HF3 := hide (fit_words hst HN HFIT2.out)
                have hs1 : (st ++ nx).size ≤ 100000 := by rw [ByteArray.size_append]; omega
                have hs2 : (st ++ ⟨#[32]⟩ ++ nx).size ≤ 100000 := by rw [ByteArray.size_append, ByteArray.size_append]; show st.size + 1 + nx.size ≤ 100000; omega
                obtain ⟨s3, hs3⟩ : ∃ s3 : ByteArray, st ++ ⟨#[32]⟩ ++ nx = s3 := ⟨_, rfl⟩
                rw [hs3] at hs2 HF3
                have HS3 := hide hs3
                clear hs3
                have HS1 := hide hs1
                have HS2 := hide hs2
                have HNX := hide hnx
                clear hs1 hs2 hnx HN hst
                go_wp2_with fail
                refine (Try.strings_TrimSuffix _ _ _ (by omega)).mono ?_
                rintro e w5 ⟨rfl, rfl⟩
                rw [HNX.out]
                go_wp2_with fail
                refine (Width_big (st ++ nx) z 0 _ HS1.out).mono ?_
                rintro e w6 ⟨rfl, hb6⟩
                have hb7 := below_then hbi (Nat.le_refl _) hb6
                have hf3 := HF3.out
                generalize widthF z 0 (runesL (st ++ nx).data.toList) = wa at *
                by_cases hwa : wa ≤ W
                · have hf4 := hf3.resolve_left (by omega)
                  go_wp2_with fail
                  rw [HS3.out]
                  refine (Width_big s3 z 0 _ HS2.out).mono ?_
                  rintro e w8 ⟨rfl, hb8⟩
                  have hb9 := below_then hb7 (Nat.le_refl _) hb8
                  generalize widthF z 0 (runesL s3.data.toList) = wb at *
                  have hwb : ¬ wb ≤ W := by omega
                  go_wp2_with fail
                  go_roundw
                  case rel => exact ⟨k + 1, by omega, by go_num, hb9⟩
                  case measure => simp only [intOf]; omega
                · go_wp2_with fail
                  go_roundw
                  case rel => exact ⟨k + 1, by omega, by go_num, hb7⟩
                  case measure => simp only [intOf]; omega
        · have hk1 : k + 1 = out.length := by omega
          by_cases hW : lw ≤ W
          · have hW2 : ¬ W < lw := by omega
            go_wp2_with fail
            go_roundw
            case rel => exact ⟨k + 1, by omega, by go_num, hbA⟩
            case measure => simp only [intOf]; omega
          · have hW2 : W < lw := by omega
            obtain rfl := hf1.resolve_left hW
            go_wp2_with fail
            go_roundw
            case rel => exact ⟨k + 1, by omega, by go_num, hbA⟩
            case measure => simp only [intOf]; omega
      · obtain rfl : k = out.length := by omega
        have b4 := below_on hb3 hbel
        go_wp2_with fail
        go_ret
        exact ⟨rfl, b4⟩
end Go.Proofs.Ytadlabndbomgmaa
