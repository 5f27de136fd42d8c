/- The walk of LinesJustified. -/
import Derived.BigQuiet
import Derived.Handy
import Derived.IntWalk
import Derived.RegionTactic
import Derived.Deep.MidRow
import Derived.Test.YtadlabndbomgmaaJLinesFit
set_option linter.unusedVariables false
set_option linter.unusedSimpArgs false
namespace Go.Proofs.Ytadlabndbomgmaa
open Go.ChangeShapes Go.WideShapes Go.ChangeAt Go.RowKit
structure JustAt (W : Int) (a b : Ln) : Prop where
  len : a.pcs.length = b.pcs.length
  pcs : ∀ k, k < a.pcs.length → (pcAt b.pcs k).x ≤ (pcAt a.pcs k).x ∧ (pcAt a.pcs k).t = (pcAt b.pcs k).t
  full : a.last = false → (∃ k, k + 1 < a.pcs.length ∧ spaceEnd (pcAt a.pcs k).t = true) → a.w = W
  lastw : a.last = true → a.w = b.w
theorem JustOk.at_ {W : Int} {a b : Ln} (h : JustOk W a b) : JustAt W a b := by
  obtain ⟨h1, h2, h3, h4⟩ := h
  refine ⟨h1, fun k hk => ?_, fun hl ⟨k, hk, hs⟩ => h3 hl ⟨k, by omega, hk, ?_⟩, h4⟩
  · rw [pcAt_of _ k hk, pcAt_of _ k (by omega)]
    exact h2 k hk (by omega)
  · rw [← pcAt_of _ k (by omega)]; exact hs
set_option maxRecDepth 100000 in
set_option maxHeartbeats 40000000 in
theorem linesJust_any (s : ByteArray) (width size : Int) (w : World) (hs : s.size ≤ maxLen) :
    Calls Try.prog 21 #[.string s, .int .i64 width, .int .i64 size] w fun e w' => e = .returned (.bool true) ∧ Below w.heap.size w w' := by
  unfold maxLen at hs
  go_enter Try.func21, Try.ntmps21
  have h1 := tu16 width
  go_wp2_with fail
  refine (lined_any _).mono ?_
  rintro e w0 ⟨rfl, hb0⟩
  go_wp2_with fail
  have hs1 : (s.extract 0 (min (s.size : Int) 200).toNat).size ≤ 200 := by rw [ByteArray.size_extract]; omega
  have hz : 0 ≤ size % 256 ∧ size % 256 ≤ 255 := by omega
  generalize s.extract 0 (min (s.size : Int) 200).toNat = s1 at *
  generalize IntKind.u16.wrap width = W at *
  generalize size % 256 = z at *
  refine (collapse_any s1 0 true _ (by omega)).mono ?_
  rintro e w1 ⟨rfl, hb1⟩
  obtain ⟨ht1, ht2⟩ := col_tidy s1 hs1
  generalize bytesStr (colS 0 s1.data.toList true) = t at *
  generalize colB 0 s1.data.toList true = tb at *
  have b1 := below_on hb0 hb1
  clear hb0 hb1
  have hSML := hide (fun i hi => pcs_small t z ht1 hz ht2 z 10 3 0 W (breakF [oneIt t z] z 10 3 W 0) rfl i hi)
  have hLEN := out_small t z ht1 hz ht2 z 10 3 0 W (breakF [oneIt t z] z 10 3 W 0) rfl
  obtain ⟨hj1, hj2⟩ := just_out t z ht1 hz ht2 z 10 0 W h1.1 h1.2 (breakF [oneIt t z] z 10 3 W 0) (breakF [oneIt t z] z 10 0 W 0) rfl rfl
  have HJ := hide (fun k (hk : k < (breakF [oneIt t z] z 10 3 W 0).length) => show JustAt W (lnAt (breakF [oneIt t z] z 10 3 W 0) k) (lnAt (breakF [oneIt t z] z 10 0 W 0) k) from by rw [lnAt_of _ k hk, lnAt_of _ k (by omega)]; exact (hj2 k hk (by omega)).at_)
  have hBR3 := hide (fun g fp B c w hI hg hf hB => break_text t z 3 W ht1 hz h1 g fp B c w hI hg hf hB)
  have hBR0 := hide (fun g fp B c w hI hg hf hB => break_text t z 0 W ht1 hz h1 g fp B c w hI hg hf hB)
  have HCW := hide (cutW W h1)
  clear ht2 hj2
  generalize breakF [oneIt t z] z 10 3 W 0 = out at *
  generalize breakF [oneIt t z] z 10 0 W 0 = out0 at *
  have BX := Blk.new w1 100 #[.int .i64 1, .int .i64 0, .string t, .int .i64 z, .int .i64 0, .int .i64 10, .int .i64 0, .int .i64 0, .int .i64 0, .int .i64 0, .int .i64 0]
  have bX := b1.alloc b1.size (.cells #[.int .i64 1, .int .i64 0, .string t, .int .i64 z, .int .i64 0, .int .i64 10, .int .i64 0, .int .i64 0, .int .i64 0, .int .i64 0, .int .i64 0] 100)
  have HSZ := hide (show (w1.alloc (.cells #[.int .i64 1, .int .i64 0, .string t, .int .i64 z, .int .i64 0, .int .i64 10, .int .i64 0, .int .i64 0, .int .i64 0, .int .i64 0, .int .i64 0] 100)).heap.size = w1.heap.size + 1 from by simp)
  have HI1 := hide (oneIt_blk BX)
  clear BX b1
  go_wp2_with fail
  refine (New_blk W _).mono ?_
  rintro e w2 ⟨rfl, hF, hb2⟩
  rw [HCW.out] at hF
  have hI2 := hide (ItsR.below HI1.out hb2)
  have b2 := below_on bX hb2
  rw [HSZ.out] at hF
  have hle : w.heap.size ≤ w1.heap.size + 1 := by have := bX.size; rw [HSZ.out] at this; exact this
  have HC3 := hide (hBR3.out w1.heap.size (w1.heap.size + 1) (w1.heap.size + 1) 1 w2 hI2.out (by omega) hF (Nat.le_refl _))
  clear hF hb2 HI1 bX hBR3
  go_wp2_with fail
  refine HC3.out.mono ?_
  clear HC3
  rintro e w3 ⟨v3, rfl, hl3, hb3⟩
  have b3 : Below w.heap.size w w3 := b2.trans (hb3.mono hle)
  have hI3 : ItsR w3 w1.heap.size [oneIt t z] := ⟨hI2.out.1.below hb3 (Nat.lt_succ_self _), fun h => Nat.lt_of_lt_of_le (hI2.out.2 h) hb3.size⟩
  have hlt3 : w1.heap.size < w3.heap.size := hI3.2 Nat.one_pos
  obtain ⟨A3, c3, rfl⟩ := hl3.slice
  have HL3 := hide hl3
  have HI3 := hide hI3
  clear hI2 hI3 hl3 b2 hb3 hle
  go_wp2_with fail
  refine (New_blk W w3).mono ?_
  rintro e w4 ⟨rfl, hF, hb4⟩
  rw [HCW.out] at hF
  have HC0 := hide (hBR0.out w1.heap.size w3.heap.size w3.heap.size 1 w4 (ItsR.below HI3.out hb4) (Nat.ne_of_lt hlt3) hF (Nat.le_refl _))
  clear hF HI3 hBR0
  go_wp2_with fail
  refine HC0.out.mono ?_
  clear HC0
  rintro e w5 ⟨v5, rfl, hl5, hb5⟩
  have b35 : Below w3.heap.size w3 w5 := hb4.trans hb5
  have b5 := below_on b3 b35
  obtain ⟨A5, c5, rfl⟩ := hl5.slice
  have HA := hide (fun h0 => HL3.out.form h0)
  have HB := hide (fun h0 => hl5.form h0)
  have B35 := hide b35
  clear HL3 hl5 b3 b35 hb4 hb5 hlt3 HSZ
  have Bi := Below.refl w5.heap.size w5
  go_wp2_with fail
  go_loopw [54] (fun i wr => ∃ k : Nat, k ≤ out.length ∧ i = .int .i64 k ∧ Below w5.heap.size w5 wr) (fun i _ => out.length - (intOf i).toNat)
  case atStart => exact ⟨0, Nat.zero_le _, rfl, Bi⟩
  case round =>
    clear Bi
    obtain ⟨k, hk, rfl, hbel⟩ := hrel
    by_cases hlt : k < out.length
    · obtain ⟨q, cq, hv, hq3, hc⟩ := HA.out (by omega)
      obtain rfl : A3 = some ⟨q, 0, none⟩ := by injection hv
      obtain ⟨q0, cq0, hv0, hq0, hc0⟩ := HB.out (by omega)
      obtain rfl : A5 = some ⟨q0, 0, none⟩ := by injection hv0
      clear hv hv0
      have hq : q < w5.heap.size := Nat.lt_of_lt_of_le hq3 B35.out.size
      obtain ⟨hp1, hp2, hp3⟩ := hSML.out k hlt
      rw [← lnAt_of out k hlt] at hp1 hp2 hp3
      obtain ⟨j1, j2, j3, j4⟩ := HJ.out k hlt
      obtain ⟨pv, d0, d1, d2, d3, d4, d5, d6, ho⟩ := hc k hlt
      obtain ⟨pv0, _, _, f2, _, _, f5, _, ho0⟩ := hc0 k (by omega)
      have tr : ∀ {j : Nat} {v : Value}, w3.cell? ⟨q, j, none⟩ = some v → wr.cell? ⟨q, j, none⟩ = some v := fun h => (hbel.cell (p := ⟨q, _, none⟩) hq).trans ((B35.out.cell (p := ⟨q, _, none⟩) hq3).trans h)
      have e0 := tr d0
      have e1 := tr d1
      have e2 := tr d2
      have e3 := tr d3
      have e4 := tr d4
      have e5 := tr d5
      have e6 := tr d6
      obtain ⟨qp, cp, rfl, hqp, hpc⟩ := pcs_form ho hp2
      obtain ⟨qb, cb, rfl, hqb, hpb⟩ := pcs_form ho0 (by omega)
      have hsz := hbel.size
      have hqp5 : qp < w5.heap.size := Nat.lt_of_lt_of_le hqp B35.out.size
      have HPC := hide (fun j hj => hpc j hj)
      have HPB := hide (fun j hj => hpb j hj)
      have HP3 := hide hp3
      have J2 := hide j2
      have J3 := hide j3
      have F5 := hide f5
      have F2 := hide f2
      clear d0 d1 d2 d3 d4 d5 d6 ho ho0 hpc hpb hp3 j2 j3 f5 f2 hc hc0 tr
      generalize lnAt out k = ln at *
      generalize lnAt out0 k = lb at *
      obtain ⟨lx, ly, lw, lh, lba, lp, ll⟩ := ln
      obtain ⟨bx, by_, bw, bh, bba, bp, bl⟩ := lb
      simp only at j1 j4 hp1 hp2 e0 e1 e2 e3 e4 e5 e6
      have F5' := hide (show w5.cell? ⟨q0, k * 7 + 5, none⟩ = some (.slice (some ⟨qb, 0, none⟩) bp.length cb) from F5.out)
      have F2' := hide (show w5.cell? ⟨q0, k * 7 + 2, none⟩ = some (.int .i64 bw) from F2.out)
      obtain ⟨np, hnp⟩ : ∃ np, lp.length = np := ⟨_, rfl⟩
      have F6 := hide (show bp.length = lp.length from j1.symm)
      rw [← j1] at F5'
      rw [hnp] at hp1 hp2 e5 F5'
      have HNP := hide hnp
      rw [hnp] at F6
      clear F5 F2 hnp j1
      have hbA := hbel.alloc hsz (.cells #[.int .i64 lx, .int .i64 ly, .int .i64 lw, .int .i64 lh, .int .i64 lba, .slice (some ⟨qp, 0, none⟩) np cp, .bool ll] 108)
      have hX := Blk.new wr 108 #[.int .i64 lx, .int .i64 ly, .int .i64 lw, .int .i64 lh, .int .i64 lba, .slice (some ⟨qp, 0, none⟩) np cp, .bool ll]
      have x2 : (wr.alloc (.cells #[.int .i64 lx, .int .i64 ly, .int .i64 lw, .int .i64 lh, .int .i64 lba, .slice (some ⟨qp, 0, none⟩) np cp, .bool ll] 108)).cell? ⟨wr.heap.size, 2, none⟩ = some (.int .i64 lw) := hX.cell 2
      have x5 : (wr.alloc (.cells #[.int .i64 lx, .int .i64 ly, .int .i64 lw, .int .i64 lh, .int .i64 lba, .slice (some ⟨qp, 0, none⟩) np cp, .bool ll] 108)).cell? ⟨wr.heap.size, 5, none⟩ = some (.slice (some ⟨qp, 0, none⟩) np cp) := hX.cell 5
      have x6 : (wr.alloc (.cells #[.int .i64 lx, .int .i64 ly, .int .i64 lw, .int .i64 lh, .int .i64 lba, .slice (some ⟨qp, 0, none⟩) np cp, .bool ll] 108)).cell? ⟨wr.heap.size, 6, none⟩ = some (.bool ll) := hX.cell 6
      have hwl := hX.lt
      have y5 := (hbA.cell (p := ⟨q0, k * 7 + 5, none⟩) hq0).trans F5'.out
      clear hX
      generalize wr = wo at *
      go_wp2_with fail
      generalize hwb : wo.alloc (.cells #[.int .i64 lx, .int .i64 ly, .int .i64 lw, .int .i64 lh, .int .i64 lba, .slice (some ⟨qp, 0, none⟩) np cp, .bool ll] 108) = wb at *
      clear hwb e0 e1 e2 e3 e4 e5 e6 hbel hsz
      go_quiet (fail)
      go_wp2_with fail
      have Bj := below_drewN (Below.refl wb.heap.size wb) nq
      have X2 := hide x2
      have X5 := hide x5
      have X6 := hide x6
      clear x2 x5 x6 y5
      go_loopw [12, 72] (fun bl i Wd => ∃ (j n : Nat), j ≤ np ∧ i = .int .i64 j ∧ bl = .int .i64 n ∧ n ≤ j ∧ (0 < n → ∃ m, m + 1 < np ∧ spaceEnd (pcAt lp m).t = true) ∧ Below wb.heap.size wb Wd) (fun _ i _ => np - (intOf i).toNat)
      case atStart => exact ⟨0, 0, Nat.zero_le _, rfl, rfl, Nat.le_refl _, fun h => absurd h (Nat.lt_irrefl _), Bj⟩
      case round =>
        clear Bj
        obtain ⟨j, n, hj, rfl, rfl, hnj, hsp, hbi⟩ := hrel
        have HSP := hide hsp
        clear hsp
        have hb5i : Below w5.heap.size w5 wr := hbA.trans (hbi.mono hbA.size)
        have hwz : w5.heap.size ≤ wb.heap.size := hbA.size
        by_cases hjl : j < np
        · obtain ⟨p0, p1, p2, p3⟩ := HPC.out j (by have := HNP.out; show j < lp.length; omega)
          obtain ⟨_, o1, _, o3⟩ := HPB.out j (by have := F6.out; show j < bp.length; omega)
          obtain ⟨jx, jt⟩ := J2.out j (by have := HNP.out; show j < lp.length; omega)
          have tr3 : ∀ {m : Nat} {v : Value}, w3.cell? ⟨qp, m, none⟩ = some v → wr.cell? ⟨qp, m, none⟩ = some v := fun h => (hb5i.cell (p := ⟨qp, _, none⟩) hqp5).trans ((B35.out.cell (p := ⟨qp, _, none⟩) hqp).trans h)
          have r0 := tr3 p0
          have r1 := tr3 p1
          have r2 := tr3 p2
          have r3 := tr3 p3
          have s1 := (hb5i.cell (p := ⟨qb, j * 4 + 1, none⟩) hqb).trans o1
          have s3 := (hb5i.cell (p := ⟨qb, j * 4 + 3, none⟩) hqb).trans o3
          have s5 := (hb5i.cell (p := ⟨q0, k * 7 + 5, none⟩) hq0).trans F5'.out
          have b5' := (hbi.cell (p := ⟨wo.heap.size, 5, none⟩) hwl).trans X5.out
          have TR := hide (fun m v => @tr3 m v)
          clear p0 p1 p2 p3 o1 o3 tr3
          change (pcAt bp j).x ≤ (pcAt lp j).x at jx
          change (pcAt lp j).t = (pcAt bp j).t at jt
          change wr.cell? ⟨qb, j * 4 + 3, none⟩ = some (.string (pcAt bp j).t) at s3
          change wr.cell? ⟨qb, j * 4 + 1, none⟩ = some (.int .i64 (pcAt bp j).x) at s1
          rw [← jt] at s3
          clear jt
          generalize (pcAt bp j).x = bxx at *
          generalize pcAt lp j = pa at *
          obtain ⟨pi, px, pw, pt⟩ := pa
          change bxx ≤ px at jx
          change wr.cell? ⟨qp, j * 4, none⟩ = some (.int .i64 pi) at r0
          change wr.cell? ⟨qp, j * 4 + 1, none⟩ = some (.int .i64 px) at r1
          change wr.cell? ⟨qp, j * 4 + 2, none⟩ = some (.int .i64 pw) at r2
          change wr.cell? ⟨qp, j * 4 + 3, none⟩ = some (.string pt) at r3
          change wr.cell? ⟨qb, j * 4 + 3, none⟩ = some (.string pt) at s3
          have hd : decide (px < bxx) = false := decide_eq_false (by omega)
          have hbB := hbi.alloc hbi.size (.cells #[.int .i64 pi, .int .i64 px, .int .i64 pw, .string pt] 110)
          have hbC := (Below.refl wr.heap.size wr).alloc (Nat.le_refl _) (.cells #[.int .i64 pi, .int .i64 px, .int .i64 pw, .string pt] 110)
          have hY := Blk.new wr 110 #[.int .i64 pi, .int .i64 px, .int .i64 pw, .string pt]
          have u1 : (wr.alloc (.cells #[.int .i64 pi, .int .i64 px, .int .i64 pw, .string pt] 110)).cell? ⟨wr.heap.size, 1, none⟩ = some (.int .i64 px) := hY.cell 1
          have u3 : (wr.alloc (.cells #[.int .i64 pi, .int .i64 px, .int .i64 pw, .string pt] 110)).cell? ⟨wr.heap.size, 3, none⟩ = some (.string pt) := hY.cell 3
          have hsz5 := hb5i.size
          have v1 := (hbC.cell (p := ⟨qb, j * 4 + 1, none⟩) (Nat.lt_of_lt_of_le hqb hsz5)).trans s1
          have v3 := (hbC.cell (p := ⟨qb, j * 4 + 3, none⟩) (Nat.lt_of_lt_of_le hqb hsz5)).trans s3
          have v5 := (hbC.cell (p := ⟨q0, k * 7 + 5, none⟩) (Nat.lt_of_lt_of_le hq0 hsz5)).trans s5
          have z5 := (hbC.cell (p := ⟨wo.heap.size, 5, none⟩) (Nat.lt_of_lt_of_le hwl hbi.size)).trans b5'
          have hne : wo.heap.size ≠ wr.heap.size := Nat.ne_of_lt (Nat.lt_of_lt_of_le hwl hbi.size)
          clear hY s1 s3 s5
          by_cases hj0 : 0 < j
          · obtain ⟨m, rfl⟩ : ∃ m, j = m + 1 := ⟨j - 1, by omega⟩
            obtain ⟨_, _, _, q3⟩ := HPC.out m (by have := HNP.out; show m < lp.length; omega)
            have hps := HP3.out (pcAt lp m) (by rw [pcAt_of lp m (by have := HNP.out; omega)]; exact List.getElem_mem _)
            have m3 := (hbC.cell (p := ⟨qp, m * 4 + 3, none⟩) (Nat.lt_of_lt_of_le hqp5 hsz5)).trans (TR.out _ _ q3)
            clear q3
            change (wr.alloc (.cells #[.int .i64 pi, .int .i64 px, .int .i64 pw, .string pt] 110)).cell? ⟨qp, m * 4 + 3, none⟩ = some (.string (pcAt lp m).t) at m3
            have HSX := hide (show Lib.hasSuffix (pcAt lp m).t.data.toList (⟨#[32]⟩ : ByteArray).data.toList = spaceEnd (pcAt lp m).t from suffix_space _)
            have HZ := hide (show (pcAt lp m).t.size ≤ 9223372036854775807 from by omega)
            cases hsx : spaceEnd (pcAt lp m).t
            · rw [hsx] at HSX
              generalize (pcAt lp m).t = mt at *
              go_wp2_with (first | (go_at_call 67; refine (Try.strings_HasSuffix _ _ _ HZ.out).mono ?_; rintro e w' ⟨rfl, rfl⟩; rw [HSX.out]) | fail)
              generalize hwd : wr.alloc (.cells #[.int .i64 pi, .int .i64 px, .int .i64 pw, .string pt] 110) = wd at *
              clear hwd
              go_quiet (fail)
              go_wp2_with fail
              go_roundw
              case rel => exact ⟨_, n, hjl, rfl, rfl, by omega, HSP.out, below_drewN hbB nq⟩
              case measure => simp only [intOf]; omega
            · rw [hsx] at HSX
              have HSQ := hide (show ∃ m, m + 1 < np ∧ spaceEnd (pcAt lp m).t = true from ⟨m, hjl, hsx⟩)
              clear hsx
              generalize (pcAt lp m).t = mt at *
              go_wp2_with (first | (go_at_call 67; refine (Try.strings_HasSuffix _ _ _ HZ.out).mono ?_; rintro e w' ⟨rfl, rfl⟩; rw [HSX.out]) | fail)
              generalize hwd : wr.alloc (.cells #[.int .i64 pi, .int .i64 px, .int .i64 pw, .string pt] 110) = wd at *
              clear hwd
              go_quiet (fail)
              go_wp2_with fail
              go_roundw
              case rel => exact ⟨_, n + 1, hjl, rfl, rfl, by omega, fun _ => HSQ.out, below_drewN hbB nq⟩
              case measure => simp only [intOf]; omega
          · go_wp2_with fail
            generalize hwd : wr.alloc (.cells #[.int .i64 pi, .int .i64 px, .int .i64 pw, .string pt] 110) = wd at *
            clear hwd
            go_quiet (fail)
            go_wp2_with fail
            go_roundw
            case rel => exact ⟨_, n, hjl, rfl, rfl, by omega, HSP.out, below_drewN hbB nq⟩
            case measure => simp only [intOf]; omega
        · obtain rfl : j = np := by omega
          have c2 := (hbi.cell (p := ⟨wo.heap.size, 2, none⟩) hwl).trans X2.out
          have c6 := (hbi.cell (p := ⟨wo.heap.size, 6, none⟩) hwl).trans X6.out
          have g2 := (hb5i.cell (p := ⟨q0, k * 7 + 2, none⟩) hq0).trans F2'.out
          cases ll
          · by_cases hn0 : 0 < n
            · obtain rfl : lw = W := J3.out rfl (by have := HSP.out hn0; rw [← HNP.out] at this; exact this)
              have hd0 : decide ((0 : Int) < (n : Int)) = true := decide_eq_true (by omega)
              go_wp2_with fail
              go_quiet (fail)
              go_wp2_with fail
              go_roundw
              case rel => exact ⟨k + 1, by omega, by go_num, below_drewN hb5i nq⟩
              case measure => simp only [intOf]; omega
            · obtain rfl : n = 0 := by omega
              go_wp2_with fail
              go_quiet (fail)
              go_wp2_with fail
              go_roundw
              case rel => exact ⟨k + 1, by omega, by go_num, below_drewN hb5i nq⟩
              case measure => simp only [intOf]; omega
          · obtain rfl : lw = bw := j4 rfl
            go_wp2_with fail
            go_quiet (fail)
            go_wp2_with fail
            go_roundw
            case rel => exact ⟨k + 1, by omega, by go_num, below_drewN hb5i nq⟩
            case measure => simp only [intOf]; omega
    · obtain rfl : k = out.length := by omega
      have b4 := below_on b5 hbel
      go_wp2_with fail
      go_ret
      exact ⟨rfl, b4⟩
end Go.Proofs.Ytadlabndbomgmaa
