/- The walk of the statement FloatsApart: it returns true. -/
import Derived.BigQuiet
import Derived.Handy
import Derived.Test.YtadlabndbomgmaaOpen
import Derived.Test.YtadlabndbomgmaaFloatsAll
namespace Go.Proofs.Ytadlabndbomgmaa
open Go.ChangeShapes Go.WideShapes Go.ChangeAt Go.RowKit
theorem i16_bd (n : Int) : -32768 ≤ IntKind.i16.wrap n ∧ IntKind.i16.wrap n ≤ 32767 := by
  simp only [IntKind.wrap, IntKind.bits, IntKind.signed]; simp; omega
set_option maxRecDepth 100000 in
set_option maxHeartbeats 4000000 in
theorem floatsApart_any (width : Int) (A : Option Addr) (n c : Nat) (R : Nat → Nat → Int) (w : World) (hr : Recs w w.heap.size 4 A n R) (hn : n ≤ c) (hc : c ≤ maxLen) :
    Calls Try.prog 7 #[.int .i64 width, .slice A n c] w fun e w' => e = .returned (.bool true) ∧ Below w.heap.size w w' := by
  unfold maxLen at hc
  have Hr := hide hr
  clear hr
  go_enter Try.func7, Try.ntmps7
  go_wp2_with fail
  refine (New_any width w).mono ?_
  rintro e w1 ⟨rfl, hf, hb1⟩
  have hwd : 0 ≤ max 0 (cut width) ∧ max 0 (cut width) ≤ 16777216 := by have := cut_hi width; omega
  generalize max 0 (cut width) = wd at *
  have Hf := hide hf
  clear hf
  go_wp2_with fail
  refine (floated_any w1).mono ?_
  rintro e w2 ⟨rfl, hb2⟩
  have hf2 := hide (Hf.out.below hb2)
  have hbel0 := below_on hb1 hb2
  clear hb1 hb2 Hf
  go_wp2_with fail
  have En : (min (n : Int) 30).toNat = min n 30 := by omega
  have En2 : min (n : Int) 30 = ((min n 30 : Nat) : Int) := by omega
  have En3 : max (min (n : Int) 30) 0 = ((min n 30 : Nat) : Int) := by omega
  rw [En, En3]
  clear En En3
  have hn1 : min n 30 ≤ n := by omega
  have hn2 : min n 30 ≤ 30 := by omega
  have EN2 := hide En2
  clear En2
  generalize hm : min n 30 = m at *
  have HM := hide hm
  clear hm
  go_loopw [6, 7, 27] (fun iv p i wr => ∃ (k : Nat) (fs : List Fl), k ≤ m ∧ i = .int .i64 k ∧ fs.length = k ∧ GoodFl wd fs ∧ FloatsAt wr w.heap.size w.heap.size wd fs ∧ Below w.heap.size w wr) (fun _ _ i _ => m - (intOf i).toNat)
  case atStart => exact ⟨0, [], Nat.zero_le _, rfl, rfl, GoodFl.nil wd, hf2.out, hbel0⟩
  case round =>
    obtain ⟨k, fs, hk, rfl, hfl, hg, hfr, hbel⟩ := hrel
    have HG := hide hg
    have HF := hide hfr
    have HL := hide hfl
    clear hg hfr hfl
    by_cases hlt : k < m
    · obtain ⟨g, off, rfl, hgl, hcell⟩ := Hr.out k (by omega)
      have d0 := (hbel.cell (p := ⟨g, off + k * 4 + 0, none⟩) hgl).trans (hcell 0 (by omega))
      have d1 := (hbel.cell (p := ⟨g, off + k * 4 + 1, none⟩) hgl).trans (hcell 1 (by omega))
      have d2 := (hbel.cell (p := ⟨g, off + k * 4 + 2, none⟩) hgl).trans (hcell 2 (by omega))
      have d3 := (hbel.cell (p := ⟨g, off + k * 4 + 3, none⟩) hgl).trans (hcell 3 (by omega))
      clear hcell
      rw [Nat.add_zero] at d0
      have b1 := i16_bd (R k 1)
      have b2 := i16_bd (R k 2)
      have b3 := i16_bd (R k 3)
      have hok : ∀ f ∈ fs, FlBd f ∧ f.y + f.h ≤ 65536 * (k : Int) + 32767 := fun f hf => by
        have := HG.out.bd f hf; rw [HL.out] at this; exact this
      have Hok := hide hok
      clear hok
      go_wp2_with fail
      refine (Place_any w.heap.size w.heap.size _ _ _ _ wd (65536 * (k : Int) + 32767) fs _ (HF.out.below ((Below.refl _ _).alloc (Nat.le_refl _) _)) (by simp; exact Nat.le_succ_of_le hbel.size) (by have := HL.out; omega) (by omega) (by omega) (by omega) (by unfold cut; omega) (by omega) Hok.out).mono ?_
      rintro e w3 ⟨x, y', rfl, hf3, hb3, hp⟩
      have hp2 : Placed wd fs (1 + (k : Int) % 2) (cut (IntKind.i16.wrap (R k 1))) (max 0 (cut (IntKind.i16.wrap (R k 2)))) (max 0 (cut (IntKind.i16.wrap (R k 3)))) (65536 * (fs.length : Int) + 32767) x y' := by rw [HL.out]; exact hp
      have hg3 := hide (HG.out.step hwd (by have := HL.out; omega) (by omega) (by unfold cut; omega) (by unfold cut; omega) (by unfold cut; omega) hp2)
      clear hp2
      have Hf3 := hide hf3
      have hbel3 := (hbel.alloc hbel.size (.cells #[.int .i64 (R k 0), .int .i64 (R k 1), .int .i64 (R k 2), .int .i64 (R k 3)] 39)).trans hb3
      clear hf3 hp hb3 b1 b2 b3 d0 d1 d2 d3
      go_wp2_with fail
      go_roundw
      case rel => exact ⟨k + 1, _, by omega, by go_num, by simp; exact HL.out, hg3.out, Hf3.out, hbel3⟩
      case measure => simp [intOf]; omega
    · have hkm : k = m := by omega
      obtain ⟨wo, rfl⟩ : ∃ wo : World, wo = wr := ⟨_, rfl⟩
      subst hkm
      go_wp2_with fail
      refine (All_any w.heap.size w.heap.size wd fs wo HF.out (by have := HL.out; omega)).mono ?_
      rintro e w3 ⟨v, rfl, hown, hb3⟩
      have hf3 := hide (HF.out.below hb3)
      have hbel3 := below_on hbel hb3
      obtain ⟨X, cx, hv, hcx, _⟩ := own_reads hown
      have hown2 := own_mono hown hbel.size
      rw [hv, HL.out] at hown2
      have HO := hide hown2
      rw [hv, HL.out]
      clear hv hown hown2 hb3 hbel HF
      have hcx2 : k ≤ cx := by have := HL.out; omega
      clear hcx
      go_wp2_with fail
      go_loopw [4, 9, 10, 54] (fun rv iv p i wr => ∃ j : Nat, j ≤ k ∧ i = .int .i64 j ∧ Below w3.heap.size w3 wr) (fun _ _ _ i _ => k - (intOf i).toNat)
      case atStart => exact ⟨0, Nat.zero_le _, rfl, Below.refl _ _⟩
      case round =>
        obtain ⟨j, hj, rfl, hbel4⟩ := hrel
        obtain ⟨w4, rfl⟩ : ∃ w4 : World, w4 = wr := ⟨_, rfl⟩
        have hf4 := hide (hf3.out.below hbel4)
        by_cases hjk : j < k
        · obtain ⟨g, rfl, _, hg, f0, f1, f2, f3⟩ := rectCell HO.out hjk HL.out
          have d0 := (hbel4.cell (p := ⟨g, j * 4, none⟩) hg).trans f0
          have d1 := (hbel4.cell (p := ⟨g, j * 4 + 1, none⟩) hg).trans f1
          have d2 := (hbel4.cell (p := ⟨g, j * 4 + 2, none⟩) hg).trans f2
          have d3 := (hbel4.cell (p := ⟨g, j * 4 + 3, none⟩) hg).trans f3
          have hjl : j < fs.length := by rw [HL.out]; exact hjk
          have hin := HG.out.inside fs[j] (List.getElem_mem hjl)
          obtain ⟨⟨⟨o1, o2, o3, o4⟩, ⟨o5, o6⟩, o7, o8⟩, o9⟩ := HG.out.bd fs[j] (List.getElem_mem hjl)
          have hup := hide (fun i (hi : i < j) => List.pairwise_iff_getElem.1 HG.out.up i j (by omega) hjl hi)
          have hap := hide (fun i (hi : i < j) => List.pairwise_iff_getElem.1 HG.out.apart i j (by omega) hjl hi)
          generalize fs[j] = f at *
          obtain ⟨rx, ry, rw', rh, rsd⟩ := f
          clear f0 f1 f2 f3
          dsimp only at d0 d1 d2 d3 o1 o2 o3 o4 o5 o6 o7 o8 o9 hin
          have hfa := hf4.out.below ((Below.refl w4.heap.size w4).alloc (Nat.le_refl _) (.cells #[.int .i64 rx, .int .i64 ry, .int .i64 rw', .int .i64 rh] 39))
          have W4 := fun q => Width_any w.heap.size w.heap.size wd fs ((w4.alloc (.cells #[.int .i64 rx, .int .i64 ry, .int .i64 rw', .int .i64 rh] 39)).drewN q) hfa
          have HW4 := hide W4
          clear W4 hfa
          have hcase : (decide (rw' ≤ wd) = true ∧ decide (rx < 0) = false ∧ decide (wd < rx + rw') = false) ∨ decide (rw' ≤ wd) = false := by
            by_cases hww : rw' ≤ wd
            · obtain ⟨hi1, hi2⟩ := hin hww
              exact .inl ⟨decide_eq_true hww, decide_eq_false (by omega), decide_eq_false (by omega)⟩
            · exact .inr (decide_eq_false hww)
          clear hin
          have hbox : ∀ q, Below w3.heap.size w3 ((w4.alloc (.cells #[.int .i64 rx, .int .i64 ry, .int .i64 rw', .int .i64 rh] 39)).drewN q) ∧ Blk ((w4.alloc (.cells #[.int .i64 rx, .int .i64 ry, .int .i64 rw', .int .i64 rh] 39)).drewN q) w4.heap.size 39 #[.int .i64 rx, .int .i64 ry, .int .i64 rw', .int .i64 rh] := fun q =>
            ⟨below_drewN (hbel4.alloc hbel4.size _) q, (Blk.new w4 _ _).drewN q⟩
          have Hbox := hide hbox
          clear hbox
          rcases hcase with ⟨t1, t2, t3⟩ | t1
          all_goals
            go_wp2_with fail
            go_quiet ((go_at_call 38; exact quiet_left (HW4.out _)))
            obtain ⟨hbel5, hblk5⟩ := Hbox.out nq
            clear HW4 Hbox hbel4 hf4 d0 d1 d2 d3
            generalize (w4.alloc (.cells #[.int .i64 rx, .int .i64 ry, .int .i64 rw', .int .i64 rh] 39)).drewN nq = w5 at *
            have hlt5 : w4.heap.size < w5.heap.size := hblk5.lt
            go_wp2_with fail
            go_loopw [4, 12, 83] (fun rv p i wr => ∃ q : Nat, q ≤ j ∧ i = .int .i64 q ∧ Below w5.heap.size w5 wr) (fun _ _ i _ => j - (intOf i).toNat)
            case atStart => exact ⟨0, Nat.zero_le _, rfl, Below.refl _ _⟩
            case round =>
              obtain ⟨q, hq, rfl, hbel6⟩ := hrel
              by_cases hqj : q < j
              · obtain ⟨g', hge, _, hg', f0, f1, f2, f3⟩ := rectCell HO.out (show q < k by omega) HL.out
                injection hge with hge
                injection hge with hge
                subst hge
                have d0 := ((hbel6.cell (p := ⟨g, q * 4, none⟩) (Nat.lt_of_lt_of_le hg hbel5.size)).trans (hbel5.cell (p := ⟨g, q * 4, none⟩) hg)).trans f0
                have d1 := ((hbel6.cell (p := ⟨g, q * 4 + 1, none⟩) (Nat.lt_of_lt_of_le hg hbel5.size)).trans (hbel5.cell (p := ⟨g, q * 4 + 1, none⟩) hg)).trans f1
                have d2 := ((hbel6.cell (p := ⟨g, q * 4 + 2, none⟩) (Nat.lt_of_lt_of_le hg hbel5.size)).trans (hbel5.cell (p := ⟨g, q * 4 + 2, none⟩) hg)).trans f2
                have d3 := ((hbel6.cell (p := ⟨g, q * 4 + 3, none⟩) (Nat.lt_of_lt_of_le hg hbel5.size)).trans (hbel5.cell (p := ⟨g, q * 4 + 3, none⟩) hg)).trans f3
                have b0 : wr.cell? ⟨w4.heap.size, 0, none⟩ = some (.int .i64 rx) := (hbel6.cell (p := ⟨w4.heap.size, 0, none⟩) hlt5).trans (hblk5.cell 0)
                have b1 : wr.cell? ⟨w4.heap.size, 1, none⟩ = some (.int .i64 ry) := (hbel6.cell (p := ⟨w4.heap.size, 1, none⟩) hlt5).trans (hblk5.cell 1)
                have b2 : wr.cell? ⟨w4.heap.size, 2, none⟩ = some (.int .i64 rw') := (hbel6.cell (p := ⟨w4.heap.size, 2, none⟩) hlt5).trans (hblk5.cell 2)
                have b3 : wr.cell? ⟨w4.heap.size, 3, none⟩ = some (.int .i64 rh) := (hbel6.cell (p := ⟨w4.heap.size, 3, none⟩) hlt5).trans (hblk5.cell 3)
                have hqf : q < fs.length := by omega
                obtain ⟨⟨⟨s1, s2, s3, s4⟩, ⟨s5, s6⟩, s7, s8⟩, s9⟩ := HG.out.bd fs[q] (List.getElem_mem hqf)
                have u1 := hup.out q hqj
                have u2 := hap.out q hqj
                generalize fs[q] = fq at *
                obtain ⟨qx, qy, qw, qh, qsd⟩ := fq
                clear f0 f1 f2 f3
                dsimp only at d0 d1 d2 d3 s1 s2 s3 s4 s5 s6 s7 s8 s9 u1 u2
                have hlt6 : w4.heap.size < wr.heap.size := Nat.lt_of_lt_of_le hlt5 hbel6.size
                have x1 : decide (ry < qy) = false := decide_eq_false (by omega)
                have x2 : ¬ (decide (0 < min rw' (min rh (min qw qh))) = true ∧ decide (rx < qx + qw) = true ∧ decide (qx < rx + rw') = true ∧ decide (ry < qy + qh) = true ∧ decide (qy < ry + rh) = true) := by
                  simp only [decide_eq_true_eq]
                  rintro ⟨h1, h2, h3, h4, h5⟩
                  exact u2 ⟨by omega, by omega, by omega, by omega, h2, h3, h4, h5⟩
                clear u1 u2
                rcases not5 x2 with y1 | ⟨y1, y2⟩ | ⟨y1, y2, y3⟩ | ⟨y1, y2, y3, y4⟩ | ⟨y1, y2, y3, y4, y5⟩
                all_goals
                  clear x2
                  go_wp2_with fail
                  go_roundw
                  case rel => exact ⟨q + 1, by omega, by go_num, hbel6.alloc hbel6.size _⟩
                  case measure => simp [intOf]; omega
              · go_wp2_with fail
                go_roundw
                case rel => exact ⟨j + 1, by omega, by go_num, hbel5.trans (hbel6.mono hbel5.size)⟩
                case measure => simp [intOf]; omega
        · have hek : ((k : Int) == min (n : Int) 30) = true := by rw [EN2.out]; simp
          go_wp2_with fail
          go_ret
          exact ⟨rfl, below_on hbel3 hbel4⟩
end Go.Proofs.Ytadlabndbomgmaa
