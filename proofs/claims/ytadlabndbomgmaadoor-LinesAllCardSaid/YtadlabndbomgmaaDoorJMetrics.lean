/- The walk of breaker.metrics. -/
import Derived.BigQuiet
import Derived.Handy
import Derived.IntWalk
import Derived.RegionTactic
import Derived.Deep.MidRow
import Derived.Deep.RegionHeld3
import Derived.Test.YtadlabndbomgmaaDoorJEnds
import Derived.Test.YtadlabndbomgmaaDoorJCleanG
import Derived.Test.YtadlabndbomgmaaDoorJ3
set_option linter.unusedVariables false
set_option linter.unusedSimpArgs false
namespace Go.Proofs.YtadlabndbomgmaaDoor
open Go.ChangeShapes Go.WideShapes Go.ChangeAt Go.RowKit
theorem above_any (size height : Int) (w : World) (h1 : -1000000000 ≤ size ∧ size ≤ 1000000000) (h2 : -1000000000 ≤ height ∧ height ≤ 1000000000) :
    Calls Tryd.prog 95 #[.int .i64 size, .int .i64 height] w fun e w' => e = .returned (.int .i64 (aboveF size height)) ∧ w = w' := by
  have HA := hide (show aboveF size height = ascF size + partOf (height - size) 1 2 from rfl)
  have hb := asc_bd size
  have hs := sizeF_bd size
  have hp1 := cut_lo (cut (height - size) * cut 1 / cut 2)
  have hp2 := cut_hi (cut (height - size) * cut 1 / cut 2)
  have HP := hide (part_any (height - size) 1 2 w (by decide))
  have hpp : partOf (height - size) 1 2 = cut (cut (height - size) * cut 1 / cut 2) := rfl
  rw [← hpp] at hp1 hp2
  clear hpp
  generalize partOf (height - size) 1 2 = pt at *
  go_enter Tryd.func95, Tryd.ntmps95
  go_wp2_with (first | (go_at_call 10; refine (Ascent_any _ _).mono ?_; rintro e w5 ⟨rfl, rfl⟩) | (go_at_call 24; refine HP.out.mono ?_; rintro e w6 ⟨rfl, rfl⟩) | fail)
  go_ret
  exact ⟨ret_int (by rw [HA.out]), rfl⟩
theorem above_bd (size height : Int) : -33554432 ≤ aboveF size height ∧ aboveF size height ≤ 33554432 := by
  have hb := asc_bd size
  have hs := sizeF_bd size
  have hp1 := cut_lo (cut (height - size) * cut 1 / cut 2)
  have hp2 := cut_hi (cut (height - size) * cut 1 / cut 2)
  have hpp : partOf (height - size) 1 2 = cut (cut (height - size) * cut 1 / cut 2) := rfl
  rw [← hpp] at hp1 hp2
  unfold aboveF
  omega
def MetB (m : Int × Int) : Prop := -100000000 ≤ m.1 ∧ m.1 ≤ 100000000 ∧ -100000000 ≤ m.2 ∧ m.2 ≤ 100000000
theorem metTo_snoc (xs : List It) (sz ht : Int) (ps : List Pt) (p : Pt) : metTo xs sz ht (ps ++ [p]) = metStep xs (metTo xs sz ht ps) p := by simp [metTo]
theorem metStep_bd {xs : List It} (h : ∀ k, ItOk (itAt xs k)) (m : Int × Int) (p : Pt) (hm : MetB m) : MetB (metStep xs m p) := by
  have hx := h p.i
  have hb := above_bd (itAt xs p.i).size (itAt xs p.i).height
  unfold ItOk at hx
  unfold MetB at hm ⊢
  unfold metStep
  simp only
  split
  · simp only; omega
  · split
    · simp only; omega
    · exact hm
theorem metTo_bd {xs : List It} (h : ∀ k, ItOk (itAt xs k)) (sz ht : Int) (hh : 0 ≤ ht ∧ ht ≤ 16777216) (ps : List Pt) : MetB (metTo xs sz ht ps) := by
  unfold metTo
  have h0 : MetB (aboveF sz ht, ht - aboveF sz ht) := by
    have := above_bd sz ht
    unfold MetB; simp only; omega
  generalize (aboveF sz ht, ht - aboveF sz ht) = m at *
  induction ps generalizing m with
  | nil => exact h0
  | cons p ps ih => exact ih _ (metStep_bd h m p h0)
set_option maxRecDepth 100000 in
set_option maxHeartbeats 4000000 in
theorem metrics_any (xs : List It) (g : Nat) (ps : List Pt) (A : Option Addr) (c b fp : Nat) (y sz ht al ind lf rt : Int) (full : Bool) (late out : Value) (w : World) (hI : ItsR w g xs) (hp : PtsR w g A ps) (hl : ps.length ≤ 100000) (hok : PsOk xs ps) (hx : ∀ k, ItOk (itAt xs k))
    (hb : Blk w b 81 (brA fp y sz ht al ind lf rt (.slice A ps.length c) full late out)) (hz : 0 ≤ sz ∧ sz ≤ 16777216) (hh : 0 ≤ ht ∧ ht ≤ 16777216) :
    Calls Tryd.prog 75 #[.pointer (some ⟨b, 0, none⟩)] w fun e w' => e = .returned (.tuple #[.int .i64 (metTo xs sz ht ps).1, .int .i64 (highF xs sz ht ps)]) ∧ Below w.heap.size w w' := by
  have HI := hide hI
  have HP := hide hp
  have HO := hide hok
  have HX := hide hx
  have HM := hide (fun k => metTo_bd hx sz ht hh (ps.take k))
  have HH := hide (show highF xs sz ht ps = max 0 ((metTo xs sz ht ps).1 + (metTo xs sz ht ps).2) from rfl)
  have c2 : w.cell? ⟨b, 2, none⟩ = some (.int .i64 sz) := hb.cell 2
  have c3 : w.cell? ⟨b, 3, none⟩ = some (.int .i64 ht) := hb.cell 3
  have c8 : w.cell? ⟨b, 8, none⟩ = some (.slice A ps.length c) := hb.cell 8
  have habv := above_bd sz ht
  have H0 := hide (show metTo xs sz ht (ps.take 0) = (aboveF sz ht, ht - aboveF sz ht) from rfl)
  have HA0 := hide (above_any sz ht w.drew (by omega) (by omega))
  have D2 := hide (show w.drew.cell? ⟨b, 2, none⟩ = some (.int .i64 sz) from c2)
  have D3 := hide (show w.drew.cell? ⟨b, 3, none⟩ = some (.int .i64 ht) from c3)
  clear hI hp hok hx hb
  generalize highF xs sz ht ps = hi at *
  go_enter Tryd.func75, Tryd.ntmps75
  go_wp2_with fail
  go_region_held3 (fun X => X.cell? ⟨b, 2, none⟩ = some (.int .i64 sz) ∧ X.cell? ⟨b, 3, none⟩ = some (.int .i64 ht)) (exact ⟨D2.out, D3.out⟩) ((go_at_call 95; refine HA0.out.mono ?_; rintro e w5 ⟨rfl, rfl⟩))
  go_wp2_with fail
  clear HA0 D2 D3 c2 c3 c8
  go_loopw [2, 4, 28] (fun bs bl i wr => ∃ k : Nat, k ≤ ps.length ∧ i = .int .i64 k ∧ bs = .int .i64 (metTo xs sz ht (ps.take k)).1 ∧ bl = .int .i64 (metTo xs sz ht (ps.take k)).2 ∧ Below w.heap.size w wr) (fun _ _ i _ => ps.length - (intOf i).toNat)
  case atStart => exact ⟨0, Nat.zero_le _, rfl, by rw [H0.out], by rw [H0.out], (Below.refl _ _).drew⟩
  case round =>
    obtain ⟨k, hk, rfl, rfl, rfl, hbel⟩ := hrel
    by_cases hlt : k < ps.length
    · obtain ⟨h, off, rfl, hhb, hps0⟩ := HP.out (by omega)
      have hps := hps0.below hbel hhb
      have d0 : wr.cell? ⟨h, off + k * 5, none⟩ = some (.pointer (some ⟨g, (ptAt ps k).i * 11, none⟩)) := hps k hlt 0 (by omega)
      have d1 : wr.cell? ⟨h, off + k * 5 + 1, none⟩ = some (.int .i64 (ptAt ps k).i) := hps k hlt 1 (by omega)
      have d2 : wr.cell? ⟨h, off + k * 5 + 2, none⟩ = some (.string (ptAt ps k).t) := hps k hlt 2 (by omega)
      have d3 : wr.cell? ⟨h, off + k * 5 + 3, none⟩ = some (.int .i64 (ptAt ps k).w) := hps k hlt 3 (by omega)
      have d4 : wr.cell? ⟨h, off + k * 5 + 4, none⟩ = some (.bool (ptAt ps k).last) := hps k hlt 4 (by omega)
      have hpo := HO.out _ (List.getElem_mem hlt)
      rw [← ptAt_of ps k hlt] at hpo
      have HN := hide (show metTo xs sz ht (ps.take (k + 1)) = metStep xs (metTo xs sz ht (ps.take k)) (ptAt ps k) from by rw [List.take_succ_eq_append_getElem hlt, metTo_snoc, ← ptAt_of ps k hlt])
      have HM1 := HM.out k
      unfold MetB at HM1
      clear hps hps0
      generalize ptAt ps k = p at *
      generalize metTo xs sz ht (ps.take k) = m at *
      obtain ⟨m1, m2⟩ := m
      simp only at HM1
      have hszr := hbel.size
      have HIA := hide ((HI.out.below hbel).below ((Below.refl wr.heap.size wr).alloc (Nat.le_refl _) (.cells #[.pointer (some ⟨g, p.i * 11, none⟩), .int .i64 p.i, .string p.t, .int .i64 p.w, .bool p.last] 96)))
      have HBX := hide (Blk.new wr 96 #[.pointer (some ⟨g, p.i * 11, none⟩), .int .i64 p.i, .string p.t, .int .i64 p.w, .bool p.last])
      have b1 := hbel.alloc hszr (.cells #[.pointer (some ⟨g, p.i * 11, none⟩), .int .i64 p.i, .string p.t, .int .i64 p.w, .bool p.last] 96)
      have hxp := HX.out p.i
      have HST := hide (show metStep xs (m1, m2) p = if (itAt xs p.i).kind == 1 then (max m1 (aboveF (itAt xs p.i).size (itAt xs p.i).height + (itAt xs p.i).shift), max m2 ((itAt xs p.i).height - aboveF (itAt xs p.i).size (itAt xs p.i).height - (itAt xs p.i).shift)) else if (itAt xs p.i).kind == 4 then (max m1 ((itAt xs p.i).h + (itAt xs p.i).shift), max m2 (-(itAt xs p.i).shift)) else (m1, m2) from rfl)
      have e0 := HIA.out.1 p.i hpo.1 0 (by omega)
      have e3 := HIA.out.1 p.i hpo.1 3 (by omega)
      have e5 := HIA.out.1 p.i hpo.1 5 (by omega)
      have e7 := HIA.out.1 p.i hpo.1 7 (by omega)
      have e9 := HIA.out.1 p.i hpo.1 9 (by omega)
      clear hpo
      generalize itAt xs p.i = x at *
      obtain ⟨kd, bx, tx, xsz, xsp, xht, xmd, xsh, xw, xh, xsd⟩ := x
      unfold ItOk at hxp
      simp only at hxp
      have f0 : (wr.alloc (.cells #[.pointer (some ⟨g, p.i * 11, none⟩), .int .i64 p.i, .string p.t, .int .i64 p.w, .bool p.last] 96)).cell? ⟨g, p.i * 11, none⟩ = some (.int .i64 kd) := e0
      have f3 : (wr.alloc (.cells #[.pointer (some ⟨g, p.i * 11, none⟩), .int .i64 p.i, .string p.t, .int .i64 p.w, .bool p.last] 96)).cell? ⟨g, p.i * 11 + 3, none⟩ = some (.int .i64 xsz) := e3
      have f5 : (wr.alloc (.cells #[.pointer (some ⟨g, p.i * 11, none⟩), .int .i64 p.i, .string p.t, .int .i64 p.w, .bool p.last] 96)).cell? ⟨g, p.i * 11 + 5, none⟩ = some (.int .i64 xht) := e5
      have f7 : (wr.alloc (.cells #[.pointer (some ⟨g, p.i * 11, none⟩), .int .i64 p.i, .string p.t, .int .i64 p.w, .bool p.last] 96)).cell? ⟨g, p.i * 11 + 7, none⟩ = some (.int .i64 xsh) := e7
      have f9 : (wr.alloc (.cells #[.pointer (some ⟨g, p.i * 11, none⟩), .int .i64 p.i, .string p.t, .int .i64 p.w, .bool p.last] 96)).cell? ⟨g, p.i * 11 + 9, none⟩ = some (.int .i64 xh) := e9
      have q0 : (wr.alloc (.cells #[.pointer (some ⟨g, p.i * 11, none⟩), .int .i64 p.i, .string p.t, .int .i64 p.w, .bool p.last] 96)).cell? ⟨wr.heap.size, 0, none⟩ = some (.pointer (some ⟨g, p.i * 11, none⟩)) := HBX.out.cell 0
      clear e0 e3 e5 e7 e9
      have hab := above_bd xsz xht
      simp only at HST
      cases h1 : (kd == 1)
      · cases h4 : (kd == 4)
        · have HN2 := hide (HN.out.trans (HST.out.trans (by rw [h1, h4])))
          clear HN HST
          go_wp2_with fail
          go_roundw
          case rel => exact ⟨k + 1, by omega, by go_num, by rw [HN2.out]; rfl, by rw [HN2.out]; rfl, b1⟩
          case measure => simp only [intOf]; omega
        · have HN2 := hide (HN.out.trans (HST.out.trans (by rw [h1, h4])))
          clear HN HST
          go_wp2_with fail
          generalize wr.alloc (.cells #[.pointer (some ⟨g, p.i * 11, none⟩), .int .i64 p.i, .string p.t, .int .i64 p.w, .bool p.last] 96) = wA at *
          have y1 : IntKind.i64.wrap (xh + xsh) = xh + xsh := IntWalk.i64_in _ (by omega)
          have y2 : IntKind.i64.wrap (-xsh) = -xsh := IntWalk.i64_in _ (by omega)
          go_region_held3 (fun X => X.cell? ⟨wr.heap.size, 0, none⟩ = some (.pointer (some ⟨g, p.i * 11, none⟩)) ∧ X.cell? ⟨g, p.i * 11 + 7, none⟩ = some (.int .i64 xsh) ∧ X.cell? ⟨g, p.i * 11 + 9, none⟩ = some (.int .i64 xh)) (first | exact ⟨q0, f7, f9⟩ | go_keep) (fail)
          all_goals
            go_wp2_with fail
            go_roundw
            case rel => exact ⟨k + 1, by omega, by go_num, by rw [HN2.out]; rfl, by rw [HN2.out]; rfl, b1.drew⟩
            case measure => simp only [intOf]; omega
      · have HN2 := hide (HN.out.trans (HST.out.trans (by rw [h1])))
        clear HN HST
        go_wp2_with fail
        generalize wr.alloc (.cells #[.pointer (some ⟨g, p.i * 11, none⟩), .int .i64 p.i, .string p.t, .int .i64 p.w, .bool p.last] 96) = wA at *
        go_region_held3 (fun X => X.cell? ⟨wr.heap.size, 0, none⟩ = some (.pointer (some ⟨g, p.i * 11, none⟩)) ∧ X.cell? ⟨g, p.i * 11 + 3, none⟩ = some (.int .i64 xsz) ∧ X.cell? ⟨g, p.i * 11 + 5, none⟩ = some (.int .i64 xht)) (first | exact ⟨q0, f3, f5⟩ | go_keep) ((go_at_call 95; refine (above_any _ _ _ (by omega) (by omega)).mono ?_; rintro e w5 ⟨rfl, rfl⟩))
        have y1 : IntKind.i64.wrap (aboveF xsz xht + xsh) = aboveF xsz xht + xsh := IntWalk.i64_in _ (by omega)
        have y2 : IntKind.i64.wrap (xht - aboveF xsz xht) = xht - aboveF xsz xht := IntWalk.i64_in _ (by omega)
        have y3 : IntKind.i64.wrap (xht - aboveF xsz xht - xsh) = xht - aboveF xsz xht - xsh := IntWalk.i64_in _ (by omega)
        have f5' : wA.drew.cell? ⟨g, p.i * 11 + 5, none⟩ = some (.int .i64 xht) := f5
        have f7' : wA.drew.cell? ⟨g, p.i * 11 + 7, none⟩ = some (.int .i64 xsh) := f7
        have q0' : wA.drew.cell? ⟨wr.heap.size, 0, none⟩ = some (.pointer (some ⟨g, p.i * 11, none⟩)) := q0
        have b2 := b1.drew
        generalize wA.drew = wB at *
        go_wp2_with fail
        go_region_held3 (fun X => X.cell? ⟨wr.heap.size, 0, none⟩ = some (.pointer (some ⟨g, p.i * 11, none⟩)) ∧ X.cell? ⟨g, p.i * 11 + 5, none⟩ = some (.int .i64 xht) ∧ X.cell? ⟨g, p.i * 11 + 7, none⟩ = some (.int .i64 xsh)) (first | exact ⟨q0', f5', f7'⟩ | go_keep) (fail)
        all_goals
          go_wp2_with fail
          go_roundw
          case rel => exact ⟨k + 1, by omega, by go_num, by rw [HN2.out]; rfl, by rw [HN2.out]; rfl, b2.drew⟩
          case measure => simp only [intOf]; omega
    · obtain rfl : k = ps.length := by omega
      rw [List.take_length]
      have HM1 := HM.out ps.length
      rw [List.take_length] at HM1
      unfold MetB at HM1
      go_wp2_with fail
      go_ret2
      exact ⟨by rw [HH.out]; rfl, hbel⟩
end Go.Proofs.YtadlabndbomgmaaDoor
