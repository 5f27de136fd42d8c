/- The walk of lines.mayEnd. -/
import Derived.BigQuiet
import Derived.Handy
import Derived.IntWalk
import Derived.RegionTactic
import Derived.Deep.QuietTactic
import Derived.Deep.MidRow
import Derived.Deep.RegionHeld3
import Derived.Deep.Cut
import Derived.Deep.CutRange
import Derived.Deep.CutBlock
import Derived.Test.YtadlabndbomgmaaDoorJPartB
set_option linter.unusedVariables false
set_option linter.unusedSimpArgs false
namespace Go.Proofs.YtadlabndbomgmaaDoor
open Go.ChangeShapes Go.WideShapes Go.ChangeAt Go.RowKit
theorem PtsAt.d0 {w : World} {g h : Nat} {ps : List Pt} (hp : PtsAt w g h 0 ps) {k : Nat} (hk : k < ps.length) : w.cell? ⟨h, k * 5, none⟩ = some (.pointer (some ⟨g, (ptAt ps k).i * 11, none⟩)) := by
  have := hp k hk 0 (by omega)
  rw [Nat.zero_add, Nat.add_zero] at this; exact this
theorem PtsAt.d1 {w : World} {g h : Nat} {ps : List Pt} (hp : PtsAt w g h 0 ps) {k : Nat} (hk : k < ps.length) : w.cell? ⟨h, k * 5 + 1, none⟩ = some (.int .i64 (ptAt ps k).i) := by
  have := hp k hk 1 (by omega)
  rw [Nat.zero_add] at this; exact this
theorem PtsAt.d2 {w : World} {g h : Nat} {ps : List Pt} (hp : PtsAt w g h 0 ps) {k : Nat} (hk : k < ps.length) : w.cell? ⟨h, k * 5 + 2, none⟩ = some (.string (ptAt ps k).t) := by
  have := hp k hk 2 (by omega)
  rw [Nat.zero_add] at this; exact this
theorem PtsAt.d3 {w : World} {g h : Nat} {ps : List Pt} (hp : PtsAt w g h 0 ps) {k : Nat} (hk : k < ps.length) : w.cell? ⟨h, k * 5 + 3, none⟩ = some (.int .i64 (ptAt ps k).w) := by
  have := hp k hk 3 (by omega)
  rw [Nat.zero_add] at this; exact this
theorem PtsAt.d4 {w : World} {g h : Nat} {ps : List Pt} (hp : PtsAt w g h 0 ps) {k : Nat} (hk : k < ps.length) : w.cell? ⟨h, k * 5 + 4, none⟩ = some (.bool (ptAt ps k).last) := by
  have := hp k hk 4 (by omega)
  rw [Nat.zero_add] at this; exact this
theorem downF_le (xs : List It) (ps : List Pt) (k : Nat) : downF xs ps k ≤ k := by
  induction k with
  | zero => exact Nat.le_refl _
  | succ k ih => simp only [downF]; split <;> omega
theorem downF_step (xs : List It) (ps : List Pt) (k : Nat) : downF xs ps (k + 1) = if skipA (pKind xs (ptAt ps k)) = true then downF xs ps k else k + 1 := rfl
theorem upF_step (xs : List It) (ps : List Pt) (k : Nat) (h : k < ps.length) : upF xs ps (ps.length - k) k = if skipB (pKind xs (ptAt ps k)) = true then upF xs ps (ps.length - (k + 1)) (k + 1) else k := by
  rw [show ps.length - k = (ps.length - (k + 1)) + 1 by omega]; rfl
theorem upF_le (xs : List It) (ps : List Pt) : ∀ (f k : Nat), k ≤ upF xs ps f k ∧ upF xs ps f k ≤ k + f
  | 0, k => ⟨Nat.le_refl _, Nat.le_refl _⟩
  | f + 1, k => by
    have := upF_le xs ps f (k + 1)
    simp only [upF]
    split <;> omega
def DownQ (d : Nat) (v : Value) : Prop := (d = 0 ∧ v = .int .i64 (-1)) ∨ ∃ m : Nat, d = m + 1 ∧ v = .int .i64 (m : Int)
set_option maxRecDepth 100000 in
set_option maxHeartbeats 4000000 in
theorem mayEnd_any (xs : List It) (g : Nat) (ps : List Pt) (h c k : Nat) (w : World) (hI : ItsAt w g xs) (hg : g < w.heap.size) (hp : PtsAt w g h 0 ps) (hh : h < w.heap.size) (hl : ps.length ≤ 100000) (hk1 : 1 ≤ k) (hk : k < ps.length)
    (hok : ∀ p ∈ ps, p.i < xs.length ∧ PtOk xs p) :
    Calls Tryd.prog 42 #[.slice (some ⟨h, 0, none⟩) ps.length c, .int .i64 (k : Int)] w fun e w' => e = .returned (.bool (mayEndF xs ps k)) ∧ Below w.heap.size w w' := by
  have HI := hide hI
  have HP := hide hp
  have HOK := hide (fun j (hj : j < ps.length) => (by rw [ptAt_of ps j hj]; exact hok _ (List.getElem_mem hj) : (ptAt ps j).i < xs.length ∧ PtOk xs (ptAt ps j)))
  have HM := hide (show mayEndF xs ps k = if pKind xs (ptAt ps (k - 1)) = 2 ∨ pKind xs (ptAt ps k) = 3 then false else if downF xs ps k = 0 ∨ upF xs ps (ps.length - k) k = ps.length then false else mayAt xs ps (downF xs ps k - 1) (upF xs ps (ps.length - k) k) from rfl)
  clear hok
  obtain ⟨k1, rfl⟩ : ∃ k1, k = k1 + 1 := ⟨k - 1, by omega⟩
  have c0 := hp.d0 (k := k1) (by omega)
  have c1 := hp.d0 hk
  have i0 := hI.c0 (HOK.out k1 (by omega)).1
  have i1 := hI.c0 (HOK.out (k1 + 1) hk).1
  rw [Nat.add_sub_cancel] at HM
  have e0 : (itAt xs (ptAt ps k1).i).kind = pKind xs (ptAt ps k1) := rfl
  have e1 : (itAt xs (ptAt ps (k1 + 1)).i).kind = pKind xs (ptAt ps (k1 + 1)) := rfl
  rw [e0] at i0
  rw [e1] at i1
  clear e0 e1 hI hp
  have hkk : (((k1 + 1 : Nat) : Int) - 1) = k1 := by omega
  have w1 : IntKind.i64.wrap (((k1 + 1 : Nat) : Int) - 1) = (k1 : Int) := by rw [hkk]; exact IntWalk.i64_in _ (by omega)
  clear hkk
  generalize hk0 : pKind xs (ptAt ps k1) = kd0 at *
  generalize hk2 : pKind xs (ptAt ps (k1 + 1)) = kd1 at *
  have HK0 := hide hk0
  have HK1 := hide hk2
  clear hk0 hk2
  cases z0 : (kd0 == 2)
  · cases z1 : (kd1 == 3)
    · have hm := hide (HM.out.trans (if_neg (by simp at z0 z1; omega)))
      clear HM
      go_enter Tryd.func42, Tryd.ntmps42
      clear w1
      have HW1 := hide (show IntKind.i64.wrap (((k1 + 1 : Nat) : Int) - 1) = (k1 : Int) from by rw [show (((k1 + 1 : Nat) : Int) - 1) = k1 by omega]; exact IntWalk.i64_in _ (by omega))
      have w1 := HW1.out
      go_upto_block 0 with fail
      go_cut [5] from 34 (fun s5 wx => DownQ (downF xs ps (k1 + 1)) s5 ∧ w = wx)
      case first =>
        go_wp2_with fail
        clear c0 c1 i0 i1 w1
        go_loop [5] (fun v => ∃ m : Nat, m ≤ k1 + 1 ∧ downF xs ps (k1 + 1) = downF xs ps m ∧ ((m = 0 ∧ v = .int .i64 (-1)) ∨ ∃ q : Nat, m = q + 1 ∧ v = .int .i64 (q : Int))) (fun v => (intOf v + 1).toNat)
        case atStart => exact ⟨k1 + 1, Nat.le_refl _, rfl, .inr ⟨k1, rfl, rfl⟩⟩
        case round =>
          obtain ⟨m, hm1, hm2, hm3⟩ := hrel
          rcases hm3 with ⟨rfl, rfl⟩ | ⟨q, rfl, rfl⟩
          · go_wp2_with fail
            go_meet
            exact ⟨.inl ⟨hm2, rfl⟩, rfl⟩
          · have hq : q < ps.length := by omega
            have hs := downF_step xs ps q
            have c0 := HP.out.d0 hq
            have i0 := HI.out.c0 (HOK.out q hq).1
            have e0 : (itAt xs (ptAt ps q).i).kind = pKind xs (ptAt ps q) := rfl
            rw [e0] at i0
            clear e0
            have HSK := hide (show skipA (pKind xs (ptAt ps q)) = (pKind xs (ptAt ps q) == 3 || pKind xs (ptAt ps q) == 7 || pKind xs (ptAt ps q) == 5) from rfl)
            have HD := hide (hm2.trans hs)
            clear hs hm2
            have w2 : IntKind.i64.wrap ((q : Int) - 1) = (q : Int) - 1 := IntWalk.i64_in _ (by omega)
            generalize pKind xs (ptAt ps q) = kq at *
            cases z3 : (kq == 3) <;> cases z7 : (kq == 7) <;> cases z5 : (kq == 5)
            all_goals
              have hsk := hide (HSK.out.trans (by rw [z3, z7, z5]))
              clear HSK
              go_wp2_with fail
            all_goals first
              | (go_meet; exact ⟨.inr ⟨q, by rw [HD.out, hsk.out]; rfl, rfl⟩, rfl⟩)
              | (go_round
                 case rel =>
                   refine ⟨q, by omega, by rw [HD.out, hsk.out]; rfl, ?_⟩
                   cases q with
                   | zero => exact .inl ⟨rfl, rfl⟩
                   | succ q => exact .inr ⟨q, rfl, by congr 1; omega⟩
                 case measure => simp only [intOf]; omega)
      case rest =>
        obtain ⟨hd, rfl⟩ := hcut
        have HD := hide hd
        clear hd c0 c1 i0 i1 w1
        go_upto_block 2 with fail
        go_cut [6] from 71 (fun s6 wx => s6 = .int .i64 ((upF xs ps (ps.length - (k1 + 1)) (k1 + 1) : Nat) : Int) ∧ w = wx)
        case first =>
          go_wp2_with fail
          go_loop [6] (fun v => ∃ m : Nat, m ≤ ps.length ∧ upF xs ps (ps.length - (k1 + 1)) (k1 + 1) = upF xs ps (ps.length - m) m ∧ v = .int .i64 (m : Int)) (fun v => (ps.length - (intOf v).toNat))
          case atStart => exact ⟨k1 + 1, by omega, rfl, rfl⟩
          case round =>
            obtain ⟨m, hm1, hm2, rfl⟩ := hrel
            by_cases hlt : m < ps.length
            · have hs := upF_step xs ps m hlt
              have c0 := HP.out.d0 hlt
              have i0 := HI.out.c0 (HOK.out m hlt).1
              have e0 : (itAt xs (ptAt ps m).i).kind = pKind xs (ptAt ps m) := rfl
              rw [e0] at i0
              clear e0
              have HSK := hide (show skipB (pKind xs (ptAt ps m)) = (pKind xs (ptAt ps m) == 2 || pKind xs (ptAt ps m) == 7 || pKind xs (ptAt ps m) == 5) from rfl)
              have HU := hide (hm2.trans hs)
              clear hs hm2
              generalize pKind xs (ptAt ps m) = kq at *
              cases z2 : (kq == 2) <;> cases z7 : (kq == 7) <;> cases z5 : (kq == 5)
              all_goals
                have hsk := hide (HSK.out.trans (by rw [z2, z7, z5]))
                clear HSK
                go_wp2_with fail
              all_goals first
                | (go_meet; exact ⟨by rw [HU.out, hsk.out]; rfl, rfl⟩)
                | (go_round
                   case rel => exact ⟨m + 1, by omega, by rw [HU.out, hsk.out]; rfl, by go_num⟩
                   case measure => simp only [intOf]; omega)
            · obtain rfl : m = ps.length := by omega
              have hz : upF xs ps (ps.length - ps.length) ps.length = ps.length := by rw [Nat.sub_self]; rfl
              have HU := hide (hm2.trans hz)
              clear hm2 hz
              go_wp2_with fail
              go_meet
              exact ⟨by rw [HU.out], rfl⟩
        case rest =>
          obtain ⟨rfl, rfl⟩ := hcut
          have hb := upF_le xs ps (ps.length - (k1 + 1)) (k1 + 1)
          have hdl := downF_le xs ps (k1 + 1)
          generalize hB : upF xs ps (ps.length - (k1 + 1)) (k1 + 1) = b at *
          generalize hA : downF xs ps (k1 + 1) = d at *
          clear hA hB
          have hbn : b ≤ ps.length := by omega
          have hkb : k1 + 1 ≤ b := hb.1
          clear hb
          rcases HD.out with ⟨rfl, rfl⟩ | ⟨a, rfl, rfl⟩
          · have hr := hide (hm.out.trans (if_pos (.inl rfl)))
            clear hm HD
            go_wp2_with fail
            go_ret
            exact ⟨ret_bool (by rw [hr.out]), Below.refl _ _⟩
          · clear HD
            by_cases hbe : b = ps.length
            · have hr := hide (hm.out.trans (if_pos (.inr hbe)))
              have zb : ((b : Int) == (ps.length : Int)) = true := by simp [hbe]
              clear hm hbe
              go_wp2_with fail
              go_ret
              exact ⟨ret_bool (by rw [hr.out]), Below.refl _ _⟩
            · have hr := hide (hm.out.trans (if_neg (by omega)))
              have zb : ((b : Int) == (ps.length : Int)) = false := beq_eq_false_iff_ne.2 (by omega)
              have hbl : b < ps.length := by omega
              have hal : a < ps.length := by omega
              clear hm hbe
              go_wp2_with fail
              have P := HP.out
              have a0 := P.d0 hal
              have a1 := P.d1 hal
              have a2 := P.d2 hal
              have a3 := P.d3 hal
              have a4 := P.d4 hal
              have b0 := P.d0 hbl
              have b1 := P.d1 hbl
              have b2 := P.d2 hbl
              have b3 := P.d3 hbl
              have b4 := P.d4 hbl
              clear P
              have HIA := hide (HOK.out a hal)
              have HIB := hide (HOK.out b hbl)
              have hr2 := hr.out
              rw [Nat.add_sub_cancel] at hr2
              have HR := hide (hr2.trans (show mayAt xs ps a b = (if pKind xs (ptAt ps a) = 4 ∨ pKind xs (ptAt ps b) = 4 then true else (pKind xs (ptAt ps a) == 1 && pKind xs (ptAt ps b) == 1) && (!(ptAt ps a).last || (endsF xs (ptAt ps a) && (pMode xs (ptAt ps a) == 0 || pMode xs (ptAt ps a) == 3)))) from rfl))
              clear hr hr2
              generalize ptAt ps a = pa at *
              generalize ptAt ps b = pb at *
              go_upto_region 10 with fail
              go_cut [7, 8] from 118 (fun s7 s8 wx => ∃ p q, s7 = .pointer (some ⟨p, 0, none⟩) ∧ s8 = .pointer (some ⟨q, 0, none⟩) ∧ Hid (Blk wx p 96 (ptV g pa)) ∧ Hid (Blk wx q 96 (ptV g pb)) ∧ Below w.heap.size w wx)
              case first =>
                have A1 := hide (((Blk.new w 96 (ptV g pa)).alloc (.cells (ptV g pb) 96)).drew)
                have A2 := Blk.new (w.alloc (.cells (ptV g pa) 96)) 96 (ptV g pb)
                have B1 := hide (((Blk.new w 96 (ptV g pb)).alloc (.cells (ptV g pa) 96)).drew)
                have B2 := Blk.new (w.alloc (.cells (ptV g pb) 96)) 96 (ptV g pa)
                rw [World.size_alloc] at A2 B2
                have A3 := hide A2.drew
                have B3 := hide B2.drew
                have L1 := ((((Below.refl w.heap.size w).alloc (Nat.le_refl _) (.cells (ptV g pa) 96)).alloc (by simp) (.cells (ptV g pb) 96))).drew
                have L2 := ((((Below.refl w.heap.size w).alloc (Nat.le_refl _) (.cells (ptV g pb) 96)).alloc (by simp) (.cells (ptV g pa) 96))).drew
                clear A2 B2
                go_region
                all_goals
                  go_wp2_with fail
                  go_meet
                  first | exact ⟨_, _, rfl, rfl, A1, A3, L1⟩ | exact ⟨_, _, rfl, rfl, B3, B1, L2⟩
              case rest =>
                obtain ⟨p, q, rfl, rfl, HP2, HQ2, hb2⟩ := hcut
                clear a0 a1 a2 a3 a4 b0 b1 b2 b3 b4
                have hIc := HI.out.below hb2 hg
                have ia := hIc.c0 HIA.out.1
                have ib := hIc.c0 HIB.out.1
                have im := hIc.c6 HIA.out.1
                have ea : (itAt xs pa.i).kind = pKind xs pa := rfl
                have eb : (itAt xs pb.i).kind = pKind xs pb := rfl
                have em : (itAt xs pa.i).mode = pMode xs pa := rfl
                rw [ea] at ia
                rw [eb] at ib
                rw [em] at im
                clear ea eb em
                have a0 : wc.cell? ⟨p, 0, none⟩ = some (.pointer (some ⟨g, pa.i * 11, none⟩)) := HP2.out.cell 0
                have a1 : wc.cell? ⟨p, 1, none⟩ = some (.int .i64 pa.i) := HP2.out.cell 1
                have a2 : wc.cell? ⟨p, 2, none⟩ = some (.string pa.t) := HP2.out.cell 2
                have a3 : wc.cell? ⟨p, 3, none⟩ = some (.int .i64 pa.w) := HP2.out.cell 3
                have a4 : wc.cell? ⟨p, 4, none⟩ = some (.bool pa.last) := HP2.out.cell 4
                have b0 : wc.cell? ⟨q, 0, none⟩ = some (.pointer (some ⟨g, pb.i * 11, none⟩)) := HQ2.out.cell 0
                have HE := hide (ends_any xs g pa wc hIc HIA.out.1 (by have := HIA.out.2; unfold PtOk at this; omega))
                clear HP2 HQ2 hIc HI HP HOK HIA HIB
                generalize pKind xs pa = ka at *
                generalize pKind xs pb = kb at *
                generalize pMode xs pa = ma at *
                generalize endsF xs pa = en at *
                cases zka : (ka == 4)
                · cases zkb : (kb == 4)
                  · have hr := hide (HR.out.trans (if_neg (by simp at zka zkb; omega)))
                    clear HR
                    cases zm0 : (ma == 0)
                    · cases zm3 : (ma == 3)
                      · cases z1a : (ka == 1)
                        · have hr2 := hide (hr.out.trans (by rw [zm0, zm3, z1a]))
                          clear hr
                          go_wp2_with fail
                          go_ret
                          exact ⟨ret_bool (by rw [hr2.out]; rfl), hb2⟩
                        · cases z1b : (kb == 1)
                          · have hr2 := hide (hr.out.trans (by rw [zm0, zm3, z1a, z1b]))
                            clear hr
                            go_wp2_with fail
                            go_ret
                            exact ⟨ret_bool (by rw [hr2.out]; rfl), hb2⟩
                          · cases hla : pa.last
                            · have hr2 := hide (hr.out.trans (by rw [zm0, zm3, z1a, z1b, hla]))
                              clear hr
                              rw [hla] at a4 HE
                              clear hla
                              go_wp2_with fail
                              go_ret
                              exact ⟨ret_bool (by rw [hr2.out]; rfl), hb2⟩
                            · cases hen : en
                              · have hr2 := hide (hr.out.trans (by rw [zm0, zm3, z1a, z1b, hla, hen]))
                                clear hr
                                rw [hla] at a4 HE
                                rw [hen] at HE
                                clear hla hen
                                go_wp2_with (go_at_call 65; refine HE.out.mono ?_; rintro e w5 ⟨rfl, hb5⟩)
                                go_ret
                                exact ⟨ret_bool (by rw [hr2.out]; rfl), below_on hb2 hb5⟩
                              · have hr2 := hide (hr.out.trans (by rw [zm0, zm3, z1a, z1b, hla, hen]))
                                clear hr
                                rw [hla] at a4 HE
                                rw [hen] at HE
                                clear hla hen
                                go_wp2_with (go_at_call 65; refine HE.out.mono ?_; rintro e w5 ⟨rfl, hb5⟩)
                                go_ret
                                exact ⟨ret_bool (by rw [hr2.out]; rfl), below_on hb2 hb5⟩
                      · cases z1a : (ka == 1)
                        · have hr2 := hide (hr.out.trans (by rw [zm0, zm3, z1a]))
                          clear hr
                          go_wp2_with fail
                          go_ret
                          exact ⟨ret_bool (by rw [hr2.out]; rfl), hb2⟩
                        · cases z1b : (kb == 1)
                          · have hr2 := hide (hr.out.trans (by rw [zm0, zm3, z1a, z1b]))
                            clear hr
                            go_wp2_with fail
                            go_ret
                            exact ⟨ret_bool (by rw [hr2.out]; rfl), hb2⟩
                          · cases hla : pa.last
                            · have hr2 := hide (hr.out.trans (by rw [zm0, zm3, z1a, z1b, hla]))
                              clear hr
                              rw [hla] at a4 HE
                              clear hla
                              go_wp2_with fail
                              go_ret
                              exact ⟨ret_bool (by rw [hr2.out]; rfl), hb2⟩
                            · cases hen : en
                              · have hr2 := hide (hr.out.trans (by rw [zm0, zm3, z1a, z1b, hla, hen]))
                                clear hr
                                rw [hla] at a4 HE
                                rw [hen] at HE
                                clear hla hen
                                go_wp2_with (go_at_call 65; refine HE.out.mono ?_; rintro e w5 ⟨rfl, hb5⟩)
                                go_ret
                                exact ⟨ret_bool (by rw [hr2.out]; rfl), below_on hb2 hb5⟩
                              · have hr2 := hide (hr.out.trans (by rw [zm0, zm3, z1a, z1b, hla, hen]))
                                clear hr
                                rw [hla] at a4 HE
                                rw [hen] at HE
                                clear hla hen
                                go_wp2_with (go_at_call 65; refine HE.out.mono ?_; rintro e w5 ⟨rfl, hb5⟩)
                                go_ret
                                exact ⟨ret_bool (by rw [hr2.out]; rfl), below_on hb2 hb5⟩
                    · cases z1a : (ka == 1)
                      · have hr2 := hide (hr.out.trans (by rw [zm0, z1a]))
                        clear hr
                        go_wp2_with fail
                        go_ret
                        exact ⟨ret_bool (by rw [hr2.out]; rfl), hb2⟩
                      · cases z1b : (kb == 1)
                        · have hr2 := hide (hr.out.trans (by rw [zm0, z1a, z1b]))
                          clear hr
                          go_wp2_with fail
                          go_ret
                          exact ⟨ret_bool (by rw [hr2.out]; rfl), hb2⟩
                        · cases hla : pa.last
                          · have hr2 := hide (hr.out.trans (by rw [zm0, z1a, z1b, hla]))
                            clear hr
                            rw [hla] at a4 HE
                            clear hla
                            go_wp2_with fail
                            go_ret
                            exact ⟨ret_bool (by rw [hr2.out]; rfl), hb2⟩
                          · cases hen : en
                            · have hr2 := hide (hr.out.trans (by rw [zm0, z1a, z1b, hla, hen]))
                              clear hr
                              rw [hla] at a4 HE
                              rw [hen] at HE
                              clear hla hen
                              go_wp2_with (go_at_call 65; refine HE.out.mono ?_; rintro e w5 ⟨rfl, hb5⟩)
                              go_ret
                              exact ⟨ret_bool (by rw [hr2.out]; rfl), below_on hb2 hb5⟩
                            · have hr2 := hide (hr.out.trans (by rw [zm0, z1a, z1b, hla, hen]))
                              clear hr
                              rw [hla] at a4 HE
                              rw [hen] at HE
                              clear hla hen
                              go_wp2_with (go_at_call 65; refine HE.out.mono ?_; rintro e w5 ⟨rfl, hb5⟩)
                              go_ret
                              exact ⟨ret_bool (by rw [hr2.out]; rfl), below_on hb2 hb5⟩
                  · have hr := hide (HR.out.trans (if_pos (by simp at zka zkb; omega)))
                    clear HR HE
                    go_wp2_with fail
                    go_ret
                    exact ⟨ret_bool (by rw [hr.out]), hb2⟩
                · have hr := hide (HR.out.trans (if_pos (by simp at zka; omega)))
                  clear HR HE
                  go_wp2_with fail
                  go_ret
                  exact ⟨ret_bool (by rw [hr.out]), hb2⟩
    · have hm := hide (HM.out.trans (if_pos (by simp at z0 z1; omega)))
      clear HM
      go_enter Tryd.func42, Tryd.ntmps42
      go_wp2_with fail
      go_ret
      exact ⟨ret_bool (by rw [hm.out]), Below.refl _ _⟩
  · have hm := hide (HM.out.trans (if_pos (by simp at z0; omega)))
    clear HM
    go_enter Tryd.func42, Tryd.ntmps42
    go_wp2_with fail
    go_ret
    exact ⟨ret_bool (by rw [hm.out]), Below.refl _ _⟩
end Go.Proofs.YtadlabndbomgmaaDoor
