/- The walk of the statement DamageAll: it returns true. -/
import Derived.BigQuiet
import Derived.Handy
import Derived.IntWalk
import Derived.Deep.QuietTactic
import Derived.Deep.MidRow
import Derived.Test.YtbpkffoooieejaaRedraw
namespace Go.Proofs.Ytbpkffoooieejaa
open Go.ChangeShapes Go.WideShapes Go.ChangeAt Go.RowKit
def oldF (xs : List Int) (k : Nat) : List Int := (List.range k).map fun i => if i < xs.length then at0 xs i else 7
theorem oldF_len (xs : List Int) (k : Nat) : (oldF xs k).length = k := by simp [oldF]
theorem oldF_snoc (xs : List Int) (k : Nat) : oldF xs (k + 1) = oldF xs k ++ [if k < xs.length then at0 xs k else 7] := by unfold oldF; rw [List.range_succ, List.map_append]; rfl
def R384 : Nat → Nat → Int := fun _ j => if j < 2 then 0 else 384
theorem cut384 : cutTo R384 1 = [⟨0, 0, 384, 384⟩] := by kernel_rfl
theorem all_in {i : Nat} (h : i < 36) : inK (cutTo R384 1) i = true := by
  rw [cut384]
  unfold inK withinF
  rw [List.any_cons, List.any_nil, Bool.or_false, inR_iff]
  unfold px py
  dsimp only
  omega
theorem cnt_to (rs : List Rc) (h : ∀ i, i < 36 → inK rs i = true) : ∀ k, k ≤ 36 → cntK rs k = (k : Int)
  | 0, _ => rfl
  | k + 1, hk => by simp only [cntK]; rw [cnt_to rs h k (by omega), h k (by omega)]; simp
theorem cnt_all : cntK (cutTo R384 1) 36 = 36 := cnt_to _ (fun _ h => all_in h) 36 (Nat.le_refl _)
theorem fresh_at {s : List Cm} (h : (drawE s 6 6).1 = 0) (i : Nat) (hi : i < 36) : at0 (drawE s 6 6).2 i = newK (flatF s).2 i := by
  rw [drawE_of (by omega) (drawE_flat (by omega) h)]
  exact draw_at glyphF (flatF s).2 6 6 i (by omega)
theorem ext_at {l m : List Int} (hl : l.length = m.length) (h : ∀ i, i < l.length → at0 l i = at0 m i) : l = m :=
  List.ext_getElem hl fun i h1 h2 => by rw [← at0_of l i h1, ← at0_of m i h2]; exact h i h1
theorem red_all {s : List Cm} (h : (drawE s 6 6).1 = 0) (old : List Int) : redK (flatF s).2 (cutTo R384 1) old 36 = (drawE s 6 6).2 := by
  refine ext_at (by rw [redK_len, drawE_len h]) fun i hi => ?_
  rw [redK_len] at hi
  rw [redK_at _ _ _ _ _ hi, if_pos hi, all_in hi, if_pos rfl, fresh_at h i hi]
theorem part_at {s : List Cm} (h : (drawE s 6 6).1 = 0) (rs : List Rc) (old : List Int) (i : Nat) (hi : i < 36) :
    at0 (redK (flatF s).2 rs old 36) i = at0 old i ∨ (inK rs i = true ∧ at0 (redK (flatF s).2 rs old 36) i = at0 (drawE s 6 6).2 i) := by
  rw [redK_at _ _ _ _ _ hi, if_pos hi, fresh_at h i hi]
  cases hin : inK rs i
  · left; simp
  · right; simp
set_option maxRecDepth 100000 in
set_option maxHeartbeats 8000000 in
theorem damageAll_any (xs : List Int) (l : List Cm) (R : Nat → Nat → Int) (A0 A1 A2 : Option Addr) (n0 c0 n1 c1 n2 c2 : Nat) (w : World) (hx : Reads w w.heap.size 1 A0 n0 (xs.map (Value.int .i64))) (_ : n0 ≤ c0) (_ : c0 ≤ maxLen)
    (hr : Reads w w.heap.size 9 A1 n1 (cmCells l)) (hl : l.length = n1) (hn1 : n1 ≤ c1) (hc1 : c1 ≤ maxLen) (hrr : Recs w w.heap.size 4 A2 n2 R) (hn2 : n2 ≤ c2) (hc2 : c2 ≤ maxLen) :
    Calls Try.prog 7 #[.slice A0 n0 c0, .slice A1 n1 c1, .slice A2 n2 c2] w fun e w' => e = .returned (.bool true) ∧ Below w.heap.size w w' := by
  have hxl : xs.length = n0 := by have := hx.1; simpa using this
  have HX := hide hx
  have HRR := hide hrr
  have HR := hide hr
  have HB1 := hide (show l.length = n1 ∧ n1 ≤ c1 ∧ c1 ≤ maxLen from ⟨hl, hn1, hc1⟩)
  have HB2 := hide (show n2 ≤ c2 ∧ c2 ≤ maxLen from ⟨hn2, hc2⟩)
  have hXL := hide hxl
  clear hx hrr hr hl hn1 hc1 hn2 hc2 hxl
  go_enter Try.func7, Try.ntmps7
  go_wp2_with fail
  refine (small_any l A1 n1 c1 w HR.out HB1.out.1 HB1.out.2.1 HB1.out.2.2).mono ?_
  clear HR
  rintro e w1 ⟨v1, rfl, own1, hb1⟩
  have hs20 : (smallF l).length ≤ 20 := by rw [smallF_len]; omega
  have hst := hide (smallF_txt l)
  clear HB1
  generalize smallF l = s at *
  obtain ⟨A3, c3, rfl, _, _⟩ := own_reads own1
  have S1 := hide own1
  have X1 := hide (HX.out.below hb1)
  have hsz1 := hb1.size
  have L1 := hb1
  clear own1 hb1 HX
  go_wp2_with fail
  go_loopw [7, 22] (fun v i wr => ∃ k : Nat, k ≤ 36 ∧ i = .int .i64 k ∧ wr.ownsRow w1.heap.size 3 1 v k ((oldF xs k).map (Value.int .i64)) ∧ Below w1.heap.size w1 wr) (fun _ i _ => 36 - (intOf i).toNat)
  case atStart => exact ⟨0, Nat.zero_le _, rfl, own_none _ _ _ _, Below.refl _ _⟩
  case round =>
    obtain ⟨k, hk, rfl, hown, hbel⟩ := hrel
    by_cases hlt : k < 36
    · have hk1 : (0 : Int) ≤ (k : Int) := by omega
      obtain ⟨v, hv⟩ : ∃ v, v = u7 := ⟨_, rfl⟩
      rw [← hv] at hown ⊢
      clear hv
      by_cases hkn : k < n0
      · have hk2 : (k : Int) < (n0 : Int) := by omega
        obtain ⟨ad, rfl, _, hcell⟩ := (X1.out.below (hbel.mono hsz1)).int_at hkn
        have HIF := hide (show (if k < xs.length then at0 xs k else 7) = at0 xs k from if_pos (by rw [hXL.out]; exact hkn))
        have MS := hide (show (oldF xs (k + 1)).map (Value.int .i64) = (oldF xs k).map (Value.int .i64) ++ (#[.int .i64 (at0 xs k)] : Array Value).toList from by rw [oldF_snoc, List.map_append, HIF.out]; rfl)
        have HV := hide (hown.alloc (.cells #[.int .i64 (at0 xs k)] 3))
        have HK := hide (Blk.new wr 3 #[.int .i64 (at0 xs k)])
        have HBL := hide (hbel.alloc hbel.size (.cells #[.int .i64 (at0 xs k)] 3))
        have HKN := hide (show k ≤ 1000000 by omega)
        clear hown
        go_wp2_with (first | (at_builtin; refine wpList_app1 rfl (.tmp 33) (.tmp 35) _ rfl w1.heap.size 3 _ 1 8 Try.underlying38 int_info rfl (Nat.succ_pos _) _ k _ rfl HV.out wr.heap.size 1 _ HK.out rfl rfl rfl HKN.out (Nat.le_of_ble_eq_true rfl) HBL.out.size ?_; intro v9 w9 hown9 hg9; have O9 := hide hown9; have hb9 := own_below HV.out HBL.out (Nat.le_refl _) (Nat.le_refl _) hg9; clear hown9 hg9) | fail)
        go_roundw
        case rel => exact ⟨k + 1, by omega, by go_num, by rw [MS.out]; exact O9.out, hb9⟩
        case measure => simp [intOf]; omega
      · have HIF := hide (show (if k < xs.length then at0 xs k else 7) = 7 from if_neg (by rw [hXL.out]; exact hkn))
        have MS := hide (show (oldF xs (k + 1)).map (Value.int .i64) = (oldF xs k).map (Value.int .i64) ++ (#[.int .i64 7] : Array Value).toList from by rw [oldF_snoc, List.map_append, HIF.out]; rfl)
        have HV := hide (hown.alloc (.cells #[.int .i64 7] 3))
        have HK := hide (Blk.new wr 3 #[.int .i64 7])
        have HBL := hide (hbel.alloc hbel.size (.cells #[.int .i64 7] 3))
        have HKN := hide (show k ≤ 1000000 by omega)
        clear hown
        go_wp2_with (first | (at_builtin; refine wpList_app1 rfl (.tmp 33) (.tmp 35) _ rfl w1.heap.size 3 _ 1 8 Try.underlying38 int_info rfl (Nat.succ_pos _) _ k _ rfl HV.out wr.heap.size 1 _ HK.out rfl rfl rfl HKN.out (Nat.le_of_ble_eq_true rfl) HBL.out.size ?_; intro v9 w9 hown9 hg9; have O9 := hide hown9; have hb9 := own_below HV.out HBL.out (Nat.le_refl _) (Nat.le_refl _) hg9; clear hown9 hg9) | fail)
        go_roundw
        case rel => exact ⟨k + 1, by omega, by go_num, by rw [MS.out]; exact O9.out, hb9⟩
        case measure => simp [intOf]; omega
    · obtain rfl : k = 36 := by omega
      obtain ⟨v, hv⟩ : ∃ v, v = u7 := ⟨_, rfl⟩
      rw [← hv] at hown ⊢
      clear hv
      obtain ⟨Ao, co, rfl, _, _⟩ := own_reads hown
      have O2 := hide hown
      have S2 := hide (own_keep S1.out hbel (own_lt S1.out))
      have L2 := below_then L1 (Nat.le_refl _) hbel
      have RR2 := hide (recs_more (HRR.out.below L2) L2.size)
      clear hown hbel L1 S1 X1 HRR
      have hol := hide (oldF_len xs 36)
      generalize oldF xs 36 = old at *
      go_wp2_with fail
      refine (Draw_any s 6 6 w.heap.size c3 A3 wr (by omega) (fun x hx => by have := hst.out x hx; omega) S2.out).mono ?_
      rintro e w3 ⟨v3, rfl, own3, hb3⟩
      have O3 := hide (own_keep O2.out hb3 (own_lt O2.out))
      have S3 := hide (own_keep S2.out hb3 (own_lt S2.out))
      have L3 := below_then L2 (Nat.le_refl _) hb3
      have RR3 := hide (recs_more (RR2.out.below hb3) hb3.size)
      clear hb3 O2 S2 L2 RR2
      by_cases he : (drawE s 6 6).1 = 0
      · have hlen := drawE_len he
        have hfl := drawE_flat (by omega) he
        have RA := hide (red_all he old)
        have PA := hide (part_at he (cutTo R (min n2 1000)) old)
        rw [he]
        clear he
        generalize (drawE s 6 6).2 = D at *
        obtain ⟨A4, c4, rfl, _, _⟩ := own_reads own3
        rw [hlen] at own3 ⊢
        have D3 := hide own3
        have HS := hide (show s.length ≤ 30 by omega)
        have HST := hide (show ∀ x ∈ s, x.t.size ≤ 400 from fun x hx => by have := hst.out x hx; omega)
        have HFL := hide hfl
        clear hlen own3 hfl
        have K3 := hide (Blk.new w3 36 #[.int .i64 0, .int .i64 0, .int .i64 384, .int .i64 384])
        have L4 := L3.alloc L3.size (.cells #[.int .i64 0, .int .i64 0, .int .i64 384, .int .i64 384] 36)
        have O4 := hide (O3.out.alloc (.cells #[.int .i64 0, .int .i64 0, .int .i64 384, .int .i64 384] 36))
        have S4 := hide (S3.out.alloc (.cells #[.int .i64 0, .int .i64 0, .int .i64 384, .int .i64 384] 36))
        have D4 := hide (D3.out.alloc (.cells #[.int .i64 0, .int .i64 0, .int .i64 384, .int .i64 384] 36))
        have RR4 := hide (show Recs (w3.alloc (.cells #[.int .i64 0, .int .i64 0, .int .i64 384, .int .i64 384] 36)) (w3.alloc (.cells #[.int .i64 0, .int .i64 0, .int .i64 384, .int .i64 384] 36)).heap.size 4 A2 n2 R from recs_more (RR3.out.below ((Below.refl w3.heap.size w3).alloc (Nat.le_refl _) _)) (by simp))
        have hgl : w3.heap.size < (w3.alloc (.cells #[.int .i64 0, .int .i64 0, .int .i64 384, .int .i64 384] 36)).heap.size := by simp
        clear O3 S3 L3 RR3 D3
        go_wp2_with fail
        generalize w3.alloc (.cells #[.int .i64 0, .int .i64 0, .int .i64 384, .int .i64 384] 36) = w4 at *
        generalize w3.heap.size = g4 at *
        have RB := hide (show Recs w4 w4.heap.size 4 (some ⟨g4, 0, none⟩) 1 R384 from fun k hk => ⟨g4, 0, rfl, hgl, fun j hj => by
          obtain rfl : k = 0 := by omega
          rcases (show j = 0 ∨ j = 1 ∨ j = 2 ∨ j = 3 by omega) with rfl | rfl | rfl | rfl
          · exact K3.out.cell 0
          · exact K3.out.cell 1
          · exact K3.out.cell 2
          · exact K3.out.cell 3⟩)
        have G1 := redraw_any s old R384 w.heap.size w1.heap.size c3 co 1 1 A3 Ao (some ⟨g4, 0, none⟩) w4 HS.out HST.out HFL.out hol.out S4.out O4.out RB.out (Nat.le_refl _) (by simp only [maxLen]; omega)
        rw [show min 1 1000 = 1 from rfl, cnt_all, RA.out] at G1
        refine G1.mono ?_
        clear G1 RB K3 RA
        rintro e w5 ⟨v5, rfl, own5, hb5⟩
        have O5 := hide (own_keep O4.out hb5 (own_lt O4.out))
        have S5 := hide (own_keep S4.out hb5 (own_lt S4.out))
        have D5 := hide (own_keep D4.out hb5 (own_lt D4.out))
        have RR5 := hide (recs_more (RR4.out.below hb5) hb5.size)
        have L5 := below_then L4 (Nat.le_refl _) hb5
        obtain ⟨A5, c5, rfl, _, _⟩ := own_reads own5
        have N5 := hide own5
        clear hb5 own5 O4 S4 D4 RR4 L4
        go_wp2_with fail
        refine (redraw_any s old R w.heap.size w1.heap.size c3 co c2 n2 A3 Ao A2 w5 HS.out HST.out HFL.out hol.out S5.out O5.out RR5.out HB2.out.1 HB2.out.2).mono ?_
        rintro e w6 ⟨v6, rfl, own6, hb6⟩
        have hpl := redK_len (flatF s).2 (cutTo R (min n2 1000)) old 36
        generalize cutTo R (min n2 1000) = rs at *
        generalize redK (flatF s).2 rs old 36 = P at *
        obtain ⟨A6, c6, rfl, _, r6⟩ := own_reads own6
        obtain ⟨B5, d5, hv5, _, r5⟩ := own_reads (own_keep N5.out hb6 (own_lt N5.out))
        obtain ⟨B4, d4, hv4, _, r4⟩ := own_reads (own_keep D5.out hb6 (own_lt D5.out))
        obtain ⟨B3, d3, hv3, _, r3⟩ := own_reads (own_keep O5.out hb6 (own_lt O5.out))
        injection hv5 with hv5 _ _
        injection hv4 with hv4 _ _
        injection hv3 with hv3 _ _
        subst hv5
        subst hv4
        subst hv3
        have R6 := hide r6
        have R5 := hide r5
        have R4 := hide r4
        have R3 := hide r3
        have L6 := below_then L5 (Nat.le_refl _) hb6
        have HN := hide (show (36 : Nat) ≤ 1000000 by omega)
        clear own6 hb6 r6 r5 r4 r3 N5 D5 O5 S5 RR5 L5
        go_wp2_with fail
        refine (Eq_same A5 A4 36 _ _ _ _ D _ R5.out R4.out HN.out).mono ?_
        rintro e w7 ⟨rfl, rfl⟩
        go_wp2_with fail
        clear R5 hol
        go_loopw [18, 86] (fun ch i wr => ∃ (k : Nat) (m : Int), k ≤ 36 ∧ i = .int .i64 k ∧ ch = .int .i64 m ∧ 0 ≤ m ∧ m ≤ cntK rs k ∧ ∃ j, wr = w6.drewN j) (fun _ i _ => 36 - (intOf i).toNat)
        case atStart => exact ⟨0, 0, Nat.zero_le _, rfl, rfl, Int.le_refl _, Int.le_refl _, 0, rfl⟩
        case round =>
          obtain ⟨k, m, hk, rfl, rfl, hm0, hmk, j, rfl⟩ := hrel
          have hcb := cntK_bd rs k
          by_cases hlt : k < 36
          · have hk1 : (0 : Int) ≤ (k : Int) := by omega
            have hk2 : (k : Int) < 36 := by omega
            obtain ⟨ad6, rfl, _, a6⟩ := R6.out.int_at hlt
            obtain ⟨ad4, rfl, _, a4⟩ := R4.out.int_at hlt
            obtain ⟨ad3, rfl, _, a3⟩ := R3.out.int_at hlt
            have hpa := PA.out k hlt
            have HCK := hide (show cntK rs (k + 1) = cntK rs k + (if inK rs k then 1 else 0) from rfl)
            generalize at0 P k = p at *
            generalize at0 old k = o at *
            generalize at0 D k = f at *
            by_cases hpo : p = o
            · subst hpo
              have z1 : (p != p) = false := by simp
              clear hpa
              go_wp2_with fail
              go_quiet (fail)
              go_wp2_with fail
              go_quiet (fail)
              go_wp2_with fail
              go_roundw
              case rel => exact ⟨k + 1, m, by omega, by go_num, rfl, hm0, by rw [HCK.out]; split <;> omega, _, rfl⟩
              case measure => simp [intOf]; omega
            · have hpa2 := hpa.resolve_left hpo
              have HIN := hide hpa2.1
              have hpf := hpa2.2
              subst hpf
              have z1 : (p != o) = true := by simp [hpo]
              have z2 : (p != p) = false := by simp
              clear hpa hpa2 hpo
              go_wp2_with fail
              go_quiet (fail)
              go_wp2_with fail
              go_quiet (fail)
              go_wp2_with fail
              go_roundw
              case rel => exact ⟨k + 1, m + 1, by omega, by go_num, by go_num, by omega, by rw [HCK.out, HIN.out]; simp; omega, _, rfl⟩
              case measure => simp [intOf]; omega
          · obtain rfl : k = 36 := by omega
            have L7 := below_drewN L6 j
            have z9 : decide (m ≤ cntK rs 36) = true := decide_eq_true hmk
            go_wp2_with (first | (go_at_call 12; refine (drawn_any _).mono ?_; rintro e w9 ⟨rfl, hb9⟩; have L9 := below_then L7 (Nat.le_refl _) hb9) | fail)
            go_ret
            exact ⟨rfl, L9⟩
      · have z1 : ((drawE s 6 6).1 != 0) = true := by simp [he]
        clear he own3
        go_wp2_with (first | (go_at_call 12; refine (drawn_any _).mono ?_; rintro e w9 ⟨rfl, hb9⟩; have L9 := below_then L3 (Nat.le_refl _) hb9) | fail)
        go_ret
        exact ⟨rfl, L9⟩
end Go.Proofs.Ytbpkffoooieejaa
