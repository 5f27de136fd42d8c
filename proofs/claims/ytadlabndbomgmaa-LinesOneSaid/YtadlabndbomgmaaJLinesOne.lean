/- The walk of LinesOne. -/
import Derived.BigQuiet
import Derived.Handy
import Derived.IntWalk
import Derived.RegionTactic
import Derived.Deep.MidRow
import Derived.Test.YtadlabndbomgmaaJ6
set_option linter.unusedVariables false
set_option linter.unusedSimpArgs false
namespace Go.Proofs.Ytadlabndbomgmaa
open Go.ChangeShapes Go.WideShapes Go.ChangeAt Go.RowKit
/-- Items but those that float, of the first k. -/
def ownTo (l : List It) (k : Nat) : List It := (l.take k).filter fun x => x.kind != 5
def manyTo (l : List It) (k : Nat) : Nat := 1 + (l.take k).countP fun x => x.kind == 6
theorem ownTo_next (l : List It) (k : Nat) (h : k < l.length) : ownTo l (k + 1) = if (itAt l k).kind != 5 then ownTo l k ++ [itAt l k] else ownTo l k := by
  unfold ownTo
  rw [List.take_succ_eq_append_getElem h, List.filter_append, itAt_of l k h]
  split
  · rw [List.filter_cons_of_pos (by assumption)]; simp
  · rw [List.filter_cons_of_neg (by assumption)]; simp
theorem manyTo_next (l : List It) (k : Nat) (h : k < l.length) : manyTo l (k + 1) = if (itAt l k).kind == 6 then manyTo l k + 1 else manyTo l k := by
  unfold manyTo
  rw [List.take_succ_eq_append_getElem h, List.countP_append, itAt_of l k h, List.countP_cons, List.countP_nil]
  split <;> simp_all <;> omega
theorem ownTo_many (l : List It) : (ownTo l l.length).countP (fun x => x.kind == 6) + 1 = manyTo l l.length := by
  unfold ownTo manyTo
  rw [List.take_length, List.countP_filter]
  have e : l.countP (fun a => (a.kind == 6) && (a.kind != 5)) = l.countP (fun x => x.kind == 6) := by
    refine List.countP_congr fun x _ => ?_
    simp only [Bool.and_eq_true, beq_iff_eq, bne_iff_ne]
    omega
  rw [e]; omega
theorem ownTo_ok {l : List It} (h : ItsOk l) : ItsOk (ownTo l l.length) ∧ ∀ x ∈ ownTo l l.length, x.kind ≠ 5 := by
  unfold ownTo
  rw [List.take_length]
  refine ⟨⟨Nat.le_trans (List.length_filter_le _ _) h.1, fun x hx => h.2 x (List.mem_filter.1 hx).1⟩, fun x hx => ?_⟩
  have := (List.mem_filter.1 hx).2
  simpa using this
theorem ItsIn.below {w w' : World} {A : Option Addr} {l : List It} (h : ItsIn w A l) (hb : Below w.heap.size w w') : ItsIn w' A l := fun k hk => by
  obtain ⟨g, off, h1, h2, h3⟩ := h k hk
  exact ⟨g, off, h1, Nat.lt_of_lt_of_le h2 hb.size, fun j hj => (hb.cell (p := ⟨g, off + k * 11 + j, none⟩) h2).trans (h3 j hj)⟩
theorem manyTo_le (l : List It) (k : Nat) : 1 ≤ manyTo l k ∧ manyTo l k ≤ 1 + l.length := by
  unfold manyTo
  have := List.countP_le_length (p := fun x : It => x.kind == 6) (l := l.take k)
  have := List.length_take_le' k l
  omega
theorem ownTo_len (l : List It) (k : Nat) : (ownTo l k).length ≤ l.length := by
  unfold ownTo
  have := List.length_filter_le (fun x : It => x.kind != 5) (l.take k)
  have := List.length_take_le' k l
  omega
set_option maxRecDepth 100000 in
set_option maxHeartbeats 4000000 in
theorem linesOne_any (l : List It) (A : Option Addr) (c : Nat) (w : World) (hr : ItsIn w A l) (hn : l.length ≤ c) (hc : c ≤ maxLen) (hs : ∀ k, k < l.length → (itAt l k).text.size ≤ maxLen) :
    Calls Try.prog 22 #[.slice A l.length c] w fun e w' => e = .returned (.bool true) ∧ Below w.heap.size w w' := by
  have HK := hide (tameF_ok l)
  go_enter Try.func22, Try.ntmps22
  go_wp2_with fail
  refine (lined_any _).mono ?_
  rintro e w0 ⟨rfl, hb0⟩
  have HT := hide (tame_any l A c w0 (hr.below hb0) hn hc hs)
  clear hr hs hc
  generalize tameF l = xs at *
  go_wp2_with fail
  refine HT.out.mono ?_
  clear HT
  rintro e w1 ⟨v1, rfl, own1, hb1⟩
  have b1 := below_on hb0 hb1
  obtain ⟨A1, c1, rfl, _, _⟩ := own_reads own1
  obtain ⟨g, hA, hI, hg⟩ := its_own_any own1 rfl
  have HA := hide hA
  have HI := hide hI
  have HG := hide hg
  have hxl := HK.out.1
  clear own1 hA hI hg hb0 hb1
  have Bi := Below.refl w1.heap.size w1
  go_wp2_with fail
  go_loopw [3, 4, 14] (fun v m i wr => ∃ k : Nat, k ≤ xs.length ∧ i = .int .i64 k ∧ m = .int .i64 (manyTo xs k : Nat) ∧ wr.ownsRow w1.heap.size 100 11 v (ownTo xs k).length (itCells (ownTo xs k)) ∧ Below w1.heap.size w1 wr) (fun _ _ i _ => xs.length - (intOf i).toNat)
  case atStart => exact ⟨0, Nat.zero_le _, rfl, rfl, own_none _ _ _ _, Bi⟩
  case round =>
    clear Bi
    obtain ⟨k, hk, rfl, rfl, hown, hbel⟩ := hrel
    have HW := hide hown
    have hszr := hbel.size
    clear hown
    obtain ⟨v, hv⟩ : ∃ v, v = u3 := ⟨_, rfl⟩
    rw [← hv] at HW ⊢
    clear hv
    by_cases hlt : k < xs.length
    · obtain rfl := HA.out (by omega)
      have hgl := HG.out (by omega)
      have cc : ∀ j, j < 11 → wr.cell? ⟨g, k * 11 + j, none⟩ = (itC (itAt xs k))[j]? := fun j hj => (hbel.cell (p := ⟨g, k * 11 + j, none⟩) hgl).trans (HI.out k hlt j hj)
      have HNO := hide (ownTo_next xs k hlt)
      have HNM := hide (manyTo_next xs k hlt)
      have hml := manyTo_le xs k
      have hol := ownTo_len xs k
      generalize itAt xs k = x at *
      obtain ⟨kd, bx, tx, sz, sp, ht, md, sh, wd, hh, sd⟩ := x
      have d0 : wr.cell? ⟨g, k * 11, none⟩ = some (.int .i64 kd) := cc 0 (by omega)
      have d1 : wr.cell? ⟨g, k * 11 + 1, none⟩ = some (.int .i64 bx) := cc 1 (by omega)
      have d2 : wr.cell? ⟨g, k * 11 + 2, none⟩ = some (.string tx) := cc 2 (by omega)
      have d3 : wr.cell? ⟨g, k * 11 + 3, none⟩ = some (.int .i64 sz) := cc 3 (by omega)
      have d4 : wr.cell? ⟨g, k * 11 + 4, none⟩ = some (.int .i64 sp) := cc 4 (by omega)
      have d5 : wr.cell? ⟨g, k * 11 + 5, none⟩ = some (.int .i64 ht) := cc 5 (by omega)
      have d6 : wr.cell? ⟨g, k * 11 + 6, none⟩ = some (.int .i64 md) := cc 6 (by omega)
      have d7 : wr.cell? ⟨g, k * 11 + 7, none⟩ = some (.int .i64 sh) := cc 7 (by omega)
      have d8 : wr.cell? ⟨g, k * 11 + 8, none⟩ = some (.int .i64 wd) := cc 8 (by omega)
      have d9 : wr.cell? ⟨g, k * 11 + 9, none⟩ = some (.int .i64 hh) := cc 9 (by omega)
      have d10 : wr.cell? ⟨g, k * 11 + 10, none⟩ = some (.int .i64 sd) := cc 10 (by omega)
      clear cc
      generalize hM : manyTo xs k = m at *
      generalize hO : ownTo xs k = os at *
      have hbA := hbel.alloc hszr (.cells #[.int .i64 kd, .int .i64 bx, .string tx, .int .i64 sz, .int .i64 sp, .int .i64 ht, .int .i64 md, .int .i64 sh, .int .i64 wd, .int .i64 hh, .int .i64 sd] 100)
      by_cases h5 : kd = 5
      · subst h5
        have e1 : ownTo xs (k + 1) = os := HNO.out
        have e2 : manyTo xs (k + 1) = m := HNM.out
        clear HNO HNM
        go_wp2_with fail
        go_roundw
        case rel => exact ⟨k + 1, by omega, by go_num, by rw [e2], by rw [e1]; exact HW.out.alloc _, hbA⟩
        case measure => simp [intOf]; omega
      · have HN1 := hide (HNO.out.trans (if_pos (bne_iff_ne.2 h5)))
        have MS := hide (show itCells (ownTo xs (k + 1)) = itCells os ++ (#[.int .i64 kd, .int .i64 bx, .string tx, .int .i64 sz, .int .i64 sp, .int .i64 ht, .int .i64 md, .int .i64 sh, .int .i64 wd, .int .i64 hh, .int .i64 sd] : Array Value).toList from by rw [HN1.out, itCells_snoc]; rfl)
        have ML := hide (show (ownTo xs (k + 1)).length = os.length + 1 from by rw [HN1.out, List.length_append]; rfl)
        have hsA : (wr.alloc (.cells #[.int .i64 kd, .int .i64 bx, .string tx, .int .i64 sz, .int .i64 sp, .int .i64 ht, .int .i64 md, .int .i64 sh, .int .i64 wd, .int .i64 hh, .int .i64 sd] 100)).heap.size = wr.heap.size + 1 := by simp
        have HBX := Blk.new (wr.alloc (.cells #[.int .i64 kd, .int .i64 bx, .string tx, .int .i64 sz, .int .i64 sp, .int .i64 ht, .int .i64 md, .int .i64 sh, .int .i64 wd, .int .i64 hh, .int .i64 sd] 100)) 100 #[.int .i64 kd, .int .i64 bx, .string tx, .int .i64 sz, .int .i64 sp, .int .i64 ht, .int .i64 md, .int .i64 sh, .int .i64 wd, .int .i64 hh, .int .i64 sd]
        rw [hsA] at HBX
        have HBX2 := hide HBX
        have HVA := hide ((HW.out.alloc (.cells #[.int .i64 kd, .int .i64 bx, .string tx, .int .i64 sz, .int .i64 sp, .int .i64 ht, .int .i64 md, .int .i64 sh, .int .i64 wd, .int .i64 hh, .int .i64 sd] 100)).alloc (.cells #[.int .i64 kd, .int .i64 bx, .string tx, .int .i64 sz, .int .i64 sp, .int .i64 ht, .int .i64 md, .int .i64 sh, .int .i64 wd, .int .i64 hh, .int .i64 sd] 100))
        have HBL := hide (hbA.alloc (by rw [hsA]; omega) (.cells #[.int .i64 kd, .int .i64 bx, .string tx, .int .i64 sz, .int .i64 sp, .int .i64 ht, .int .i64 md, .int .i64 sh, .int .i64 wd, .int .i64 hh, .int .i64 sd] 100))
        have hm1 : (itCells os).length = os.length * 11 := itCells_len os
        have HB0 := hide ((Blk.new wr 100 #[.int .i64 kd, .int .i64 bx, .string tx, .int .i64 sz, .int .i64 sp, .int .i64 ht, .int .i64 md, .int .i64 sh, .int .i64 wd, .int .i64 hh, .int .i64 sd]).below ((Below.refl _ _).alloc (Nat.le_refl _) (.cells #[.int .i64 kd, .int .i64 bx, .string tx, .int .i64 sz, .int .i64 sp, .int .i64 ht, .int .i64 md, .int .i64 sh, .int .i64 wd, .int .i64 hh, .int .i64 sd] 100)) (Blk.new wr _ _).lt)
        have HNE := hide (show some wr.heap.size ≠ v.ownBlock from fun e => absurd (own_lt HW.out _ e.symm) (Nat.lt_irrefl _))
        clear HBX hsA HNO
        by_cases h6 : kd = 6
        · subst h6
          have e2 : manyTo xs (k + 1) = m + 1 := HNM.out
          clear HNM
          go_wp2_with (first | (at_builtin; refine wpList_app1 rfl (.tmp 21) (.tmp 23) _ rfl w1.heap.size 100 _ 11 96 Try.underlying96 item_info rfl (Nat.succ_pos _) _ os.length _ rfl HVA.out (wr.heap.size + 1) 1 _ HBX2.out rfl rfl rfl (by omega) (Nat.le_of_ble_eq_true rfl) HBL.out.size ?_; intro v4 w4 hown4 hg4; have hc4 : w4.cell? ⟨wr.heap.size, 0, none⟩ = some (.int .i64 6) := (Blk.grown HB0.out hg4 HNE.out).cell 0; have hb9 := own_below HVA.out HBL.out (Nat.le_refl _) (Nat.le_refl _) hg4) | fail)
          go_roundw
          case rel => exact ⟨k + 1, by omega, by go_num, by rw [e2]; go_num, by rw [MS.out, ML.out]; exact hown4, hb9⟩
          case measure => simp [intOf]; omega
        · have e2 : manyTo xs (k + 1) = m := HNM.out.trans (if_neg (by simpa using h6))
          clear HNM
          go_wp2_with (first | (at_builtin; refine wpList_app1 rfl (.tmp 21) (.tmp 23) _ rfl w1.heap.size 100 _ 11 96 Try.underlying96 item_info rfl (Nat.succ_pos _) _ os.length _ rfl HVA.out (wr.heap.size + 1) 1 _ HBX2.out rfl rfl rfl (by omega) (Nat.le_of_ble_eq_true rfl) HBL.out.size ?_; intro v4 w4 hown4 hg4; have hc4 : w4.cell? ⟨wr.heap.size, 0, none⟩ = some (.int .i64 kd) := (Blk.grown HB0.out hg4 HNE.out).cell 0; have hb9 := own_below HVA.out HBL.out (Nat.le_refl _) (Nat.le_refl _) hg4) | fail)
          go_roundw
          case rel => exact ⟨k + 1, by omega, by go_num, by rw [e2], by rw [MS.out, ML.out]; exact hown4, hb9⟩
          case measure => simp [intOf]; omega
    · obtain rfl : k = xs.length := by omega
      obtain ⟨ok1, ok2⟩ := ownTo_ok HK.out
      have hcount := ownTo_many xs
      generalize ownTo xs xs.length = own at *
      generalize manyTo xs xs.length = m at *
      obtain ⟨A3, c3, rfl, _, _⟩ := own_reads HW.out
      obtain ⟨g3, hA3, hI3, hg3⟩ := its_own_any HW.out rfl
      have HS := hide (sizesLines_any own g3 c3 A3 wr hA3 hI3 hg3 ok1)
      have hz := szTo_ok _ (groupsD_ok ok1) (groupsD own).length (Nat.le_refl _)
      rw [List.take_length] at hz
      have HLW := hide (one_law own ok1 10 10 0 0)
      obtain ⟨M, hM⟩ : ∃ M, M = cut (max (szTo (groupsD own)).most (szTo (groupsD own)).fin) := ⟨_, rfl⟩
      have hM0 : 0 ≤ M ∧ M ≤ 16777216 := by
        unfold SzOk at hz
        rw [hM]
        unfold cut
        omega
      rw [← hM] at HS HLW
      have HLW2 := hide (fun h => HLW.out M rfl h)
      clear hM hz HLW
      generalize cut (szTo (groupsD own)).least = lo at *
      have b2 := below_on b1 hbel
      go_wp2_with fail
      refine HS.out.mono ?_
      clear HS
      rintro e w4 ⟨rfl, hb4⟩
      have b3 := below_on b2 hb4
      by_cases hlt2 : M < 16777216
      · have hlen := HLW2.out hlt2
        clear HLW2
        go_wp2_with fail
        refine (New_blk M w4).mono ?_
        rintro e w5 ⟨rfl, hf, hb5⟩
        have hgw : 0 < own.length → g3 < w4.heap.size := fun h => Nat.lt_of_lt_of_le (hg3 h) hb4.size
        have hI5 : ItsR w5 g3 own := ItsR.below (ItsR.below ⟨hI3, hg3⟩ hb4) hb5
        have hcW : max 0 (cut M) = M := by unfold cut; omega
        rw [hcW] at hf
        have HB := hide (break_fp own g3 c3 A3 M 0 10 10 0 w5 w4.heap.size w4.heap.size hA3 hI5 ok1 ok2 (fun h => Nat.ne_of_lt (hgw h)) hf (Nat.le_refl _) hM0)
        have ec : max 0 (cut 10) = 10 := by decide
        have ec0 : cut 0 = 0 := by decide
        rw [ec, ec0] at HB
        have b4 := below_on b3 hb5
        clear hf hI5 hcW hA3 hI3 hg3 HW
        generalize breakF own 10 10 0 M 0 = out at *
        go_wp2_with fail
        refine HB.out.mono ?_
        clear HB
        rintro e w6 ⟨v6, rfl, hl6, hb6⟩
        obtain ⟨A6, c6, rfl⟩ := hl6.slice
        have b6 := below_then b3 (Nat.le_refl _) (hb5.trans hb6)
        have hdec : decide (out.length ≤ m) = true := decide_eq_true (by omega)
        clear hl6 hb6
        go_wp2_with fail
        go_ret
        exact ⟨rfl, b6⟩
      · go_wp2_with fail
        go_ret
        exact ⟨rfl, b3⟩
end Go.Proofs.Ytadlabndbomgmaa
