/- The walk of breaker.clean: a group without blanks that stand first; widths and tails of groups that may be empty. -/
import Derived.BigQuiet
import Derived.Handy
import Derived.IntWalk
import Derived.RegionTactic
import Derived.Deep.MidRow
import Derived.Test.YtadlabndbomgmaaDoorJBrkA
import Derived.Test.YtadlabndbomgmaaDoorJPartsG
set_option linter.unusedVariables false
set_option linter.unusedSimpArgs false
namespace Go.Proofs.YtadlabndbomgmaaDoor
open Go.ChangeShapes Go.WideShapes Go.ChangeAt Go.RowKit
theorem gwidth_nil (A : Option Addr) (c : Nat) (w : World) : Calls Tryd.prog 45 #[.slice A 0 c] w fun e w' => e = .returned (.int .i64 0) ∧ Below w.heap.size w w' := by
  go_enter Tryd.func45, Tryd.ntmps45
  go_wp2_with fail
  go_loopw [2, 7] (fun n i wr => n = .int .i64 0 ∧ i = .int .i64 0 ∧ w = wr) (fun _ _ _ => 0)
  case atStart => exact ⟨rfl, rfl, rfl⟩
  case round =>
    obtain ⟨rfl, rfl, rfl⟩ := hrel
    go_wp2_with fail
    go_ret
    exact ⟨rfl, Below.refl _ _⟩
theorem gwidthR_any (xs : List It) (g : Nat) (ps : List Pt) (A : Option Addr) (c : Nat) (w : World) (hp : PtsR w g A ps) (hl : ps.length ≤ 100000) (hok : PsOk xs ps) :
    Calls Tryd.prog 45 #[.slice A ps.length c] w fun e w' => e = .returned (.int .i64 (widthG ps)) ∧ Below w.heap.size w w' := by
  rcases Nat.eq_zero_or_pos ps.length with h0 | h0
  · obtain rfl : ps = [] := List.eq_nil_of_length_eq_zero h0
    exact gwidth_nil A c w
  · obtain ⟨h, off, rfl, hh, hps⟩ := hp h0
    exact gwidth_any g ps h off c w hps hh hl fun p hp => by have := (hok p hp).2; unfold PtOk at this; omega
/-- The first k parts, cleaned: what is kept, and whether a solid one has come. -/
def cleanTo (xs : List It) (full : Bool) : List Pt → List Pt × Bool
  | ps => ps.foldl (fun st p => if !st.2 && (collF xs p && isSp p.t) then st else (st.1 ++ [p], st.2 || solidF xs p)) ([], full)
theorem cleanTo_snoc (xs : List It) (full : Bool) (ps : List Pt) (p : Pt) : cleanTo xs full (ps ++ [p]) = if !(cleanTo xs full ps).2 && (collF xs p && isSp p.t) then cleanTo xs full ps else ((cleanTo xs full ps).1 ++ [p], (cleanTo xs full ps).2 || solidF xs p) := by
  simp only [cleanTo, List.foldl_append, List.foldl_cons, List.foldl_nil]
  rfl
theorem cleanTo_is (xs : List It) (ps : List Pt) : ∀ (full : Bool) (out : List Pt), (ps.foldl (fun st p => if !st.2 && (collF xs p && isSp p.t) then st else (st.1 ++ [p], st.2 || solidF xs p)) (out, full)).1 = out ++ cleanF xs full ps := by
  induction ps with
  | nil => intro full out; simp [cleanF]
  | cons p r ih =>
    intro full out
    simp only [List.foldl_cons, cleanF]
    by_cases h : (!full && (collF xs p && isSp p.t)) = true
    · rw [if_pos h, if_pos h, ih]
    · rw [if_neg h, if_neg h, ih]; simp
theorem cleanTo_all (xs : List It) (full : Bool) (ps : List Pt) : (cleanTo xs full ps).1 = cleanF xs full ps := by
  have := cleanTo_is xs ps full []
  simpa [cleanTo] using this
theorem cleanTo_len (xs : List It) (full : Bool) (ps : List Pt) (k : Nat) (hk : k ≤ ps.length) : (cleanTo xs full (ps.take k)).1.length ≤ k := by
  induction k with
  | zero => simp [cleanTo]
  | succ k ih =>
    have hlt : k < ps.length := by omega
    have := ih (by omega)
    rw [List.take_succ_eq_append_getElem hlt, cleanTo_snoc]
    split
    · omega
    · simp; omega
theorem cleanF_mem (xs : List It) : ∀ (ps : List Pt) (full : Bool), ∀ p ∈ cleanF xs full ps, p ∈ ps
  | [], _ => by intro p hp; simp [cleanF] at hp
  | q :: r, full => by
    intro p hp
    simp only [cleanF] at hp
    split at hp
    · exact List.mem_cons_of_mem _ (cleanF_mem xs r full p hp)
    · rcases List.mem_cons.1 hp with rfl | hp
      · exact List.mem_cons_self
      · exact List.mem_cons_of_mem _ (cleanF_mem xs r _ p hp)
set_option maxRecDepth 100000 in
set_option maxHeartbeats 4000000 in
theorem clean_any (xs : List It) (g : Nat) (ps : List Pt) (A : Option Addr) (c b : Nat) (full : Bool) (w : World) (hI : ItsR w g xs) (hp : PtsR w g A ps) (hl : ps.length ≤ 100000) (hok : PsOk xs ps) (hb : b < w.heap.size) (hf : w.cell? ⟨b, 9, none⟩ = some (.bool full)) :
    Calls Tryd.prog 44 #[.pointer (some ⟨b, 0, none⟩), .slice A ps.length c] w fun e w' => ∃ v, e = .returned v ∧ w'.ownsRow w.heap.size 96 5 v (cleanF xs full ps).length (ptCells g (cleanF xs full ps)) ∧ Below w.heap.size w w' := by
  have HI := hide hI
  have HP := hide hp
  have HO := hide hok
  have HC := hide (cleanTo_all xs full ps)
  clear hI hp hok
  go_enter Tryd.func44, Tryd.ntmps44
  go_wp2_with fail
  clear hf
  go_loopw [5, 6, 15] (fun fv v i wr => ∃ k : Nat, k ≤ ps.length ∧ i = .int .i64 k ∧ fv = .bool (cleanTo xs full (ps.take k)).2 ∧ wr.ownsRow w.heap.size 96 5 v (cleanTo xs full (ps.take k)).1.length (ptCells g (cleanTo xs full (ps.take k)).1) ∧ Below w.heap.size w wr) (fun _ _ i _ => ps.length - (intOf i).toNat)
  case atStart => exact ⟨0, Nat.zero_le _, rfl, rfl, own_none _ _ _ _, Below.refl _ _⟩
  case round =>
    obtain ⟨k, hk, rfl, rfl, hown, hbel⟩ := hrel
    have HW := hide hown
    have hszr := hbel.size
    clear hown
    obtain ⟨v, hv⟩ : ∃ v, v = u6 := ⟨_, rfl⟩
    rw [← hv] at HW ⊢
    clear hv
    by_cases hlt : k < ps.length
    · obtain ⟨h, off, rfl, hh, hps0⟩ := HP.out (by omega)
      have hps := hps0.below hbel hh
      have d0 : wr.cell? ⟨h, off + k * 5, none⟩ = some (.pointer (some ⟨g, (ptAt ps k).i * 11, none⟩)) := hps k hlt 0 (by omega)
      have d1 : wr.cell? ⟨h, off + k * 5 + 1, none⟩ = some (.int .i64 (ptAt ps k).i) := hps k hlt 1 (by omega)
      have d2 : wr.cell? ⟨h, off + k * 5 + 2, none⟩ = some (.string (ptAt ps k).t) := hps k hlt 2 (by omega)
      have d3 : wr.cell? ⟨h, off + k * 5 + 3, none⟩ = some (.int .i64 (ptAt ps k).w) := hps k hlt 3 (by omega)
      have d4 : wr.cell? ⟨h, off + k * 5 + 4, none⟩ = some (.bool (ptAt ps k).last) := hps k hlt 4 (by omega)
      have hpo := HO.out _ (List.getElem_mem hlt)
      rw [← ptAt_of ps k hlt] at hpo
      have hlen : (cleanTo xs full (ps.take k)).1.length ≤ 1000000 := by have := cleanTo_len xs full ps k hk; omega
      have HN := hide (show cleanTo xs full (ps.take (k + 1)) = if !(cleanTo xs full (ps.take k)).2 && (collF xs (ptAt ps k) && isSp (ptAt ps k).t) then cleanTo xs full (ps.take k) else ((cleanTo xs full (ps.take k)).1 ++ [ptAt ps k], (cleanTo xs full (ps.take k)).2 || solidF xs (ptAt ps k)) from by rw [List.take_succ_eq_append_getElem hlt, cleanTo_snoc, ← ptAt_of ps k hlt])
      clear hps hps0
      generalize ptAt ps k = p at *
      have IR := HI.out.below hbel
      have HIA := hide (IR.below ((Below.refl wr.heap.size wr).alloc (Nat.le_refl _) (.cells #[.pointer (some ⟨g, p.i * 11, none⟩), .int .i64 p.i, .string p.t, .int .i64 p.w, .bool p.last] 96)))
      have HBX := hide (Blk.new wr 96 #[.pointer (some ⟨g, p.i * 11, none⟩), .int .i64 p.i, .string p.t, .int .i64 p.w, .bool p.last])
      have HVW := hide (HW.out.alloc (.cells #[.pointer (some ⟨g, p.i * 11, none⟩), .int .i64 p.i, .string p.t, .int .i64 p.w, .bool p.last] 96))
      have b1 := hbel.alloc hszr (.cells #[.pointer (some ⟨g, p.i * 11, none⟩), .int .i64 p.i, .string p.t, .int .i64 p.w, .bool p.last] 96)
      clear IR
      generalize hg2 : (cleanTo xs full (ps.take k)).2 = fl at *
      generalize hg1 : (cleanTo xs full (ps.take k)).1 = lst at *
      have HGE0 := hide (show cleanTo xs full (ps.take k) = (lst, fl) from by rw [← hg1, ← hg2])
      clear hg1 hg2
      cases hfl : fl
      · have hN := hide (HN.out.trans (by rw [hfl]))
        have HGE := hide (show cleanTo xs full (ps.take k) = (lst, false) from by rw [HGE0.out, hfl])
        clear HN HGE0
        go_wp2_with fail
        generalize hwA : wr.alloc (.cells #[.pointer (some ⟨g, p.i * 11, none⟩), .int .i64 p.i, .string p.t, .int .i64 p.w, .bool p.last] 96) = wA at *
        clear hwA
        refine (collapses_any xs g p wA HIA.out.1 hpo.1).mono ?_
        rintro e w5 ⟨rfl, hb5⟩
        have HI5 := hide (HIA.out.below hb5)
        have HX5 := hide (HBX.out.below hb5 HBX.out.lt)
        have HV5 := hide (own_keep HVW.out hb5 (own_lt HVW.out))
        have b5 := below_on b1 hb5
        have hS5 := HX5.out
        clear HIA HBX HVW hb5 b1 HW
        cases hco : collF xs p
        · have HN1 := hide (hN.out.trans (by rw [hco]))
          clear hN hco
          have q0 : w5.cell? ⟨wr.heap.size, 0, none⟩ = some (.pointer (some ⟨g, p.i * 11, none⟩)) := hS5.cell 0
          have q1 : w5.cell? ⟨wr.heap.size, 1, none⟩ = some (.int .i64 p.i) := hS5.cell 1
          have q2 : w5.cell? ⟨wr.heap.size, 2, none⟩ = some (.string p.t) := hS5.cell 2
          have q3 : w5.cell? ⟨wr.heap.size, 3, none⟩ = some (.int .i64 p.w) := hS5.cell 3
          have q4 : w5.cell? ⟨wr.heap.size, 4, none⟩ = some (.bool p.last) := hS5.cell 4
          clear hS5
          have HSO := hide (solid_any xs g p w5 HI5.out.1 hpo.1)
          cases hso : solidF xs p
          · have HN2 := hide (HN1.out.trans (show _ = (lst ++ [p], false) from by rw [hso]; rfl))
            rw [hso] at HSO
            clear HN1 hso
            go_wp2_with fail
            refine HSO.out.mono ?_
            rintro e w6 ⟨rfl, hb6⟩
            have HX6 := hide (HX5.out.below hb6 HX5.out.lt)
            have HV6 := hide (own_keep HV5.out hb6 (own_lt HV5.out))
            have b6 := below_on b5 hb6
            clear HSO HI5 HX5 HV5 b5 hb6 q0 q1 q2 q3 q4
            have q0 : w6.cell? ⟨wr.heap.size, 0, none⟩ = some (.pointer (some ⟨g, p.i * 11, none⟩)) := HX6.out.cell 0
            have q1 : w6.cell? ⟨wr.heap.size, 1, none⟩ = some (.int .i64 p.i) := HX6.out.cell 1
            have q2 : w6.cell? ⟨wr.heap.size, 2, none⟩ = some (.string p.t) := HX6.out.cell 2
            have q3 : w6.cell? ⟨wr.heap.size, 3, none⟩ = some (.int .i64 p.w) := HX6.out.cell 3
            have q4 : w6.cell? ⟨wr.heap.size, 4, none⟩ = some (.bool p.last) := HX6.out.cell 4
            have HVA := hide (HV6.out.alloc (.cells #[.pointer (some ⟨g, p.i * 11, none⟩), .int .i64 p.i, .string p.t, .int .i64 p.w, .bool p.last] 96))
            have HBL := hide (b6.alloc b6.size (.cells #[.pointer (some ⟨g, p.i * 11, none⟩), .int .i64 p.i, .string p.t, .int .i64 p.w, .bool p.last] 96))
            have HNB := hide (Blk.new w6 96 #[.pointer (some ⟨g, p.i * 11, none⟩), .int .i64 p.i, .string p.t, .int .i64 p.w, .bool p.last])
            go_wp2_with (first | (at_builtin; refine wpList_app1 rfl (.tmp 35) (.tmp 37) _ rfl w.heap.size 96 _ 5 48 Tryd.underlying79 part_info rfl (Nat.succ_pos _) _ lst.length _ rfl HVA.out w6.heap.size 1 _ HNB.out rfl rfl rfl hlen (Nat.le_of_ble_eq_true rfl) HBL.out.size ?_; intro v4 w4 hown4 hg4; have hb9 := own_below HVA.out HBL.out (Nat.le_refl _) (Nat.le_refl _) hg4; have O4 := hide hown4; clear hown4 hg4) | fail)
            go_roundw
            case rel => exact ⟨k + 1, by omega, by go_num, by rw [HN2.out], by rw [HN2.out]; simp only [List.length_append, ptCells_snoc]; exact O4.out, hb9⟩
            case measure => simp only [intOf]; omega
          · have HN2 := hide (HN1.out.trans (show _ = (lst ++ [p], true) from by rw [hso]; rfl))
            rw [hso] at HSO
            clear HN1 hso
            go_wp2_with fail
            refine HSO.out.mono ?_
            rintro e w6 ⟨rfl, hb6⟩
            have HX6 := hide (HX5.out.below hb6 HX5.out.lt)
            have HV6 := hide (own_keep HV5.out hb6 (own_lt HV5.out))
            have b6 := below_on b5 hb6
            clear HSO HI5 HX5 HV5 b5 hb6 q0 q1 q2 q3 q4
            have q0 : w6.cell? ⟨wr.heap.size, 0, none⟩ = some (.pointer (some ⟨g, p.i * 11, none⟩)) := HX6.out.cell 0
            have q1 : w6.cell? ⟨wr.heap.size, 1, none⟩ = some (.int .i64 p.i) := HX6.out.cell 1
            have q2 : w6.cell? ⟨wr.heap.size, 2, none⟩ = some (.string p.t) := HX6.out.cell 2
            have q3 : w6.cell? ⟨wr.heap.size, 3, none⟩ = some (.int .i64 p.w) := HX6.out.cell 3
            have q4 : w6.cell? ⟨wr.heap.size, 4, none⟩ = some (.bool p.last) := HX6.out.cell 4
            have HVA := hide (HV6.out.alloc (.cells #[.pointer (some ⟨g, p.i * 11, none⟩), .int .i64 p.i, .string p.t, .int .i64 p.w, .bool p.last] 96))
            have HBL := hide (b6.alloc b6.size (.cells #[.pointer (some ⟨g, p.i * 11, none⟩), .int .i64 p.i, .string p.t, .int .i64 p.w, .bool p.last] 96))
            have HNB := hide (Blk.new w6 96 #[.pointer (some ⟨g, p.i * 11, none⟩), .int .i64 p.i, .string p.t, .int .i64 p.w, .bool p.last])
            go_wp2_with (first | (at_builtin; refine wpList_app1 rfl (.tmp 35) (.tmp 37) _ rfl w.heap.size 96 _ 5 48 Tryd.underlying79 part_info rfl (Nat.succ_pos _) _ lst.length _ rfl HVA.out w6.heap.size 1 _ HNB.out rfl rfl rfl hlen (Nat.le_of_ble_eq_true rfl) HBL.out.size ?_; intro v4 w4 hown4 hg4; have hb9 := own_below HVA.out HBL.out (Nat.le_refl _) (Nat.le_refl _) hg4; have O4 := hide hown4; clear hown4 hg4) | fail)
            go_roundw
            case rel => exact ⟨k + 1, by omega, by go_num, by rw [HN2.out], by rw [HN2.out]; simp only [List.length_append, ptCells_snoc]; exact O4.out, hb9⟩
            case measure => simp only [intOf]; omega
        · cases hsp : isSp p.t
          · have HN1 := hide (hN.out.trans (by rw [hco, hsp]))
            have zsp : (p.t.toList == [32]) = false := hsp
            clear hN hco hsp
            have q0 : w5.cell? ⟨wr.heap.size, 0, none⟩ = some (.pointer (some ⟨g, p.i * 11, none⟩)) := hS5.cell 0
            have q1 : w5.cell? ⟨wr.heap.size, 1, none⟩ = some (.int .i64 p.i) := hS5.cell 1
            have q2 : w5.cell? ⟨wr.heap.size, 2, none⟩ = some (.string p.t) := hS5.cell 2
            have q3 : w5.cell? ⟨wr.heap.size, 3, none⟩ = some (.int .i64 p.w) := hS5.cell 3
            have q4 : w5.cell? ⟨wr.heap.size, 4, none⟩ = some (.bool p.last) := hS5.cell 4
            clear hS5
            have HSO := hide (solid_any xs g p w5 HI5.out.1 hpo.1)
            cases hso : solidF xs p
            · have HN2 := hide (HN1.out.trans (show _ = (lst ++ [p], false) from by rw [hso]; rfl))
              rw [hso] at HSO
              clear HN1 hso
              go_wp2_with fail
              refine HSO.out.mono ?_
              rintro e w6 ⟨rfl, hb6⟩
              have HX6 := hide (HX5.out.below hb6 HX5.out.lt)
              have HV6 := hide (own_keep HV5.out hb6 (own_lt HV5.out))
              have b6 := below_on b5 hb6
              clear HSO HI5 HX5 HV5 b5 hb6 q0 q1 q2 q3 q4
              have q0 : w6.cell? ⟨wr.heap.size, 0, none⟩ = some (.pointer (some ⟨g, p.i * 11, none⟩)) := HX6.out.cell 0
              have q1 : w6.cell? ⟨wr.heap.size, 1, none⟩ = some (.int .i64 p.i) := HX6.out.cell 1
              have q2 : w6.cell? ⟨wr.heap.size, 2, none⟩ = some (.string p.t) := HX6.out.cell 2
              have q3 : w6.cell? ⟨wr.heap.size, 3, none⟩ = some (.int .i64 p.w) := HX6.out.cell 3
              have q4 : w6.cell? ⟨wr.heap.size, 4, none⟩ = some (.bool p.last) := HX6.out.cell 4
              have HVA := hide (HV6.out.alloc (.cells #[.pointer (some ⟨g, p.i * 11, none⟩), .int .i64 p.i, .string p.t, .int .i64 p.w, .bool p.last] 96))
              have HBL := hide (b6.alloc b6.size (.cells #[.pointer (some ⟨g, p.i * 11, none⟩), .int .i64 p.i, .string p.t, .int .i64 p.w, .bool p.last] 96))
              have HNB := hide (Blk.new w6 96 #[.pointer (some ⟨g, p.i * 11, none⟩), .int .i64 p.i, .string p.t, .int .i64 p.w, .bool p.last])
              go_wp2_with (first | (at_builtin; refine wpList_app1 rfl (.tmp 35) (.tmp 37) _ rfl w.heap.size 96 _ 5 48 Tryd.underlying79 part_info rfl (Nat.succ_pos _) _ lst.length _ rfl HVA.out w6.heap.size 1 _ HNB.out rfl rfl rfl hlen (Nat.le_of_ble_eq_true rfl) HBL.out.size ?_; intro v4 w4 hown4 hg4; have hb9 := own_below HVA.out HBL.out (Nat.le_refl _) (Nat.le_refl _) hg4; have O4 := hide hown4; clear hown4 hg4) | fail)
              go_roundw
              case rel => exact ⟨k + 1, by omega, by go_num, by rw [HN2.out], by rw [HN2.out]; simp only [List.length_append, ptCells_snoc]; exact O4.out, hb9⟩
              case measure => simp only [intOf]; omega
            · have HN2 := hide (HN1.out.trans (show _ = (lst ++ [p], true) from by rw [hso]; rfl))
              rw [hso] at HSO
              clear HN1 hso
              go_wp2_with fail
              refine HSO.out.mono ?_
              rintro e w6 ⟨rfl, hb6⟩
              have HX6 := hide (HX5.out.below hb6 HX5.out.lt)
              have HV6 := hide (own_keep HV5.out hb6 (own_lt HV5.out))
              have b6 := below_on b5 hb6
              clear HSO HI5 HX5 HV5 b5 hb6 q0 q1 q2 q3 q4
              have q0 : w6.cell? ⟨wr.heap.size, 0, none⟩ = some (.pointer (some ⟨g, p.i * 11, none⟩)) := HX6.out.cell 0
              have q1 : w6.cell? ⟨wr.heap.size, 1, none⟩ = some (.int .i64 p.i) := HX6.out.cell 1
              have q2 : w6.cell? ⟨wr.heap.size, 2, none⟩ = some (.string p.t) := HX6.out.cell 2
              have q3 : w6.cell? ⟨wr.heap.size, 3, none⟩ = some (.int .i64 p.w) := HX6.out.cell 3
              have q4 : w6.cell? ⟨wr.heap.size, 4, none⟩ = some (.bool p.last) := HX6.out.cell 4
              have HVA := hide (HV6.out.alloc (.cells #[.pointer (some ⟨g, p.i * 11, none⟩), .int .i64 p.i, .string p.t, .int .i64 p.w, .bool p.last] 96))
              have HBL := hide (b6.alloc b6.size (.cells #[.pointer (some ⟨g, p.i * 11, none⟩), .int .i64 p.i, .string p.t, .int .i64 p.w, .bool p.last] 96))
              have HNB := hide (Blk.new w6 96 #[.pointer (some ⟨g, p.i * 11, none⟩), .int .i64 p.i, .string p.t, .int .i64 p.w, .bool p.last])
              go_wp2_with (first | (at_builtin; refine wpList_app1 rfl (.tmp 35) (.tmp 37) _ rfl w.heap.size 96 _ 5 48 Tryd.underlying79 part_info rfl (Nat.succ_pos _) _ lst.length _ rfl HVA.out w6.heap.size 1 _ HNB.out rfl rfl rfl hlen (Nat.le_of_ble_eq_true rfl) HBL.out.size ?_; intro v4 w4 hown4 hg4; have hb9 := own_below HVA.out HBL.out (Nat.le_refl _) (Nat.le_refl _) hg4; have O4 := hide hown4; clear hown4 hg4) | fail)
              go_roundw
              case rel => exact ⟨k + 1, by omega, by go_num, by rw [HN2.out], by rw [HN2.out]; simp only [List.length_append, ptCells_snoc]; exact O4.out, hb9⟩
              case measure => simp only [intOf]; omega
          · have HN2 := hide (show cleanTo xs full (ps.take (k + 1)) = (lst, false) from by rw [hN.out, hco, hsp]; exact HGE.out)
            have zsp : (p.t.toList == [32]) = true := hsp
            clear hN hco hsp
            have q0 : w5.cell? ⟨wr.heap.size, 0, none⟩ = some (.pointer (some ⟨g, p.i * 11, none⟩)) := hS5.cell 0
            have q1 : w5.cell? ⟨wr.heap.size, 1, none⟩ = some (.int .i64 p.i) := hS5.cell 1
            have q2 : w5.cell? ⟨wr.heap.size, 2, none⟩ = some (.string p.t) := hS5.cell 2
            have q3 : w5.cell? ⟨wr.heap.size, 3, none⟩ = some (.int .i64 p.w) := hS5.cell 3
            have q4 : w5.cell? ⟨wr.heap.size, 4, none⟩ = some (.bool p.last) := hS5.cell 4
            clear hS5
            go_wp2_with fail
            go_roundw
            case rel => exact ⟨k + 1, by omega, by go_num, by rw [HN2.out], by rw [HN2.out]; exact HV5.out, b5⟩
            case measure => simp only [intOf]; omega
      · have HN2 := hide (show cleanTo xs full (ps.take (k + 1)) = (lst ++ [p], true) from by rw [HN.out, hfl]; rfl)
        clear HN HIA HW HBX
        have HVA := hide (HVW.out.alloc (.cells #[.pointer (some ⟨g, p.i * 11, none⟩), .int .i64 p.i, .string p.t, .int .i64 p.w, .bool p.last] 96))
        have HBL := hide (b1.alloc b1.size (.cells #[.pointer (some ⟨g, p.i * 11, none⟩), .int .i64 p.i, .string p.t, .int .i64 p.w, .bool p.last] 96))
        have HNB0 := Blk.new (wr.alloc (.cells #[.pointer (some ⟨g, p.i * 11, none⟩), .int .i64 p.i, .string p.t, .int .i64 p.w, .bool p.last] 96)) 96 #[.pointer (some ⟨g, p.i * 11, none⟩), .int .i64 p.i, .string p.t, .int .i64 p.w, .bool p.last]
        rw [World.size_alloc] at HNB0
        have HNB := hide HNB0
        clear HNB0 HVW b1
        go_wp2_with (first | (at_builtin; refine wpList_app1 rfl (.tmp 35) (.tmp 37) _ rfl w.heap.size 96 _ 5 48 Tryd.underlying79 part_info rfl (Nat.succ_pos _) _ lst.length _ rfl HVA.out (wr.heap.size + 1) 1 _ HNB.out rfl rfl rfl hlen (Nat.le_of_ble_eq_true rfl) HBL.out.size ?_; intro v4 w4 hown4 hg4; have hb9 := own_below HVA.out HBL.out (Nat.le_refl _) (Nat.le_refl _) hg4; have O4 := hide hown4; clear hown4 hg4) | fail)
        go_roundw
        case rel => exact ⟨k + 1, by omega, by go_num, by rw [HN2.out], by rw [HN2.out]; simp only [List.length_append, ptCells_snoc]; exact O4.out, hb9⟩
        case measure => simp only [intOf]; omega
    · obtain rfl : k = ps.length := by omega
      have hW := HW.out
      rw [List.take_length, HC.out] at hW
      have HW2 := hide hW
      clear hW HW
      generalize (cleanTo xs full (ps.take ps.length)).2 = fl at *
      go_wp2_with fail
      go_ret
      exact ⟨v, rfl, HW2.out, hbel⟩
end Go.Proofs.YtadlabndbomgmaaDoor
