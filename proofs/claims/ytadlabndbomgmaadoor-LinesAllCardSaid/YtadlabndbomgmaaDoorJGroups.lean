/- The walk of lines.groups. -/
import Derived.BigQuiet
import Derived.Handy
import Derived.IntWalk
import Derived.RegionTactic
import Derived.Deep.QuietTactic
import Derived.Deep.MidRow
import Derived.Deep.RegionHeld3
import Derived.Test.YtadlabndbomgmaaDoorJMayEnd
set_option linter.unusedVariables false
set_option linter.unusedSimpArgs false
namespace Go.Proofs.YtadlabndbomgmaaDoor
open Go.ChangeShapes Go.WideShapes Go.ChangeAt Go.RowKit
theorem grp_info : (Tryd.prog.info? 79).map (fun i => (i.zero, i.size, i.bytes)) = some (some (.slice none 0 0), 1, 24) := by kernel_rfl
/-- A group as it lies: a stretch of the parts. -/
def grV (h c : Nat) (g : Nat × Nat) : Value := .slice (some ⟨h, g.1 * 5, none⟩) (g.2 - g.1) (c - g.1)
def grCells (h c : Nat) (gs : List (Nat × Nat)) : List Value := gs.map (grV h c)
theorem grCells_snoc (h c : Nat) (gs : List (Nat × Nat)) (g : Nat × Nat) : grCells h c (gs ++ [g]) = grCells h c gs ++ [grV h c g] := by simp [grCells]
theorem groupsTo_step (xs : List It) (ps : List Pt) (j : Nat) : groupsTo xs ps (j + 1) = if cutsAt xs ps (j + 1) = true then ((groupsTo xs ps j).1 ++ [((groupsTo xs ps j).2, j + 1)], j + 1) else groupsTo xs ps j := rfl
set_option maxRecDepth 100000 in
set_option maxHeartbeats 4000000 in
theorem groups_any (xs : List It) (g : Nat) (ps : List Pt) (h c : Nat) (w : World) (hI : ItsAt w g xs) (hg : g < w.heap.size) (hp : PtsAt w g h 0 ps) (hh : h < w.heap.size) (hl : ps.length ≤ 100000) (hl0 : 0 < ps.length) (hc : ps.length ≤ c)
    (hok : ∀ p ∈ ps, p.i < xs.length ∧ PtOk xs p) :
    Calls Tryd.prog 31 #[.slice (some ⟨h, 0, none⟩) ps.length c] w fun e w' => ∃ v, e = .returned v ∧ w'.ownsRow w.heap.size 79 1 v (groupsTo xs ps ps.length).1.length (grCells h c (groupsTo xs ps ps.length).1) ∧ Below w.heap.size w w' := by
  have HI := hide hI
  have HP := hide hp
  have HOK := hide hok
  clear hI hp hok
  go_enter Tryd.func31, Tryd.ntmps31
  go_wp2_with fail
  go_loopw [3, 4, 5] (fun v fr kv wr => ∃ j k : Nat, k ≤ j + 1 ∧ j + 1 ≤ k ∧ j ≤ ps.length ∧ kv = .int .i64 (k : Int) ∧ fr = .int .i64 ((groupsTo xs ps j).2 : Int) ∧ wr.ownsRow w.heap.size 79 1 v (groupsTo xs ps j).1.length (grCells h c (groupsTo xs ps j).1) ∧ Below w.heap.size w wr) (fun _ _ kv _ => ps.length + 1 - (intOf kv).toNat)
  case atStart => exact ⟨0, 1, Nat.le_refl _, Nat.le_refl _, Nat.zero_le _, rfl, rfl, own_none _ _ _ _, Below.refl _ _⟩
  case round =>
    obtain ⟨j, k, hk1, hk2, hj, rfl, rfl, hown, hbel⟩ := hrel
    have HW := hide hown
    have hszr := hbel.size
    clear hown
    obtain ⟨v, hv⟩ : ∃ v, v = u3 := ⟨_, rfl⟩
    rw [← hv] at HW ⊢
    clear hv
    by_cases hlt : k ≤ ps.length
    · obtain ⟨gb1, gb2, gb3⟩ := groups_ok xs ps j hj
      have HS := hide (show groupsTo xs ps k = if cutsAt xs ps k = true then ((groupsTo xs ps j).1 ++ [((groupsTo xs ps j).2, k)], k) else groupsTo xs ps j from by rw [show k = j + 1 by omega]; exact groupsTo_step xs ps j)
      have HC := hide (show cutsAt xs ps k = (k == ps.length || pKind xs (ptAt ps (k - 1)) == 6 || mayEndF xs ps k) from rfl)
      have hjl : j < ps.length := by omega
      have hij := HOK.out _ (List.getElem_mem hjl)
      rw [← ptAt_of ps j hjl] at hij
      have c0 := (HP.out.below hbel hh).d0 hjl
      have i0 := (HI.out.below hbel hg).c0 hij.1
      have e0 : (itAt xs (ptAt ps j).i).kind = pKind xs (ptAt ps j) := rfl
      rw [e0] at i0
      rw [show k - 1 = j by omega] at HC
      clear e0 gb2
      have w1 : IntKind.i64.wrap ((k : Int) - 1) = j := by rw [show (k : Int) - 1 = j by omega]; exact IntWalk.i64_in _ (by omega)
      generalize pKind xs (ptAt ps j) = kd at *
      have hkf : (groupsTo xs ps j).2 < k := by omega
      have hlen : (groupsTo xs ps j).1.length ≤ 1000000 := by omega
      generalize hgf : (groupsTo xs ps j).2 = fr at *
      generalize hgl : (groupsTo xs ps j).1 = l at *
      have HGE := hide (show groupsTo xs ps j = (l, fr) from by rw [← hgf, ← hgl])
      clear hgf hgl gb1 gb3
      have f1 : ¬ c = fr := by omega
      have f2 : k ≤ c := by omega
      have f3 : fr ≤ k := by omega
      cases zk : ((k : Int) == (ps.length : Int))
      · have zk2 : (k == ps.length) = false := by simp at zk ⊢; omega
        cases z6 : (kd == 6)
        · have hkl : k < ps.length := by simp at zk2; omega
          have HME := hide (mayEnd_any xs g ps h c k wr (HI.out.below hbel hg) (Nat.lt_of_lt_of_le hg hszr) (HP.out.below hbel hh) (Nat.lt_of_lt_of_le hh hszr) hl (by omega) hkl HOK.out)
          have hc1 := hide (HC.out.trans (by rw [zk2, z6]))
          generalize mayEndF xs ps k = me at *
          cases hme : me
          · have HS2 := hide (show groupsTo xs ps k = (l, fr) from by rw [HS.out, hc1.out, hme, HGE.out]; rfl)
            rw [hme] at HME
            clear HC HS hc1 hme
            have HOW := HW
            clear HW
            go_wp2_with (go_at_call 42; refine HME.out.mono ?_; rintro e w5 ⟨rfl, hb5⟩)
            have HO5 := hide (own_keep HOW.out hb5 (own_lt HOW.out))
            have b5 := below_on hbel hb5
            go_roundw
            case rel => exact ⟨k, k + 1, Nat.le_refl _, Nat.le_refl _, hlt, by go_num, by rw [HS2.out], by rw [HS2.out]; exact HO5.out, b5⟩
            case measure => simp only [intOf]; omega
          · have HS2 := hide (show groupsTo xs ps k = (l ++ [(fr, k)], k) from by rw [HS.out, hc1.out, hme]; rfl)
            rw [hme] at HME
            clear HC HS hc1 hme
            have HOW := HW
            clear HW
            go_wp2_with (first | (go_at_call 42; refine HME.out.mono ?_; rintro e w5 ⟨rfl, hb5⟩; have HO5 := hide (own_keep HOW.out hb5 (own_lt HOW.out)); have b5 := below_on hbel hb5; have HVA := hide (HO5.out.alloc (.cells #[.slice (some ⟨h, fr * 5, none⟩) (k - fr) (c - fr)] 79)); have HBX := hide (Blk.new w5 79 #[.slice (some ⟨h, fr * 5, none⟩) (k - fr) (c - fr)]); have HBL := hide (b5.alloc b5.size (.cells #[.slice (some ⟨h, fr * 5, none⟩) (k - fr) (c - fr)] 79)); clear hb5) | (at_builtin; refine wpList_app1 rfl (.tmp 33) (.tmp 38) _ rfl w.heap.size 79 _ 1 24 Tryd.underlying82 grp_info rfl (Nat.succ_pos _) _ l.length _ rfl HVA.out w5.heap.size 1 _ HBX.out rfl rfl rfl hlen (Nat.le_of_ble_eq_true rfl) HBL.out.size ?_; intro v4 w4 hown4 hg4; have hb9 := own_below HVA.out HBL.out (Nat.le_refl _) (Nat.le_refl _) hg4) | fail)
            go_roundw
            case rel => exact ⟨k, k + 1, Nat.le_refl _, Nat.le_refl _, hlt, by go_num, by rw [HS2.out], by rw [HS2.out, List.length_append, grCells_snoc]; exact hown4, hb9⟩
            case measure => simp only [intOf]; omega
        · have HS2 := hide (show groupsTo xs ps k = (l ++ [(fr, k)], k) from by rw [HS.out, HC.out, zk2, z6]; rfl)
          have HVA := hide (HW.out.alloc (.cells #[.slice (some ⟨h, fr * 5, none⟩) (k - fr) (c - fr)] 79))
          have HBX := hide (Blk.new wr 79 #[.slice (some ⟨h, fr * 5, none⟩) (k - fr) (c - fr)])
          have HBL := hide (hbel.alloc hbel.size (.cells #[.slice (some ⟨h, fr * 5, none⟩) (k - fr) (c - fr)] 79))
          clear HC HS
          go_wp2_with (first | (at_builtin; refine wpList_app1 rfl (.tmp 33) (.tmp 38) _ rfl w.heap.size 79 _ 1 24 Tryd.underlying82 grp_info rfl (Nat.succ_pos _) _ l.length _ rfl HVA.out wr.heap.size 1 _ HBX.out rfl rfl rfl hlen (Nat.le_of_ble_eq_true rfl) HBL.out.size ?_; intro v4 w4 hown4 hg4; have hb9 := own_below HVA.out HBL.out (Nat.le_refl _) (Nat.le_refl _) hg4) | fail)
          go_roundw
          case rel => exact ⟨k, k + 1, Nat.le_refl _, Nat.le_refl _, hlt, by go_num, by rw [HS2.out], by rw [HS2.out, List.length_append, grCells_snoc]; exact hown4, hb9⟩
          case measure => simp only [intOf]; omega
      · have zk2 : (k == ps.length) = true := by simp at zk ⊢; omega
        have HS2 := hide (show groupsTo xs ps k = (l ++ [(fr, k)], k) from by rw [HS.out, HC.out, zk2]; rfl)
        have HVA := hide (HW.out.alloc (.cells #[.slice (some ⟨h, fr * 5, none⟩) (k - fr) (c - fr)] 79))
        have HBX := hide (Blk.new wr 79 #[.slice (some ⟨h, fr * 5, none⟩) (k - fr) (c - fr)])
        have HBL := hide (hbel.alloc hbel.size (.cells #[.slice (some ⟨h, fr * 5, none⟩) (k - fr) (c - fr)] 79))
        clear HC HS
        go_wp2_with (first | (at_builtin; refine wpList_app1 rfl (.tmp 33) (.tmp 38) _ rfl w.heap.size 79 _ 1 24 Tryd.underlying82 grp_info rfl (Nat.succ_pos _) _ l.length _ rfl HVA.out wr.heap.size 1 _ HBX.out rfl rfl rfl hlen (Nat.le_of_ble_eq_true rfl) HBL.out.size ?_; intro v4 w4 hown4 hg4; have hb9 := own_below HVA.out HBL.out (Nat.le_refl _) (Nat.le_refl _) hg4) | fail)
        go_roundw
        case rel => exact ⟨k, k + 1, Nat.le_refl _, Nat.le_refl _, hlt, by go_num, by rw [HS2.out], by rw [HS2.out, List.length_append, grCells_snoc]; exact hown4, hb9⟩
        case measure => simp only [intOf]; omega
    · obtain rfl : j = ps.length := by omega
      go_wp2_with fail
      go_ret
      exact ⟨v, rfl, HW.out, hbel⟩
end Go.Proofs.YtadlabndbomgmaaDoor
