/- The walk of the statement BoxesHidden: it returns true. -/
import Derived.Test.YtbpkffoooieejaaDoorK5
set_option linter.unusedVariables false
set_option linter.unusedSimpArgs false
namespace Go.Proofs.YtbpkffoooieejaaDoor
open Go.ChangeShapes Go.WideShapes Go.ChangeAt Go.RowKit Go.Instr
theorem bo_u2 : Tryd.prog.underlying 45 = some (.struct (Tryd.prog.fieldsOf 45)) := by kernel_rfl
theorem bo_i2 (a b c : Int) (A : Option Addr) (m k : Nat) (x : ByteArray) : (Tryd.prog.info? 45).map (·.size) = some (#[Value.int .i64 a, .int .i64 b, .int .i64 c, .slice A m k, .string x] : Array Value).size := by kernel_rfl
/-- An element that is not shown. -/
def hidB (l : List Nd) (R : Nat → Nat → Int) (k : Nat) : Bool := (ndAt l k).kind == 2 && R k 1 == 0
theorem path_root {l : List Nd} (hda : DocAll l) : pathN l 0 = [0] := by
  unfold pathN
  rw [upL, if_neg (by show ¬ 0 ≤ (ndAt l 0).par; rw [hda.kids.ok.root]; decide)]
/-- Who has a box has none above that is hidden. -/
theorem hidden_no {l : List Nd} (hda : DocAll l) (R : Nat → Nat → Int) {i n : Nat} (hi : i < (bosOf l R).length) (hn : (boAt (bosOf l R) i).node = (n : Int)) : ((pathN l n).reverse.drop 1).any (hidB l R) = false := by
  rw [List.any_eq_false]
  intro k hk hb
  rw [List.drop_one, List.tail_reverse, List.mem_reverse] at hk
  have hp : 0 ≤ parN l k := upL_mem_par (parN l) (l.length + 1) n k hk
  have hi2 : i < (bxsOf l R).length := by rw [← bos_len]; exact hi
  have hnd : (bxsOf l R)[i].node = (n : Int) := by rw [bos_at l R hi2] at hn; exact hn
  rcases hidden_law idleT (pgOf l R) i hi2 (show 0 ≤ (bxsOf l R)[i].node by rw [hnd]; omega) with h0 | hs
  · have e : n = 0 := by
      have h0 : (bxsOf l R)[i].node.toNat = 0 := h0
      rw [hnd] at h0; simpa using h0
    subst e
    rw [path_root hda] at hk
    cases hk
  · have hs : Sh (pgOf l R) 0 (bxsOf l R)[i].node.toNat := hs
    rw [hnd, Int.toNat_natCast] at hs
    have hkk : ∀ n, ∀ k ∈ (pgOf l R).kd n, parN l k = (n : Int) := fun n k hk => by
      by_cases hnl : n < l.length
      · exact (hda.kid R n hnl k hk).2
      · have e : (pgOf l R).kd n = [] := by
          show (ndAt l n).kids.map Int.toNat = []
          unfold ndAt
          rw [List.getD, List.getElem?_eq_none (by omega)]
          rfl
        rw [e] at hk
        cases hk
    rcases sh_up (pgOf l R) (parN l) hkk hda.kids.ok.root hs (l.length + 1) k ((List.dropLast_sublist _).subset hk) with rfl | hok
    · have := hda.kids.ok.root
      unfold parN at hp
      omega
    · unfold hidB at hb
      simp only [Bool.and_eq_true, beq_iff_eq] at hb
      exact hok hb.1 hb.2
theorem path_lt {l : List Nd} (hda : DocAll l) : ∀ (f n : Nat), n < l.length → ∀ k ∈ upL (parN l) f n, k < l.length
  | 0, n, hn, k, hk => by
    obtain rfl : k = n := by simpa [upL] using hk
    exact hn
  | f + 1, n, hn, k, hk => by
    rw [upL] at hk
    split at hk
    · rename_i h0
      rcases List.mem_cons.1 hk with rfl | hk
      · exact hn
      · refine path_lt hda f _ ?_ k hk
        rcases hda.kids.ok.par n hn with h | h
        · unfold parN at h0; omega
        · unfold parN at h0 ⊢; omega
    · obtain rfl : k = n := by simpa using hk
      exact hn
set_option maxRecDepth 100000 in
set_option maxHeartbeats 40000000 in
theorem boxesHidden_any (l : List Nd) (An : Option Addr) (cn : Nat) (q : Bool) (R : Nat → Nat → Int) (As : Option Addr) (nS cs : Nat) (n : Int) (mv : Int) (w : World) (hI : NdIn w w.heap.size An l) (hl : l.length ≤ maxLen) (hS : SyIn w w.heap.size As nS R) (hs : nS ≤ maxLen)
    (hmv : w.cell? ⟨1, 0, none⟩ = some (.int .i64 mv)) (h1 : 1 < w.heap.size) :
    Calls Tryd.prog 6 #[.agg #[.slice An l.length cn, .bool q], .slice As nS cs, .int .i64 n] w fun e w' => e = .returned (.bool true) ∧ Below w.heap.size w w' := by
  have hb0 := (Below.refl w.heap.size w).alloc (Nat.le_refl _) (.cells #[.slice An l.length cn, .bool q] 41)
  have HC := hide (Make_any l An cn q R As nS cs mv (w.alloc (.cells #[.slice An l.length cn, .bool q] 41)) ((hI.below hb0).more hb0.size) hl ((hS.below hb0).up hb0.size) hs ((hb0.cell (p := ⟨1, 0, none⟩) h1).trans hmv) (Nat.lt_of_lt_of_le h1 hb0.size))
  have HO := hide (fun (Z : World) (h : Below w.heap.size w Z) => Path_any l An cn q n Z ((hI.below h).more h.size) hl)
  have HD := hide (Blk.new w 41 #[.slice An l.length cn, .bool q])
  have HB := hide hb0
  have HI := hide hI
  have HS := hide hS
  clear hb0 hI hS hmv h1
  unfold maxLen at hl hs
  go_enter Tryd.func6, Tryd.ntmps6
  go_wp2_with (first
    | (refine wpList_load_row rfl 41 (.tmp 3) rfl w.heap.size rfl _ _ (0, 0) _ HD.out doc_u2 rfl (doc_i2 _ _) ?_)
    | fail)
  refine HC.out.mono ?_
  rintro e w2 ⟨⟨v, z, rfl, hz, hz0⟩, hx⟩
  have HB2 := hide (HB.out.trans (hx.mono HB.out.size))
  have HD2 := hide (HD.out.below hx HD.out.lt)
  have HZ0 := hide hz0
  have HOW := hide (HO.out _ HB2.out)
  clear hx hz hz0 HC HD HB HO
  generalize w.alloc _ = w1 at *
  go_wp2_with (first
    | (refine wpList_load_row rfl 41 (.tmp 3) rfl w.heap.size rfl _ _ (0, 0) _ HD2.out doc_u2 rfl (doc_i2 _ _) ?_)
    | fail)
  refine HOW.out.mono ?_
  rintro e w3 ⟨⟨pv, zp, rfl, hzp⟩, hx⟩
  have HB3 := hide (HB2.out.trans (hx.mono HB2.out.size))
  have HD3 := hide (HD2.out.below hx HD2.out.lt)
  have HZP := hide hzp
  have HB23 := hide hx
  clear hx hzp HOW
  by_cases hz : z = 0
  · by_cases hzp : zp = 0
    · subst hz hzp
      obtain ⟨hda, hns, D2, _, hfl⟩ := HZ0.out rfl
      obtain ⟨_, hn0, hn1, hown⟩ := HZP.out rfl
      subst hns
      obtain ⟨n0, rfl⟩ : ∃ n0 : Nat, n = n0 := ⟨n.toNat, by omega⟩
      rw [Int.toNat_natCast] at hown
      obtain ⟨Ab, cb, rfl, hbl, hbi⟩ := hfl.boxIn
      obtain ⟨Ap, cp, rfl, hpc, hpm, hrd⟩ := own_reads2 hown
      have hn2 : n0 < l.length := by omega
      have HNO := hide (fun (i : Nat) (hi : i < (bosOf l R).length) (hn : (boAt (bosOf l R) i).node = (n0 : Int)) => hidden_no hda R hi hn)
      have HPL := hide (fun (k : Nat) (hk : k ∈ (pathN l n0).reverse) => path_lt hda (l.length + 1) n0 hn2 k (List.mem_reverse.1 hk))
      have hplen := path_len hda hn2
      rw [← List.length_reverse] at hplen
      have hmost := hda.most
      have HBI := hide hbi
      have HBZ := HB23
      generalize bosOf l R = L at *
      generalize (pathN l n0).reverse = P at *
      clear hfl hbi hown HZ0 HZP
      unfold maxLen at hbl hpm
      obtain ⟨m, hm⟩ : ∃ m, P.length = m + 1 := ⟨P.length - 1, by omega⟩
      obtain ⟨gp, op, rfl, hgp, hat⟩ := natK_form hrd (by omega)
      have HRD := hide (nat_dropK (k := 1) hrd (by omega) hpc)
      obtain ⟨B, hB⟩ : ∃ B, B = w3.heap.size := ⟨_, rfl⟩
      have hBw : B ≤ w3.heap.size := by omega
      obtain ⟨Q, hQ⟩ : ∃ Q, Q = P.drop 1 := ⟨_, rfl⟩
      have hQl : Q.length = m := by rw [hQ, List.length_drop]; omega
      have HQP := hide (fun (k : Nat) (hk : k ∈ Q) => HPL.out k (List.mem_of_mem_drop (hQ ▸ hk)))
      rw [← hQ, ← hB] at HRD
      rw [← hQ] at HNO
      have hpm1 : P.length = m + 1 := hm
      clear hB hQ hat hda hrd hgp HPL
      rw [hpm1] at hpc hplen ⊢
      obtain ⟨nb, hnb⟩ : ∃ nb, nb = L.length := ⟨_, rfl⟩
      have HNB := hide hnb
      rw [← hnb] at hbl HNO ⊢
      clear hnb
      obtain ⟨D, hDD⟩ : ∃ D, D = w.heap.size := ⟨_, rfl⟩
      have hDw : D ≤ w.heap.size := by omega
      have x0 := HD3.out.cell 0
      simp only [List.getElem?_toArray, List.getElem?_cons_zero] at x0
      rw [← hDD] at HB3 HB2 HD3 HI HS x0 ⊢
      have HDE := hide hDD
      clear hDD
      have hmin : min (1 : Int) ((m : Int) + 1) = 1 := by omega
      go_upto_region 6 with fail
      go_cut [39, 40, 41] from 35 to 41 (fun s39 s40 s41 wx => (∃ A c, s39 = .slice A m c ∧ Reads w3 B 1 A Q.length (natCells Q)) ∧ s40 = .int .i64 (m : Int) ∧ s41 = .int .i64 0 ∧ w3 = wx)
      case first =>
        by_cases hc1 : cp = 1
        · subst hc1
          obtain rfl : m = 0 := by omega
          go_wp2_with fail
          go_meet
          refine ⟨⟨_, _, rfl, ?_⟩, rfl, rfl, rfl⟩
          have h9 := HRD.out
          rw [if_pos True.intro] at h9
          exact h9
        · go_wp2_with fail
          go_meet
          refine ⟨⟨_, _, rfl, ?_⟩, rfl, rfl, rfl⟩
          have h9 := HRD.out
          rw [if_neg hc1] at h9
          exact h9
      case rest =>
        obtain ⟨⟨A, c, rfl, hra⟩, rfl, rfl, hwx⟩ := hcut
        subst hwx
        have HRA := hide hra
        clear hra HRD HB23 HD2 HB2 hpm1 hpc hpm hmin
        have HBI3 := hide (show ∀ k, k < nb → ∃ g off Ak ck, Ab = some ⟨g, off, none⟩ ∧ BoxC w3 w2.heap.size g (off + k * 5) (boAt L k) Ak ck ∧ g < w3.heap.size from fun k hk => by
          obtain ⟨g, off, Ak, ck, h1, h2, h3, _⟩ := HBI.out k (by rw [← HNB.out]; exact hk)
          exact ⟨g, off, Ak, ck, h1, h3.below HBZ.out h2, Nat.lt_of_lt_of_le h2 HBZ.out.size⟩)
        clear HBI
        go_wp2_with fail
        go_loopw [11, 41] (fun s i wr => ∃ j : Nat, j ≤ m ∧ i = .int .i64 j ∧ s = .bool ((Q.take j).any (hidB l R)) ∧ Below w3.heap.size w3 wr) (fun _ i _ => m - (intOf i).toNat)
        case atStart => exact ⟨0, Nat.zero_le _, rfl, rfl, Below.refl _ _⟩
        case round =>
          obtain ⟨j, hj, rfl, rfl, hbel⟩ := hrel
          have HBW := hide hbel
          have HBD := hide (HB3.out.trans (hbel.mono (bsz HB3.out hDw)))
          clear hbel
          by_cases hjl : j < m
          · obtain ⟨ga, oa, rfl, hga, hat⟩ := natK_form HRA.out (by omega)
            obtain ⟨k, hk⟩ : ∃ k, Q[j]? = some k := ⟨Q[j]'(by omega), List.getElem?_eq_getElem _⟩
            have q0 := (HBW.out.cell (p := ⟨ga, oa + j, none⟩) (Nat.lt_of_lt_of_le hga hBw)).trans (hat j k hk)
            have hkl := HQP.out k (List.mem_of_getElem? hk)
            have hkl2 : ¬ l.length ≤ k := by omega
            obtain ⟨g, off, Aa, ca, Ak, ck, rfl, hg, hnd, _⟩ := HI.out k hkl
            have c0 := (HBD.out.cell (p := ⟨g, off + k * 6, none⟩) hg).trans hnd.c0
            obtain ⟨gs, os, rfl, hgs, hcs⟩ := HS.out k hkl
            have c1 := (HBD.out.cell (p := ⟨gs, os + k * 118 + 1, none⟩) hgs).trans (hcs 1 (by omega))
            have d0 := (HBW.out.cell (p := ⟨D, 0, none⟩) HD3.out.lt).trans x0
            have HNX := hide (show (Q.take (j + 1)).any (hidB l R) = ((Q.take j).any (hidB l R) || ((ndAt l k).kind == 2 && R k 1 == 0)) by
              rw [List.take_add_one, hk, List.any_append]; simp [hidB])
            clear hat hnd hcs hk
            generalize (Q.take j).any (hidB l R) = hb at *
            generalize (ndAt l k).kind = kd at *
            generalize R k 1 = dp at *
            cases hb
            · cases t2 : kd == 2
              · skip
                go_wp2_with fail
                go_roundw
                case rel => exact ⟨j + 1, by omega, by go_num, by rw [HNX.out, t2]; rfl, HBW.out⟩
                case measure => simp only [intOf]; omega
              · cases t3 : dp == 0
                · skip
                  go_wp2_with fail
                  go_roundw
                  case rel => exact ⟨j + 1, by omega, by go_num, by rw [HNX.out, t2, t3]; rfl, HBW.out⟩
                  case measure => simp only [intOf]; omega
                · skip
                  go_wp2_with fail
                  go_roundw
                  case rel => exact ⟨j + 1, by omega, by go_num, by rw [HNX.out, t2, t3]; rfl, HBW.out⟩
                  case measure => simp only [intOf]; omega
            · skip
              go_wp2_with fail
              go_roundw
              case rel => exact ⟨j + 1, by omega, by go_num, by rw [HNX.out]; rfl, HBW.out⟩
              case measure => simp only [intOf]; omega
          · obtain rfl : j = m := by omega
            have HQA := hide (show (Q.take j).any (hidB l R) = Q.any (hidB l R) by rw [List.take_of_length_le (by omega)])
            generalize (Q.take j).any (hidB l R) = hb at *
            go_wp2_with fail
            go_loopw [67] (fun i wq => ∃ t : Nat, t ≤ nb ∧ i = .int .i64 t ∧ Below wr.heap.size wr wq) (fun i _ => nb - (intOf i).toNat)
            case atStart => exact ⟨0, Nat.zero_le _, rfl, Below.refl _ _⟩
            case round =>
              obtain ⟨t, ht, rfl, hbq⟩ := hrel
              have HBQ := hide hbq
              clear hbq
              by_cases htl : t < nb
              · obtain ⟨g, off, Ak, ck, rfl, hbx, hg⟩ := HBI3.out t htl
                have HNT := hide (HNO.out t htl)
                have HBV := hide (HBW.out.trans (HBQ.out.mono HBW.out.size))
                have HLD := hide (show ∀ m u, (#[.int .i64 (boAt L t).kind, .int .i64 (boAt L t).node, .int .i64 (boAt L t).par, .slice Ak (boAt L t).kids.length ck, .string (boAt L t).text] : Array Value)[m]? = some u → wr.cell? ⟨g, off + t * 5 + m, none⟩ = some u from fun m u hu => by
                  match m, hu with
                  | 0, hu => rw [← hu]; exact (HBV.out.cell (p := ⟨g, off + t * 5, none⟩) hg).trans hbx.c0
                  | 1, hu => rw [← hu]; exact (HBV.out.cell (p := ⟨g, off + t * 5 + 1, none⟩) hg).trans hbx.c1
                  | 2, hu => rw [← hu]; exact (HBV.out.cell (p := ⟨g, off + t * 5 + 2, none⟩) hg).trans hbx.c2
                  | 3, hu => rw [← hu]; exact (HBV.out.cell (p := ⟨g, off + t * 5 + 3, none⟩) hg).trans hbx.c3
                  | 4, hu => rw [← hu]; exact (HBV.out.cell (p := ⟨g, off + t * 5 + 4, none⟩) hg).trans hbx.c4
                  | m + 5, hu => simp at hu)
                clear hbx
                generalize (boAt L t).kind = k at *
                generalize (boAt L t).node = nd at *
                generalize (boAt L t).par = pr at *
                generalize (boAt L t).kids.length = nk at *
                generalize (boAt L t).text = tx at *
                have HX := hide (Blk.new wr 45 #[.int .i64 k, .int .i64 nd, .int .i64 pr, .slice Ak nk ck, .string tx])
                have x1 := HX.out.cell 1
                simp only [List.getElem?_toArray, List.getElem?_cons_zero, List.getElem?_cons_succ] at x1
                have HBX := hide (HBQ.out.alloc HBQ.out.size (.cells #[.int .i64 k, .int .i64 nd, .int .i64 pr, .slice Ak nk ck, .string tx] 45))
                cases hb
                · go_wp2_with (first
                    | (refine wpList_load_mid rfl 45 (.tmp 69) rfl g (off + t * 5) rfl #[.int .i64 k, .int .i64 nd, .int .i64 pr, .slice Ak nk ck, .string tx] _ HLD.out bo_u2 rfl (bo_i2 _ _ _ _ _ _ _) ?_)
                    | fail)
                  go_roundw
                  case rel => exact ⟨t + 1, by omega, by go_num, HBX.out⟩
                  case measure => simp only [intOf]; omega
                · have hne : ¬ nd = (n0 : Int) := fun e => by
                    have h1 := HNT.out e
                    rw [← HQA.out] at h1
                    cases h1
                  go_wp2_with (first
                    | (refine wpList_load_mid rfl 45 (.tmp 69) rfl g (off + t * 5) rfl #[.int .i64 k, .int .i64 nd, .int .i64 pr, .slice Ak nk ck, .string tx] _ HLD.out bo_u2 rfl (bo_i2 _ _ _ _ _ _ _) ?_)
                    | fail)
                  go_roundw
                  case rel => exact ⟨t + 1, by omega, by go_num, HBX.out⟩
                  case measure => simp only [intOf]; omega
              · have HBV := hide (HBD.out.trans (HBQ.out.mono (bsz HBD.out hDw)))
                go_wp2_with (first
                  | (go_at_call 10; refine (boxed_any _).mono ?_; rintro e w9 ⟨rfl, hx⟩; have HB9 := hide (HBV.out.trans (hx.mono (bsz HBV.out hDw))); clear hx)
                  | fail)
                go_ret
                exact ⟨rfl, HDE.out ▸ HB9.out⟩
    · have t1 : (zp == 0) = false := by simpa using hzp
      subst hz
      clear HZ0 HZP
      go_wp2_with (first
        | (go_at_call 10; refine (boxed_any _).mono ?_; rintro e w9 ⟨rfl, hx⟩; have HB9 := hide (HB3.out.trans (hx.mono HB3.out.size)); clear hx)
        | fail)
      go_ret
      exact ⟨rfl, HB9.out⟩
  · have t1 : (z == 0) = false := by simpa using hz
    clear HZ0 HZP
    go_wp2_with (first
      | (go_at_call 10; refine (boxed_any _).mono ?_; rintro e w9 ⟨rfl, hx⟩; have HB9 := hide (HB3.out.trans (hx.mono HB3.out.size)); clear hx)
      | fail)
    go_ret
    exact ⟨rfl, HB9.out⟩
end Go.Proofs.YtbpkffoooieejaaDoor
