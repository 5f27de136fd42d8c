/- The walk of the statement BoxesOnce: it returns true. -/
import Derived.Test.YtbpkffoooieejaaDoorKBxCheck
import Derived.Test.YtbpkffoooieejaaDoorK3
set_option linter.unusedVariables false
set_option linter.unusedSimpArgs false
namespace Go.Proofs.YtbpkffoooieejaaDoor
open Go.ChangeShapes Go.WideShapes Go.ChangeAt Go.RowKit Go.Instr
theorem bo_u' : Tryd.prog.underlying 45 = some (.struct (Tryd.prog.fieldsOf 45)) := by kernel_rfl
theorem bo_i' (a b c : Int) (A : Option Addr) (m k : Nat) (x : ByteArray) : (Tryd.prog.info? 45).map (·.size) = some (#[Value.int .i64 a, .int .i64 b, .int .i64 c, .slice A m k, .string x] : Array Value).size := by kernel_rfl
/-- The nodes of boxes from the k-th on. -/
def restN (L : List Bo) (k : Nat) : List Nat := (L.drop k).flatMap fun b => nodeL b.node
theorem restN_step (L : List Bo) (k : Nat) (h : k < L.length) : restN L k = nodeL (boAt L k).node ++ restN L (k + 1) := by
  unfold restN
  rw [List.drop_eq_getElem_cons h, List.flatMap_cons, boAt_of L k h]
def lenW : Value → Nat
  | .slice _ n _ => n
  | _ => 0
/-- A row of nodes that is left. -/
def SufR (w : World) (B : Nat) (v : Value) (r : List Nat) : Prop := ∃ A c, v = .slice A r.length c ∧ r.length ≤ c ∧ c ≤ maxLen ∧ Reads w B 1 A r.length (natCells r)
theorem SufR.below {w w' : World} {B : Nat} {v : Value} {r : List Nat} (h : SufR w B v r) (hb : Below B w w') : SufR w' B v r := by
  obtain ⟨A, c, h1, h2, h3, h4⟩ := h
  exact ⟨A, c, h1, h2, h3, h4.below hb⟩
theorem SufR.next {w : World} {B g off c : Nat} {l : List Nat} (h : Reads w B 1 (some ⟨g, off, none⟩) l.length (natCells l)) (h0 : 0 < l.length) (h1 : l.length ≤ c) (h2 : c ≤ maxLen) : SufR w B (.slice (if c = 1 then some ⟨g, off, none⟩ else some ⟨g, off + 1, none⟩) (l.length - 1) (c - 1)) (l.drop 1) :=
  ⟨_, _, by rw [List.length_drop], by rw [List.length_drop]; omega, by omega, nat_dropK h h0 h1⟩
set_option maxRecDepth 100000 in
set_option maxHeartbeats 40000000 in
theorem boxesOnce_any (l : List Nd) (An : Option Addr) (cn : Nat) (q : Bool) (R : Nat → Nat → Int) (As : Option Addr) (nS cs : Nat) (mv : Int) (w : World) (hI : NdIn w w.heap.size An l) (hl : l.length ≤ maxLen) (hS : SyIn w w.heap.size As nS R) (hs : nS ≤ maxLen)
    (hmv : w.cell? ⟨1, 0, none⟩ = some (.int .i64 mv)) (h1 : 1 < w.heap.size) :
    Calls Tryd.prog 5 #[.agg #[.slice An l.length cn, .bool q], .slice As nS cs] w fun e w' => e = .returned (.bool true) ∧ Below w.heap.size w w' := by
  have hb0 := (Below.refl w.heap.size w).alloc (Nat.le_refl _) (.cells #[.slice An l.length cn, .bool q] 41)
  have HC := hide (Make_any l An cn q R As nS cs mv (w.alloc (.cells #[.slice An l.length cn, .bool q] 41)) ((hI.below hb0).more hb0.size) hl ((hS.below hb0).up hb0.size) hs ((hb0.cell (p := ⟨1, 0, none⟩) h1).trans hmv) (Nat.lt_of_lt_of_le h1 hb0.size))
  have HO := hide (fun (Z : World) (h : Below w.heap.size w Z) => Order_any l R An cn q Z ((hI.below h).more h.size) hl)
  have HD := hide (Blk.new w 41 #[.slice An l.length cn, .bool q])
  have HB := hide hb0
  clear hb0 hI hS hmv h1
  unfold maxLen at hl hs
  go_enter Tryd.func5, Tryd.ntmps5
  go_wp2_with (first
    | (refine wpList_load_row rfl 41 (.tmp 2) rfl w.heap.size rfl _ _ (0, 0) _ HD.out doc_u2 rfl (doc_i2 _ _) ?_)
    | fail)
  refine HC.out.mono ?_
  rintro e w2 ⟨⟨v, z, rfl, hz, hz0⟩, hx⟩
  have HB2 := hide (HB.out.trans (hx.mono HB.out.size))
  have HD2 := hide (HD.out.below hx HD.out.lt)
  have HZ := hide hz
  have HZ0 := hide hz0
  clear hx hz hz0 HC HD HB
  generalize w.alloc _ = w1 at *
  by_cases hz : z = 0
  · subst hz
    obtain ⟨hda, hns, D2, _, hfl⟩ := HZ0.out rfl
    subst hns
    obtain ⟨Ab, cb, rfl, hbl, hbi⟩ := hfl.boxIn
    have HBI := hide hbi
    have HDA := hide hda
    have HOW := hide (HO.out _ HB2.out)
    have HCK := hide (bos_chk hda R)
    have hfi := bos_first l R
    have HSUB := hide (show (restN (bosOf l R) 0).Sublist (0 :: dscF (pgOf l R) 41 0) from bos_nodes hda R)
    have hdl : (0 :: dscF (pgOf l R) 41 0).length ≤ 1000 := by
      have h1 := hda.dsc R 41 0 hda.some_
      have h2 := hda.most
      simp only [List.length_cons]; omega
    clear hda hfl hbi HZ HZ0 HO
    generalize bosOf l R = L at *
    generalize hor : (0 :: dscF (pgOf l R) 41 0) = ord at *
    unfold maxLen at hbl
    go_wp2_with (first
      | (refine wpList_load_row rfl 41 (.tmp 2) rfl w.heap.size rfl _ _ (0, 0) _ HD2.out doc_u2 rfl (doc_i2 _ _) ?_)
      | fail)
    refine HOW.out.mono ?_
    rintro e w3 ⟨⟨ov, zo, rfl, hzi, hown⟩, hx⟩
    obtain rfl : zo = 0 := hzi.2 HDA.out
    have ho3 := hown rfl
    rw [hor] at ho3
    obtain ⟨Ao, co, rfl, hoc, hom, hrd⟩ := own_reads2 ho3
    have HB3 := hide (HB2.out.trans (hx.mono HB2.out.size))
    have HB23 := hide hx
    have HBI3 := hide (show BoxIn w3 w3.heap.size Ab L from fun k hk => by
      obtain ⟨g, off, Ak, ck, h1, h2, h3, h4⟩ := HBI.out.below hx k hk
      exact ⟨g, off, Ak, ck, h1, Nat.lt_of_lt_of_le h2 hx.size, ⟨h3.c0, h3.c1, h3.c2, h3.c3, h3.c4, h3.kids.more hx.size⟩, h4⟩)
    have HSU3 := hide (show SufR w3 w3.heap.size (.slice Ao ord.length co) ord from ⟨Ao, co, rfl, hoc, hom, hrd⟩)
    have HCH := hide (Check_any L Ab cb w3 HBI3.out hbl)
    obtain ⟨g, off, Ak, ck, rfl, hg, hbx, _⟩ := HBI3.out 0 hfi.1
    have hnode := hfi.2.1
    have x1 := hbx.c1
    rw [hnode, Nat.zero_mul, Nat.add_zero] at x1
    have hl0 : ¬ L.length = 0 := by have := hfi.1; omega
    have hl1 : 0 < L.length := hfi.1
    have tl : ((L.length : Int) == 0) = false := by rw [beq_eq_false_iff_ne]; omega
    clear hx hzi hown ho3 hrd HOW HBI hbx hfi
    go_wp2_with fail
    refine HCH.out.mono ?_
    rintro e w4 ⟨⟨r0, rfl, hr1, hr2, hr0⟩, hx⟩
    obtain rfl : r0 = 0 := hr0 HCK.out
    have HB4 := hide (HB3.out.trans (hx.mono HB3.out.size))
    have HBI4 := hide (HBI3.out.below hx)
    obtain ⟨B, hB⟩ : ∃ B, B = w3.heap.size := ⟨_, rfl⟩
    have HSU4 := hide (HSU3.out.below hx)
    have hBw : B ≤ w4.heap.size := by rw [hB]; exact hx.size
    rw [← hB] at HSU4 HBI4 hg
    clear hB hr1 hr2 hr0 hx HCH HBI3 HSU3 HB3 HB23 HB2 HD2 HCK x1 hoc hom HDA hor
    obtain ⟨nb, hnb⟩ : ∃ nb, nb = L.length := ⟨_, rfl⟩
    have HNB := hide hnb
    rw [← hnb] at hbl hl0 hl1 tl ⊢
    clear hnb
    obtain ⟨D, hDD⟩ : ∃ D, D = w.heap.size := ⟨_, rfl⟩
    have hDw : D ≤ w.heap.size := by omega
    rw [← hDD] at HB4 ⊢
    have HDE := hide hDD
    clear hDD
    go_wp2_with fail
    generalize hov : Value.slice Ao ord.length co = ov at *
    clear hov
    go_loopw [7, 51] (fun v i wr => ∃ (j : Nat) (r : List Nat), j ≤ nb ∧ i = .int .i64 j ∧ r.length ≤ 1000 ∧ SufR wr B v r ∧ (restN L j).Sublist r ∧ Below w4.heap.size w4 wr) (fun _ i _ => nb - (intOf i).toNat)
    case atStart => exact ⟨0, ord, Nat.zero_le _, rfl, hdl, HSU4.out, HSUB.out, Below.refl _ _⟩
    case round =>
      clear HSU4 HSUB
      obtain ⟨j, r, hj, rfl, hrl, hsu, hsb, hbel⟩ := hrel
      have HSU := hide hsu
      have HSB := hide hsb
      have HBW := hide hbel
      have HBD := hide (HB4.out.trans (hbel.mono (bsz HB4.out hDw)))
      clear hsu hsb hbel
      obtain ⟨v, hv⟩ : ∃ v, v = u7 := ⟨_, rfl⟩
      rw [← hv] at HSU ⊢
      clear hv
      by_cases hjl : j < nb
      · obtain ⟨g', off', Ak', ck', hgg, hg', hbx, hkl⟩ := HBI4.out j (by rw [← HNB.out]; exact hjl)
        injection hgg with hgg
        injection hgg with hgg1 hgg2 hgg3
        subst hgg1 hgg2
        have hbx2 := hbx.below (HBW.out.mono hBw) hg'
        have HRS := hide (restN_step L j (by rw [← HNB.out]; exact hjl))
        have HLD := hide (show ∀ m u, (#[.int .i64 (boAt L j).kind, .int .i64 (boAt L j).node, .int .i64 (boAt L j).par, .slice Ak' (boAt L j).kids.length ck', .string (boAt L j).text] : Array Value)[m]? = some u → wr.cell? ⟨g, off + j * 5 + m, none⟩ = some u from fun m u hu => by
          match m, hu with
          | 0, hu => rw [← hu]; exact hbx2.c0
          | 1, hu => rw [← hu]; exact hbx2.c1
          | 2, hu => rw [← hu]; exact hbx2.c2
          | 3, hu => rw [← hu]; exact hbx2.c3
          | 4, hu => rw [← hu]; exact hbx2.c4
          | m + 5, hu => simp at hu)
        clear hbx hbx2 hgg3 hkl
        generalize (boAt L j).kind = k at *
        generalize (boAt L j).node = n at *
        generalize (boAt L j).par = pr at *
        generalize (boAt L j).kids.length = nk at *
        generalize (boAt L j).text = tx at *
        have HX := hide (Blk.new wr 45 #[.int .i64 k, .int .i64 n, .int .i64 pr, .slice Ak' nk ck', .string tx])
        have HBR := hide ((Below.refl wr.heap.size wr).alloc (Nat.le_refl _) (.cells #[.int .i64 k, .int .i64 n, .int .i64 pr, .slice Ak' nk ck', .string tx] 45))
        have HBX := hide (HBW.out.alloc HBW.out.size (.cells #[.int .i64 k, .int .i64 n, .int .i64 pr, .slice Ak' nk ck', .string tx] 45))
        have hBr : B ≤ wr.heap.size := Nat.le_trans hBw HBW.out.size
        by_cases hn0 : n < 0
        · have HRE := hide (show restN L j = restN L (j + 1) by rw [HRS.out]; unfold nodeL; rw [if_neg (by omega)]; rfl)
          go_wp2_with (first
            | (refine wpList_load_mid rfl 45 (.tmp 53) rfl g (off + j * 5) rfl #[.int .i64 k, .int .i64 n, .int .i64 pr, .slice Ak' nk ck', .string tx] _ HLD.out bo_u' rfl (bo_i' _ _ _ _ _ _ _) ?_)
            | fail)
          go_roundw
          case rel => exact ⟨j + 1, r, by omega, by go_num, hrl, HSU.out.below (HBR.out.mono hBr), by rw [← HRE.out]; exact HSB.out, HBX.out⟩
          case measure => simp only [intOf]; omega
        · obtain ⟨x, rfl⟩ : ∃ x : Nat, n = x := ⟨n.toNat, by omega⟩
          have hsb2 : (x :: restN L (j + 1)).Sublist r := by
            have h1 := HSB.out
            rw [HRS.out] at h1
            unfold nodeL at h1
            rw [if_pos (by omega)] at h1
            simpa using h1
          obtain ⟨m, hm, hmx, hno, hrest⟩ := sub_next r x _ hsb2
          have HMX := hide hmx
          have HNO := hide hno
          have HRT := hide hrest
          clear hsb2 hmx hno hrest HRS HSB
          go_wp2_with (first
            | (refine wpList_load_mid rfl 45 (.tmp 53) rfl g (off + j * 5) rfl #[.int .i64 k, .int .i64 (x : Int), .int .i64 pr, .slice Ak' nk ck', .string tx] _ HLD.out bo_u' rfl (bo_i' _ _ _ _ _ _ _) ?_)
            | fail)
          obtain ⟨xb, hxb⟩ : ∃ xb, xb = wr.heap.size := ⟨_, rfl⟩
          have HSB := hide (HSU.out.below (HBR.out.mono hBr))
          generalize wr.alloc (.cells #[.int .i64 k, .int .i64 (x : Int), .int .i64 pr, .slice Ak' nk ck', .string tx] 45) = wb at *
          rw [← hxb] at HX ⊢
          have hBb : B ≤ wb.heap.size := Nat.le_trans hBr HBR.out.size
          clear hxb HLD HSU HBR hBr
          go_loopw [7] (fun v' wq => ∃ j1 : Nat, j1 ≤ m ∧ SufR wq B v' (r.drop j1) ∧ Below wb.heap.size wb wq) (fun v' _ => lenW v')
          case atStart => exact ⟨0, Nat.zero_le _, by rw [List.drop_zero]; exact HSB.out, Below.refl _ _⟩
          case round =>
            clear HSB
            obtain ⟨j1, hj1, hsu, hbq⟩ := hrel
            obtain ⟨Aq, cq, hv7, hlc, hcm, hrd⟩ := hsu
            subst hv7
            have HBQ := hide hbq
            have HRD := hide hrd
            have hlen : (r.drop j1).length = r.length - j1 := List.length_drop
            obtain ⟨ga, oa, rfl, hga, hat⟩ := natK_form hrd (by omega)
            have q0 := hat 0 (r[j1]'(by omega)) (by rw [List.getElem?_drop, Nat.add_zero, List.getElem?_eq_getElem])
            rw [Nat.add_zero] at q0
            have x1 := (HX.out.below hbq HX.out.lt).cell 1
            simp only [List.getElem?_toArray, List.getElem?_cons_zero, List.getElem?_cons_succ] at x1
            obtain ⟨n1, hn1⟩ : ∃ n1, n1 = (r.drop j1).length := ⟨_, rfl⟩
            have HN1 := hide hn1
            rw [← hn1] at hlc hlen ⊢
            have HLE := hide hlen
            have hn0 : 0 < n1 := by omega
            have hn2 : ¬ n1 = 0 := by omega
            clear hlen
            have hdr := hide (show r.drop (j1 + 1) = (r.drop j1).drop 1 by rw [List.drop_drop])
            obtain ⟨y, hy⟩ : ∃ y, y = r[j1]'(by omega) := ⟨_, rfl⟩
            rw [← hy] at q0
            have hnx := hide (fun (h : j1 < m) => show y ≠ x by rw [hy]; exact HNO.out j1 h)
            have hmx := hide (fun (h : j1 = m) => show y = x by subst h; rw [hy]; exact HMX.out)
            clear hbq hrd hat hn1 hy
            unfold maxLen at hcm
            by_cases hjm : j1 < m
            · have hne := hnx.out hjm
              have z1 : ¬ (y : Int) = (x : Int) := by omega
              go_wp2_with fail
              have hb0 := Below.drew (Below.refl wr.heap.size wr)
              have HBD2 := hide hb0
              have s0 := (hb0.cell (p := ⟨ga, oa, none⟩) (cell_lt q0)).trans q0
              have s1 := (hb0.cell (p := ⟨xb, 1, none⟩) (cell_lt x1)).trans x1
              clear hb0 q0 x1
              refine wp_region_HL 11 #[false, false, false, false, false, false, false, false, false, false, false] (by kernel_rfl) (by kernel_rfl) (S := fun Z => Z.cell? ⟨ga, oa, none⟩ = some (.int .i64 (y : Int)) ∧ Z.cell? ⟨xb, 1, none⟩ = some (.int .i64 (x : Int))) (by kernel_rfl) ⟨s0, s1⟩ (fun hHeld => ?_)
              generalize wr.drew = wv at *
              clear hHeld
              refine take_at (i := 0) (v := (.slice (some ⟨ga, oa, none⟩) n1 cq)) (some 58) rfl rfl (by kernel_rfl) (by kernel_rfl) (by kernel_rfl) (fun _ _ _ h => h) (yieldsIf_move (by rfl) _ rfl _ rfl) ⟨s0, s1⟩ ?_
              simp only [Act.put, List.setIfInBounds_toArray, List.set_cons_zero, List.set_cons_succ]
              refine take_at (i := 1) (v := (.int .i64 (n1 : Int))) (some 59) rfl rfl (by kernel_rfl) (by kernel_rfl) (by kernel_rfl) (fun _ _ _ h => h) (Or.inl ⟨by kernel_rfl, fun W hW => ?_⟩) ⟨s0, s1⟩ ?_
              · go_simp
              simp only [Act.put, List.setIfInBounds_toArray, List.set_cons_zero, List.set_cons_succ]
              refine take_at (i := 2) (v := (.bool true)) (some 60) rfl rfl (by kernel_rfl) (by kernel_rfl) (by kernel_rfl) (fun _ _ _ h => h) (Or.inl ⟨by kernel_rfl, fun W hW => ?_⟩) ⟨s0, s1⟩ ?_
              · go_simp
              simp only [Act.put, List.setIfInBounds_toArray, List.set_cons_zero, List.set_cons_succ]
              refine take_at (i := 3) (v := (.bool true)) (some 61) rfl rfl (by kernel_rfl) (by kernel_rfl) (by kernel_rfl) (fun _ _ _ h => h) (yieldsIf_move (by rfl) _ rfl _ rfl) ⟨s0, s1⟩ ?_
              simp only [Act.put, List.setIfInBounds_toArray, List.set_cons_zero, List.set_cons_succ]
              refine take_at (i := 4) (v := (.slice (some ⟨ga, oa, none⟩) n1 cq)) (some 62) rfl rfl (by kernel_rfl) (by kernel_rfl) (by kernel_rfl) (fun _ _ _ h => h) (yieldsIf_move (by kernel_rfl) _ rfl _ rfl) ⟨s0, s1⟩ ?_
              simp only [Act.put, List.setIfInBounds_toArray, List.set_cons_zero, List.set_cons_succ]
              refine take_at (i := 5) (v := (Value.pointer (some ⟨ga, oa, none⟩))) (some 63) rfl rfl (by kernel_rfl) (by kernel_rfl) (by kernel_rfl) (fun _ _ _ h => h) (yieldsIf_iaddr (by kernel_rfl) 35 _ _ rfl ga oa n1 cq rfl .i64 0 rfl hn0 1 (by kernel_rfl) oa rfl) ⟨s0, s1⟩ ?_
              simp only [Act.put, List.setIfInBounds_toArray, List.set_cons_zero, List.set_cons_succ]
              refine take_at (i := 6) (v := (.int .i64 (y : Int))) (some 64) rfl rfl (by kernel_rfl) (by kernel_rfl) (by kernel_rfl) (fun _ _ _ h => h) (yieldsIf_load1 (by kernel_rfl) 3 _ rfl _ _ _ rfl (by kernel_rfl) (fun _ h => h.1)) ⟨s0, s1⟩ ?_
              simp only [Act.put, List.setIfInBounds_toArray, List.set_cons_zero, List.set_cons_succ]
              refine take_at (i := 7) (v := (Value.pointer (some ⟨xb, 1, none⟩))) (some 65) rfl rfl (by kernel_rfl) (by kernel_rfl) (by kernel_rfl) (fun _ _ _ h => h) (yieldsIf_faddr (by kernel_rfl) 45 _ 1 rfl _ _ 1 rfl (by kernel_rfl)) ⟨s0, s1⟩ ?_
              simp only [Act.put, List.setIfInBounds_toArray, List.set_cons_zero, List.set_cons_succ]
              refine take_at (i := 8) (v := (.int .i64 (x : Int))) (some 66) rfl rfl (by kernel_rfl) (by kernel_rfl) (by kernel_rfl) (fun _ _ _ h => h) (yieldsIf_load1 (by kernel_rfl) 3 _ rfl _ _ _ rfl (by kernel_rfl) (fun _ h => h.2)) ⟨s0, s1⟩ ?_
              simp only [Act.put, List.setIfInBounds_toArray, List.set_cons_zero, List.set_cons_succ]
              refine take_at (i := 9) (v := (.bool true)) (some 67) rfl rfl (by kernel_rfl) (by kernel_rfl) (by kernel_rfl) (fun _ _ _ h => h) (Or.inl ⟨by kernel_rfl, fun W hW => ?_⟩) ⟨s0, s1⟩ ?_
              · go_simp
              simp only [Act.put, List.setIfInBounds_toArray, List.set_cons_zero, List.set_cons_succ]
              refine take_at (i := 10) (v := (.bool true)) (some 68) rfl rfl (by kernel_rfl) (by kernel_rfl) (by kernel_rfl) (fun _ _ _ h => h) (Or.inl ⟨by rfl, fun W hW => ?_⟩) ⟨s0, s1⟩ ?_
              · go_simp
              simp only [Act.put, List.setIfInBounds_toArray, List.set_cons_zero, List.set_cons_succ]
              refine wpAnyH_done (by kernel_rfl) ?_ _
              clear s0 s1
              go_wp2_with fail
              have hS := SufR.next (HRD.out.below (HBD2.out.mono (Nat.le_trans hBb HBQ.out.size))) (by rw [← HN1.out]; exact hn0) (by rw [← HN1.out]; exact hlc) (by unfold maxLen; exact hcm)
              rw [← HN1.out, ← hdr.out] at hS
              have hbv := HBQ.out.trans (HBD2.out.mono HBQ.out.size)
              exact ⟨⟨j1 + 1, by omega, hS, hbv⟩, by show n1 - 1 < n1; omega⟩
            · have hyx := hmx.out (by omega)
              have z1 : ((y : Int) == (x : Int)) = true := by rw [beq_iff_eq]; omega
              go_wp2_with fail
              have hb0 := Below.drew (Below.refl wr.heap.size wr)
              have HBD2 := hide hb0
              have s0 := (hb0.cell (p := ⟨ga, oa, none⟩) (cell_lt q0)).trans q0
              have s1 := (hb0.cell (p := ⟨xb, 1, none⟩) (cell_lt x1)).trans x1
              clear hb0 q0 x1
              refine wp_region_HL 11 #[false, false, false, false, false, false, false, false, false, false, false] (by kernel_rfl) (by kernel_rfl) (S := fun Z => Z.cell? ⟨ga, oa, none⟩ = some (.int .i64 (y : Int)) ∧ Z.cell? ⟨xb, 1, none⟩ = some (.int .i64 (x : Int))) (by kernel_rfl) ⟨s0, s1⟩ (fun hHeld => ?_)
              generalize wr.drew = wv at *
              clear hHeld
              refine take_at (i := 0) (v := (.slice (some ⟨ga, oa, none⟩) n1 cq)) (some 58) rfl rfl (by kernel_rfl) (by kernel_rfl) (by kernel_rfl) (fun _ _ _ h => h) (yieldsIf_move (by rfl) _ rfl _ rfl) ⟨s0, s1⟩ ?_
              simp only [Act.put, List.setIfInBounds_toArray, List.set_cons_zero, List.set_cons_succ]
              refine take_at (i := 1) (v := (.int .i64 (n1 : Int))) (some 59) rfl rfl (by kernel_rfl) (by kernel_rfl) (by kernel_rfl) (fun _ _ _ h => h) (Or.inl ⟨by kernel_rfl, fun W hW => ?_⟩) ⟨s0, s1⟩ ?_
              · go_simp
              simp only [Act.put, List.setIfInBounds_toArray, List.set_cons_zero, List.set_cons_succ]
              refine take_at (i := 2) (v := (.bool true)) (some 60) rfl rfl (by kernel_rfl) (by kernel_rfl) (by kernel_rfl) (fun _ _ _ h => h) (Or.inl ⟨by kernel_rfl, fun W hW => ?_⟩) ⟨s0, s1⟩ ?_
              · go_simp
              simp only [Act.put, List.setIfInBounds_toArray, List.set_cons_zero, List.set_cons_succ]
              refine take_at (i := 3) (v := (.bool true)) (some 61) rfl rfl (by kernel_rfl) (by kernel_rfl) (by kernel_rfl) (fun _ _ _ h => h) (yieldsIf_move (by rfl) _ rfl _ rfl) ⟨s0, s1⟩ ?_
              simp only [Act.put, List.setIfInBounds_toArray, List.set_cons_zero, List.set_cons_succ]
              refine take_at (i := 4) (v := (.slice (some ⟨ga, oa, none⟩) n1 cq)) (some 62) rfl rfl (by kernel_rfl) (by kernel_rfl) (by kernel_rfl) (fun _ _ _ h => h) (yieldsIf_move (by kernel_rfl) _ rfl _ rfl) ⟨s0, s1⟩ ?_
              simp only [Act.put, List.setIfInBounds_toArray, List.set_cons_zero, List.set_cons_succ]
              refine take_at (i := 5) (v := (Value.pointer (some ⟨ga, oa, none⟩))) (some 63) rfl rfl (by kernel_rfl) (by kernel_rfl) (by kernel_rfl) (fun _ _ _ h => h) (yieldsIf_iaddr (by kernel_rfl) 35 _ _ rfl ga oa n1 cq rfl .i64 0 rfl hn0 1 (by kernel_rfl) oa rfl) ⟨s0, s1⟩ ?_
              simp only [Act.put, List.setIfInBounds_toArray, List.set_cons_zero, List.set_cons_succ]
              refine take_at (i := 6) (v := (.int .i64 (y : Int))) (some 64) rfl rfl (by kernel_rfl) (by kernel_rfl) (by kernel_rfl) (fun _ _ _ h => h) (yieldsIf_load1 (by kernel_rfl) 3 _ rfl _ _ _ rfl (by kernel_rfl) (fun _ h => h.1)) ⟨s0, s1⟩ ?_
              simp only [Act.put, List.setIfInBounds_toArray, List.set_cons_zero, List.set_cons_succ]
              refine take_at (i := 7) (v := (Value.pointer (some ⟨xb, 1, none⟩))) (some 65) rfl rfl (by kernel_rfl) (by kernel_rfl) (by kernel_rfl) (fun _ _ _ h => h) (yieldsIf_faddr (by kernel_rfl) 45 _ 1 rfl _ _ 1 rfl (by kernel_rfl)) ⟨s0, s1⟩ ?_
              simp only [Act.put, List.setIfInBounds_toArray, List.set_cons_zero, List.set_cons_succ]
              refine take_at (i := 8) (v := (.int .i64 (x : Int))) (some 66) rfl rfl (by kernel_rfl) (by kernel_rfl) (by kernel_rfl) (fun _ _ _ h => h) (yieldsIf_load1 (by kernel_rfl) 3 _ rfl _ _ _ rfl (by kernel_rfl) (fun _ h => h.2)) ⟨s0, s1⟩ ?_
              simp only [Act.put, List.setIfInBounds_toArray, List.set_cons_zero, List.set_cons_succ]
              refine take_at (i := 9) (v := (.bool false)) (some 67) rfl rfl (by kernel_rfl) (by kernel_rfl) (by kernel_rfl) (fun _ _ _ h => h) (Or.inl ⟨by kernel_rfl, fun W hW => ?_⟩) ⟨s0, s1⟩ ?_
              · go_simp
              simp only [Act.put, List.setIfInBounds_toArray, List.set_cons_zero, List.set_cons_succ]
              refine take_at (i := 10) (v := (.bool false)) (some 68) rfl rfl (by kernel_rfl) (by kernel_rfl) (by kernel_rfl) (fun _ _ _ h => h) (Or.inl ⟨by rfl, fun W hW => ?_⟩) ⟨s0, s1⟩ ?_
              · go_simp
              simp only [Act.put, List.setIfInBounds_toArray, List.set_cons_zero, List.set_cons_succ]
              refine wpAnyH_done (by kernel_rfl) ?_ _
              clear s0 s1
              go_wp2_with fail
              have hS := SufR.next (HRD.out.below (HBD2.out.mono (Nat.le_trans hBb HBQ.out.size))) (by rw [← HN1.out]; exact hn0) (by rw [← HN1.out]; exact hlc) (by unfold maxLen; exact hcm)
              rw [← HN1.out, ← hdr.out] at hS
              have hbv := HBQ.out.trans (HBD2.out.mono HBQ.out.size)
              obtain rfl : j1 = m := by omega
              exact ⟨⟨j + 1, r.drop (j1 + 1), by omega, by go_num, by rw [List.length_drop]; omega, hS, HRT.out, HBX.out.trans (hbv.mono HBX.out.size)⟩, by simp only [intOf]; omega⟩
      · go_wp2_with (first
          | (go_at_call 10; refine (boxed_any _).mono ?_; rintro e w9 ⟨rfl, hx⟩; have HB9 := hide (HBD.out.trans (hx.mono (bsz HBD.out hDw))); clear hx)
          | fail)
        go_ret
        exact ⟨rfl, HDE.out ▸ HB9.out⟩
  · obtain rfl := HZ.out hz
    have t1 : (z == 0) = false := by simpa using hz
    clear HZ HZ0 hz
    go_wp2_with (first
      | (go_at_call 10; refine (boxed_any _).mono ?_; rintro e w9 ⟨rfl, hx⟩; have HB9 := hide (HB2.out.trans (hx.mono HB2.out.size)); clear hx)
      | fail)
    go_ret
    exact ⟨rfl, HB9.out⟩
end Go.Proofs.YtbpkffoooieejaaDoor
