/- boxes.maker.box at elements (printed by mkbox.py). -/
import Derived.Test.YtbpkffoooieejaaDoorK4
set_option linter.unusedVariables false
set_option linter.unusedSimpArgs false
namespace Go.Proofs.YtbpkffoooieejaaDoor
open Go.ChangeShapes Go.WideShapes Go.ChangeAt Go.RowKit Go.Instr
section
variable {P : Program} {ops : Array Oper} {Q : Exit → Act → World → Prop} {md : Region.Mode} {S : World → Prop} {fuel : Nat} {l : Array Bool} {a : Act} {w : World} {j : Nat} {o : Oper}
theorem readyLay {rs : List Nat} (ho : ops[j]? = some o) (hgd : o.guard = none) (d : Tmp) (hd : o.dst = some d) (t : TypeId) (len : Nat) (parts : Array (Nat × Operand)) (hop : o.op = .buildSlice t len parts) (vals : List (Nat × Value)) (hv : parts.toList.map (fun p => (p.1, a.eval p.2)) = vals) (cs : Array Value) (e : TypeId) (hc : sliceCells P t len vals = some (cs, e))
    (hS : S (w.alloc (.cells cs e))) (h : wpAnyH P md ops Q S fuel (l.setIfInBounds j true) (a.put (some d) (.slice (some ⟨w.heap.size, 0, none⟩) len len)) (w.alloc (.cells cs e))) (hs : AllReadyH P md ops Q S fuel l a w rs) : AllReadyH P md ops Q S fuel l a w (j :: rs) :=
  readyC ho hgd (fun _ hK => wp_lay t len parts hop vals hv cs e hc (by rw [hd]; exact hK _ _ hS h)) hs
theorem readyStore {rs : List Nat} (ho : ops[j]? = some o) (hgd : o.guard = none) (hd : o.dst = none) (ty x y) (hop : o.op = .store ty x y) (g i : Nat) (t : TypeId) (cs : Array Value) (v : Value) (hx : a.eval x = .pointer (some ⟨g, i, none⟩)) (hy : a.eval y = v)
    (hb : Blk w g t cs) (hss : i < cs.size) (hi : (P.info? ty).map (·.size) = some 1) (hvc : v.cells = #[v]) (hv : v.oneCell' = true)
    (h : ∀ w', Blk w' g t (cs.setIfInBounds i v) → w.grownBy w' (some g) → S w' ∧ wpAnyH P md ops Q S fuel (l.setIfInBounds j true) a w') (hs : AllReadyH P md ops Q S fuel l a w rs) : AllReadyH P md ops Q S fuel l a w (j :: rs) :=
  readyC ho hgd (fun K' hK => wp_store_fld ty x y hop g i t cs v hx hy hb hss hi hvc hv fun w' h1 h2 => by
    rw [hd, put_none]
    exact hK _ _ (h w' h1 h2).1 (h w' h1 h2).2) hs
end
set_option maxRecDepth 100000 in
set_option maxHeartbeats 40000000 in
theorem box_inline (l : List Nd) (R : Nat → Nat → Int) (An As : Option Addr) (cn cs : Nat) (lev : Nat → Nat) (g0 : Nat → Tr) (n : Nat) (w : World) (hP : CeP l R lev g0) (hS : CeS w l R An As cn cs lev (lev n) g0) (hn : n < l.length) (hk3 : (ndAt l n).kind ≠ 3) (hbr : (pgOf l R).br n = false) (his : isF (pgOf l R) n = 1) (hany : ((contF (pgOf l R) 41 n).map g0).any (blockyF (pgOf l R) 1) = false) :
    Calls Tryd.prog 44 #[.agg #[.slice An l.length cn, .slice As l.length cs], .int .i64 (n : Int)] w fun e w' => TreePost KNo w.heap.size (.mk 3 n ByteArray.empty ((contF (pgOf l R) 41 n).map g0)) w' e ∧ Below w.heap.size w w' := by
  have hnl : ¬ l.length ≤ n := by omega
  obtain ⟨g, off, Aa, ca, Ak, ck, rfl, hg, hnd, hns⟩ := hS.mkr.nds n hn
  have htx := hns.text
  clear hns
  have hb1 := (Below.refl w.heap.size w).alloc (Nat.le_refl _) (.cells #[.slice (some ⟨g, off, none⟩) l.length cn, .slice As l.length cs] 75)
  have hb2 := hb1.alloc hb1.size (.cells #[.int .i64 0, .int .i64 0, .int .i64 0, .slice none 0 0, .string ⟨#[]⟩, .slice none 0 0] 79)
  have hb3 := hb2.alloc hb2.size (.cells #[.int .i64 4, .int .i64 n, .int .i64 0, .slice none 0 0, .string ⟨#[]⟩, .slice none 0 0] 79)
  obtain ⟨kd, hkd⟩ : ∃ kd, kd = (ndAt l n).kind := ⟨_, rfl⟩
  obtain ⟨nm, hnm⟩ : ∃ nm, nm = (ndAt l n).name := ⟨_, rfl⟩
  obtain ⟨tx, htxe⟩ : ∃ tx, tx = (ndAt l n).text := ⟨_, rfl⟩
  obtain ⟨d0, d1, d2, d3, d4, d5, _, _⟩ := hnd.below hb3 hg
  rw [← hkd] at d0
  rw [← hnm] at d1
  rw [← htxe] at d3 htx
  rw [← hkd] at hk3
  have HKD := hide hkd
  have HNM := hide hnm
  have HTX := hide htxe
  clear hkd hnm htxe
  generalize (ndAt l n).attrs.length = na at *
  generalize (ndAt l n).par = pr at *
  generalize (ndAt l n).kids.length = nk at *
  clear hnd
  have HB := hide (hb3.alloc hb3.size (.cells #[.int .i64 kd, .string nm, .slice Aa na ca, .string tx, .int .i64 pr, .slice Ak nk ck] 58))
  have HD := hide ((((Blk.new w 75 #[.slice (some ⟨g, off, none⟩) l.length cn, .slice As l.length cs]).alloc (.cells #[.int .i64 0, .int .i64 0, .int .i64 0, .slice none 0 0, .string ⟨#[]⟩, .slice none 0 0] 79)).alloc (.cells #[.int .i64 4, .int .i64 n, .int .i64 0, .slice none 0 0, .string ⟨#[]⟩, .slice none 0 0] 79)).alloc (.cells #[.int .i64 kd, .string nm, .slice Aa na ca, .string tx, .int .i64 pr, .slice Ak nk ck] 58))
  have HZ := hide (((blk_two w (.cells #[.slice (some ⟨g, off, none⟩) l.length cn, .slice As l.length cs] 75) #[.int .i64 0, .int .i64 0, .int .i64 0, .slice none 0 0, .string ⟨#[]⟩, .slice none 0 0] 79).alloc (.cells #[.int .i64 4, .int .i64 n, .int .i64 0, .slice none 0 0, .string ⟨#[]⟩, .slice none 0 0] 79)).alloc (.cells #[.int .i64 kd, .string nm, .slice Aa na ca, .string tx, .int .i64 pr, .slice Ak nk ck] 58))
  have HT := hide ((blk_three w (.cells #[.slice (some ⟨g, off, none⟩) l.length cn, .slice As l.length cs] 75) (.cells #[.int .i64 0, .int .i64 0, .int .i64 0, .slice none 0 0, .string ⟨#[]⟩, .slice none 0 0] 79) #[.int .i64 4, .int .i64 n, .int .i64 0, .slice none 0 0, .string ⟨#[]⟩, .slice none 0 0] 79).alloc (.cells #[.int .i64 kd, .string nm, .slice Aa na ca, .string tx, .int .i64 pr, .slice Ak nk ck] 58))
  have HN := hide (blk_four w (.cells #[.slice (some ⟨g, off, none⟩) l.length cn, .slice As l.length cs] 75) (.cells #[.int .i64 0, .int .i64 0, .int .i64 0, .slice none 0 0, .string ⟨#[]⟩, .slice none 0 0] 79) (.cells #[.int .i64 4, .int .i64 n, .int .i64 0, .slice none 0 0, .string ⟨#[]⟩, .slice none 0 0] 79) #[.int .i64 kd, .string nm, .slice Aa na ca, .string tx, .int .i64 pr, .slice Ak nk ck] 58)
  clear hb1 hb2 hb3
  have t3 : (kd == 3) = false := by simpa using hk3
  clear hk3
  have HNB := hide (show nm ≠ brS by rw [HNM.out]; exact of_decide_eq_false hbr)
  obtain ⟨L, hL⟩ : ∃ L, L = contF (pgOf l R) 41 n := ⟨_, rfl⟩
  have HDP := hide (show DeepN l.length lev (lev n) L by rw [hL]; exact hP.deep hn (Nat.le_refl _) 41)
  have hl3 : L.length ≤ 1000000 := by rw [hL]; exact Nat.le_trans (hP.len 41 n hn) (by decide)
  have HNO := hide (show ∀ t ∈ L.map g0, NodOk l.length t from fun t ht => by
    obtain ⟨k, hk, rfl⟩ := List.mem_map.1 ht
    exact hP.nod k (HDP.out k hk).1)
  have HIS := hide (fun (Z : World) (h : Below w.heap.size w Z) => is_any l R (some ⟨g, off, none⟩) As cn cs n Z (hS.later h).mkr hn)
  have HCON := hide (fun (Z : World) (h : Below w.heap.size w Z) => contAt l R (some ⟨g, off, none⟩) As cn cs lev (lev n) g0 (hS.later h) hP hn)
  rw [← hL] at HCON
  have HBX := hide (fun (Z : World) (A : Option Addr) (c : Nat) (h : Below w.heap.size w Z) (hr : Reads Z Z.heap.size 1 A L.length (natCells L)) => boxes_any l (some ⟨g, off, none⟩) As cn cs g0 L A c Z hr hl3 (fun k hk => (hS.later h).box k (HDP.out k hk).1 (HDP.out k hk).2))
  have hl4 : (L.map g0).length ≤ 1000000 := by rw [List.length_map]; exact hl3
  obtain ⟨ts, hts⟩ : ∃ ts, ts = L.map g0 := ⟨_, rfl⟩
  rw [← hts] at HBX HNO hl4
  have HHAS := hide (fun (a : Nat) (Z : World) (A : Option Addr) (c : Nat) (h : Below w.heap.size w Z) (hd : Blk Z w.heap.size 75 #[.slice (some ⟨g, off, none⟩) l.length cn, .slice As l.length cs]) (hr : TrRow Z (KNew KNo a Z.heap.size) A ts) => hasTree_any ts A c (KNew KNo a Z.heap.size) 63 ⟨w.heap.size, 0, none⟩ (blockyF (pgOf l R) 1) Z hr (fun g hg => hg.elim False.elim fun h => h.2) hl4 enter63 (fun t ht => ask63C (hS.later h).mkr hd (HNO.out t ht)))
  rw [← hL, ← hts] at hany
  rw [hany] at HHAS
  rw [his] at HIS
  rw [← hL, ← hts]
  generalize isF (pgOf l R) n = z at *
  have HLE := hide hl4
  clear hL hts hS hP HNO
  have tb : ¬ nm.toList = [98, 114] := fun e => HNB.out (by
    rw [Lib.toList_data] at e
    exact ByteArray.ext (Array.toList_inj.1 e))
  go_enter Tryd.func44, Tryd.ntmps44
  go_wp2_with fail
  generalize (((w.alloc (.cells #[.slice (some ⟨g, off, none⟩) l.length cn, .slice As l.length cs] 75)).alloc (.cells #[.int .i64 0, .int .i64 0, .int .i64 0, .slice none 0 0, .string ⟨#[]⟩, .slice none 0 0] 79)).alloc (.cells #[.int .i64 4, .int .i64 n, .int .i64 0, .slice none 0 0, .string ⟨#[]⟩, .slice none 0 0] 79)).alloc (.cells #[.int .i64 kd, .string nm, .slice Aa na ca, .string tx, .int .i64 pr, .slice Ak nk ck] 58) = w2 at *
  obtain ⟨D, hDD⟩ : ∃ D, D = w.heap.size := ⟨_, rfl⟩
  have hDw : D ≤ w.heap.size := by omega
  have HDE := hide hDD
  rw [← hDD] at HB HD HZ HT HN hg HIS HCON HBX HHAS ⊢
  clear d0 d1 d2 d3 d4 d5 hDD
  go_wp2_with (first
    | (go_at_call 45; refine (HIS.out _ HB.out).mono ?_; rintro e w7 ⟨rfl, hb7⟩; have HB7 := hide (HB.out.trans (hb7.mono (bsz HB.out hDw))); have HD7 := hide (HD.out.below hb7 HD.out.lt); have HZ7 := hide (HZ.out.below hb7 HZ.out.lt); have HT7 := hide (HT.out.below hb7 HT.out.lt); have n1 := (HN.out.below hb7 HN.out.lt).cell 1; have m0 := HD7.out.cell 0; have m1 := HD7.out.cell 1; simp only [List.getElem?_toArray, List.getElem?_cons_zero, List.getElem?_cons_succ] at n1 m0 m1; have h2D := HT.out.lt; clear hb7)
    | (go_at_call 24; refine (HCON.out _ HB7.out).mono ?_; rintro e w6 ⟨⟨v6, rfl, ho6⟩, hb6⟩; obtain ⟨A6, c6, rfl, hc6, hm6, hr6⟩ := own_reads2 ho6; have HR6 := hide hr6; have HB6 := hide (HB7.out.trans (hb6.mono (bsz HB7.out hDw))); have HD6 := hide (HD7.out.below hb6 HD7.out.lt); have HZ6 := hide (HZ7.out.below hb6 HZ7.out.lt); have HT6 := hide (HT7.out.below hb6 HT7.out.lt); have m60 := HD6.out.cell 0; have m61 := HD6.out.cell 1; simp only [List.getElem?_toArray, List.getElem?_cons_zero, List.getElem?_cons_succ] at m60 m61; clear hb6 ho6 hr6)
    | (go_at_call 23; refine (HBX.out _ A6 c6 HB6.out HR6.out).mono ?_; rintro e w5 ⟨⟨A5, c5, rfl, hc5, hm5, hr5⟩, hb5⟩; have HR5 := hide hr5; have HB5 := hide (HB6.out.trans (hb5.mono (bsz HB6.out hDw))); have HD5 := hide (HD6.out.below hb5 HD6.out.lt); have HZ5 := hide (HZ6.out.below hb5 HZ6.out.lt); have HT5 := hide (HT6.out.below hb5 HT6.out.lt); have h65 := HZ6.out.lt; have h65t := HT6.out.lt; have hRS := HR6.out.below hb5; have HRS := hide (hRS.more hb5.size); clear hb5 hr5 hRS)
    | (go_at_call 42; refine (HHAS.out _ _ A5 c5 HB5.out HD5.out HR5.out).mono ?_; rintro e w4 ⟨rfl, hb4⟩; have HR4 := hide (HR5.out.below hb4 (fun g hg => hg.elim False.elim fun h => h.2)); have HB4 := hide (HB5.out.trans (hb4.mono (bsz HB5.out hDw))); have HD4 := hide (HD5.out.below hb4 HD5.out.lt); have HZ4 := hide (HZ5.out.below hb4 HZ5.out.lt); have HT4 := hide (HT5.out.below hb4 HT5.out.lt); have h54 := hb4.size; have HRS4 := hide ((HRS.out.below hb4).more hb4.size); clear hb4)
    | (refine wpList_store_fld rfl 3 (.tmp 62) (.const (.int .i64 3)) rfl (D + 1 + 1) 0 79 _ (.int .i64 3) rfl rfl HT4.out (Nat.le_of_ble_eq_true rfl) int_i1 rfl rfl ?_; intro w3 hB3 hG3; have HT3 := hide hB3; have HG3 := hide hG3; have HZ3 := hide (HZ4.out.grown hG3 (fun e => by injection e with e; omega)); have HBW3 := hide (below_grown HB4.out hDw hG3 (by omega)); clear hB3 hG3)
    | (refine wpList_store_fld rfl 77 (.tmp 63) (.tmp 60) rfl (D + 1 + 1) 5 79 _ (.slice A5 ts.length c5) rfl rfl HT3.out (Nat.le_of_ble_eq_true rfl) trs_i1 rfl rfl ?_; intro w2 hB2 hG2; have HT2 := hide (show Blk w2 (D + 1 + 1) 79 #[.int .i64 3, .int .i64 n, .int .i64 0, .slice none 0 0, .string ⟨#[]⟩, .slice A5 ts.length c5] from hB2); have HG2 := hide hG2; have HZ2 := hide (HZ3.out.grown hG2 (fun e => by injection e with e; omega)); have HBW2 := hide (below_grown HBW3.out hDw hG2 (by omega)); clear hB2 hG2)
    | (refine wpList_load_row rfl 79 (.tmp 5) rfl (D + 1 + 1) rfl _ _ (0, 0) _ HT2.out tr_u rfl (tr_i _ _ _ _ _ _) ?_)
    | (refine wpList_store_blk rfl 79 (.tmp 4) (.tmp 64) rfl (D + 1) 79 _ _ rfl rfl HZ2.out rfl (tr_i _ _ _ _ _ _) (tr_ones _ _ _ _ _ _) ?_; intro w9 hB9 hG9; have HZ9 := hide hB9; have HG9 := hide hG9; have HB9 := hide (below_grown HBW2.out hDw hG9 (by omega)); clear hB9 hG9)
    | fail)
  refine bodyPost_ret (results_cell_row rfl _ _ (D + 1) 79 _ (0, 0) _ rfl HZ9.out tr_u rfl (tr_i _ _ _ _ _ _)) rfl ?_
  rw [← HDE.out]
  exact ⟨⟨A5, c5, rfl, TrV.of (by decide) HLE.out hc5 hm5 (((HR4.out.stored HG3.out h65t h54 (Nat.le_refl _)).stored HG2.out h65t (Nat.le_refl _) (Nat.le_refl _)).stored HG9.out h65 (Nat.le_refl _) (by omega))⟩, HB9.out⟩
set_option maxRecDepth 100000 in
set_option maxHeartbeats 40000000 in
theorem box_mixed (l : List Nd) (R : Nat → Nat → Int) (An As : Option Addr) (cn cs : Nat) (lev : Nat → Nat) (g0 : Nat → Tr) (n : Nat) (w : World) (hP : CeP l R lev g0) (hS : CeS w l R An As cn cs lev (lev n) g0) (hn : n < l.length) (hk3 : (ndAt l n).kind ≠ 3) (hbr : (pgOf l R).br n = false) (his : isF (pgOf l R) n = 1) (hany : ((contF (pgOf l R) 41 n).map g0).any (blockyF (pgOf l R) 1) = true) :
    Calls Tryd.prog 44 #[.agg #[.slice An l.length cn, .slice As l.length cs], .int .i64 (n : Int)] w fun e w' => TreePost KNo w.heap.size (contrF idleT (pgOf l R) n ((contF (pgOf l R) 41 n).map g0)) w' e ∧ Below w.heap.size w w' := by
  have hnl : ¬ l.length ≤ n := by omega
  obtain ⟨g, off, Aa, ca, Ak, ck, rfl, hg, hnd, hns⟩ := hS.mkr.nds n hn
  have htx := hns.text
  clear hns
  have hb1 := (Below.refl w.heap.size w).alloc (Nat.le_refl _) (.cells #[.slice (some ⟨g, off, none⟩) l.length cn, .slice As l.length cs] 75)
  have hb2 := hb1.alloc hb1.size (.cells #[.int .i64 0, .int .i64 0, .int .i64 0, .slice none 0 0, .string ⟨#[]⟩, .slice none 0 0] 79)
  have hb3 := hb2.alloc hb2.size (.cells #[.int .i64 4, .int .i64 n, .int .i64 0, .slice none 0 0, .string ⟨#[]⟩, .slice none 0 0] 79)
  obtain ⟨kd, hkd⟩ : ∃ kd, kd = (ndAt l n).kind := ⟨_, rfl⟩
  obtain ⟨nm, hnm⟩ : ∃ nm, nm = (ndAt l n).name := ⟨_, rfl⟩
  obtain ⟨tx, htxe⟩ : ∃ tx, tx = (ndAt l n).text := ⟨_, rfl⟩
  obtain ⟨d0, d1, d2, d3, d4, d5, _, _⟩ := hnd.below hb3 hg
  rw [← hkd] at d0
  rw [← hnm] at d1
  rw [← htxe] at d3 htx
  rw [← hkd] at hk3
  have HKD := hide hkd
  have HNM := hide hnm
  have HTX := hide htxe
  clear hkd hnm htxe
  generalize (ndAt l n).attrs.length = na at *
  generalize (ndAt l n).par = pr at *
  generalize (ndAt l n).kids.length = nk at *
  clear hnd
  have HB := hide (hb3.alloc hb3.size (.cells #[.int .i64 kd, .string nm, .slice Aa na ca, .string tx, .int .i64 pr, .slice Ak nk ck] 58))
  have HD := hide ((((Blk.new w 75 #[.slice (some ⟨g, off, none⟩) l.length cn, .slice As l.length cs]).alloc (.cells #[.int .i64 0, .int .i64 0, .int .i64 0, .slice none 0 0, .string ⟨#[]⟩, .slice none 0 0] 79)).alloc (.cells #[.int .i64 4, .int .i64 n, .int .i64 0, .slice none 0 0, .string ⟨#[]⟩, .slice none 0 0] 79)).alloc (.cells #[.int .i64 kd, .string nm, .slice Aa na ca, .string tx, .int .i64 pr, .slice Ak nk ck] 58))
  have HZ := hide (((blk_two w (.cells #[.slice (some ⟨g, off, none⟩) l.length cn, .slice As l.length cs] 75) #[.int .i64 0, .int .i64 0, .int .i64 0, .slice none 0 0, .string ⟨#[]⟩, .slice none 0 0] 79).alloc (.cells #[.int .i64 4, .int .i64 n, .int .i64 0, .slice none 0 0, .string ⟨#[]⟩, .slice none 0 0] 79)).alloc (.cells #[.int .i64 kd, .string nm, .slice Aa na ca, .string tx, .int .i64 pr, .slice Ak nk ck] 58))
  have HT := hide ((blk_three w (.cells #[.slice (some ⟨g, off, none⟩) l.length cn, .slice As l.length cs] 75) (.cells #[.int .i64 0, .int .i64 0, .int .i64 0, .slice none 0 0, .string ⟨#[]⟩, .slice none 0 0] 79) #[.int .i64 4, .int .i64 n, .int .i64 0, .slice none 0 0, .string ⟨#[]⟩, .slice none 0 0] 79).alloc (.cells #[.int .i64 kd, .string nm, .slice Aa na ca, .string tx, .int .i64 pr, .slice Ak nk ck] 58))
  have HN := hide (blk_four w (.cells #[.slice (some ⟨g, off, none⟩) l.length cn, .slice As l.length cs] 75) (.cells #[.int .i64 0, .int .i64 0, .int .i64 0, .slice none 0 0, .string ⟨#[]⟩, .slice none 0 0] 79) (.cells #[.int .i64 4, .int .i64 n, .int .i64 0, .slice none 0 0, .string ⟨#[]⟩, .slice none 0 0] 79) #[.int .i64 kd, .string nm, .slice Aa na ca, .string tx, .int .i64 pr, .slice Ak nk ck] 58)
  clear hb1 hb2 hb3
  have t3 : (kd == 3) = false := by simpa using hk3
  clear hk3
  have HNB := hide (show nm ≠ brS by rw [HNM.out]; exact of_decide_eq_false hbr)
  obtain ⟨L, hL⟩ : ∃ L, L = contF (pgOf l R) 41 n := ⟨_, rfl⟩
  have HDP := hide (show DeepN l.length lev (lev n) L by rw [hL]; exact hP.deep hn (Nat.le_refl _) 41)
  have hl3 : L.length ≤ 1000000 := by rw [hL]; exact Nat.le_trans (hP.len 41 n hn) (by decide)
  have HNO := hide (show ∀ t ∈ L.map g0, NodOk l.length t from fun t ht => by
    obtain ⟨k, hk, rfl⟩ := List.mem_map.1 ht
    exact hP.nod k (HDP.out k hk).1)
  have HIS := hide (fun (Z : World) (h : Below w.heap.size w Z) => is_any l R (some ⟨g, off, none⟩) As cn cs n Z (hS.later h).mkr hn)
  have HCON := hide (fun (Z : World) (h : Below w.heap.size w Z) => contAt l R (some ⟨g, off, none⟩) As cn cs lev (lev n) g0 (hS.later h) hP hn)
  rw [← hL] at HCON
  have HBX := hide (fun (Z : World) (A : Option Addr) (c : Nat) (h : Below w.heap.size w Z) (hr : Reads Z Z.heap.size 1 A L.length (natCells L)) => boxes_any l (some ⟨g, off, none⟩) As cn cs g0 L A c Z hr hl3 (fun k hk => (hS.later h).box k (HDP.out k hk).1 (HDP.out k hk).2))
  have hl4 : (L.map g0).length ≤ 1000000 := by rw [List.length_map]; exact hl3
  obtain ⟨ts, hts⟩ : ∃ ts, ts = L.map g0 := ⟨_, rfl⟩
  rw [← hts] at HBX HNO hl4
  have HHAS := hide (fun (a : Nat) (Z : World) (A : Option Addr) (c : Nat) (h : Below w.heap.size w Z) (hd : Blk Z w.heap.size 75 #[.slice (some ⟨g, off, none⟩) l.length cn, .slice As l.length cs]) (hr : TrRow Z (KNew KNo a Z.heap.size) A ts) => hasTree_any ts A c (KNew KNo a Z.heap.size) 63 ⟨w.heap.size, 0, none⟩ (blockyF (pgOf l R) 1) Z hr (fun g hg => hg.elim False.elim fun h => h.2) hl4 enter63 (fun t ht => ask63C (hS.later h).mkr hd (HNO.out t ht)))
  have HCO := hide (fun (a : Nat) (Z : World) (A1 : Option Addr) (c1 : Nat) (h : Below w.heap.size w Z) (hr : TrRow Z (KNew KNo a Z.heap.size) A1 ts) (h1 : ts.length ≤ c1) (h2 : c1 ≤ maxLen) => container_any l R (some ⟨g, off, none⟩) As cn cs ((n : Int)) ts A1 c1 (KNew KNo a Z.heap.size) Z (hS.later h).mkr hr (fun g hg => hg.elim False.elim fun h => h.2) h1 h2 hl4 HNO.out)
  obtain ⟨ct, hct⟩ : ∃ ct, ct = contrF idleT (pgOf l R) ((n : Int)) ts := ⟨_, rfl⟩
  rw [← hct] at HCO
  have HCT := hide hct
  clear hct
  rw [← hL, ← hts] at hany
  rw [hany] at HHAS
  rw [his] at HIS
  have HCTE := HCT
  rw [← hL, ← hts]
  generalize isF (pgOf l R) n = z at *
  have HLE := hide hl4
  clear hL hts hS hP HNO
  have tb : ¬ nm.toList = [98, 114] := fun e => HNB.out (by
    rw [Lib.toList_data] at e
    exact ByteArray.ext (Array.toList_inj.1 e))
  go_enter Tryd.func44, Tryd.ntmps44
  go_wp2_with fail
  generalize (((w.alloc (.cells #[.slice (some ⟨g, off, none⟩) l.length cn, .slice As l.length cs] 75)).alloc (.cells #[.int .i64 0, .int .i64 0, .int .i64 0, .slice none 0 0, .string ⟨#[]⟩, .slice none 0 0] 79)).alloc (.cells #[.int .i64 4, .int .i64 n, .int .i64 0, .slice none 0 0, .string ⟨#[]⟩, .slice none 0 0] 79)).alloc (.cells #[.int .i64 kd, .string nm, .slice Aa na ca, .string tx, .int .i64 pr, .slice Ak nk ck] 58) = w2 at *
  obtain ⟨D, hDD⟩ : ∃ D, D = w.heap.size := ⟨_, rfl⟩
  have hDw : D ≤ w.heap.size := by omega
  have HDE := hide hDD
  rw [← hDD] at HB HD HZ HT HN hg HIS HCON HBX HHAS HCO ⊢
  clear d0 d1 d2 d3 d4 d5 hDD
  go_wp2_with (first
    | (go_at_call 45; refine (HIS.out _ HB.out).mono ?_; rintro e w7 ⟨rfl, hb7⟩; have HB7 := hide (HB.out.trans (hb7.mono (bsz HB.out hDw))); have HD7 := hide (HD.out.below hb7 HD.out.lt); have HZ7 := hide (HZ.out.below hb7 HZ.out.lt); have HT7 := hide (HT.out.below hb7 HT.out.lt); have n1 := (HN.out.below hb7 HN.out.lt).cell 1; have m0 := HD7.out.cell 0; have m1 := HD7.out.cell 1; simp only [List.getElem?_toArray, List.getElem?_cons_zero, List.getElem?_cons_succ] at n1 m0 m1; have h2D := HT.out.lt; clear hb7)
    | (go_at_call 24; refine (HCON.out _ HB7.out).mono ?_; rintro e w6 ⟨⟨v6, rfl, ho6⟩, hb6⟩; obtain ⟨A6, c6, rfl, hc6, hm6, hr6⟩ := own_reads2 ho6; have HR6 := hide hr6; have HB6 := hide (HB7.out.trans (hb6.mono (bsz HB7.out hDw))); have HD6 := hide (HD7.out.below hb6 HD7.out.lt); have HZ6 := hide (HZ7.out.below hb6 HZ7.out.lt); have HT6 := hide (HT7.out.below hb6 HT7.out.lt); have m60 := HD6.out.cell 0; have m61 := HD6.out.cell 1; simp only [List.getElem?_toArray, List.getElem?_cons_zero, List.getElem?_cons_succ] at m60 m61; clear hb6 ho6 hr6)
    | (go_at_call 23; refine (HBX.out _ A6 c6 HB6.out HR6.out).mono ?_; rintro e w5 ⟨⟨A5, c5, rfl, hc5, hm5, hr5⟩, hb5⟩; have HR5 := hide hr5; have HB5 := hide (HB6.out.trans (hb5.mono (bsz HB6.out hDw))); have HD5 := hide (HD6.out.below hb5 HD6.out.lt); have HZ5 := hide (HZ6.out.below hb5 HZ6.out.lt); have HT5 := hide (HT6.out.below hb5 HT6.out.lt); have h65 := HZ6.out.lt; have h65t := HT6.out.lt; have hRS := HR6.out.below hb5; have HRS := hide (hRS.more hb5.size); clear hb5 hr5 hRS)
    | (go_at_call 42; refine (HHAS.out _ _ A5 c5 HB5.out HD5.out HR5.out).mono ?_; rintro e w4 ⟨rfl, hb4⟩; have HR4 := hide (HR5.out.below hb4 (fun g hg => hg.elim False.elim fun h => h.2)); have HB4 := hide (HB5.out.trans (hb4.mono (bsz HB5.out hDw))); have HD4 := hide (HD5.out.below hb4 HD5.out.lt); have HZ4 := hide (HZ5.out.below hb4 HZ5.out.lt); have HT4 := hide (HT5.out.below hb4 HT5.out.lt); have h54 := hb4.size; have HRS4 := hide ((HRS.out.below hb4).more hb4.size); clear hb4)
    | fail)
  have HRS := HRS4
  have HB := HB4
  have HD := HD4
  have HZ := HZ4
  have hb0 := Below.drew (Below.refl w4.heap.size w4)
  have HB0 := hide (HB.out.trans (hb0.mono (bsz HB.out hDw)))
  have HB26 := hide hb0
  have HRD := hide (HRS.out.below hb0)
  have HD0 := hide HD.out.drew
  have HZ0 := hide HZ.out.drew
  refine wp_region_HL 7 #[false, false, false, false, false, false, false] (by kernel_rfl) (by kernel_rfl) (S := fun Z => Blk Z D 75 #[.slice (some ⟨g, off, none⟩) l.length cn, .slice As l.length cs]) (by kernel_rfl) HD0.out (fun hHeld => ?_)
  generalize w4.drew = wv0 at *
  clear hHeld hb0
  refine take_at (i := 0) (v := (Value.agg #[.slice (some ⟨g, off, none⟩) l.length cn, .slice As l.length cs])) (some 98) rfl rfl (by kernel_rfl) (by kernel_rfl) (by kernel_rfl) (fun _ _ _ h => h) (yieldsIf_load_blk (by rfl) 75 _ rfl D rfl 75 _ _ (fun _ h => h) mk_u2 rfl (by kernel_rfl)) HD0.out ?_
  simp only [Act.put, List.setIfInBounds_toArray, List.set_cons_zero, List.set_cons_succ]
  refine take_at (i := 1) (v := (.int .i64 n)) (some 99) rfl rfl (by kernel_rfl) (by kernel_rfl) (by kernel_rfl) (fun _ _ _ h => h) (yieldsIf_move (by rfl) _ rfl _ rfl) HD0.out ?_
  simp only [Act.put, List.setIfInBounds_toArray, List.set_cons_zero, List.set_cons_succ]
  refine take_at (i := 2) (v := (Value.agg #[.slice (some ⟨g, off, none⟩) l.length cn, .slice As l.length cs])) (some 100) rfl rfl (by kernel_rfl) (by kernel_rfl) (by kernel_rfl) (fun _ _ _ h => h) (yieldsIf_load_blk (by rfl) 75 _ rfl D rfl 75 _ _ (fun _ h => h) mk_u2 rfl (by kernel_rfl)) HD0.out ?_
  simp only [Act.put, List.setIfInBounds_toArray, List.set_cons_zero, List.set_cons_succ]
  refine take_at (i := 3) (v := (.slice A6 L.length c6)) (some 101) rfl rfl (by kernel_rfl) (by kernel_rfl) (by kernel_rfl) (fun _ _ _ h => h) (yieldsIf_move (by rfl) _ rfl _ rfl) HD0.out ?_
  simp only [Act.put, List.setIfInBounds_toArray, List.set_cons_zero, List.set_cons_succ]
  refine callH (j := 4) (by kernel_rfl) rfl rfl (some 102) rfl 23 #[.agg #[.slice (some ⟨g, off, none⟩) l.length cn, .slice As l.length cs], .slice A6 L.length c6] (run_enter Tryd.func23 (by kernel_rfl) (by kernel_rfl) _ _ rfl #[.agg #[.slice (some ⟨g, off, none⟩) l.length cn, .slice As l.length cs], .slice A6 L.length c6] (by kernel_rfl) _) (HBX.out _ A6 c6 HB0.out (HRD.out.more HB26.out.size)) ?_
  rintro e wv1 ⟨⟨A1, c1, rfl, hc1, hm1, hr1⟩, hx⟩
  have HB1 := hide (HB0.out.trans (hx.mono (bsz HB0.out hDw)))
  have HD1 := hide (HD0.out.below hx HD0.out.lt)
  have HZ1 := hide (HZ0.out.below hx HZ0.out.lt)
  have HR1 := hide hr1
  have h01 := hx.size
  have hz0 := HZ0.out.lt
  clear hr1
  clear hx
  refine ⟨_, rfl, HD1.out, ?_⟩
  simp only [Act.put, List.setIfInBounds_toArray, List.set_cons_zero, List.set_cons_succ]
  refine callH (j := 5) (by kernel_rfl) rfl rfl (some 103) rfl 22 #[.agg #[.slice (some ⟨g, off, none⟩) l.length cn, .slice As l.length cs], .int .i64 (n : Int), .slice A1 ts.length c1] (run_enter Tryd.func22 (by kernel_rfl) (by kernel_rfl) _ _ rfl #[.agg #[.slice (some ⟨g, off, none⟩) l.length cn, .slice As l.length cs], .int .i64 (n : Int), .slice A1 ts.length c1] (by kernel_rfl) _) (HCO.out wv0.heap.size wv1 A1 c1 HB1.out HR1.out hc1 hm1) ?_
  rintro e wv2 ⟨⟨A2, c2, rfl, hv2⟩, hx⟩
  have HB2 := hide (HB1.out.trans (hx.mono (bsz HB1.out hDw)))
  have HD2 := hide (HD1.out.below hx HD1.out.lt)
  have HZ2 := hide (HZ1.out.below hx HZ1.out.lt)
  have HV2 := hide hv2
  have h12 := hx.size
  clear hv2
  clear hx
  refine ⟨_, rfl, HD2.out, ?_⟩
  simp only [Act.put, List.setIfInBounds_toArray, List.set_cons_zero, List.set_cons_succ]
  refine storeBH (j := 6) (by kernel_rfl) rfl rfl rfl 79 (.tmp 4) (.tmp 103) rfl (D + 1) 79 _ #[.int .i64 ct.kind, .int .i64 ct.node, .int .i64 0, .slice none 0 0, .string ct.text, .slice A2 ct.kids.length c2] rfl rfl HZ2.out rfl (tr_i _ _ _ _ _ _) (tr_ones _ _ _ _ _ _) (fun wv3 hB hG => ⟨HD2.out.grown hG (fun e => by injection e with e; omega), ?_⟩)
  simp only [List.setIfInBounds_toArray, List.set_cons_zero, List.set_cons_succ]
  have HB3 := hide (below_grown HB2.out hDw hG (by omega))
  have HZ3 := hide hB
  have HG3 := hide hG
  have HD3 := hide (HD2.out.grown hG (fun e => by injection e with e; omega))
  clear hB hG
  refine wpAnyH_done (by kernel_rfl) ?_ _
  go_wp2_with fail
  refine bodyPost_ret (results_cell_row rfl _ _ (D + 1) 79 _ (0, 0) _ rfl HZ3.out tr_u rfl (tr_i _ _ _ _ _ _)) rfl ?_
  rw [← HDE.out, ← HCTE.out]
  have h3 := HG3.out.size
  refine ⟨⟨A2, c2, rfl, HV2.out.keep (fun p hp => World.cell?_of_block (HG3.out.block p.block (by
    rcases hp with (hp | hp) | hp
    · exact hp.elim
    · omega
    · omega) (fun e => by
    injection e with e
    rcases hp with (hp | hp) | hp
    · exact hp.elim
    · omega
    · omega))) fun g hp => by
    rcases hp with (hp | hp) | hp
    · exact hp.elim
    · exact .inr (by omega)
    · exact .inr (by omega)⟩, HB3.out⟩
set_option maxRecDepth 100000 in
set_option maxHeartbeats 40000000 in
theorem box_rest (l : List Nd) (R : Nat → Nat → Int) (An As : Option Addr) (cn cs : Nat) (lev : Nat → Nat) (g0 : Nat → Tr) (n : Nat) (w : World) (hP : CeP l R lev g0) (hS : CeS w l R An As cn cs lev (lev n) g0) (hn : n < l.length) (hk3 : (ndAt l n).kind ≠ 3) (h1 : isF (pgOf l R) n ≠ 1) (h3 : isF (pgOf l R) n ≠ 3) (h4 : isF (pgOf l R) n ≠ 4) (h5 : isF (pgOf l R) n ≠ 5) :
    Calls Tryd.prog 44 #[.agg #[.slice An l.length cn, .slice As l.length cs], .int .i64 (n : Int)] w fun e w' => TreePost KNo w.heap.size (contrF idleT (pgOf l R) n ((contF (pgOf l R) 41 n).map g0)) w' e ∧ Below w.heap.size w w' := by
  have hnl : ¬ l.length ≤ n := by omega
  obtain ⟨g, off, Aa, ca, Ak, ck, rfl, hg, hnd, hns⟩ := hS.mkr.nds n hn
  have htx := hns.text
  clear hns
  have hb1 := (Below.refl w.heap.size w).alloc (Nat.le_refl _) (.cells #[.slice (some ⟨g, off, none⟩) l.length cn, .slice As l.length cs] 75)
  have hb2 := hb1.alloc hb1.size (.cells #[.int .i64 0, .int .i64 0, .int .i64 0, .slice none 0 0, .string ⟨#[]⟩, .slice none 0 0] 79)
  have hb3 := hb2.alloc hb2.size (.cells #[.int .i64 4, .int .i64 n, .int .i64 0, .slice none 0 0, .string ⟨#[]⟩, .slice none 0 0] 79)
  obtain ⟨kd, hkd⟩ : ∃ kd, kd = (ndAt l n).kind := ⟨_, rfl⟩
  obtain ⟨nm, hnm⟩ : ∃ nm, nm = (ndAt l n).name := ⟨_, rfl⟩
  obtain ⟨tx, htxe⟩ : ∃ tx, tx = (ndAt l n).text := ⟨_, rfl⟩
  obtain ⟨d0, d1, d2, d3, d4, d5, _, _⟩ := hnd.below hb3 hg
  rw [← hkd] at d0
  rw [← hnm] at d1
  rw [← htxe] at d3 htx
  rw [← hkd] at hk3
  have HKD := hide hkd
  have HNM := hide hnm
  have HTX := hide htxe
  clear hkd hnm htxe
  generalize (ndAt l n).attrs.length = na at *
  generalize (ndAt l n).par = pr at *
  generalize (ndAt l n).kids.length = nk at *
  clear hnd
  have HB := hide (hb3.alloc hb3.size (.cells #[.int .i64 kd, .string nm, .slice Aa na ca, .string tx, .int .i64 pr, .slice Ak nk ck] 58))
  have HD := hide ((((Blk.new w 75 #[.slice (some ⟨g, off, none⟩) l.length cn, .slice As l.length cs]).alloc (.cells #[.int .i64 0, .int .i64 0, .int .i64 0, .slice none 0 0, .string ⟨#[]⟩, .slice none 0 0] 79)).alloc (.cells #[.int .i64 4, .int .i64 n, .int .i64 0, .slice none 0 0, .string ⟨#[]⟩, .slice none 0 0] 79)).alloc (.cells #[.int .i64 kd, .string nm, .slice Aa na ca, .string tx, .int .i64 pr, .slice Ak nk ck] 58))
  have HZ := hide (((blk_two w (.cells #[.slice (some ⟨g, off, none⟩) l.length cn, .slice As l.length cs] 75) #[.int .i64 0, .int .i64 0, .int .i64 0, .slice none 0 0, .string ⟨#[]⟩, .slice none 0 0] 79).alloc (.cells #[.int .i64 4, .int .i64 n, .int .i64 0, .slice none 0 0, .string ⟨#[]⟩, .slice none 0 0] 79)).alloc (.cells #[.int .i64 kd, .string nm, .slice Aa na ca, .string tx, .int .i64 pr, .slice Ak nk ck] 58))
  have HT := hide ((blk_three w (.cells #[.slice (some ⟨g, off, none⟩) l.length cn, .slice As l.length cs] 75) (.cells #[.int .i64 0, .int .i64 0, .int .i64 0, .slice none 0 0, .string ⟨#[]⟩, .slice none 0 0] 79) #[.int .i64 4, .int .i64 n, .int .i64 0, .slice none 0 0, .string ⟨#[]⟩, .slice none 0 0] 79).alloc (.cells #[.int .i64 kd, .string nm, .slice Aa na ca, .string tx, .int .i64 pr, .slice Ak nk ck] 58))
  have HN := hide (blk_four w (.cells #[.slice (some ⟨g, off, none⟩) l.length cn, .slice As l.length cs] 75) (.cells #[.int .i64 0, .int .i64 0, .int .i64 0, .slice none 0 0, .string ⟨#[]⟩, .slice none 0 0] 79) (.cells #[.int .i64 4, .int .i64 n, .int .i64 0, .slice none 0 0, .string ⟨#[]⟩, .slice none 0 0] 79) #[.int .i64 kd, .string nm, .slice Aa na ca, .string tx, .int .i64 pr, .slice Ak nk ck] 58)
  clear hb1 hb2 hb3
  have t3 : (kd == 3) = false := by simpa using hk3
  clear hk3
  obtain ⟨L, hL⟩ : ∃ L, L = contF (pgOf l R) 41 n := ⟨_, rfl⟩
  have HDP := hide (show DeepN l.length lev (lev n) L by rw [hL]; exact hP.deep hn (Nat.le_refl _) 41)
  have hl3 : L.length ≤ 1000000 := by rw [hL]; exact Nat.le_trans (hP.len 41 n hn) (by decide)
  have HNO := hide (show ∀ t ∈ L.map g0, NodOk l.length t from fun t ht => by
    obtain ⟨k, hk, rfl⟩ := List.mem_map.1 ht
    exact hP.nod k (HDP.out k hk).1)
  have HIS := hide (fun (Z : World) (h : Below w.heap.size w Z) => is_any l R (some ⟨g, off, none⟩) As cn cs n Z (hS.later h).mkr hn)
  have HCON := hide (fun (Z : World) (h : Below w.heap.size w Z) => contAt l R (some ⟨g, off, none⟩) As cn cs lev (lev n) g0 (hS.later h) hP hn)
  rw [← hL] at HCON
  have HBX := hide (fun (Z : World) (A : Option Addr) (c : Nat) (h : Below w.heap.size w Z) (hr : Reads Z Z.heap.size 1 A L.length (natCells L)) => boxes_any l (some ⟨g, off, none⟩) As cn cs g0 L A c Z hr hl3 (fun k hk => (hS.later h).box k (HDP.out k hk).1 (HDP.out k hk).2))
  have hl4 : (L.map g0).length ≤ 1000000 := by rw [List.length_map]; exact hl3
  obtain ⟨ts, hts⟩ : ∃ ts, ts = L.map g0 := ⟨_, rfl⟩
  rw [← hts] at HBX HNO hl4
  have HCO := hide (fun (a : Nat) (Z : World) (A1 : Option Addr) (c1 : Nat) (h : Below w.heap.size w Z) (hr : TrRow Z (KNew KNo a Z.heap.size) A1 ts) (h1 : ts.length ≤ c1) (h2 : c1 ≤ maxLen) => container_any l R (some ⟨g, off, none⟩) As cn cs ((n : Int)) ts A1 c1 (KNew KNo a Z.heap.size) Z (hS.later h).mkr hr (fun g hg => hg.elim False.elim fun h => h.2) h1 h2 hl4 HNO.out)
  obtain ⟨ct, hct⟩ : ∃ ct, ct = contrF idleT (pgOf l R) ((n : Int)) ts := ⟨_, rfl⟩
  rw [← hct] at HCO
  have HCT := hide hct
  clear hct
  have HCTE := HCT
  rw [← hL, ← hts]
  generalize isF (pgOf l R) n = z at *
  have HLE := hide hl4
  clear hL hts hS hP HNO
  have z1 : (z == 1) = false := by simpa using h1
  have z3 : (z == 3) = false := by simpa using h3
  have z4 : (z == 4) = false := by simpa using h4
  have z5 : (z == 5) = false := by simpa using h5
  clear h1 h3 h4 h5
  rcases Classical.em (nm.toList = [98, 114]) with tb | tb
  · go_enter Tryd.func44, Tryd.ntmps44
    go_wp2_with fail
    generalize (((w.alloc (.cells #[.slice (some ⟨g, off, none⟩) l.length cn, .slice As l.length cs] 75)).alloc (.cells #[.int .i64 0, .int .i64 0, .int .i64 0, .slice none 0 0, .string ⟨#[]⟩, .slice none 0 0] 79)).alloc (.cells #[.int .i64 4, .int .i64 n, .int .i64 0, .slice none 0 0, .string ⟨#[]⟩, .slice none 0 0] 79)).alloc (.cells #[.int .i64 kd, .string nm, .slice Aa na ca, .string tx, .int .i64 pr, .slice Ak nk ck] 58) = w2 at *
    obtain ⟨D, hDD⟩ : ∃ D, D = w.heap.size := ⟨_, rfl⟩
    have hDw : D ≤ w.heap.size := by omega
    have HDE := hide hDD
    rw [← hDD] at HB HD HZ HT HN hg HIS HCON HBX HCO ⊢
    clear d0 d1 d2 d3 d4 d5 hDD
    go_wp2_with (first
      | (go_at_call 45; refine (HIS.out _ HB.out).mono ?_; rintro e w7 ⟨rfl, hb7⟩; have HB7 := hide (HB.out.trans (hb7.mono (bsz HB.out hDw))); have HD7 := hide (HD.out.below hb7 HD.out.lt); have HZ7 := hide (HZ.out.below hb7 HZ.out.lt); have HT7 := hide (HT.out.below hb7 HT.out.lt); have n1 := (HN.out.below hb7 HN.out.lt).cell 1; have m0 := HD7.out.cell 0; have m1 := HD7.out.cell 1; simp only [List.getElem?_toArray, List.getElem?_cons_zero, List.getElem?_cons_succ] at n1 m0 m1; have h2D := HT.out.lt; clear hb7)
      | (go_at_call 24; refine (HCON.out _ HB7.out).mono ?_; rintro e w6 ⟨⟨v6, rfl, ho6⟩, hb6⟩; obtain ⟨A6, c6, rfl, hc6, hm6, hr6⟩ := own_reads2 ho6; have HR6 := hide hr6; have HB6 := hide (HB7.out.trans (hb6.mono (bsz HB7.out hDw))); have HD6 := hide (HD7.out.below hb6 HD7.out.lt); have HZ6 := hide (HZ7.out.below hb6 HZ7.out.lt); have HT6 := hide (HT7.out.below hb6 HT7.out.lt); have m60 := HD6.out.cell 0; have m61 := HD6.out.cell 1; simp only [List.getElem?_toArray, List.getElem?_cons_zero, List.getElem?_cons_succ] at m60 m61; clear hb6 ho6 hr6)
      | fail)
    have HRS := HR6
    have HB := HB6
    have HD := HD6
    have HZ := HZ6
    have hb0 := Below.drew (Below.refl w6.heap.size w6)
    have HB0 := hide (HB.out.trans (hb0.mono (bsz HB.out hDw)))
    have HB26 := hide hb0
    have HRD := hide (HRS.out.below hb0)
    have HD0 := hide HD.out.drew
    have HZ0 := hide HZ.out.drew
    refine wp_region_HL 7 #[false, false, false, false, false, false, false] (by kernel_rfl) (by kernel_rfl) (S := fun Z => Blk Z D 75 #[.slice (some ⟨g, off, none⟩) l.length cn, .slice As l.length cs]) (by kernel_rfl) HD0.out (fun hHeld => ?_)
    generalize w6.drew = wv0 at *
    clear hHeld hb0
    refine take_at (i := 0) (v := (Value.agg #[.slice (some ⟨g, off, none⟩) l.length cn, .slice As l.length cs])) (some 98) rfl rfl (by kernel_rfl) (by kernel_rfl) (by kernel_rfl) (fun _ _ _ h => h) (yieldsIf_load_blk (by rfl) 75 _ rfl D rfl 75 _ _ (fun _ h => h) mk_u2 rfl (by kernel_rfl)) HD0.out ?_
    simp only [Act.put, List.setIfInBounds_toArray, List.set_cons_zero, List.set_cons_succ]
    refine take_at (i := 1) (v := (.int .i64 n)) (some 99) rfl rfl (by kernel_rfl) (by kernel_rfl) (by kernel_rfl) (fun _ _ _ h => h) (yieldsIf_move (by rfl) _ rfl _ rfl) HD0.out ?_
    simp only [Act.put, List.setIfInBounds_toArray, List.set_cons_zero, List.set_cons_succ]
    refine take_at (i := 2) (v := (Value.agg #[.slice (some ⟨g, off, none⟩) l.length cn, .slice As l.length cs])) (some 100) rfl rfl (by kernel_rfl) (by kernel_rfl) (by kernel_rfl) (fun _ _ _ h => h) (yieldsIf_load_blk (by rfl) 75 _ rfl D rfl 75 _ _ (fun _ h => h) mk_u2 rfl (by kernel_rfl)) HD0.out ?_
    simp only [Act.put, List.setIfInBounds_toArray, List.set_cons_zero, List.set_cons_succ]
    refine take_at (i := 3) (v := (.slice A6 L.length c6)) (some 101) rfl rfl (by kernel_rfl) (by kernel_rfl) (by kernel_rfl) (fun _ _ _ h => h) (yieldsIf_move (by rfl) _ rfl _ rfl) HD0.out ?_
    simp only [Act.put, List.setIfInBounds_toArray, List.set_cons_zero, List.set_cons_succ]
    refine callH (j := 4) (by kernel_rfl) rfl rfl (some 102) rfl 23 #[.agg #[.slice (some ⟨g, off, none⟩) l.length cn, .slice As l.length cs], .slice A6 L.length c6] (run_enter Tryd.func23 (by kernel_rfl) (by kernel_rfl) _ _ rfl #[.agg #[.slice (some ⟨g, off, none⟩) l.length cn, .slice As l.length cs], .slice A6 L.length c6] (by kernel_rfl) _) (HBX.out _ A6 c6 HB0.out (HRD.out.more HB26.out.size)) ?_
    rintro e wv1 ⟨⟨A1, c1, rfl, hc1, hm1, hr1⟩, hx⟩
    have HB1 := hide (HB0.out.trans (hx.mono (bsz HB0.out hDw)))
    have HD1 := hide (HD0.out.below hx HD0.out.lt)
    have HZ1 := hide (HZ0.out.below hx HZ0.out.lt)
    have HR1 := hide hr1
    have h01 := hx.size
    have hz0 := HZ0.out.lt
    clear hr1
    clear hx
    refine ⟨_, rfl, HD1.out, ?_⟩
    simp only [Act.put, List.setIfInBounds_toArray, List.set_cons_zero, List.set_cons_succ]
    refine callH (j := 5) (by kernel_rfl) rfl rfl (some 103) rfl 22 #[.agg #[.slice (some ⟨g, off, none⟩) l.length cn, .slice As l.length cs], .int .i64 (n : Int), .slice A1 ts.length c1] (run_enter Tryd.func22 (by kernel_rfl) (by kernel_rfl) _ _ rfl #[.agg #[.slice (some ⟨g, off, none⟩) l.length cn, .slice As l.length cs], .int .i64 (n : Int), .slice A1 ts.length c1] (by kernel_rfl) _) (HCO.out wv0.heap.size wv1 A1 c1 HB1.out HR1.out hc1 hm1) ?_
    rintro e wv2 ⟨⟨A2, c2, rfl, hv2⟩, hx⟩
    have HB2 := hide (HB1.out.trans (hx.mono (bsz HB1.out hDw)))
    have HD2 := hide (HD1.out.below hx HD1.out.lt)
    have HZ2 := hide (HZ1.out.below hx HZ1.out.lt)
    have HV2 := hide hv2
    have h12 := hx.size
    clear hv2
    clear hx
    refine ⟨_, rfl, HD2.out, ?_⟩
    simp only [Act.put, List.setIfInBounds_toArray, List.set_cons_zero, List.set_cons_succ]
    refine storeBH (j := 6) (by kernel_rfl) rfl rfl rfl 79 (.tmp 4) (.tmp 103) rfl (D + 1) 79 _ #[.int .i64 ct.kind, .int .i64 ct.node, .int .i64 0, .slice none 0 0, .string ct.text, .slice A2 ct.kids.length c2] rfl rfl HZ2.out rfl (tr_i _ _ _ _ _ _) (tr_ones _ _ _ _ _ _) (fun wv3 hB hG => ⟨HD2.out.grown hG (fun e => by injection e with e; omega), ?_⟩)
    simp only [List.setIfInBounds_toArray, List.set_cons_zero, List.set_cons_succ]
    have HB3 := hide (below_grown HB2.out hDw hG (by omega))
    have HZ3 := hide hB
    have HG3 := hide hG
    have HD3 := hide (HD2.out.grown hG (fun e => by injection e with e; omega))
    clear hB hG
    refine wpAnyH_done (by kernel_rfl) ?_ _
    go_wp2_with fail
    refine bodyPost_ret (results_cell_row rfl _ _ (D + 1) 79 _ (0, 0) _ rfl HZ3.out tr_u rfl (tr_i _ _ _ _ _ _)) rfl ?_
    rw [← HDE.out, ← HCTE.out]
    have h3 := HG3.out.size
    refine ⟨⟨A2, c2, rfl, HV2.out.keep (fun p hp => World.cell?_of_block (HG3.out.block p.block (by
      rcases hp with (hp | hp) | hp
      · exact hp.elim
      · omega
      · omega) (fun e => by
      injection e with e
      rcases hp with (hp | hp) | hp
      · exact hp.elim
      · omega
      · omega))) fun g hp => by
      rcases hp with (hp | hp) | hp
      · exact hp.elim
      · exact .inr (by omega)
      · exact .inr (by omega)⟩, HB3.out⟩
  · go_enter Tryd.func44, Tryd.ntmps44
    go_wp2_with fail
    generalize (((w.alloc (.cells #[.slice (some ⟨g, off, none⟩) l.length cn, .slice As l.length cs] 75)).alloc (.cells #[.int .i64 0, .int .i64 0, .int .i64 0, .slice none 0 0, .string ⟨#[]⟩, .slice none 0 0] 79)).alloc (.cells #[.int .i64 4, .int .i64 n, .int .i64 0, .slice none 0 0, .string ⟨#[]⟩, .slice none 0 0] 79)).alloc (.cells #[.int .i64 kd, .string nm, .slice Aa na ca, .string tx, .int .i64 pr, .slice Ak nk ck] 58) = w2 at *
    obtain ⟨D, hDD⟩ : ∃ D, D = w.heap.size := ⟨_, rfl⟩
    have hDw : D ≤ w.heap.size := by omega
    have HDE := hide hDD
    rw [← hDD] at HB HD HZ HT HN hg HIS HCON HBX HCO ⊢
    clear d0 d1 d2 d3 d4 d5 hDD
    go_wp2_with (first
      | (go_at_call 45; refine (HIS.out _ HB.out).mono ?_; rintro e w7 ⟨rfl, hb7⟩; have HB7 := hide (HB.out.trans (hb7.mono (bsz HB.out hDw))); have HD7 := hide (HD.out.below hb7 HD.out.lt); have HZ7 := hide (HZ.out.below hb7 HZ.out.lt); have HT7 := hide (HT.out.below hb7 HT.out.lt); have n1 := (HN.out.below hb7 HN.out.lt).cell 1; have m0 := HD7.out.cell 0; have m1 := HD7.out.cell 1; simp only [List.getElem?_toArray, List.getElem?_cons_zero, List.getElem?_cons_succ] at n1 m0 m1; have h2D := HT.out.lt; clear hb7)
      | (go_at_call 24; refine (HCON.out _ HB7.out).mono ?_; rintro e w6 ⟨⟨v6, rfl, ho6⟩, hb6⟩; obtain ⟨A6, c6, rfl, hc6, hm6, hr6⟩ := own_reads2 ho6; have HR6 := hide hr6; have HB6 := hide (HB7.out.trans (hb6.mono (bsz HB7.out hDw))); have HD6 := hide (HD7.out.below hb6 HD7.out.lt); have HZ6 := hide (HZ7.out.below hb6 HZ7.out.lt); have HT6 := hide (HT7.out.below hb6 HT7.out.lt); have m60 := HD6.out.cell 0; have m61 := HD6.out.cell 1; simp only [List.getElem?_toArray, List.getElem?_cons_zero, List.getElem?_cons_succ] at m60 m61; clear hb6 ho6 hr6)
      | fail)
    have HRS := HR6
    have HB := HB6
    have HD := HD6
    have HZ := HZ6
    have hb0 := Below.drew (Below.refl w6.heap.size w6)
    have HB0 := hide (HB.out.trans (hb0.mono (bsz HB.out hDw)))
    have HB26 := hide hb0
    have HRD := hide (HRS.out.below hb0)
    have HD0 := hide HD.out.drew
    have HZ0 := hide HZ.out.drew
    refine wp_region_HL 7 #[false, false, false, false, false, false, false] (by kernel_rfl) (by kernel_rfl) (S := fun Z => Blk Z D 75 #[.slice (some ⟨g, off, none⟩) l.length cn, .slice As l.length cs]) (by kernel_rfl) HD0.out (fun hHeld => ?_)
    generalize w6.drew = wv0 at *
    clear hHeld hb0
    refine take_at (i := 0) (v := (Value.agg #[.slice (some ⟨g, off, none⟩) l.length cn, .slice As l.length cs])) (some 98) rfl rfl (by kernel_rfl) (by kernel_rfl) (by kernel_rfl) (fun _ _ _ h => h) (yieldsIf_load_blk (by rfl) 75 _ rfl D rfl 75 _ _ (fun _ h => h) mk_u2 rfl (by kernel_rfl)) HD0.out ?_
    simp only [Act.put, List.setIfInBounds_toArray, List.set_cons_zero, List.set_cons_succ]
    refine take_at (i := 1) (v := (.int .i64 n)) (some 99) rfl rfl (by kernel_rfl) (by kernel_rfl) (by kernel_rfl) (fun _ _ _ h => h) (yieldsIf_move (by rfl) _ rfl _ rfl) HD0.out ?_
    simp only [Act.put, List.setIfInBounds_toArray, List.set_cons_zero, List.set_cons_succ]
    refine take_at (i := 2) (v := (Value.agg #[.slice (some ⟨g, off, none⟩) l.length cn, .slice As l.length cs])) (some 100) rfl rfl (by kernel_rfl) (by kernel_rfl) (by kernel_rfl) (fun _ _ _ h => h) (yieldsIf_load_blk (by rfl) 75 _ rfl D rfl 75 _ _ (fun _ h => h) mk_u2 rfl (by kernel_rfl)) HD0.out ?_
    simp only [Act.put, List.setIfInBounds_toArray, List.set_cons_zero, List.set_cons_succ]
    refine take_at (i := 3) (v := (.slice A6 L.length c6)) (some 101) rfl rfl (by kernel_rfl) (by kernel_rfl) (by kernel_rfl) (fun _ _ _ h => h) (yieldsIf_move (by rfl) _ rfl _ rfl) HD0.out ?_
    simp only [Act.put, List.setIfInBounds_toArray, List.set_cons_zero, List.set_cons_succ]
    refine callH (j := 4) (by kernel_rfl) rfl rfl (some 102) rfl 23 #[.agg #[.slice (some ⟨g, off, none⟩) l.length cn, .slice As l.length cs], .slice A6 L.length c6] (run_enter Tryd.func23 (by kernel_rfl) (by kernel_rfl) _ _ rfl #[.agg #[.slice (some ⟨g, off, none⟩) l.length cn, .slice As l.length cs], .slice A6 L.length c6] (by kernel_rfl) _) (HBX.out _ A6 c6 HB0.out (HRD.out.more HB26.out.size)) ?_
    rintro e wv1 ⟨⟨A1, c1, rfl, hc1, hm1, hr1⟩, hx⟩
    have HB1 := hide (HB0.out.trans (hx.mono (bsz HB0.out hDw)))
    have HD1 := hide (HD0.out.below hx HD0.out.lt)
    have HZ1 := hide (HZ0.out.below hx HZ0.out.lt)
    have HR1 := hide hr1
    have h01 := hx.size
    have hz0 := HZ0.out.lt
    clear hr1
    clear hx
    refine ⟨_, rfl, HD1.out, ?_⟩
    simp only [Act.put, List.setIfInBounds_toArray, List.set_cons_zero, List.set_cons_succ]
    refine callH (j := 5) (by kernel_rfl) rfl rfl (some 103) rfl 22 #[.agg #[.slice (some ⟨g, off, none⟩) l.length cn, .slice As l.length cs], .int .i64 (n : Int), .slice A1 ts.length c1] (run_enter Tryd.func22 (by kernel_rfl) (by kernel_rfl) _ _ rfl #[.agg #[.slice (some ⟨g, off, none⟩) l.length cn, .slice As l.length cs], .int .i64 (n : Int), .slice A1 ts.length c1] (by kernel_rfl) _) (HCO.out wv0.heap.size wv1 A1 c1 HB1.out HR1.out hc1 hm1) ?_
    rintro e wv2 ⟨⟨A2, c2, rfl, hv2⟩, hx⟩
    have HB2 := hide (HB1.out.trans (hx.mono (bsz HB1.out hDw)))
    have HD2 := hide (HD1.out.below hx HD1.out.lt)
    have HZ2 := hide (HZ1.out.below hx HZ1.out.lt)
    have HV2 := hide hv2
    have h12 := hx.size
    clear hv2
    clear hx
    refine ⟨_, rfl, HD2.out, ?_⟩
    simp only [Act.put, List.setIfInBounds_toArray, List.set_cons_zero, List.set_cons_succ]
    refine storeBH (j := 6) (by kernel_rfl) rfl rfl rfl 79 (.tmp 4) (.tmp 103) rfl (D + 1) 79 _ #[.int .i64 ct.kind, .int .i64 ct.node, .int .i64 0, .slice none 0 0, .string ct.text, .slice A2 ct.kids.length c2] rfl rfl HZ2.out rfl (tr_i _ _ _ _ _ _) (tr_ones _ _ _ _ _ _) (fun wv3 hB hG => ⟨HD2.out.grown hG (fun e => by injection e with e; omega), ?_⟩)
    simp only [List.setIfInBounds_toArray, List.set_cons_zero, List.set_cons_succ]
    have HB3 := hide (below_grown HB2.out hDw hG (by omega))
    have HZ3 := hide hB
    have HG3 := hide hG
    have HD3 := hide (HD2.out.grown hG (fun e => by injection e with e; omega))
    clear hB hG
    refine wpAnyH_done (by kernel_rfl) ?_ _
    go_wp2_with fail
    refine bodyPost_ret (results_cell_row rfl _ _ (D + 1) 79 _ (0, 0) _ rfl HZ3.out tr_u rfl (tr_i _ _ _ _ _ _)) rfl ?_
    rw [← HDE.out, ← HCTE.out]
    have h3 := HG3.out.size
    refine ⟨⟨A2, c2, rfl, HV2.out.keep (fun p hp => World.cell?_of_block (HG3.out.block p.block (by
      rcases hp with (hp | hp) | hp
      · exact hp.elim
      · omega
      · omega) (fun e => by
      injection e with e
      rcases hp with (hp | hp) | hp
      · exact hp.elim
      · omega
      · omega))) fun g hp => by
      rcases hp with (hp | hp) | hp
      · exact hp.elim
      · exact .inr (by omega)
      · exact .inr (by omega)⟩, HB3.out⟩
set_option maxRecDepth 100000 in
set_option maxHeartbeats 40000000 in
theorem box_flex (l : List Nd) (R : Nat → Nat → Int) (An As : Option Addr) (cn cs : Nat) (lev : Nat → Nat) (g0 : Nat → Tr) (n : Nat) (w : World) (hP : CeP l R lev g0) (hS : CeS w l R An As cn cs lev (lev n) g0) (hn : n < l.length) (hk3 : (ndAt l n).kind ≠ 3) (his : isF (pgOf l R) n = 4) :
    Calls Tryd.prog 44 #[.agg #[.slice An l.length cn, .slice As l.length cs], .int .i64 (n : Int)] w fun e w' => TreePost KNo w.heap.size (.mk 6 n ByteArray.empty (rowF idleT (pgOf l R) (flexAlone (pgOf l R)) ((contF (pgOf l R) 41 n).map g0))) w' e ∧ Below w.heap.size w w' := by
  have hnl : ¬ l.length ≤ n := by omega
  obtain ⟨g, off, Aa, ca, Ak, ck, rfl, hg, hnd, hns⟩ := hS.mkr.nds n hn
  have htx := hns.text
  clear hns
  have hb1 := (Below.refl w.heap.size w).alloc (Nat.le_refl _) (.cells #[.slice (some ⟨g, off, none⟩) l.length cn, .slice As l.length cs] 75)
  have hb2 := hb1.alloc hb1.size (.cells #[.int .i64 0, .int .i64 0, .int .i64 0, .slice none 0 0, .string ⟨#[]⟩, .slice none 0 0] 79)
  have hb3 := hb2.alloc hb2.size (.cells #[.int .i64 4, .int .i64 n, .int .i64 0, .slice none 0 0, .string ⟨#[]⟩, .slice none 0 0] 79)
  obtain ⟨kd, hkd⟩ : ∃ kd, kd = (ndAt l n).kind := ⟨_, rfl⟩
  obtain ⟨nm, hnm⟩ : ∃ nm, nm = (ndAt l n).name := ⟨_, rfl⟩
  obtain ⟨tx, htxe⟩ : ∃ tx, tx = (ndAt l n).text := ⟨_, rfl⟩
  obtain ⟨d0, d1, d2, d3, d4, d5, _, _⟩ := hnd.below hb3 hg
  rw [← hkd] at d0
  rw [← hnm] at d1
  rw [← htxe] at d3 htx
  rw [← hkd] at hk3
  have HKD := hide hkd
  have HNM := hide hnm
  have HTX := hide htxe
  clear hkd hnm htxe
  generalize (ndAt l n).attrs.length = na at *
  generalize (ndAt l n).par = pr at *
  generalize (ndAt l n).kids.length = nk at *
  clear hnd
  have HB := hide (hb3.alloc hb3.size (.cells #[.int .i64 kd, .string nm, .slice Aa na ca, .string tx, .int .i64 pr, .slice Ak nk ck] 58))
  have HD := hide ((((Blk.new w 75 #[.slice (some ⟨g, off, none⟩) l.length cn, .slice As l.length cs]).alloc (.cells #[.int .i64 0, .int .i64 0, .int .i64 0, .slice none 0 0, .string ⟨#[]⟩, .slice none 0 0] 79)).alloc (.cells #[.int .i64 4, .int .i64 n, .int .i64 0, .slice none 0 0, .string ⟨#[]⟩, .slice none 0 0] 79)).alloc (.cells #[.int .i64 kd, .string nm, .slice Aa na ca, .string tx, .int .i64 pr, .slice Ak nk ck] 58))
  have HZ := hide (((blk_two w (.cells #[.slice (some ⟨g, off, none⟩) l.length cn, .slice As l.length cs] 75) #[.int .i64 0, .int .i64 0, .int .i64 0, .slice none 0 0, .string ⟨#[]⟩, .slice none 0 0] 79).alloc (.cells #[.int .i64 4, .int .i64 n, .int .i64 0, .slice none 0 0, .string ⟨#[]⟩, .slice none 0 0] 79)).alloc (.cells #[.int .i64 kd, .string nm, .slice Aa na ca, .string tx, .int .i64 pr, .slice Ak nk ck] 58))
  have HT := hide ((blk_three w (.cells #[.slice (some ⟨g, off, none⟩) l.length cn, .slice As l.length cs] 75) (.cells #[.int .i64 0, .int .i64 0, .int .i64 0, .slice none 0 0, .string ⟨#[]⟩, .slice none 0 0] 79) #[.int .i64 4, .int .i64 n, .int .i64 0, .slice none 0 0, .string ⟨#[]⟩, .slice none 0 0] 79).alloc (.cells #[.int .i64 kd, .string nm, .slice Aa na ca, .string tx, .int .i64 pr, .slice Ak nk ck] 58))
  have HN := hide (blk_four w (.cells #[.slice (some ⟨g, off, none⟩) l.length cn, .slice As l.length cs] 75) (.cells #[.int .i64 0, .int .i64 0, .int .i64 0, .slice none 0 0, .string ⟨#[]⟩, .slice none 0 0] 79) (.cells #[.int .i64 4, .int .i64 n, .int .i64 0, .slice none 0 0, .string ⟨#[]⟩, .slice none 0 0] 79) #[.int .i64 kd, .string nm, .slice Aa na ca, .string tx, .int .i64 pr, .slice Ak nk ck] 58)
  clear hb1 hb2 hb3
  have t3 : (kd == 3) = false := by simpa using hk3
  clear hk3
  obtain ⟨L, hL⟩ : ∃ L, L = contF (pgOf l R) 41 n := ⟨_, rfl⟩
  have HDP := hide (show DeepN l.length lev (lev n) L by rw [hL]; exact hP.deep hn (Nat.le_refl _) 41)
  have hl3 : L.length ≤ 1000000 := by rw [hL]; exact Nat.le_trans (hP.len 41 n hn) (by decide)
  have HNO := hide (show ∀ t ∈ L.map g0, NodOk l.length t from fun t ht => by
    obtain ⟨k, hk, rfl⟩ := List.mem_map.1 ht
    exact hP.nod k (HDP.out k hk).1)
  have HIS := hide (fun (Z : World) (h : Below w.heap.size w Z) => is_any l R (some ⟨g, off, none⟩) As cn cs n Z (hS.later h).mkr hn)
  have HCON := hide (fun (Z : World) (h : Below w.heap.size w Z) => contAt l R (some ⟨g, off, none⟩) As cn cs lev (lev n) g0 (hS.later h) hP hn)
  rw [← hL] at HCON
  have HBX := hide (fun (Z : World) (A : Option Addr) (c : Nat) (h : Below w.heap.size w Z) (hr : Reads Z Z.heap.size 1 A L.length (natCells L)) => boxes_any l (some ⟨g, off, none⟩) As cn cs g0 L A c Z hr hl3 (fun k hk => (hS.later h).box k (HDP.out k hk).1 (HDP.out k hk).2))
  have hl4 : (L.map g0).length ≤ 1000000 := by rw [List.length_map]; exact hl3
  obtain ⟨ts, hts⟩ : ∃ ts, ts = L.map g0 := ⟨_, rfl⟩
  rw [← hts] at HBX HNO hl4
  have HROW := hide (fun (a : Nat) (Z : World) (A1 : Option Addr) (c1 : Nat) (h : Below w.heap.size w Z) (hd : Blk Z w.heap.size 75 #[.slice (some ⟨g, off, none⟩) l.length cn, .slice As l.length cs]) (hr : TrRow Z (KNew KNo a Z.heap.size) A1 ts) (h1 : ts.length ≤ c1) (h2 : c1 ≤ maxLen) => row_any l R (some ⟨g, off, none⟩) As cn cs ts A1 c1 (KNew KNo a Z.heap.size) 64 ⟨w.heap.size, 0, none⟩ (flexAlone (pgOf l R)) Z (hS.later h).mkr hr (fun g hg => hg.elim False.elim fun h => h.2) h1 h2 hl4 HNO.out enter64 (fun t ht => ask64C (hS.later h).mkr hd (HNO.out t ht)))
  have HRL := hide (show (rowF idleT (pgOf l R) (flexAlone (pgOf l R)) ts).length ≤ 1000000 from Nat.le_trans (split_len _ _) hl4)
  obtain ⟨rw2, hrw⟩ : ∃ rw2, rw2 = rowF idleT (pgOf l R) (flexAlone (pgOf l R)) ts := ⟨_, rfl⟩
  rw [← hrw] at HROW HRL
  have HRW := hide hrw
  clear hrw
  rw [his] at HIS
  rw [← hL, ← hts]
  generalize isF (pgOf l R) n = z at *
  have HLE := hide hl4
  clear hL hts hS hP HNO
  clear his
  rcases Classical.em (nm.toList = [98, 114]) with tb | tb
  · go_enter Tryd.func44, Tryd.ntmps44
    go_wp2_with fail
    generalize (((w.alloc (.cells #[.slice (some ⟨g, off, none⟩) l.length cn, .slice As l.length cs] 75)).alloc (.cells #[.int .i64 0, .int .i64 0, .int .i64 0, .slice none 0 0, .string ⟨#[]⟩, .slice none 0 0] 79)).alloc (.cells #[.int .i64 4, .int .i64 n, .int .i64 0, .slice none 0 0, .string ⟨#[]⟩, .slice none 0 0] 79)).alloc (.cells #[.int .i64 kd, .string nm, .slice Aa na ca, .string tx, .int .i64 pr, .slice Ak nk ck] 58) = w2 at *
    obtain ⟨D, hDD⟩ : ∃ D, D = w.heap.size := ⟨_, rfl⟩
    have hDw : D ≤ w.heap.size := by omega
    have HDE := hide hDD
    rw [← hDD] at HB HD HZ HT HN hg HIS HCON HBX HROW ⊢
    clear d0 d1 d2 d3 d4 d5 hDD
    go_wp2_with (first
      | (go_at_call 45; refine (HIS.out _ HB.out).mono ?_; rintro e w7 ⟨rfl, hb7⟩; have HB7 := hide (HB.out.trans (hb7.mono (bsz HB.out hDw))); have HD7 := hide (HD.out.below hb7 HD.out.lt); have HZ7 := hide (HZ.out.below hb7 HZ.out.lt); have HT7 := hide (HT.out.below hb7 HT.out.lt); have n1 := (HN.out.below hb7 HN.out.lt).cell 1; have m0 := HD7.out.cell 0; have m1 := HD7.out.cell 1; simp only [List.getElem?_toArray, List.getElem?_cons_zero, List.getElem?_cons_succ] at n1 m0 m1; have h2D := HT.out.lt; clear hb7)
      | (go_at_call 24; refine (HCON.out _ HB7.out).mono ?_; rintro e w6 ⟨⟨v6, rfl, ho6⟩, hb6⟩; obtain ⟨A6, c6, rfl, hc6, hm6, hr6⟩ := own_reads2 ho6; have HR6 := hide hr6; have HB6 := hide (HB7.out.trans (hb6.mono (bsz HB7.out hDw))); have HD6 := hide (HD7.out.below hb6 HD7.out.lt); have HZ6 := hide (HZ7.out.below hb6 HZ7.out.lt); have HT6 := hide (HT7.out.below hb6 HT7.out.lt); have m60 := HD6.out.cell 0; have m61 := HD6.out.cell 1; simp only [List.getElem?_toArray, List.getElem?_cons_zero, List.getElem?_cons_succ] at m60 m61; clear hb6 ho6 hr6)
      | fail)
    have HRS := HR6
    have HB := HB6
    have HD := HD6
    have HZ := HZ6
    have hb0 := Below.drew (Below.refl w6.heap.size w6)
    have HB0 := hide (HB.out.trans (hb0.mono (bsz HB.out hDw)))
    have HB26 := hide hb0
    have HRD := hide (HRS.out.below hb0)
    have HTQ := hide HT6.out.drew
    have HD0 := hide HD.out.drew
    have HZ0 := hide HZ.out.drew
    refine wp_region_HL 11 #[false, false, false, false, false, false, false, false, false, false, false] (by kernel_rfl) (by kernel_rfl) (S := fun Z => Blk Z D 75 #[.slice (some ⟨g, off, none⟩) l.length cn, .slice As l.length cs]) (by kernel_rfl) HD0.out (fun hHeld => ?_)
    generalize w6.drew = wv0 at *
    clear hHeld hb0
    refine take_at (i := 0) (v := (Value.agg #[.slice (some ⟨g, off, none⟩) l.length cn, .slice As l.length cs])) (some 79) rfl rfl (by kernel_rfl) (by kernel_rfl) (by kernel_rfl) (fun _ _ _ h => h) (yieldsIf_load_blk (by rfl) 75 _ rfl D rfl 75 _ _ (fun _ h => h) mk_u2 rfl (by kernel_rfl)) HD0.out ?_
    simp only [Act.put, List.setIfInBounds_toArray, List.set_cons_zero, List.set_cons_succ]
    refine take_at (i := 1) (v := (Value.agg #[.slice (some ⟨g, off, none⟩) l.length cn, .slice As l.length cs])) (some 80) rfl rfl (by kernel_rfl) (by kernel_rfl) (by kernel_rfl) (fun _ _ _ h => h) (yieldsIf_load_blk (by rfl) 75 _ rfl D rfl 75 _ _ (fun _ h => h) mk_u2 rfl (by kernel_rfl)) HD0.out ?_
    simp only [Act.put, List.setIfInBounds_toArray, List.set_cons_zero, List.set_cons_succ]
    refine take_at (i := 2) (v := (.slice A6 L.length c6)) (some 81) rfl rfl (by kernel_rfl) (by kernel_rfl) (by kernel_rfl) (fun _ _ _ h => h) (yieldsIf_move (by rfl) _ rfl _ rfl) HD0.out ?_
    simp only [Act.put, List.setIfInBounds_toArray, List.set_cons_zero, List.set_cons_succ]
    refine take_at (i := 4) (v := (.func (.func 64) #[] #[.pointer (some ⟨D, 0, none⟩)])) (some 83) rfl rfl (by kernel_rfl) (by kernel_rfl) (by kernel_rfl) (fun _ _ _ h => h) (Or.inl ⟨by rfl, fun W hW => ?_⟩) HD0.out ?_
    · go_simp
    simp only [Act.put, List.setIfInBounds_toArray, List.set_cons_zero, List.set_cons_succ]
    refine take_at (i := 6) (v := (Value.pointer (some ⟨(D + 1 + 1), 0, none⟩))) (some 85) rfl rfl (by kernel_rfl) (by kernel_rfl) (by kernel_rfl) (fun _ _ _ h => h) (yieldsIf_faddr (by rfl) 79 _ 0 rfl _ _ 0 rfl (by kernel_rfl)) HD0.out ?_
    simp only [Act.put, List.setIfInBounds_toArray, List.set_cons_zero, List.set_cons_succ]
    refine take_at (i := 7) (v := (Value.pointer (some ⟨(D + 1 + 1), 0, none⟩))) (some 86) rfl rfl (by kernel_rfl) (by kernel_rfl) (by kernel_rfl) (fun _ _ _ h => h) (yieldsIf_faddr (by rfl) 45 _ 0 rfl _ _ 0 rfl (by kernel_rfl)) HD0.out ?_
    simp only [Act.put, List.setIfInBounds_toArray, List.set_cons_zero, List.set_cons_succ]
    refine callH (j := 3) (by kernel_rfl) rfl rfl (some 82) rfl 23 #[.agg #[.slice (some ⟨g, off, none⟩) l.length cn, .slice As l.length cs], .slice A6 L.length c6] (run_enter Tryd.func23 (by kernel_rfl) (by kernel_rfl) _ _ rfl #[.agg #[.slice (some ⟨g, off, none⟩) l.length cn, .slice As l.length cs], .slice A6 L.length c6] (by kernel_rfl) _) (HBX.out _ A6 c6 HB0.out (HRD.out.more HB26.out.size)) ?_
    rintro e wv1 ⟨⟨A1, c1, rfl, hc1, hm1, hr1⟩, hx⟩
    have HB1 := hide (HB0.out.trans (hx.mono (bsz HB0.out hDw)))
    have HD1 := hide (HD0.out.below hx HD0.out.lt)
    have HZ1 := hide (HZ0.out.below hx HZ0.out.lt)
    have HR1 := hide hr1
    have h01 := hx.size
    have hz0 := HZ0.out.lt
    have ht0 := HTQ.out.lt
    have HT1 := hide (HTQ.out.below hx HTQ.out.lt)
    clear hr1
    clear hx
    refine ⟨_, rfl, HD1.out, ?_⟩
    simp only [Act.put, List.setIfInBounds_toArray, List.set_cons_zero, List.set_cons_succ]
    refine callH (j := 5) (by kernel_rfl) rfl rfl (some 84) rfl 43 #[.agg #[.slice (some ⟨g, off, none⟩) l.length cn, .slice As l.length cs], .slice A1 ts.length c1, .func (.func 64) #[] #[.pointer (some ⟨D, 0, none⟩)]] (run_enter Tryd.func43 (by kernel_rfl) (by kernel_rfl) _ _ rfl #[.agg #[.slice (some ⟨g, off, none⟩) l.length cn, .slice As l.length cs], .slice A1 ts.length c1, .func (.func 64) #[] #[.pointer (some ⟨D, 0, none⟩)]] (by kernel_rfl) _) (HROW.out wv0.heap.size wv1 A1 c1 HB1.out HD1.out HR1.out hc1 hm1) ?_
    rintro e wv2 ⟨⟨v2, xs2, rfl, ho2, hv2⟩, hx⟩
    have HB2 := hide (HB1.out.trans (hx.mono (bsz HB1.out hDw)))
    have HD2 := hide (HD1.out.below hx HD1.out.lt)
    have HZ2 := hide (HZ1.out.below hx HZ1.out.lt)
    obtain ⟨A2, c2, rfl, hc2, hm2, hr2⟩ := RowPost.row ⟨xs2, ho2, hv2⟩
    have HR2 := hide hr2
    have h12 := hx.size
    have HT2 := hide (HT1.out.below hx HT1.out.lt)
    clear ho2 hv2 hr2
    clear hx
    refine ⟨_, rfl, HD2.out, ?_⟩
    simp only [Act.put, List.setIfInBounds_toArray, List.set_cons_zero, List.set_cons_succ]
    refine storeH (j := 8) (by kernel_rfl) rfl rfl rfl 3 (.tmp 86) (.const (.int .i64 6)) rfl (D + 1 + 1) 0 79 _ (.int .i64 6) (by kernel_rfl) (by kernel_rfl) HT2.out (Nat.le_of_ble_eq_true rfl) (by kernel_rfl) rfl rfl (fun wv3 hB hG => ⟨HD2.out.grown hG (fun e => by injection e with e; omega), ?_⟩)
    simp only [List.setIfInBounds_toArray, List.set_cons_zero, List.set_cons_succ]
    have HT3 := hide hB
    have HG3 := hide hG
    have HB3 := hide (below_grown HB2.out hDw hG (by omega))
    have HZ3 := hide (HZ2.out.grown hG (fun e => by injection e with e; omega))
    have HD3 := hide (HD2.out.grown hG (fun e => by injection e with e; omega))
    clear hB hG
    refine take_at (i := 9) (v := (Value.pointer (some ⟨(D + 1 + 1), 5, none⟩))) (some 87) rfl rfl (by kernel_rfl) (by kernel_rfl) (by kernel_rfl) (fun _ _ _ h => h) (yieldsIf_faddr (by rfl) 79 _ 1 rfl _ _ 5 rfl (by kernel_rfl)) HD3.out ?_
    simp only [Act.put, List.setIfInBounds_toArray, List.set_cons_zero, List.set_cons_succ]
    refine storeH (j := 10) (by kernel_rfl) rfl rfl rfl 77 (.tmp 87) (.tmp 84) rfl (D + 1 + 1) 5 79 _ (.slice A2 rw2.length c2) (by kernel_rfl) (by kernel_rfl) HT3.out (Nat.le_of_ble_eq_true rfl) (by kernel_rfl) rfl rfl (fun wv4 hB hG => ⟨HD3.out.grown hG (fun e => by injection e with e; omega), ?_⟩)
    simp only [List.setIfInBounds_toArray, List.set_cons_zero, List.set_cons_succ]
    have HT4 := hide (show Blk wv4 (D + 1 + 1) 79 #[.int .i64 6, .int .i64 n, .int .i64 0, .slice none 0 0, .string ⟨#[]⟩, .slice A2 rw2.length c2] from hB)
    have HG4 := hide hG
    have HBW4 := hide (below_grown HB3.out hDw hG (by omega))
    have HZ4 := hide (HZ3.out.grown hG (fun e => by injection e with e; omega))
    clear hB hG
    refine wpAnyH_done (by kernel_rfl) ?_ _
    go_wp2_with (first
      | (refine wpList_load_row rfl 79 (.tmp 5) rfl (D + 1 + 1) rfl _ _ (0, 0) _ HT4.out tr_u rfl (tr_i _ _ _ _ _ _) ?_)
      | (refine wpList_store_blk rfl 79 (.tmp 4) (.tmp 88) rfl (D + 1) 79 _ _ rfl rfl HZ4.out rfl (tr_i _ _ _ _ _ _) (tr_ones _ _ _ _ _ _) ?_; intro w9 hB9 hG9; have HZ9 := hide hB9; have HG9 := hide hG9; have HB9 := hide (below_grown HBW4.out hDw hG9 (by omega)); clear hB9 hG9)
      | fail)
    refine bodyPost_ret (results_cell_row rfl _ _ (D + 1) 79 _ (0, 0) _ rfl HZ9.out tr_u rfl (tr_i _ _ _ _ _ _)) rfl ?_
    rw [← HDE.out, ← HRW.out]
    refine ⟨⟨A2, c2, rfl, TrV.of (by decide) HRL.out hc2 hm2 ?_⟩, HB9.out⟩
    have k3 := HG3.out.size
    have k4 := HG4.out.size
    have k9 := HG9.out.size
    refine HR2.out.keep (fun p hp => ?_) fun g hp => ?_
    · have hp2 : p.block < wv2.heap.size ∧ wv0.heap.size ≤ p.block := by
        rcases hp with (hp | hp) | hp
        · exact hp.elim
        · omega
        · omega
      rw [World.cell?_of_block (HG9.out.block p.block (by omega) (fun e => by injection e with e; omega)), World.cell?_of_block (HG4.out.block p.block (by omega) (fun e => by injection e with e; omega)), World.cell?_of_block (HG3.out.block p.block (by omega) (fun e => by injection e with e; omega))]
    · rcases hp with (hp | hp) | hp
      · exact hp.elim
      · exact .inr (by omega)
      · exact .inr (by omega)
  · go_enter Tryd.func44, Tryd.ntmps44
    go_wp2_with fail
    generalize (((w.alloc (.cells #[.slice (some ⟨g, off, none⟩) l.length cn, .slice As l.length cs] 75)).alloc (.cells #[.int .i64 0, .int .i64 0, .int .i64 0, .slice none 0 0, .string ⟨#[]⟩, .slice none 0 0] 79)).alloc (.cells #[.int .i64 4, .int .i64 n, .int .i64 0, .slice none 0 0, .string ⟨#[]⟩, .slice none 0 0] 79)).alloc (.cells #[.int .i64 kd, .string nm, .slice Aa na ca, .string tx, .int .i64 pr, .slice Ak nk ck] 58) = w2 at *
    obtain ⟨D, hDD⟩ : ∃ D, D = w.heap.size := ⟨_, rfl⟩
    have hDw : D ≤ w.heap.size := by omega
    have HDE := hide hDD
    rw [← hDD] at HB HD HZ HT HN hg HIS HCON HBX HROW ⊢
    clear d0 d1 d2 d3 d4 d5 hDD
    go_wp2_with (first
      | (go_at_call 45; refine (HIS.out _ HB.out).mono ?_; rintro e w7 ⟨rfl, hb7⟩; have HB7 := hide (HB.out.trans (hb7.mono (bsz HB.out hDw))); have HD7 := hide (HD.out.below hb7 HD.out.lt); have HZ7 := hide (HZ.out.below hb7 HZ.out.lt); have HT7 := hide (HT.out.below hb7 HT.out.lt); have n1 := (HN.out.below hb7 HN.out.lt).cell 1; have m0 := HD7.out.cell 0; have m1 := HD7.out.cell 1; simp only [List.getElem?_toArray, List.getElem?_cons_zero, List.getElem?_cons_succ] at n1 m0 m1; have h2D := HT.out.lt; clear hb7)
      | (go_at_call 24; refine (HCON.out _ HB7.out).mono ?_; rintro e w6 ⟨⟨v6, rfl, ho6⟩, hb6⟩; obtain ⟨A6, c6, rfl, hc6, hm6, hr6⟩ := own_reads2 ho6; have HR6 := hide hr6; have HB6 := hide (HB7.out.trans (hb6.mono (bsz HB7.out hDw))); have HD6 := hide (HD7.out.below hb6 HD7.out.lt); have HZ6 := hide (HZ7.out.below hb6 HZ7.out.lt); have HT6 := hide (HT7.out.below hb6 HT7.out.lt); have m60 := HD6.out.cell 0; have m61 := HD6.out.cell 1; simp only [List.getElem?_toArray, List.getElem?_cons_zero, List.getElem?_cons_succ] at m60 m61; clear hb6 ho6 hr6)
      | fail)
    have HRS := HR6
    have HB := HB6
    have HD := HD6
    have HZ := HZ6
    have hb0 := Below.drew (Below.refl w6.heap.size w6)
    have HB0 := hide (HB.out.trans (hb0.mono (bsz HB.out hDw)))
    have HB26 := hide hb0
    have HRD := hide (HRS.out.below hb0)
    have HTQ := hide HT6.out.drew
    have HD0 := hide HD.out.drew
    have HZ0 := hide HZ.out.drew
    refine wp_region_HL 11 #[false, false, false, false, false, false, false, false, false, false, false] (by kernel_rfl) (by kernel_rfl) (S := fun Z => Blk Z D 75 #[.slice (some ⟨g, off, none⟩) l.length cn, .slice As l.length cs]) (by kernel_rfl) HD0.out (fun hHeld => ?_)
    generalize w6.drew = wv0 at *
    clear hHeld hb0
    refine take_at (i := 0) (v := (Value.agg #[.slice (some ⟨g, off, none⟩) l.length cn, .slice As l.length cs])) (some 79) rfl rfl (by kernel_rfl) (by kernel_rfl) (by kernel_rfl) (fun _ _ _ h => h) (yieldsIf_load_blk (by rfl) 75 _ rfl D rfl 75 _ _ (fun _ h => h) mk_u2 rfl (by kernel_rfl)) HD0.out ?_
    simp only [Act.put, List.setIfInBounds_toArray, List.set_cons_zero, List.set_cons_succ]
    refine take_at (i := 1) (v := (Value.agg #[.slice (some ⟨g, off, none⟩) l.length cn, .slice As l.length cs])) (some 80) rfl rfl (by kernel_rfl) (by kernel_rfl) (by kernel_rfl) (fun _ _ _ h => h) (yieldsIf_load_blk (by rfl) 75 _ rfl D rfl 75 _ _ (fun _ h => h) mk_u2 rfl (by kernel_rfl)) HD0.out ?_
    simp only [Act.put, List.setIfInBounds_toArray, List.set_cons_zero, List.set_cons_succ]
    refine take_at (i := 2) (v := (.slice A6 L.length c6)) (some 81) rfl rfl (by kernel_rfl) (by kernel_rfl) (by kernel_rfl) (fun _ _ _ h => h) (yieldsIf_move (by rfl) _ rfl _ rfl) HD0.out ?_
    simp only [Act.put, List.setIfInBounds_toArray, List.set_cons_zero, List.set_cons_succ]
    refine take_at (i := 4) (v := (.func (.func 64) #[] #[.pointer (some ⟨D, 0, none⟩)])) (some 83) rfl rfl (by kernel_rfl) (by kernel_rfl) (by kernel_rfl) (fun _ _ _ h => h) (Or.inl ⟨by rfl, fun W hW => ?_⟩) HD0.out ?_
    · go_simp
    simp only [Act.put, List.setIfInBounds_toArray, List.set_cons_zero, List.set_cons_succ]
    refine take_at (i := 6) (v := (Value.pointer (some ⟨(D + 1 + 1), 0, none⟩))) (some 85) rfl rfl (by kernel_rfl) (by kernel_rfl) (by kernel_rfl) (fun _ _ _ h => h) (yieldsIf_faddr (by rfl) 79 _ 0 rfl _ _ 0 rfl (by kernel_rfl)) HD0.out ?_
    simp only [Act.put, List.setIfInBounds_toArray, List.set_cons_zero, List.set_cons_succ]
    refine take_at (i := 7) (v := (Value.pointer (some ⟨(D + 1 + 1), 0, none⟩))) (some 86) rfl rfl (by kernel_rfl) (by kernel_rfl) (by kernel_rfl) (fun _ _ _ h => h) (yieldsIf_faddr (by rfl) 45 _ 0 rfl _ _ 0 rfl (by kernel_rfl)) HD0.out ?_
    simp only [Act.put, List.setIfInBounds_toArray, List.set_cons_zero, List.set_cons_succ]
    refine callH (j := 3) (by kernel_rfl) rfl rfl (some 82) rfl 23 #[.agg #[.slice (some ⟨g, off, none⟩) l.length cn, .slice As l.length cs], .slice A6 L.length c6] (run_enter Tryd.func23 (by kernel_rfl) (by kernel_rfl) _ _ rfl #[.agg #[.slice (some ⟨g, off, none⟩) l.length cn, .slice As l.length cs], .slice A6 L.length c6] (by kernel_rfl) _) (HBX.out _ A6 c6 HB0.out (HRD.out.more HB26.out.size)) ?_
    rintro e wv1 ⟨⟨A1, c1, rfl, hc1, hm1, hr1⟩, hx⟩
    have HB1 := hide (HB0.out.trans (hx.mono (bsz HB0.out hDw)))
    have HD1 := hide (HD0.out.below hx HD0.out.lt)
    have HZ1 := hide (HZ0.out.below hx HZ0.out.lt)
    have HR1 := hide hr1
    have h01 := hx.size
    have hz0 := HZ0.out.lt
    have ht0 := HTQ.out.lt
    have HT1 := hide (HTQ.out.below hx HTQ.out.lt)
    clear hr1
    clear hx
    refine ⟨_, rfl, HD1.out, ?_⟩
    simp only [Act.put, List.setIfInBounds_toArray, List.set_cons_zero, List.set_cons_succ]
    refine callH (j := 5) (by kernel_rfl) rfl rfl (some 84) rfl 43 #[.agg #[.slice (some ⟨g, off, none⟩) l.length cn, .slice As l.length cs], .slice A1 ts.length c1, .func (.func 64) #[] #[.pointer (some ⟨D, 0, none⟩)]] (run_enter Tryd.func43 (by kernel_rfl) (by kernel_rfl) _ _ rfl #[.agg #[.slice (some ⟨g, off, none⟩) l.length cn, .slice As l.length cs], .slice A1 ts.length c1, .func (.func 64) #[] #[.pointer (some ⟨D, 0, none⟩)]] (by kernel_rfl) _) (HROW.out wv0.heap.size wv1 A1 c1 HB1.out HD1.out HR1.out hc1 hm1) ?_
    rintro e wv2 ⟨⟨v2, xs2, rfl, ho2, hv2⟩, hx⟩
    have HB2 := hide (HB1.out.trans (hx.mono (bsz HB1.out hDw)))
    have HD2 := hide (HD1.out.below hx HD1.out.lt)
    have HZ2 := hide (HZ1.out.below hx HZ1.out.lt)
    obtain ⟨A2, c2, rfl, hc2, hm2, hr2⟩ := RowPost.row ⟨xs2, ho2, hv2⟩
    have HR2 := hide hr2
    have h12 := hx.size
    have HT2 := hide (HT1.out.below hx HT1.out.lt)
    clear ho2 hv2 hr2
    clear hx
    refine ⟨_, rfl, HD2.out, ?_⟩
    simp only [Act.put, List.setIfInBounds_toArray, List.set_cons_zero, List.set_cons_succ]
    refine storeH (j := 8) (by kernel_rfl) rfl rfl rfl 3 (.tmp 86) (.const (.int .i64 6)) rfl (D + 1 + 1) 0 79 _ (.int .i64 6) (by kernel_rfl) (by kernel_rfl) HT2.out (Nat.le_of_ble_eq_true rfl) (by kernel_rfl) rfl rfl (fun wv3 hB hG => ⟨HD2.out.grown hG (fun e => by injection e with e; omega), ?_⟩)
    simp only [List.setIfInBounds_toArray, List.set_cons_zero, List.set_cons_succ]
    have HT3 := hide hB
    have HG3 := hide hG
    have HB3 := hide (below_grown HB2.out hDw hG (by omega))
    have HZ3 := hide (HZ2.out.grown hG (fun e => by injection e with e; omega))
    have HD3 := hide (HD2.out.grown hG (fun e => by injection e with e; omega))
    clear hB hG
    refine take_at (i := 9) (v := (Value.pointer (some ⟨(D + 1 + 1), 5, none⟩))) (some 87) rfl rfl (by kernel_rfl) (by kernel_rfl) (by kernel_rfl) (fun _ _ _ h => h) (yieldsIf_faddr (by rfl) 79 _ 1 rfl _ _ 5 rfl (by kernel_rfl)) HD3.out ?_
    simp only [Act.put, List.setIfInBounds_toArray, List.set_cons_zero, List.set_cons_succ]
    refine storeH (j := 10) (by kernel_rfl) rfl rfl rfl 77 (.tmp 87) (.tmp 84) rfl (D + 1 + 1) 5 79 _ (.slice A2 rw2.length c2) (by kernel_rfl) (by kernel_rfl) HT3.out (Nat.le_of_ble_eq_true rfl) (by kernel_rfl) rfl rfl (fun wv4 hB hG => ⟨HD3.out.grown hG (fun e => by injection e with e; omega), ?_⟩)
    simp only [List.setIfInBounds_toArray, List.set_cons_zero, List.set_cons_succ]
    have HT4 := hide (show Blk wv4 (D + 1 + 1) 79 #[.int .i64 6, .int .i64 n, .int .i64 0, .slice none 0 0, .string ⟨#[]⟩, .slice A2 rw2.length c2] from hB)
    have HG4 := hide hG
    have HBW4 := hide (below_grown HB3.out hDw hG (by omega))
    have HZ4 := hide (HZ3.out.grown hG (fun e => by injection e with e; omega))
    clear hB hG
    refine wpAnyH_done (by kernel_rfl) ?_ _
    go_wp2_with (first
      | (refine wpList_load_row rfl 79 (.tmp 5) rfl (D + 1 + 1) rfl _ _ (0, 0) _ HT4.out tr_u rfl (tr_i _ _ _ _ _ _) ?_)
      | (refine wpList_store_blk rfl 79 (.tmp 4) (.tmp 88) rfl (D + 1) 79 _ _ rfl rfl HZ4.out rfl (tr_i _ _ _ _ _ _) (tr_ones _ _ _ _ _ _) ?_; intro w9 hB9 hG9; have HZ9 := hide hB9; have HG9 := hide hG9; have HB9 := hide (below_grown HBW4.out hDw hG9 (by omega)); clear hB9 hG9)
      | fail)
    refine bodyPost_ret (results_cell_row rfl _ _ (D + 1) 79 _ (0, 0) _ rfl HZ9.out tr_u rfl (tr_i _ _ _ _ _ _)) rfl ?_
    rw [← HDE.out, ← HRW.out]
    refine ⟨⟨A2, c2, rfl, TrV.of (by decide) HRL.out hc2 hm2 ?_⟩, HB9.out⟩
    have k3 := HG3.out.size
    have k4 := HG4.out.size
    have k9 := HG9.out.size
    refine HR2.out.keep (fun p hp => ?_) fun g hp => ?_
    · have hp2 : p.block < wv2.heap.size ∧ wv0.heap.size ≤ p.block := by
        rcases hp with (hp | hp) | hp
        · exact hp.elim
        · omega
        · omega
      rw [World.cell?_of_block (HG9.out.block p.block (by omega) (fun e => by injection e with e; omega)), World.cell?_of_block (HG4.out.block p.block (by omega) (fun e => by injection e with e; omega)), World.cell?_of_block (HG3.out.block p.block (by omega) (fun e => by injection e with e; omega))]
    · rcases hp with (hp | hp) | hp
      · exact hp.elim
      · exact .inr (by omega)
      · exact .inr (by omega)
end Go.Proofs.YtbpkffoooieejaaDoor
