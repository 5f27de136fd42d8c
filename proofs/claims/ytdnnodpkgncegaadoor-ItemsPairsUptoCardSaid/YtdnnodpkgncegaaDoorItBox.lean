/- The walk of maker.box. -/
import Derived.BigQuiet
import Derived.Handy
import Derived.IntWalk
import Derived.RegionTactic
import Derived.Deep.MidRow
import Derived.Deep.CutBlock
import Derived.Test.YtdnnodpkgncegaaDoorItKids
namespace Go.Proofs.YtdnnodpkgncegaaDoor
open Go.ChangeShapes Go.WideShapes Go.ChangeAt Go.RowKit
theorem zero_le4 (w : World) : (zeroValue 48).run Tryd.prog w = .ok (.agg #[.int .i64 0, .int .i64 0, .int .i64 0, .int .i64 0]) w := by kernel_rfl
theorem Frame_b (R : Nat → Int) (room : Int) (w : World) : Calls Tryd.prog 14 #[.agg (styA R), .int .i64 room] w fun e w' => (∃ a1 a2 a3 a4 b1 b2 b3 b4 c1 c2 c3 c4 : Int, e = .returned (.tuple #[.agg #[.int .i64 a1, .int .i64 a2, .int .i64 a3, .int .i64 a4], .agg #[.int .i64 b1, .int .i64 b2, .int .i64 b3, .int .i64 b4], .agg #[.int .i64 c1, .int .i64 c2, .int .i64 c3, .int .i64 c4]])) ∧ Below w.heap.size w w' :=
  (Frame_any R room w).mono fun _ _ h => ⟨⟨_, _, _, _, _, _, _, _, _, _, _, _, h.1⟩, h.2⟩
theorem Out_b (R : Nat → Int) (w : World) : Calls Tryd.prog 16 #[.agg (styA R)] w fun e w' => e = .returned (.int .i64 (outF R)) ∧ Below w.heap.size w w' := (Out_any R w).mono fun _ _ h => ⟨h.1, by rw [h.2]; exact (Below.refl w.heap.size w).alloc (Nat.le_refl _) _⟩
theorem le_all (a b c d : Int) : (#[Value.int .i64 a, .int .i64 b, .int .i64 c, .int .i64 d] : Array Value).all (·.oneCell') = true := by simp [Value.oneCell']
theorem three_keep {w w' : World} {B mb : Nat} {Sb Sl V V' : Value} {room : Int} {bl : Bool} {s : List Li} (h : ItV w B mb Sb Sl room bl V s) (k : Stp mb w V w' V') {p6 p7 p8 : Nat} {c6 c7 c8 : Array Value} (hb : Blk w p6 48 c6 ∧ Blk w p7 48 c7 ∧ Blk w p8 48 c8) : Blk w' p6 48 c6 ∧ Blk w' p7 48 c7 ∧ Blk w' p8 48 c8 :=
  ⟨h.keep k hb.1 (by decide) (by decide), h.keep k hb.2.1 (by decide) (by decide), h.keep k hb.2.2 (by decide) (by decide)⟩
set_option maxRecDepth 100000 in
set_option maxHeartbeats 40000000 in
theorem box_any (B mb g off cB gl ol cl : Nat) (l : List Bo) (R : Nat → Nat → Int) (mv room : Int) (hl : l.length ≤ 1000000) (hG : ∀ i, i < l.length → BoxGood l i) (hT : ∀ k, k < l.length → (boAt l k).text.size ≤ 1048576) : ∀ d, BoxAt B mb g off cB gl ol cl l R mv room d := by
  intro d
  induction d with
  | zero => intro at_ V bl s w hat hd; omega
  | succ d ih =>
    intro at_ V bl s w hat hd hBB hD hI hlim
    have hce : costF (kidN l) (ownN l) (d + 1) at_ = ownN l at_ + ((kidN l at_).map (costF (kidN l) (ownN l) d)).sum := rfl
    rw [hce] at hlim ⊢
    clear hce
    have hown : ownN l at_ = 2 * (boAt l at_).text.size + 2 := rfl
    have HKD := hide (fun (w' : World) (V' : Value) (bl' : Bool) (s' : List Li) (h1 : B ≤ w'.heap.size) (h2 : ItD w' B g off gl ol l R mv) (h3 : ItV w' B mb (.slice (some ⟨g, off, none⟩) l.length cB) (.slice (some ⟨gl, ol, none⟩) l.length cl) room bl' V' s') (h4 : s'.length + ((kidN l at_).map (costF (kidN l) (ownN l) d)).sum ≤ 10000000) =>
      kids_any B mb g off cB gl ol cl l R mv room d hl hG ih at_ V' bl' s' w' hat (fun k hk => by have := (kidN_good (hG at_ hat) hk).1; omega) h1 h2 h3 h4)
    generalize ((kidN l at_).map (costF (kidN l) (ownN l) d)).sum = sk at *
    obtain ⟨Ak, ck, hbc⟩ := hD.box at_ hat
    have HR := hide (show ∀ j u, (styA (R at_))[j]? = some u → w.cell? ⟨gl, ol + at_ * 118 + j, none⟩ = some u from fun j u hu => by
      have hj : j < 118 := by
        have := (Array.getElem?_eq_some_iff.1 hu).1
        rwa [styA_size] at this
      rw [styA_at _ hj] at hu
      injection hu with hu
      subst hu
      exact hD.sty at_ hat j hj)
    have HTX := hide (fun (h9 : (boAt l at_).text.size ≤ 1048576) (w' : World) (h1 : B ≤ w'.heap.size) (h2 : ItD w' B g off gl ol l R mv) (h3 : ItV w' B mb (.slice (some ⟨g, off, none⟩) l.length cB) (.slice (some ⟨gl, ol, none⟩) l.length cl) room bl V s) (h4 : s.length + 2 * (boAt l at_).text.size + 2 ≤ 10000000) => by
      obtain ⟨Ak, ck, hbc⟩ := h2.box at_ hat
      exact text_any g gl off ol at_ l.length cB cl mb B (boAt l at_).text (R at_) V room mv bl s w' hat h2.hg h2.h0 h1 h3 hbc.c4 (h2.sty at_ hat) h2.mlen h9 h4)
    have hts := hT at_ hat
    have hkind := hbc.c0
    have hg := hD.hg
    have c0 : w.cell? ⟨mb, 0, none⟩ = some (.slice (some ⟨g, off, none⟩) l.length cB) := hI.blk.cell 0
    have c1 : w.cell? ⟨mb, 1, none⟩ = some (.slice (some ⟨gl, ol, none⟩) l.length cl) := hI.blk.cell 1
    have HC0 := hide (fun (Z : World) (hz : Below w.heap.size w Z) => (hz.cell (p := ⟨mb, 0, none⟩) (cell_lt c0)).trans c0)
    have HC1 := hide (fun (Z : World) (hz : Below w.heap.size w Z) => (hz.cell (p := ⟨g, off + at_ * 5, none⟩) (cell_lt hkind)).trans hkind)
    have hn : ¬ l.length ≤ at_ := by omega
    have HI := hide hI
    have HD := hide hD
    have hzv := zero_sty
    have HZ := hide (Blk.new w 44 (styA fun _ => 0))
    have HZ1 := hide (sty_zs (R at_))
    have HZ2 := hide (sty_i (R at_))
    have HZ3 := hide (sty_all (R at_))
    have HBE := hide (fun (Z : World) (hz : (w.alloc (.cells (styA fun _ => 0) 44)).grownBy Z (some w.heap.size)) => below_grown ((Below.refl w.heap.size w).alloc (Nat.le_refl _) (.cells (styA fun _ => 0) 44)) (Nat.le_refl _) hz (Nat.le_refl _))
    have HOU := hide (Out_b (R at_))
    generalize (boAt l at_).text.size = ts at *
    generalize (boAt l at_).kind = K at *
    generalize outF (R at_) = o at *
    generalize R at_ = Ra at *
    clear hbc hI hD hkind
    by_cases h4 : K = 4
    · subst h4
      go_enter Tryd.func9, Tryd.ntmps9
      go_wp2_with (first
        | (refine wpList_load_mid rfl 44 (.tmp 14) rfl gl (ol + at_ * 118) rfl (styA Ra) _ HR.out sty_u rfl (sty_i _) ?_)
        | (refine wpList_store_blk rfl 44 (.tmp 4) (.tmp 15) rfl w.heap.size 44 _ (styA Ra) rfl rfl HZ.out HZ1.out HZ2.out HZ3.out ?_; intro w2 hB2 hG2; have HB2 := hide hB2; have HW2 := hide (HBE.out w2 hG2); have k0 := HC0.out w2 HW2.out; have k1 := HC1.out w2 HW2.out; clear hB2 hG2)
        | fail)
      have HT2 := hide (show TxS w w2 B mb w.heap.size (.slice (some ⟨g, off, none⟩) l.length cB) (.slice (some ⟨gl, ol, none⟩) l.length cl) room bl V V s Ra from ⟨HI.out.old HW2.out, Stp.of_below HW2.out V, HB2.out, bsz (HW2.out.mono hBB) hBB, HW2.out.mono hBB⟩)
      refine (HTX.out hts w2 HT2.out.sz (HD.out.below HT2.out.bw) HT2.out.it (by omega)).mono ?_
      rintro e w3 ⟨rfl, V3, b3, s3, hI3, hS3, hB3, hl3⟩
      have hS4 := HT2.out.st.trans hS3
      clear k0 k1
      go_wp2_with fail
      go_end0
      exact ⟨rfl, V3, b3, s3, hI3, hS4, hB3, by omega⟩
    · have t4 : (K == 4) = false := by simpa using h4
      by_cases h3 : K = 3
      · subst h3
        have hls : s.length ≤ 10000000 := by omega
        go_enter Tryd.func9, Tryd.ntmps9
        go_upto_region 7 with (first
          | (refine wpList_load_mid rfl 44 (.tmp 14) rfl gl (ol + at_ * 118) rfl (styA Ra) _ HR.out sty_u rfl (sty_i _) ?_)
          | (refine wpList_store_blk rfl 44 (.tmp 4) (.tmp 15) rfl w.heap.size 44 _ (styA Ra) rfl rfl HZ.out HZ1.out HZ2.out HZ3.out ?_; intro w2 hB2 hG2; have HB2 := hide hB2; have HW2 := hide (HBE.out w2 hG2); have k0 := HC0.out w2 HW2.out; have k1 := HC1.out w2 HW2.out; clear hB2 hG2; have HT2 := hide (show TxS w w2 B mb w.heap.size (.slice (some ⟨g, off, none⟩) l.length cB) (.slice (some ⟨gl, ol, none⟩) l.length cl) room bl V V s Ra from ⟨HI.out.old HW2.out, Stp.of_below HW2.out V, HB2.out, bsz (HW2.out.mono hBB) hBB, HW2.out.mono hBB⟩))
          | fail)
        clear k0 k1
        go_cut [6, 7, 8] from 42 (fun a6 a7 a8 wx => ∃ (p6 p7 p8 : Nat) (a1 a2 a3 a4 b1 b2 b3 b4 c1 c2 c3 c4 : Int), a6 = .pointer (some ⟨p6, 0, none⟩) ∧ a7 = .pointer (some ⟨p7, 0, none⟩) ∧ a8 = .pointer (some ⟨p8, 0, none⟩) ∧ Blk wx p6 48 #[.int .i64 a1, .int .i64 a2, .int .i64 a3, .int .i64 a4] ∧ Blk wx p7 48 #[.int .i64 b1, .int .i64 b2, .int .i64 b3, .int .i64 b4] ∧ Blk wx p8 48 #[.int .i64 c1, .int .i64 c2, .int .i64 c3, .int .i64 c4] ∧ Below w2.heap.size w2 wx)
        case first =>
          have hb0 := Below.drew (Below.refl w2.heap.size w2)
          have HSK := hide (fun (Z : World) (hz : Below w2.heap.size w2 Z) => show Blk Z w.heap.size 44 (styA Ra) ∧ Z.cell? ⟨mb, 2, none⟩ = some (.int .i64 room) from
            ⟨HT2.out.sty.below hz HT2.out.sty.lt, (HT2.out.it.old hz).blk.cell 2⟩)
          refine wp_region_HL 16 #[false, false, false, false, false, false, false, false, false, false, false, false, false, false, false, false] (by kernel_rfl) (by kernel_rfl) (S := fun Z => Blk Z w.heap.size 44 (styA Ra) ∧ Z.cell? ⟨mb, 2, none⟩ = some (.int .i64 room)) (by kernel_rfl) (HSK.out _ hb0) (fun hHeld => ?_)
          generalize w2.drew = wv0 at *
          clear hHeld
          refine take_at (i := 0) (v := (Value.agg (styA Ra))) (some 43) rfl rfl (by kernel_rfl) (by kernel_rfl) (by kernel_rfl) (fun _ _ _ h => h) (yieldsIf_load_blk (by rfl) 44 _ rfl w.heap.size rfl 44 _ _ (fun _ h => h.1) sty_u rfl (sty_i Ra)) (HSK.out _ hb0) ?_
          simp only [Act.put, List.setIfInBounds_toArray, List.set_cons_zero, List.set_cons_succ]
          refine take_at (i := 1) (v := (Value.pointer (some ⟨mb, 0, none⟩))) (some 44) rfl rfl (by kernel_rfl) (by kernel_rfl) (by kernel_rfl) (fun _ _ _ h => h) (yieldsIf_move (by rfl) _ rfl _ rfl) (HSK.out _ hb0) ?_
          simp only [Act.put, List.setIfInBounds_toArray, List.set_cons_zero, List.set_cons_succ]
          refine take_at (i := 2) (v := (Value.pointer (some ⟨mb, 0, none⟩))) (some 45) rfl rfl (by kernel_rfl) (by kernel_rfl) (by kernel_rfl) (fun _ _ _ h => h) (yieldsIf_nil (by rfl) _ rfl _ rfl) (HSK.out _ hb0) ?_
          simp only [Act.put, List.setIfInBounds_toArray, List.set_cons_zero, List.set_cons_succ]
          refine take_at (i := 3) (v := (Value.pointer (some ⟨mb, 2, none⟩))) (some 46) rfl rfl (by kernel_rfl) (by kernel_rfl) (by kernel_rfl) (fun _ _ _ h => h) (yieldsIf_faddr (by rfl) 38 _ 2 rfl _ _ 2 rfl (by kernel_rfl)) (HSK.out _ hb0) ?_
          simp only [Act.put, List.setIfInBounds_toArray, List.set_cons_zero, List.set_cons_succ]
          refine take_at (i := 4) (v := (.int .i64 room)) (some 47) rfl rfl (by kernel_rfl) (by kernel_rfl) (by kernel_rfl) (fun _ _ _ h => h) (yieldsIf_load1 (by rfl) 3 _ rfl _ _ _ rfl (by kernel_rfl) (fun _ h => h.2)) (HSK.out _ hb0) ?_
          simp only [Act.put, List.setIfInBounds_toArray, List.set_cons_zero, List.set_cons_succ]
          refine wpAnyH_ready (rs := [5, 10, 11, 12]) (by kernel_rfl) (by simp) ?_
          refine readyCall (j := 5) rfl rfl (some 48) rfl 14 #[.agg (styA Ra), .int .i64 room] (run_enter Tryd.func14 (by kernel_rfl) (by kernel_rfl) _ _ rfl #[.agg (styA Ra), .int .i64 room] (by kernel_rfl) _) (Frame_b _ _ _) ?_ ?_
          · rintro e wv1 ⟨⟨a1, a2, a3, a4, b1, b2, b3, b4, c1, c2, c3, c4, rfl⟩, hx⟩
            have hb1 := hb0.trans (hx.mono hb0.size)
            refine ⟨_, rfl, HSK.out _ hb1, ?_⟩
            simp only [Act.put, List.setIfInBounds_toArray, List.set_cons_zero, List.set_cons_succ]
            clear hx
            refine take_at (i := 6) (v := (.tuple #[.agg #[.int .i64 a1, .int .i64 a2, .int .i64 a3, .int .i64 a4], .agg #[.int .i64 b1, .int .i64 b2, .int .i64 b3, .int .i64 b4], .agg #[.int .i64 c1, .int .i64 c2, .int .i64 c3, .int .i64 c4]])) (some 42) rfl rfl (by kernel_rfl) (by kernel_rfl) (by kernel_rfl) (fun _ _ _ h => h) (yieldsIf_move (by rfl) _ rfl _ rfl) (HSK.out _ hb1) ?_
            simp only [Act.put, List.setIfInBounds_toArray, List.set_cons_zero, List.set_cons_succ]
            refine take_at (i := 7) (v := (.agg #[.int .i64 a1, .int .i64 a2, .int .i64 a3, .int .i64 a4])) (some 49) rfl rfl (by kernel_rfl) (by kernel_rfl) (by kernel_rfl) (fun _ _ _ h => h) (Or.inl ⟨by rfl, fun W hW => ?_⟩) (HSK.out _ hb1) ?_
            · go_simp
            simp only [Act.put, List.setIfInBounds_toArray, List.set_cons_zero, List.set_cons_succ]
            refine take_at (i := 8) (v := (.agg #[.int .i64 b1, .int .i64 b2, .int .i64 b3, .int .i64 b4])) (some 50) rfl rfl (by kernel_rfl) (by kernel_rfl) (by kernel_rfl) (fun _ _ _ h => h) (Or.inl ⟨by rfl, fun W hW => ?_⟩) (HSK.out _ hb1) ?_
            · go_simp
            simp only [Act.put, List.setIfInBounds_toArray, List.set_cons_zero, List.set_cons_succ]
            refine take_at (i := 9) (v := (.agg #[.int .i64 c1, .int .i64 c2, .int .i64 c3, .int .i64 c4])) (some 51) rfl rfl (by kernel_rfl) (by kernel_rfl) (by kernel_rfl) (fun _ _ _ h => h) (Or.inl ⟨by rfl, fun W hW => ?_⟩) (HSK.out _ hb1) ?_
            · go_simp
            simp only [Act.put, List.setIfInBounds_toArray, List.set_cons_zero, List.set_cons_succ]
            refine wpAnyH_ready (rs := [10, 11, 12]) (by kernel_rfl) (by simp) ?_
            refine readyAlloc (j := 10) rfl rfl 6 rfl 48 #[.int .i64 0, .int .i64 0, .int .i64 0, .int .i64 0] rfl zero_le4 (HSK.out _ (hb1.alloc hb1.size _)) ?_ ?_
            · simp only [Act.put, List.setIfInBounds_toArray, List.set_cons_zero, List.set_cons_succ]
              have hb2 := hb1.alloc hb1.size (.cells #[.int .i64 0, .int .i64 0, .int .i64 0, .int .i64 0] 48)
              have B6_2 := Blk.new wv1 48 #[.int .i64 0, .int .i64 0, .int .i64 0, .int .i64 0]
              have g6 := hb1.size
              generalize wv1.alloc (.cells #[.int .i64 0, .int .i64 0, .int .i64 0, .int .i64 0] 48) = wv2 at *
              generalize wv1.heap.size = p6 at *
              refine wpAnyH_ready (rs := [11, 12]) (by kernel_rfl) (by simp) ?_
              refine readyAlloc (j := 11) rfl rfl 7 rfl 48 #[.int .i64 0, .int .i64 0, .int .i64 0, .int .i64 0] rfl zero_le4 (HSK.out _ (hb2.alloc hb2.size _)) ?_ ?_
              · simp only [Act.put, List.setIfInBounds_toArray, List.set_cons_zero, List.set_cons_succ]
                have hb3 := hb2.alloc hb2.size (.cells #[.int .i64 0, .int .i64 0, .int .i64 0, .int .i64 0] 48)
                have B7_3 := Blk.new wv2 48 #[.int .i64 0, .int .i64 0, .int .i64 0, .int .i64 0]
                have B6_3 := B6_2.alloc (.cells #[.int .i64 0, .int .i64 0, .int .i64 0, .int .i64 0] 48)
                have g7 := hb2.size
                have n67 := B6_2.lt
                generalize wv2.alloc (.cells #[.int .i64 0, .int .i64 0, .int .i64 0, .int .i64 0] 48) = wv3 at *
                generalize wv2.heap.size = p7 at *
                refine wpAnyH_ready (rs := [12]) (by kernel_rfl) (by simp) ?_
                refine readyAlloc (j := 12) rfl rfl 8 rfl 48 #[.int .i64 0, .int .i64 0, .int .i64 0, .int .i64 0] rfl zero_le4 (HSK.out _ (hb3.alloc hb3.size _)) ?_ ?_
                · simp only [Act.put, List.setIfInBounds_toArray, List.set_cons_zero, List.set_cons_succ]
                  have hb4 := hb3.alloc hb3.size (.cells #[.int .i64 0, .int .i64 0, .int .i64 0, .int .i64 0] 48)
                  have B8_4 := Blk.new wv3 48 #[.int .i64 0, .int .i64 0, .int .i64 0, .int .i64 0]
                  have B6_4 := B6_3.alloc (.cells #[.int .i64 0, .int .i64 0, .int .i64 0, .int .i64 0] 48)
                  have B7_4 := B7_3.alloc (.cells #[.int .i64 0, .int .i64 0, .int .i64 0, .int .i64 0] 48)
                  have g8 := hb3.size
                  have n68 := B6_3.lt
                  have n78 := B7_3.lt
                  generalize wv3.alloc (.cells #[.int .i64 0, .int .i64 0, .int .i64 0, .int .i64 0] 48) = wv4 at *
                  generalize wv3.heap.size = p8 at *
                  refine storeBH (j := 13) (by kernel_rfl) rfl rfl rfl 48 (.tmp 6) (.tmp 49) rfl p6 48 _ #[.int .i64 a1, .int .i64 a2, .int .i64 a3, .int .i64 a4] rfl rfl B6_4 rfl (le_i _ _ _ _) (le_all _ _ _ _) (fun wv5 hB hG => ⟨HSK.out _ (below_grown hb4 (Nat.le_refl _) hG (by omega)), ?_⟩)
                  simp only [List.setIfInBounds_toArray, List.set_cons_zero, List.set_cons_succ]
                  have hb5 := below_grown hb4 (Nat.le_refl _) hG (by omega)
                  have B6_5 := hB
                  have B7_5 := B7_4.grown hG (fun e => by injection e with e; omega)
                  have B8_5 := B8_4.grown hG (fun e => by injection e with e; omega)
                  clear hB hG
                  refine storeBH (j := 14) (by kernel_rfl) rfl rfl rfl 48 (.tmp 7) (.tmp 50) rfl p7 48 _ #[.int .i64 b1, .int .i64 b2, .int .i64 b3, .int .i64 b4] rfl rfl B7_5 rfl (le_i _ _ _ _) (le_all _ _ _ _) (fun wv6 hB hG => ⟨HSK.out _ (below_grown hb5 (Nat.le_refl _) hG (by omega)), ?_⟩)
                  simp only [List.setIfInBounds_toArray, List.set_cons_zero, List.set_cons_succ]
                  have hb6 := below_grown hb5 (Nat.le_refl _) hG (by omega)
                  have B7_6 := hB
                  have B6_6 := B6_5.grown hG (fun e => by injection e with e; omega)
                  have B8_6 := B8_5.grown hG (fun e => by injection e with e; omega)
                  clear hB hG
                  refine storeBH (j := 15) (by kernel_rfl) rfl rfl rfl 48 (.tmp 8) (.tmp 51) rfl p8 48 _ #[.int .i64 c1, .int .i64 c2, .int .i64 c3, .int .i64 c4] rfl rfl B8_6 rfl (le_i _ _ _ _) (le_all _ _ _ _) (fun wv7 hB hG => ⟨HSK.out _ (below_grown hb6 (Nat.le_refl _) hG (by omega)), ?_⟩)
                  simp only [List.setIfInBounds_toArray, List.set_cons_zero, List.set_cons_succ]
                  have hb7 := below_grown hb6 (Nat.le_refl _) hG (by omega)
                  have B8_7 := hB
                  have B6_7 := B6_6.grown hG (fun e => by injection e with e; omega)
                  have B7_7 := B7_6.grown hG (fun e => by injection e with e; omega)
                  clear hB hG
                  refine wpAnyH_done (by kernel_rfl) ?_ _
                  go_wp2_with fail
                  go_meet
                  exact ⟨p6, p7, p8, a1, a2, a3, a4, b1, b2, b3, b4, c1, c2, c3, c4, rfl, rfl, rfl, B6_7, B7_7, B8_7, hb7⟩
                exact AllReadyH.nil
              refine readyAlloc (j := 12) rfl rfl 8 rfl 48 #[.int .i64 0, .int .i64 0, .int .i64 0, .int .i64 0] rfl zero_le4 (HSK.out _ (hb2.alloc hb2.size _)) ?_ ?_
              · simp only [Act.put, List.setIfInBounds_toArray, List.set_cons_zero, List.set_cons_succ]
                have hb3 := hb2.alloc hb2.size (.cells #[.int .i64 0, .int .i64 0, .int .i64 0, .int .i64 0] 48)
                have B8_3 := Blk.new wv2 48 #[.int .i64 0, .int .i64 0, .int .i64 0, .int .i64 0]
                have B6_3 := B6_2.alloc (.cells #[.int .i64 0, .int .i64 0, .int .i64 0, .int .i64 0] 48)
                have g8 := hb2.size
                have n68 := B6_2.lt
                generalize wv2.alloc (.cells #[.int .i64 0, .int .i64 0, .int .i64 0, .int .i64 0] 48) = wv3 at *
                generalize wv2.heap.size = p8 at *
                refine wpAnyH_ready (rs := [11]) (by kernel_rfl) (by simp) ?_
                refine readyAlloc (j := 11) rfl rfl 7 rfl 48 #[.int .i64 0, .int .i64 0, .int .i64 0, .int .i64 0] rfl zero_le4 (HSK.out _ (hb3.alloc hb3.size _)) ?_ ?_
                · simp only [Act.put, List.setIfInBounds_toArray, List.set_cons_zero, List.set_cons_succ]
                  have hb4 := hb3.alloc hb3.size (.cells #[.int .i64 0, .int .i64 0, .int .i64 0, .int .i64 0] 48)
                  have B7_4 := Blk.new wv3 48 #[.int .i64 0, .int .i64 0, .int .i64 0, .int .i64 0]
                  have B6_4 := B6_3.alloc (.cells #[.int .i64 0, .int .i64 0, .int .i64 0, .int .i64 0] 48)
                  have B8_4 := B8_3.alloc (.cells #[.int .i64 0, .int .i64 0, .int .i64 0, .int .i64 0] 48)
                  have g7 := hb3.size
                  have n67 := B6_3.lt
                  have n87 := B8_3.lt
                  generalize wv3.alloc (.cells #[.int .i64 0, .int .i64 0, .int .i64 0, .int .i64 0] 48) = wv4 at *
                  generalize wv3.heap.size = p7 at *
                  refine storeBH (j := 13) (by kernel_rfl) rfl rfl rfl 48 (.tmp 6) (.tmp 49) rfl p6 48 _ #[.int .i64 a1, .int .i64 a2, .int .i64 a3, .int .i64 a4] rfl rfl B6_4 rfl (le_i _ _ _ _) (le_all _ _ _ _) (fun wv5 hB hG => ⟨HSK.out _ (below_grown hb4 (Nat.le_refl _) hG (by omega)), ?_⟩)
                  simp only [List.setIfInBounds_toArray, List.set_cons_zero, List.set_cons_succ]
                  have hb5 := below_grown hb4 (Nat.le_refl _) hG (by omega)
                  have B6_5 := hB
                  have B7_5 := B7_4.grown hG (fun e => by injection e with e; omega)
                  have B8_5 := B8_4.grown hG (fun e => by injection e with e; omega)
                  clear hB hG
                  refine storeBH (j := 14) (by kernel_rfl) rfl rfl rfl 48 (.tmp 7) (.tmp 50) rfl p7 48 _ #[.int .i64 b1, .int .i64 b2, .int .i64 b3, .int .i64 b4] rfl rfl B7_5 rfl (le_i _ _ _ _) (le_all _ _ _ _) (fun wv6 hB hG => ⟨HSK.out _ (below_grown hb5 (Nat.le_refl _) hG (by omega)), ?_⟩)
                  simp only [List.setIfInBounds_toArray, List.set_cons_zero, List.set_cons_succ]
                  have hb6 := below_grown hb5 (Nat.le_refl _) hG (by omega)
                  have B7_6 := hB
                  have B6_6 := B6_5.grown hG (fun e => by injection e with e; omega)
                  have B8_6 := B8_5.grown hG (fun e => by injection e with e; omega)
                  clear hB hG
                  refine storeBH (j := 15) (by kernel_rfl) rfl rfl rfl 48 (.tmp 8) (.tmp 51) rfl p8 48 _ #[.int .i64 c1, .int .i64 c2, .int .i64 c3, .int .i64 c4] rfl rfl B8_6 rfl (le_i _ _ _ _) (le_all _ _ _ _) (fun wv7 hB hG => ⟨HSK.out _ (below_grown hb6 (Nat.le_refl _) hG (by omega)), ?_⟩)
                  simp only [List.setIfInBounds_toArray, List.set_cons_zero, List.set_cons_succ]
                  have hb7 := below_grown hb6 (Nat.le_refl _) hG (by omega)
                  have B8_7 := hB
                  have B6_7 := B6_6.grown hG (fun e => by injection e with e; omega)
                  have B7_7 := B7_6.grown hG (fun e => by injection e with e; omega)
                  clear hB hG
                  refine wpAnyH_done (by kernel_rfl) ?_ _
                  go_wp2_with fail
                  go_meet
                  exact ⟨p6, p7, p8, a1, a2, a3, a4, b1, b2, b3, b4, c1, c2, c3, c4, rfl, rfl, rfl, B6_7, B7_7, B8_7, hb7⟩
                exact AllReadyH.nil
              exact AllReadyH.nil
            refine readyAlloc (j := 11) rfl rfl 7 rfl 48 #[.int .i64 0, .int .i64 0, .int .i64 0, .int .i64 0] rfl zero_le4 (HSK.out _ (hb1.alloc hb1.size _)) ?_ ?_
            · simp only [Act.put, List.setIfInBounds_toArray, List.set_cons_zero, List.set_cons_succ]
              have hb2 := hb1.alloc hb1.size (.cells #[.int .i64 0, .int .i64 0, .int .i64 0, .int .i64 0] 48)
              have B7_2 := Blk.new wv1 48 #[.int .i64 0, .int .i64 0, .int .i64 0, .int .i64 0]
              have g7 := hb1.size
              generalize wv1.alloc (.cells #[.int .i64 0, .int .i64 0, .int .i64 0, .int .i64 0] 48) = wv2 at *
              generalize wv1.heap.size = p7 at *
              refine wpAnyH_ready (rs := [10, 12]) (by kernel_rfl) (by simp) ?_
              refine readyAlloc (j := 10) rfl rfl 6 rfl 48 #[.int .i64 0, .int .i64 0, .int .i64 0, .int .i64 0] rfl zero_le4 (HSK.out _ (hb2.alloc hb2.size _)) ?_ ?_
              · simp only [Act.put, List.setIfInBounds_toArray, List.set_cons_zero, List.set_cons_succ]
                have hb3 := hb2.alloc hb2.size (.cells #[.int .i64 0, .int .i64 0, .int .i64 0, .int .i64 0] 48)
                have B6_3 := Blk.new wv2 48 #[.int .i64 0, .int .i64 0, .int .i64 0, .int .i64 0]
                have B7_3 := B7_2.alloc (.cells #[.int .i64 0, .int .i64 0, .int .i64 0, .int .i64 0] 48)
                have g6 := hb2.size
                have n76 := B7_2.lt
                generalize wv2.alloc (.cells #[.int .i64 0, .int .i64 0, .int .i64 0, .int .i64 0] 48) = wv3 at *
                generalize wv2.heap.size = p6 at *
                refine wpAnyH_ready (rs := [12]) (by kernel_rfl) (by simp) ?_
                refine readyAlloc (j := 12) rfl rfl 8 rfl 48 #[.int .i64 0, .int .i64 0, .int .i64 0, .int .i64 0] rfl zero_le4 (HSK.out _ (hb3.alloc hb3.size _)) ?_ ?_
                · simp only [Act.put, List.setIfInBounds_toArray, List.set_cons_zero, List.set_cons_succ]
                  have hb4 := hb3.alloc hb3.size (.cells #[.int .i64 0, .int .i64 0, .int .i64 0, .int .i64 0] 48)
                  have B8_4 := Blk.new wv3 48 #[.int .i64 0, .int .i64 0, .int .i64 0, .int .i64 0]
                  have B7_4 := B7_3.alloc (.cells #[.int .i64 0, .int .i64 0, .int .i64 0, .int .i64 0] 48)
                  have B6_4 := B6_3.alloc (.cells #[.int .i64 0, .int .i64 0, .int .i64 0, .int .i64 0] 48)
                  have g8 := hb3.size
                  have n78 := B7_3.lt
                  have n68 := B6_3.lt
                  generalize wv3.alloc (.cells #[.int .i64 0, .int .i64 0, .int .i64 0, .int .i64 0] 48) = wv4 at *
                  generalize wv3.heap.size = p8 at *
                  refine storeBH (j := 13) (by kernel_rfl) rfl rfl rfl 48 (.tmp 6) (.tmp 49) rfl p6 48 _ #[.int .i64 a1, .int .i64 a2, .int .i64 a3, .int .i64 a4] rfl rfl B6_4 rfl (le_i _ _ _ _) (le_all _ _ _ _) (fun wv5 hB hG => ⟨HSK.out _ (below_grown hb4 (Nat.le_refl _) hG (by omega)), ?_⟩)
                  simp only [List.setIfInBounds_toArray, List.set_cons_zero, List.set_cons_succ]
                  have hb5 := below_grown hb4 (Nat.le_refl _) hG (by omega)
                  have B6_5 := hB
                  have B7_5 := B7_4.grown hG (fun e => by injection e with e; omega)
                  have B8_5 := B8_4.grown hG (fun e => by injection e with e; omega)
                  clear hB hG
                  refine storeBH (j := 14) (by kernel_rfl) rfl rfl rfl 48 (.tmp 7) (.tmp 50) rfl p7 48 _ #[.int .i64 b1, .int .i64 b2, .int .i64 b3, .int .i64 b4] rfl rfl B7_5 rfl (le_i _ _ _ _) (le_all _ _ _ _) (fun wv6 hB hG => ⟨HSK.out _ (below_grown hb5 (Nat.le_refl _) hG (by omega)), ?_⟩)
                  simp only [List.setIfInBounds_toArray, List.set_cons_zero, List.set_cons_succ]
                  have hb6 := below_grown hb5 (Nat.le_refl _) hG (by omega)
                  have B7_6 := hB
                  have B6_6 := B6_5.grown hG (fun e => by injection e with e; omega)
                  have B8_6 := B8_5.grown hG (fun e => by injection e with e; omega)
                  clear hB hG
                  refine storeBH (j := 15) (by kernel_rfl) rfl rfl rfl 48 (.tmp 8) (.tmp 51) rfl p8 48 _ #[.int .i64 c1, .int .i64 c2, .int .i64 c3, .int .i64 c4] rfl rfl B8_6 rfl (le_i _ _ _ _) (le_all _ _ _ _) (fun wv7 hB hG => ⟨HSK.out _ (below_grown hb6 (Nat.le_refl _) hG (by omega)), ?_⟩)
                  simp only [List.setIfInBounds_toArray, List.set_cons_zero, List.set_cons_succ]
                  have hb7 := below_grown hb6 (Nat.le_refl _) hG (by omega)
                  have B8_7 := hB
                  have B6_7 := B6_6.grown hG (fun e => by injection e with e; omega)
                  have B7_7 := B7_6.grown hG (fun e => by injection e with e; omega)
                  clear hB hG
                  refine wpAnyH_done (by kernel_rfl) ?_ _
                  go_wp2_with fail
                  go_meet
                  exact ⟨p6, p7, p8, a1, a2, a3, a4, b1, b2, b3, b4, c1, c2, c3, c4, rfl, rfl, rfl, B6_7, B7_7, B8_7, hb7⟩
                exact AllReadyH.nil
              refine readyAlloc (j := 12) rfl rfl 8 rfl 48 #[.int .i64 0, .int .i64 0, .int .i64 0, .int .i64 0] rfl zero_le4 (HSK.out _ (hb2.alloc hb2.size _)) ?_ ?_
              · simp only [Act.put, List.setIfInBounds_toArray, List.set_cons_zero, List.set_cons_succ]
                have hb3 := hb2.alloc hb2.size (.cells #[.int .i64 0, .int .i64 0, .int .i64 0, .int .i64 0] 48)
                have B8_3 := Blk.new wv2 48 #[.int .i64 0, .int .i64 0, .int .i64 0, .int .i64 0]
                have B7_3 := B7_2.alloc (.cells #[.int .i64 0, .int .i64 0, .int .i64 0, .int .i64 0] 48)
                have g8 := hb2.size
                have n78 := B7_2.lt
                generalize wv2.alloc (.cells #[.int .i64 0, .int .i64 0, .int .i64 0, .int .i64 0] 48) = wv3 at *
                generalize wv2.heap.size = p8 at *
                refine wpAnyH_ready (rs := [10]) (by kernel_rfl) (by simp) ?_
                refine readyAlloc (j := 10) rfl rfl 6 rfl 48 #[.int .i64 0, .int .i64 0, .int .i64 0, .int .i64 0] rfl zero_le4 (HSK.out _ (hb3.alloc hb3.size _)) ?_ ?_
                · simp only [Act.put, List.setIfInBounds_toArray, List.set_cons_zero, List.set_cons_succ]
                  have hb4 := hb3.alloc hb3.size (.cells #[.int .i64 0, .int .i64 0, .int .i64 0, .int .i64 0] 48)
                  have B6_4 := Blk.new wv3 48 #[.int .i64 0, .int .i64 0, .int .i64 0, .int .i64 0]
                  have B7_4 := B7_3.alloc (.cells #[.int .i64 0, .int .i64 0, .int .i64 0, .int .i64 0] 48)
                  have B8_4 := B8_3.alloc (.cells #[.int .i64 0, .int .i64 0, .int .i64 0, .int .i64 0] 48)
                  have g6 := hb3.size
                  have n76 := B7_3.lt
                  have n86 := B8_3.lt
                  generalize wv3.alloc (.cells #[.int .i64 0, .int .i64 0, .int .i64 0, .int .i64 0] 48) = wv4 at *
                  generalize wv3.heap.size = p6 at *
                  refine storeBH (j := 13) (by kernel_rfl) rfl rfl rfl 48 (.tmp 6) (.tmp 49) rfl p6 48 _ #[.int .i64 a1, .int .i64 a2, .int .i64 a3, .int .i64 a4] rfl rfl B6_4 rfl (le_i _ _ _ _) (le_all _ _ _ _) (fun wv5 hB hG => ⟨HSK.out _ (below_grown hb4 (Nat.le_refl _) hG (by omega)), ?_⟩)
                  simp only [List.setIfInBounds_toArray, List.set_cons_zero, List.set_cons_succ]
                  have hb5 := below_grown hb4 (Nat.le_refl _) hG (by omega)
                  have B6_5 := hB
                  have B7_5 := B7_4.grown hG (fun e => by injection e with e; omega)
                  have B8_5 := B8_4.grown hG (fun e => by injection e with e; omega)
                  clear hB hG
                  refine storeBH (j := 14) (by kernel_rfl) rfl rfl rfl 48 (.tmp 7) (.tmp 50) rfl p7 48 _ #[.int .i64 b1, .int .i64 b2, .int .i64 b3, .int .i64 b4] rfl rfl B7_5 rfl (le_i _ _ _ _) (le_all _ _ _ _) (fun wv6 hB hG => ⟨HSK.out _ (below_grown hb5 (Nat.le_refl _) hG (by omega)), ?_⟩)
                  simp only [List.setIfInBounds_toArray, List.set_cons_zero, List.set_cons_succ]
                  have hb6 := below_grown hb5 (Nat.le_refl _) hG (by omega)
                  have B7_6 := hB
                  have B6_6 := B6_5.grown hG (fun e => by injection e with e; omega)
                  have B8_6 := B8_5.grown hG (fun e => by injection e with e; omega)
                  clear hB hG
                  refine storeBH (j := 15) (by kernel_rfl) rfl rfl rfl 48 (.tmp 8) (.tmp 51) rfl p8 48 _ #[.int .i64 c1, .int .i64 c2, .int .i64 c3, .int .i64 c4] rfl rfl B8_6 rfl (le_i _ _ _ _) (le_all _ _ _ _) (fun wv7 hB hG => ⟨HSK.out _ (below_grown hb6 (Nat.le_refl _) hG (by omega)), ?_⟩)
                  simp only [List.setIfInBounds_toArray, List.set_cons_zero, List.set_cons_succ]
                  have hb7 := below_grown hb6 (Nat.le_refl _) hG (by omega)
                  have B8_7 := hB
                  have B6_7 := B6_6.grown hG (fun e => by injection e with e; omega)
                  have B7_7 := B7_6.grown hG (fun e => by injection e with e; omega)
                  clear hB hG
                  refine wpAnyH_done (by kernel_rfl) ?_ _
                  go_wp2_with fail
                  go_meet
                  exact ⟨p6, p7, p8, a1, a2, a3, a4, b1, b2, b3, b4, c1, c2, c3, c4, rfl, rfl, rfl, B6_7, B7_7, B8_7, hb7⟩
                exact AllReadyH.nil
              exact AllReadyH.nil
            refine readyAlloc (j := 12) rfl rfl 8 rfl 48 #[.int .i64 0, .int .i64 0, .int .i64 0, .int .i64 0] rfl zero_le4 (HSK.out _ (hb1.alloc hb1.size _)) ?_ ?_
            · simp only [Act.put, List.setIfInBounds_toArray, List.set_cons_zero, List.set_cons_succ]
              have hb2 := hb1.alloc hb1.size (.cells #[.int .i64 0, .int .i64 0, .int .i64 0, .int .i64 0] 48)
              have B8_2 := Blk.new wv1 48 #[.int .i64 0, .int .i64 0, .int .i64 0, .int .i64 0]
              have g8 := hb1.size
              generalize wv1.alloc (.cells #[.int .i64 0, .int .i64 0, .int .i64 0, .int .i64 0] 48) = wv2 at *
              generalize wv1.heap.size = p8 at *
              refine wpAnyH_ready (rs := [10, 11]) (by kernel_rfl) (by simp) ?_
              refine readyAlloc (j := 10) rfl rfl 6 rfl 48 #[.int .i64 0, .int .i64 0, .int .i64 0, .int .i64 0] rfl zero_le4 (HSK.out _ (hb2.alloc hb2.size _)) ?_ ?_
              · simp only [Act.put, List.setIfInBounds_toArray, List.set_cons_zero, List.set_cons_succ]
                have hb3 := hb2.alloc hb2.size (.cells #[.int .i64 0, .int .i64 0, .int .i64 0, .int .i64 0] 48)
                have B6_3 := Blk.new wv2 48 #[.int .i64 0, .int .i64 0, .int .i64 0, .int .i64 0]
                have B8_3 := B8_2.alloc (.cells #[.int .i64 0, .int .i64 0, .int .i64 0, .int .i64 0] 48)
                have g6 := hb2.size
                have n86 := B8_2.lt
                generalize wv2.alloc (.cells #[.int .i64 0, .int .i64 0, .int .i64 0, .int .i64 0] 48) = wv3 at *
                generalize wv2.heap.size = p6 at *
                refine wpAnyH_ready (rs := [11]) (by kernel_rfl) (by simp) ?_
                refine readyAlloc (j := 11) rfl rfl 7 rfl 48 #[.int .i64 0, .int .i64 0, .int .i64 0, .int .i64 0] rfl zero_le4 (HSK.out _ (hb3.alloc hb3.size _)) ?_ ?_
                · simp only [Act.put, List.setIfInBounds_toArray, List.set_cons_zero, List.set_cons_succ]
                  have hb4 := hb3.alloc hb3.size (.cells #[.int .i64 0, .int .i64 0, .int .i64 0, .int .i64 0] 48)
                  have B7_4 := Blk.new wv3 48 #[.int .i64 0, .int .i64 0, .int .i64 0, .int .i64 0]
                  have B8_4 := B8_3.alloc (.cells #[.int .i64 0, .int .i64 0, .int .i64 0, .int .i64 0] 48)
                  have B6_4 := B6_3.alloc (.cells #[.int .i64 0, .int .i64 0, .int .i64 0, .int .i64 0] 48)
                  have g7 := hb3.size
                  have n87 := B8_3.lt
                  have n67 := B6_3.lt
                  generalize wv3.alloc (.cells #[.int .i64 0, .int .i64 0, .int .i64 0, .int .i64 0] 48) = wv4 at *
                  generalize wv3.heap.size = p7 at *
                  refine storeBH (j := 13) (by kernel_rfl) rfl rfl rfl 48 (.tmp 6) (.tmp 49) rfl p6 48 _ #[.int .i64 a1, .int .i64 a2, .int .i64 a3, .int .i64 a4] rfl rfl B6_4 rfl (le_i _ _ _ _) (le_all _ _ _ _) (fun wv5 hB hG => ⟨HSK.out _ (below_grown hb4 (Nat.le_refl _) hG (by omega)), ?_⟩)
                  simp only [List.setIfInBounds_toArray, List.set_cons_zero, List.set_cons_succ]
                  have hb5 := below_grown hb4 (Nat.le_refl _) hG (by omega)
                  have B6_5 := hB
                  have B7_5 := B7_4.grown hG (fun e => by injection e with e; omega)
                  have B8_5 := B8_4.grown hG (fun e => by injection e with e; omega)
                  clear hB hG
                  refine storeBH (j := 14) (by kernel_rfl) rfl rfl rfl 48 (.tmp 7) (.tmp 50) rfl p7 48 _ #[.int .i64 b1, .int .i64 b2, .int .i64 b3, .int .i64 b4] rfl rfl B7_5 rfl (le_i _ _ _ _) (le_all _ _ _ _) (fun wv6 hB hG => ⟨HSK.out _ (below_grown hb5 (Nat.le_refl _) hG (by omega)), ?_⟩)
                  simp only [List.setIfInBounds_toArray, List.set_cons_zero, List.set_cons_succ]
                  have hb6 := below_grown hb5 (Nat.le_refl _) hG (by omega)
                  have B7_6 := hB
                  have B6_6 := B6_5.grown hG (fun e => by injection e with e; omega)
                  have B8_6 := B8_5.grown hG (fun e => by injection e with e; omega)
                  clear hB hG
                  refine storeBH (j := 15) (by kernel_rfl) rfl rfl rfl 48 (.tmp 8) (.tmp 51) rfl p8 48 _ #[.int .i64 c1, .int .i64 c2, .int .i64 c3, .int .i64 c4] rfl rfl B8_6 rfl (le_i _ _ _ _) (le_all _ _ _ _) (fun wv7 hB hG => ⟨HSK.out _ (below_grown hb6 (Nat.le_refl _) hG (by omega)), ?_⟩)
                  simp only [List.setIfInBounds_toArray, List.set_cons_zero, List.set_cons_succ]
                  have hb7 := below_grown hb6 (Nat.le_refl _) hG (by omega)
                  have B8_7 := hB
                  have B6_7 := B6_6.grown hG (fun e => by injection e with e; omega)
                  have B7_7 := B7_6.grown hG (fun e => by injection e with e; omega)
                  clear hB hG
                  refine wpAnyH_done (by kernel_rfl) ?_ _
                  go_wp2_with fail
                  go_meet
                  exact ⟨p6, p7, p8, a1, a2, a3, a4, b1, b2, b3, b4, c1, c2, c3, c4, rfl, rfl, rfl, B6_7, B7_7, B8_7, hb7⟩
                exact AllReadyH.nil
              refine readyAlloc (j := 11) rfl rfl 7 rfl 48 #[.int .i64 0, .int .i64 0, .int .i64 0, .int .i64 0] rfl zero_le4 (HSK.out _ (hb2.alloc hb2.size _)) ?_ ?_
              · simp only [Act.put, List.setIfInBounds_toArray, List.set_cons_zero, List.set_cons_succ]
                have hb3 := hb2.alloc hb2.size (.cells #[.int .i64 0, .int .i64 0, .int .i64 0, .int .i64 0] 48)
                have B7_3 := Blk.new wv2 48 #[.int .i64 0, .int .i64 0, .int .i64 0, .int .i64 0]
                have B8_3 := B8_2.alloc (.cells #[.int .i64 0, .int .i64 0, .int .i64 0, .int .i64 0] 48)
                have g7 := hb2.size
                have n87 := B8_2.lt
                generalize wv2.alloc (.cells #[.int .i64 0, .int .i64 0, .int .i64 0, .int .i64 0] 48) = wv3 at *
                generalize wv2.heap.size = p7 at *
                refine wpAnyH_ready (rs := [10]) (by kernel_rfl) (by simp) ?_
                refine readyAlloc (j := 10) rfl rfl 6 rfl 48 #[.int .i64 0, .int .i64 0, .int .i64 0, .int .i64 0] rfl zero_le4 (HSK.out _ (hb3.alloc hb3.size _)) ?_ ?_
                · simp only [Act.put, List.setIfInBounds_toArray, List.set_cons_zero, List.set_cons_succ]
                  have hb4 := hb3.alloc hb3.size (.cells #[.int .i64 0, .int .i64 0, .int .i64 0, .int .i64 0] 48)
                  have B6_4 := Blk.new wv3 48 #[.int .i64 0, .int .i64 0, .int .i64 0, .int .i64 0]
                  have B8_4 := B8_3.alloc (.cells #[.int .i64 0, .int .i64 0, .int .i64 0, .int .i64 0] 48)
                  have B7_4 := B7_3.alloc (.cells #[.int .i64 0, .int .i64 0, .int .i64 0, .int .i64 0] 48)
                  have g6 := hb3.size
                  have n86 := B8_3.lt
                  have n76 := B7_3.lt
                  generalize wv3.alloc (.cells #[.int .i64 0, .int .i64 0, .int .i64 0, .int .i64 0] 48) = wv4 at *
                  generalize wv3.heap.size = p6 at *
                  refine storeBH (j := 13) (by kernel_rfl) rfl rfl rfl 48 (.tmp 6) (.tmp 49) rfl p6 48 _ #[.int .i64 a1, .int .i64 a2, .int .i64 a3, .int .i64 a4] rfl rfl B6_4 rfl (le_i _ _ _ _) (le_all _ _ _ _) (fun wv5 hB hG => ⟨HSK.out _ (below_grown hb4 (Nat.le_refl _) hG (by omega)), ?_⟩)
                  simp only [List.setIfInBounds_toArray, List.set_cons_zero, List.set_cons_succ]
                  have hb5 := below_grown hb4 (Nat.le_refl _) hG (by omega)
                  have B6_5 := hB
                  have B7_5 := B7_4.grown hG (fun e => by injection e with e; omega)
                  have B8_5 := B8_4.grown hG (fun e => by injection e with e; omega)
                  clear hB hG
                  refine storeBH (j := 14) (by kernel_rfl) rfl rfl rfl 48 (.tmp 7) (.tmp 50) rfl p7 48 _ #[.int .i64 b1, .int .i64 b2, .int .i64 b3, .int .i64 b4] rfl rfl B7_5 rfl (le_i _ _ _ _) (le_all _ _ _ _) (fun wv6 hB hG => ⟨HSK.out _ (below_grown hb5 (Nat.le_refl _) hG (by omega)), ?_⟩)
                  simp only [List.setIfInBounds_toArray, List.set_cons_zero, List.set_cons_succ]
                  have hb6 := below_grown hb5 (Nat.le_refl _) hG (by omega)
                  have B7_6 := hB
                  have B6_6 := B6_5.grown hG (fun e => by injection e with e; omega)
                  have B8_6 := B8_5.grown hG (fun e => by injection e with e; omega)
                  clear hB hG
                  refine storeBH (j := 15) (by kernel_rfl) rfl rfl rfl 48 (.tmp 8) (.tmp 51) rfl p8 48 _ #[.int .i64 c1, .int .i64 c2, .int .i64 c3, .int .i64 c4] rfl rfl B8_6 rfl (le_i _ _ _ _) (le_all _ _ _ _) (fun wv7 hB hG => ⟨HSK.out _ (below_grown hb6 (Nat.le_refl _) hG (by omega)), ?_⟩)
                  simp only [List.setIfInBounds_toArray, List.set_cons_zero, List.set_cons_succ]
                  have hb7 := below_grown hb6 (Nat.le_refl _) hG (by omega)
                  have B8_7 := hB
                  have B6_7 := B6_6.grown hG (fun e => by injection e with e; omega)
                  have B7_7 := B7_6.grown hG (fun e => by injection e with e; omega)
                  clear hB hG
                  refine wpAnyH_done (by kernel_rfl) ?_ _
                  go_wp2_with fail
                  go_meet
                  exact ⟨p6, p7, p8, a1, a2, a3, a4, b1, b2, b3, b4, c1, c2, c3, c4, rfl, rfl, rfl, B6_7, B7_7, B8_7, hb7⟩
                exact AllReadyH.nil
              exact AllReadyH.nil
            exact AllReadyH.nil
          refine readyAlloc (j := 10) rfl rfl 6 rfl 48 #[.int .i64 0, .int .i64 0, .int .i64 0, .int .i64 0] rfl zero_le4 (HSK.out _ (hb0.alloc hb0.size _)) ?_ ?_
          · simp only [Act.put, List.setIfInBounds_toArray, List.set_cons_zero, List.set_cons_succ]
            have hb1 := hb0.alloc hb0.size (.cells #[.int .i64 0, .int .i64 0, .int .i64 0, .int .i64 0] 48)
            have B6_1 := Blk.new wv0 48 #[.int .i64 0, .int .i64 0, .int .i64 0, .int .i64 0]
            have g6 := hb0.size
            generalize wv0.alloc (.cells #[.int .i64 0, .int .i64 0, .int .i64 0, .int .i64 0] 48) = wv1 at *
            generalize wv0.heap.size = p6 at *
            refine wpAnyH_ready (rs := [5, 11, 12]) (by kernel_rfl) (by simp) ?_
            refine readyCall (j := 5) rfl rfl (some 48) rfl 14 #[.agg (styA Ra), .int .i64 room] (run_enter Tryd.func14 (by kernel_rfl) (by kernel_rfl) _ _ rfl #[.agg (styA Ra), .int .i64 room] (by kernel_rfl) _) (Frame_b _ _ _) ?_ ?_
            · rintro e wv2 ⟨⟨a1, a2, a3, a4, b1, b2, b3, b4, c1, c2, c3, c4, rfl⟩, hx⟩
              have hb2 := hb1.trans (hx.mono hb1.size)
              have B6_2 := B6_1.below hx B6_1.lt
              refine ⟨_, rfl, HSK.out _ hb2, ?_⟩
              simp only [Act.put, List.setIfInBounds_toArray, List.set_cons_zero, List.set_cons_succ]
              clear hx
              refine take_at (i := 6) (v := (.tuple #[.agg #[.int .i64 a1, .int .i64 a2, .int .i64 a3, .int .i64 a4], .agg #[.int .i64 b1, .int .i64 b2, .int .i64 b3, .int .i64 b4], .agg #[.int .i64 c1, .int .i64 c2, .int .i64 c3, .int .i64 c4]])) (some 42) rfl rfl (by kernel_rfl) (by kernel_rfl) (by kernel_rfl) (fun _ _ _ h => h) (yieldsIf_move (by rfl) _ rfl _ rfl) (HSK.out _ hb2) ?_
              simp only [Act.put, List.setIfInBounds_toArray, List.set_cons_zero, List.set_cons_succ]
              refine take_at (i := 7) (v := (.agg #[.int .i64 a1, .int .i64 a2, .int .i64 a3, .int .i64 a4])) (some 49) rfl rfl (by kernel_rfl) (by kernel_rfl) (by kernel_rfl) (fun _ _ _ h => h) (Or.inl ⟨by rfl, fun W hW => ?_⟩) (HSK.out _ hb2) ?_
              · go_simp
              simp only [Act.put, List.setIfInBounds_toArray, List.set_cons_zero, List.set_cons_succ]
              refine take_at (i := 8) (v := (.agg #[.int .i64 b1, .int .i64 b2, .int .i64 b3, .int .i64 b4])) (some 50) rfl rfl (by kernel_rfl) (by kernel_rfl) (by kernel_rfl) (fun _ _ _ h => h) (Or.inl ⟨by rfl, fun W hW => ?_⟩) (HSK.out _ hb2) ?_
              · go_simp
              simp only [Act.put, List.setIfInBounds_toArray, List.set_cons_zero, List.set_cons_succ]
              refine take_at (i := 9) (v := (.agg #[.int .i64 c1, .int .i64 c2, .int .i64 c3, .int .i64 c4])) (some 51) rfl rfl (by kernel_rfl) (by kernel_rfl) (by kernel_rfl) (fun _ _ _ h => h) (Or.inl ⟨by rfl, fun W hW => ?_⟩) (HSK.out _ hb2) ?_
              · go_simp
              simp only [Act.put, List.setIfInBounds_toArray, List.set_cons_zero, List.set_cons_succ]
              refine wpAnyH_ready (rs := [11, 12]) (by kernel_rfl) (by simp) ?_
              refine readyAlloc (j := 11) rfl rfl 7 rfl 48 #[.int .i64 0, .int .i64 0, .int .i64 0, .int .i64 0] rfl zero_le4 (HSK.out _ (hb2.alloc hb2.size _)) ?_ ?_
              · simp only [Act.put, List.setIfInBounds_toArray, List.set_cons_zero, List.set_cons_succ]
                have hb3 := hb2.alloc hb2.size (.cells #[.int .i64 0, .int .i64 0, .int .i64 0, .int .i64 0] 48)
                have B7_3 := Blk.new wv2 48 #[.int .i64 0, .int .i64 0, .int .i64 0, .int .i64 0]
                have B6_3 := B6_2.alloc (.cells #[.int .i64 0, .int .i64 0, .int .i64 0, .int .i64 0] 48)
                have g7 := hb2.size
                have n67 := B6_2.lt
                generalize wv2.alloc (.cells #[.int .i64 0, .int .i64 0, .int .i64 0, .int .i64 0] 48) = wv3 at *
                generalize wv2.heap.size = p7 at *
                refine wpAnyH_ready (rs := [12]) (by kernel_rfl) (by simp) ?_
                refine readyAlloc (j := 12) rfl rfl 8 rfl 48 #[.int .i64 0, .int .i64 0, .int .i64 0, .int .i64 0] rfl zero_le4 (HSK.out _ (hb3.alloc hb3.size _)) ?_ ?_
                · simp only [Act.put, List.setIfInBounds_toArray, List.set_cons_zero, List.set_cons_succ]
                  have hb4 := hb3.alloc hb3.size (.cells #[.int .i64 0, .int .i64 0, .int .i64 0, .int .i64 0] 48)
                  have B8_4 := Blk.new wv3 48 #[.int .i64 0, .int .i64 0, .int .i64 0, .int .i64 0]
                  have B6_4 := B6_3.alloc (.cells #[.int .i64 0, .int .i64 0, .int .i64 0, .int .i64 0] 48)
                  have B7_4 := B7_3.alloc (.cells #[.int .i64 0, .int .i64 0, .int .i64 0, .int .i64 0] 48)
                  have g8 := hb3.size
                  have n68 := B6_3.lt
                  have n78 := B7_3.lt
                  generalize wv3.alloc (.cells #[.int .i64 0, .int .i64 0, .int .i64 0, .int .i64 0] 48) = wv4 at *
                  generalize wv3.heap.size = p8 at *
                  refine storeBH (j := 13) (by kernel_rfl) rfl rfl rfl 48 (.tmp 6) (.tmp 49) rfl p6 48 _ #[.int .i64 a1, .int .i64 a2, .int .i64 a3, .int .i64 a4] rfl rfl B6_4 rfl (le_i _ _ _ _) (le_all _ _ _ _) (fun wv5 hB hG => ⟨HSK.out _ (below_grown hb4 (Nat.le_refl _) hG (by omega)), ?_⟩)
                  simp only [List.setIfInBounds_toArray, List.set_cons_zero, List.set_cons_succ]
                  have hb5 := below_grown hb4 (Nat.le_refl _) hG (by omega)
                  have B6_5 := hB
                  have B7_5 := B7_4.grown hG (fun e => by injection e with e; omega)
                  have B8_5 := B8_4.grown hG (fun e => by injection e with e; omega)
                  clear hB hG
                  refine storeBH (j := 14) (by kernel_rfl) rfl rfl rfl 48 (.tmp 7) (.tmp 50) rfl p7 48 _ #[.int .i64 b1, .int .i64 b2, .int .i64 b3, .int .i64 b4] rfl rfl B7_5 rfl (le_i _ _ _ _) (le_all _ _ _ _) (fun wv6 hB hG => ⟨HSK.out _ (below_grown hb5 (Nat.le_refl _) hG (by omega)), ?_⟩)
                  simp only [List.setIfInBounds_toArray, List.set_cons_zero, List.set_cons_succ]
                  have hb6 := below_grown hb5 (Nat.le_refl _) hG (by omega)
                  have B7_6 := hB
                  have B6_6 := B6_5.grown hG (fun e => by injection e with e; omega)
                  have B8_6 := B8_5.grown hG (fun e => by injection e with e; omega)
                  clear hB hG
                  refine storeBH (j := 15) (by kernel_rfl) rfl rfl rfl 48 (.tmp 8) (.tmp 51) rfl p8 48 _ #[.int .i64 c1, .int .i64 c2, .int .i64 c3, .int .i64 c4] rfl rfl B8_6 rfl (le_i _ _ _ _) (le_all _ _ _ _) (fun wv7 hB hG => ⟨HSK.out _ (below_grown hb6 (Nat.le_refl _) hG (by omega)), ?_⟩)
                  simp only [List.setIfInBounds_toArray, List.set_cons_zero, List.set_cons_succ]
                  have hb7 := below_grown hb6 (Nat.le_refl _) hG (by omega)
                  have B8_7 := hB
                  have B6_7 := B6_6.grown hG (fun e => by injection e with e; omega)
                  have B7_7 := B7_6.grown hG (fun e => by injection e with e; omega)
                  clear hB hG
                  refine wpAnyH_done (by kernel_rfl) ?_ _
                  go_wp2_with fail
                  go_meet
                  exact ⟨p6, p7, p8, a1, a2, a3, a4, b1, b2, b3, b4, c1, c2, c3, c4, rfl, rfl, rfl, B6_7, B7_7, B8_7, hb7⟩
                exact AllReadyH.nil
              refine readyAlloc (j := 12) rfl rfl 8 rfl 48 #[.int .i64 0, .int .i64 0, .int .i64 0, .int .i64 0] rfl zero_le4 (HSK.out _ (hb2.alloc hb2.size _)) ?_ ?_
              · simp only [Act.put, List.setIfInBounds_toArray, List.set_cons_zero, List.set_cons_succ]
                have hb3 := hb2.alloc hb2.size (.cells #[.int .i64 0, .int .i64 0, .int .i64 0, .int .i64 0] 48)
                have B8_3 := Blk.new wv2 48 #[.int .i64 0, .int .i64 0, .int .i64 0, .int .i64 0]
                have B6_3 := B6_2.alloc (.cells #[.int .i64 0, .int .i64 0, .int .i64 0, .int .i64 0] 48)
                have g8 := hb2.size
                have n68 := B6_2.lt
                generalize wv2.alloc (.cells #[.int .i64 0, .int .i64 0, .int .i64 0, .int .i64 0] 48) = wv3 at *
                generalize wv2.heap.size = p8 at *
                refine wpAnyH_ready (rs := [11]) (by kernel_rfl) (by simp) ?_
                refine readyAlloc (j := 11) rfl rfl 7 rfl 48 #[.int .i64 0, .int .i64 0, .int .i64 0, .int .i64 0] rfl zero_le4 (HSK.out _ (hb3.alloc hb3.size _)) ?_ ?_
                · simp only [Act.put, List.setIfInBounds_toArray, List.set_cons_zero, List.set_cons_succ]
                  have hb4 := hb3.alloc hb3.size (.cells #[.int .i64 0, .int .i64 0, .int .i64 0, .int .i64 0] 48)
                  have B7_4 := Blk.new wv3 48 #[.int .i64 0, .int .i64 0, .int .i64 0, .int .i64 0]
                  have B6_4 := B6_3.alloc (.cells #[.int .i64 0, .int .i64 0, .int .i64 0, .int .i64 0] 48)
                  have B8_4 := B8_3.alloc (.cells #[.int .i64 0, .int .i64 0, .int .i64 0, .int .i64 0] 48)
                  have g7 := hb3.size
                  have n67 := B6_3.lt
                  have n87 := B8_3.lt
                  generalize wv3.alloc (.cells #[.int .i64 0, .int .i64 0, .int .i64 0, .int .i64 0] 48) = wv4 at *
                  generalize wv3.heap.size = p7 at *
                  refine storeBH (j := 13) (by kernel_rfl) rfl rfl rfl 48 (.tmp 6) (.tmp 49) rfl p6 48 _ #[.int .i64 a1, .int .i64 a2, .int .i64 a3, .int .i64 a4] rfl rfl B6_4 rfl (le_i _ _ _ _) (le_all _ _ _ _) (fun wv5 hB hG => ⟨HSK.out _ (below_grown hb4 (Nat.le_refl _) hG (by omega)), ?_⟩)
                  simp only [List.setIfInBounds_toArray, List.set_cons_zero, List.set_cons_succ]
                  have hb5 := below_grown hb4 (Nat.le_refl _) hG (by omega)
                  have B6_5 := hB
                  have B7_5 := B7_4.grown hG (fun e => by injection e with e; omega)
                  have B8_5 := B8_4.grown hG (fun e => by injection e with e; omega)
                  clear hB hG
                  refine storeBH (j := 14) (by kernel_rfl) rfl rfl rfl 48 (.tmp 7) (.tmp 50) rfl p7 48 _ #[.int .i64 b1, .int .i64 b2, .int .i64 b3, .int .i64 b4] rfl rfl B7_5 rfl (le_i _ _ _ _) (le_all _ _ _ _) (fun wv6 hB hG => ⟨HSK.out _ (below_grown hb5 (Nat.le_refl _) hG (by omega)), ?_⟩)
                  simp only [List.setIfInBounds_toArray, List.set_cons_zero, List.set_cons_succ]
                  have hb6 := below_grown hb5 (Nat.le_refl _) hG (by omega)
                  have B7_6 := hB
                  have B6_6 := B6_5.grown hG (fun e => by injection e with e; omega)
                  have B8_6 := B8_5.grown hG (fun e => by injection e with e; omega)
                  clear hB hG
                  refine storeBH (j := 15) (by kernel_rfl) rfl rfl rfl 48 (.tmp 8) (.tmp 51) rfl p8 48 _ #[.int .i64 c1, .int .i64 c2, .int .i64 c3, .int .i64 c4] rfl rfl B8_6 rfl (le_i _ _ _ _) (le_all _ _ _ _) (fun wv7 hB hG => ⟨HSK.out _ (below_grown hb6 (Nat.le_refl _) hG (by omega)), ?_⟩)
                  simp only [List.setIfInBounds_toArray, List.set_cons_zero, List.set_cons_succ]
                  have hb7 := below_grown hb6 (Nat.le_refl _) hG (by omega)
                  have B8_7 := hB
                  have B6_7 := B6_6.grown hG (fun e => by injection e with e; omega)
                  have B7_7 := B7_6.grown hG (fun e => by injection e with e; omega)
                  clear hB hG
                  refine wpAnyH_done (by kernel_rfl) ?_ _
                  go_wp2_with fail
                  go_meet
                  exact ⟨p6, p7, p8, a1, a2, a3, a4, b1, b2, b3, b4, c1, c2, c3, c4, rfl, rfl, rfl, B6_7, B7_7, B8_7, hb7⟩
                exact AllReadyH.nil
              exact AllReadyH.nil
            refine readyAlloc (j := 11) rfl rfl 7 rfl 48 #[.int .i64 0, .int .i64 0, .int .i64 0, .int .i64 0] rfl zero_le4 (HSK.out _ (hb1.alloc hb1.size _)) ?_ ?_
            · simp only [Act.put, List.setIfInBounds_toArray, List.set_cons_zero, List.set_cons_succ]
              have hb2 := hb1.alloc hb1.size (.cells #[.int .i64 0, .int .i64 0, .int .i64 0, .int .i64 0] 48)
              have B7_2 := Blk.new wv1 48 #[.int .i64 0, .int .i64 0, .int .i64 0, .int .i64 0]
              have B6_2 := B6_1.alloc (.cells #[.int .i64 0, .int .i64 0, .int .i64 0, .int .i64 0] 48)
              have g7 := hb1.size
              have n67 := B6_1.lt
              generalize wv1.alloc (.cells #[.int .i64 0, .int .i64 0, .int .i64 0, .int .i64 0] 48) = wv2 at *
              generalize wv1.heap.size = p7 at *
              refine wpAnyH_ready (rs := [5, 12]) (by kernel_rfl) (by simp) ?_
              refine readyCall (j := 5) rfl rfl (some 48) rfl 14 #[.agg (styA Ra), .int .i64 room] (run_enter Tryd.func14 (by kernel_rfl) (by kernel_rfl) _ _ rfl #[.agg (styA Ra), .int .i64 room] (by kernel_rfl) _) (Frame_b _ _ _) ?_ ?_
              · rintro e wv3 ⟨⟨a1, a2, a3, a4, b1, b2, b3, b4, c1, c2, c3, c4, rfl⟩, hx⟩
                have hb3 := hb2.trans (hx.mono hb2.size)
                have B6_3 := B6_2.below hx B6_2.lt
                have B7_3 := B7_2.below hx B7_2.lt
                refine ⟨_, rfl, HSK.out _ hb3, ?_⟩
                simp only [Act.put, List.setIfInBounds_toArray, List.set_cons_zero, List.set_cons_succ]
                clear hx
                refine take_at (i := 6) (v := (.tuple #[.agg #[.int .i64 a1, .int .i64 a2, .int .i64 a3, .int .i64 a4], .agg #[.int .i64 b1, .int .i64 b2, .int .i64 b3, .int .i64 b4], .agg #[.int .i64 c1, .int .i64 c2, .int .i64 c3, .int .i64 c4]])) (some 42) rfl rfl (by kernel_rfl) (by kernel_rfl) (by kernel_rfl) (fun _ _ _ h => h) (yieldsIf_move (by rfl) _ rfl _ rfl) (HSK.out _ hb3) ?_
                simp only [Act.put, List.setIfInBounds_toArray, List.set_cons_zero, List.set_cons_succ]
                refine take_at (i := 7) (v := (.agg #[.int .i64 a1, .int .i64 a2, .int .i64 a3, .int .i64 a4])) (some 49) rfl rfl (by kernel_rfl) (by kernel_rfl) (by kernel_rfl) (fun _ _ _ h => h) (Or.inl ⟨by rfl, fun W hW => ?_⟩) (HSK.out _ hb3) ?_
                · go_simp
                simp only [Act.put, List.setIfInBounds_toArray, List.set_cons_zero, List.set_cons_succ]
                refine take_at (i := 8) (v := (.agg #[.int .i64 b1, .int .i64 b2, .int .i64 b3, .int .i64 b4])) (some 50) rfl rfl (by kernel_rfl) (by kernel_rfl) (by kernel_rfl) (fun _ _ _ h => h) (Or.inl ⟨by rfl, fun W hW => ?_⟩) (HSK.out _ hb3) ?_
                · go_simp
                simp only [Act.put, List.setIfInBounds_toArray, List.set_cons_zero, List.set_cons_succ]
                refine take_at (i := 9) (v := (.agg #[.int .i64 c1, .int .i64 c2, .int .i64 c3, .int .i64 c4])) (some 51) rfl rfl (by kernel_rfl) (by kernel_rfl) (by kernel_rfl) (fun _ _ _ h => h) (Or.inl ⟨by rfl, fun W hW => ?_⟩) (HSK.out _ hb3) ?_
                · go_simp
                simp only [Act.put, List.setIfInBounds_toArray, List.set_cons_zero, List.set_cons_succ]
                refine wpAnyH_ready (rs := [12]) (by kernel_rfl) (by simp) ?_
                refine readyAlloc (j := 12) rfl rfl 8 rfl 48 #[.int .i64 0, .int .i64 0, .int .i64 0, .int .i64 0] rfl zero_le4 (HSK.out _ (hb3.alloc hb3.size _)) ?_ ?_
                · simp only [Act.put, List.setIfInBounds_toArray, List.set_cons_zero, List.set_cons_succ]
                  have hb4 := hb3.alloc hb3.size (.cells #[.int .i64 0, .int .i64 0, .int .i64 0, .int .i64 0] 48)
                  have B8_4 := Blk.new wv3 48 #[.int .i64 0, .int .i64 0, .int .i64 0, .int .i64 0]
                  have B6_4 := B6_3.alloc (.cells #[.int .i64 0, .int .i64 0, .int .i64 0, .int .i64 0] 48)
                  have B7_4 := B7_3.alloc (.cells #[.int .i64 0, .int .i64 0, .int .i64 0, .int .i64 0] 48)
                  have g8 := hb3.size
                  have n68 := B6_3.lt
                  have n78 := B7_3.lt
                  generalize wv3.alloc (.cells #[.int .i64 0, .int .i64 0, .int .i64 0, .int .i64 0] 48) = wv4 at *
                  generalize wv3.heap.size = p8 at *
                  refine storeBH (j := 13) (by kernel_rfl) rfl rfl rfl 48 (.tmp 6) (.tmp 49) rfl p6 48 _ #[.int .i64 a1, .int .i64 a2, .int .i64 a3, .int .i64 a4] rfl rfl B6_4 rfl (le_i _ _ _ _) (le_all _ _ _ _) (fun wv5 hB hG => ⟨HSK.out _ (below_grown hb4 (Nat.le_refl _) hG (by omega)), ?_⟩)
                  simp only [List.setIfInBounds_toArray, List.set_cons_zero, List.set_cons_succ]
                  have hb5 := below_grown hb4 (Nat.le_refl _) hG (by omega)
                  have B6_5 := hB
                  have B7_5 := B7_4.grown hG (fun e => by injection e with e; omega)
                  have B8_5 := B8_4.grown hG (fun e => by injection e with e; omega)
                  clear hB hG
                  refine storeBH (j := 14) (by kernel_rfl) rfl rfl rfl 48 (.tmp 7) (.tmp 50) rfl p7 48 _ #[.int .i64 b1, .int .i64 b2, .int .i64 b3, .int .i64 b4] rfl rfl B7_5 rfl (le_i _ _ _ _) (le_all _ _ _ _) (fun wv6 hB hG => ⟨HSK.out _ (below_grown hb5 (Nat.le_refl _) hG (by omega)), ?_⟩)
                  simp only [List.setIfInBounds_toArray, List.set_cons_zero, List.set_cons_succ]
                  have hb6 := below_grown hb5 (Nat.le_refl _) hG (by omega)
                  have B7_6 := hB
                  have B6_6 := B6_5.grown hG (fun e => by injection e with e; omega)
                  have B8_6 := B8_5.grown hG (fun e => by injection e with e; omega)
                  clear hB hG
                  refine storeBH (j := 15) (by kernel_rfl) rfl rfl rfl 48 (.tmp 8) (.tmp 51) rfl p8 48 _ #[.int .i64 c1, .int .i64 c2, .int .i64 c3, .int .i64 c4] rfl rfl B8_6 rfl (le_i _ _ _ _) (le_all _ _ _ _) (fun wv7 hB hG => ⟨HSK.out _ (below_grown hb6 (Nat.le_refl _) hG (by omega)), ?_⟩)
                  simp only [List.setIfInBounds_toArray, List.set_cons_zero, List.set_cons_succ]
                  have hb7 := below_grown hb6 (Nat.le_refl _) hG (by omega)
                  have B8_7 := hB
                  have B6_7 := B6_6.grown hG (fun e => by injection e with e; omega)
                  have B7_7 := B7_6.grown hG (fun e => by injection e with e; omega)
                  clear hB hG
                  refine wpAnyH_done (by kernel_rfl) ?_ _
                  go_wp2_with fail
                  go_meet
                  exact ⟨p6, p7, p8, a1, a2, a3, a4, b1, b2, b3, b4, c1, c2, c3, c4, rfl, rfl, rfl, B6_7, B7_7, B8_7, hb7⟩
                exact AllReadyH.nil
              refine readyAlloc (j := 12) rfl rfl 8 rfl 48 #[.int .i64 0, .int .i64 0, .int .i64 0, .int .i64 0] rfl zero_le4 (HSK.out _ (hb2.alloc hb2.size _)) ?_ ?_
              · simp only [Act.put, List.setIfInBounds_toArray, List.set_cons_zero, List.set_cons_succ]
                have hb3 := hb2.alloc hb2.size (.cells #[.int .i64 0, .int .i64 0, .int .i64 0, .int .i64 0] 48)
                have B8_3 := Blk.new wv2 48 #[.int .i64 0, .int .i64 0, .int .i64 0, .int .i64 0]
                have B6_3 := B6_2.alloc (.cells #[.int .i64 0, .int .i64 0, .int .i64 0, .int .i64 0] 48)
                have B7_3 := B7_2.alloc (.cells #[.int .i64 0, .int .i64 0, .int .i64 0, .int .i64 0] 48)
                have g8 := hb2.size
                have n68 := B6_2.lt
                have n78 := B7_2.lt
                generalize wv2.alloc (.cells #[.int .i64 0, .int .i64 0, .int .i64 0, .int .i64 0] 48) = wv3 at *
                generalize wv2.heap.size = p8 at *
                refine wpAnyH_ready (rs := [5]) (by kernel_rfl) (by simp) ?_
                refine readyCall (j := 5) rfl rfl (some 48) rfl 14 #[.agg (styA Ra), .int .i64 room] (run_enter Tryd.func14 (by kernel_rfl) (by kernel_rfl) _ _ rfl #[.agg (styA Ra), .int .i64 room] (by kernel_rfl) _) (Frame_b _ _ _) ?_ ?_
                · rintro e wv4 ⟨⟨a1, a2, a3, a4, b1, b2, b3, b4, c1, c2, c3, c4, rfl⟩, hx⟩
                  have hb4 := hb3.trans (hx.mono hb3.size)
                  have B6_4 := B6_3.below hx B6_3.lt
                  have B7_4 := B7_3.below hx B7_3.lt
                  have B8_4 := B8_3.below hx B8_3.lt
                  refine ⟨_, rfl, HSK.out _ hb4, ?_⟩
                  simp only [Act.put, List.setIfInBounds_toArray, List.set_cons_zero, List.set_cons_succ]
                  clear hx
                  refine take_at (i := 6) (v := (.tuple #[.agg #[.int .i64 a1, .int .i64 a2, .int .i64 a3, .int .i64 a4], .agg #[.int .i64 b1, .int .i64 b2, .int .i64 b3, .int .i64 b4], .agg #[.int .i64 c1, .int .i64 c2, .int .i64 c3, .int .i64 c4]])) (some 42) rfl rfl (by kernel_rfl) (by kernel_rfl) (by kernel_rfl) (fun _ _ _ h => h) (yieldsIf_move (by rfl) _ rfl _ rfl) (HSK.out _ hb4) ?_
                  simp only [Act.put, List.setIfInBounds_toArray, List.set_cons_zero, List.set_cons_succ]
                  refine take_at (i := 7) (v := (.agg #[.int .i64 a1, .int .i64 a2, .int .i64 a3, .int .i64 a4])) (some 49) rfl rfl (by kernel_rfl) (by kernel_rfl) (by kernel_rfl) (fun _ _ _ h => h) (Or.inl ⟨by rfl, fun W hW => ?_⟩) (HSK.out _ hb4) ?_
                  · go_simp
                  simp only [Act.put, List.setIfInBounds_toArray, List.set_cons_zero, List.set_cons_succ]
                  refine take_at (i := 8) (v := (.agg #[.int .i64 b1, .int .i64 b2, .int .i64 b3, .int .i64 b4])) (some 50) rfl rfl (by kernel_rfl) (by kernel_rfl) (by kernel_rfl) (fun _ _ _ h => h) (Or.inl ⟨by rfl, fun W hW => ?_⟩) (HSK.out _ hb4) ?_
                  · go_simp
                  simp only [Act.put, List.setIfInBounds_toArray, List.set_cons_zero, List.set_cons_succ]
                  refine take_at (i := 9) (v := (.agg #[.int .i64 c1, .int .i64 c2, .int .i64 c3, .int .i64 c4])) (some 51) rfl rfl (by kernel_rfl) (by kernel_rfl) (by kernel_rfl) (fun _ _ _ h => h) (Or.inl ⟨by rfl, fun W hW => ?_⟩) (HSK.out _ hb4) ?_
                  · go_simp
                  simp only [Act.put, List.setIfInBounds_toArray, List.set_cons_zero, List.set_cons_succ]
                  refine storeBH (j := 13) (by kernel_rfl) rfl rfl rfl 48 (.tmp 6) (.tmp 49) rfl p6 48 _ #[.int .i64 a1, .int .i64 a2, .int .i64 a3, .int .i64 a4] rfl rfl B6_4 rfl (le_i _ _ _ _) (le_all _ _ _ _) (fun wv5 hB hG => ⟨HSK.out _ (below_grown hb4 (Nat.le_refl _) hG (by omega)), ?_⟩)
                  simp only [List.setIfInBounds_toArray, List.set_cons_zero, List.set_cons_succ]
                  have hb5 := below_grown hb4 (Nat.le_refl _) hG (by omega)
                  have B6_5 := hB
                  have B7_5 := B7_4.grown hG (fun e => by injection e with e; omega)
                  have B8_5 := B8_4.grown hG (fun e => by injection e with e; omega)
                  clear hB hG
                  refine storeBH (j := 14) (by kernel_rfl) rfl rfl rfl 48 (.tmp 7) (.tmp 50) rfl p7 48 _ #[.int .i64 b1, .int .i64 b2, .int .i64 b3, .int .i64 b4] rfl rfl B7_5 rfl (le_i _ _ _ _) (le_all _ _ _ _) (fun wv6 hB hG => ⟨HSK.out _ (below_grown hb5 (Nat.le_refl _) hG (by omega)), ?_⟩)
                  simp only [List.setIfInBounds_toArray, List.set_cons_zero, List.set_cons_succ]
                  have hb6 := below_grown hb5 (Nat.le_refl _) hG (by omega)
                  have B7_6 := hB
                  have B6_6 := B6_5.grown hG (fun e => by injection e with e; omega)
                  have B8_6 := B8_5.grown hG (fun e => by injection e with e; omega)
                  clear hB hG
                  refine storeBH (j := 15) (by kernel_rfl) rfl rfl rfl 48 (.tmp 8) (.tmp 51) rfl p8 48 _ #[.int .i64 c1, .int .i64 c2, .int .i64 c3, .int .i64 c4] rfl rfl B8_6 rfl (le_i _ _ _ _) (le_all _ _ _ _) (fun wv7 hB hG => ⟨HSK.out _ (below_grown hb6 (Nat.le_refl _) hG (by omega)), ?_⟩)
                  simp only [List.setIfInBounds_toArray, List.set_cons_zero, List.set_cons_succ]
                  have hb7 := below_grown hb6 (Nat.le_refl _) hG (by omega)
                  have B8_7 := hB
                  have B6_7 := B6_6.grown hG (fun e => by injection e with e; omega)
                  have B7_7 := B7_6.grown hG (fun e => by injection e with e; omega)
                  clear hB hG
                  refine wpAnyH_done (by kernel_rfl) ?_ _
                  go_wp2_with fail
                  go_meet
                  exact ⟨p6, p7, p8, a1, a2, a3, a4, b1, b2, b3, b4, c1, c2, c3, c4, rfl, rfl, rfl, B6_7, B7_7, B8_7, hb7⟩
                exact AllReadyH.nil
              exact AllReadyH.nil
            refine readyAlloc (j := 12) rfl rfl 8 rfl 48 #[.int .i64 0, .int .i64 0, .int .i64 0, .int .i64 0] rfl zero_le4 (HSK.out _ (hb1.alloc hb1.size _)) ?_ ?_
            · simp only [Act.put, List.setIfInBounds_toArray, List.set_cons_zero, List.set_cons_succ]
              have hb2 := hb1.alloc hb1.size (.cells #[.int .i64 0, .int .i64 0, .int .i64 0, .int .i64 0] 48)
              have B8_2 := Blk.new wv1 48 #[.int .i64 0, .int .i64 0, .int .i64 0, .int .i64 0]
              have B6_2 := B6_1.alloc (.cells #[.int .i64 0, .int .i64 0, .int .i64 0, .int .i64 0] 48)
              have g8 := hb1.size
              have n68 := B6_1.lt
              generalize wv1.alloc (.cells #[.int .i64 0, .int .i64 0, .int .i64 0, .int .i64 0] 48) = wv2 at *
              generalize wv1.heap.size = p8 at *
              refine wpAnyH_ready (rs := [5, 11]) (by kernel_rfl) (by simp) ?_
              refine readyCall (j := 5) rfl rfl (some 48) rfl 14 #[.agg (styA Ra), .int .i64 room] (run_enter Tryd.func14 (by kernel_rfl) (by kernel_rfl) _ _ rfl #[.agg (styA Ra), .int .i64 room] (by kernel_rfl) _) (Frame_b _ _ _) ?_ ?_
              · rintro e wv3 ⟨⟨a1, a2, a3, a4, b1, b2, b3, b4, c1, c2, c3, c4, rfl⟩, hx⟩
                have hb3 := hb2.trans (hx.mono hb2.size)
                have B6_3 := B6_2.below hx B6_2.lt
                have B8_3 := B8_2.below hx B8_2.lt
                refine ⟨_, rfl, HSK.out _ hb3, ?_⟩
                simp only [Act.put, List.setIfInBounds_toArray, List.set_cons_zero, List.set_cons_succ]
                clear hx
                refine take_at (i := 6) (v := (.tuple #[.agg #[.int .i64 a1, .int .i64 a2, .int .i64 a3, .int .i64 a4], .agg #[.int .i64 b1, .int .i64 b2, .int .i64 b3, .int .i64 b4], .agg #[.int .i64 c1, .int .i64 c2, .int .i64 c3, .int .i64 c4]])) (some 42) rfl rfl (by kernel_rfl) (by kernel_rfl) (by kernel_rfl) (fun _ _ _ h => h) (yieldsIf_move (by rfl) _ rfl _ rfl) (HSK.out _ hb3) ?_
                simp only [Act.put, List.setIfInBounds_toArray, List.set_cons_zero, List.set_cons_succ]
                refine take_at (i := 7) (v := (.agg #[.int .i64 a1, .int .i64 a2, .int .i64 a3, .int .i64 a4])) (some 49) rfl rfl (by kernel_rfl) (by kernel_rfl) (by kernel_rfl) (fun _ _ _ h => h) (Or.inl ⟨by rfl, fun W hW => ?_⟩) (HSK.out _ hb3) ?_
                · go_simp
                simp only [Act.put, List.setIfInBounds_toArray, List.set_cons_zero, List.set_cons_succ]
                refine take_at (i := 8) (v := (.agg #[.int .i64 b1, .int .i64 b2, .int .i64 b3, .int .i64 b4])) (some 50) rfl rfl (by kernel_rfl) (by kernel_rfl) (by kernel_rfl) (fun _ _ _ h => h) (Or.inl ⟨by rfl, fun W hW => ?_⟩) (HSK.out _ hb3) ?_
                · go_simp
                simp only [Act.put, List.setIfInBounds_toArray, List.set_cons_zero, List.set_cons_succ]
                refine take_at (i := 9) (v := (.agg #[.int .i64 c1, .int .i64 c2, .int .i64 c3, .int .i64 c4])) (some 51) rfl rfl (by kernel_rfl) (by kernel_rfl) (by kernel_rfl) (fun _ _ _ h => h) (Or.inl ⟨by rfl, fun W hW => ?_⟩) (HSK.out _ hb3) ?_
                · go_simp
                simp only [Act.put, List.setIfInBounds_toArray, List.set_cons_zero, List.set_cons_succ]
                refine wpAnyH_ready (rs := [11]) (by kernel_rfl) (by simp) ?_
                refine readyAlloc (j := 11) rfl rfl 7 rfl 48 #[.int .i64 0, .int .i64 0, .int .i64 0, .int .i64 0] rfl zero_le4 (HSK.out _ (hb3.alloc hb3.size _)) ?_ ?_
                · simp only [Act.put, List.setIfInBounds_toArray, List.set_cons_zero, List.set_cons_succ]
                  have hb4 := hb3.alloc hb3.size (.cells #[.int .i64 0, .int .i64 0, .int .i64 0, .int .i64 0] 48)
                  have B7_4 := Blk.new wv3 48 #[.int .i64 0, .int .i64 0, .int .i64 0, .int .i64 0]
                  have B6_4 := B6_3.alloc (.cells #[.int .i64 0, .int .i64 0, .int .i64 0, .int .i64 0] 48)
                  have B8_4 := B8_3.alloc (.cells #[.int .i64 0, .int .i64 0, .int .i64 0, .int .i64 0] 48)
                  have g7 := hb3.size
                  have n67 := B6_3.lt
                  have n87 := B8_3.lt
                  generalize wv3.alloc (.cells #[.int .i64 0, .int .i64 0, .int .i64 0, .int .i64 0] 48) = wv4 at *
                  generalize wv3.heap.size = p7 at *
                  refine storeBH (j := 13) (by kernel_rfl) rfl rfl rfl 48 (.tmp 6) (.tmp 49) rfl p6 48 _ #[.int .i64 a1, .int .i64 a2, .int .i64 a3, .int .i64 a4] rfl rfl B6_4 rfl (le_i _ _ _ _) (le_all _ _ _ _) (fun wv5 hB hG => ⟨HSK.out _ (below_grown hb4 (Nat.le_refl _) hG (by omega)), ?_⟩)
                  simp only [List.setIfInBounds_toArray, List.set_cons_zero, List.set_cons_succ]
                  have hb5 := below_grown hb4 (Nat.le_refl _) hG (by omega)
                  have B6_5 := hB
                  have B7_5 := B7_4.grown hG (fun e => by injection e with e; omega)
                  have B8_5 := B8_4.grown hG (fun e => by injection e with e; omega)
                  clear hB hG
                  refine storeBH (j := 14) (by kernel_rfl) rfl rfl rfl 48 (.tmp 7) (.tmp 50) rfl p7 48 _ #[.int .i64 b1, .int .i64 b2, .int .i64 b3, .int .i64 b4] rfl rfl B7_5 rfl (le_i _ _ _ _) (le_all _ _ _ _) (fun wv6 hB hG => ⟨HSK.out _ (below_grown hb5 (Nat.le_refl _) hG (by omega)), ?_⟩)
                  simp only [List.setIfInBounds_toArray, List.set_cons_zero, List.set_cons_succ]
                  have hb6 := below_grown hb5 (Nat.le_refl _) hG (by omega)
                  have B7_6 := hB
                  have B6_6 := B6_5.grown hG (fun e => by injection e with e; omega)
                  have B8_6 := B8_5.grown hG (fun e => by injection e with e; omega)
                  clear hB hG
                  refine storeBH (j := 15) (by kernel_rfl) rfl rfl rfl 48 (.tmp 8) (.tmp 51) rfl p8 48 _ #[.int .i64 c1, .int .i64 c2, .int .i64 c3, .int .i64 c4] rfl rfl B8_6 rfl (le_i _ _ _ _) (le_all _ _ _ _) (fun wv7 hB hG => ⟨HSK.out _ (below_grown hb6 (Nat.le_refl _) hG (by omega)), ?_⟩)
                  simp only [List.setIfInBounds_toArray, List.set_cons_zero, List.set_cons_succ]
                  have hb7 := below_grown hb6 (Nat.le_refl _) hG (by omega)
                  have B8_7 := hB
                  have B6_7 := B6_6.grown hG (fun e => by injection e with e; omega)
                  have B7_7 := B7_6.grown hG (fun e => by injection e with e; omega)
                  clear hB hG
                  refine wpAnyH_done (by kernel_rfl) ?_ _
                  go_wp2_with fail
                  go_meet
                  exact ⟨p6, p7, p8, a1, a2, a3, a4, b1, b2, b3, b4, c1, c2, c3, c4, rfl, rfl, rfl, B6_7, B7_7, B8_7, hb7⟩
                exact AllReadyH.nil
              refine readyAlloc (j := 11) rfl rfl 7 rfl 48 #[.int .i64 0, .int .i64 0, .int .i64 0, .int .i64 0] rfl zero_le4 (HSK.out _ (hb2.alloc hb2.size _)) ?_ ?_
              · simp only [Act.put, List.setIfInBounds_toArray, List.set_cons_zero, List.set_cons_succ]
                have hb3 := hb2.alloc hb2.size (.cells #[.int .i64 0, .int .i64 0, .int .i64 0, .int .i64 0] 48)
                have B7_3 := Blk.new wv2 48 #[.int .i64 0, .int .i64 0, .int .i64 0, .int .i64 0]
                have B6_3 := B6_2.alloc (.cells #[.int .i64 0, .int .i64 0, .int .i64 0, .int .i64 0] 48)
                have B8_3 := B8_2.alloc (.cells #[.int .i64 0, .int .i64 0, .int .i64 0, .int .i64 0] 48)
                have g7 := hb2.size
                have n67 := B6_2.lt
                have n87 := B8_2.lt
                generalize wv2.alloc (.cells #[.int .i64 0, .int .i64 0, .int .i64 0, .int .i64 0] 48) = wv3 at *
                generalize wv2.heap.size = p7 at *
                refine wpAnyH_ready (rs := [5]) (by kernel_rfl) (by simp) ?_
                refine readyCall (j := 5) rfl rfl (some 48) rfl 14 #[.agg (styA Ra), .int .i64 room] (run_enter Tryd.func14 (by kernel_rfl) (by kernel_rfl) _ _ rfl #[.agg (styA Ra), .int .i64 room] (by kernel_rfl) _) (Frame_b _ _ _) ?_ ?_
                · rintro e wv4 ⟨⟨a1, a2, a3, a4, b1, b2, b3, b4, c1, c2, c3, c4, rfl⟩, hx⟩
                  have hb4 := hb3.trans (hx.mono hb3.size)
                  have B6_4 := B6_3.below hx B6_3.lt
                  have B8_4 := B8_3.below hx B8_3.lt
                  have B7_4 := B7_3.below hx B7_3.lt
                  refine ⟨_, rfl, HSK.out _ hb4, ?_⟩
                  simp only [Act.put, List.setIfInBounds_toArray, List.set_cons_zero, List.set_cons_succ]
                  clear hx
                  refine take_at (i := 6) (v := (.tuple #[.agg #[.int .i64 a1, .int .i64 a2, .int .i64 a3, .int .i64 a4], .agg #[.int .i64 b1, .int .i64 b2, .int .i64 b3, .int .i64 b4], .agg #[.int .i64 c1, .int .i64 c2, .int .i64 c3, .int .i64 c4]])) (some 42) rfl rfl (by kernel_rfl) (by kernel_rfl) (by kernel_rfl) (fun _ _ _ h => h) (yieldsIf_move (by rfl) _ rfl _ rfl) (HSK.out _ hb4) ?_
                  simp only [Act.put, List.setIfInBounds_toArray, List.set_cons_zero, List.set_cons_succ]
                  refine take_at (i := 7) (v := (.agg #[.int .i64 a1, .int .i64 a2, .int .i64 a3, .int .i64 a4])) (some 49) rfl rfl (by kernel_rfl) (by kernel_rfl) (by kernel_rfl) (fun _ _ _ h => h) (Or.inl ⟨by rfl, fun W hW => ?_⟩) (HSK.out _ hb4) ?_
                  · go_simp
                  simp only [Act.put, List.setIfInBounds_toArray, List.set_cons_zero, List.set_cons_succ]
                  refine take_at (i := 8) (v := (.agg #[.int .i64 b1, .int .i64 b2, .int .i64 b3, .int .i64 b4])) (some 50) rfl rfl (by kernel_rfl) (by kernel_rfl) (by kernel_rfl) (fun _ _ _ h => h) (Or.inl ⟨by rfl, fun W hW => ?_⟩) (HSK.out _ hb4) ?_
                  · go_simp
                  simp only [Act.put, List.setIfInBounds_toArray, List.set_cons_zero, List.set_cons_succ]
                  refine take_at (i := 9) (v := (.agg #[.int .i64 c1, .int .i64 c2, .int .i64 c3, .int .i64 c4])) (some 51) rfl rfl (by kernel_rfl) (by kernel_rfl) (by kernel_rfl) (fun _ _ _ h => h) (Or.inl ⟨by rfl, fun W hW => ?_⟩) (HSK.out _ hb4) ?_
                  · go_simp
                  simp only [Act.put, List.setIfInBounds_toArray, List.set_cons_zero, List.set_cons_succ]
                  refine storeBH (j := 13) (by kernel_rfl) rfl rfl rfl 48 (.tmp 6) (.tmp 49) rfl p6 48 _ #[.int .i64 a1, .int .i64 a2, .int .i64 a3, .int .i64 a4] rfl rfl B6_4 rfl (le_i _ _ _ _) (le_all _ _ _ _) (fun wv5 hB hG => ⟨HSK.out _ (below_grown hb4 (Nat.le_refl _) hG (by omega)), ?_⟩)
                  simp only [List.setIfInBounds_toArray, List.set_cons_zero, List.set_cons_succ]
                  have hb5 := below_grown hb4 (Nat.le_refl _) hG (by omega)
                  have B6_5 := hB
                  have B7_5 := B7_4.grown hG (fun e => by injection e with e; omega)
                  have B8_5 := B8_4.grown hG (fun e => by injection e with e; omega)
                  clear hB hG
                  refine storeBH (j := 14) (by kernel_rfl) rfl rfl rfl 48 (.tmp 7) (.tmp 50) rfl p7 48 _ #[.int .i64 b1, .int .i64 b2, .int .i64 b3, .int .i64 b4] rfl rfl B7_5 rfl (le_i _ _ _ _) (le_all _ _ _ _) (fun wv6 hB hG => ⟨HSK.out _ (below_grown hb5 (Nat.le_refl _) hG (by omega)), ?_⟩)
                  simp only [List.setIfInBounds_toArray, List.set_cons_zero, List.set_cons_succ]
                  have hb6 := below_grown hb5 (Nat.le_refl _) hG (by omega)
                  have B7_6 := hB
                  have B6_6 := B6_5.grown hG (fun e => by injection e with e; omega)
                  have B8_6 := B8_5.grown hG (fun e => by injection e with e; omega)
                  clear hB hG
                  refine storeBH (j := 15) (by kernel_rfl) rfl rfl rfl 48 (.tmp 8) (.tmp 51) rfl p8 48 _ #[.int .i64 c1, .int .i64 c2, .int .i64 c3, .int .i64 c4] rfl rfl B8_6 rfl (le_i _ _ _ _) (le_all _ _ _ _) (fun wv7 hB hG => ⟨HSK.out _ (below_grown hb6 (Nat.le_refl _) hG (by omega)), ?_⟩)
                  simp only [List.setIfInBounds_toArray, List.set_cons_zero, List.set_cons_succ]
                  have hb7 := below_grown hb6 (Nat.le_refl _) hG (by omega)
                  have B8_7 := hB
                  have B6_7 := B6_6.grown hG (fun e => by injection e with e; omega)
                  have B7_7 := B7_6.grown hG (fun e => by injection e with e; omega)
                  clear hB hG
                  refine wpAnyH_done (by kernel_rfl) ?_ _
                  go_wp2_with fail
                  go_meet
                  exact ⟨p6, p7, p8, a1, a2, a3, a4, b1, b2, b3, b4, c1, c2, c3, c4, rfl, rfl, rfl, B6_7, B7_7, B8_7, hb7⟩
                exact AllReadyH.nil
              exact AllReadyH.nil
            exact AllReadyH.nil
          refine readyAlloc (j := 11) rfl rfl 7 rfl 48 #[.int .i64 0, .int .i64 0, .int .i64 0, .int .i64 0] rfl zero_le4 (HSK.out _ (hb0.alloc hb0.size _)) ?_ ?_
          · simp only [Act.put, List.setIfInBounds_toArray, List.set_cons_zero, List.set_cons_succ]
            have hb1 := hb0.alloc hb0.size (.cells #[.int .i64 0, .int .i64 0, .int .i64 0, .int .i64 0] 48)
            have B7_1 := Blk.new wv0 48 #[.int .i64 0, .int .i64 0, .int .i64 0, .int .i64 0]
            have g7 := hb0.size
            generalize wv0.alloc (.cells #[.int .i64 0, .int .i64 0, .int .i64 0, .int .i64 0] 48) = wv1 at *
            generalize wv0.heap.size = p7 at *
            refine wpAnyH_ready (rs := [5, 10, 12]) (by kernel_rfl) (by simp) ?_
            refine readyCall (j := 5) rfl rfl (some 48) rfl 14 #[.agg (styA Ra), .int .i64 room] (run_enter Tryd.func14 (by kernel_rfl) (by kernel_rfl) _ _ rfl #[.agg (styA Ra), .int .i64 room] (by kernel_rfl) _) (Frame_b _ _ _) ?_ ?_
            · rintro e wv2 ⟨⟨a1, a2, a3, a4, b1, b2, b3, b4, c1, c2, c3, c4, rfl⟩, hx⟩
              have hb2 := hb1.trans (hx.mono hb1.size)
              have B7_2 := B7_1.below hx B7_1.lt
              refine ⟨_, rfl, HSK.out _ hb2, ?_⟩
              simp only [Act.put, List.setIfInBounds_toArray, List.set_cons_zero, List.set_cons_succ]
              clear hx
              refine take_at (i := 6) (v := (.tuple #[.agg #[.int .i64 a1, .int .i64 a2, .int .i64 a3, .int .i64 a4], .agg #[.int .i64 b1, .int .i64 b2, .int .i64 b3, .int .i64 b4], .agg #[.int .i64 c1, .int .i64 c2, .int .i64 c3, .int .i64 c4]])) (some 42) rfl rfl (by kernel_rfl) (by kernel_rfl) (by kernel_rfl) (fun _ _ _ h => h) (yieldsIf_move (by rfl) _ rfl _ rfl) (HSK.out _ hb2) ?_
              simp only [Act.put, List.setIfInBounds_toArray, List.set_cons_zero, List.set_cons_succ]
              refine take_at (i := 7) (v := (.agg #[.int .i64 a1, .int .i64 a2, .int .i64 a3, .int .i64 a4])) (some 49) rfl rfl (by kernel_rfl) (by kernel_rfl) (by kernel_rfl) (fun _ _ _ h => h) (Or.inl ⟨by rfl, fun W hW => ?_⟩) (HSK.out _ hb2) ?_
              · go_simp
              simp only [Act.put, List.setIfInBounds_toArray, List.set_cons_zero, List.set_cons_succ]
              refine take_at (i := 8) (v := (.agg #[.int .i64 b1, .int .i64 b2, .int .i64 b3, .int .i64 b4])) (some 50) rfl rfl (by kernel_rfl) (by kernel_rfl) (by kernel_rfl) (fun _ _ _ h => h) (Or.inl ⟨by rfl, fun W hW => ?_⟩) (HSK.out _ hb2) ?_
              · go_simp
              simp only [Act.put, List.setIfInBounds_toArray, List.set_cons_zero, List.set_cons_succ]
              refine take_at (i := 9) (v := (.agg #[.int .i64 c1, .int .i64 c2, .int .i64 c3, .int .i64 c4])) (some 51) rfl rfl (by kernel_rfl) (by kernel_rfl) (by kernel_rfl) (fun _ _ _ h => h) (Or.inl ⟨by rfl, fun W hW => ?_⟩) (HSK.out _ hb2) ?_
              · go_simp
              simp only [Act.put, List.setIfInBounds_toArray, List.set_cons_zero, List.set_cons_succ]
              refine wpAnyH_ready (rs := [10, 12]) (by kernel_rfl) (by simp) ?_
              refine readyAlloc (j := 10) rfl rfl 6 rfl 48 #[.int .i64 0, .int .i64 0, .int .i64 0, .int .i64 0] rfl zero_le4 (HSK.out _ (hb2.alloc hb2.size _)) ?_ ?_
              · simp only [Act.put, List.setIfInBounds_toArray, List.set_cons_zero, List.set_cons_succ]
                have hb3 := hb2.alloc hb2.size (.cells #[.int .i64 0, .int .i64 0, .int .i64 0, .int .i64 0] 48)
                have B6_3 := Blk.new wv2 48 #[.int .i64 0, .int .i64 0, .int .i64 0, .int .i64 0]
                have B7_3 := B7_2.alloc (.cells #[.int .i64 0, .int .i64 0, .int .i64 0, .int .i64 0] 48)
                have g6 := hb2.size
                have n76 := B7_2.lt
                generalize wv2.alloc (.cells #[.int .i64 0, .int .i64 0, .int .i64 0, .int .i64 0] 48) = wv3 at *
                generalize wv2.heap.size = p6 at *
                refine wpAnyH_ready (rs := [12]) (by kernel_rfl) (by simp) ?_
                refine readyAlloc (j := 12) rfl rfl 8 rfl 48 #[.int .i64 0, .int .i64 0, .int .i64 0, .int .i64 0] rfl zero_le4 (HSK.out _ (hb3.alloc hb3.size _)) ?_ ?_
                · simp only [Act.put, List.setIfInBounds_toArray, List.set_cons_zero, List.set_cons_succ]
                  have hb4 := hb3.alloc hb3.size (.cells #[.int .i64 0, .int .i64 0, .int .i64 0, .int .i64 0] 48)
                  have B8_4 := Blk.new wv3 48 #[.int .i64 0, .int .i64 0, .int .i64 0, .int .i64 0]
                  have B7_4 := B7_3.alloc (.cells #[.int .i64 0, .int .i64 0, .int .i64 0, .int .i64 0] 48)
                  have B6_4 := B6_3.alloc (.cells #[.int .i64 0, .int .i64 0, .int .i64 0, .int .i64 0] 48)
                  have g8 := hb3.size
                  have n78 := B7_3.lt
                  have n68 := B6_3.lt
                  generalize wv3.alloc (.cells #[.int .i64 0, .int .i64 0, .int .i64 0, .int .i64 0] 48) = wv4 at *
                  generalize wv3.heap.size = p8 at *
                  refine storeBH (j := 13) (by kernel_rfl) rfl rfl rfl 48 (.tmp 6) (.tmp 49) rfl p6 48 _ #[.int .i64 a1, .int .i64 a2, .int .i64 a3, .int .i64 a4] rfl rfl B6_4 rfl (le_i _ _ _ _) (le_all _ _ _ _) (fun wv5 hB hG => ⟨HSK.out _ (below_grown hb4 (Nat.le_refl _) hG (by omega)), ?_⟩)
                  simp only [List.setIfInBounds_toArray, List.set_cons_zero, List.set_cons_succ]
                  have hb5 := below_grown hb4 (Nat.le_refl _) hG (by omega)
                  have B6_5 := hB
                  have B7_5 := B7_4.grown hG (fun e => by injection e with e; omega)
                  have B8_5 := B8_4.grown hG (fun e => by injection e with e; omega)
                  clear hB hG
                  refine storeBH (j := 14) (by kernel_rfl) rfl rfl rfl 48 (.tmp 7) (.tmp 50) rfl p7 48 _ #[.int .i64 b1, .int .i64 b2, .int .i64 b3, .int .i64 b4] rfl rfl B7_5 rfl (le_i _ _ _ _) (le_all _ _ _ _) (fun wv6 hB hG => ⟨HSK.out _ (below_grown hb5 (Nat.le_refl _) hG (by omega)), ?_⟩)
                  simp only [List.setIfInBounds_toArray, List.set_cons_zero, List.set_cons_succ]
                  have hb6 := below_grown hb5 (Nat.le_refl _) hG (by omega)
                  have B7_6 := hB
                  have B6_6 := B6_5.grown hG (fun e => by injection e with e; omega)
                  have B8_6 := B8_5.grown hG (fun e => by injection e with e; omega)
                  clear hB hG
                  refine storeBH (j := 15) (by kernel_rfl) rfl rfl rfl 48 (.tmp 8) (.tmp 51) rfl p8 48 _ #[.int .i64 c1, .int .i64 c2, .int .i64 c3, .int .i64 c4] rfl rfl B8_6 rfl (le_i _ _ _ _) (le_all _ _ _ _) (fun wv7 hB hG => ⟨HSK.out _ (below_grown hb6 (Nat.le_refl _) hG (by omega)), ?_⟩)
                  simp only [List.setIfInBounds_toArray, List.set_cons_zero, List.set_cons_succ]
                  have hb7 := below_grown hb6 (Nat.le_refl _) hG (by omega)
                  have B8_7 := hB
                  have B6_7 := B6_6.grown hG (fun e => by injection e with e; omega)
                  have B7_7 := B7_6.grown hG (fun e => by injection e with e; omega)
                  clear hB hG
                  refine wpAnyH_done (by kernel_rfl) ?_ _
                  go_wp2_with fail
                  go_meet
                  exact ⟨p6, p7, p8, a1, a2, a3, a4, b1, b2, b3, b4, c1, c2, c3, c4, rfl, rfl, rfl, B6_7, B7_7, B8_7, hb7⟩
                exact AllReadyH.nil
              refine readyAlloc (j := 12) rfl rfl 8 rfl 48 #[.int .i64 0, .int .i64 0, .int .i64 0, .int .i64 0] rfl zero_le4 (HSK.out _ (hb2.alloc hb2.size _)) ?_ ?_
              · simp only [Act.put, List.setIfInBounds_toArray, List.set_cons_zero, List.set_cons_succ]
                have hb3 := hb2.alloc hb2.size (.cells #[.int .i64 0, .int .i64 0, .int .i64 0, .int .i64 0] 48)
                have B8_3 := Blk.new wv2 48 #[.int .i64 0, .int .i64 0, .int .i64 0, .int .i64 0]
                have B7_3 := B7_2.alloc (.cells #[.int .i64 0, .int .i64 0, .int .i64 0, .int .i64 0] 48)
                have g8 := hb2.size
                have n78 := B7_2.lt
                generalize wv2.alloc (.cells #[.int .i64 0, .int .i64 0, .int .i64 0, .int .i64 0] 48) = wv3 at *
                generalize wv2.heap.size = p8 at *
                refine wpAnyH_ready (rs := [10]) (by kernel_rfl) (by simp) ?_
                refine readyAlloc (j := 10) rfl rfl 6 rfl 48 #[.int .i64 0, .int .i64 0, .int .i64 0, .int .i64 0] rfl zero_le4 (HSK.out _ (hb3.alloc hb3.size _)) ?_ ?_
                · simp only [Act.put, List.setIfInBounds_toArray, List.set_cons_zero, List.set_cons_succ]
                  have hb4 := hb3.alloc hb3.size (.cells #[.int .i64 0, .int .i64 0, .int .i64 0, .int .i64 0] 48)
                  have B6_4 := Blk.new wv3 48 #[.int .i64 0, .int .i64 0, .int .i64 0, .int .i64 0]
                  have B7_4 := B7_3.alloc (.cells #[.int .i64 0, .int .i64 0, .int .i64 0, .int .i64 0] 48)
                  have B8_4 := B8_3.alloc (.cells #[.int .i64 0, .int .i64 0, .int .i64 0, .int .i64 0] 48)
                  have g6 := hb3.size
                  have n76 := B7_3.lt
                  have n86 := B8_3.lt
                  generalize wv3.alloc (.cells #[.int .i64 0, .int .i64 0, .int .i64 0, .int .i64 0] 48) = wv4 at *
                  generalize wv3.heap.size = p6 at *
                  refine storeBH (j := 13) (by kernel_rfl) rfl rfl rfl 48 (.tmp 6) (.tmp 49) rfl p6 48 _ #[.int .i64 a1, .int .i64 a2, .int .i64 a3, .int .i64 a4] rfl rfl B6_4 rfl (le_i _ _ _ _) (le_all _ _ _ _) (fun wv5 hB hG => ⟨HSK.out _ (below_grown hb4 (Nat.le_refl _) hG (by omega)), ?_⟩)
                  simp only [List.setIfInBounds_toArray, List.set_cons_zero, List.set_cons_succ]
                  have hb5 := below_grown hb4 (Nat.le_refl _) hG (by omega)
                  have B6_5 := hB
                  have B7_5 := B7_4.grown hG (fun e => by injection e with e; omega)
                  have B8_5 := B8_4.grown hG (fun e => by injection e with e; omega)
                  clear hB hG
                  refine storeBH (j := 14) (by kernel_rfl) rfl rfl rfl 48 (.tmp 7) (.tmp 50) rfl p7 48 _ #[.int .i64 b1, .int .i64 b2, .int .i64 b3, .int .i64 b4] rfl rfl B7_5 rfl (le_i _ _ _ _) (le_all _ _ _ _) (fun wv6 hB hG => ⟨HSK.out _ (below_grown hb5 (Nat.le_refl _) hG (by omega)), ?_⟩)
                  simp only [List.setIfInBounds_toArray, List.set_cons_zero, List.set_cons_succ]
                  have hb6 := below_grown hb5 (Nat.le_refl _) hG (by omega)
                  have B7_6 := hB
                  have B6_6 := B6_5.grown hG (fun e => by injection e with e; omega)
                  have B8_6 := B8_5.grown hG (fun e => by injection e with e; omega)
                  clear hB hG
                  refine storeBH (j := 15) (by kernel_rfl) rfl rfl rfl 48 (.tmp 8) (.tmp 51) rfl p8 48 _ #[.int .i64 c1, .int .i64 c2, .int .i64 c3, .int .i64 c4] rfl rfl B8_6 rfl (le_i _ _ _ _) (le_all _ _ _ _) (fun wv7 hB hG => ⟨HSK.out _ (below_grown hb6 (Nat.le_refl _) hG (by omega)), ?_⟩)
                  simp only [List.setIfInBounds_toArray, List.set_cons_zero, List.set_cons_succ]
                  have hb7 := below_grown hb6 (Nat.le_refl _) hG (by omega)
                  have B8_7 := hB
                  have B6_7 := B6_6.grown hG (fun e => by injection e with e; omega)
                  have B7_7 := B7_6.grown hG (fun e => by injection e with e; omega)
                  clear hB hG
                  refine wpAnyH_done (by kernel_rfl) ?_ _
                  go_wp2_with fail
                  go_meet
                  exact ⟨p6, p7, p8, a1, a2, a3, a4, b1, b2, b3, b4, c1, c2, c3, c4, rfl, rfl, rfl, B6_7, B7_7, B8_7, hb7⟩
                exact AllReadyH.nil
              exact AllReadyH.nil
            refine readyAlloc (j := 10) rfl rfl 6 rfl 48 #[.int .i64 0, .int .i64 0, .int .i64 0, .int .i64 0] rfl zero_le4 (HSK.out _ (hb1.alloc hb1.size _)) ?_ ?_
            · simp only [Act.put, List.setIfInBounds_toArray, List.set_cons_zero, List.set_cons_succ]
              have hb2 := hb1.alloc hb1.size (.cells #[.int .i64 0, .int .i64 0, .int .i64 0, .int .i64 0] 48)
              have B6_2 := Blk.new wv1 48 #[.int .i64 0, .int .i64 0, .int .i64 0, .int .i64 0]
              have B7_2 := B7_1.alloc (.cells #[.int .i64 0, .int .i64 0, .int .i64 0, .int .i64 0] 48)
              have g6 := hb1.size
              have n76 := B7_1.lt
              generalize wv1.alloc (.cells #[.int .i64 0, .int .i64 0, .int .i64 0, .int .i64 0] 48) = wv2 at *
              generalize wv1.heap.size = p6 at *
              refine wpAnyH_ready (rs := [5, 12]) (by kernel_rfl) (by simp) ?_
              refine readyCall (j := 5) rfl rfl (some 48) rfl 14 #[.agg (styA Ra), .int .i64 room] (run_enter Tryd.func14 (by kernel_rfl) (by kernel_rfl) _ _ rfl #[.agg (styA Ra), .int .i64 room] (by kernel_rfl) _) (Frame_b _ _ _) ?_ ?_
              · rintro e wv3 ⟨⟨a1, a2, a3, a4, b1, b2, b3, b4, c1, c2, c3, c4, rfl⟩, hx⟩
                have hb3 := hb2.trans (hx.mono hb2.size)
                have B7_3 := B7_2.below hx B7_2.lt
                have B6_3 := B6_2.below hx B6_2.lt
                refine ⟨_, rfl, HSK.out _ hb3, ?_⟩
                simp only [Act.put, List.setIfInBounds_toArray, List.set_cons_zero, List.set_cons_succ]
                clear hx
                refine take_at (i := 6) (v := (.tuple #[.agg #[.int .i64 a1, .int .i64 a2, .int .i64 a3, .int .i64 a4], .agg #[.int .i64 b1, .int .i64 b2, .int .i64 b3, .int .i64 b4], .agg #[.int .i64 c1, .int .i64 c2, .int .i64 c3, .int .i64 c4]])) (some 42) rfl rfl (by kernel_rfl) (by kernel_rfl) (by kernel_rfl) (fun _ _ _ h => h) (yieldsIf_move (by rfl) _ rfl _ rfl) (HSK.out _ hb3) ?_
                simp only [Act.put, List.setIfInBounds_toArray, List.set_cons_zero, List.set_cons_succ]
                refine take_at (i := 7) (v := (.agg #[.int .i64 a1, .int .i64 a2, .int .i64 a3, .int .i64 a4])) (some 49) rfl rfl (by kernel_rfl) (by kernel_rfl) (by kernel_rfl) (fun _ _ _ h => h) (Or.inl ⟨by rfl, fun W hW => ?_⟩) (HSK.out _ hb3) ?_
                · go_simp
                simp only [Act.put, List.setIfInBounds_toArray, List.set_cons_zero, List.set_cons_succ]
                refine take_at (i := 8) (v := (.agg #[.int .i64 b1, .int .i64 b2, .int .i64 b3, .int .i64 b4])) (some 50) rfl rfl (by kernel_rfl) (by kernel_rfl) (by kernel_rfl) (fun _ _ _ h => h) (Or.inl ⟨by rfl, fun W hW => ?_⟩) (HSK.out _ hb3) ?_
                · go_simp
                simp only [Act.put, List.setIfInBounds_toArray, List.set_cons_zero, List.set_cons_succ]
                refine take_at (i := 9) (v := (.agg #[.int .i64 c1, .int .i64 c2, .int .i64 c3, .int .i64 c4])) (some 51) rfl rfl (by kernel_rfl) (by kernel_rfl) (by kernel_rfl) (fun _ _ _ h => h) (Or.inl ⟨by rfl, fun W hW => ?_⟩) (HSK.out _ hb3) ?_
                · go_simp
                simp only [Act.put, List.setIfInBounds_toArray, List.set_cons_zero, List.set_cons_succ]
                refine wpAnyH_ready (rs := [12]) (by kernel_rfl) (by simp) ?_
                refine readyAlloc (j := 12) rfl rfl 8 rfl 48 #[.int .i64 0, .int .i64 0, .int .i64 0, .int .i64 0] rfl zero_le4 (HSK.out _ (hb3.alloc hb3.size _)) ?_ ?_
                · simp only [Act.put, List.setIfInBounds_toArray, List.set_cons_zero, List.set_cons_succ]
                  have hb4 := hb3.alloc hb3.size (.cells #[.int .i64 0, .int .i64 0, .int .i64 0, .int .i64 0] 48)
                  have B8_4 := Blk.new wv3 48 #[.int .i64 0, .int .i64 0, .int .i64 0, .int .i64 0]
                  have B7_4 := B7_3.alloc (.cells #[.int .i64 0, .int .i64 0, .int .i64 0, .int .i64 0] 48)
                  have B6_4 := B6_3.alloc (.cells #[.int .i64 0, .int .i64 0, .int .i64 0, .int .i64 0] 48)
                  have g8 := hb3.size
                  have n78 := B7_3.lt
                  have n68 := B6_3.lt
                  generalize wv3.alloc (.cells #[.int .i64 0, .int .i64 0, .int .i64 0, .int .i64 0] 48) = wv4 at *
                  generalize wv3.heap.size = p8 at *
                  refine storeBH (j := 13) (by kernel_rfl) rfl rfl rfl 48 (.tmp 6) (.tmp 49) rfl p6 48 _ #[.int .i64 a1, .int .i64 a2, .int .i64 a3, .int .i64 a4] rfl rfl B6_4 rfl (le_i _ _ _ _) (le_all _ _ _ _) (fun wv5 hB hG => ⟨HSK.out _ (below_grown hb4 (Nat.le_refl _) hG (by omega)), ?_⟩)
                  simp only [List.setIfInBounds_toArray, List.set_cons_zero, List.set_cons_succ]
                  have hb5 := below_grown hb4 (Nat.le_refl _) hG (by omega)
                  have B6_5 := hB
                  have B7_5 := B7_4.grown hG (fun e => by injection e with e; omega)
                  have B8_5 := B8_4.grown hG (fun e => by injection e with e; omega)
                  clear hB hG
                  refine storeBH (j := 14) (by kernel_rfl) rfl rfl rfl 48 (.tmp 7) (.tmp 50) rfl p7 48 _ #[.int .i64 b1, .int .i64 b2, .int .i64 b3, .int .i64 b4] rfl rfl B7_5 rfl (le_i _ _ _ _) (le_all _ _ _ _) (fun wv6 hB hG => ⟨HSK.out _ (below_grown hb5 (Nat.le_refl _) hG (by omega)), ?_⟩)
                  simp only [List.setIfInBounds_toArray, List.set_cons_zero, List.set_cons_succ]
                  have hb6 := below_grown hb5 (Nat.le_refl _) hG (by omega)
                  have B7_6 := hB
                  have B6_6 := B6_5.grown hG (fun e => by injection e with e; omega)
                  have B8_6 := B8_5.grown hG (fun e => by injection e with e; omega)
                  clear hB hG
                  refine storeBH (j := 15) (by kernel_rfl) rfl rfl rfl 48 (.tmp 8) (.tmp 51) rfl p8 48 _ #[.int .i64 c1, .int .i64 c2, .int .i64 c3, .int .i64 c4] rfl rfl B8_6 rfl (le_i _ _ _ _) (le_all _ _ _ _) (fun wv7 hB hG => ⟨HSK.out _ (below_grown hb6 (Nat.le_refl _) hG (by omega)), ?_⟩)
                  simp only [List.setIfInBounds_toArray, List.set_cons_zero, List.set_cons_succ]
                  have hb7 := below_grown hb6 (Nat.le_refl _) hG (by omega)
                  have B8_7 := hB
                  have B6_7 := B6_6.grown hG (fun e => by injection e with e; omega)
                  have B7_7 := B7_6.grown hG (fun e => by injection e with e; omega)
                  clear hB hG
                  refine wpAnyH_done (by kernel_rfl) ?_ _
                  go_wp2_with fail
                  go_meet
                  exact ⟨p6, p7, p8, a1, a2, a3, a4, b1, b2, b3, b4, c1, c2, c3, c4, rfl, rfl, rfl, B6_7, B7_7, B8_7, hb7⟩
                exact AllReadyH.nil
              refine readyAlloc (j := 12) rfl rfl 8 rfl 48 #[.int .i64 0, .int .i64 0, .int .i64 0, .int .i64 0] rfl zero_le4 (HSK.out _ (hb2.alloc hb2.size _)) ?_ ?_
              · simp only [Act.put, List.setIfInBounds_toArray, List.set_cons_zero, List.set_cons_succ]
                have hb3 := hb2.alloc hb2.size (.cells #[.int .i64 0, .int .i64 0, .int .i64 0, .int .i64 0] 48)
                have B8_3 := Blk.new wv2 48 #[.int .i64 0, .int .i64 0, .int .i64 0, .int .i64 0]
                have B7_3 := B7_2.alloc (.cells #[.int .i64 0, .int .i64 0, .int .i64 0, .int .i64 0] 48)
                have B6_3 := B6_2.alloc (.cells #[.int .i64 0, .int .i64 0, .int .i64 0, .int .i64 0] 48)
                have g8 := hb2.size
                have n78 := B7_2.lt
                have n68 := B6_2.lt
                generalize wv2.alloc (.cells #[.int .i64 0, .int .i64 0, .int .i64 0, .int .i64 0] 48) = wv3 at *
                generalize wv2.heap.size = p8 at *
                refine wpAnyH_ready (rs := [5]) (by kernel_rfl) (by simp) ?_
                refine readyCall (j := 5) rfl rfl (some 48) rfl 14 #[.agg (styA Ra), .int .i64 room] (run_enter Tryd.func14 (by kernel_rfl) (by kernel_rfl) _ _ rfl #[.agg (styA Ra), .int .i64 room] (by kernel_rfl) _) (Frame_b _ _ _) ?_ ?_
                · rintro e wv4 ⟨⟨a1, a2, a3, a4, b1, b2, b3, b4, c1, c2, c3, c4, rfl⟩, hx⟩
                  have hb4 := hb3.trans (hx.mono hb3.size)
                  have B7_4 := B7_3.below hx B7_3.lt
                  have B6_4 := B6_3.below hx B6_3.lt
                  have B8_4 := B8_3.below hx B8_3.lt
                  refine ⟨_, rfl, HSK.out _ hb4, ?_⟩
                  simp only [Act.put, List.setIfInBounds_toArray, List.set_cons_zero, List.set_cons_succ]
                  clear hx
                  refine take_at (i := 6) (v := (.tuple #[.agg #[.int .i64 a1, .int .i64 a2, .int .i64 a3, .int .i64 a4], .agg #[.int .i64 b1, .int .i64 b2, .int .i64 b3, .int .i64 b4], .agg #[.int .i64 c1, .int .i64 c2, .int .i64 c3, .int .i64 c4]])) (some 42) rfl rfl (by kernel_rfl) (by kernel_rfl) (by kernel_rfl) (fun _ _ _ h => h) (yieldsIf_move (by rfl) _ rfl _ rfl) (HSK.out _ hb4) ?_
                  simp only [Act.put, List.setIfInBounds_toArray, List.set_cons_zero, List.set_cons_succ]
                  refine take_at (i := 7) (v := (.agg #[.int .i64 a1, .int .i64 a2, .int .i64 a3, .int .i64 a4])) (some 49) rfl rfl (by kernel_rfl) (by kernel_rfl) (by kernel_rfl) (fun _ _ _ h => h) (Or.inl ⟨by rfl, fun W hW => ?_⟩) (HSK.out _ hb4) ?_
                  · go_simp
                  simp only [Act.put, List.setIfInBounds_toArray, List.set_cons_zero, List.set_cons_succ]
                  refine take_at (i := 8) (v := (.agg #[.int .i64 b1, .int .i64 b2, .int .i64 b3, .int .i64 b4])) (some 50) rfl rfl (by kernel_rfl) (by kernel_rfl) (by kernel_rfl) (fun _ _ _ h => h) (Or.inl ⟨by rfl, fun W hW => ?_⟩) (HSK.out _ hb4) ?_
                  · go_simp
                  simp only [Act.put, List.setIfInBounds_toArray, List.set_cons_zero, List.set_cons_succ]
                  refine take_at (i := 9) (v := (.agg #[.int .i64 c1, .int .i64 c2, .int .i64 c3, .int .i64 c4])) (some 51) rfl rfl (by kernel_rfl) (by kernel_rfl) (by kernel_rfl) (fun _ _ _ h => h) (Or.inl ⟨by rfl, fun W hW => ?_⟩) (HSK.out _ hb4) ?_
                  · go_simp
                  simp only [Act.put, List.setIfInBounds_toArray, List.set_cons_zero, List.set_cons_succ]
                  refine storeBH (j := 13) (by kernel_rfl) rfl rfl rfl 48 (.tmp 6) (.tmp 49) rfl p6 48 _ #[.int .i64 a1, .int .i64 a2, .int .i64 a3, .int .i64 a4] rfl rfl B6_4 rfl (le_i _ _ _ _) (le_all _ _ _ _) (fun wv5 hB hG => ⟨HSK.out _ (below_grown hb4 (Nat.le_refl _) hG (by omega)), ?_⟩)
                  simp only [List.setIfInBounds_toArray, List.set_cons_zero, List.set_cons_succ]
                  have hb5 := below_grown hb4 (Nat.le_refl _) hG (by omega)
                  have B6_5 := hB
                  have B7_5 := B7_4.grown hG (fun e => by injection e with e; omega)
                  have B8_5 := B8_4.grown hG (fun e => by injection e with e; omega)
                  clear hB hG
                  refine storeBH (j := 14) (by kernel_rfl) rfl rfl rfl 48 (.tmp 7) (.tmp 50) rfl p7 48 _ #[.int .i64 b1, .int .i64 b2, .int .i64 b3, .int .i64 b4] rfl rfl B7_5 rfl (le_i _ _ _ _) (le_all _ _ _ _) (fun wv6 hB hG => ⟨HSK.out _ (below_grown hb5 (Nat.le_refl _) hG (by omega)), ?_⟩)
                  simp only [List.setIfInBounds_toArray, List.set_cons_zero, List.set_cons_succ]
                  have hb6 := below_grown hb5 (Nat.le_refl _) hG (by omega)
                  have B7_6 := hB
                  have B6_6 := B6_5.grown hG (fun e => by injection e with e; omega)
                  have B8_6 := B8_5.grown hG (fun e => by injection e with e; omega)
                  clear hB hG
                  refine storeBH (j := 15) (by kernel_rfl) rfl rfl rfl 48 (.tmp 8) (.tmp 51) rfl p8 48 _ #[.int .i64 c1, .int .i64 c2, .int .i64 c3, .int .i64 c4] rfl rfl B8_6 rfl (le_i _ _ _ _) (le_all _ _ _ _) (fun wv7 hB hG => ⟨HSK.out _ (below_grown hb6 (Nat.le_refl _) hG (by omega)), ?_⟩)
                  simp only [List.setIfInBounds_toArray, List.set_cons_zero, List.set_cons_succ]
                  have hb7 := below_grown hb6 (Nat.le_refl _) hG (by omega)
                  have B8_7 := hB
                  have B6_7 := B6_6.grown hG (fun e => by injection e with e; omega)
                  have B7_7 := B7_6.grown hG (fun e => by injection e with e; omega)
                  clear hB hG
                  refine wpAnyH_done (by kernel_rfl) ?_ _
                  go_wp2_with fail
                  go_meet
                  exact ⟨p6, p7, p8, a1, a2, a3, a4, b1, b2, b3, b4, c1, c2, c3, c4, rfl, rfl, rfl, B6_7, B7_7, B8_7, hb7⟩
                exact AllReadyH.nil
              exact AllReadyH.nil
            refine readyAlloc (j := 12) rfl rfl 8 rfl 48 #[.int .i64 0, .int .i64 0, .int .i64 0, .int .i64 0] rfl zero_le4 (HSK.out _ (hb1.alloc hb1.size _)) ?_ ?_
            · simp only [Act.put, List.setIfInBounds_toArray, List.set_cons_zero, List.set_cons_succ]
              have hb2 := hb1.alloc hb1.size (.cells #[.int .i64 0, .int .i64 0, .int .i64 0, .int .i64 0] 48)
              have B8_2 := Blk.new wv1 48 #[.int .i64 0, .int .i64 0, .int .i64 0, .int .i64 0]
              have B7_2 := B7_1.alloc (.cells #[.int .i64 0, .int .i64 0, .int .i64 0, .int .i64 0] 48)
              have g8 := hb1.size
              have n78 := B7_1.lt
              generalize wv1.alloc (.cells #[.int .i64 0, .int .i64 0, .int .i64 0, .int .i64 0] 48) = wv2 at *
              generalize wv1.heap.size = p8 at *
              refine wpAnyH_ready (rs := [5, 10]) (by kernel_rfl) (by simp) ?_
              refine readyCall (j := 5) rfl rfl (some 48) rfl 14 #[.agg (styA Ra), .int .i64 room] (run_enter Tryd.func14 (by kernel_rfl) (by kernel_rfl) _ _ rfl #[.agg (styA Ra), .int .i64 room] (by kernel_rfl) _) (Frame_b _ _ _) ?_ ?_
              · rintro e wv3 ⟨⟨a1, a2, a3, a4, b1, b2, b3, b4, c1, c2, c3, c4, rfl⟩, hx⟩
                have hb3 := hb2.trans (hx.mono hb2.size)
                have B7_3 := B7_2.below hx B7_2.lt
                have B8_3 := B8_2.below hx B8_2.lt
                refine ⟨_, rfl, HSK.out _ hb3, ?_⟩
                simp only [Act.put, List.setIfInBounds_toArray, List.set_cons_zero, List.set_cons_succ]
                clear hx
                refine take_at (i := 6) (v := (.tuple #[.agg #[.int .i64 a1, .int .i64 a2, .int .i64 a3, .int .i64 a4], .agg #[.int .i64 b1, .int .i64 b2, .int .i64 b3, .int .i64 b4], .agg #[.int .i64 c1, .int .i64 c2, .int .i64 c3, .int .i64 c4]])) (some 42) rfl rfl (by kernel_rfl) (by kernel_rfl) (by kernel_rfl) (fun _ _ _ h => h) (yieldsIf_move (by rfl) _ rfl _ rfl) (HSK.out _ hb3) ?_
                simp only [Act.put, List.setIfInBounds_toArray, List.set_cons_zero, List.set_cons_succ]
                refine take_at (i := 7) (v := (.agg #[.int .i64 a1, .int .i64 a2, .int .i64 a3, .int .i64 a4])) (some 49) rfl rfl (by kernel_rfl) (by kernel_rfl) (by kernel_rfl) (fun _ _ _ h => h) (Or.inl ⟨by rfl, fun W hW => ?_⟩) (HSK.out _ hb3) ?_
                · go_simp
                simp only [Act.put, List.setIfInBounds_toArray, List.set_cons_zero, List.set_cons_succ]
                refine take_at (i := 8) (v := (.agg #[.int .i64 b1, .int .i64 b2, .int .i64 b3, .int .i64 b4])) (some 50) rfl rfl (by kernel_rfl) (by kernel_rfl) (by kernel_rfl) (fun _ _ _ h => h) (Or.inl ⟨by rfl, fun W hW => ?_⟩) (HSK.out _ hb3) ?_
                · go_simp
                simp only [Act.put, List.setIfInBounds_toArray, List.set_cons_zero, List.set_cons_succ]
                refine take_at (i := 9) (v := (.agg #[.int .i64 c1, .int .i64 c2, .int .i64 c3, .int .i64 c4])) (some 51) rfl rfl (by kernel_rfl) (by kernel_rfl) (by kernel_rfl) (fun _ _ _ h => h) (Or.inl ⟨by rfl, fun W hW => ?_⟩) (HSK.out _ hb3) ?_
                · go_simp
                simp only [Act.put, List.setIfInBounds_toArray, List.set_cons_zero, List.set_cons_succ]
                refine wpAnyH_ready (rs := [10]) (by kernel_rfl) (by simp) ?_
                refine readyAlloc (j := 10) rfl rfl 6 rfl 48 #[.int .i64 0, .int .i64 0, .int .i64 0, .int .i64 0] rfl zero_le4 (HSK.out _ (hb3.alloc hb3.size _)) ?_ ?_
                · simp only [Act.put, List.setIfInBounds_toArray, List.set_cons_zero, List.set_cons_succ]
                  have hb4 := hb3.alloc hb3.size (.cells #[.int .i64 0, .int .i64 0, .int .i64 0, .int .i64 0] 48)
                  have B6_4 := Blk.new wv3 48 #[.int .i64 0, .int .i64 0, .int .i64 0, .int .i64 0]
                  have B7_4 := B7_3.alloc (.cells #[.int .i64 0, .int .i64 0, .int .i64 0, .int .i64 0] 48)
                  have B8_4 := B8_3.alloc (.cells #[.int .i64 0, .int .i64 0, .int .i64 0, .int .i64 0] 48)
                  have g6 := hb3.size
                  have n76 := B7_3.lt
                  have n86 := B8_3.lt
                  generalize wv3.alloc (.cells #[.int .i64 0, .int .i64 0, .int .i64 0, .int .i64 0] 48) = wv4 at *
                  generalize wv3.heap.size = p6 at *
                  refine storeBH (j := 13) (by kernel_rfl) rfl rfl rfl 48 (.tmp 6) (.tmp 49) rfl p6 48 _ #[.int .i64 a1, .int .i64 a2, .int .i64 a3, .int .i64 a4] rfl rfl B6_4 rfl (le_i _ _ _ _) (le_all _ _ _ _) (fun wv5 hB hG => ⟨HSK.out _ (below_grown hb4 (Nat.le_refl _) hG (by omega)), ?_⟩)
                  simp only [List.setIfInBounds_toArray, List.set_cons_zero, List.set_cons_succ]
                  have hb5 := below_grown hb4 (Nat.le_refl _) hG (by omega)
                  have B6_5 := hB
                  have B7_5 := B7_4.grown hG (fun e => by injection e with e; omega)
                  have B8_5 := B8_4.grown hG (fun e => by injection e with e; omega)
                  clear hB hG
                  refine storeBH (j := 14) (by kernel_rfl) rfl rfl rfl 48 (.tmp 7) (.tmp 50) rfl p7 48 _ #[.int .i64 b1, .int .i64 b2, .int .i64 b3, .int .i64 b4] rfl rfl B7_5 rfl (le_i _ _ _ _) (le_all _ _ _ _) (fun wv6 hB hG => ⟨HSK.out _ (below_grown hb5 (Nat.le_refl _) hG (by omega)), ?_⟩)
                  simp only [List.setIfInBounds_toArray, List.set_cons_zero, List.set_cons_succ]
                  have hb6 := below_grown hb5 (Nat.le_refl _) hG (by omega)
                  have B7_6 := hB
                  have B6_6 := B6_5.grown hG (fun e => by injection e with e; omega)
                  have B8_6 := B8_5.grown hG (fun e => by injection e with e; omega)
                  clear hB hG
                  refine storeBH (j := 15) (by kernel_rfl) rfl rfl rfl 48 (.tmp 8) (.tmp 51) rfl p8 48 _ #[.int .i64 c1, .int .i64 c2, .int .i64 c3, .int .i64 c4] rfl rfl B8_6 rfl (le_i _ _ _ _) (le_all _ _ _ _) (fun wv7 hB hG => ⟨HSK.out _ (below_grown hb6 (Nat.le_refl _) hG (by omega)), ?_⟩)
                  simp only [List.setIfInBounds_toArray, List.set_cons_zero, List.set_cons_succ]
                  have hb7 := below_grown hb6 (Nat.le_refl _) hG (by omega)
                  have B8_7 := hB
                  have B6_7 := B6_6.grown hG (fun e => by injection e with e; omega)
                  have B7_7 := B7_6.grown hG (fun e => by injection e with e; omega)
                  clear hB hG
                  refine wpAnyH_done (by kernel_rfl) ?_ _
                  go_wp2_with fail
                  go_meet
                  exact ⟨p6, p7, p8, a1, a2, a3, a4, b1, b2, b3, b4, c1, c2, c3, c4, rfl, rfl, rfl, B6_7, B7_7, B8_7, hb7⟩
                exact AllReadyH.nil
              refine readyAlloc (j := 10) rfl rfl 6 rfl 48 #[.int .i64 0, .int .i64 0, .int .i64 0, .int .i64 0] rfl zero_le4 (HSK.out _ (hb2.alloc hb2.size _)) ?_ ?_
              · simp only [Act.put, List.setIfInBounds_toArray, List.set_cons_zero, List.set_cons_succ]
                have hb3 := hb2.alloc hb2.size (.cells #[.int .i64 0, .int .i64 0, .int .i64 0, .int .i64 0] 48)
                have B6_3 := Blk.new wv2 48 #[.int .i64 0, .int .i64 0, .int .i64 0, .int .i64 0]
                have B7_3 := B7_2.alloc (.cells #[.int .i64 0, .int .i64 0, .int .i64 0, .int .i64 0] 48)
                have B8_3 := B8_2.alloc (.cells #[.int .i64 0, .int .i64 0, .int .i64 0, .int .i64 0] 48)
                have g6 := hb2.size
                have n76 := B7_2.lt
                have n86 := B8_2.lt
                generalize wv2.alloc (.cells #[.int .i64 0, .int .i64 0, .int .i64 0, .int .i64 0] 48) = wv3 at *
                generalize wv2.heap.size = p6 at *
                refine wpAnyH_ready (rs := [5]) (by kernel_rfl) (by simp) ?_
                refine readyCall (j := 5) rfl rfl (some 48) rfl 14 #[.agg (styA Ra), .int .i64 room] (run_enter Tryd.func14 (by kernel_rfl) (by kernel_rfl) _ _ rfl #[.agg (styA Ra), .int .i64 room] (by kernel_rfl) _) (Frame_b _ _ _) ?_ ?_
                · rintro e wv4 ⟨⟨a1, a2, a3, a4, b1, b2, b3, b4, c1, c2, c3, c4, rfl⟩, hx⟩
                  have hb4 := hb3.trans (hx.mono hb3.size)
                  have B7_4 := B7_3.below hx B7_3.lt
                  have B8_4 := B8_3.below hx B8_3.lt
                  have B6_4 := B6_3.below hx B6_3.lt
                  refine ⟨_, rfl, HSK.out _ hb4, ?_⟩
                  simp only [Act.put, List.setIfInBounds_toArray, List.set_cons_zero, List.set_cons_succ]
                  clear hx
                  refine take_at (i := 6) (v := (.tuple #[.agg #[.int .i64 a1, .int .i64 a2, .int .i64 a3, .int .i64 a4], .agg #[.int .i64 b1, .int .i64 b2, .int .i64 b3, .int .i64 b4], .agg #[.int .i64 c1, .int .i64 c2, .int .i64 c3, .int .i64 c4]])) (some 42) rfl rfl (by kernel_rfl) (by kernel_rfl) (by kernel_rfl) (fun _ _ _ h => h) (yieldsIf_move (by rfl) _ rfl _ rfl) (HSK.out _ hb4) ?_
                  simp only [Act.put, List.setIfInBounds_toArray, List.set_cons_zero, List.set_cons_succ]
                  refine take_at (i := 7) (v := (.agg #[.int .i64 a1, .int .i64 a2, .int .i64 a3, .int .i64 a4])) (some 49) rfl rfl (by kernel_rfl) (by kernel_rfl) (by kernel_rfl) (fun _ _ _ h => h) (Or.inl ⟨by rfl, fun W hW => ?_⟩) (HSK.out _ hb4) ?_
                  · go_simp
                  simp only [Act.put, List.setIfInBounds_toArray, List.set_cons_zero, List.set_cons_succ]
                  refine take_at (i := 8) (v := (.agg #[.int .i64 b1, .int .i64 b2, .int .i64 b3, .int .i64 b4])) (some 50) rfl rfl (by kernel_rfl) (by kernel_rfl) (by kernel_rfl) (fun _ _ _ h => h) (Or.inl ⟨by rfl, fun W hW => ?_⟩) (HSK.out _ hb4) ?_
                  · go_simp
                  simp only [Act.put, List.setIfInBounds_toArray, List.set_cons_zero, List.set_cons_succ]
                  refine take_at (i := 9) (v := (.agg #[.int .i64 c1, .int .i64 c2, .int .i64 c3, .int .i64 c4])) (some 51) rfl rfl (by kernel_rfl) (by kernel_rfl) (by kernel_rfl) (fun _ _ _ h => h) (Or.inl ⟨by rfl, fun W hW => ?_⟩) (HSK.out _ hb4) ?_
                  · go_simp
                  simp only [Act.put, List.setIfInBounds_toArray, List.set_cons_zero, List.set_cons_succ]
                  refine storeBH (j := 13) (by kernel_rfl) rfl rfl rfl 48 (.tmp 6) (.tmp 49) rfl p6 48 _ #[.int .i64 a1, .int .i64 a2, .int .i64 a3, .int .i64 a4] rfl rfl B6_4 rfl (le_i _ _ _ _) (le_all _ _ _ _) (fun wv5 hB hG => ⟨HSK.out _ (below_grown hb4 (Nat.le_refl _) hG (by omega)), ?_⟩)
                  simp only [List.setIfInBounds_toArray, List.set_cons_zero, List.set_cons_succ]
                  have hb5 := below_grown hb4 (Nat.le_refl _) hG (by omega)
                  have B6_5 := hB
                  have B7_5 := B7_4.grown hG (fun e => by injection e with e; omega)
                  have B8_5 := B8_4.grown hG (fun e => by injection e with e; omega)
                  clear hB hG
                  refine storeBH (j := 14) (by kernel_rfl) rfl rfl rfl 48 (.tmp 7) (.tmp 50) rfl p7 48 _ #[.int .i64 b1, .int .i64 b2, .int .i64 b3, .int .i64 b4] rfl rfl B7_5 rfl (le_i _ _ _ _) (le_all _ _ _ _) (fun wv6 hB hG => ⟨HSK.out _ (below_grown hb5 (Nat.le_refl _) hG (by omega)), ?_⟩)
                  simp only [List.setIfInBounds_toArray, List.set_cons_zero, List.set_cons_succ]
                  have hb6 := below_grown hb5 (Nat.le_refl _) hG (by omega)
                  have B7_6 := hB
                  have B6_6 := B6_5.grown hG (fun e => by injection e with e; omega)
                  have B8_6 := B8_5.grown hG (fun e => by injection e with e; omega)
                  clear hB hG
                  refine storeBH (j := 15) (by kernel_rfl) rfl rfl rfl 48 (.tmp 8) (.tmp 51) rfl p8 48 _ #[.int .i64 c1, .int .i64 c2, .int .i64 c3, .int .i64 c4] rfl rfl B8_6 rfl (le_i _ _ _ _) (le_all _ _ _ _) (fun wv7 hB hG => ⟨HSK.out _ (below_grown hb6 (Nat.le_refl _) hG (by omega)), ?_⟩)
                  simp only [List.setIfInBounds_toArray, List.set_cons_zero, List.set_cons_succ]
                  have hb7 := below_grown hb6 (Nat.le_refl _) hG (by omega)
                  have B8_7 := hB
                  have B6_7 := B6_6.grown hG (fun e => by injection e with e; omega)
                  have B7_7 := B7_6.grown hG (fun e => by injection e with e; omega)
                  clear hB hG
                  refine wpAnyH_done (by kernel_rfl) ?_ _
                  go_wp2_with fail
                  go_meet
                  exact ⟨p6, p7, p8, a1, a2, a3, a4, b1, b2, b3, b4, c1, c2, c3, c4, rfl, rfl, rfl, B6_7, B7_7, B8_7, hb7⟩
                exact AllReadyH.nil
              exact AllReadyH.nil
            exact AllReadyH.nil
          refine readyAlloc (j := 12) rfl rfl 8 rfl 48 #[.int .i64 0, .int .i64 0, .int .i64 0, .int .i64 0] rfl zero_le4 (HSK.out _ (hb0.alloc hb0.size _)) ?_ ?_
          · simp only [Act.put, List.setIfInBounds_toArray, List.set_cons_zero, List.set_cons_succ]
            have hb1 := hb0.alloc hb0.size (.cells #[.int .i64 0, .int .i64 0, .int .i64 0, .int .i64 0] 48)
            have B8_1 := Blk.new wv0 48 #[.int .i64 0, .int .i64 0, .int .i64 0, .int .i64 0]
            have g8 := hb0.size
            generalize wv0.alloc (.cells #[.int .i64 0, .int .i64 0, .int .i64 0, .int .i64 0] 48) = wv1 at *
            generalize wv0.heap.size = p8 at *
            refine wpAnyH_ready (rs := [5, 10, 11]) (by kernel_rfl) (by simp) ?_
            refine readyCall (j := 5) rfl rfl (some 48) rfl 14 #[.agg (styA Ra), .int .i64 room] (run_enter Tryd.func14 (by kernel_rfl) (by kernel_rfl) _ _ rfl #[.agg (styA Ra), .int .i64 room] (by kernel_rfl) _) (Frame_b _ _ _) ?_ ?_
            · rintro e wv2 ⟨⟨a1, a2, a3, a4, b1, b2, b3, b4, c1, c2, c3, c4, rfl⟩, hx⟩
              have hb2 := hb1.trans (hx.mono hb1.size)
              have B8_2 := B8_1.below hx B8_1.lt
              refine ⟨_, rfl, HSK.out _ hb2, ?_⟩
              simp only [Act.put, List.setIfInBounds_toArray, List.set_cons_zero, List.set_cons_succ]
              clear hx
              refine take_at (i := 6) (v := (.tuple #[.agg #[.int .i64 a1, .int .i64 a2, .int .i64 a3, .int .i64 a4], .agg #[.int .i64 b1, .int .i64 b2, .int .i64 b3, .int .i64 b4], .agg #[.int .i64 c1, .int .i64 c2, .int .i64 c3, .int .i64 c4]])) (some 42) rfl rfl (by kernel_rfl) (by kernel_rfl) (by kernel_rfl) (fun _ _ _ h => h) (yieldsIf_move (by rfl) _ rfl _ rfl) (HSK.out _ hb2) ?_
              simp only [Act.put, List.setIfInBounds_toArray, List.set_cons_zero, List.set_cons_succ]
              refine take_at (i := 7) (v := (.agg #[.int .i64 a1, .int .i64 a2, .int .i64 a3, .int .i64 a4])) (some 49) rfl rfl (by kernel_rfl) (by kernel_rfl) (by kernel_rfl) (fun _ _ _ h => h) (Or.inl ⟨by rfl, fun W hW => ?_⟩) (HSK.out _ hb2) ?_
              · go_simp
              simp only [Act.put, List.setIfInBounds_toArray, List.set_cons_zero, List.set_cons_succ]
              refine take_at (i := 8) (v := (.agg #[.int .i64 b1, .int .i64 b2, .int .i64 b3, .int .i64 b4])) (some 50) rfl rfl (by kernel_rfl) (by kernel_rfl) (by kernel_rfl) (fun _ _ _ h => h) (Or.inl ⟨by rfl, fun W hW => ?_⟩) (HSK.out _ hb2) ?_
              · go_simp
              simp only [Act.put, List.setIfInBounds_toArray, List.set_cons_zero, List.set_cons_succ]
              refine take_at (i := 9) (v := (.agg #[.int .i64 c1, .int .i64 c2, .int .i64 c3, .int .i64 c4])) (some 51) rfl rfl (by kernel_rfl) (by kernel_rfl) (by kernel_rfl) (fun _ _ _ h => h) (Or.inl ⟨by rfl, fun W hW => ?_⟩) (HSK.out _ hb2) ?_
              · go_simp
              simp only [Act.put, List.setIfInBounds_toArray, List.set_cons_zero, List.set_cons_succ]
              refine wpAnyH_ready (rs := [10, 11]) (by kernel_rfl) (by simp) ?_
              refine readyAlloc (j := 10) rfl rfl 6 rfl 48 #[.int .i64 0, .int .i64 0, .int .i64 0, .int .i64 0] rfl zero_le4 (HSK.out _ (hb2.alloc hb2.size _)) ?_ ?_
              · simp only [Act.put, List.setIfInBounds_toArray, List.set_cons_zero, List.set_cons_succ]
                have hb3 := hb2.alloc hb2.size (.cells #[.int .i64 0, .int .i64 0, .int .i64 0, .int .i64 0] 48)
                have B6_3 := Blk.new wv2 48 #[.int .i64 0, .int .i64 0, .int .i64 0, .int .i64 0]
                have B8_3 := B8_2.alloc (.cells #[.int .i64 0, .int .i64 0, .int .i64 0, .int .i64 0] 48)
                have g6 := hb2.size
                have n86 := B8_2.lt
                generalize wv2.alloc (.cells #[.int .i64 0, .int .i64 0, .int .i64 0, .int .i64 0] 48) = wv3 at *
                generalize wv2.heap.size = p6 at *
                refine wpAnyH_ready (rs := [11]) (by kernel_rfl) (by simp) ?_
                refine readyAlloc (j := 11) rfl rfl 7 rfl 48 #[.int .i64 0, .int .i64 0, .int .i64 0, .int .i64 0] rfl zero_le4 (HSK.out _ (hb3.alloc hb3.size _)) ?_ ?_
                · simp only [Act.put, List.setIfInBounds_toArray, List.set_cons_zero, List.set_cons_succ]
                  have hb4 := hb3.alloc hb3.size (.cells #[.int .i64 0, .int .i64 0, .int .i64 0, .int .i64 0] 48)
                  have B7_4 := Blk.new wv3 48 #[.int .i64 0, .int .i64 0, .int .i64 0, .int .i64 0]
                  have B8_4 := B8_3.alloc (.cells #[.int .i64 0, .int .i64 0, .int .i64 0, .int .i64 0] 48)
                  have B6_4 := B6_3.alloc (.cells #[.int .i64 0, .int .i64 0, .int .i64 0, .int .i64 0] 48)
                  have g7 := hb3.size
                  have n87 := B8_3.lt
                  have n67 := B6_3.lt
                  generalize wv3.alloc (.cells #[.int .i64 0, .int .i64 0, .int .i64 0, .int .i64 0] 48) = wv4 at *
                  generalize wv3.heap.size = p7 at *
                  refine storeBH (j := 13) (by kernel_rfl) rfl rfl rfl 48 (.tmp 6) (.tmp 49) rfl p6 48 _ #[.int .i64 a1, .int .i64 a2, .int .i64 a3, .int .i64 a4] rfl rfl B6_4 rfl (le_i _ _ _ _) (le_all _ _ _ _) (fun wv5 hB hG => ⟨HSK.out _ (below_grown hb4 (Nat.le_refl _) hG (by omega)), ?_⟩)
                  simp only [List.setIfInBounds_toArray, List.set_cons_zero, List.set_cons_succ]
                  have hb5 := below_grown hb4 (Nat.le_refl _) hG (by omega)
                  have B6_5 := hB
                  have B7_5 := B7_4.grown hG (fun e => by injection e with e; omega)
                  have B8_5 := B8_4.grown hG (fun e => by injection e with e; omega)
                  clear hB hG
                  refine storeBH (j := 14) (by kernel_rfl) rfl rfl rfl 48 (.tmp 7) (.tmp 50) rfl p7 48 _ #[.int .i64 b1, .int .i64 b2, .int .i64 b3, .int .i64 b4] rfl rfl B7_5 rfl (le_i _ _ _ _) (le_all _ _ _ _) (fun wv6 hB hG => ⟨HSK.out _ (below_grown hb5 (Nat.le_refl _) hG (by omega)), ?_⟩)
                  simp only [List.setIfInBounds_toArray, List.set_cons_zero, List.set_cons_succ]
                  have hb6 := below_grown hb5 (Nat.le_refl _) hG (by omega)
                  have B7_6 := hB
                  have B6_6 := B6_5.grown hG (fun e => by injection e with e; omega)
                  have B8_6 := B8_5.grown hG (fun e => by injection e with e; omega)
                  clear hB hG
                  refine storeBH (j := 15) (by kernel_rfl) rfl rfl rfl 48 (.tmp 8) (.tmp 51) rfl p8 48 _ #[.int .i64 c1, .int .i64 c2, .int .i64 c3, .int .i64 c4] rfl rfl B8_6 rfl (le_i _ _ _ _) (le_all _ _ _ _) (fun wv7 hB hG => ⟨HSK.out _ (below_grown hb6 (Nat.le_refl _) hG (by omega)), ?_⟩)
                  simp only [List.setIfInBounds_toArray, List.set_cons_zero, List.set_cons_succ]
                  have hb7 := below_grown hb6 (Nat.le_refl _) hG (by omega)
                  have B8_7 := hB
                  have B6_7 := B6_6.grown hG (fun e => by injection e with e; omega)
                  have B7_7 := B7_6.grown hG (fun e => by injection e with e; omega)
                  clear hB hG
                  refine wpAnyH_done (by kernel_rfl) ?_ _
                  go_wp2_with fail
                  go_meet
                  exact ⟨p6, p7, p8, a1, a2, a3, a4, b1, b2, b3, b4, c1, c2, c3, c4, rfl, rfl, rfl, B6_7, B7_7, B8_7, hb7⟩
                exact AllReadyH.nil
              refine readyAlloc (j := 11) rfl rfl 7 rfl 48 #[.int .i64 0, .int .i64 0, .int .i64 0, .int .i64 0] rfl zero_le4 (HSK.out _ (hb2.alloc hb2.size _)) ?_ ?_
              · simp only [Act.put, List.setIfInBounds_toArray, List.set_cons_zero, List.set_cons_succ]
                have hb3 := hb2.alloc hb2.size (.cells #[.int .i64 0, .int .i64 0, .int .i64 0, .int .i64 0] 48)
                have B7_3 := Blk.new wv2 48 #[.int .i64 0, .int .i64 0, .int .i64 0, .int .i64 0]
                have B8_3 := B8_2.alloc (.cells #[.int .i64 0, .int .i64 0, .int .i64 0, .int .i64 0] 48)
                have g7 := hb2.size
                have n87 := B8_2.lt
                generalize wv2.alloc (.cells #[.int .i64 0, .int .i64 0, .int .i64 0, .int .i64 0] 48) = wv3 at *
                generalize wv2.heap.size = p7 at *
                refine wpAnyH_ready (rs := [10]) (by kernel_rfl) (by simp) ?_
                refine readyAlloc (j := 10) rfl rfl 6 rfl 48 #[.int .i64 0, .int .i64 0, .int .i64 0, .int .i64 0] rfl zero_le4 (HSK.out _ (hb3.alloc hb3.size _)) ?_ ?_
                · simp only [Act.put, List.setIfInBounds_toArray, List.set_cons_zero, List.set_cons_succ]
                  have hb4 := hb3.alloc hb3.size (.cells #[.int .i64 0, .int .i64 0, .int .i64 0, .int .i64 0] 48)
                  have B6_4 := Blk.new wv3 48 #[.int .i64 0, .int .i64 0, .int .i64 0, .int .i64 0]
                  have B8_4 := B8_3.alloc (.cells #[.int .i64 0, .int .i64 0, .int .i64 0, .int .i64 0] 48)
                  have B7_4 := B7_3.alloc (.cells #[.int .i64 0, .int .i64 0, .int .i64 0, .int .i64 0] 48)
                  have g6 := hb3.size
                  have n86 := B8_3.lt
                  have n76 := B7_3.lt
                  generalize wv3.alloc (.cells #[.int .i64 0, .int .i64 0, .int .i64 0, .int .i64 0] 48) = wv4 at *
                  generalize wv3.heap.size = p6 at *
                  refine storeBH (j := 13) (by kernel_rfl) rfl rfl rfl 48 (.tmp 6) (.tmp 49) rfl p6 48 _ #[.int .i64 a1, .int .i64 a2, .int .i64 a3, .int .i64 a4] rfl rfl B6_4 rfl (le_i _ _ _ _) (le_all _ _ _ _) (fun wv5 hB hG => ⟨HSK.out _ (below_grown hb4 (Nat.le_refl _) hG (by omega)), ?_⟩)
                  simp only [List.setIfInBounds_toArray, List.set_cons_zero, List.set_cons_succ]
                  have hb5 := below_grown hb4 (Nat.le_refl _) hG (by omega)
                  have B6_5 := hB
                  have B7_5 := B7_4.grown hG (fun e => by injection e with e; omega)
                  have B8_5 := B8_4.grown hG (fun e => by injection e with e; omega)
                  clear hB hG
                  refine storeBH (j := 14) (by kernel_rfl) rfl rfl rfl 48 (.tmp 7) (.tmp 50) rfl p7 48 _ #[.int .i64 b1, .int .i64 b2, .int .i64 b3, .int .i64 b4] rfl rfl B7_5 rfl (le_i _ _ _ _) (le_all _ _ _ _) (fun wv6 hB hG => ⟨HSK.out _ (below_grown hb5 (Nat.le_refl _) hG (by omega)), ?_⟩)
                  simp only [List.setIfInBounds_toArray, List.set_cons_zero, List.set_cons_succ]
                  have hb6 := below_grown hb5 (Nat.le_refl _) hG (by omega)
                  have B7_6 := hB
                  have B6_6 := B6_5.grown hG (fun e => by injection e with e; omega)
                  have B8_6 := B8_5.grown hG (fun e => by injection e with e; omega)
                  clear hB hG
                  refine storeBH (j := 15) (by kernel_rfl) rfl rfl rfl 48 (.tmp 8) (.tmp 51) rfl p8 48 _ #[.int .i64 c1, .int .i64 c2, .int .i64 c3, .int .i64 c4] rfl rfl B8_6 rfl (le_i _ _ _ _) (le_all _ _ _ _) (fun wv7 hB hG => ⟨HSK.out _ (below_grown hb6 (Nat.le_refl _) hG (by omega)), ?_⟩)
                  simp only [List.setIfInBounds_toArray, List.set_cons_zero, List.set_cons_succ]
                  have hb7 := below_grown hb6 (Nat.le_refl _) hG (by omega)
                  have B8_7 := hB
                  have B6_7 := B6_6.grown hG (fun e => by injection e with e; omega)
                  have B7_7 := B7_6.grown hG (fun e => by injection e with e; omega)
                  clear hB hG
                  refine wpAnyH_done (by kernel_rfl) ?_ _
                  go_wp2_with fail
                  go_meet
                  exact ⟨p6, p7, p8, a1, a2, a3, a4, b1, b2, b3, b4, c1, c2, c3, c4, rfl, rfl, rfl, B6_7, B7_7, B8_7, hb7⟩
                exact AllReadyH.nil
              exact AllReadyH.nil
            refine readyAlloc (j := 10) rfl rfl 6 rfl 48 #[.int .i64 0, .int .i64 0, .int .i64 0, .int .i64 0] rfl zero_le4 (HSK.out _ (hb1.alloc hb1.size _)) ?_ ?_
            · simp only [Act.put, List.setIfInBounds_toArray, List.set_cons_zero, List.set_cons_succ]
              have hb2 := hb1.alloc hb1.size (.cells #[.int .i64 0, .int .i64 0, .int .i64 0, .int .i64 0] 48)
              have B6_2 := Blk.new wv1 48 #[.int .i64 0, .int .i64 0, .int .i64 0, .int .i64 0]
              have B8_2 := B8_1.alloc (.cells #[.int .i64 0, .int .i64 0, .int .i64 0, .int .i64 0] 48)
              have g6 := hb1.size
              have n86 := B8_1.lt
              generalize wv1.alloc (.cells #[.int .i64 0, .int .i64 0, .int .i64 0, .int .i64 0] 48) = wv2 at *
              generalize wv1.heap.size = p6 at *
              refine wpAnyH_ready (rs := [5, 11]) (by kernel_rfl) (by simp) ?_
              refine readyCall (j := 5) rfl rfl (some 48) rfl 14 #[.agg (styA Ra), .int .i64 room] (run_enter Tryd.func14 (by kernel_rfl) (by kernel_rfl) _ _ rfl #[.agg (styA Ra), .int .i64 room] (by kernel_rfl) _) (Frame_b _ _ _) ?_ ?_
              · rintro e wv3 ⟨⟨a1, a2, a3, a4, b1, b2, b3, b4, c1, c2, c3, c4, rfl⟩, hx⟩
                have hb3 := hb2.trans (hx.mono hb2.size)
                have B8_3 := B8_2.below hx B8_2.lt
                have B6_3 := B6_2.below hx B6_2.lt
                refine ⟨_, rfl, HSK.out _ hb3, ?_⟩
                simp only [Act.put, List.setIfInBounds_toArray, List.set_cons_zero, List.set_cons_succ]
                clear hx
                refine take_at (i := 6) (v := (.tuple #[.agg #[.int .i64 a1, .int .i64 a2, .int .i64 a3, .int .i64 a4], .agg #[.int .i64 b1, .int .i64 b2, .int .i64 b3, .int .i64 b4], .agg #[.int .i64 c1, .int .i64 c2, .int .i64 c3, .int .i64 c4]])) (some 42) rfl rfl (by kernel_rfl) (by kernel_rfl) (by kernel_rfl) (fun _ _ _ h => h) (yieldsIf_move (by rfl) _ rfl _ rfl) (HSK.out _ hb3) ?_
                simp only [Act.put, List.setIfInBounds_toArray, List.set_cons_zero, List.set_cons_succ]
                refine take_at (i := 7) (v := (.agg #[.int .i64 a1, .int .i64 a2, .int .i64 a3, .int .i64 a4])) (some 49) rfl rfl (by kernel_rfl) (by kernel_rfl) (by kernel_rfl) (fun _ _ _ h => h) (Or.inl ⟨by rfl, fun W hW => ?_⟩) (HSK.out _ hb3) ?_
                · go_simp
                simp only [Act.put, List.setIfInBounds_toArray, List.set_cons_zero, List.set_cons_succ]
                refine take_at (i := 8) (v := (.agg #[.int .i64 b1, .int .i64 b2, .int .i64 b3, .int .i64 b4])) (some 50) rfl rfl (by kernel_rfl) (by kernel_rfl) (by kernel_rfl) (fun _ _ _ h => h) (Or.inl ⟨by rfl, fun W hW => ?_⟩) (HSK.out _ hb3) ?_
                · go_simp
                simp only [Act.put, List.setIfInBounds_toArray, List.set_cons_zero, List.set_cons_succ]
                refine take_at (i := 9) (v := (.agg #[.int .i64 c1, .int .i64 c2, .int .i64 c3, .int .i64 c4])) (some 51) rfl rfl (by kernel_rfl) (by kernel_rfl) (by kernel_rfl) (fun _ _ _ h => h) (Or.inl ⟨by rfl, fun W hW => ?_⟩) (HSK.out _ hb3) ?_
                · go_simp
                simp only [Act.put, List.setIfInBounds_toArray, List.set_cons_zero, List.set_cons_succ]
                refine wpAnyH_ready (rs := [11]) (by kernel_rfl) (by simp) ?_
                refine readyAlloc (j := 11) rfl rfl 7 rfl 48 #[.int .i64 0, .int .i64 0, .int .i64 0, .int .i64 0] rfl zero_le4 (HSK.out _ (hb3.alloc hb3.size _)) ?_ ?_
                · simp only [Act.put, List.setIfInBounds_toArray, List.set_cons_zero, List.set_cons_succ]
                  have hb4 := hb3.alloc hb3.size (.cells #[.int .i64 0, .int .i64 0, .int .i64 0, .int .i64 0] 48)
                  have B7_4 := Blk.new wv3 48 #[.int .i64 0, .int .i64 0, .int .i64 0, .int .i64 0]
                  have B8_4 := B8_3.alloc (.cells #[.int .i64 0, .int .i64 0, .int .i64 0, .int .i64 0] 48)
                  have B6_4 := B6_3.alloc (.cells #[.int .i64 0, .int .i64 0, .int .i64 0, .int .i64 0] 48)
                  have g7 := hb3.size
                  have n87 := B8_3.lt
                  have n67 := B6_3.lt
                  generalize wv3.alloc (.cells #[.int .i64 0, .int .i64 0, .int .i64 0, .int .i64 0] 48) = wv4 at *
                  generalize wv3.heap.size = p7 at *
                  refine storeBH (j := 13) (by kernel_rfl) rfl rfl rfl 48 (.tmp 6) (.tmp 49) rfl p6 48 _ #[.int .i64 a1, .int .i64 a2, .int .i64 a3, .int .i64 a4] rfl rfl B6_4 rfl (le_i _ _ _ _) (le_all _ _ _ _) (fun wv5 hB hG => ⟨HSK.out _ (below_grown hb4 (Nat.le_refl _) hG (by omega)), ?_⟩)
                  simp only [List.setIfInBounds_toArray, List.set_cons_zero, List.set_cons_succ]
                  have hb5 := below_grown hb4 (Nat.le_refl _) hG (by omega)
                  have B6_5 := hB
                  have B7_5 := B7_4.grown hG (fun e => by injection e with e; omega)
                  have B8_5 := B8_4.grown hG (fun e => by injection e with e; omega)
                  clear hB hG
                  refine storeBH (j := 14) (by kernel_rfl) rfl rfl rfl 48 (.tmp 7) (.tmp 50) rfl p7 48 _ #[.int .i64 b1, .int .i64 b2, .int .i64 b3, .int .i64 b4] rfl rfl B7_5 rfl (le_i _ _ _ _) (le_all _ _ _ _) (fun wv6 hB hG => ⟨HSK.out _ (below_grown hb5 (Nat.le_refl _) hG (by omega)), ?_⟩)
                  simp only [List.setIfInBounds_toArray, List.set_cons_zero, List.set_cons_succ]
                  have hb6 := below_grown hb5 (Nat.le_refl _) hG (by omega)
                  have B7_6 := hB
                  have B6_6 := B6_5.grown hG (fun e => by injection e with e; omega)
                  have B8_6 := B8_5.grown hG (fun e => by injection e with e; omega)
                  clear hB hG
                  refine storeBH (j := 15) (by kernel_rfl) rfl rfl rfl 48 (.tmp 8) (.tmp 51) rfl p8 48 _ #[.int .i64 c1, .int .i64 c2, .int .i64 c3, .int .i64 c4] rfl rfl B8_6 rfl (le_i _ _ _ _) (le_all _ _ _ _) (fun wv7 hB hG => ⟨HSK.out _ (below_grown hb6 (Nat.le_refl _) hG (by omega)), ?_⟩)
                  simp only [List.setIfInBounds_toArray, List.set_cons_zero, List.set_cons_succ]
                  have hb7 := below_grown hb6 (Nat.le_refl _) hG (by omega)
                  have B8_7 := hB
                  have B6_7 := B6_6.grown hG (fun e => by injection e with e; omega)
                  have B7_7 := B7_6.grown hG (fun e => by injection e with e; omega)
                  clear hB hG
                  refine wpAnyH_done (by kernel_rfl) ?_ _
                  go_wp2_with fail
                  go_meet
                  exact ⟨p6, p7, p8, a1, a2, a3, a4, b1, b2, b3, b4, c1, c2, c3, c4, rfl, rfl, rfl, B6_7, B7_7, B8_7, hb7⟩
                exact AllReadyH.nil
              refine readyAlloc (j := 11) rfl rfl 7 rfl 48 #[.int .i64 0, .int .i64 0, .int .i64 0, .int .i64 0] rfl zero_le4 (HSK.out _ (hb2.alloc hb2.size _)) ?_ ?_
              · simp only [Act.put, List.setIfInBounds_toArray, List.set_cons_zero, List.set_cons_succ]
                have hb3 := hb2.alloc hb2.size (.cells #[.int .i64 0, .int .i64 0, .int .i64 0, .int .i64 0] 48)
                have B7_3 := Blk.new wv2 48 #[.int .i64 0, .int .i64 0, .int .i64 0, .int .i64 0]
                have B8_3 := B8_2.alloc (.cells #[.int .i64 0, .int .i64 0, .int .i64 0, .int .i64 0] 48)
                have B6_3 := B6_2.alloc (.cells #[.int .i64 0, .int .i64 0, .int .i64 0, .int .i64 0] 48)
                have g7 := hb2.size
                have n87 := B8_2.lt
                have n67 := B6_2.lt
                generalize wv2.alloc (.cells #[.int .i64 0, .int .i64 0, .int .i64 0, .int .i64 0] 48) = wv3 at *
                generalize wv2.heap.size = p7 at *
                refine wpAnyH_ready (rs := [5]) (by kernel_rfl) (by simp) ?_
                refine readyCall (j := 5) rfl rfl (some 48) rfl 14 #[.agg (styA Ra), .int .i64 room] (run_enter Tryd.func14 (by kernel_rfl) (by kernel_rfl) _ _ rfl #[.agg (styA Ra), .int .i64 room] (by kernel_rfl) _) (Frame_b _ _ _) ?_ ?_
                · rintro e wv4 ⟨⟨a1, a2, a3, a4, b1, b2, b3, b4, c1, c2, c3, c4, rfl⟩, hx⟩
                  have hb4 := hb3.trans (hx.mono hb3.size)
                  have B8_4 := B8_3.below hx B8_3.lt
                  have B6_4 := B6_3.below hx B6_3.lt
                  have B7_4 := B7_3.below hx B7_3.lt
                  refine ⟨_, rfl, HSK.out _ hb4, ?_⟩
                  simp only [Act.put, List.setIfInBounds_toArray, List.set_cons_zero, List.set_cons_succ]
                  clear hx
                  refine take_at (i := 6) (v := (.tuple #[.agg #[.int .i64 a1, .int .i64 a2, .int .i64 a3, .int .i64 a4], .agg #[.int .i64 b1, .int .i64 b2, .int .i64 b3, .int .i64 b4], .agg #[.int .i64 c1, .int .i64 c2, .int .i64 c3, .int .i64 c4]])) (some 42) rfl rfl (by kernel_rfl) (by kernel_rfl) (by kernel_rfl) (fun _ _ _ h => h) (yieldsIf_move (by rfl) _ rfl _ rfl) (HSK.out _ hb4) ?_
                  simp only [Act.put, List.setIfInBounds_toArray, List.set_cons_zero, List.set_cons_succ]
                  refine take_at (i := 7) (v := (.agg #[.int .i64 a1, .int .i64 a2, .int .i64 a3, .int .i64 a4])) (some 49) rfl rfl (by kernel_rfl) (by kernel_rfl) (by kernel_rfl) (fun _ _ _ h => h) (Or.inl ⟨by rfl, fun W hW => ?_⟩) (HSK.out _ hb4) ?_
                  · go_simp
                  simp only [Act.put, List.setIfInBounds_toArray, List.set_cons_zero, List.set_cons_succ]
                  refine take_at (i := 8) (v := (.agg #[.int .i64 b1, .int .i64 b2, .int .i64 b3, .int .i64 b4])) (some 50) rfl rfl (by kernel_rfl) (by kernel_rfl) (by kernel_rfl) (fun _ _ _ h => h) (Or.inl ⟨by rfl, fun W hW => ?_⟩) (HSK.out _ hb4) ?_
                  · go_simp
                  simp only [Act.put, List.setIfInBounds_toArray, List.set_cons_zero, List.set_cons_succ]
                  refine take_at (i := 9) (v := (.agg #[.int .i64 c1, .int .i64 c2, .int .i64 c3, .int .i64 c4])) (some 51) rfl rfl (by kernel_rfl) (by kernel_rfl) (by kernel_rfl) (fun _ _ _ h => h) (Or.inl ⟨by rfl, fun W hW => ?_⟩) (HSK.out _ hb4) ?_
                  · go_simp
                  simp only [Act.put, List.setIfInBounds_toArray, List.set_cons_zero, List.set_cons_succ]
                  refine storeBH (j := 13) (by kernel_rfl) rfl rfl rfl 48 (.tmp 6) (.tmp 49) rfl p6 48 _ #[.int .i64 a1, .int .i64 a2, .int .i64 a3, .int .i64 a4] rfl rfl B6_4 rfl (le_i _ _ _ _) (le_all _ _ _ _) (fun wv5 hB hG => ⟨HSK.out _ (below_grown hb4 (Nat.le_refl _) hG (by omega)), ?_⟩)
                  simp only [List.setIfInBounds_toArray, List.set_cons_zero, List.set_cons_succ]
                  have hb5 := below_grown hb4 (Nat.le_refl _) hG (by omega)
                  have B6_5 := hB
                  have B7_5 := B7_4.grown hG (fun e => by injection e with e; omega)
                  have B8_5 := B8_4.grown hG (fun e => by injection e with e; omega)
                  clear hB hG
                  refine storeBH (j := 14) (by kernel_rfl) rfl rfl rfl 48 (.tmp 7) (.tmp 50) rfl p7 48 _ #[.int .i64 b1, .int .i64 b2, .int .i64 b3, .int .i64 b4] rfl rfl B7_5 rfl (le_i _ _ _ _) (le_all _ _ _ _) (fun wv6 hB hG => ⟨HSK.out _ (below_grown hb5 (Nat.le_refl _) hG (by omega)), ?_⟩)
                  simp only [List.setIfInBounds_toArray, List.set_cons_zero, List.set_cons_succ]
                  have hb6 := below_grown hb5 (Nat.le_refl _) hG (by omega)
                  have B7_6 := hB
                  have B6_6 := B6_5.grown hG (fun e => by injection e with e; omega)
                  have B8_6 := B8_5.grown hG (fun e => by injection e with e; omega)
                  clear hB hG
                  refine storeBH (j := 15) (by kernel_rfl) rfl rfl rfl 48 (.tmp 8) (.tmp 51) rfl p8 48 _ #[.int .i64 c1, .int .i64 c2, .int .i64 c3, .int .i64 c4] rfl rfl B8_6 rfl (le_i _ _ _ _) (le_all _ _ _ _) (fun wv7 hB hG => ⟨HSK.out _ (below_grown hb6 (Nat.le_refl _) hG (by omega)), ?_⟩)
                  simp only [List.setIfInBounds_toArray, List.set_cons_zero, List.set_cons_succ]
                  have hb7 := below_grown hb6 (Nat.le_refl _) hG (by omega)
                  have B8_7 := hB
                  have B6_7 := B6_6.grown hG (fun e => by injection e with e; omega)
                  have B7_7 := B7_6.grown hG (fun e => by injection e with e; omega)
                  clear hB hG
                  refine wpAnyH_done (by kernel_rfl) ?_ _
                  go_wp2_with fail
                  go_meet
                  exact ⟨p6, p7, p8, a1, a2, a3, a4, b1, b2, b3, b4, c1, c2, c3, c4, rfl, rfl, rfl, B6_7, B7_7, B8_7, hb7⟩
                exact AllReadyH.nil
              exact AllReadyH.nil
            refine readyAlloc (j := 11) rfl rfl 7 rfl 48 #[.int .i64 0, .int .i64 0, .int .i64 0, .int .i64 0] rfl zero_le4 (HSK.out _ (hb1.alloc hb1.size _)) ?_ ?_
            · simp only [Act.put, List.setIfInBounds_toArray, List.set_cons_zero, List.set_cons_succ]
              have hb2 := hb1.alloc hb1.size (.cells #[.int .i64 0, .int .i64 0, .int .i64 0, .int .i64 0] 48)
              have B7_2 := Blk.new wv1 48 #[.int .i64 0, .int .i64 0, .int .i64 0, .int .i64 0]
              have B8_2 := B8_1.alloc (.cells #[.int .i64 0, .int .i64 0, .int .i64 0, .int .i64 0] 48)
              have g7 := hb1.size
              have n87 := B8_1.lt
              generalize wv1.alloc (.cells #[.int .i64 0, .int .i64 0, .int .i64 0, .int .i64 0] 48) = wv2 at *
              generalize wv1.heap.size = p7 at *
              refine wpAnyH_ready (rs := [5, 10]) (by kernel_rfl) (by simp) ?_
              refine readyCall (j := 5) rfl rfl (some 48) rfl 14 #[.agg (styA Ra), .int .i64 room] (run_enter Tryd.func14 (by kernel_rfl) (by kernel_rfl) _ _ rfl #[.agg (styA Ra), .int .i64 room] (by kernel_rfl) _) (Frame_b _ _ _) ?_ ?_
              · rintro e wv3 ⟨⟨a1, a2, a3, a4, b1, b2, b3, b4, c1, c2, c3, c4, rfl⟩, hx⟩
                have hb3 := hb2.trans (hx.mono hb2.size)
                have B8_3 := B8_2.below hx B8_2.lt
                have B7_3 := B7_2.below hx B7_2.lt
                refine ⟨_, rfl, HSK.out _ hb3, ?_⟩
                simp only [Act.put, List.setIfInBounds_toArray, List.set_cons_zero, List.set_cons_succ]
                clear hx
                refine take_at (i := 6) (v := (.tuple #[.agg #[.int .i64 a1, .int .i64 a2, .int .i64 a3, .int .i64 a4], .agg #[.int .i64 b1, .int .i64 b2, .int .i64 b3, .int .i64 b4], .agg #[.int .i64 c1, .int .i64 c2, .int .i64 c3, .int .i64 c4]])) (some 42) rfl rfl (by kernel_rfl) (by kernel_rfl) (by kernel_rfl) (fun _ _ _ h => h) (yieldsIf_move (by rfl) _ rfl _ rfl) (HSK.out _ hb3) ?_
                simp only [Act.put, List.setIfInBounds_toArray, List.set_cons_zero, List.set_cons_succ]
                refine take_at (i := 7) (v := (.agg #[.int .i64 a1, .int .i64 a2, .int .i64 a3, .int .i64 a4])) (some 49) rfl rfl (by kernel_rfl) (by kernel_rfl) (by kernel_rfl) (fun _ _ _ h => h) (Or.inl ⟨by rfl, fun W hW => ?_⟩) (HSK.out _ hb3) ?_
                · go_simp
                simp only [Act.put, List.setIfInBounds_toArray, List.set_cons_zero, List.set_cons_succ]
                refine take_at (i := 8) (v := (.agg #[.int .i64 b1, .int .i64 b2, .int .i64 b3, .int .i64 b4])) (some 50) rfl rfl (by kernel_rfl) (by kernel_rfl) (by kernel_rfl) (fun _ _ _ h => h) (Or.inl ⟨by rfl, fun W hW => ?_⟩) (HSK.out _ hb3) ?_
                · go_simp
                simp only [Act.put, List.setIfInBounds_toArray, List.set_cons_zero, List.set_cons_succ]
                refine take_at (i := 9) (v := (.agg #[.int .i64 c1, .int .i64 c2, .int .i64 c3, .int .i64 c4])) (some 51) rfl rfl (by kernel_rfl) (by kernel_rfl) (by kernel_rfl) (fun _ _ _ h => h) (Or.inl ⟨by rfl, fun W hW => ?_⟩) (HSK.out _ hb3) ?_
                · go_simp
                simp only [Act.put, List.setIfInBounds_toArray, List.set_cons_zero, List.set_cons_succ]
                refine wpAnyH_ready (rs := [10]) (by kernel_rfl) (by simp) ?_
                refine readyAlloc (j := 10) rfl rfl 6 rfl 48 #[.int .i64 0, .int .i64 0, .int .i64 0, .int .i64 0] rfl zero_le4 (HSK.out _ (hb3.alloc hb3.size _)) ?_ ?_
                · simp only [Act.put, List.setIfInBounds_toArray, List.set_cons_zero, List.set_cons_succ]
                  have hb4 := hb3.alloc hb3.size (.cells #[.int .i64 0, .int .i64 0, .int .i64 0, .int .i64 0] 48)
                  have B6_4 := Blk.new wv3 48 #[.int .i64 0, .int .i64 0, .int .i64 0, .int .i64 0]
                  have B8_4 := B8_3.alloc (.cells #[.int .i64 0, .int .i64 0, .int .i64 0, .int .i64 0] 48)
                  have B7_4 := B7_3.alloc (.cells #[.int .i64 0, .int .i64 0, .int .i64 0, .int .i64 0] 48)
                  have g6 := hb3.size
                  have n86 := B8_3.lt
                  have n76 := B7_3.lt
                  generalize wv3.alloc (.cells #[.int .i64 0, .int .i64 0, .int .i64 0, .int .i64 0] 48) = wv4 at *
                  generalize wv3.heap.size = p6 at *
                  refine storeBH (j := 13) (by kernel_rfl) rfl rfl rfl 48 (.tmp 6) (.tmp 49) rfl p6 48 _ #[.int .i64 a1, .int .i64 a2, .int .i64 a3, .int .i64 a4] rfl rfl B6_4 rfl (le_i _ _ _ _) (le_all _ _ _ _) (fun wv5 hB hG => ⟨HSK.out _ (below_grown hb4 (Nat.le_refl _) hG (by omega)), ?_⟩)
                  simp only [List.setIfInBounds_toArray, List.set_cons_zero, List.set_cons_succ]
                  have hb5 := below_grown hb4 (Nat.le_refl _) hG (by omega)
                  have B6_5 := hB
                  have B7_5 := B7_4.grown hG (fun e => by injection e with e; omega)
                  have B8_5 := B8_4.grown hG (fun e => by injection e with e; omega)
                  clear hB hG
                  refine storeBH (j := 14) (by kernel_rfl) rfl rfl rfl 48 (.tmp 7) (.tmp 50) rfl p7 48 _ #[.int .i64 b1, .int .i64 b2, .int .i64 b3, .int .i64 b4] rfl rfl B7_5 rfl (le_i _ _ _ _) (le_all _ _ _ _) (fun wv6 hB hG => ⟨HSK.out _ (below_grown hb5 (Nat.le_refl _) hG (by omega)), ?_⟩)
                  simp only [List.setIfInBounds_toArray, List.set_cons_zero, List.set_cons_succ]
                  have hb6 := below_grown hb5 (Nat.le_refl _) hG (by omega)
                  have B7_6 := hB
                  have B6_6 := B6_5.grown hG (fun e => by injection e with e; omega)
                  have B8_6 := B8_5.grown hG (fun e => by injection e with e; omega)
                  clear hB hG
                  refine storeBH (j := 15) (by kernel_rfl) rfl rfl rfl 48 (.tmp 8) (.tmp 51) rfl p8 48 _ #[.int .i64 c1, .int .i64 c2, .int .i64 c3, .int .i64 c4] rfl rfl B8_6 rfl (le_i _ _ _ _) (le_all _ _ _ _) (fun wv7 hB hG => ⟨HSK.out _ (below_grown hb6 (Nat.le_refl _) hG (by omega)), ?_⟩)
                  simp only [List.setIfInBounds_toArray, List.set_cons_zero, List.set_cons_succ]
                  have hb7 := below_grown hb6 (Nat.le_refl _) hG (by omega)
                  have B8_7 := hB
                  have B6_7 := B6_6.grown hG (fun e => by injection e with e; omega)
                  have B7_7 := B7_6.grown hG (fun e => by injection e with e; omega)
                  clear hB hG
                  refine wpAnyH_done (by kernel_rfl) ?_ _
                  go_wp2_with fail
                  go_meet
                  exact ⟨p6, p7, p8, a1, a2, a3, a4, b1, b2, b3, b4, c1, c2, c3, c4, rfl, rfl, rfl, B6_7, B7_7, B8_7, hb7⟩
                exact AllReadyH.nil
              refine readyAlloc (j := 10) rfl rfl 6 rfl 48 #[.int .i64 0, .int .i64 0, .int .i64 0, .int .i64 0] rfl zero_le4 (HSK.out _ (hb2.alloc hb2.size _)) ?_ ?_
              · simp only [Act.put, List.setIfInBounds_toArray, List.set_cons_zero, List.set_cons_succ]
                have hb3 := hb2.alloc hb2.size (.cells #[.int .i64 0, .int .i64 0, .int .i64 0, .int .i64 0] 48)
                have B6_3 := Blk.new wv2 48 #[.int .i64 0, .int .i64 0, .int .i64 0, .int .i64 0]
                have B8_3 := B8_2.alloc (.cells #[.int .i64 0, .int .i64 0, .int .i64 0, .int .i64 0] 48)
                have B7_3 := B7_2.alloc (.cells #[.int .i64 0, .int .i64 0, .int .i64 0, .int .i64 0] 48)
                have g6 := hb2.size
                have n86 := B8_2.lt
                have n76 := B7_2.lt
                generalize wv2.alloc (.cells #[.int .i64 0, .int .i64 0, .int .i64 0, .int .i64 0] 48) = wv3 at *
                generalize wv2.heap.size = p6 at *
                refine wpAnyH_ready (rs := [5]) (by kernel_rfl) (by simp) ?_
                refine readyCall (j := 5) rfl rfl (some 48) rfl 14 #[.agg (styA Ra), .int .i64 room] (run_enter Tryd.func14 (by kernel_rfl) (by kernel_rfl) _ _ rfl #[.agg (styA Ra), .int .i64 room] (by kernel_rfl) _) (Frame_b _ _ _) ?_ ?_
                · rintro e wv4 ⟨⟨a1, a2, a3, a4, b1, b2, b3, b4, c1, c2, c3, c4, rfl⟩, hx⟩
                  have hb4 := hb3.trans (hx.mono hb3.size)
                  have B8_4 := B8_3.below hx B8_3.lt
                  have B7_4 := B7_3.below hx B7_3.lt
                  have B6_4 := B6_3.below hx B6_3.lt
                  refine ⟨_, rfl, HSK.out _ hb4, ?_⟩
                  simp only [Act.put, List.setIfInBounds_toArray, List.set_cons_zero, List.set_cons_succ]
                  clear hx
                  refine take_at (i := 6) (v := (.tuple #[.agg #[.int .i64 a1, .int .i64 a2, .int .i64 a3, .int .i64 a4], .agg #[.int .i64 b1, .int .i64 b2, .int .i64 b3, .int .i64 b4], .agg #[.int .i64 c1, .int .i64 c2, .int .i64 c3, .int .i64 c4]])) (some 42) rfl rfl (by kernel_rfl) (by kernel_rfl) (by kernel_rfl) (fun _ _ _ h => h) (yieldsIf_move (by rfl) _ rfl _ rfl) (HSK.out _ hb4) ?_
                  simp only [Act.put, List.setIfInBounds_toArray, List.set_cons_zero, List.set_cons_succ]
                  refine take_at (i := 7) (v := (.agg #[.int .i64 a1, .int .i64 a2, .int .i64 a3, .int .i64 a4])) (some 49) rfl rfl (by kernel_rfl) (by kernel_rfl) (by kernel_rfl) (fun _ _ _ h => h) (Or.inl ⟨by rfl, fun W hW => ?_⟩) (HSK.out _ hb4) ?_
                  · go_simp
                  simp only [Act.put, List.setIfInBounds_toArray, List.set_cons_zero, List.set_cons_succ]
                  refine take_at (i := 8) (v := (.agg #[.int .i64 b1, .int .i64 b2, .int .i64 b3, .int .i64 b4])) (some 50) rfl rfl (by kernel_rfl) (by kernel_rfl) (by kernel_rfl) (fun _ _ _ h => h) (Or.inl ⟨by rfl, fun W hW => ?_⟩) (HSK.out _ hb4) ?_
                  · go_simp
                  simp only [Act.put, List.setIfInBounds_toArray, List.set_cons_zero, List.set_cons_succ]
                  refine take_at (i := 9) (v := (.agg #[.int .i64 c1, .int .i64 c2, .int .i64 c3, .int .i64 c4])) (some 51) rfl rfl (by kernel_rfl) (by kernel_rfl) (by kernel_rfl) (fun _ _ _ h => h) (Or.inl ⟨by rfl, fun W hW => ?_⟩) (HSK.out _ hb4) ?_
                  · go_simp
                  simp only [Act.put, List.setIfInBounds_toArray, List.set_cons_zero, List.set_cons_succ]
                  refine storeBH (j := 13) (by kernel_rfl) rfl rfl rfl 48 (.tmp 6) (.tmp 49) rfl p6 48 _ #[.int .i64 a1, .int .i64 a2, .int .i64 a3, .int .i64 a4] rfl rfl B6_4 rfl (le_i _ _ _ _) (le_all _ _ _ _) (fun wv5 hB hG => ⟨HSK.out _ (below_grown hb4 (Nat.le_refl _) hG (by omega)), ?_⟩)
                  simp only [List.setIfInBounds_toArray, List.set_cons_zero, List.set_cons_succ]
                  have hb5 := below_grown hb4 (Nat.le_refl _) hG (by omega)
                  have B6_5 := hB
                  have B7_5 := B7_4.grown hG (fun e => by injection e with e; omega)
                  have B8_5 := B8_4.grown hG (fun e => by injection e with e; omega)
                  clear hB hG
                  refine storeBH (j := 14) (by kernel_rfl) rfl rfl rfl 48 (.tmp 7) (.tmp 50) rfl p7 48 _ #[.int .i64 b1, .int .i64 b2, .int .i64 b3, .int .i64 b4] rfl rfl B7_5 rfl (le_i _ _ _ _) (le_all _ _ _ _) (fun wv6 hB hG => ⟨HSK.out _ (below_grown hb5 (Nat.le_refl _) hG (by omega)), ?_⟩)
                  simp only [List.setIfInBounds_toArray, List.set_cons_zero, List.set_cons_succ]
                  have hb6 := below_grown hb5 (Nat.le_refl _) hG (by omega)
                  have B7_6 := hB
                  have B6_6 := B6_5.grown hG (fun e => by injection e with e; omega)
                  have B8_6 := B8_5.grown hG (fun e => by injection e with e; omega)
                  clear hB hG
                  refine storeBH (j := 15) (by kernel_rfl) rfl rfl rfl 48 (.tmp 8) (.tmp 51) rfl p8 48 _ #[.int .i64 c1, .int .i64 c2, .int .i64 c3, .int .i64 c4] rfl rfl B8_6 rfl (le_i _ _ _ _) (le_all _ _ _ _) (fun wv7 hB hG => ⟨HSK.out _ (below_grown hb6 (Nat.le_refl _) hG (by omega)), ?_⟩)
                  simp only [List.setIfInBounds_toArray, List.set_cons_zero, List.set_cons_succ]
                  have hb7 := below_grown hb6 (Nat.le_refl _) hG (by omega)
                  have B8_7 := hB
                  have B6_7 := B6_6.grown hG (fun e => by injection e with e; omega)
                  have B7_7 := B7_6.grown hG (fun e => by injection e with e; omega)
                  clear hB hG
                  refine wpAnyH_done (by kernel_rfl) ?_ _
                  go_wp2_with fail
                  go_meet
                  exact ⟨p6, p7, p8, a1, a2, a3, a4, b1, b2, b3, b4, c1, c2, c3, c4, rfl, rfl, rfl, B6_7, B7_7, B8_7, hb7⟩
                exact AllReadyH.nil
              exact AllReadyH.nil
            exact AllReadyH.nil
          exact AllReadyH.nil
        case rest =>
          obtain ⟨p6, p7, p8, a1, a2, a3, a4, b1, b2, b3, b4, c1, c2, c3, c4, rfl, rfl, rfl, B6, B7, B8, hbc⟩ := hcut
          have HT3 := hide (HT2.out.old hbc)
          have HB := hide (And.intro B6 (And.intro B7 B8))
          have q64 := B6.cell 3
          have q74 := B7.cell 3
          have q84 := B8.cell 3
          simp only [List.getElem?_toArray, List.getElem?_cons_succ, List.getElem?_cons_zero] at q64 q74 q84
          clear B6 B7 B8 hbc HT2
          go_wp2_with (first
            | (go_at_call 10; refine (cut_any _ _).mono ?_; rintro e w9 ⟨rfl, rfl⟩)
            | (go_at_call 15; refine (put_wk _ B mb _ _ _ room _ _ hls HT3.out.sz HT3.out.it 2 (at_ : Int) _).mono ?_; rintro e w8 ⟨rfl, V8, XO, eo, hXO, hI8, hS8⟩; have HT8 := hide (HT3.out.next hI8 hS8); have HB8 := hide (three_keep HT3.out.it hS8 HB.out); have HXO := hide hXO; clear hI8 hS8 hXO)
            | fail)
          refine (HKD.out w8 V8 bl _ HT8.out.sz (HD.out.below HT8.out.bw) HT8.out.it (by rw [List.length_append, List.length_singleton]; omega)).mono ?_
          rintro e w10 ⟨rfl, V10, b10, s10, hI10, hS10, hB10, hl10⟩
          have HTt := hide (HT8.out.next hI10 hS10)
          have HBt := hide (three_keep HT8.out.it hS10 HB8.out)
          have r6 := HBt.out.1.cell 1
          have r7 := HBt.out.2.1.cell 1
          have r8 := HBt.out.2.2.cell 1
          simp only [List.getElem?_toArray, List.getElem?_cons_succ, List.getElem?_cons_zero] at r6 r7 r8
          have hls2 : (s ++ [XO] ++ s10).length ≤ 10000000 := by rw [List.length_append, List.length_append, List.length_singleton]; omega
          clear hI10 hS10 HT8 HB8 HT3 HB q64 q74 q84
          go_wp2_with (first
            | (go_at_call 10; refine (cut_any _ _).mono ?_; rintro e w9 ⟨rfl, rfl⟩)
            | (go_at_call 15; refine (put_wk _ B mb _ _ _ room _ _ hls2 HTt.out.sz HTt.out.it 3 (at_ : Int) _).mono ?_; rintro e w12 ⟨rfl, V12, XC, ec, hXC, hI12, hS12⟩; have HTe := hide (HTt.out.next hI12 hS12); have HXC := hide hXC; clear hI12 hS12 hXC)
            | fail)
          go_end0
          refine ⟨rfl, V12, b10, XO :: (s10 ++ [XC]), ?_, HTe.out.st, ?_, ?_⟩
          · have h9 := HTe.out.it
            rw [List.append_assoc, List.append_assoc] at h9
            exact h9
          · rw [List.map_cons, List.map_append, List.map_cons, List.map_nil, HXO.out, HXC.out]
            exact hB10.pair _ _ _
          · rw [List.length_cons, List.length_append, List.length_singleton]; omega
      · have t3 : (K == 3) = false := by simpa using h3
        by_cases h5 : K = 5
        · subst h5
          have hls : s.length ≤ 10000000 := by omega
          go_enter Tryd.func9, Tryd.ntmps9
          go_wp2_with (first
            | (refine wpList_load_mid rfl 44 (.tmp 14) rfl gl (ol + at_ * 118) rfl (styA Ra) _ HR.out sty_u rfl (sty_i _) ?_)
            | (refine wpList_store_blk rfl 44 (.tmp 4) (.tmp 15) rfl w.heap.size 44 _ (styA Ra) rfl rfl HZ.out HZ1.out HZ2.out HZ3.out ?_; intro w2 hB2 hG2; have HB2 := hide hB2; have HW2 := hide (HBE.out w2 hG2); have k0 := HC0.out w2 HW2.out; have k1 := HC1.out w2 HW2.out; clear hB2 hG2; have HT2 := hide (show TxS w w2 B mb w.heap.size (.slice (some ⟨g, off, none⟩) l.length cB) (.slice (some ⟨gl, ol, none⟩) l.length cl) room bl V V s Ra from ⟨HI.out.old HW2.out, Stp.of_below HW2.out V, HB2.out, bsz (HW2.out.mono hBB) hBB, HW2.out.mono hBB⟩))
            | (refine wpList_load_blkG rfl 44 (.tmp 4) rfl w.heap.size rfl 44 (styA Ra) _ HT2.out.sty sty_u rfl (sty_i _) ?_)
            | (go_at_call 17; refine (shift_any _ _).mono ?_; rintro e w7 ⟨⟨n7, rfl⟩, hb7⟩; have HT7 := hide (HT2.out.old hb7); clear hb7)
            | (go_at_call 15; refine (put_shift _ B mb _ _ _ room _ _ hls HT7.out.sz HT7.out.it 4 (at_ : Int) n7).mono ?_; rintro e w8 ⟨rfl, V8, hI8, hS8⟩; have HT8 := hide (HT7.out.next hI8 hS8); clear hI8 hS8)
            | (refine wpList_store_fld rfl 4 (.tmp 32) (.const (.bool false)) rfl mb 3 38 _ (.bool false) rfl rfl HT8.out.it.blk (Nat.le_of_ble_eq_true rfl) maker_i rfl rfl ?_; intro w9 hB9 hG9; have HT9 := hide (HT8.out.blank false hB9 hG9).1; clear hB9 hG9)
            | fail)
          go_end0
          exact ⟨rfl, V8, false, [Li.mk 4 at_ ByteArray.empty fun j => if j = 7 then n7 else 0], HT9.out.it, HT9.out.st, bal_atom, by show 1 ≤ _; omega⟩
        · have t5 : (K != 5) = true := by simpa using h5
          by_cases o1 : o = 1
          · subst o1
            have hls : s.length ≤ 10000000 := by omega
            have HQ := hide (fun (Z : World) (h : Blk Z w.heap.size 44 (styA Ra)) => sty_cell h (j := 5) (by omega))
            go_enter Tryd.func9, Tryd.ntmps9
            go_wp2_with (first
              | (refine wpList_load_mid rfl 44 (.tmp 14) rfl gl (ol + at_ * 118) rfl (styA Ra) _ HR.out sty_u rfl (sty_i _) ?_)
              | (refine wpList_store_blk rfl 44 (.tmp 4) (.tmp 15) rfl w.heap.size 44 _ (styA Ra) rfl rfl HZ.out HZ1.out HZ2.out HZ3.out ?_; intro w2 hB2 hG2; have HB2 := hide hB2; have HW2 := hide (HBE.out w2 hG2); have k0 := HC0.out w2 HW2.out; have k1 := HC1.out w2 HW2.out; clear hB2 hG2; have HT2 := hide (show TxS w w2 B mb w.heap.size (.slice (some ⟨g, off, none⟩) l.length cB) (.slice (some ⟨gl, ol, none⟩) l.length cl) room bl V V s Ra from ⟨HI.out.old HW2.out, Stp.of_below HW2.out V, HB2.out, bsz (HW2.out.mono hBB) hBB, HW2.out.mono hBB⟩))
              | (refine wpList_load_blkG rfl 44 (.tmp 4) rfl w.heap.size rfl 44 (styA Ra) _ HT2.out.sty sty_u rfl (sty_i _) ?_)
              | (go_at_call 16; refine (HOU.out _).mono ?_; rintro e w3 ⟨rfl, hb3⟩; have HT3 := hide (HT2.out.old hb3); clear hb3; have q5 := HQ.out _ HT3.out.sty)
              | (go_at_call 15; refine (put_side _ B mb _ _ _ room _ _ hls HT3.out.sz HT3.out.it 5 (at_ : Int) (Ra 5)).mono ?_; rintro e w8 ⟨rfl, V8, hI8, hS8⟩; have HT8 := hide (HT3.out.next hI8 hS8); clear hI8 hS8)
              | fail)
            go_end0
            exact ⟨rfl, V8, bl, [Li.mk 5 at_ ByteArray.empty fun j => if j = 10 then Ra 5 else 0], HT8.out.it, HT8.out.st, bal_float, by show 1 ≤ _; omega⟩
          · have u1 : (o == 1) = false := by simpa using o1
            by_cases o2 : o = 2
            · subst o2
              have hls : s.length ≤ 10000000 := by omega
              go_enter Tryd.func9, Tryd.ntmps9
              go_wp2_with (first
                | (refine wpList_load_mid rfl 44 (.tmp 14) rfl gl (ol + at_ * 118) rfl (styA Ra) _ HR.out sty_u rfl (sty_i _) ?_)
                | (refine wpList_store_blk rfl 44 (.tmp 4) (.tmp 15) rfl w.heap.size 44 _ (styA Ra) rfl rfl HZ.out HZ1.out HZ2.out HZ3.out ?_; intro w2 hB2 hG2; have HB2 := hide hB2; have HW2 := hide (HBE.out w2 hG2); have k0 := HC0.out w2 HW2.out; have k1 := HC1.out w2 HW2.out; clear hB2 hG2; have HT2 := hide (show TxS w w2 B mb w.heap.size (.slice (some ⟨g, off, none⟩) l.length cB) (.slice (some ⟨gl, ol, none⟩) l.length cl) room bl V V s Ra from ⟨HI.out.old HW2.out, Stp.of_below HW2.out V, HB2.out, bsz (HW2.out.mono hBB) hBB, HW2.out.mono hBB⟩))
                | (refine wpList_load_blkG rfl 44 (.tmp 4) rfl w.heap.size rfl 44 (styA Ra) _ HT2.out.sty sty_u rfl (sty_i _) ?_)
                | (refine wpList_load_blkG rfl 44 (.tmp 4) rfl w.heap.size rfl 44 (styA Ra) _ HT3.out.sty sty_u rfl (sty_i _) ?_)
                | (go_at_call 16; refine (HOU.out _).mono ?_; rintro e w3 ⟨rfl, hb3⟩; have HT3 := hide (HT2.out.old hb3); clear hb3)
                | (go_at_call 16; refine (HOU.out _).mono ?_; rintro e w4 ⟨rfl, hb4⟩; have HT4 := hide (HT3.out.old hb4); clear hb4)
                | (go_at_call 15; refine (put_bare _ B mb _ _ _ room _ _ hls HT4.out.sz HT4.out.it 7 (at_ : Int)).mono ?_; rintro e w8 ⟨rfl, V8, hI8, hS8⟩; have HT8 := hide (HT4.out.next hI8 hS8); clear hI8 hS8)
                | fail)
              go_end0
              exact ⟨rfl, V8, bl, [Li.mk 7 at_ ByteArray.empty fun _ => 0], HT8.out.it, HT8.out.st, bal_absent, by show 1 ≤ _; omega⟩
            · have u2 : (o == 2) = false := by simpa using o2
              have hls : s.length ≤ 10000000 := by omega
              go_enter Tryd.func9, Tryd.ntmps9
              go_wp2_with (first
                | (refine wpList_load_mid rfl 44 (.tmp 14) rfl gl (ol + at_ * 118) rfl (styA Ra) _ HR.out sty_u rfl (sty_i _) ?_)
                | (refine wpList_store_blk rfl 44 (.tmp 4) (.tmp 15) rfl w.heap.size 44 _ (styA Ra) rfl rfl HZ.out HZ1.out HZ2.out HZ3.out ?_; intro w2 hB2 hG2; have HB2 := hide hB2; have HW2 := hide (HBE.out w2 hG2); have k0 := HC0.out w2 HW2.out; have k1 := HC1.out w2 HW2.out; clear hB2 hG2; have HT2 := hide (show TxS w w2 B mb w.heap.size (.slice (some ⟨g, off, none⟩) l.length cB) (.slice (some ⟨gl, ol, none⟩) l.length cl) room bl V V s Ra from ⟨HI.out.old HW2.out, Stp.of_below HW2.out V, HB2.out, bsz (HW2.out.mono hBB) hBB, HW2.out.mono hBB⟩))
                | (refine wpList_load_blkG rfl 44 (.tmp 4) rfl w.heap.size rfl 44 (styA Ra) _ HT2.out.sty sty_u rfl (sty_i _) ?_)
                | (refine wpList_load_blkG rfl 44 (.tmp 4) rfl w.heap.size rfl 44 (styA Ra) _ HT3.out.sty sty_u rfl (sty_i _) ?_)
                | (refine wpList_load_blkG rfl 44 (.tmp 4) rfl w.heap.size rfl 44 (styA Ra) _ HT4.out.sty sty_u rfl (sty_i _) ?_)
                | (go_at_call 16; refine (HOU.out _).mono ?_; rintro e w3 ⟨rfl, hb3⟩; have HT3 := hide (HT2.out.old hb3); clear hb3)
                | (go_at_call 16; refine (HOU.out _).mono ?_; rintro e w4 ⟨rfl, hb4⟩; have HT4 := hide (HT3.out.old hb4); clear hb4)
                | (go_at_call 17; refine (shift_any _ _).mono ?_; rintro e w7 ⟨⟨n7, rfl⟩, hb7⟩; have HT7 := hide (HT4.out.old hb7); clear hb7)
                | (go_at_call 15; refine (put_shift _ B mb _ _ _ room _ _ hls HT7.out.sz HT7.out.it 4 (at_ : Int) n7).mono ?_; rintro e w8 ⟨rfl, V8, hI8, hS8⟩; have HT8 := hide (HT7.out.next hI8 hS8); clear hI8 hS8)
                | (refine wpList_store_fld rfl 4 (.tmp 32) (.const (.bool false)) rfl mb 3 38 _ (.bool false) rfl rfl HT8.out.it.blk (Nat.le_of_ble_eq_true rfl) maker_i rfl rfl ?_; intro w9 hB9 hG9; have HT9 := hide (HT8.out.blank false hB9 hG9).1; clear hB9 hG9)
                | fail)
              go_end0
              exact ⟨rfl, V8, false, [Li.mk 4 at_ ByteArray.empty fun j => if j = 7 then n7 else 0], HT9.out.it, HT9.out.st, bal_atom, by show 1 ≤ _; omega⟩
end Go.Proofs.YtdnnodpkgncegaaDoor
