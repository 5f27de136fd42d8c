/- The walk of lines.parts. -/
import Derived.BigQuiet
import Derived.Handy
import Derived.IntWalk
import Derived.RegionTactic
import Derived.Deep.QuietTactic
import Derived.Deep.MidRow
import Derived.Deep.RegionHeld3
import Derived.Test.YtadlabndbomgmaaDoorJPartB
import Derived.Test.YtadlabndbomgmaaDoorJ2
import Derived.Test.YtadlabndbomgmaaDoorJPieces
set_option linter.unusedVariables false
set_option linter.unusedSimpArgs false
namespace Go.Proofs.YtadlabndbomgmaaDoor
open Go.ChangeShapes Go.WideShapes Go.ChangeAt Go.RowKit
theorem part_info : (Tryd.prog.info? 96).map (fun i => (i.zero, i.size, i.bytes)) = some (some (.agg #[.pointer none, .int .i64 0, .string ByteArray.empty, .int .i64 0, .bool false]), 5, 48) := by kernel_rfl
theorem cutI_any (n m : Int) (w : World) (h : cut n = m) : Calls Tryd.prog 13 #[.int .i64 n] w fun e w' => e = .returned (.int .i64 m) ∧ w = w' := by
  have := cut_any n w
  rwa [h] at this
set_option maxRecDepth 100000 in
set_option maxHeartbeats 4000000 in
theorem parts_any (xs : List It) (g c : Nat) (A : Option Addr) (w : World) (hA : 0 < xs.length → A = some ⟨g, 0, none⟩) (hI : ItsAt w g xs) (hg : 0 < xs.length → g < w.heap.size) (hok : ItsOk xs) :
    Calls Tryd.prog 32 #[.slice A xs.length c] w fun e w' => ∃ v, e = .returned v ∧ w'.ownsRow w.heap.size 96 5 v (partsTo xs xs.length).length (ptCells g (partsTo xs xs.length)) ∧ Below w.heap.size w w' := by
  have HI := hide hI
  have HO := hide hok
  have HA := hide hA
  have HG := hide hg
  have hn := hok.1
  clear hI hok hA hg
  go_enter Tryd.func32, Tryd.ntmps32
  go_wp2_with fail
  go_loopw [3, 11] (fun v i wr => ∃ k : Nat, k ≤ xs.length ∧ i = .int .i64 k ∧ wr.ownsRow w.heap.size 96 5 v (partsTo xs k).length (ptCells g (partsTo xs k)) ∧ Below w.heap.size w wr) (fun _ i _ => xs.length - (intOf i).toNat)
  case atStart => exact ⟨0, Nat.zero_le _, rfl, own_none _ _ _ _, Below.refl _ _⟩
  case round =>
    obtain ⟨k, hk, rfl, hown, hbel⟩ := hrel
    have HW := hide hown
    have hszr := hbel.size
    clear hown
    obtain ⟨v, hv⟩ : ∃ v, v = u3 := ⟨_, rfl⟩
    rw [← hv] at HW ⊢
    clear hv
    by_cases hlt : k < xs.length
    · obtain rfl := HA.out (by omega)
      have hg := HG.out (by omega)
      have HX := hide (itAt_ok HO.out k)
      have HIr := hide (HI.out.below hbel hg)
      have hlen := hide (show (partsTo xs k).length ≤ 1000000 from by have := (partsTo_ok HO.out k hk).2; omega)
      have hln : (partsTo xs k).length ≤ 5000 := by have := (partsTo_ok HO.out k hk).2; omega
      have HN := hide (partsTo_next xs k)
      have HPO := hide (show partsOf k (itAt xs k) = if (itAt xs k).kind = 1 then textParts k (itAt xs k) (piecesF (itAt xs k).text (modeW (itAt xs k).mode) (modeK (itAt xs k).mode)).length (piecesF (itAt xs k).text (modeW (itAt xs k).mode) (modeK (itAt xs k).mode)) else if (itAt xs k).kind = 6 ∨ (itAt xs k).kind = 7 ∨ (itAt xs k).kind = 5 then [⟨k, ByteArray.empty, 0, true⟩] else if (itAt xs k).kind = 4 then [⟨k, ByteArray.empty, max 0 (cut (itAt xs k).w), true⟩] else [⟨k, ByteArray.empty, cut (itAt xs k).w, true⟩] from rfl)
      have c0 : wr.cell? ⟨g, k * 11, none⟩ = some (.int .i64 (itAt xs k).kind) := HIr.out.c0 hlt
      have c2 : wr.cell? ⟨g, k * 11 + 2, none⟩ = some (.string (itAt xs k).text) := HIr.out k hlt 2 (by omega)
      have c3 : wr.cell? ⟨g, k * 11 + 3, none⟩ = some (.int .i64 (itAt xs k).size) := HIr.out k hlt 3 (by omega)
      have c4 : wr.cell? ⟨g, k * 11 + 4, none⟩ = some (.int .i64 (itAt xs k).spacing) := HIr.out k hlt 4 (by omega)
      have c6 : wr.cell? ⟨g, k * 11 + 6, none⟩ = some (.int .i64 (itAt xs k).mode) := HIr.out k hlt 6 (by omega)
      have c8 : wr.cell? ⟨g, k * 11 + 8, none⟩ = some (.int .i64 (itAt xs k).w) := HIr.out k hlt 8 (by omega)
      have e3 : w.cell? ⟨g, k * 11 + 3, none⟩ = some (.int .i64 (itAt xs k).size) := HI.out k hlt 3 (by omega)
      have e4 : w.cell? ⟨g, k * 11 + 4, none⟩ = some (.int .i64 (itAt xs k).spacing) := HI.out k hlt 4 (by omega)
      have hgr : g < wr.heap.size := Nat.lt_of_lt_of_le hg hszr
      clear HIr
      generalize partsTo xs k = l at *
      generalize itAt xs k = x at *
      by_cases k1 : x.kind = 1
      · have hp := hide (HPO.out.trans (if_pos k1))
        rw [k1] at c0
        clear HPO k1
        have HP := hide (Pieces_any x.text x.mode wr.drew (by have := HX.out.1; omega))
        have hb0 := hbel.drew
        have HO0 := hide HW.out.drew
        have C2 := hide (show wr.drew.cell? ⟨g, k * 11 + 2, none⟩ = some (.string x.text) from c2)
        have C6 := hide (show wr.drew.cell? ⟨g, k * 11 + 6, none⟩ = some (.int .i64 x.mode) from c6)
        have HS := hide (fun (W : World) (hb5 : Below wr.drew.heap.size wr.drew W) => (⟨(hb5.cell (p := ⟨g, k * 11 + 2, none⟩) hgr).trans c2, (hb5.cell (p := ⟨g, k * 11 + 6, none⟩) hgr).trans c6⟩ : W.cell? ⟨g, k * 11 + 2, none⟩ = some (.string x.text) ∧ W.cell? ⟨g, k * 11 + 6, none⟩ = some (.int .i64 x.mode)))
        go_wp2_with fail
        go_region_held3 (fun W => W.cell? ⟨g, k * 11 + 2, none⟩ = some (.string x.text) ∧ W.cell? ⟨g, k * 11 + 6, none⟩ = some (.int .i64 x.mode)) (first | exact ⟨C2.out, C6.out⟩ | exact HS.out _ hb5) ((go_at_call 43; refine HP.out.mono ?_; rintro e w5 ⟨v5, rfl, own5, hb5⟩; have O5 := hide own5; clear own5))
        have b5 := below_on hb0 hb5
        have HOW := hide (own_keep HO0.out hb5 (own_lt HO0.out))
        have c3' : w5.cell? ⟨g, k * 11 + 3, none⟩ = some (.int .i64 x.size) := (hb5.cell (p := ⟨g, k * 11 + 3, none⟩) hgr).trans c3
        have c4' : w5.cell? ⟨g, k * 11 + 4, none⟩ = some (.int .i64 x.spacing) := (hb5.cell (p := ⟨g, k * 11 + 4, none⟩) hgr).trans c4
        have hb5s := hb5.size
        obtain ⟨B5, hB5⟩ : ∃ B, B = wr.drew.heap.size := ⟨_, rfl⟩
        rw [← hB5] at O5
        clear hB5
        have hpc := pieces_count x.text (modeW x.mode) (modeK x.mode)
        have HPL := hide (pieces_le x.text (modeW x.mode) (modeK x.mode))
        clear HS C2 C6 HO0 hb0 HP hb5 c0 c2 c3 c4 c6 c8
        generalize piecesF x.text (modeW x.mode) (modeK x.mode) = pcs at *
        have hpn : pcs.length ≤ 200 := by have := HX.out.1; omega
        obtain ⟨A5, c5, rfl, _, _⟩ := own_reads O5.out
        go_wp2_with fail
        have HTX := hide (textTo_all k x pcs)
        have HO5b := hide (show w5.ownsRow w.heap.size 96 5 v (l ++ textTo k x pcs 0).length (ptCells g (l ++ textTo k x pcs 0)) from by rw [show textTo k x pcs 0 = [] from rfl, List.append_nil]; exact HOW.out)
        go_loopw [3, 45] (fun v i wr => ∃ j : Nat, j ≤ pcs.length ∧ i = .int .i64 j ∧ wr.ownsRow w.heap.size 96 5 v (l ++ textTo k x pcs j).length (ptCells g (l ++ textTo k x pcs j)) ∧ Hid (wr.ownsRow B5 9 1 (.slice A5 pcs.length c5) pcs.length (pcs.map Value.string)) ∧ Below w.heap.size w wr) (fun _ i _ => pcs.length - (intOf i).toNat)
        case atStart => exact ⟨0, Nat.zero_le _, rfl, HO5b.out, O5, b5⟩
        case round =>
          obtain ⟨j, hj, rfl, hown, HP5, hbi⟩ := hrel
          clear HO5b HOW HW O5 b5
          have HW2 := hide hown
          clear hown
          obtain ⟨v2, hv⟩ : ∃ v, v = u3 := ⟨_, rfl⟩
          rw [← hv] at HW2 ⊢
          clear hv
          by_cases hjl : j < pcs.length
          · obtain ⟨ad, u, rfl, hadl, hu, hcell1⟩ := (Reads.of_own HP5.out).at_ hjl
            rw [List.getElem?_map, List.getElem?_eq_getElem hjl, ← pieceAt_of pcs j hjl] at hu
            obtain rfl : Value.string (pieceAt pcs j) = u := by simpa using hu
            have hts : (pieceAt pcs j).size ≤ 400 := by have := HX.out.1; have := HPL.out (pieceAt pcs j) (by rw [pieceAt_of pcs j hjl]; exact List.getElem_mem _); omega
            have HNX := hide (show textTo k x pcs (j + 1) = textTo k x pcs j ++ [⟨k, pieceAt pcs j, txW x (pieceAt pcs j), pcs.length - j == 1⟩] from textTo_next k x pcs j)
            have ZL := hide (show ((j : Int) == (pcs.length : Int) - 1) = (pcs.length - j == 1) from by rw [Bool.eq_iff_iff]; simp only [beq_iff_eq]; omega)
            have hlj := hide (show (l ++ textTo k x pcs j).length ≤ 1000000 from by rw [List.length_append]; have := hln; simp [textTo]; omega)
            clear hu hadl
            generalize pieceAt pcs j = t at *
            generalize (pcs.length - j == 1) = lb at *
            generalize hls : l ++ textTo k x pcs j = lst at *
            have HLS := hide hls
            clear hls
            go_wp2_with fail
            clear hcell1
            have w1 : IntKind.i64.wrap ((pcs.length : Int) - 1) = (pcs.length : Int) - 1 := IntWalk.i64_in _ (by omega)
            have HSW := hide (fun (W : World) (hb6 : Below w.heap.size w W) => (⟨(hb6.cell (p := ⟨g, k * 11 + 3, none⟩) hg).trans e3, (hb6.cell (p := ⟨g, k * 11 + 4, none⟩) hg).trans e4⟩ : W.cell? ⟨g, k * 11 + 3, none⟩ = some (.int .i64 x.size) ∧ W.cell? ⟨g, k * 11 + 4, none⟩ = some (.int .i64 x.spacing)))
            have hbi1 := hbi.drew
            have S0 := HSW.out _ hbi1
            have HO1 := hide HW2.out.drew
            have HP1 := hide HP5.out.drew
            refine wp_region_held_drew (S := fun W => W.cell? ⟨g, k * 11 + 3, none⟩ = some (.int .i64 x.size) ∧ W.cell? ⟨g, k * 11 + 4, none⟩ = some (.int .i64 x.spacing)) (by kernel_rfl) S0 (fun hHeld => ?_)
            clear S0 hbi HW2 HP5
            generalize wr.drew = wB at *
            have HS := hide (fun (W : World) (hb6 : Below wB.heap.size wB W) => HSW.out _ (below_on hbi1 hb6))
            refine take_at (i := 0) (v := v2) (some 50) rfl rfl (by kernel_rfl) (by kernel_rfl) (by kernel_rfl) (fun _ _ _ h => h) (yieldsIf_move (by rfl) _ rfl _ rfl) hHeld ?_
            simp only [Act.put, List.setIfInBounds_toArray, List.set_cons_zero, List.set_cons_succ]
            refine take_at (i := 1) (v := Value.pointer (some ⟨g, k * 11, none⟩)) (some 51) rfl rfl (by kernel_rfl) (by kernel_rfl) (by kernel_rfl) (fun _ _ _ h => h) (yieldsIf_move (by rfl) _ rfl _ rfl) hHeld ?_
            simp only [Act.put, List.setIfInBounds_toArray, List.set_cons_zero, List.set_cons_succ]
            refine take_at (i := 2) (v := .int .i64 k) (some 52) rfl rfl (by kernel_rfl) (by kernel_rfl) (by kernel_rfl) (fun _ _ _ h => h) (yieldsIf_move (by rfl) _ rfl _ rfl) hHeld ?_
            simp only [Act.put, List.setIfInBounds_toArray, List.set_cons_zero, List.set_cons_succ]
            refine take_at (i := 3) (v := Value.string t) (some 53) rfl rfl (by kernel_rfl) (by kernel_rfl) (by kernel_rfl) (fun _ _ _ h => h) (yieldsIf_move (by rfl) _ rfl _ rfl) hHeld ?_
            simp only [Act.put, List.setIfInBounds_toArray, List.set_cons_zero, List.set_cons_succ]
            refine take_at (i := 4) (v := Value.string t) (some 54) rfl rfl (by kernel_rfl) (by kernel_rfl) (by kernel_rfl) (fun _ _ _ h => h) (yieldsIf_move (by rfl) _ rfl _ rfl) hHeld ?_
            simp only [Act.put, List.setIfInBounds_toArray, List.set_cons_zero, List.set_cons_succ]
            refine take_at (i := 5) (v := Value.pointer (some ⟨g, k * 11, none⟩)) (some 55) rfl rfl (by kernel_rfl) (by kernel_rfl) (by kernel_rfl) (fun _ _ _ h => h) (yieldsIf_move (by rfl) _ rfl _ rfl) hHeld ?_
            simp only [Act.put, List.setIfInBounds_toArray, List.set_cons_zero, List.set_cons_succ]
            refine take_at (i := 6) (v := Value.pointer (some ⟨g, k * 11, none⟩)) (some 56) rfl rfl (by kernel_rfl) (by kernel_rfl) (by kernel_rfl) (fun _ _ _ h => h) (Or.inl ⟨by rfl, fun W hW => ?_⟩) hHeld ?_
            · go_simp
            simp only [Act.put, List.setIfInBounds_toArray, List.set_cons_zero, List.set_cons_succ]
            refine take_at (i := 7) (v := Value.pointer (some ⟨g, k * 11 + 3, none⟩)) (some 57) rfl rfl (by kernel_rfl) (by kernel_rfl) (by kernel_rfl) (fun _ _ _ h => h) (Or.inl ⟨by rfl, fun W hW => ?_⟩) hHeld ?_
            · go_simp
            simp only [Act.put, List.setIfInBounds_toArray, List.set_cons_zero, List.set_cons_succ]
            refine take_at (i := 8) (v := .int .i64 x.size) (some 58) rfl rfl (by kernel_rfl) (by kernel_rfl) (by kernel_rfl) (fun _ _ _ h => h) (Or.inl ⟨by rfl, fun W hW => ?_⟩) hHeld ?_
            · have h4 := hW.1; go_simp
            simp only [Act.put, List.setIfInBounds_toArray, List.set_cons_zero, List.set_cons_succ]
            refine take_at (i := 9) (v := Value.pointer (some ⟨g, k * 11, none⟩)) (some 59) rfl rfl (by kernel_rfl) (by kernel_rfl) (by kernel_rfl) (fun _ _ _ h => h) (yieldsIf_move (by rfl) _ rfl _ rfl) hHeld ?_
            simp only [Act.put, List.setIfInBounds_toArray, List.set_cons_zero, List.set_cons_succ]
            refine take_at (i := 10) (v := Value.pointer (some ⟨g, k * 11, none⟩)) (some 60) rfl rfl (by kernel_rfl) (by kernel_rfl) (by kernel_rfl) (fun _ _ _ h => h) (Or.inl ⟨by rfl, fun W hW => ?_⟩) hHeld ?_
            · go_simp
            simp only [Act.put, List.setIfInBounds_toArray, List.set_cons_zero, List.set_cons_succ]
            refine take_at (i := 11) (v := Value.pointer (some ⟨g, k * 11 + 4, none⟩)) (some 61) rfl rfl (by kernel_rfl) (by kernel_rfl) (by kernel_rfl) (fun _ _ _ h => h) (Or.inl ⟨by rfl, fun W hW => ?_⟩) hHeld ?_
            · go_simp
            simp only [Act.put, List.setIfInBounds_toArray, List.set_cons_zero, List.set_cons_succ]
            refine take_at (i := 12) (v := .int .i64 x.spacing) (some 62) rfl rfl (by kernel_rfl) (by kernel_rfl) (by kernel_rfl) (fun _ _ _ h => h) (Or.inl ⟨by rfl, fun W hW => ?_⟩) hHeld ?_
            · have h4 := hW.2; go_simp
            simp only [Act.put, List.setIfInBounds_toArray, List.set_cons_zero, List.set_cons_succ]
            refine take_at (i := 14) (v := .int .i64 j) (some 64) rfl rfl (by kernel_rfl) (by kernel_rfl) (by kernel_rfl) (fun _ _ _ h => h) (yieldsIf_move (by rfl) _ rfl _ rfl) hHeld ?_
            simp only [Act.put, List.setIfInBounds_toArray, List.set_cons_zero, List.set_cons_succ]
            refine take_at (i := 15) (v := Value.slice (some ad) pcs.length c5) (some 65) rfl rfl (by kernel_rfl) (by kernel_rfl) (by kernel_rfl) (fun _ _ _ h => h) (yieldsIf_move (by rfl) _ rfl _ rfl) hHeld ?_
            simp only [Act.put, List.setIfInBounds_toArray, List.set_cons_zero, List.set_cons_succ]
            refine take_at (i := 16) (v := .int .i64 pcs.length) (some 66) rfl rfl (by kernel_rfl) (by kernel_rfl) (by kernel_rfl) (fun _ _ _ h => h) (Or.inl ⟨by rfl, fun W hW => ?_⟩) hHeld ?_
            · go_simp
            simp only [Act.put, List.setIfInBounds_toArray, List.set_cons_zero, List.set_cons_succ]
            refine take_at (i := 17) (v := .int .i64 ((pcs.length : Int) - 1)) (some 67) rfl rfl (by kernel_rfl) (by kernel_rfl) (by kernel_rfl) (fun _ _ _ h => h) (Or.inl ⟨by rfl, fun W hW => ?_⟩) hHeld ?_
            · go_simp
            simp only [Act.put, List.setIfInBounds_toArray, List.set_cons_zero, List.set_cons_succ]
            refine take_at (i := 18) (v := .bool lb) (some 68) rfl rfl (by kernel_rfl) (by kernel_rfl) (by kernel_rfl) (fun _ _ _ h => h) (Or.inl ⟨by rfl, fun W hW => ?_⟩) hHeld ?_
            · go_simp; exact ZL.out
            simp only [Act.put, List.setIfInBounds_toArray, List.set_cons_zero, List.set_cons_succ]
            refine wpAnyH_ready (rs := [13]) (by kernel_rfl) (by simp) ?_
            refine AllReadyH.cons rfl (fun K1 hK1 => ?_) AllReadyH.nil
            go_simp
            go_at_call 9
            refine (txW_any x t _ hts).mono ?_
            rintro e w6 ⟨rfl, hb6⟩
            have hH6 := HS.out _ hb6
            have HO6 := hide (own_keep HO1.out hb6 (own_lt HO1.out))
            have HP6 := hide (own_keep HP1.out hb6 (own_lt HP1.out))
            have bi6 := below_on hbi1 hb6
            refine hK1.out _ _ hH6 (fun hH1 => ?_)
            try simp only [Act.put, List.setIfInBounds_toArray, List.set_cons_zero, List.set_cons_succ]
            refine take_at (i := 19) (v := Value.agg #[Value.pointer (some ⟨g, k * 11, none⟩), .int .i64 k, .string t, .int .i64 (txW x t), .bool lb]) (some 69) rfl rfl (by kernel_rfl) (by kernel_rfl) (by kernel_rfl) (fun _ _ _ h => h) (yieldsIf_build (by rfl) 96 _ rfl [(0, Value.pointer (some ⟨g, k * 11, none⟩)), (1, .int .i64 k), (2, .string t), (3, .int .i64 (txW x t)), (4, .bool lb)] rfl _ (by kernel_rfl)) hH6 ?_
            simp only [Act.put, List.setIfInBounds_toArray, List.set_cons_zero, List.set_cons_succ]
            refine wpAnyH_ready (rs := [20]) (by kernel_rfl) (by simp) ?_
            refine AllReadyH.cons rfl (fun K2 hK2 => ?_) AllReadyH.nil
            go_simp
            have HVA := hide (HO6.out.alloc (.cells #[Value.pointer (some ⟨g, k * 11, none⟩), .int .i64 k, .string t, .int .i64 (txW x t), .bool lb] 96))
            have HPA := hide (HP6.out.alloc (.cells #[Value.pointer (some ⟨g, k * 11, none⟩), .int .i64 k, .string t, .int .i64 (txW x t), .bool lb] 96))
            have HBX := hide (Blk.new w6 96 #[Value.pointer (some ⟨g, k * 11, none⟩), .int .i64 k, .string t, .int .i64 (txW x t), .bool lb])
            have HBL := hide (bi6.alloc bi6.size (.cells #[Value.pointer (some ⟨g, k * 11, none⟩), .int .i64 k, .string t, .int .i64 (txW x t), .bool lb] 96))
            have hH7 := HSW.out _ HBL.out
            refine hK2.out _ _ hH7 (fun hH2 => ?_)
            try simp only [Act.put, List.setIfInBounds_toArray, List.set_cons_zero, List.set_cons_succ]
            refine wpAnyH_ready (rs := [21]) (by kernel_rfl) (by simp) ?_
            refine AllReadyH.cons rfl (fun K3 hK3 => ?_) AllReadyH.nil
            refine step_app1 rfl (.tmp 50) (.tmp 70) _ rfl w.heap.size 96 _ 5 48 Tryd.underlying78 part_info rfl (Nat.succ_pos _) _ lst.length _ rfl HVA.out w6.heap.size 1 _ HBX.out rfl rfl rfl hlj.out (Nat.le_of_ble_eq_true rfl) HBL.out.size (fun v4 w4 hown4 hg4 => ?_)
            have hb9 := own_below HVA.out HBL.out (Nat.le_refl _) (Nat.le_refl _) hg4
            have HP9 := hide (own_other HPA.out HVA.out (by decide) hg4)
            have O4 := hide hown4
            clear hown4 hg4
            have hH9 := HSW.out _ hb9
            refine hK3.out _ _ hH9 (fun hH3 => ?_)
            try simp only [Act.put, List.setIfInBounds_toArray, List.set_cons_zero, List.set_cons_succ]
            refine take_at (i := 22) (v := v4) (some 3) rfl rfl (by kernel_rfl) (by kernel_rfl) (by kernel_rfl) (fun _ _ _ h => h) (Or.inl ⟨by rfl, fun W hW => ?_⟩) hH9 ?_
            · go_simp
            simp only [Act.put, List.setIfInBounds_toArray, List.set_cons_zero, List.set_cons_succ]
            refine wpAnyH_done (by kernel_rfl) ?_ _
            have HLE := hide (show (l ++ textTo k x pcs (j + 1)).length = lst.length + 1 from by rw [HNX.out, ← List.append_assoc, HLS.out, List.length_append]; rfl)
            have HLC := hide (show ptCells g (l ++ textTo k x pcs (j + 1)) = ptCells g lst ++ ptC g ⟨k, t, txW x t, lb⟩ from by rw [HNX.out, ← List.append_assoc, HLS.out, ptCells_snoc])
            clear HNX HLS HVA HPA HBX HBL HS HSW hH9 hH7 hH6 hH3 hH2 hH1
            go_wp2_with fail
            go_roundw
            case rel => exact ⟨j + 1, by omega, by go_num, by rw [HLE.out, HLC.out]; exact O4.out, HP9.out, hb9⟩
            case measure => simp only [intOf]; omega
          · obtain rfl : j = pcs.length := by omega
            have HN3 := hide (show l ++ textTo k x pcs pcs.length = partsTo xs (k + 1) from by rw [HN.out, hp.out, HTX.out])
            rw [HN3.out] at HW2
            clear HN3 HN hp HTX
            go_wp2_with fail
            go_roundw
            case rel => exact ⟨k + 1, by omega, by go_num, HW2.out, hbi⟩
            case measure => simp only [intOf]; omega
      · have hp1 := hide (HPO.out.trans (if_neg k1))
        have z1 : (x.kind == 1) = false := by simp [k1]
        clear HPO c2 c3 c4 c6
        by_cases k6 : x.kind = 6
        · have hp := hide (hp1.out.trans (if_pos (.inl k6)))
          have z6 : (x.kind == 6) = true := by simp [k6]
          have HVA := hide (HW.out.alloc (.cells #[.pointer (some ⟨g, k * 11, none⟩), .int .i64 k, .string ⟨#[]⟩, .int .i64 0, .bool true] 96))
          have HBX := hide (Blk.new wr 96 #[.pointer (some ⟨g, k * 11, none⟩), .int .i64 k, .string ⟨#[]⟩, .int .i64 0, .bool true])
          have HBL := hide (hbel.alloc hszr (.cells #[.pointer (some ⟨g, k * 11, none⟩), .int .i64 k, .string ⟨#[]⟩, .int .i64 0, .bool true] 96))
          have HN2 := hide (show partsTo xs (k + 1) = l ++ [⟨k, ByteArray.empty, 0, true⟩] from by rw [HN.out, hp.out])
          have HLE := hide (show (partsTo xs (k + 1)).length = l.length + 1 from by rw [HN2.out, List.length_append]; rfl)
          clear hp hp1 HN HW
          go_wp2_with (first | (at_builtin; refine wpList_app1 rfl (.tmp 77) (.tmp 81) _ rfl w.heap.size 96 _ 5 48 Tryd.underlying78 part_info rfl (Nat.succ_pos _) _ l.length _ rfl HVA.out wr.heap.size 1 _ HBX.out rfl rfl rfl hlen.out (Nat.le_of_ble_eq_true rfl) HBL.out.size ?_; intro v4 w4 hown4 hg4; have hb9 := own_below HVA.out HBL.out (Nat.le_refl _) (Nat.le_refl _) hg4; have O4 := hide hown4; clear hown4 hg4) | fail)
          go_roundw
          case rel => exact ⟨k + 1, by omega, by go_num, by rw [HLE.out, HN2.out, ptCells_snoc]; exact O4.out, hb9⟩
          case measure => simp only [intOf]; omega
        · have z6 : (x.kind == 6) = false := by simp [k6]
          by_cases k7 : x.kind = 7
          · have hp := hide (hp1.out.trans (if_pos (.inr (.inl k7))))
            have z7 : (x.kind == 7) = true := by simp [k7]
            have HVA := hide (HW.out.alloc (.cells #[.pointer (some ⟨g, k * 11, none⟩), .int .i64 k, .string ⟨#[]⟩, .int .i64 0, .bool true] 96))
            have HBX := hide (Blk.new wr 96 #[.pointer (some ⟨g, k * 11, none⟩), .int .i64 k, .string ⟨#[]⟩, .int .i64 0, .bool true])
            have HBL := hide (hbel.alloc hszr (.cells #[.pointer (some ⟨g, k * 11, none⟩), .int .i64 k, .string ⟨#[]⟩, .int .i64 0, .bool true] 96))
            have HN2 := hide (show partsTo xs (k + 1) = l ++ [⟨k, ByteArray.empty, 0, true⟩] from by rw [HN.out, hp.out])
            have HLE := hide (show (partsTo xs (k + 1)).length = l.length + 1 from by rw [HN2.out, List.length_append]; rfl)
            clear hp hp1 HN HW
            go_wp2_with (first | (at_builtin; refine wpList_app1 rfl (.tmp 77) (.tmp 81) _ rfl w.heap.size 96 _ 5 48 Tryd.underlying78 part_info rfl (Nat.succ_pos _) _ l.length _ rfl HVA.out wr.heap.size 1 _ HBX.out rfl rfl rfl hlen.out (Nat.le_of_ble_eq_true rfl) HBL.out.size ?_; intro v4 w4 hown4 hg4; have hb9 := own_below HVA.out HBL.out (Nat.le_refl _) (Nat.le_refl _) hg4; have O4 := hide hown4; clear hown4 hg4) | fail)
            go_roundw
            case rel => exact ⟨k + 1, by omega, by go_num, by rw [HLE.out, HN2.out, ptCells_snoc]; exact O4.out, hb9⟩
            case measure => simp only [intOf]; omega
          · have z7 : (x.kind == 7) = false := by simp [k7]
            by_cases k5 : x.kind = 5
            · have hp := hide (hp1.out.trans (if_pos (.inr (.inr k5))))
              have z5 : (x.kind == 5) = true := by simp [k5]
              have HVA := hide (HW.out.alloc (.cells #[.pointer (some ⟨g, k * 11, none⟩), .int .i64 k, .string ⟨#[]⟩, .int .i64 0, .bool true] 96))
              have HBX := hide (Blk.new wr 96 #[.pointer (some ⟨g, k * 11, none⟩), .int .i64 k, .string ⟨#[]⟩, .int .i64 0, .bool true])
              have HBL := hide (hbel.alloc hszr (.cells #[.pointer (some ⟨g, k * 11, none⟩), .int .i64 k, .string ⟨#[]⟩, .int .i64 0, .bool true] 96))
              have HN2 := hide (show partsTo xs (k + 1) = l ++ [⟨k, ByteArray.empty, 0, true⟩] from by rw [HN.out, hp.out])
              have HLE := hide (show (partsTo xs (k + 1)).length = l.length + 1 from by rw [HN2.out, List.length_append]; rfl)
              clear hp hp1 HN HW
              go_wp2_with (first | (at_builtin; refine wpList_app1 rfl (.tmp 77) (.tmp 81) _ rfl w.heap.size 96 _ 5 48 Tryd.underlying78 part_info rfl (Nat.succ_pos _) _ l.length _ rfl HVA.out wr.heap.size 1 _ HBX.out rfl rfl rfl hlen.out (Nat.le_of_ble_eq_true rfl) HBL.out.size ?_; intro v4 w4 hown4 hg4; have hb9 := own_below HVA.out HBL.out (Nat.le_refl _) (Nat.le_refl _) hg4; have O4 := hide hown4; clear hown4 hg4) | fail)
              go_roundw
              case rel => exact ⟨k + 1, by omega, by go_num, by rw [HLE.out, HN2.out, ptCells_snoc]; exact O4.out, hb9⟩
              case measure => simp only [intOf]; omega
            · have z5 : (x.kind == 5) = false := by simp [k5]
              have hp2 := hide (hp1.out.trans (if_neg (by omega)))
              clear hp1
              by_cases k4 : x.kind = 4
              · have hp := hide (hp2.out.trans (if_pos k4))
                have z4 : (x.kind == 4) = true := by simp [k4]
                have HCT := hide (cutI_any x.w (cut x.w) wr rfl)
                generalize cut x.w = cw at *
                have hp1 := hp2
                have HVA := hide (HW.out.alloc (.cells #[.pointer (some ⟨g, k * 11, none⟩), .int .i64 k, .string ⟨#[]⟩, .int .i64 (max 0 cw), .bool true] 96))
                have HBX := hide (Blk.new wr 96 #[.pointer (some ⟨g, k * 11, none⟩), .int .i64 k, .string ⟨#[]⟩, .int .i64 (max 0 cw), .bool true])
                have HBL := hide (hbel.alloc hszr (.cells #[.pointer (some ⟨g, k * 11, none⟩), .int .i64 k, .string ⟨#[]⟩, .int .i64 (max 0 cw), .bool true] 96))
                have HN2 := hide (show partsTo xs (k + 1) = l ++ [⟨k, ByteArray.empty, (max 0 cw), true⟩] from by rw [HN.out, hp.out])
                have HLE := hide (show (partsTo xs (k + 1)).length = l.length + 1 from by rw [HN2.out, List.length_append]; rfl)
                clear hp hp1 HN HW
                go_wp2_with (first | (go_at_call 13; refine HCT.out.mono ?_; rintro e w9 ⟨rfl, rfl⟩) | (at_builtin; refine wpList_app1 rfl (.tmp 85) (.tmp 95) _ rfl w.heap.size 96 _ 5 48 Tryd.underlying78 part_info rfl (Nat.succ_pos _) _ l.length _ rfl HVA.out wr.heap.size 1 _ HBX.out rfl rfl rfl hlen.out (Nat.le_of_ble_eq_true rfl) HBL.out.size ?_; intro v4 w4 hown4 hg4; have hb9 := own_below HVA.out HBL.out (Nat.le_refl _) (Nat.le_refl _) hg4; have O4 := hide hown4; clear hown4 hg4) | fail)
                go_roundw
                case rel => exact ⟨k + 1, by omega, by go_num, by rw [HLE.out, HN2.out, ptCells_snoc]; exact O4.out, hb9⟩
                case measure => simp only [intOf]; omega
              · have hp := hide (hp2.out.trans (if_neg k4))
                have z4 : (x.kind == 4) = false := by simp [k4]
                have HCT := hide (cutI_any x.w (cut x.w) wr rfl)
                generalize cut x.w = cw at *
                have hp1 := hp2
                have HVA := hide (HW.out.alloc (.cells #[.pointer (some ⟨g, k * 11, none⟩), .int .i64 k, .string ⟨#[]⟩, .int .i64 cw, .bool true] 96))
                have HBX := hide (Blk.new wr 96 #[.pointer (some ⟨g, k * 11, none⟩), .int .i64 k, .string ⟨#[]⟩, .int .i64 cw, .bool true])
                have HBL := hide (hbel.alloc hszr (.cells #[.pointer (some ⟨g, k * 11, none⟩), .int .i64 k, .string ⟨#[]⟩, .int .i64 cw, .bool true] 96))
                have HN2 := hide (show partsTo xs (k + 1) = l ++ [⟨k, ByteArray.empty, cw, true⟩] from by rw [HN.out, hp.out])
                have HLE := hide (show (partsTo xs (k + 1)).length = l.length + 1 from by rw [HN2.out, List.length_append]; rfl)
                clear hp hp1 HN HW
                go_wp2_with (first | (go_at_call 13; refine HCT.out.mono ?_; rintro e w9 ⟨rfl, rfl⟩) | (at_builtin; refine wpList_app1 rfl (.tmp 21) (.tmp 30) _ rfl w.heap.size 96 _ 5 48 Tryd.underlying78 part_info rfl (Nat.succ_pos _) _ l.length _ rfl HVA.out wr.heap.size 1 _ HBX.out rfl rfl rfl hlen.out (Nat.le_of_ble_eq_true rfl) HBL.out.size ?_; intro v4 w4 hown4 hg4; have hb9 := own_below HVA.out HBL.out (Nat.le_refl _) (Nat.le_refl _) hg4; have O4 := hide hown4; clear hown4 hg4) | fail)
                go_roundw
                case rel => exact ⟨k + 1, by omega, by go_num, by rw [HLE.out, HN2.out, ptCells_snoc]; exact O4.out, hb9⟩
                case measure => simp only [intOf]; omega
    · obtain rfl : k = xs.length := by omega
      go_wp2_with fail
      go_ret
      exact ⟨v, rfl, HW.out, hbel⟩
end Go.Proofs.YtadlabndbomgmaaDoor
