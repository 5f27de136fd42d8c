/- The walk of the statement RasterParts: it returns true. -/
import Derived.BigQuiet
import Derived.Handy
import Derived.IntWalk
import Derived.Deep.MidRow
import Derived.Test.YtbpkffoooieejaaDrawn
import Derived.Test.YtbpkffoooieejaaGroup
namespace Go.Proofs.Ytbpkffoooieejaa
open Go.ChangeShapes Go.WideShapes Go.ChangeAt Go.RowKit
theorem drawE_of {l : List Cm} {wd ht : Int} (hb : (1 ≤ wd ∧ wd ≤ 64) ∧ 1 ≤ ht ∧ ht ≤ 64) (h : (flatF l).1 = 0) : drawE l wd ht = (0, drawF glyphF (flatF l).2 wd.toNat ht.toNat) := by
  unfold drawE; rw [if_pos hb, if_neg (by simp [h])]
theorem drawE_err {l : List Cm} {wd ht : Int} (h : (drawE l wd ht).1 ≠ 0) : (drawE l wd ht).2 = [] := by
  unfold drawE at h ⊢
  split
  · split
    · rfl
    · rename_i h1 h2
      rw [if_pos h1, if_neg h2] at h
      exact absurd rfl h
  · rfl
theorem drawE_flat {l : List Cm} {wd ht : Int} (hb : (1 ≤ wd ∧ wd ≤ 64) ∧ 1 ≤ ht ∧ ht ≤ 64) (h : (drawE l wd ht).1 = 0) : (flatF l).1 = 0 := by
  unfold drawE at h
  rw [if_pos hb] at h
  split at h
  · exact h
  · rename_i h1; simpa using h1
theorem drawF_congr {a b : List Dr} (h : ∀ x y, pixF glyphF a x y white = pixF glyphF b x y white) (W H : Nat) : drawF glyphF a W H = drawF glyphF b W H := by
  unfold drawF
  exact List.map_congr_left fun i _ => h _ _
theorem parts_one {l : List Cm} (h : (drawE l 6 6).1 = 0) : (drawE (wrapL (groupC 1000) l) 6 6).2 = (drawE l 6 6).2 := by
  have hf := drawE_flat (by omega) h
  have h1 := (group_law (c := groupC 1000) (d := endC) true rfl rfl rfl hf).1
  have h2 : (flatF (wrapL (groupC 1000) l)).1 = 0 := h1
  rw [drawE_of (by omega) hf, drawE_of (by omega) h2]
  exact drawF_congr (fun x y => group_one glyphF (c := groupC 1000) (d := endC) rfl rfl rfl hf x y) _ _
theorem parts_none {l : List Cm} (h : (drawE l 6 6).1 = 0) : (drawE (wrapL (groupC 0) l) 6 6).2 = List.replicate 36 4294967295 := by
  have hf := drawE_flat (by omega) h
  have h1 := (group_law (c := groupC 0) (d := endC) false rfl rfl rfl hf).1
  have h2 : (flatF (wrapL (groupC 0) l)).1 = 0 := h1
  rw [drawE_of (by omega) h2]
  have h3 : ∀ x y, pixF glyphF (flatF (wrapL (groupC 0) l)).2 x y white = 4294967295 := fun x y => group_none glyphF (c := groupC 0) (d := endC) rfl rfl rfl hf x y
  show drawF glyphF (flatF (wrapL (groupC 0) l)).2 6 6 = _
  unfold drawF
  refine List.eq_replicate_iff.2 ⟨by simp, fun b hb => ?_⟩
  obtain ⟨i, _, rfl⟩ := List.mem_map.1 hb
  exact h3 _ _
theorem drawE_len {l : List Cm} (h : (drawE l 6 6).1 = 0) : (drawE l 6 6).2.length = 36 := by
  rw [drawE_of (by omega) (drawE_flat (by omega) h), draw_len]; rfl
set_option maxRecDepth 100000 in
set_option maxHeartbeats 4000000 in
theorem parts_any (l : List Cm) (A : Option Addr) (n c : Nat) (w : World) (hr : Reads w w.heap.size 9 A n (cmCells l)) (hl : l.length = n) (hn : n ≤ c) (hc : c ≤ maxLen) :
    Calls Try.prog 6 #[.slice A n c] w fun e w' => e = .returned (.bool true) ∧ Below w.heap.size w w' := by
  have B0 := hide (Blk.new w 28 #[.slice A n c])
  have L0 := (Below.refl w.heap.size w).alloc (Nat.le_refl _) (.cells #[.slice A n c] 28)
  have hsA : w.heap.size < (w.alloc (.cells #[.slice A n c] 28)).heap.size := by simp
  have R0 := hide ((hr.alloc (Nat.le_refl _) (.cells #[.slice A n c] 28)).more (Nat.le_of_lt hsA))
  have HC := hide (show l.length = n ∧ n ≤ c ∧ c ≤ maxLen from ⟨hl, hn, hc⟩)
  clear hr hl hn hc
  go_enter Try.func6, Try.ntmps6
  go_wp2_with fail
  generalize w.alloc (.cells #[.slice A n c] 28) = wA at *
  refine (small_any l A n c wA R0.out HC.out.1 HC.out.2.1 HC.out.2.2).mono ?_
  clear R0
  rintro e w1 ⟨v1, rfl, own1, hb1⟩
  have B1 := hide (B0.out.below hb1 hsA)
  have L1 := below_then L0 (Nat.le_refl _) hb1
  have hs20 : (smallF l).length ≤ 20 := by rw [smallF_len]; omega
  have hst := hide (smallF_txt l)
  clear L0 hb1 HC B0
  generalize smallF l = s at *
  obtain ⟨A1, c1, rfl, _, _⟩ := own_reads own1
  have hc1 : w1.cell? ⟨w.heap.size, 0, none⟩ = some (.slice A n c) := B1.out.cell 0
  have hf1 : w1.frozen? ⟨w.heap.size, 0, none⟩ = false := B1.out.frozen 0
  have hne : (Value.slice A1 s.length c1).ownBlock ≠ some w.heap.size := fun h => by have := own_ge own1 _ h; omega
  have B2 := hide (show Blk (w1.setCell ⟨w.heap.size, 0, none⟩ (.slice A1 s.length c1)) w.heap.size 28 #[.slice A1 s.length c1] from B1.out.set_ 0 _)
  have O2 := hide (own_far own1 (p := ⟨w.heap.size, 0, none⟩) hne (.slice A1 s.length c1))
  have L2 := L1.setCell (p := ⟨w.heap.size, 0, none⟩) (Nat.le_refl _) (.slice A1 s.length c1)
  clear B1 own1 hne L1
  go_wp2_with fail
  clear hc1 hf1
  generalize w1.setCell ⟨w.heap.size, 0, none⟩ (.slice A1 s.length c1) = w2 at *
  have hlt2 := B2.out.lt
  refine (Draw_any s 6 6 wA.heap.size c1 A1 w2 (by omega) (fun x hx => by have := hst.out x hx; omega) O2.out).mono ?_
  rintro e w3 ⟨v3, rfl, own3, hb3⟩
  have B3 := hide (B2.out.below hb3 hlt2)
  have O3 := hide (own_keep O2.out hb3 (own_lt O2.out))
  have L3 := below_then L2 (Nat.le_refl _) hb3
  have hs3 := hb3.size
  clear B2 O2 L2 hb3
  by_cases he : (drawE s 6 6).1 = 0
  · have P1 := hide (parts_one he)
    have P0 := hide (parts_none he)
    have hlen := drawE_len he
    rw [he]
    clear he
    generalize (drawE s 6 6).2 = D at *
    obtain ⟨A3, c3, rfl, _, rd3⟩ := own_reads own3
    rw [hlen] at rd3 ⊢
    have R3 := hide rd3
    have HN := hide (show (36 : Nat) ≤ 1000000 by omega)
    have hc3 : w3.cell? ⟨w.heap.size, 0, none⟩ = some (.slice A1 s.length c1) := B3.out.cell 0
    have G1 := hide (group_any s 1000 w.heap.size w3.heap.size c1 A1 w3 hs20 hst.out hc3 (Reads.of_own O3.out) (Nat.le_refl _))
    rw [P1.out, hlen] at G1
    clear hlen rd3 own3 hc3
    go_wp2_with fail
    refine G1.out.mono ?_
    clear G1
    rintro e w4 ⟨v4, rfl, own4, hb4⟩
    obtain ⟨A4, c4, rfl, _, rd4⟩ := own_reads own4
    have R4 := hide rd4
    have R5 := hide (R3.out.below hb4)
    have B4 := hide (B3.out.below hb4 B3.out.lt)
    have O4 := hide (own_keep O3.out hb4 (own_lt O3.out))
    have L4 := below_then L3 (Nat.le_refl _) hb4
    clear own4 rd4 hb4 R3 B3 O3 L3
    go_wp2_with fail
    refine (Eq_same A4 A3 36 c4 c3 _ _ D _ R4.out R5.out HN.out).mono ?_
    rintro e w5 ⟨rfl, rfl⟩
    go_wp2_with fail
    have hc4 : w4.cell? ⟨w.heap.size, 0, none⟩ = some (.slice A1 s.length c1) := B4.out.cell 0
    have G0 := group_any s 0 w.heap.size w4.heap.size c1 A1 w4 hs20 hst.out hc4 (Reads.of_own O4.out) (Nat.le_refl _)
    rw [P0.out, List.length_replicate] at G0
    refine G0.mono ?_
    clear G0 hc4
    rintro e w6 ⟨v6, rfl, own6, hb6⟩
    obtain ⟨A6, c6, rfl, _, rd6⟩ := own_reads own6
    have R6 := hide rd6
    have L6 := below_then L4 (Nat.le_refl _) hb6
    clear own6 rd6 hb6 L4
    go_wp2_with fail
    go_loop [32] (fun i => ∃ k : Nat, k ≤ 36 ∧ i = .int .i64 k) (fun i => 36 - (intOf i).toNat)
    case atStart => exact ⟨0, Nat.zero_le _, rfl⟩
    case round =>
      obtain ⟨k, hk, rfl⟩ := hrel
      by_cases hlt : k < 36
      · obtain ⟨ad, rfl, _, hcell⟩ := R6.out.int_at hlt
        rw [at0_of _ k (by simpa using hlt), List.getElem_replicate] at hcell
        have hk1 : (0 : Int) ≤ (k : Int) := by omega
        have hk2 : (k : Int) < 36 := by omega
        go_wp2
        go_round
        case rel => exact ⟨k + 1, by omega, by go_num⟩
        case measure => simp [intOf]; omega
      · obtain rfl : k = 36 := by omega
        go_wp2_with (first | (go_at_call 12; refine (drawn_any _).mono ?_; rintro e w9 ⟨rfl, hb9⟩; have L9 := below_then L6 (Nat.le_refl _) hb9) | fail)
        go_ret
        exact ⟨rfl, L9⟩
  · have hD := drawE_err he
    have z1 : ((drawE s 6 6).1 != 0) = true := by simp [he]
    rw [hD] at own3
    obtain ⟨A3, c3, rfl, _, _⟩ := own_reads own3
    rw [show ([] : List Int).length = 0 from rfl]
    clear hD own3 he
    go_wp2_with (first | (go_at_call 12; refine (drawn_any _).mono ?_; rintro e w9 ⟨rfl, hb9⟩; have L9 := below_then L3 (Nat.le_refl _) hb9) | fail)
    go_ret
    exact ⟨rfl, L9⟩
end Go.Proofs.Ytbpkffoooieejaa
