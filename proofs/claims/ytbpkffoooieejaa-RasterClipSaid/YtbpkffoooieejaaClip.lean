/- The walk of the statement RasterClip: it returns true. -/
import Derived.BigQuiet
import Derived.Handy
import Derived.IntWalk
import Derived.Deep.QuietTactic
import Derived.Deep.MidRow
import Derived.Test.YtbpkffoooieejaaParts
import Derived.Test.YtbpkffoooieejaaClipFn
namespace Go.Proofs.Ytbpkffoooieejaa
open Go.ChangeShapes Go.WideShapes Go.ChangeAt Go.RowKit
theorem ext_at0 {l m : List Int} (hl : l.length = m.length) (h : ∀ i, i < l.length → at0 l i = at0 m i) : l = m :=
  List.ext_getElem hl fun i h1 h2 => by rw [← at0_of l i h1, ← at0_of m i h2]; exact h i h1
theorem drawE_len8 {l : List Cm} (h : (drawE l 8 8).1 = 0) : (drawE l 8 8).2.length = 64 := by
  rw [drawE_of (by omega) (drawE_flat (by omega) h), draw_len]; rfl
theorem clip_ok {s : List Cm} (h : (drawE s 8 8).1 = 0) (r : Rc) : (drawE (wrapL (clipC r) s) 8 8).1 = 0 := by
  have hf := drawE_flat (by omega) h
  have h2 : (flatF (wrapL (clipC r) s)).1 = 0 := (clip_law (c := clipC r) (d := endC) rfl rfl hf).1
  rw [drawE_of (by omega) h2]
theorem clip_at {s : List Cm} (h : (drawE s 8 8).1 = 0) (r : Rc) (hr : rectC (clipC r) = r) (i : Nat) (hi : i < 64) :
    at0 (drawE (wrapL (clipC r) s) 8 8).2 i = if inR r ((i : Int) % 8 * 64 + 32) ((i : Int) / 8 * 64 + 32) then at0 (drawE s 8 8).2 i else 4294967295 := by
  have hf := drawE_flat (by omega) h
  have h2 : (flatF (wrapL (clipC r) s)).1 = 0 := (clip_law (c := clipC r) (d := endC) rfl rfl hf).1
  rw [drawE_of (by omega) h2, drawE_of (by omega) hf]
  show at0 (drawF glyphF (flatF (wrapL (clipC r) s)).2 8 8) i = if inR r ((i : Int) % 8 * 64 + 32) ((i : Int) / 8 * 64 + 32) then at0 (drawF glyphF (flatF s).2 8 8) i else 4294967295
  rw [draw_at glyphF _ 8 8 i (by omega), draw_at glyphF _ 8 8 i (by omega)]
  have h3 := clip_pix glyphF (c := clipC r) (d := endC) rfl rfl hf ((i : Int) % 8 * 64 + 32) ((i : Int) / 8 * 64 + 32)
  rw [hr] at h3
  exact h3
def bigR : Rc := ⟨-1048576, -1048576, 2097152, 2097152⟩
theorem clip_big {s : List Cm} (h : (drawE s 8 8).1 = 0) : (drawE (wrapL (clipC bigR) s) 8 8).2 = (drawE s 8 8).2 := by
  have h1 := drawE_len8 (clip_ok h bigR)
  refine ext_at0 (by rw [h1, drawE_len8 h]) fun i hi => ?_
  rw [clip_at h bigR (by kernel_rfl) i (by omega), if_pos]
  rw [inR_iff]
  simp only [bigR]
  omega
def cutR (x y a b : Int) : Rc := ⟨IntKind.i16.wrap x, IntKind.i16.wrap y, IntKind.u16.wrap a, IntKind.u16.wrap b⟩
theorem wi16' (n : Int) : -32768 ≤ IntKind.i16.wrap n ∧ IntKind.i16.wrap n ≤ 32767 := by simp only [IntKind.wrap, IntKind.bits, IntKind.signed]; simp; omega
theorem wu16' (n : Int) : 0 ≤ IntKind.u16.wrap n ∧ IntKind.u16.wrap n ≤ 65535 := by rw [IntKind.wrap_u16]; omega
theorem cutR_rect (x y a b : Int) : rectC (clipC (cutR x y a b)) = cutR x y a b := by
  have h1 := wi16' x
  have h2 := wi16' y
  have h3 := wu16' a
  have h4 := wu16' b
  simp only [rectC, clipC, cutR]
  rw [cut_of (by omega) (by omega), cut_of (by omega) (by omega), cut_of (by omega) (by omega), cut_of (by omega) (by omega)]
set_option maxRecDepth 100000 in
set_option maxHeartbeats 4000000 in
theorem clipS_any (l : List Cm) (A : Option Addr) (n c : Nat) (x y a b : Int) (w : World) (hr : Reads w w.heap.size 9 A n (cmCells l)) (hl : l.length = n) (hn : n ≤ c) (hc : c ≤ maxLen) :
    Calls Try.prog 5 #[.slice A n c, .agg #[.int .i64 x, .int .i64 y, .int .i64 a, .int .i64 b]] w fun e w' => e = .returned (.bool true) ∧ Below w.heap.size w w' := by
  have B0 := hide ((Blk.new w 28 #[.slice A n c]).alloc (.cells #[.int .i64 x, .int .i64 y, .int .i64 a, .int .i64 b] 36))
  have q0 := Blk.new (w.alloc (.cells #[.slice A n c] 28)) 36 #[.int .i64 x, .int .i64 y, .int .i64 a, .int .i64 b]
  rw [show (w.alloc (.cells #[.slice A n c] 28)).heap.size = w.heap.size + 1 by simp] at q0
  have Q0 := hide q0
  have L0 : Below w.heap.size w ((w.alloc (.cells #[.slice A n c] 28)).alloc (.cells #[.int .i64 x, .int .i64 y, .int .i64 a, .int .i64 b] 36)) := by go_grown
  have hsA : w.heap.size + 1 < ((w.alloc (.cells #[.slice A n c] 28)).alloc (.cells #[.int .i64 x, .int .i64 y, .int .i64 a, .int .i64 b] 36)).heap.size := by simp
  have R0 := hide (((hr.alloc (Nat.le_refl _) (.cells #[.slice A n c] 28)).alloc (by simp) (.cells #[.int .i64 x, .int .i64 y, .int .i64 a, .int .i64 b] 36)).more (by omega : w.heap.size ≤ ((w.alloc (.cells #[.slice A n c] 28)).alloc (.cells #[.int .i64 x, .int .i64 y, .int .i64 a, .int .i64 b] 36)).heap.size))
  have HC := hide (show l.length = n ∧ n ≤ c ∧ c ≤ maxLen from ⟨hl, hn, hc⟩)
  clear hr hl hn hc q0
  go_enter Try.func5, Try.ntmps5
  go_wp2_with fail
  generalize (w.alloc (.cells #[.slice A n c] 28)).alloc (.cells #[.int .i64 x, .int .i64 y, .int .i64 a, .int .i64 b] 36) = wA at *
  refine (small_any l A n c wA R0.out HC.out.1 HC.out.2.1 HC.out.2.2).mono ?_
  clear R0
  rintro e w1 ⟨v1, rfl, own1, hb1⟩
  have B1 := hide (B0.out.below hb1 (by omega))
  have Q1 := hide (Q0.out.below hb1 hsA)
  have L1 := below_then L0 (Nat.le_refl _) hb1
  have hs1 := hb1.size
  have hs20 : (smallF l).length ≤ 20 := by rw [smallF_len]; omega
  have hst := hide (smallF_txt l)
  clear L0 hb1 HC B0 Q0
  generalize smallF l = s at *
  obtain ⟨A1, c1, rfl, _, _⟩ := own_reads own1
  have hc1 : w1.cell? ⟨w.heap.size, 0, none⟩ = some (.slice A n c) := B1.out.cell 0
  have hf1 : w1.frozen? ⟨w.heap.size, 0, none⟩ = false := B1.out.frozen 0
  have hne : (Value.slice A1 s.length c1).ownBlock ≠ some w.heap.size := fun h => by have := own_ge own1 _ h; omega
  have hne1 : (Value.slice A1 s.length c1).ownBlock ≠ some (w.heap.size + 1) := fun h => by have := own_ge own1 _ h; omega
  have B2 := hide (show Blk (w1.setCell ⟨w.heap.size, 0, none⟩ (.slice A1 s.length c1)) w.heap.size 28 #[.slice A1 s.length c1] from B1.out.set_ 0 _)
  have Q2 := hide (Q1.out.far (p := ⟨w.heap.size, 0, none⟩) (by show w.heap.size + 1 ≠ w.heap.size; omega) (.slice A1 s.length c1))
  have O2 := hide (own_far own1 (p := ⟨w.heap.size, 0, none⟩) hne (.slice A1 s.length c1))
  have L2 := L1.setCell (p := ⟨w.heap.size, 0, none⟩) (Nat.le_refl _) (.slice A1 s.length c1)
  have hs2 : wA.heap.size ≤ (w1.setCell ⟨w.heap.size, 0, none⟩ (.slice A1 s.length c1)).heap.size := by simpa [World.setCell] using hs1
  clear B1 Q1 own1 hne L1
  go_wp2_with fail
  clear hc1 hf1
  generalize w1.setCell ⟨w.heap.size, 0, none⟩ (.slice A1 s.length c1) = w2 at *
  refine (Draw_any s 8 8 wA.heap.size c1 A1 w2 (by omega) (fun x hx => by have := hst.out x hx; omega) O2.out).mono ?_
  rintro e w3 ⟨v3, rfl, own3, hb3⟩
  have B3 := hide (B2.out.below hb3 B2.out.lt)
  have q3 := Q2.out.below hb3 Q2.out.lt
  have O3 := hide (own_keep O2.out hb3 (own_lt O2.out))
  have L3 := below_then L2 (Nat.le_refl _) hb3
  have HN3 := hide (show v3.ownBlock ≠ some (w.heap.size + 1) from fun h => by have := own_ge own3 _ h; omega)
  have HN1 := hide hne1
  have P3 := hide own3
  have d0 : w3.cell? ⟨w.heap.size + 1, 0, none⟩ = some (.int .i64 x) := q3.cell 0
  have d1 : w3.cell? ⟨w.heap.size + 1, 1, none⟩ = some (.int .i64 y) := q3.cell 1
  have d2 : w3.cell? ⟨w.heap.size + 1, 2, none⟩ = some (.int .i64 a) := q3.cell 2
  have d3 : w3.cell? ⟨w.heap.size + 1, 3, none⟩ = some (.int .i64 b) := q3.cell 3
  have Q3 := hide q3
  have hx := wi16' x
  have hy := wi16' y
  have ha := wu16' a
  have hb := wu16' b
  have HRI := hide (show (Try.prog.info? 36).map (·.size) = some (#[.int .i64 (IntKind.i16.wrap x), .int .i64 (IntKind.i16.wrap y), .int .i64 (IntKind.u16.wrap a), .int .i64 (IntKind.u16.wrap b)] : Array Value).size from rc_i (cutR x y a b))
  have HRO := hide (show (#[.int .i64 (IntKind.i16.wrap x), .int .i64 (IntKind.i16.wrap y), .int .i64 (IntKind.u16.wrap a), .int .i64 (IntKind.u16.wrap b)] : Array Value).all (·.oneCell') = true from rcA_one (cutR x y a b))
  have HNE := hide (show some w.heap.size ≠ some (w.heap.size + 1) from fun h => by injection h with h; omega)
  have HGE := hide (show w.heap.size ≤ w.heap.size + 1 by omega)
  clear B2 Q2 O2 L2 hb3 own3 hne1 q3 hs1 hs2 hsA
  go_wp2_with (first
    | (refine wpList_store_blk rfl 36 (.tmp 3) (.tmp 40) rfl (w.heap.size + 1) 36 #[.int .i64 x, .int .i64 y, .int .i64 a, .int .i64 b] #[.int .i64 (IntKind.i16.wrap x), .int .i64 (IntKind.i16.wrap y), .int .i64 (IntKind.u16.wrap a), .int .i64 (IntKind.u16.wrap b)] rfl rfl Q3.out rfl HRI.out HRO.out ?_; intro w4 q4 hg4; have B4 := hide (B3.out.grown hg4 HNE.out); have O4 := hide (O3.out.kept hg4 (.inr HN1.out)); have P4 := hide (P3.out.kept hg4 (.inr HN3.out)); have L4 := below_grown L3 (Nat.le_refl _) hg4 HGE.out; have e0 : w4.cell? ⟨w.heap.size + 1, 0, none⟩ = some (.int .i64 (IntKind.i16.wrap x)) := q4.cell 0; have e1 : w4.cell? ⟨w.heap.size + 1, 1, none⟩ = some (.int .i64 (IntKind.i16.wrap y)) := q4.cell 1; have e2 : w4.cell? ⟨w.heap.size + 1, 2, none⟩ = some (.int .i64 (IntKind.u16.wrap a)) := q4.cell 2; have e3 : w4.cell? ⟨w.heap.size + 1, 3, none⟩ = some (.int .i64 (IntKind.u16.wrap b)) := q4.cell 3; have Q4 := hide q4; clear q4 hg4 d0 d1 d2 d3)
    | fail)
  clear e0 e1 e2 e3 B3 O3 P3 Q3 L3
  have hlt4 := Q4.out.lt
  refine (clip_any s (cutR x y a b) w.heap.size w4.heap.size c1 A1 w4 hs20 hst.out (B4.out.cell 0) (Reads.of_own O4.out) (Nat.le_refl _)).mono ?_
  rintro e w5 ⟨v5, rfl, own5, hb5⟩
  have B5 := hide (B4.out.below hb5 B4.out.lt)
  have Q5 := hide (Q4.out.below hb5 hlt4)
  have O5 := hide (own_keep O4.out hb5 (own_lt O4.out))
  have P5 := hide (own_keep P4.out hb5 (own_lt P4.out))
  have S5 := hide own5
  have L5 := below_then L4 (Nat.le_refl _) hb5
  clear own5 hb5 B4 Q4 O4 P4 L4 hlt4
  go_wp2_with fail
  have hlt5 := Q5.out.lt
  refine (clip_any s bigR w.heap.size w5.heap.size c1 A1 w5 hs20 hst.out (B5.out.cell 0) (Reads.of_own O5.out) (Nat.le_refl _)).mono ?_
  rintro e w6 ⟨v6, rfl, own6, hb6⟩
  have q6 := Q5.out.below hb6 hlt5
  have Q6 := hide q6
  have P6 := own_keep P5.out hb6 (own_lt P5.out)
  have S6 := own_keep S5.out hb6 (own_lt S5.out)
  have L6 := below_then L5 (Nat.le_refl _) hb6
  clear hb6 B5 Q5 O5 P5 S5 L5 hlt5 q6
  by_cases he : (drawE s 8 8).1 = 0
  · have hf := clip_ok he (cutR x y a b)
    have hg := clip_ok he bigR
    have hl3 := drawE_len8 he
    have hl5 := drawE_len8 hf
    have AT := hide (clip_at he (cutR x y a b) (cutR_rect x y a b))
    rw [clip_big he] at own6
    rw [he, hf, hg]
    clear he hf hg
    generalize (drawE s 8 8).2 = D at *
    generalize (drawE (wrapL (clipC (cutR x y a b)) s) 8 8).2 = D5 at *
    rw [hl3] at P6 own6
    rw [hl5] at S6
    clear hl3 hl5
    obtain ⟨X3, c3, rfl, _, r3⟩ := own_reads P6
    obtain ⟨X5, c5, rfl, _, r5⟩ := own_reads S6
    obtain ⟨X6, c6, rfl, _, r6⟩ := own_reads own6
    have R3 := hide r3
    have R5 := hide r5
    have R6 := hide r6
    have HN := hide (show (64 : Nat) ≤ 1000000 by omega)
    clear r3 r5 r6 P6 S6 own6
    go_wp2_with (first | (go_at_call 16; refine (Eq_same X3 X6 64 c3 c6 _ _ D _ R3.out R6.out HN.out).mono ?_; rintro e w7 ⟨rfl, rfl⟩) | fail)
    go_loopw [75] (fun i wr => ∃ k : Nat, k ≤ 64 ∧ i = .int .i64 k ∧ w6.heap.size ≤ wr.heap.size ∧ Hid (Blk wr (w.heap.size + 1) 36 #[.int .i64 (IntKind.i16.wrap x), .int .i64 (IntKind.i16.wrap y), .int .i64 (IntKind.u16.wrap a), .int .i64 (IntKind.u16.wrap b)]) ∧ Hid (Reads wr w6.heap.size 1 X3 64 (D.map (Value.int .i64))) ∧ Hid (Reads wr w6.heap.size 1 X5 64 (D5.map (Value.int .i64))) ∧ Below w.heap.size w wr) (fun i _ => 64 - (intOf i).toNat)
    case atStart => exact ⟨0, Nat.zero_le _, rfl, Nat.le_refl _, Q6, R3, R5, L6⟩
    case round =>
      obtain ⟨k, hk, rfl, hsz, HQ, H3, H5, hbel⟩ := hrel
      by_cases hlt : k < 64
      · have e0 : wr.cell? ⟨w.heap.size + 1, 0, none⟩ = some (.int .i64 (IntKind.i16.wrap x)) := HQ.out.cell 0
        have e1 : wr.cell? ⟨w.heap.size + 1, 1, none⟩ = some (.int .i64 (IntKind.i16.wrap y)) := HQ.out.cell 1
        have e2 : wr.cell? ⟨w.heap.size + 1, 2, none⟩ = some (.int .i64 (IntKind.u16.wrap a)) := HQ.out.cell 2
        have e3 : wr.cell? ⟨w.heap.size + 1, 3, none⟩ = some (.int .i64 (IntKind.u16.wrap b)) := HQ.out.cell 3
        have hk1 : (0 : Int) ≤ (k : Int) := by omega
        have hk2 : (k : Int) < 64 := by omega
        have AK := AT.out k hlt
        go_wp2_with fail
        have T1 : Tame (cutR x y a b).x := by show Tame (IntKind.i16.wrap x); unfold Tame; omega
        have T2 : Tame (cutR x y a b).y := by show Tame (IntKind.i16.wrap y); unfold Tame; omega
        have T3 : Tame (cutR x y a b).w := by show Tame (IntKind.u16.wrap a); unfold Tame; omega
        have T4 : Tame (cutR x y a b).h := by show Tame (IntKind.u16.wrap b); unfold Tame; omega
        refine (In_any (cutR x y a b) ((k : Int) % 8 * 64 + 32) ((k : Int) / 8 * 64 + 32) wr T1 T2 T3 T4).mono ?_
        rintro e w8 ⟨rfl, hb8⟩
        have H38 := hide (H3.out.below (hb8.mono hsz))
        have H58 := hide (H5.out.below (hb8.mono hsz))
        have HQ8 := hide (HQ.out.below hb8 HQ.out.lt)
        have L8 := below_then hbel (Nat.le_refl _) hb8
        have hsz8 := Nat.le_trans hsz hb8.size
        obtain ⟨ad3, rfl, _, a3⟩ := H38.out.int_at hlt
        obtain ⟨ad5, rfl, _, a5⟩ := H58.out.int_at hlt
        rw [AK] at a5
        clear AK T1 T2 T3 T4 e0 e1 e2 e3 hb8 HQ H3 H5 hbel
        by_cases hin : inR (cutR x y a b) ((k : Int) % 8 * 64 + 32) ((k : Int) / 8 * 64 + 32) = true
        · rw [if_pos hin] at a5
          rw [hin]
          clear hin
          generalize at0 D k = z at *
          have z2 : (z != z) = false := by simp
          go_wp2_with fail
          go_quiet (fail)
          go_wp2_with fail
          go_roundw
          case rel => exact ⟨k + 1, by omega, by go_num, hsz8, HQ8, H38, H58, below_drewN L8 _⟩
          case measure => simp [intOf]; omega
        · rw [if_neg hin] at a5
          rw [show inR (cutR x y a b) ((k : Int) % 8 * 64 + 32) ((k : Int) / 8 * 64 + 32) = false from by simpa using hin]
          clear hin
          generalize at0 D k = z at *
          go_wp2_with fail
          go_quiet (fail)
          go_wp2_with fail
          go_roundw
          case rel => exact ⟨k + 1, by omega, by go_num, hsz8, HQ8, H38, H58, below_drewN L8 _⟩
          case measure => simp [intOf]; omega
      · obtain rfl : k = 64 := by omega
        go_wp2_with (first | (go_at_call 12; refine (drawn_any _).mono ?_; rintro e w9 ⟨rfl, hb9⟩; have L9 := below_then hbel (Nat.le_refl _) hb9) | fail)
        go_ret
        exact ⟨rfl, L9⟩
  · have z1 : ((drawE s 8 8).1 != 0) = true := by simp [he]
    clear he P6 S6 own6
    go_wp2_with (first | (go_at_call 12; refine (drawn_any _).mono ?_; rintro e w9 ⟨rfl, hb9⟩; have L9 := below_then L6 (Nat.le_refl _) hb9) | fail)
    go_ret
    exact ⟨rfl, L9⟩
end Go.Proofs.Ytbpkffoooieejaa
