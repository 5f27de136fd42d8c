/- Walks: paint.Frag of what is hidden, and of one block; the statement PaintHidden: it returns true. -/
import Derived.BigQuiet
import Derived.Handy
import Derived.Deep.MidRow
import Derived.Deep.RegionHeld3
import Derived.Test.YtbpkffoooieejaaPaint
namespace Go.Proofs.Ytbpkffoooieejaa
open Go.ChangeShapes Go.WideShapes Go.ChangeAt Go.RowKit
set_option maxRecDepth 100000 in
set_option maxHeartbeats 1000000 in
theorem Frag_hid (R : Nat → Int) (h67 : R 67 = 1) (F : Array Value) (kind : Int) (w : World) :
    Calls Try.prog 9 #[.agg F, .int .i64 kind, .agg (styA R)] w fun e w' => e = .returned (.slice none 0 0) ∧ Below w.heap.size w w' := by
  have hst : (styA R)[67]? = some (.int .i64 1) := by rw [styA_at R (by omega), h67]
  clear h67
  go_enter Try.func9, Try.ntmps9
  go_wp2_with fail
  go_ret
  exact ⟨rfl, by go_grown⟩
/-- The style of the closed fact. -/
def Rp : Nat → Int := fun j => if j = 72 then 5 else if j = 73 then 255 else 0
def F5 : Array Value := #[.int .i64 0, .int .i64 0, .int .i64 0, .int .i64 0, .int .i64 0, .int .i64 5, .int .i64 6, .string ByteArray.empty]
theorem Rp_edges : edgesA Rp 0 11 = #[.int .i64 0, .int .i64 0, .int .i64 0, .int .i64 0] := by kernel_rfl
theorem Rp_e19 (j : Nat) (h : j < 4) : max 0 (edge Rp 0 19 j) = 0 := by
  have : j = 0 ∨ j = 1 ∨ j = 2 ∨ j = 3 := by omega
  rcases this with rfl | rfl | rfl | rfl <;> rfl
theorem Rp_e15 (j : Nat) (h : j < 4) : max 0 (edge Rp 0 15 j) = 0 := by
  have : j = 0 ∨ j = 1 ∨ j = 2 ∨ j = 3 := by omega
  rcases this with rfl | rfl | rfl | rfl <;> rfl
theorem Frag1_c (x y wd h q color : Int) (p : Nat) (hp : p < 59) (hq : q = (p : Int)) (bf bs : Nat) (w : World) (hf : w.cell? ⟨bf, 1, none⟩ = some (.int .i64 0)) (hs : w.cell? ⟨bs, p * 2 + 1, none⟩ = some (.int .i64 color)) :
    Calls Try.prog 24 #[.int .i64 x, .int .i64 y, .int .i64 wd, .int .i64 h, .int .i64 q, .pointer (some ⟨bf, 0, none⟩), .pointer (some ⟨bs, 0, none⟩)] w fun e w' => e = .returned (.agg #[.int .i64 1, .int .i64 0, .int .i64 x, .int .i64 y, .int .i64 wd, .int .i64 h, .int .i64 color, .int .i64 0, .string ByteArray.empty]) ∧ Below w.heap.size w w' := by
  subst hq
  exact Frag1_any' (fun _ => color) 0 x y wd h p hp bf bs w hf hs
/-- What lies in memory while one block is painted: the frag, its style, its edges, the commands so far. -/
def PH (w W : World) (be bo : Nat) : Prop := Blk W w.heap.size 23 F5 ∧ Blk W (w.heap.size + 1) 27 (styA Rp) ∧ Blk W be 65 #[.int .i64 0, .int .i64 0, .int .i64 0, .int .i64 0] ∧
  Blk W bo 43 #[.int .i64 1, .int .i64 0, .int .i64 0, .int .i64 0, .int .i64 5, .int .i64 6, .int .i64 255, .int .i64 0, .string ByteArray.empty] ∧ Below w.heap.size w W
def PS (w W : World) (be : Nat) : Prop := W.cell? ⟨w.heap.size, 3, none⟩ = some (.int .i64 0) ∧ W.cell? ⟨w.heap.size, 4, none⟩ = some (.int .i64 0) ∧ W.cell? ⟨w.heap.size, 5, none⟩ = some (.int .i64 5) ∧ W.cell? ⟨w.heap.size, 6, none⟩ = some (.int .i64 6) ∧
  W.cell? ⟨be, 0, none⟩ = some (.int .i64 0) ∧ W.cell? ⟨be, 1, none⟩ = some (.int .i64 0) ∧ W.cell? ⟨be, 2, none⟩ = some (.int .i64 0) ∧ W.cell? ⟨be, 3, none⟩ = some (.int .i64 0)
theorem PH.ps {w W : World} {be bo : Nat} (h : PH w W be bo) : PS w W be := ⟨h.1.cell 3, h.1.cell 4, h.1.cell 5, h.1.cell 6, h.2.2.1.cell 0, h.2.2.1.cell 1, h.2.2.1.cell 2, h.2.2.1.cell 3⟩
theorem PH.below {w W W' : World} {be bo : Nat} (h : PH w W be bo) (hb : Below W.heap.size W W') : PH w W' be bo :=
  ⟨h.1.below hb h.1.lt, h.2.1.below hb h.2.1.lt, h.2.2.1.below hb h.2.2.1.lt, h.2.2.2.1.below hb h.2.2.2.1.lt, below_then h.2.2.2.2 (Nat.le_refl _) hb⟩
theorem PH.drew {w W : World} {be bo : Nat} (h : PH w W be bo) : PH w W.drew be bo := ⟨h.1.drew, h.2.1.drew, h.2.2.1.drew, h.2.2.2.1.drew, below_drewN h.2.2.2.2 1⟩
theorem PH.alloc {w W : World} {be bo : Nat} (h : PH w W be bo) (o : Obj) : PH w (W.alloc o) be bo := ⟨h.1.alloc o, h.2.1.alloc o, h.2.2.1.alloc o, h.2.2.2.1.alloc o, h.2.2.2.2.alloc h.2.2.2.2.size o⟩
theorem PH.sty {w W : World} {be bo : Nat} (h : PH w W be bo) (p : Nat) (hp : p < 59) : W.cell? ⟨w.heap.size + 1, p * 2 + 1, none⟩ = some (.int .i64 (Rp (p * 2 + 1))) := (h.2.1.cell _).trans (styA_at Rp (by omega))
theorem PH.ps_grown {w W W' : World} {be bo : Nat} (h : PH w W be bo) (hg : W.grownBy W' (some bo)) (h1 : w.heap.size ≠ bo) (h2 : be ≠ bo) : PS w W' be := by
  have k1 := h.1.grown hg (fun e => h1 (Option.some.inj e))
  have k2 := h.2.2.1.grown hg (fun e => h2 (Option.some.inj e))
  exact ⟨k1.cell 3, k1.cell 4, k1.cell 5, k1.cell 6, k2.cell 0, k2.cell 1, k2.cell 2, k2.cell 3⟩
theorem PH.own {w W : World} {be bo : Nat} (h : PH w W be bo) (hb : w.heap.size ≤ bo) : W.ownsRow w.heap.size 43 9 (.slice (some ⟨bo, 0, none⟩) 1 1) 1 (cmC ⟨1, 0, 0, 0, 5, 6, 255, 0, ByteArray.empty⟩) :=
  own_of_blk (size := 9) (n := 1) h.2.2.2.1 hb (by unfold maxLen; omega) rfl
theorem PH.sty0 {w W : World} {be bo : Nat} (h : PH w W be bo) (p : Nat) (hp : p < 27) (hp' : 22 < p) : W.cell? ⟨w.heap.size + 1, p * 2 + 1, none⟩ = some (.int .i64 0) := by
  have h1 := h.sty p (by omega)
  have : p = 23 ∨ p = 24 ∨ p = 25 ∨ p = 26 := by omega
  rcases this with rfl | rfl | rfl | rfl <;> exact h1
def L5 : List Cm := [⟨1, 0, 0, 0, 5, 6, 255, 0, ByteArray.empty⟩, ⟨1, 0, 0, 0, 5, 0, 0, 0, ByteArray.empty⟩, ⟨1, 0, 5, 0, 0, 6, 0, 0, ByteArray.empty⟩, ⟨1, 0, 0, 6, 5, 0, 0, 0, ByteArray.empty⟩, ⟨1, 0, 0, 0, 0, 6, 0, 0, ByteArray.empty⟩]
set_option maxRecDepth 100000 in
set_option maxHeartbeats 4000000 in
theorem Frag_one (w : World) :
    Calls Try.prog 9 #[.agg F5, .int .i64 2, .agg (styA Rp)] w fun e w' => ∃ X cx, e = .returned (.slice X 1 cx) ∧ Below w.heap.size w w' := by
  obtain ⟨i0, hi0, hz0, hz1, hz2⟩ := info_parts cmd_info
  have HI := hide (⟨hi0, hz0, hz1, hz2⟩ : Try.prog.info? 43 = some i0 ∧ i0.zero = some (.agg cmd0) ∧ i0.size = 9 ∧ i0.bytes = 80)
  clear hi0 hz0 hz1 hz2
  have h67 : (styA Rp)[67]? = some (.int .i64 0) := styA_at Rp (by omega)
  have f3 : F5[3]? = some (.int .i64 0) := rfl
  have f4 : F5[4]? = some (.int .i64 0) := rfl
  have f5 : F5[5]? = some (.int .i64 5) := rfl
  have f6 : F5[6]? = some (.int .i64 6) := rfl
  go_enter Try.func9, Try.ntmps9
  go_wp2_with fail
  have hF := (Blk.new w 23 F5).alloc (.cells (styA Rp) 27)
  have hS := Blk.new (w.alloc (.cells F5 23)) 27 (styA Rp)
  rw [show (w.alloc (.cells F5 23)).heap.size = w.heap.size + 1 by simp] at hS
  have hB : Below w.heap.size w ((w.alloc (.cells F5 23)).alloc (.cells (styA Rp) 27)) := by go_grown
  have HF := hide hF
  have HS := hide hS
  clear hF hS h67 f3 f4 f5 f6
  generalize (w.alloc (.cells F5 23)).alloc (.cells (styA Rp) 27) = wA at *
  refine (Frag1_c 0 0 5 6 36 255 36 (by omega) rfl w.heap.size (w.heap.size + 1) wA (HF.out.cell 1) ((HS.out.cell 73).trans (styA_at Rp (by omega)))).mono ?_
  rintro e w1 ⟨rfl, hb1⟩
  have HF1 := hide (HF.out.below hb1 HF.out.lt)
  have HS1 := hide (HS.out.below hb1 HS.out.lt)
  have hB1 := below_then hB (Nat.le_refl _) hb1
  have hlt1 := HS1.out.lt
  clear HF HS hB hb1
  go_wp2_with (first | (refine wpList_load_sty rfl _ rfl (w.heap.size + 1) rfl Rp (HS1.out.alloc _) ?_) | fail)
  have HF2 := hide (HF1.out.alloc (.cells #[.int .i64 1, .int .i64 0, .int .i64 0, .int .i64 0, .int .i64 5, .int .i64 6, .int .i64 255, .int .i64 0, .string ByteArray.empty] 43))
  have HS2 := hide (HS1.out.alloc (.cells #[.int .i64 1, .int .i64 0, .int .i64 0, .int .i64 0, .int .i64 5, .int .i64 6, .int .i64 255, .int .i64 0, .string ByteArray.empty] 43))
  have HO2 := hide (Blk.new w1 43 #[.int .i64 1, .int .i64 0, .int .i64 0, .int .i64 0, .int .i64 5, .int .i64 6, .int .i64 255, .int .i64 0, .string ByteArray.empty])
  have hB2 := hB1.alloc hB1.size (.cells #[.int .i64 1, .int .i64 0, .int .i64 0, .int .i64 0, .int .i64 5, .int .i64 6, .int .i64 255, .int .i64 0, .string ByteArray.empty] 43)
  have hs1 := hB1.size
  clear HF1 HS1 hB1
  generalize w1.alloc (.cells #[.int .i64 1, .int .i64 0, .int .i64 0, .int .i64 0, .int .i64 5, .int .i64 6, .int .i64 255, .int .i64 0, .string ByteArray.empty] 43) = w2 at *
  refine (Frame_any Rp 0 w2).mono ?_
  rintro e w3 ⟨rfl, hb3⟩
  have HF3 := hide (HF2.out.below hb3 HF2.out.lt)
  have HS3 := hide (HS2.out.below hb3 HS2.out.lt)
  have HO3 := hide (HO2.out.below hb3 HO2.out.lt)
  have hB3 := below_then hB2 (Nat.le_refl _) hb3
  have hlt3 := HO3.out.lt
  clear HF2 HS2 HO2 hB2 hb3
  rw [Rp_edges, Rp_e19 0 (by omega), Rp_e19 1 (by omega), Rp_e19 2 (by omega), Rp_e19 3 (by omega), Rp_e15 0 (by omega), Rp_e15 1 (by omega), Rp_e15 2 (by omega), Rp_e15 3 (by omega)]
  have HF4 := hide (((HF3.out.alloc (.cells #[.int .i64 0, .int .i64 0, .int .i64 0, .int .i64 0] 65)).alloc (.cells #[.int .i64 0, .int .i64 0, .int .i64 0, .int .i64 0] 65)).alloc (.cells #[.int .i64 0, .int .i64 0, .int .i64 0, .int .i64 0] 65))
  have HS4 := hide (((HS3.out.alloc (.cells #[.int .i64 0, .int .i64 0, .int .i64 0, .int .i64 0] 65)).alloc (.cells #[.int .i64 0, .int .i64 0, .int .i64 0, .int .i64 0] 65)).alloc (.cells #[.int .i64 0, .int .i64 0, .int .i64 0, .int .i64 0] 65))
  have HO4 := hide (((HO3.out.alloc (.cells #[.int .i64 0, .int .i64 0, .int .i64 0, .int .i64 0] 65)).alloc (.cells #[.int .i64 0, .int .i64 0, .int .i64 0, .int .i64 0] 65)).alloc (.cells #[.int .i64 0, .int .i64 0, .int .i64 0, .int .i64 0] 65))
  have hE4 := (Blk.new (w3.alloc (.cells #[.int .i64 0, .int .i64 0, .int .i64 0, .int .i64 0] 65)) 65 #[.int .i64 0, .int .i64 0, .int .i64 0, .int .i64 0]).alloc (.cells #[.int .i64 0, .int .i64 0, .int .i64 0, .int .i64 0] 65)
  rw [show (w3.alloc (.cells #[.int .i64 0, .int .i64 0, .int .i64 0, .int .i64 0] 65)).heap.size = w3.heap.size + 1 by simp] at hE4
  have HE4 := hide hE4
  have hB4 : Below w.heap.size w (((w3.alloc (.cells #[.int .i64 0, .int .i64 0, .int .i64 0, .int .i64 0] 65)).alloc (.cells #[.int .i64 0, .int .i64 0, .int .i64 0, .int .i64 0] 65)).alloc (.cells #[.int .i64 0, .int .i64 0, .int .i64 0, .int .i64 0] 65)) := by
    refine ((hB3.alloc hB3.size _).alloc ?_ _).alloc ?_ _
    · have := hB3.size; simp; omega
    · have := hB3.size; simp; omega
  have f3 : (((w3.alloc (.cells #[.int .i64 0, .int .i64 0, .int .i64 0, .int .i64 0] 65)).alloc (.cells #[.int .i64 0, .int .i64 0, .int .i64 0, .int .i64 0] 65)).alloc (.cells #[.int .i64 0, .int .i64 0, .int .i64 0, .int .i64 0] 65)).cell? ⟨w.heap.size, 3, none⟩ = some (.int .i64 0) := HF4.out.cell 3
  have f4 : (((w3.alloc (.cells #[.int .i64 0, .int .i64 0, .int .i64 0, .int .i64 0] 65)).alloc (.cells #[.int .i64 0, .int .i64 0, .int .i64 0, .int .i64 0] 65)).alloc (.cells #[.int .i64 0, .int .i64 0, .int .i64 0, .int .i64 0] 65)).cell? ⟨w.heap.size, 4, none⟩ = some (.int .i64 0) := HF4.out.cell 4
  have f5 : (((w3.alloc (.cells #[.int .i64 0, .int .i64 0, .int .i64 0, .int .i64 0] 65)).alloc (.cells #[.int .i64 0, .int .i64 0, .int .i64 0, .int .i64 0] 65)).alloc (.cells #[.int .i64 0, .int .i64 0, .int .i64 0, .int .i64 0] 65)).cell? ⟨w.heap.size, 5, none⟩ = some (.int .i64 5) := HF4.out.cell 5
  have f6 : (((w3.alloc (.cells #[.int .i64 0, .int .i64 0, .int .i64 0, .int .i64 0] 65)).alloc (.cells #[.int .i64 0, .int .i64 0, .int .i64 0, .int .i64 0] 65)).alloc (.cells #[.int .i64 0, .int .i64 0, .int .i64 0, .int .i64 0] 65)).cell? ⟨w.heap.size, 6, none⟩ = some (.int .i64 6) := HF4.out.cell 6
  have hs3 := hB3.size
  clear hE4 HF3 HS3 HO3 hB3
  go_wp2_with fail
  clear f3 f4 f5 f6
  generalize ((w3.alloc (.cells #[.int .i64 0, .int .i64 0, .int .i64 0, .int .i64 0] 65)).alloc (.cells #[.int .i64 0, .int .i64 0, .int .i64 0, .int .i64 0] 65)).alloc (.cells #[.int .i64 0, .int .i64 0, .int .i64 0, .int .i64 0] 65) = w4 at *
  have HP : PH w w4.drew (w3.heap.size + 1) w1.heap.size := PH.drew ⟨HF4.out, HS4.out, HE4.out, HO4.out, hB4⟩
  have ps := HP.ps
  have HN := hide (show w4.drew.cell? ⟨w.heap.size, 1, none⟩ = some (.int .i64 0) from HP.1.cell 1)
  have HT := hide (show ∀ p, p < 27 → 22 < p → w4.drew.cell? ⟨w.heap.size + 1, p * 2 + 1, none⟩ = some (.int .i64 0) from PH.sty0 HP)
  clear HF4 HS4 HE4 HO4
  have x1 : IntKind.i64.wrap ((0 : Int) + 5) = 5 := rfl
  have x2 : IntKind.i64.wrap ((5 : Int) - 0) = 5 := rfl
  have x3 : IntKind.i64.wrap ((0 : Int) + 0) = 0 := rfl
  have x4 : IntKind.i64.wrap ((0 : Int) + 6) = 6 := rfl
  have x5 : IntKind.i64.wrap ((6 : Int) - 0) = 6 := rfl
  have y0 : IntKind.i64.wrap (0 : Int) = 0 := rfl
  have y5 : IntKind.i64.wrap (5 : Int) = 5 := rfl
  have y6 : IntKind.i64.wrap (6 : Int) = 6 := rfl
  have q23 : (23 : Int) = ((23 : Nat) : Int) := rfl
  have q24 : (24 : Int) = ((24 : Nat) : Int) := rfl
  have q25 : (25 : Int) = ((25 : Nat) : Int) := rfl
  have q26 : (26 : Int) = ((26 : Nat) : Int) := rfl
  have Q := hide (And.intro q23 (And.intro q24 (And.intro q25 q26)))
  clear q23 q24 q25 q26
  have HNE := hide (show w.heap.size ≤ w1.heap.size ∧ w.heap.size ≠ w1.heap.size ∧ w3.heap.size + 1 ≠ w1.heap.size by omega)
  have HMX := hide (show 1 + 4 ≤ maxLen by unfold maxLen; omega)
  have HMY := hide (show (1 + 4) * 80 ≤ 140737488355328 by omega)
  go_region_held3 (fun W => W.cell? ⟨w.heap.size, 3, none⟩ = some (.int .i64 0) ∧ W.cell? ⟨w.heap.size, 4, none⟩ = some (.int .i64 0) ∧ W.cell? ⟨w.heap.size, 5, none⟩ = some (.int .i64 5) ∧ W.cell? ⟨w.heap.size, 6, none⟩ = some (.int .i64 6) ∧
  W.cell? ⟨w3.heap.size + 1, 0, none⟩ = some (.int .i64 0) ∧ W.cell? ⟨w3.heap.size + 1, 1, none⟩ = some (.int .i64 0) ∧ W.cell? ⟨w3.heap.size + 1, 2, none⟩ = some (.int .i64 0) ∧ W.cell? ⟨w3.heap.size + 1, 3, none⟩ = some (.int .i64 0)) (first | exact ps | exact (HP.alloc _).ps)
    (first
      | (go_at_call 24; (with_reducible refine (Frag1_c 0 0 5 0 23 0 23 (by omega) Q.out.1 w.heap.size (w.heap.size + 1) _ HN.out (HT.out 23 (by omega) (by omega))).mono ?_); rintro e w5 ⟨rfl, hb5⟩; replace HP := HP.below hb5; have ps := HP.ps; have HN := hide (show w5.cell? ⟨w.heap.size, 1, none⟩ = some (.int .i64 0) from HP.1.cell 1); have HT := hide (show ∀ p, p < 27 → 22 < p → w5.cell? ⟨w.heap.size + 1, p * 2 + 1, none⟩ = some (.int .i64 0) from PH.sty0 HP))
      | (go_at_call 24; (with_reducible refine (Frag1_c 5 0 0 6 24 0 24 (by omega) Q.out.2.1 w.heap.size (w.heap.size + 1) _ HN.out (HT.out 24 (by omega) (by omega))).mono ?_); rintro e w5 ⟨rfl, hb5⟩; replace HP := HP.below hb5; have ps := HP.ps; have HN := hide (show w5.cell? ⟨w.heap.size, 1, none⟩ = some (.int .i64 0) from HP.1.cell 1); have HT := hide (show ∀ p, p < 27 → 22 < p → w5.cell? ⟨w.heap.size + 1, p * 2 + 1, none⟩ = some (.int .i64 0) from PH.sty0 HP))
      | (go_at_call 24; (with_reducible refine (Frag1_c 0 6 5 0 25 0 25 (by omega) Q.out.2.2.1 w.heap.size (w.heap.size + 1) _ HN.out (HT.out 25 (by omega) (by omega))).mono ?_); rintro e w5 ⟨rfl, hb5⟩; replace HP := HP.below hb5; have ps := HP.ps; have HN := hide (show w5.cell? ⟨w.heap.size, 1, none⟩ = some (.int .i64 0) from HP.1.cell 1); have HT := hide (show ∀ p, p < 27 → 22 < p → w5.cell? ⟨w.heap.size + 1, p * 2 + 1, none⟩ = some (.int .i64 0) from PH.sty0 HP))
      | (go_at_call 24; (with_reducible refine (Frag1_c 0 0 0 6 26 0 26 (by omega) Q.out.2.2.2 w.heap.size (w.heap.size + 1) _ HN.out (HT.out 26 (by omega) (by omega))).mono ?_); rintro e w5 ⟨rfl, hb5⟩; replace HP := HP.below hb5; have ps := HP.ps; have HN := hide (show w5.cell? ⟨w.heap.size, 1, none⟩ = some (.int .i64 0) from HP.1.cell 1); have HT := hide (show ∀ p, p < 27 → 22 < p → w5.cell? ⟨w.heap.size + 1, p * 2 + 1, none⟩ = some (.int .i64 0) from PH.sty0 HP))
      | (refine step_append_any _ rfl (.tmp 83) (.tmp 140) _ rfl w.heap.size 43 i0 _ 9 80 Try.underlying28 HI.out.1 HI.out.2.1 HI.out.2.2.1 HI.out.2.2.2 rfl (Nat.succ_pos _) _ 1 _ (by rfl) ((HP.own HNE.out.1).alloc _) (w5.heap.size + 1) _ 4 4 _ (by rfl) (Reads.lit w5 _ _ 9 4 rfl) (by exact List.all_eq_true.1 rfl) HMX.out HMY.out (HP.alloc _).2.2.2.2.size ?_; intro v8 w8 hown8 hg8 hat8; have ps := (HP.alloc _).ps_grown hg8 HNE.out.2.1 HNE.out.2.2; have hb8 := own_below ((HP.own HNE.out.1).alloc _) (HP.alloc _).2.2.2.2 (Nat.le_refl _) (Nat.le_refl _) hg8))
  clear x1 x2 x3 x4 x5 y0 y5 y6 hat8 hg8 ps
  obtain ⟨X, cx, rfl, _, _⟩ := own_reads hown8
  have hL : ∀ k, 0 < k → k < 5 → (cmAt L5 k).w ≤ 0 ∨ (cmAt L5 k).h ≤ 0 := fun k h1 h2 => by
    have : k = 1 ∨ k = 2 ∨ k = 3 ∨ k = 4 := by omega
    rcases this with rfl | rfl | rfl | rfl
    · exact .inr (Int.le_refl _)
    · exact .inl (Int.le_refl _)
    · exact .inr (Int.le_refl _)
    · exact .inl (Int.le_refl _)
  have HL := hide hL
  have HO8 := hide (show w8.ownsRow w.heap.size 43 9 (.slice X L5.length cx) L5.length (cmCells L5) from hown8)
  clear hL hown8
  go_wp2_with (first | (go_at_call 26; refine (fills_one L5 rfl ⟨rfl, rfl, rfl⟩ HL.out w.heap.size cx X _ HO8.out).mono ?_; rintro e w9 ⟨Y, cy, rfl, hb9⟩) | fail)
  go_ret
  exact ⟨Y, cy, rfl, below_then hb8 (Nat.le_refl _) hb9⟩
end Go.Proofs.Ytbpkffoooieejaa
