/- Walks of the package paint. -/
import Derived.BigQuiet
import Derived.Handy
import Derived.Deep.MidRow
import Derived.Deep.RegionHeld3
import Derived.Test.YtbpkffoooieejaaKitT
import Derived.Test.YtbpkffoooieejaaFrame
import Derived.Test.YtbpkffoooieejaaFlat
namespace Go.Proofs.Ytbpkffoooieejaa
open Go.ChangeShapes Go.WideShapes Go.ChangeAt Go.RowKit
/-- A command that fills. -/
def fillA (node x y wd h color : Int) : Array Value := #[.int .i64 1, .int .i64 node, .int .i64 x, .int .i64 y, .int .i64 wd, .int .i64 h, .int .i64 color, .int .i64 0, .string ByteArray.empty]
def cmd0 : Array Value := #[.int .i64 0, .int .i64 0, .int .i64 0, .int .i64 0, .int .i64 0, .int .i64 0, .int .i64 0, .int .i64 0, .string ByteArray.empty]
theorem cmd_u : Try.prog.underlying 43 = some (.struct (Try.prog.fieldsOf 43)) := by kernel_rfl
theorem cmd_i (node x y wd h color : Int) : (Try.prog.info? 43).map (·.size) = some (fillA node x y wd h color).size := by kernel_rfl
set_option maxRecDepth 100000 in
set_option maxHeartbeats 1000000 in
theorem Frag1_any' (R : Nat → Int) (node x y wd h : Int) (p : Nat) (hp : p < 59) (bf bs : Nat) (w : World) (hf : w.cell? ⟨bf, 1, none⟩ = some (.int .i64 node)) (hs : w.cell? ⟨bs, p * 2 + 1, none⟩ = some (.int .i64 (R (p * 2 + 1)))) :
    Calls Try.prog 24 #[.int .i64 x, .int .i64 y, .int .i64 wd, .int .i64 h, .int .i64 p, .pointer (some ⟨bf, 0, none⟩), .pointer (some ⟨bs, 0, none⟩)] w fun e w' => e = .returned (.agg (fillA node x y wd h (R (p * 2 + 1)))) ∧ Below w.heap.size w w' := by
  have hltf := cell_lt hf
  have hlts := cell_lt hs
  have hi1 : (0 : Int) ≤ (p : Int) := by omega
  have hi2 : (p : Int) < 59 := by omega
  go_enter Try.func24, Try.ntmps24
  go_wp2_with fail
  go_region_held3 (fun w' => w'.cell? ⟨bf, 1, none⟩ = some (.int .i64 node) ∧ w'.cell? ⟨bs, p * 2 + 1, none⟩ = some (.int .i64 (R (p * 2 + 1)))) (go_keep) (fail)
  go_wp2_with fail
  refine bodyPost_ret (results_cell_row rfl _ _ w.heap.size 43 (fillA node x y wd h (R (p * 2 + 1))) (0, 0) _ rfl (Blk.new w.drew _ _) cmd_u rfl (cmd_i _ _ _ _ _ _)) rfl ?_
  exact ⟨rfl, by go_grown⟩
/-- A command, as a record. -/
structure Cm where
  do_ : Int
  node : Int
  x : Int
  y : Int
  w : Int
  h : Int
  c : Int
  n : Int
  t : ByteArray
def cmC (c : Cm) : List Value := [.int .i64 c.do_, .int .i64 c.node, .int .i64 c.x, .int .i64 c.y, .int .i64 c.w, .int .i64 c.h, .int .i64 c.c, .int .i64 c.n, .string c.t]
def cm0 : Cm := ⟨0, 0, 0, 0, 0, 0, 0, 0, ByteArray.empty⟩
def cmAt (l : List Cm) (k : Nat) : Cm := l.getD k cm0
def cmCells (l : List Cm) : List Value := (List.range l.length).flatMap fun i => cmC (cmAt l i)
theorem cmCells_at (l : List Cm) (k j : Nat) (hk : k < l.length) (hj : j < 9) : (cmCells l)[k * 9 + j]? = (cmC (cmAt l k))[j]? := flat_get _ 9 _ (fun _ _ => rfl) k j hk hj
theorem cmd_info : (Try.prog.info? 43).map (fun i => (i.zero, i.size, i.bytes)) = some (some (.agg cmd0), 9, 80) := by kernel_rfl
theorem cmCell {w : World} {B c : Nat} {A : Option Addr} {l : List Cm} (h : w.ownsRow B 43 9 (.slice A l.length c) l.length (cmCells l)) {k : Nat} (hk : k < l.length) :
    ∃ g, A = some ⟨g, 0, none⟩ ∧ B ≤ g ∧ g < w.heap.size ∧ ∀ j, j < 9 → w.cell? ⟨g, k * 9 + j, none⟩ = (cmC (cmAt l k))[j]? := by
  obtain ⟨g, cap, hv, hg, hlt⟩ := h.form (by omega)
  injection hv with hA _ _
  subst hA
  exact ⟨g, rfl, hg, hlt, fun j hj => by rw [h.cellAt _ (by omega)]; exact cmCells_at l k j hk hj⟩

set_option maxRecDepth 100000 in
set_option maxHeartbeats 1000000 in
theorem fills_one (l : List Cm) (hl : l.length = 5) (h0 : (cmAt l 0).w = 5 ∧ (cmAt l 0).h = 6 ∧ (cmAt l 0).c = 255) (h1 : ∀ k, 0 < k → k < 5 → (cmAt l k).w ≤ 0 ∨ (cmAt l k).h ≤ 0) (B c : Nat) (A : Option Addr) (w : World) (ho : w.ownsRow B 43 9 (.slice A l.length c) l.length (cmCells l)) :
    Calls Try.prog 26 #[.slice A 5 c] w fun e w' => ∃ X cx, e = .returned (.slice X 1 cx) ∧ Below w.heap.size w w' := by
  obtain ⟨i0, hi0, hz0, hz1, hz2⟩ := info_parts cmd_info
  have HI := hide (⟨hi0, hz0, hz1, hz2⟩ : Try.prog.info? 43 = some i0 ∧ i0.zero = some (.agg cmd0) ∧ i0.size = 9 ∧ i0.bytes = 80)
  clear hi0 hz0 hz1 hz2
  have HO := hide ho
  have H0 := hide h0
  have H1 := hide h1
  clear ho h0 h1
  go_enter Try.func26, Try.ntmps26
  go_wp2_with fail
  go_loopw [3, 8] (fun v i wr => ∃ k : Nat, k ≤ 5 ∧ i = .int .i64 k ∧ (∃ xs, wr.ownsRow w.heap.size 43 9 v (if k = 0 then 0 else 1) xs) ∧ Below w.heap.size w wr) (fun _ i _ => 5 - (intOf i).toNat)
  case atStart => exact ⟨0, Nat.zero_le _, rfl, ⟨[], own_none _ _ _ _⟩, Below.refl _ _⟩
  case round =>
    obtain ⟨k, hk, rfl, ⟨xs, hown⟩, hbel⟩ := hrel
    have hszr := hbel.size
    have HW := hide hown
    clear hown
    by_cases hlt : k < 5
    · obtain ⟨g, rfl, hg1, hg2, hc⟩ := cmCell HO.out (show k < l.length by omega)
      have cc : ∀ j, j < 9 → wr.cell? ⟨g, k * 9 + j, none⟩ = (cmC (cmAt l k))[j]? := fun j hj => (hbel.cell (p := ⟨g, k * 9 + j, none⟩) hg2).trans (hc j hj)
      have k0 := H0.out
      have k1 := H1.out k
      clear hc
      by_cases hz : k = 0
      · subst hz
        generalize cmAt l 0 = m at *
        obtain ⟨m1, m2, m3, m4, m5, m6, m7, m8, m9⟩ := m
        obtain ⟨rfl, rfl, rfl⟩ := k0
        have d0 : wr.cell? ⟨g, 0, none⟩ = some (.int .i64 m1) := cc 0 (by omega)
        have d1 : wr.cell? ⟨g, 1, none⟩ = some (.int .i64 m2) := cc 1 (by omega)
        have d2 : wr.cell? ⟨g, 2, none⟩ = some (.int .i64 m3) := cc 2 (by omega)
        have d3 : wr.cell? ⟨g, 3, none⟩ = some (.int .i64 m4) := cc 3 (by omega)
        have d4 : wr.cell? ⟨g, 4, none⟩ = some (.int .i64 5) := cc 4 (by omega)
        have d5 : wr.cell? ⟨g, 5, none⟩ = some (.int .i64 6) := cc 5 (by omega)
        have d6 : wr.cell? ⟨g, 6, none⟩ = some (.int .i64 255) := cc 6 (by omega)
        have d7 : wr.cell? ⟨g, 7, none⟩ = some (.int .i64 m8) := cc 7 (by omega)
        have d8 : wr.cell? ⟨g, 8, none⟩ = some (.string m9) := cc 8 (by omega)
        have hbt : (bits .and .i64 255 255 != 0) = true := by decide
        have HV := hide (show wr.ownsRow w.heap.size 43 9 u3 0 xs from by simpa using HW.out)
        have hbx := Blk.new (wr.alloc (.cells #[.int .i64 m1, .int .i64 m2, .int .i64 m3, .int .i64 m4, .int .i64 5, .int .i64 6, .int .i64 255, .int .i64 m8, .string m9] 43)) 43 #[.int .i64 m1, .int .i64 m2, .int .i64 m3, .int .i64 m4, .int .i64 5, .int .i64 6, .int .i64 255, .int .i64 m8, .string m9]
        rw [show (wr.alloc (.cells #[.int .i64 m1, .int .i64 m2, .int .i64 m3, .int .i64 m4, .int .i64 5, .int .i64 6, .int .i64 255, .int .i64 m8, .string m9] 43)).heap.size = wr.heap.size + 1 by simp] at hbx
        have HBX := hide hbx
        have HVA := hide ((HV.out.alloc (.cells #[.int .i64 m1, .int .i64 m2, .int .i64 m3, .int .i64 m4, .int .i64 5, .int .i64 6, .int .i64 255, .int .i64 m8, .string m9] 43)).alloc (.cells #[.int .i64 m1, .int .i64 m2, .int .i64 m3, .int .i64 m4, .int .i64 5, .int .i64 6, .int .i64 255, .int .i64 m8, .string m9] 43))
        have HBL := hide ((hbel.alloc hszr (.cells #[.int .i64 m1, .int .i64 m2, .int .i64 m3, .int .i64 m4, .int .i64 5, .int .i64 6, .int .i64 255, .int .i64 m8, .string m9] 43)).alloc (show w.heap.size ≤ (wr.alloc (.cells #[.int .i64 m1, .int .i64 m2, .int .i64 m3, .int .i64 m4, .int .i64 5, .int .i64 6, .int .i64 255, .int .i64 m8, .string m9] 43)).heap.size by simp; omega) (.cells #[.int .i64 m1, .int .i64 m2, .int .i64 m3, .int .i64 m4, .int .i64 5, .int .i64 6, .int .i64 255, .int .i64 m8, .string m9] 43))
        clear cc k1 hbx
        go_wp2_with (first | (at_builtin; refine wpList_app1 rfl (.tmp 26) (.tmp 28) _ rfl w.heap.size 43 (.agg cmd0) 9 80 Try.underlying28 cmd_info rfl (Nat.succ_pos _) _ 0 xs rfl HVA.out (wr.heap.size + 1) 1 _ HBX.out rfl rfl rfl (Nat.zero_le _) (Nat.le_of_ble_eq_true rfl) HBL.out.size ?_; intro v4 w4 hown4 hg4; have hb4 := own_below HVA.out HBL.out (Nat.le_refl _) (Nat.le_refl _) hg4) | fail)
        go_roundw
        case rel => exact ⟨1, by omega, rfl, ⟨_, hown4⟩, hb4⟩
        case measure => simp [intOf]
      · have k2 := k1 (by omega) hlt
        have hif : (if k = 0 then 0 else 1) = 1 := if_neg hz
        have HV := hide (show ∀ o, (wr.alloc o).ownsRow w.heap.size 43 9 u3 1 xs from fun o => (hif ▸ HW.out).alloc o)
        clear k0 k1 HW hif
        generalize cmAt l k = m at *
        obtain ⟨m1, m2, m3, m4, m5, m6, m7, m8, m9⟩ := m
        dsimp only at k2
        have d0 : wr.cell? ⟨g, k * 9, none⟩ = some (.int .i64 m1) := cc 0 (by omega)
        have d1 : wr.cell? ⟨g, k * 9 + 1, none⟩ = some (.int .i64 m2) := cc 1 (by omega)
        have d2 : wr.cell? ⟨g, k * 9 + 2, none⟩ = some (.int .i64 m3) := cc 2 (by omega)
        have d3 : wr.cell? ⟨g, k * 9 + 3, none⟩ = some (.int .i64 m4) := cc 3 (by omega)
        have d4 : wr.cell? ⟨g, k * 9 + 4, none⟩ = some (.int .i64 m5) := cc 4 (by omega)
        have d5 : wr.cell? ⟨g, k * 9 + 5, none⟩ = some (.int .i64 m6) := cc 5 (by omega)
        have d6 : wr.cell? ⟨g, k * 9 + 6, none⟩ = some (.int .i64 m7) := cc 6 (by omega)
        have d7 : wr.cell? ⟨g, k * 9 + 7, none⟩ = some (.int .i64 m8) := cc 7 (by omega)
        have d8 : wr.cell? ⟨g, k * 9 + 8, none⟩ = some (.string m9) := cc 8 (by omega)
        clear cc
        have hz2 : (if k + 1 = 0 then 0 else 1) = 1 := rfl
        by_cases q : m5 ≤ 0
        · have q1 : decide (0 < m5) = false := by simp; omega
          clear k2
          go_wp2_with fail
          go_roundw
          case rel => exact ⟨k + 1, by omega, by go_num, ⟨xs, HV.out _⟩, hbel.alloc hszr _⟩
          case measure => simp [intOf]; omega
        · have q1 : decide (0 < m5) = true := by simp; omega
          have q2 : decide (0 < m6) = false := by simp; omega
          clear k2
          go_wp2_with fail
          go_roundw
          case rel => exact ⟨k + 1, by omega, by go_num, ⟨xs, HV.out _⟩, hbel.alloc hszr _⟩
          case measure => simp [intOf]; omega
    · obtain rfl : k = 5 := by omega
      obtain ⟨X, cx, rfl, _, _⟩ := own_reads HW.out
      go_wp2_with fail
      go_ret
      exact ⟨_, _, rfl, hbel⟩
end Go.Proofs.Ytbpkffoooieejaa
