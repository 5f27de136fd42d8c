/- The walk of raster.Flat: commands, layer by layer. -/
import Derived.BigQuiet
import Derived.Handy
import Derived.IntWalk
import Derived.Deep.QuietTactic
import Derived.Deep.MidRow
import Derived.Deep.RegionHeld3
import Derived.Test.YtbpkffoooieejaaFlatA
namespace Go.Proofs.Ytbpkffoooieejaa
open Go.ChangeShapes Go.WideShapes Go.ChangeAt Go.RowKit
def cmAt (l : List Cm) (k : Nat) : Cm := l.getD k ⟨0, 0, 0, 0, 0, 0, 0, 0, ByteArray.empty⟩
def cmCells (l : List Cm) : List Value := l.flatMap fun c => (cmA c).toList
theorem cmAt_of (l : List Cm) (k : Nat) (h : k < l.length) : cmAt l k = l[k] := by simp [cmAt, List.getD, List.getElem?_eq_getElem h]
theorem cmCells_at : ∀ (l : List Cm) (k j : Nat), k < l.length → j < 9 → (cmCells l)[k * 9 + j]? = (cmA (cmAt l k))[j]?
  | [], _, _, h, _ => absurd h (Nat.not_lt_zero _)
  | d :: l, 0, j, _, hj => by
    show ((cmA d).toList ++ cmCells l)[0 * 9 + j]? = _
    rw [Nat.zero_mul, Nat.zero_add, List.getElem?_append_left (by simpa [cmA] using hj), Array.getElem?_toList]; rfl
  | d :: l, k + 1, j, h, hj => by
    show ((cmA d).toList ++ cmCells l)[(k + 1) * 9 + j]? = _
    rw [List.getElem?_append_right (by simp [cmA]; omega), show (k + 1) * 9 + j - ((cmA d).toList).length = k * 9 + j by simp [cmA]; omega, cmCells_at l k j (by simpa using h) hj]; rfl
theorem cmCell {w : World} {B c : Nat} {A : Option Addr} {l : List Cm} (h : w.ownsRow B 43 9 (.slice A l.length c) l.length (cmCells l)) {k : Nat} (hk : k < l.length) :
    ∃ g, A = some ⟨g, 0, none⟩ ∧ B ≤ g ∧ g < w.heap.size ∧ ∀ j, j < 9 → w.cell? ⟨g, k * 9 + j, none⟩ = (cmA (cmAt l k))[j]? := by
  obtain ⟨g, cap, hv, hg, hlt⟩ := h.form (by omega)
  injection hv with hA _ _
  subst hA
  exact ⟨g, rfl, hg, hlt, fun j hj => by rw [h.cellAt _ (by omega)]; exact cmCells_at l k j hk hj⟩
theorem cmd_info : (Try.prog.info? 43).map (fun i => (i.zero, i.size, i.bytes)) = some (some (.agg #[.int .i64 0, .int .i64 0, .int .i64 0, .int .i64 0, .int .i64 0, .int .i64 0, .int .i64 0, .int .i64 0, .string ByteArray.empty]), 9, 80) := by kernel_rfl
theorem ldraw_info : (Try.prog.info? 76).map (fun i => (i.zero, i.size, i.bytes)) = some (some (.agg #[.int .i64 0, .int .i64 0, .int .i64 0, .int .i64 0, .int .i64 0, .int .i64 0, .int .i64 0, .int .i64 0, .string ByteArray.empty, .int .i64 0, .int .i64 0, .int .i64 0, .int .i64 0, .int .i64 0]), 14, 120) := by kernel_rfl
theorem state_info : (Try.prog.info? 87).map (fun i => (i.zero, i.size, i.bytes)) = some (some (.agg #[.int .i64 0, .int .i64 0, .int .i64 0, .int .i64 0, .int .i64 0]), 5, 40) := by kernel_rfl
theorem range4 {w : World} {g : Nat} {t : TypeId} {a b c d e : Value} (h : Blk w g t #[a, b, c, d, e]) : w.rangeAt g 0 [a, b, c, d] := by
  intro j v hj
  have hj4 : j < 4 := by
    rcases Nat.lt_or_ge j 4 with h4 | h4
    · exact h4
    · rw [List.getElem?_eq_none (by simpa using h4)] at hj; cases hj
  rw [Nat.zero_add]
  rcases (show j = 0 ∨ j = 1 ∨ j = 2 ∨ j = 3 by omega) with rfl | rfl | rfl | rfl
  · exact (h.cell 0).trans hj
  · exact (h.cell 1).trans hj
  · exact (h.cell 2).trans hj
  · exact (h.cell 3).trans hj
theorem rectC_tame (c : Cm) : Tame (rectC c).x ∧ Tame (rectC c).y ∧ Tame (rectC c).w ∧ Tame (rectC c).h := by
  have h1 := cut_lo c.x
  have h2 := cut_hi c.x
  have h3 := cut_lo c.y
  have h4 := cut_hi c.y
  have h5 := cut_lo c.w
  have h6 := cut_hi c.w
  have h7 := cut_lo c.h
  have h8 := cut_hi c.h
  simp only [rectC, Tame]
  omega
theorem partN_bd (p : Int) : 0 ≤ partN p ∧ partN p ≤ 1000 := by unfold partN; omega
theorem scale_mul {n p : Int} (hn : 0 ≤ n ∧ n ≤ 1000) (hp : 0 ≤ p ∧ p ≤ 1000) : 0 ≤ n * p ∧ n * p ≤ 1000000 := by
  have h1 := Int.mul_nonneg hn.1 hp.1
  have h2 := Int.mul_le_mul hn.2 hp.2 hp.1 (by decide : (0 : Int) ≤ 1000)
  omega
theorem scale_bd {n p : Int} (hn : 0 ≤ n ∧ n ≤ 1000) (hp : 0 ≤ p ∧ p ≤ 1000) : 0 ≤ n * p / 1000 ∧ n * p / 1000 ≤ 1000 := by
  have h1 := scale_mul hn hp
  omega
theorem lay0 : layCells [(allR, 1000)] = [.int .i64 (-16777216), .int .i64 (-16777216), .int .i64 33554432, .int .i64 33554432, .int .i64 1000] := rfl
def FlatPost (l : List Cm) (w : World) (e : Ending) (w' : World) : Prop := ∃ v, e = .returned (.tuple #[v, .int .i64 (flatF l).1]) ∧ w'.ownsRow w.heap.size 76 14 v (flatF l).2.length (drCells (flatF l).2) ∧ Below w.heap.size w w'
theorem flatF_err {l : List Cm} {e : Int} (he : e ≠ 0) (h : flatS [(allR, 1000)] [] l = (e, [], [])) : flatF l = (e, []) := by
  unfold flatF; rw [h]; simp [he]
theorem flatF_open {l : List Cm} {ar : Lay} {out : List Dr} (h : flatS [(allR, 1000)] [] l = (0, ar, out)) (h1 : 1 < ar.length) : flatF l = (3, []) := by
  unfold flatF; rw [h]; simp [h1]
theorem flatF_shut {l : List Cm} {ar : Lay} {out : List Dr} (h : flatS [(allR, 1000)] [] l = (0, ar, out)) (h1 : ¬ 1 < ar.length) : flatF l = (0, out) := by
  unfold flatF; rw [h]; simp [h1]
theorem flatPost_none {l : List Cm} {w w' : World} {e : Int} (h : flatF l = (e, [])) (hb : Below w.heap.size w w') : FlatPost l w (.returned (.tuple #[.slice none 0 0, .int .i64 e])) w' :=
  ⟨_, by rw [h], by rw [h]; exact own_none _ _ _ _, hb⟩
set_option maxRecDepth 100000 in
set_option maxHeartbeats 8000000 in
theorem Flat_any (l : List Cm) (B c : Nat) (A : Option Addr) (w : World) (hl : l.length ≤ 30) (hlt : ∀ x ∈ l, x.t.size ≤ 400) (ho : w.ownsRow B 43 9 (.slice A l.length c) l.length (cmCells l)) :
    Calls Try.prog 28 #[.slice A l.length c] w (FlatPost l w) := by
  have HO := hide ho
  have HT := hide hlt
  clear ho hlt
  go_enter Try.func28, Try.ntmps28
  go_wp2_with (first | (go_at_call 42; refine (all_any _).mono ?_; rintro e w1 ⟨rfl, hb1⟩; rw [show rcA allR = #[.int .i64 (-16777216), .int .i64 (-16777216), .int .i64 33554432, .int .i64 33554432] from rfl]) | fail)
  have hB0 := Blk.new w1 87 (layCells [(allR, 1000)]).toArray
  have hown0 := own_of_blk (base := w.heap.size) (size := 5) (n := 1) hB0 hb1.size (by simp only [maxLen]; omega) rfl
  have hbA : Below w.heap.size w (w1.alloc (.cells (layCells [(allR, 1000)]).toArray 87)) := hb1.alloc hb1.size _
  rw [lay0] at hown0 hbA
  have H0 := hide hown0
  clear hown0 hB0
  generalize w1.alloc (.cells [.int .i64 (-16777216), .int .i64 (-16777216), .int .i64 33554432, .int .i64 33554432, .int .i64 1000].toArray 87) = wA at *
  have HF0 := hide (show flatS [(allR, 1000)] [] (l.drop 0) = flatS [(allR, 1000)] [] l from by rw [List.drop_zero])
  generalize hfin : flatS [(allR, 1000)] [] l = fin at *
  have HFIN := hide hfin
  clear hfin
  go_loopw [4, 5, 14] (fun v4 v5 i wr => ∃ (k : Nat) (ar : Lay) (out : List Dr), k ≤ l.length ∧ i = .int .i64 k ∧ ar ≠ [] ∧ ar.length ≤ k + 1 ∧ out.length ≤ k ∧ Hid (layOk ar) ∧ Hid (∀ d ∈ out, d.ok) ∧ wr.ownsRow w.heap.size 87 5 v4 ar.length (layCells ar) ∧ wr.ownsRow w.heap.size 76 14 v5 out.length (drCells out) ∧ Below w.heap.size w wr ∧ Hid (flatS ar out (l.drop k) = fin)) (fun _ _ i _ => l.length - (intOf i).toNat)
  case atStart => exact ⟨0, [(allR, 1000)], [], Nat.zero_le _, rfl, by simp, by simp, by simp, hide (fun a ha => by simp at ha; subst ha; exact ⟨allR_clip, by omega, by omega⟩), hide (fun d hd => by simp at hd), by rw [lay0]; exact H0.out, own_none _ _ _ _, hbA, HF0⟩
  case round =>
    obtain ⟨k, ar, out, hk, rfl, hne, har, hout, hlok, hdok, hown4, hown5, hbel, hfs⟩ := hrel
    have HW4 := hide hown4
    have HW5 := hide hown5
    have hszr := hbel.size
    clear hown4 hown5
    by_cases hlt : k < l.length
    · obtain ⟨g, rfl, _, hg, hc⟩ := cmCell HO.out hlt
      have cc : ∀ j, j < 9 → wr.cell? ⟨g, k * 9 + j, none⟩ = (cmA (cmAt l k))[j]? := fun j hj => (hbel.cell (p := ⟨g, k * 9 + j, none⟩) hg).trans (hc j hj)
      have htk : (cmAt l k).t.size ≤ 400 := by rw [cmAt_of l k hlt]; exact HT.out _ (List.getElem_mem hlt)
      have hdrop : l.drop k = cmAt l k :: l.drop (k + 1) := by rw [cmAt_of l k hlt]; exact List.drop_eq_getElem_cons hlt
      rw [hdrop] at hfs
      generalize cmAt l k = m at *
      obtain ⟨m1, m2, m3, m4, m5, m6, m7, m8, m9⟩ := m
      clear hc hdrop
      cases ar with
      | nil => exact absurd rfl hne
      | cons a ar =>
      obtain ⟨g4, cap4, hv4, hg4, hg4l⟩ := HW4.out.form (by simp)
      have hla : (a :: ar).length = ar.length + 1 := rfl
      rw [hla] at hv4 HW4 har
      subst hv4
      have ss : ∀ j, j < 5 → wr.cell? ⟨g4, ar.length * 5 + j, none⟩ = (layC a)[j]? := fun j hj => by rw [HW4.out.cellAt _ (by omega)]; exact layCells_top a ar j hj
      have hak := hlok.out a (by simp)
      obtain ⟨⟨k1, k2, k3, k4⟩, n⟩ := a
      unfold Rc.clip at hak
      dsimp only at hak htk
      have d0 : wr.cell? ⟨g, k * 9, none⟩ = some (.int .i64 m1) := cc 0 (by omega)
      have d1 : wr.cell? ⟨g, k * 9 + 1, none⟩ = some (.int .i64 m2) := cc 1 (by omega)
      have d2 : wr.cell? ⟨g, k * 9 + 2, none⟩ = some (.int .i64 m3) := cc 2 (by omega)
      have d3 : wr.cell? ⟨g, k * 9 + 3, none⟩ = some (.int .i64 m4) := cc 3 (by omega)
      have d4 : wr.cell? ⟨g, k * 9 + 4, none⟩ = some (.int .i64 m5) := cc 4 (by omega)
      have d5 : wr.cell? ⟨g, k * 9 + 5, none⟩ = some (.int .i64 m6) := cc 5 (by omega)
      have d6 : wr.cell? ⟨g, k * 9 + 6, none⟩ = some (.int .i64 m7) := cc 6 (by omega)
      have d7 : wr.cell? ⟨g, k * 9 + 7, none⟩ = some (.int .i64 m8) := cc 7 (by omega)
      have d8 : wr.cell? ⟨g, k * 9 + 8, none⟩ = some (.string m9) := cc 8 (by omega)
      have s0 : wr.cell? ⟨g4, ar.length * 5, none⟩ = some (.int .i64 k1) := ss 0 (by omega)
      have s1 : wr.cell? ⟨g4, ar.length * 5 + 1, none⟩ = some (.int .i64 k2) := ss 1 (by omega)
      have s2 : wr.cell? ⟨g4, ar.length * 5 + 2, none⟩ = some (.int .i64 k3) := ss 2 (by omega)
      have s3 : wr.cell? ⟨g4, ar.length * 5 + 3, none⟩ = some (.int .i64 k4) := ss 3 (by omega)
      have s4 : wr.cell? ⟨g4, ar.length * 5 + 4, none⟩ = some (.int .i64 n) := ss 4 (by omega)
      clear cc ss hla
      have Q1 := hide ((Blk.new wr 43 #[.int .i64 m1, .int .i64 m2, .int .i64 m3, .int .i64 m4, .int .i64 m5, .int .i64 m6, .int .i64 m7, .int .i64 m8, .string m9]).alloc (.cells #[.int .i64 k1, .int .i64 k2, .int .i64 k3, .int .i64 k4, .int .i64 n] 87))
      have q2 := Blk.new (wr.alloc (.cells #[.int .i64 m1, .int .i64 m2, .int .i64 m3, .int .i64 m4, .int .i64 m5, .int .i64 m6, .int .i64 m7, .int .i64 m8, .string m9] 43)) 87 #[.int .i64 k1, .int .i64 k2, .int .i64 k3, .int .i64 k4, .int .i64 n]
      have hsA : (wr.alloc (.cells #[.int .i64 m1, .int .i64 m2, .int .i64 m3, .int .i64 m4, .int .i64 m5, .int .i64 m6, .int .i64 m7, .int .i64 m8, .string m9] 43)).heap.size = wr.heap.size + 1 := by simp
      rw [hsA] at q2
      have Q2 := hide q2
      have hbB := (hbel.alloc hszr (.cells #[.int .i64 m1, .int .i64 m2, .int .i64 m3, .int .i64 m4, .int .i64 m5, .int .i64 m6, .int .i64 m7, .int .i64 m8, .string m9] 43)).alloc (by rw [hsA]; omega) (.cells #[.int .i64 k1, .int .i64 k2, .int .i64 k3, .int .i64 k4, .int .i64 n] 87)
      have HX4 := hide ((HW4.out.alloc (.cells #[.int .i64 m1, .int .i64 m2, .int .i64 m3, .int .i64 m4, .int .i64 m5, .int .i64 m6, .int .i64 m7, .int .i64 m8, .string m9] 43)).alloc (.cells #[.int .i64 k1, .int .i64 k2, .int .i64 k3, .int .i64 k4, .int .i64 n] 87))
      have HX5 := hide ((HW5.out.alloc (.cells #[.int .i64 m1, .int .i64 m2, .int .i64 m3, .int .i64 m4, .int .i64 m5, .int .i64 m6, .int .i64 m7, .int .i64 m8, .string m9] 43)).alloc (.cells #[.int .i64 k1, .int .i64 k2, .int .i64 k3, .int .i64 k4, .int .i64 n] 87))
      clear q2 hsA
      have hls := hlok.out
      by_cases h1 : m1 = 1 ∨ m1 = 2
      · have HFS := hide (show flatS ((⟨k1, k2, k3, k4⟩, n) :: ar) (out ++ [⟨⟨m1, m2, m3, m4, m5, m6, m7, m8, m9⟩, ⟨k1, k2, k3, k4⟩, n⟩]) (l.drop (k + 1)) = fin from by have h9 := hfs.out; simp only [flatS, List.headD_cons] at h9; rw [if_pos h1] at h9; exact h9)
        have HDK := hide (show ∀ d ∈ out ++ [(⟨⟨m1, m2, m3, m4, m5, m6, m7, m8, m9⟩, ⟨k1, k2, k3, k4⟩, n⟩ : Dr)], d.ok from fun d hd => by
          rcases List.mem_append.1 hd with hd | hd
          · exact hdok.out d hd
          · simp at hd; subst hd; exact ⟨hak.1, htk⟩)
        have q3 := Blk.new ((wr.alloc (.cells #[.int .i64 m1, .int .i64 m2, .int .i64 m3, .int .i64 m4, .int .i64 m5, .int .i64 m6, .int .i64 m7, .int .i64 m8, .string m9] 43)).alloc (.cells #[.int .i64 k1, .int .i64 k2, .int .i64 k3, .int .i64 k4, .int .i64 n] 87)) 76 #[.int .i64 m1, .int .i64 m2, .int .i64 m3, .int .i64 m4, .int .i64 m5, .int .i64 m6, .int .i64 m7, .int .i64 m8, .string m9, .int .i64 k1, .int .i64 k2, .int .i64 k3, .int .i64 k4, .int .i64 n]
        have hsB : ((wr.alloc (.cells #[.int .i64 m1, .int .i64 m2, .int .i64 m3, .int .i64 m4, .int .i64 m5, .int .i64 m6, .int .i64 m7, .int .i64 m8, .string m9] 43)).alloc (.cells #[.int .i64 k1, .int .i64 k2, .int .i64 k3, .int .i64 k4, .int .i64 n] 87)).heap.size = wr.heap.size + 1 + 1 := by simp
        rw [hsB] at q3
        have Q3 := hide q3
        have HY4 := hide (HX4.out.alloc (.cells #[.int .i64 m1, .int .i64 m2, .int .i64 m3, .int .i64 m4, .int .i64 m5, .int .i64 m6, .int .i64 m7, .int .i64 m8, .string m9, .int .i64 k1, .int .i64 k2, .int .i64 k3, .int .i64 k4, .int .i64 n] 76))
        have HY5 := hide (HX5.out.alloc (.cells #[.int .i64 m1, .int .i64 m2, .int .i64 m3, .int .i64 m4, .int .i64 m5, .int .i64 m6, .int .i64 m7, .int .i64 m8, .string m9, .int .i64 k1, .int .i64 k2, .int .i64 k3, .int .i64 k4, .int .i64 n] 76))
        have hbC := hbB.alloc (by rw [hsB]; omega) (.cells #[.int .i64 m1, .int .i64 m2, .int .i64 m3, .int .i64 m4, .int .i64 m5, .int .i64 m6, .int .i64 m7, .int .i64 m8, .string m9, .int .i64 k1, .int .i64 k2, .int .i64 k3, .int .i64 k4, .int .i64 n] 76)
        have HAP := hide (own_apart HY4.out HY5.out (by decide))
        have DS := hide (show drCells (out ++ [⟨⟨m1, m2, m3, m4, m5, m6, m7, m8, m9⟩, ⟨k1, k2, k3, k4⟩, n⟩]) = drCells out ++ (#[.int .i64 m1, .int .i64 m2, .int .i64 m3, .int .i64 m4, .int .i64 m5, .int .i64 m6, .int .i64 m7, .int .i64 m8, .string m9, .int .i64 k1, .int .i64 k2, .int .i64 k3, .int .i64 k4, .int .i64 n]).toList from drCells_snoc _ _)
        clear q3 hsB hfs hls hdok HX4 HX5 hbB
        rcases h1 with rfl | rfl
        all_goals
          go_wp2_with (first | (at_builtin; refine wpList_app1 rfl (.tmp 29) (.tmp 36) _ rfl w.heap.size 76 _ 14 120 Try.underlying68 ldraw_info rfl (Nat.succ_pos _) _ out.length _ rfl HY5.out (wr.heap.size + 1 + 1) 1 _ Q3.out rfl rfl rfl (by omega) (Nat.le_of_ble_eq_true rfl) hbC.size ?_; intro v9 w9 hown9 hg9; have HO9 := hide hown9; have HK4 := hide (HY4.out.kept hg9 HAP.out); have hb9 := own_below HY5.out hbC (Nat.le_refl _) (Nat.le_refl _) hg9; clear hown9 hg9) | fail)
          go_roundw
          case rel => exact ⟨k + 1, _, _, by omega, by go_num, hne, by simp; omega, by simp; omega, hlok, HDK, HK4.out, by rw [DS.out, List.length_append]; exact HO9.out, hb9, HFS⟩
          case measure => simp [intOf]; omega
      · have z1 : (m1 == 1) = false := beq_eq_false_iff_ne.2 (by omega)
        have z2 : (m1 == 2) = false := beq_eq_false_iff_ne.2 (by omega)
        by_cases h3 : m1 = 3
        · have z3 : (m1 == 3) = true := by simp [h3]
          have h9 := hfs.out
          simp only [flatS, List.headD_cons] at h9
          rw [if_neg h1, if_pos h3] at h9
          have HFS := hide h9
          clear h9 hfs h1 h3
          have hrb := rectC_bd ⟨m1, m2, m3, m4, m5, m6, m7, m8, m9⟩
          have hmc := meet_clip (a := ⟨k1, k2, k3, k4⟩) hak.1 hrb
          have HLK := hide (show layOk ((meetR ⟨k1, k2, k3, k4⟩ (rectC ⟨m1, m2, m3, m4, m5, m6, m7, m8, m9⟩), n) :: (⟨k1, k2, k3, k4⟩, n) :: ar) from fun a ha => by
            rcases List.mem_cons.1 ha with rfl | ha
            · exact ⟨hmc, hak.2⟩
            · exact hls a ha)
          have hta : Tame k1 ∧ Tame k2 ∧ Tame k3 ∧ Tame k4 := by unfold Tame; omega
          have HR := hide (rect_any ⟨m1, m2, m3, m4, m5, m6, m7, m8, m9⟩)
          have htb : Tame (rectC ⟨m1, m2, m3, m4, m5, m6, m7, m8, m9⟩).x ∧ Tame (rectC ⟨m1, m2, m3, m4, m5, m6, m7, m8, m9⟩).y ∧ Tame (rectC ⟨m1, m2, m3, m4, m5, m6, m7, m8, m9⟩).w ∧ Tame (rectC ⟨m1, m2, m3, m4, m5, m6, m7, m8, m9⟩).h := rectC_tame _
          have hcells := layCells_cons (meetR ⟨k1, k2, k3, k4⟩ (rectC ⟨m1, m2, m3, m4, m5, m6, m7, m8, m9⟩), n) ((⟨k1, k2, k3, k4⟩, n) :: ar)
          have HCL := hide hcells
          clear hrb hmc hls hcells
          generalize hmr : meetR ⟨k1, k2, k3, k4⟩ (rectC ⟨m1, m2, m3, m4, m5, m6, m7, m8, m9⟩) = r at *
          have HMR := hide hmr
          clear hmr
          obtain ⟨r1, r2, r3, r4⟩ := r
          have HRA := hide (show rcA ⟨r1, r2, r3, r4⟩ = #[.int .i64 r1, .int .i64 r2, .int .i64 r3, .int .i64 r4] from rfl)
          go_wp2_with fail
          have hszB : ((wr.alloc (.cells #[.int .i64 m1, .int .i64 m2, .int .i64 m3, .int .i64 m4, .int .i64 m5, .int .i64 m6, .int .i64 m7, .int .i64 m8, .string m9] 43)).alloc (.cells #[.int .i64 k1, .int .i64 k2, .int .i64 k3, .int .i64 k4, .int .i64 n] 87)).heap.size = wr.heap.size + 1 + 1 := by simp
          generalize (wr.alloc (.cells #[.int .i64 m1, .int .i64 m2, .int .i64 m3, .int .i64 m4, .int .i64 m5, .int .i64 m6, .int .i64 m7, .int .i64 m8, .string m9] 43)).alloc (.cells #[.int .i64 k1, .int .i64 k2, .int .i64 k3, .int .i64 k4, .int .i64 n] 87) = wB at *
          generalize hg8 : wr.heap.size + 1 = gs at *
          refine wp_region_held_drew (S := fun W => Blk W wr.heap.size 43 #[.int .i64 m1, .int .i64 m2, .int .i64 m3, .int .i64 m4, .int .i64 m5, .int .i64 m6, .int .i64 m7, .int .i64 m8, .string m9] ∧ Blk W gs 87 #[.int .i64 k1, .int .i64 k2, .int .i64 k3, .int .i64 k4, .int .i64 n]) (by kernel_rfl) ⟨Q1.out.drew, Q2.out.drew⟩ (fun hHeld => ?_)
          refine take_at (i := 0) (v := .slice (some ⟨g4, 0, none⟩) (ar.length + 1) cap4) (some 40) rfl rfl (by kernel_rfl) (by kernel_rfl) (by kernel_rfl) (fun _ _ _ h => h) (yieldsIf_move (by rfl) _ rfl _ rfl) hHeld ?_
          simp only [Act.put, List.setIfInBounds_toArray, List.set_cons_zero, List.set_cons_succ]
          refine take_at (i := 1) (v := .pointer (some ⟨gs, 0, none⟩)) (some 41) rfl rfl (by kernel_rfl) (by kernel_rfl) (by kernel_rfl) (fun _ _ _ h => h) (Or.inl ⟨by rfl, fun w _ => ?_⟩) hHeld ?_
          · go_simp
          simp only [Act.put, List.setIfInBounds_toArray, List.set_cons_zero, List.set_cons_succ]
          refine take_at (i := 2) (v := .agg #[.int .i64 k1, .int .i64 k2, .int .i64 k3, .int .i64 k4]) (some 42) rfl rfl (by kernel_rfl) (by kernel_rfl) (by kernel_rfl) (fun _ _ _ h => h) (yieldsIf_load_mid (by rfl) 36 _ rfl gs 0 rfl [.int .i64 k1, .int .i64 k2, .int .i64 k3, .int .i64 k4] _ (fun w h => range4 h.2) (by rfl) rfl (by kernel_rfl)) hHeld ?_
          simp only [Act.put, List.setIfInBounds_toArray, List.set_cons_zero, List.set_cons_succ]
          refine take_at (i := 3) (v := .agg #[.int .i64 m1, .int .i64 m2, .int .i64 m3, .int .i64 m4, .int .i64 m5, .int .i64 m6, .int .i64 m7, .int .i64 m8, .string m9]) (some 43) rfl rfl (by kernel_rfl) (by kernel_rfl) (by kernel_rfl) (fun _ _ _ h => h) (yieldsIf_load_blk (by rfl) 43 _ rfl wr.heap.size rfl 43 _ _ (fun w h => h.1) (by rfl) rfl (by kernel_rfl)) hHeld ?_
          simp only [Act.put, List.setIfInBounds_toArray, List.set_cons_zero, List.set_cons_succ]
          refine take_at (i := 6) (v := .pointer (some ⟨gs, 4, none⟩)) (some 46) rfl rfl (by kernel_rfl) (by kernel_rfl) (by kernel_rfl) (fun _ _ _ h => h) (Or.inl ⟨by rfl, fun w _ => ?_⟩) hHeld ?_
          · go_simp
          simp only [Act.put, List.setIfInBounds_toArray, List.set_cons_zero, List.set_cons_succ]
          refine take_at (i := 7) (v := .int .i64 n) (some 47) rfl rfl (by kernel_rfl) (by kernel_rfl) (by kernel_rfl) (fun _ _ _ h => h) (Or.inl ⟨by rfl, fun w h => ?_⟩) hHeld ?_
          · have h4 : w.cell? ⟨gs, 4, none⟩ = some (.int .i64 n) := h.2.cell 4
            go_simp
          simp only [Act.put, List.setIfInBounds_toArray, List.set_cons_zero, List.set_cons_succ]
          refine wpAnyH_ready (rs := [4]) (by kernel_rfl) (by simp) ?_
          refine AllReadyH.cons rfl (fun K hK => ?_) AllReadyH.nil
          go_simp
          go_at_call 44
          refine (HR.out _).mono ?_
          rintro e w5 ⟨rfl, hb5⟩
          go_wp2_with fail
          have q1 := Q1.out.drew.below hb5 Q1.out.drew.lt
          have q2 := Q2.out.drew.below hb5 Q2.out.drew.lt
          have y4 := own_keep HX4.out.drew hb5 (own_lt HX4.out.drew)
          have y5 := own_keep HX5.out.drew hb5 (own_lt HX5.out.drew)
          have b5 := below_then hbB.drew (Nat.le_refl _) hb5
          have hz5 := hb5.size
          refine hK.out _ _ ⟨q1, q2⟩ (fun _ => ?_)
          refine wpAnyH_ready (rs := [5]) (by kernel_rfl) (by simp) ?_
          refine AllReadyH.cons rfl (fun K2 hK2 => ?_) AllReadyH.nil
          go_simp
          go_at_call 43
          refine (meet_any ⟨k1, k2, k3, k4⟩ _ _ hta htb).mono ?_
          rintro e w6 ⟨rfl, hb6⟩
          go_wp2_with fail
          have p1 := q1.below hb6 q1.lt
          have p2 := q2.below hb6 q2.lt
          have x4 := own_keep y4 hb6 (own_lt y4)
          have x5 := own_keep y5 hb6 (own_lt y5)
          have b6 := below_then b5 (Nat.le_refl _) hb6
          clear y4 y5 q1 q2 hb6
          rw [HMR.out, HRA.out]
          refine hK2.out _ _ ⟨p1, p2⟩ (fun hH6 => ?_)
          refine take_at (i := 8) (v := .agg #[.int .i64 r1, .int .i64 r2, .int .i64 r3, .int .i64 r4, .int .i64 n]) (some 48) rfl rfl (by kernel_rfl) (by kernel_rfl) (by kernel_rfl) (fun _ _ _ h => h) (yieldsIf_build (by rfl) 87 _ rfl [(0, .agg #[.int .i64 r1, .int .i64 r2, .int .i64 r3, .int .i64 r4]), (1, .int .i64 n)] rfl _ (by kernel_rfl)) hH6 ?_
          simp only [Act.put, List.setIfInBounds_toArray, List.set_cons_zero, List.set_cons_succ]
          refine wpAnyH_ready (rs := [9]) (by kernel_rfl) (by simp) ?_
          refine AllReadyH.cons rfl (fun K3 hK3 => ?_) AllReadyH.nil
          go_simp
          have q3 := Blk.new w6 87 #[.int .i64 r1, .int .i64 r2, .int .i64 r3, .int .i64 r4, .int .i64 n]
          have a4 := x4.alloc (.cells #[.int .i64 r1, .int .i64 r2, .int .i64 r3, .int .i64 r4, .int .i64 n] 87)
          have a5 := x5.alloc (.cells #[.int .i64 r1, .int .i64 r2, .int .i64 r3, .int .i64 r4, .int .i64 n] 87)
          have b7 := b6.alloc b6.size (.cells #[.int .i64 r1, .int .i64 r2, .int .i64 r3, .int .i64 r4, .int .i64 n] 87)
          have hH7 := And.intro (p1.alloc (.cells #[.int .i64 r1, .int .i64 r2, .int .i64 r3, .int .i64 r4, .int .i64 n] 87)) (p2.alloc (.cells #[.int .i64 r1, .int .i64 r2, .int .i64 r3, .int .i64 r4, .int .i64 n] 87))
          refine hK3.out _ _ hH7 (fun _ => ?_)
          refine wpAnyH_ready (rs := [10]) (by kernel_rfl) (by simp) ?_
          refine AllReadyH.cons rfl (fun K4 hK4 => ?_) AllReadyH.nil
          obtain ⟨i0, i1, i2, i3, i4⟩ := info_parts state_info
          have hmx : ar.length + 1 + 1 ≤ maxLen := by simp only [maxLen]; omega
          have hmy : (ar.length + 1 + 1) * 40 ≤ 140737488355328 := by omega
          refine step_append_any _ rfl (.tmp 40) (.tmp 49) _ rfl w.heap.size 87 i0 _ 5 40 Try.underlying88 i1 i2 i3 i4 rfl (Nat.succ_pos _) _ (ar.length + 1) _ (by rfl) a4 (w6.heap.size + 1) _ 1 1 _ (by rfl) (reads_blk q3 5 rfl) (List.all_eq_true.1 rfl) hmx hmy b7.size ?_
          intro v8 w8 hown8 hg8 _
          have k5 := hide (a5.kept hg8 (own_apart a5 a4 (by decide)))
          have b8 := own_below a4 b7 (Nat.le_refl _) (Nat.le_refl _) hg8
          have hne1 : wr.heap.size ≠ g4 := by omega
          have hne2 : gs ≠ g4 := by omega
          have K8 := hide hown8
          clear hown8 a4 a5 x4 x5 q3 p1 p2
          refine hK4.out _ _ ⟨blk_grown hH7.1 hg8 hne1, blk_grown hH7.2 hg8 hne2⟩ (fun hH8 => ?_)
          clear hg8 hH7
          refine wpAnyH_ready (rs := [11]) (by kernel_rfl) (by simp) ?_
          refine AllReadyH.cons rfl (fun K5 hK5 => ?_) AllReadyH.nil
          go_simp
          refine hK5.out _ _ hH8 (fun _ => ?_)
          refine wpAnyH_done (by kernel_rfl) ?_ _
          clear hH8 hHeld hH6
          go_wp2_with fail
          go_roundw
          case rel => exact ⟨k + 1, (⟨r1, r2, r3, r4⟩, n) :: (⟨k1, k2, k3, k4⟩, n) :: ar, out, by omega, by go_num, by simp, by simp; omega, by omega, HLK, hdok, by rw [HCL.out]; exact K8.out, k5.out, b8, HFS⟩
          case measure => simp [intOf]; omega
        · have z3 : (m1 == 3) = false := beq_eq_false_iff_ne.2 h3
          by_cases h4 : m1 = 4
          · have z4 : (m1 == 4) = true := by simp [h4]
            have h9 := hfs.out
            simp only [flatS, List.headD_cons] at h9
            rw [if_neg h1, if_neg h3, if_pos h4] at h9
            have HFS := hide h9
            clear h9 hfs h1 h3 h4
            have hpn := partN_bd m8
            generalize hpm : partN m8 = pn at *
            have HPN := hide hpm
            clear hpm
            have hnn := scale_bd hak.2 hpn
            have hmul : 0 ≤ n * pn ∧ n * pn ≤ 1000000 := scale_mul hak.2 hpn
            have hwm : IntKind.i64.wrap (n * pn) = n * pn := by rw [IntWalk.i64_in _ (by omega)]
            have hq : Int.tdiv (n * pn) 1000 = n * pn / 1000 := Int.tdiv_eq_ediv_of_nonneg hmul.1
            have hwq : IntKind.i64.wrap (n * pn / 1000) = n * pn / 1000 := by rw [IntWalk.i64_in _ (by omega)]
            have HLK := hide (show layOk ((⟨k1, k2, k3, k4⟩, n * pn / 1000) :: (⟨k1, k2, k3, k4⟩, n) :: ar) from fun a ha => by
              rcases List.mem_cons.1 ha with rfl | ha
              · exact ⟨hak.1, hnn⟩
              · exact hls a ha)
            have HCL := hide (layCells_cons (⟨k1, k2, k3, k4⟩, n * pn / 1000) ((⟨k1, k2, k3, k4⟩, n) :: ar))
            clear hls
            go_wp2_with fail
            have hszB : ((wr.alloc (.cells #[.int .i64 m1, .int .i64 m2, .int .i64 m3, .int .i64 m4, .int .i64 m5, .int .i64 m6, .int .i64 m7, .int .i64 m8, .string m9] 43)).alloc (.cells #[.int .i64 k1, .int .i64 k2, .int .i64 k3, .int .i64 k4, .int .i64 n] 87)).heap.size = wr.heap.size + 1 + 1 := by simp
            generalize (wr.alloc (.cells #[.int .i64 m1, .int .i64 m2, .int .i64 m3, .int .i64 m4, .int .i64 m5, .int .i64 m6, .int .i64 m7, .int .i64 m8, .string m9] 43)).alloc (.cells #[.int .i64 k1, .int .i64 k2, .int .i64 k3, .int .i64 k4, .int .i64 n] 87) = wB at *
            generalize hg8 : wr.heap.size + 1 = gs at *
            refine wp_region_held_drew (S := fun W => Blk W wr.heap.size 43 #[.int .i64 m1, .int .i64 m2, .int .i64 m3, .int .i64 m4, .int .i64 m5, .int .i64 m6, .int .i64 m7, .int .i64 m8, .string m9] ∧ Blk W gs 87 #[.int .i64 k1, .int .i64 k2, .int .i64 k3, .int .i64 k4, .int .i64 n]) (by kernel_rfl) ⟨Q1.out.drew, Q2.out.drew⟩ (fun hHeld => ?_)
            refine take_at (i := 0) (v := .slice (some ⟨g4, 0, none⟩) (ar.length + 1) cap4) (some 53) rfl rfl (by kernel_rfl) (by kernel_rfl) (by kernel_rfl) (fun _ _ _ h => h) (yieldsIf_move (by rfl) _ rfl _ rfl) hHeld ?_
            simp only [Act.put, List.setIfInBounds_toArray, List.set_cons_zero, List.set_cons_succ]
            refine take_at (i := 1) (v := .pointer (some ⟨gs, 0, none⟩)) (some 54) rfl rfl (by kernel_rfl) (by kernel_rfl) (by kernel_rfl) (fun _ _ _ h => h) (Or.inl ⟨by rfl, fun w _ => ?_⟩) hHeld ?_
            · go_simp
            simp only [Act.put, List.setIfInBounds_toArray, List.set_cons_zero, List.set_cons_succ]
            refine take_at (i := 2) (v := .agg #[.int .i64 k1, .int .i64 k2, .int .i64 k3, .int .i64 k4]) (some 55) rfl rfl (by kernel_rfl) (by kernel_rfl) (by kernel_rfl) (fun _ _ _ h => h) (yieldsIf_load_mid (by rfl) 36 _ rfl gs 0 rfl [.int .i64 k1, .int .i64 k2, .int .i64 k3, .int .i64 k4] _ (fun w h => range4 h.2) (by rfl) rfl (by kernel_rfl)) hHeld ?_
            simp only [Act.put, List.setIfInBounds_toArray, List.set_cons_zero, List.set_cons_succ]
            refine take_at (i := 3) (v := .pointer (some ⟨gs, 4, none⟩)) (some 56) rfl rfl (by kernel_rfl) (by kernel_rfl) (by kernel_rfl) (fun _ _ _ h => h) (Or.inl ⟨by rfl, fun w _ => ?_⟩) hHeld ?_
            · go_simp
            simp only [Act.put, List.setIfInBounds_toArray, List.set_cons_zero, List.set_cons_succ]
            refine take_at (i := 4) (v := .int .i64 n) (some 57) rfl rfl (by kernel_rfl) (by kernel_rfl) (by kernel_rfl) (fun _ _ _ h => h) (Or.inl ⟨by rfl, fun w h => ?_⟩) hHeld ?_
            · have h4 : w.cell? ⟨gs, 4, none⟩ = some (.int .i64 n) := h.2.cell 4
              go_simp
            simp only [Act.put, List.setIfInBounds_toArray, List.set_cons_zero, List.set_cons_succ]
            refine take_at (i := 5) (v := .pointer (some ⟨wr.heap.size, 7, none⟩)) (some 58) rfl rfl (by kernel_rfl) (by kernel_rfl) (by kernel_rfl) (fun _ _ _ h => h) (Or.inl ⟨by rfl, fun w _ => ?_⟩) hHeld ?_
            · go_simp
            simp only [Act.put, List.setIfInBounds_toArray, List.set_cons_zero, List.set_cons_succ]
            refine take_at (i := 6) (v := .int .i64 m8) (some 59) rfl rfl (by kernel_rfl) (by kernel_rfl) (by kernel_rfl) (fun _ _ _ h => h) (Or.inl ⟨by rfl, fun w h => ?_⟩) hHeld ?_
            · have h4 : w.cell? ⟨wr.heap.size, 7, none⟩ = some (.int .i64 m8) := h.1.cell 7
              go_simp
            simp only [Act.put, List.setIfInBounds_toArray, List.set_cons_zero, List.set_cons_succ]
            refine wpAnyH_ready (rs := [7]) (by kernel_rfl) (by simp) ?_
            refine AllReadyH.cons rfl (fun K hK => ?_) AllReadyH.nil
            go_simp
            go_at_call 27
            refine (partN_any _ _).mono ?_
            rintro e w6 ⟨rfl, rfl⟩
            rw [HPN.out]
            go_wp2_with fail
            refine hK.out _ _ hHeld (fun _ => ?_)
            refine take_at (i := 8) (v := .int .i64 (n * pn)) (some 61) rfl rfl (by kernel_rfl) (by kernel_rfl) (by kernel_rfl) (fun _ _ _ h => h) (Or.inl ⟨by rfl, fun w _ => ?_⟩) hHeld ?_
            · first | (go_simp; done) | (go_simp; rw [hwm]; done) | (go_simp; simp [hwm]; done)
            simp only [Act.put, List.setIfInBounds_toArray, List.set_cons_zero, List.set_cons_succ]
            refine take_at (i := 9) (v := .int .i64 (n * pn / 1000)) (some 62) rfl rfl (by kernel_rfl) (by kernel_rfl) (by kernel_rfl) (fun _ _ _ h => h) (Or.inl ⟨by rfl, fun w _ => ?_⟩) hHeld ?_
            · first | (go_simp; done) | (go_simp; rw [hq, hwq]; done) | (go_simp; simp [hq, hwq]; done)
            simp only [Act.put, List.setIfInBounds_toArray, List.set_cons_zero, List.set_cons_succ]
            clear hwm hwq hq hmul hpn
            generalize n * pn / 1000 = n2 at *
            refine take_at (i := 10) (v := .agg #[.int .i64 k1, .int .i64 k2, .int .i64 k3, .int .i64 k4, .int .i64 n2]) (some 63) rfl rfl (by kernel_rfl) (by kernel_rfl) (by kernel_rfl) (fun _ _ _ h => h) (yieldsIf_build (by rfl) 87 _ rfl [(0, .agg #[.int .i64 k1, .int .i64 k2, .int .i64 k3, .int .i64 k4]), (1, .int .i64 n2)] rfl _ (by kernel_rfl)) hHeld ?_
            simp only [Act.put, List.setIfInBounds_toArray, List.set_cons_zero, List.set_cons_succ]
            have x4 := HX4.out.drew
            have x5 := HX5.out.drew
            have b6 := hbB.drew
            have p1 := hHeld.1
            have p2 := hHeld.2
            generalize wB.drew = w6 at *
            refine wpAnyH_ready (rs := [11]) (by kernel_rfl) (by simp) ?_
            refine AllReadyH.cons rfl (fun K3 hK3 => ?_) AllReadyH.nil
            go_simp
            have q3 := Blk.new w6 87 #[.int .i64 k1, .int .i64 k2, .int .i64 k3, .int .i64 k4, .int .i64 n2]
            have a4 := x4.alloc (.cells #[.int .i64 k1, .int .i64 k2, .int .i64 k3, .int .i64 k4, .int .i64 n2] 87)
            have a5 := x5.alloc (.cells #[.int .i64 k1, .int .i64 k2, .int .i64 k3, .int .i64 k4, .int .i64 n2] 87)
            have b7 := b6.alloc b6.size (.cells #[.int .i64 k1, .int .i64 k2, .int .i64 k3, .int .i64 k4, .int .i64 n2] 87)
            have hH7 := And.intro (p1.alloc (.cells #[.int .i64 k1, .int .i64 k2, .int .i64 k3, .int .i64 k4, .int .i64 n2] 87)) (p2.alloc (.cells #[.int .i64 k1, .int .i64 k2, .int .i64 k3, .int .i64 k4, .int .i64 n2] 87))
            refine hK3.out _ _ hH7 (fun _ => ?_)
            refine wpAnyH_ready (rs := [12]) (by kernel_rfl) (by simp) ?_
            refine AllReadyH.cons rfl (fun K4 hK4 => ?_) AllReadyH.nil
            obtain ⟨i0, i1, i2, i3, i4⟩ := info_parts state_info
            have hmx : ar.length + 1 + 1 ≤ maxLen := by simp only [maxLen]; omega
            have hmy : (ar.length + 1 + 1) * 40 ≤ 140737488355328 := by omega
            refine step_append_any _ rfl (.tmp 53) (.tmp 64) _ rfl w.heap.size 87 i0 _ 5 40 Try.underlying88 i1 i2 i3 i4 rfl (Nat.succ_pos _) _ (ar.length + 1) _ (by rfl) a4 (w6.heap.size + 1) _ 1 1 _ (by rfl) (reads_blk q3 5 rfl) (List.all_eq_true.1 rfl) hmx hmy b7.size ?_
            intro v8 w8 hown8 hg8 _
            have k5 := hide (a5.kept hg8 (own_apart a5 a4 (by decide)))
            have b8 := own_below a4 b7 (Nat.le_refl _) (Nat.le_refl _) hg8
            have hne1 : wr.heap.size ≠ g4 := by omega
            have hne2 : gs ≠ g4 := by omega
            have K8 := hide hown8
            clear hown8 a4 a5 x4 x5 q3 p1 p2
            refine hK4.out _ _ ⟨blk_grown hH7.1 hg8 hne1, blk_grown hH7.2 hg8 hne2⟩ (fun hH8 => ?_)
            clear hg8 hH7
            refine wpAnyH_ready (rs := [13]) (by kernel_rfl) (by simp) ?_
            refine AllReadyH.cons rfl (fun K5 hK5 => ?_) AllReadyH.nil
            go_simp
            refine hK5.out _ _ hH8 (fun _ => ?_)
            refine wpAnyH_done (by kernel_rfl) ?_ _
            clear hH8 hHeld
            go_wp2_with fail
            go_roundw
            case rel => exact ⟨k + 1, (⟨k1, k2, k3, k4⟩, n2) :: (⟨k1, k2, k3, k4⟩, n) :: ar, out, by omega, by go_num, by simp, by simp; omega, by omega, HLK, hdok, by rw [HCL.out]; exact K8.out, k5.out, b8, HFS⟩
            case measure => simp [intOf]; omega
          · have z4 : (m1 == 4) = false := beq_eq_false_iff_ne.2 h4
            by_cases h5 : m1 = 5
            · have h9 := hfs.out
              simp only [flatS, List.headD_cons, List.tail_cons] at h9
              rw [if_neg h1, if_neg h3, if_neg h4, if_pos h5] at h9
              clear hfs
              by_cases h6 : ar.length = 0
              · rw [if_pos (by simp [h6])] at h9
                have HFE := hide (flatF_err (e := 3) (by decide) (HFIN.out.trans h9.symm))
                have z6 : ((ar.length : Int) + 1 == 1) = true := by simp [h6]
                have z5 : (m1 == 5) = true := by simp [h5]
                clear h9 h5 h6 h1 h3 h4
                go_wp2_with fail
                go_ret2
                exact flatPost_none HFE.out hbB
              · rw [if_neg (by simp; intro h; rw [h] at h6; exact h6 rfl)] at h9
                have HFS := hide h9
                have z6 : ((ar.length : Int) + 1 == 1) = false := beq_eq_false_iff_ne.2 (by omega)
                have z5 : (m1 == 5) = true := by simp [h5]
                have hpop := own_pop (m := ar.length) HX4.out (by omega) (by omega)
                rw [layCells_pop] at hpop
                have HPOP := hide hpop
                have HLK := hide (show layOk ar from fun a ha => hls a (by simp [ha]))
                have hne2 : ar ≠ [] := fun h => h6 (by rw [h]; rfl)
                have hcap : ar.length ≤ cap4 := by
                  have hq := HW4.out.2
                  rcases hq with ⟨hq, _⟩ | ⟨_, _, _, hq, _, _, hq2, _⟩
                  · cases hq
                  · injection hq with _ _ hq3; omega
                clear h9 hpop h5 h1 h3 h4 hls
                go_wp2_with fail
                go_roundw
                case rel => exact ⟨k + 1, ar, out, by omega, by go_num, hne2, by omega, by omega, HLK, hdok, HPOP.out, HX5.out, hbB, HFS⟩
                case measure => simp [intOf]; omega
            · have z5 : (m1 == 5) = false := beq_eq_false_iff_ne.2 h5
              have h9 := hfs.out
              simp only [flatS, List.headD_cons] at h9
              rw [if_neg h1, if_neg h3, if_neg h4, if_neg h5] at h9
              have HFE := hide (flatF_err (e := 7) (by decide) (HFIN.out.trans h9.symm))
              clear h9 hfs h5 h1 h3 h4
              go_wp2_with fail
              go_ret2
              exact flatPost_none HFE.out hbB
    · obtain rfl : k = l.length := by omega
      obtain ⟨X4, c4, rfl, _, _⟩ := own_reads HW4.out
      have h9 := hfs.out
      rw [List.drop_length] at h9
      simp only [flatS] at h9
      by_cases h6 : 1 < ar.length
      · have HFE := hide (flatF_open (HFIN.out.trans h9.symm) h6)
        clear h9 hfs
        go_wp2_with fail
        go_ret2
        exact flatPost_none HFE.out hbel
      · have HFE := hide (flatF_shut (HFIN.out.trans h9.symm) h6)
        have z6 : decide ((1 : Int) < (ar.length : Int)) = false := decide_eq_false (by omega)
        have z7 : decide (1 < ar.length) = false := decide_eq_false h6
        have hW5 := HW5.out
        obtain ⟨v5, hv5⟩ : ∃ v, v = u5 := ⟨_, rfl⟩
        rw [← hv5] at hW5 ⊢
        have HV5 := hide hW5
        clear h9 hfs hv5 HW5 hW5
        go_wp2_with fail
        go_ret2
        exact ⟨v5, by rw [HFE.out]; rfl, by rw [HFE.out]; exact HV5.out, hbel⟩
end Go.Proofs.Ytbpkffoooieejaa
