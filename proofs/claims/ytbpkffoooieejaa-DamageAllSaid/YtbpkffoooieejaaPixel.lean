/- Walks: does a command cover a place; a pixel, as some are drawn over it. -/
import Derived.BigQuiet
import Derived.Handy
import Derived.IntWalk
import Derived.Deep.QuietTactic
import Derived.Deep.MidRow
import Derived.Test.YtbpkffoooieejaaGlyph
import Derived.Test.YtbpkffoooieejaaOver
import Derived.Test.YtbpkffoooieejaaFlat
namespace Go.Proofs.Ytbpkffoooieejaa
open Go.ChangeShapes Go.WideShapes Go.ChangeAt Go.RowKit
/-- What is drawn: its cells. -/
def drC (d : Dr) : List Value := [.int .i64 d.c.do_, .int .i64 d.c.node, .int .i64 d.c.x, .int .i64 d.c.y, .int .i64 d.c.w, .int .i64 d.c.h, .int .i64 d.c.c, .int .i64 d.c.n, .string d.c.t, .int .i64 d.clip.x, .int .i64 d.clip.y, .int .i64 d.clip.w, .int .i64 d.clip.h, .int .i64 d.n]
def Dr.ok (d : Dr) : Prop := d.clip.clip ∧ d.c.t.size ≤ 400
theorem cmd_u : Try.prog.underlying 43 = some (.struct (Try.prog.fieldsOf 43)) := by kernel_rfl
theorem cmd_i (c : Cm) : (Try.prog.info? 43).map (·.size) = some (cmA c).size := by kernel_rfl
theorem ldraw_u : Try.prog.underlying 76 = some (.struct (Try.prog.fieldsOf 76)) := by kernel_rfl
set_option maxRecDepth 100000 in
set_option maxHeartbeats 2000000 in
theorem Covers_any (d : Dr) (x y : Int) (w : World) (hd : d.ok) (hx : -1000000 ≤ x ∧ x ≤ 1000000) (hy : -1000000 ≤ y ∧ y ≤ 1000000) :
    Calls Try.prog 45 #[.agg (drC d).toArray, .int .i64 x, .int .i64 y] w fun e w' => e = .returned (.bool (coversF glyphF d x y)) ∧ Below w.heap.size w w' := by
  have HC := hide (show coversF glyphF d x y = if inR d.clip x y then (if d.c.do_ = 1 then inR (rectC d.c) x y else glyphF d.c x y) else false from rfl)
  obtain ⟨c, clip, n⟩ := d
  obtain ⟨h1, h2⟩ := hd
  unfold Rc.clip at h1
  dsimp only at h1 h2 HC
  have HR := hide (rectC_bd c)
  have HGL := hide (fun W => glyph_any c x y W hx hy h2)
  have HRC := hide (fun W => rect_any c W)
  have HW1 := hide (fun W => within_any clip x y W (by unfold Tame; omega) (by unfold Tame; omega) (by unfold Tame; omega) (by unfold Tame; omega))
  have HW2 := hide (fun W => within_any (rectC c) x y W (by unfold Tame; omega) (by unfold Tame; omega) (by unfold Tame; have := rectC_bd c; omega) (by unfold Tame; have := rectC_bd c; omega))
  generalize coversF glyphF ⟨c, clip, n⟩ x y = ans at *
  obtain ⟨m1, m2, m3, m4, m5, m6, m7, m8, m9⟩ := c
  obtain ⟨k1, k2, k3, k4⟩ := clip
  dsimp only at *
  show Calls Try.prog 45 #[.agg #[.int .i64 m1, .int .i64 m2, .int .i64 m3, .int .i64 m4, .int .i64 m5, .int .i64 m6, .int .i64 m7, .int .i64 m8, .string m9, .int .i64 k1, .int .i64 k2, .int .i64 k3, .int .i64 k4, .int .i64 n], .int .i64 x, .int .i64 y] w _
  go_enter Try.func45, Try.ntmps45
  go_wp2_with fail
  refine (HW1.out _).mono ?_
  rintro e w5 ⟨rfl, hb5⟩
  have Q := hide ((Blk.new w 76 #[.int .i64 m1, .int .i64 m2, .int .i64 m3, .int .i64 m4, .int .i64 m5, .int .i64 m6, .int .i64 m7, .int .i64 m8, .string m9, .int .i64 k1, .int .i64 k2, .int .i64 k3, .int .i64 k4, .int .i64 n]).below hb5 (by simp))
  have hb6 : Below w.heap.size w w5 := below_then ((Below.refl _ w).alloc (Nat.le_refl _) _) (Nat.le_refl _) hb5
  clear hb5 HW1
  have c0 : w5.cell? ⟨w.heap.size, 0, none⟩ = some (.int .i64 m1) := Q.out.cell 0
  have c1 : w5.cell? ⟨w.heap.size, 1, none⟩ = some (.int .i64 m2) := Q.out.cell 1
  have c2 : w5.cell? ⟨w.heap.size, 2, none⟩ = some (.int .i64 m3) := Q.out.cell 2
  have c3 : w5.cell? ⟨w.heap.size, 3, none⟩ = some (.int .i64 m4) := Q.out.cell 3
  have c4 : w5.cell? ⟨w.heap.size, 4, none⟩ = some (.int .i64 m5) := Q.out.cell 4
  have c5 : w5.cell? ⟨w.heap.size, 5, none⟩ = some (.int .i64 m6) := Q.out.cell 5
  have c6 : w5.cell? ⟨w.heap.size, 6, none⟩ = some (.int .i64 m7) := Q.out.cell 6
  have c7 : w5.cell? ⟨w.heap.size, 7, none⟩ = some (.int .i64 m8) := Q.out.cell 7
  have c8 : w5.cell? ⟨w.heap.size, 8, none⟩ = some (.string m9) := Q.out.cell 8
  cases hi : inR ⟨k1, k2, k3, k4⟩ x y
  · have HE := hide (show ans = false from by rw [HC.out, hi]; rfl)
    clear HC hi
    go_wp2_with fail
    go_ret
    exact ⟨ret_bool HE.out.symm, hb6⟩
  · by_cases h1 : m1 = 1
    · have HE := hide (show ans = inR (rectC ⟨m1, m2, m3, m4, m5, m6, m7, m8, m9⟩) x y from by rw [HC.out, hi]; simp [h1])
      have z1 : (m1 == 1) = true := by simp [h1]
      clear HC hi h1
      go_wp2_with fail
      refine (HRC.out _).mono ?_
      rintro e w7 ⟨rfl, hb7⟩
      generalize rectC ⟨m1, m2, m3, m4, m5, m6, m7, m8, m9⟩ = rr at *
      obtain ⟨r1, r2, r3, r4⟩ := rr
      dsimp only at HW2
      rw [show rcA ⟨r1, r2, r3, r4⟩ = #[.int .i64 r1, .int .i64 r2, .int .i64 r3, .int .i64 r4] from rfl]
      go_wp2_with fail
      refine (HW2.out _).mono ?_
      rintro e w8 ⟨rfl, hb8⟩
      go_wp2_with fail
      go_ret
      exact ⟨ret_bool HE.out.symm, below_then (below_then hb6 (Nat.le_refl _) hb7) (Nat.le_refl _) hb8⟩
    · have HE := hide (show ans = glyphF ⟨m1, m2, m3, m4, m5, m6, m7, m8, m9⟩ x y from by rw [HC.out, hi]; simp [h1])
      have z1 : (m1 == 1) = false := beq_eq_false_iff_ne.2 h1
      clear HC hi h1
      go_wp2_with fail
      refine (HGL.out _).mono ?_
      rintro e w7 ⟨rfl, hb7⟩
      go_wp2_with fail
      go_ret
      exact ⟨ret_bool HE.out.symm, below_then hb6 (Nat.le_refl _) hb7⟩
def drCells (l : List Dr) : List Value := l.flatMap drC
def dr0 : Dr := ⟨⟨0, 0, 0, 0, 0, 0, 0, 0, ByteArray.empty⟩, rc0, 0⟩
def drAt (l : List Dr) (k : Nat) : Dr := l.getD k dr0
theorem drAt_of (l : List Dr) (k : Nat) (h : k < l.length) : drAt l k = l[k] := by simp [drAt, List.getD, List.getElem?_eq_getElem h]
theorem drCells_at : ∀ (l : List Dr) (k j : Nat), k < l.length → j < 14 → (drCells l)[k * 14 + j]? = (drC (drAt l k))[j]?
  | [], _, _, h, _ => absurd h (Nat.not_lt_zero _)
  | d :: l, 0, j, _, hj => by
    show (drC d ++ drCells l)[0 * 14 + j]? = _
    rw [Nat.zero_mul, Nat.zero_add, List.getElem?_append_left (by simpa [drC] using hj)]; rfl
  | d :: l, k + 1, j, h, hj => by
    show (drC d ++ drCells l)[(k + 1) * 14 + j]? = _
    rw [List.getElem?_append_right (by simp [drC]; omega), show (k + 1) * 14 + j - (drC d).length = k * 14 + j by simp [drC]; omega, drCells_at l k j (by simpa using h) hj]; rfl
theorem drCells_snoc (l : List Dr) (d : Dr) : drCells (l ++ [d]) = drCells l ++ drC d := by simp [drCells]
theorem pixF_snoc (gl : Cm → Int → Int → Bool) (l : List Dr) (d : Dr) (x y color : Int) : pixF gl (l ++ [d]) x y color = if coversF gl d x y then overF d.c.c (pixF gl l x y color) d.n else pixF gl l x y color := by
  rw [pixF_append]; rfl
theorem drCell {w : World} {B c : Nat} {A : Option Addr} {l : List Dr} (h : w.ownsRow B 76 14 (.slice A l.length c) l.length (drCells l)) {k : Nat} (hk : k < l.length) :
    ∃ g, A = some ⟨g, 0, none⟩ ∧ B ≤ g ∧ g < w.heap.size ∧ ∀ j, j < 14 → w.cell? ⟨g, k * 14 + j, none⟩ = (drC (drAt l k))[j]? := by
  obtain ⟨g, cap, hv, hg, hlt⟩ := h.form (by omega)
  injection hv with hA _ _
  subst hA
  exact ⟨g, rfl, hg, hlt, fun j hj => by rw [h.cellAt _ (by omega)]; exact drCells_at l k j hk hj⟩
set_option maxRecDepth 100000 in
set_option maxHeartbeats 2000000 in
theorem Pixel_any (l : List Dr) (x y color : Int) (B c : Nat) (A : Option Addr) (w : World) (hl : l.length ≤ 100) (hok : ∀ d ∈ l, d.ok) (hx : -1000000 ≤ x ∧ x ≤ 1000000) (hy : -1000000 ≤ y ∧ y ≤ 1000000) (ho : w.ownsRow B 76 14 (.slice A l.length c) l.length (drCells l)) :
    Calls Try.prog 29 #[.slice A l.length c, .int .i64 x, .int .i64 y, .int .i64 color] w fun e w' => e = .returned (.int .i64 (pixF glyphF l x y color)) ∧ Below w.heap.size w w' := by
  have HO := hide ho
  have HK := hide hok
  clear ho hok
  go_enter Try.func29, Try.ntmps29
  go_wp2_with fail
  go_loopw [3, 13] (fun v i wr => ∃ k : Nat, k ≤ l.length ∧ i = .int .i64 k ∧ v = .int .i64 (pixF glyphF (l.take k) x y color) ∧ Below w.heap.size w wr) (fun _ i _ => l.length - (intOf i).toNat)
  case atStart => exact ⟨0, Nat.zero_le _, rfl, rfl, Below.refl _ _⟩
  case round =>
    obtain ⟨k, hk, rfl, rfl, hbel⟩ := hrel
    have hszr := hbel.size
    by_cases hlt : k < l.length
    · obtain ⟨g, rfl, _, hg, hc⟩ := drCell HO.out hlt
      have cc : ∀ j, j < 14 → wr.cell? ⟨g, k * 14 + j, none⟩ = (drC (drAt l k))[j]? := fun j hj => (hbel.cell (p := ⟨g, k * 14 + j, none⟩) hg).trans (hc j hj)
      have hdk : (drAt l k).ok := by rw [drAt_of l k hlt]; exact HK.out _ (List.getElem_mem hlt)
      have PS := hide (show pixF glyphF (l.take (k + 1)) x y color = if coversF glyphF (drAt l k) x y then overF (drAt l k).c.c (pixF glyphF (l.take k) x y color) (drAt l k).n else pixF glyphF (l.take k) x y color from by rw [List.take_succ_eq_append_getElem hlt, pixF_snoc, drAt_of l k hlt])
      generalize pixF glyphF (l.take k) x y color = col at *
      generalize drAt l k = d at *
      clear hc
      have HCV := hide (fun W => Covers_any d x y W hdk hx hy)
      clear hdk
      obtain ⟨⟨m1, m2, m3, m4, m5, m6, m7, m8, m9⟩, ⟨k1, k2, k3, k4⟩, n⟩ := d
      dsimp only at PS HCV
      have d0 : wr.cell? ⟨g, k * 14, none⟩ = some (.int .i64 m1) := cc 0 (by omega)
      have d1 : wr.cell? ⟨g, k * 14 + 1, none⟩ = some (.int .i64 m2) := cc 1 (by omega)
      have d2 : wr.cell? ⟨g, k * 14 + 2, none⟩ = some (.int .i64 m3) := cc 2 (by omega)
      have d3 : wr.cell? ⟨g, k * 14 + 3, none⟩ = some (.int .i64 m4) := cc 3 (by omega)
      have d4 : wr.cell? ⟨g, k * 14 + 4, none⟩ = some (.int .i64 m5) := cc 4 (by omega)
      have d5 : wr.cell? ⟨g, k * 14 + 5, none⟩ = some (.int .i64 m6) := cc 5 (by omega)
      have d6 : wr.cell? ⟨g, k * 14 + 6, none⟩ = some (.int .i64 m7) := cc 6 (by omega)
      have d7 : wr.cell? ⟨g, k * 14 + 7, none⟩ = some (.int .i64 m8) := cc 7 (by omega)
      have d8 : wr.cell? ⟨g, k * 14 + 8, none⟩ = some (.string m9) := cc 8 (by omega)
      have d9 : wr.cell? ⟨g, k * 14 + 9, none⟩ = some (.int .i64 k1) := cc 9 (by omega)
      have d10 : wr.cell? ⟨g, k * 14 + 10, none⟩ = some (.int .i64 k2) := cc 10 (by omega)
      have d11 : wr.cell? ⟨g, k * 14 + 11, none⟩ = some (.int .i64 k3) := cc 11 (by omega)
      have d12 : wr.cell? ⟨g, k * 14 + 12, none⟩ = some (.int .i64 k4) := cc 12 (by omega)
      have d13 : wr.cell? ⟨g, k * 14 + 13, none⟩ = some (.int .i64 n) := cc 13 (by omega)
      clear cc
      have Q := hide (Blk.new wr 76 #[.int .i64 m1, .int .i64 m2, .int .i64 m3, .int .i64 m4, .int .i64 m5, .int .i64 m6, .int .i64 m7, .int .i64 m8, .string m9, .int .i64 k1, .int .i64 k2, .int .i64 k3, .int .i64 k4, .int .i64 n])
      have hbA := hbel.alloc hszr (.cells #[.int .i64 m1, .int .i64 m2, .int .i64 m3, .int .i64 m4, .int .i64 m5, .int .i64 m6, .int .i64 m7, .int .i64 m8, .string m9, .int .i64 k1, .int .i64 k2, .int .i64 k3, .int .i64 k4, .int .i64 n] 76)
      go_wp2_with fail
      generalize wr.alloc (.cells #[.int .i64 m1, .int .i64 m2, .int .i64 m3, .int .i64 m4, .int .i64 m5, .int .i64 m6, .int .i64 m7, .int .i64 m8, .string m9, .int .i64 k1, .int .i64 k2, .int .i64 k3, .int .i64 k4, .int .i64 n] 76) = wA at *
      refine (HCV.out _).mono ?_
      rintro e w5 ⟨rfl, hb5⟩
      have hb6 := below_then hbA (Nat.le_refl _) hb5
      have Q5 := hide (Q.out.below hb5 Q.out.lt)
      have c6 : w5.cell? ⟨wr.heap.size, 6, none⟩ = some (.int .i64 m7) := Q5.out.cell 6
      have c13 : w5.cell? ⟨wr.heap.size, 13, none⟩ = some (.int .i64 n) := Q5.out.cell 13
      cases hcv : coversF glyphF ⟨⟨m1, m2, m3, m4, m5, m6, m7, m8, m9⟩, ⟨k1, k2, k3, k4⟩, n⟩ x y
      · rw [hcv] at PS
        have PS2 := hide (show pixF glyphF (l.take (k + 1)) x y color = col from PS.out)
        clear hcv PS HCV
        go_wp2_with fail
        go_roundw
        case rel => exact ⟨k + 1, by omega, by go_num, by rw [PS2.out], hb6⟩
        case measure => simp [intOf]; omega
      · rw [hcv] at PS
        have PS2 := hide (show pixF glyphF (l.take (k + 1)) x y color = overF m7 col n from PS.out)
        clear hcv PS HCV
        go_wp2_with (first | (go_at_call 10; refine (Over_any _ _ _ _).mono ?_; rintro e w7 ⟨rfl, j7, rfl⟩) | fail)
        go_roundw
        case rel => exact ⟨k + 1, by omega, by go_num, by rw [PS2.out], below_drewN hb6 _⟩
        case measure => simp [intOf]; omega
    · obtain rfl : k = l.length := by omega
      rw [List.take_length]
      go_wp2_with fail
      go_ret
      exact ⟨rfl, hbel⟩
end Go.Proofs.Ytbpkffoooieejaa
