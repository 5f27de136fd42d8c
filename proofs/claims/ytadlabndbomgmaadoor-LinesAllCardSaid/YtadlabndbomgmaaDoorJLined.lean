/- Lines as a statement reads them; the closed fact lined. -/
import Derived.BigQuiet
import Derived.Handy
import Derived.IntWalk
import Derived.RegionTactic
import Derived.Deep.MidRow
import Derived.Test.YtadlabndbomgmaaDoorJBreak
set_option linter.unusedVariables false
set_option linter.unusedSimpArgs false
namespace Go.Proofs.YtadlabndbomgmaaDoor
open Go.ChangeShapes Go.WideShapes Go.ChangeAt Go.RowKit
theorem LinesAt.form {w : World} {B : Nat} {v : Value} {out : List Ln} (h : LinesAt w B v out) (h0 : 0 < out.length) : ∃ q c, v = .slice (some ⟨q, 0, none⟩) out.length c ∧ q < w.heap.size ∧ ∀ k, k < out.length → ∃ pv,
    w.cell? ⟨q, k * 7, none⟩ = some (.int .i64 (lnAt out k).x) ∧ w.cell? ⟨q, k * 7 + 1, none⟩ = some (.int .i64 (lnAt out k).y) ∧ w.cell? ⟨q, k * 7 + 2, none⟩ = some (.int .i64 (lnAt out k).w) ∧ w.cell? ⟨q, k * 7 + 3, none⟩ = some (.int .i64 (lnAt out k).h) ∧
    w.cell? ⟨q, k * 7 + 4, none⟩ = some (.int .i64 (lnAt out k).base) ∧ w.cell? ⟨q, k * 7 + 5, none⟩ = some pv ∧ w.cell? ⟨q, k * 7 + 6, none⟩ = some (.bool (lnAt out k).last) ∧ w.ownsRow B 54 4 pv (lnAt out k).pcs.length (pcCells (lnAt out k).pcs) := by
  obtain ⟨qs, e1, e2, e3⟩ := h
  obtain ⟨q, c, hv, _, hq⟩ := e2.form h0
  refine ⟨q, c, hv, hq, fun k hk => ?_⟩
  have hl : qs.length = out.length := by rw [← e1, List.length_map]
  have hkq : k < qs.length := by omega
  have hat : lnAt out k = qs[k].1 := by rw [lnAt_of out k hk]; simp only [← e1, List.getElem_map]
  have hc : ∀ j, j < 7 → w.cell? ⟨q, k * 7 + j, none⟩ = (lnC qs[k].1 qs[k].2)[j]? := fun j hj => by
    subst hv
    rw [e2.cellAt _ (by omega), lnCells_at qs k j hkq hj]
  rw [hat]
  exact ⟨qs[k].2, hc 0 (by omega), hc 1 (by omega), hc 2 (by omega), hc 3 (by omega), hc 4 (by omega), hc 5 (by omega), hc 6 (by omega), e3 _ (List.getElem_mem hkq)⟩
def pc0 : Pc := ⟨0, 0, 0, ByteArray.empty⟩
def pcAt (l : List Pc) (k : Nat) : Pc := l.getD k pc0
theorem pcAt_of (l : List Pc) (k : Nat) (h : k < l.length) : pcAt l k = l[k] := by simp [pcAt, List.getD, List.getElem?_eq_getElem h]
theorem pcs_form {w : World} {B : Nat} {v : Value} {l : List Pc} (h : w.ownsRow B 54 4 v l.length (pcCells l)) (h0 : 0 < l.length) : ∃ q c, v = .slice (some ⟨q, 0, none⟩) l.length c ∧ q < w.heap.size ∧ ∀ k, k < l.length →
    w.cell? ⟨q, k * 4, none⟩ = some (.int .i64 (pcAt l k).item) ∧ w.cell? ⟨q, k * 4 + 1, none⟩ = some (.int .i64 (pcAt l k).x) ∧ w.cell? ⟨q, k * 4 + 2, none⟩ = some (.int .i64 (pcAt l k).w) ∧ w.cell? ⟨q, k * 4 + 3, none⟩ = some (.string (pcAt l k).t) := by
  obtain ⟨q, c, hv, _, hq⟩ := h.form h0
  refine ⟨q, c, hv, hq, fun k hk => ?_⟩
  have hc : ∀ j, j < 4 → w.cell? ⟨q, k * 4 + j, none⟩ = (pcC (pcAt l k))[j]? := fun j hj => by
    subst hv
    rw [h.cellAt _ (by omega), pcCells_at l k j hk hj, pcAt_of l k hk]
  exact ⟨hc 0 (by omega), hc 1 (by omega), hc 2 (by omega), hc 3 (by omega)⟩
def linedIt : It := ⟨1, 0, ⟨#[97, 97, 32, 97, 97]⟩, 64, 0, 80, 0, 0, 0, 0, 0⟩
theorem lined_ok : ItsOk [linedIt] := ⟨by decide, fun x hx => by
  obtain rfl : x = linedIt := by simpa using hx
  have h : (⟨#[97, 97, 32, 97, 97]⟩ : ByteArray).size = 5 := rfl
  unfold ItOk linedIt
  simp only [h]
  omega⟩
def linedOut : List Ln := breakF [linedIt] 64 80 0 100 0
theorem lined_len : linedOut.length = 2 := by kernel_rfl
theorem lined_y : (lnAt linedOut 1).y = 80 := by kernel_rfl
theorem lined_n : (lnAt linedOut 0).pcs.length = 1 := by kernel_rfl
theorem lined_t : (pcAt (lnAt linedOut 0).pcs 0).t = ⟨#[97, 97]⟩ := by kernel_rfl
/-- Break where nothing floats: behind a room just made. -/
theorem break_new (xs : List It) (g c : Nat) (A : Option Addr) (W y size height al : Int) (w : World) (fp : Nat) (hA : 0 < xs.length → A = some ⟨g, 0, none⟩) (hI : ItsR w g xs) (hok : ItsOk xs) (hx : ∀ x ∈ xs, x.kind ≠ 5) (hg : 0 < xs.length → g < fp) (hf : FloatsAt w fp fp W []) (hW : 0 ≤ W ∧ W ≤ 16777216) :
    Calls Tryd.prog 19 #[.slice A xs.length c, .pointer (some ⟨fp, 0, none⟩), .int .i64 y, .int .i64 size, .int .i64 height, .int .i64 0, .int .i64 al] w fun e w' => ∃ v, e = .returned v ∧ LinesAt w' 0 v (breakF xs (max 0 (cut size)) (max 0 (cut height)) al W (cut y)) ∧ Below fp w w' := by
  obtain ⟨A2, c2, h1, h2, h3⟩ := hf
  have hfp := h1.lt
  refine (break_any xs g c A fp W y size height 0 al (.slice A2 0 c2) w hA hI hok (fun h0 => ⟨by have := hg h0; omega, fun e => by have := own_ge h3 _ e; have := hg h0; omega⟩) h1 (own_mono h3 (Nat.zero_le _)) hW).mono ?_
  rintro e w' ⟨v, out, rfl, hb, hl, hk⟩
  have e0 : cut 0 = 0 := by decide
  rw [e0] at hb
  rw [break_sim hx hb] at hl
  exact ⟨v, rfl, hl, hk.below fun k hk => ⟨by omega, by omega, fun e => by have := own_ge h3 _ e; omega⟩⟩
theorem lined_break (g fp : Nat) (w : World) (hI : ItsR w g [linedIt]) (hg : g < fp) (hf : FloatsAt w fp fp 100 []) :
    Calls Tryd.prog 19 #[.slice (some ⟨g, 0, none⟩) 1 1, .pointer (some ⟨fp, 0, none⟩), .int .i64 0, .int .i64 64, .int .i64 80, .int .i64 0, .int .i64 0] w fun e w' => ∃ v, e = .returned v ∧ LinesAt w' 0 v linedOut ∧ Below fp w w' := by
  have h := break_new [linedIt] g 1 (some ⟨g, 0, none⟩) 100 0 64 80 0 w fp (fun _ => rfl) hI lined_ok (fun x hx => by obtain rfl : x = linedIt := (by simpa using hx); decide) (fun _ => hg) hf (by decide)
  have e1 : max 0 (cut 64) = 64 := by decide
  have e2 : max 0 (cut 80) = 80 := by decide
  have e3 : cut 0 = 0 := by decide
  rw [e1, e2, e3] at h
  exact h
set_option maxRecDepth 100000 in
set_option maxHeartbeats 4000000 in
theorem lined_any (w : World) : Calls Tryd.prog 17 #[] w fun e w' => e = .returned (.bool true) ∧ Below w.heap.size w w' := by
  have hb1 := (Below.refl w.heap.size w).alloc (Nat.le_refl _) (.cells #[.int .i64 1, .int .i64 0, .string ⟨#[97, 97, 32, 97, 97]⟩, .int .i64 64, .int .i64 0, .int .i64 80, .int .i64 0, .int .i64 0, .int .i64 0, .int .i64 0, .int .i64 0] 41)
  have hbx := Blk.new w 41 #[.int .i64 1, .int .i64 0, .string ⟨#[97, 97, 32, 97, 97]⟩, .int .i64 64, .int .i64 0, .int .i64 80, .int .i64 0, .int .i64 0, .int .i64 0, .int .i64 0, .int .i64 0]
  have ho := own_of_blk (base := 0) (n := 1) (size := 11) hbx (Nat.zero_le _) (by unfold maxLen; omega) rfl
  obtain ⟨q, h1, _, h2, h3⟩ := its_of_own (xs := [linedIt]) ho rfl (by decide)
  obtain rfl : w.heap.size = q := by injection h1 with h1; injection h1
  have e100 : max 0 (cut 100) = 100 := by decide
  have HI := hide (show ItsR _ _ [linedIt] from ⟨h3, fun _ => h2⟩)
  have HB1 := hide hb1
  have hs1 : (w.alloc (.cells #[.int .i64 1, .int .i64 0, .string ⟨#[97, 97, 32, 97, 97]⟩, .int .i64 64, .int .i64 0, .int .i64 80, .int .i64 0, .int .i64 0, .int .i64 0, .int .i64 0, .int .i64 0] 41)).heap.size = w.heap.size + 1 := by simp
  clear hbx ho h1 h2 h3 hb1
  go_enter Tryd.func17, Tryd.ntmps17
  go_wp2_with fail
  refine (New_any 100 _).mono ?_
  rintro e w2 ⟨rfl, hf2, hb2⟩
  rw [e100, hs1] at hf2
  have HBK := hide (lined_break w.heap.size (w.heap.size + 1) w2 (HI.out.below hb2) (by omega) hf2)
  have b2 := below_on HB1.out hb2
  clear hf2 hb2 HI HB1
  go_wp2_with fail
  refine HBK.out.mono ?_
  rintro e w3 ⟨v3, rfl, hl3, hb3⟩
  have b3 : Below w.heap.size w w3 := b2.trans (hb3.mono (by omega))
  have L1 := lined_len
  have L2 := lined_y
  have L3 := lined_n
  have L4 := lined_t
  generalize linedOut = out at *
  obtain ⟨q3, c3, rfl, _, hc⟩ := hl3.form (by omega)
  obtain ⟨pv1, _, d1, _⟩ := hc 1 (by omega)
  obtain ⟨pv, _, _, _, _, _, d5, _, ho5⟩ := hc 0 (by omega)
  obtain ⟨q4, c4, rfl, _, hc4⟩ := pcs_form ho5 (by omega)
  have d9 := (hc4 0 (by omega)).2.2.2
  rw [L2] at d1
  rw [L3] at d5
  rw [L4] at d9
  rw [L1]
  clear hl3 hc ho5 hc4 L1 L2 L3 L4 HBK b2 hb3
  go_wp2_with fail
  go_ret
  exact ⟨rfl, b3⟩
end Go.Proofs.YtadlabndbomgmaaDoor
