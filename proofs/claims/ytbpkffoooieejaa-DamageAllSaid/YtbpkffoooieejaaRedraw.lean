/- The walk of damage.Redraw at a picture of six times six. -/
import Derived.BigQuiet
import Derived.Handy
import Derived.IntWalk
import Derived.Deep.QuietTactic
import Derived.Deep.MidRow
import Derived.Test.YtbpkffoooieejaaWithin
import Derived.Test.YtbpkffoooieejaaParts
import Derived.Test.YtbpkffoooieejaaShelfB
namespace Go.Proofs.Ytbpkffoooieejaa
open Go.ChangeShapes Go.WideShapes Go.ChangeAt Go.RowKit
def px (i : Nat) : Int := (i : Int) % 6 * 64 + 32
def py (i : Nat) : Int := (i : Int) / 6 * 64 + 32
def inK (rs : List Rc) (i : Nat) : Bool := withinF rs (px i) (py i)
def newK (fl : List Dr) (i : Nat) : Int := pixF glyphF fl (px i) (py i) 4294967295
/-- The pixels behind k rounds. -/
def redK (fl : List Dr) (rs : List Rc) (old : List Int) (k : Nat) : List Int := (List.range 36).map fun i => if i < k then (if inK rs i then newK fl i else at0 old i) else at0 old i
def cntK (rs : List Rc) : Nat → Int
  | 0 => 0
  | k + 1 => cntK rs k + (if inK rs k then 1 else 0)
theorem cntK_bd (rs : List Rc) : ∀ k : Nat, 0 ≤ cntK rs k ∧ cntK rs k ≤ k
  | 0 => ⟨Int.le_refl _, Int.le_refl _⟩
  | k + 1 => by
    have h := cntK_bd rs k
    simp only [cntK]
    split <;> omega
theorem redK_len (fl : List Dr) (rs : List Rc) (old : List Int) (k : Nat) : (redK fl rs old k).length = 36 := by simp [redK]
theorem redK_at (fl : List Dr) (rs : List Rc) (old : List Int) (k i : Nat) (hi : i < 36) : at0 (redK fl rs old k) i = if i < k then (if inK rs i then newK fl i else at0 old i) else at0 old i := by
  rw [at0_of _ i (by simpa [redK] using hi)]; simp [redK]
theorem redK_zero (fl : List Dr) (rs : List Rc) (old : List Int) (h : old.length = 36) : redK fl rs old 0 = old := by
  apply List.ext_getElem
  · rw [redK_len, h]
  · intro i h1 h2; simp [redK, at0_of old i h2]
theorem redK_same (fl : List Dr) (rs : List Rc) (old : List Int) (k : Nat) (h : inK rs k = false) : redK fl rs old (k + 1) = redK fl rs old k := by
  unfold redK
  apply List.map_congr_left
  intro i _
  by_cases e : i = k
  · subst e; simp [h]
  · by_cases h1 : i < k
    · simp [h1, show i < k + 1 by omega]
    · simp [h1, show ¬ i < k + 1 by omega]
theorem redK_next (fl : List Dr) (rs : List Rc) (old : List Int) (k : Nat) (h : inK rs k = true) : redK fl rs old (k + 1) = (redK fl rs old k).set k (newK fl k) := by
  apply List.ext_getElem
  · simp [redK]
  · intro i h1 h2
    simp only [redK, List.getElem_map, List.getElem_range, List.getElem_set]
    by_cases e : k = i
    · subst e; simp [h]
    · rw [if_neg e]
      by_cases h3 : i < k
      · rw [if_pos (by omega), if_pos h3]
      · rw [if_neg (by omega), if_neg h3]
theorem recs_take {w : World} {B size n m : Nat} {A : Option Addr} {R : Nat → Nat → Int} (h : Recs w B size A n R) (hm : m ≤ n) : Recs w B size A m R := fun k hk => h k (by omega)
theorem recs_more {w : World} {B B' size n : Nat} {A : Option Addr} {R : Nat → Nat → Int} (h : Recs w B size A n R) (hB : B ≤ B') : Recs w B' size A n R := fun k hk => by
  obtain ⟨g, off, e, hg, hc⟩ := h k hk
  exact ⟨g, off, e, by omega, hc⟩
theorem cutTo_tame (R : Nat → Nat → Int) (n : Nat) : RcTame (cutTo R n) := by
  intro k
  by_cases h : k < n
  · rw [rcAt_of _ _ (by rw [cutTo_len]; exact h)]
    have h1 := cut_lo (R k 0)
    have h2 := cut_hi (R k 0)
    have h3 := cut_lo (R k 1)
    have h4 := cut_hi (R k 1)
    simp only [cutTo, List.getElem_map, List.getElem_range, cutOf, Tame]
    omega
  · have : rcAt (cutTo R n) k = rc0 := by
      unfold rcAt List.getD
      rw [List.getElem?_eq_none (by rw [cutTo_len]; omega)]; rfl
    rw [this]; simp [rc0, Tame]
set_option maxRecDepth 100000 in
set_option maxHeartbeats 8000000 in
theorem redraw_any (s : List Cm) (old : List Int) (R : Nat → Nat → Int) (B Bo cl co cr nr : Nat) (Al Ao Ar : Option Addr) (w : World) (hs : s.length ≤ 30) (hst : ∀ x ∈ s, x.t.size ≤ 400) (hf : (flatF s).1 = 0) (hol : old.length = 36)
    (hl : w.ownsRow B 43 9 (.slice Al s.length cl) s.length (cmCells s)) (ho : w.ownsRow Bo 3 1 (.slice Ao 36 co) 36 (old.map (Value.int .i64))) (hr : Recs w w.heap.size 4 Ar nr R) (hnr : nr ≤ cr) (hcr : cr ≤ maxLen) :
    Calls Try.prog 19 #[.slice Ao 36 co, .int .i64 6, .int .i64 6, .slice Al s.length cl, .slice Ar nr cr] w fun e w' => ∃ v, e = .returned (.tuple #[v, .int .i64 (cntK (cutTo R (min nr 1000)) 36), .int .i64 0]) ∧ w'.ownsRow w.heap.size 3 1 v 36 ((redK (flatF s).2 (cutTo R (min nr 1000)) old 36).map (Value.int .i64)) ∧ Below w.heap.size w w' := by
  unfold maxLen at hcr
  have HFL := hide (Flat_any s B cl Al w hs hst hl)
  have hfit := flatF_fit hst
  obtain ⟨go, capo, hvo, hgo, hglo⟩ := ho.form (by omega)
  injection hvo with hA _ hC
  subst hA
  subst hC
  have HO := hide ho
  have HR := hide hr
  have HOL := hide hol
  have HF := hide hf
  clear hl ho hr hol hst hf
  go_enter Try.func19, Try.ntmps19
  go_wp2_with fail
  refine HFL.out.mono ?_
  clear HFL
  rintro e w1 ⟨v1, rfl, own1, hb1⟩
  rw [HF.out]
  generalize hFL : (flatF s).2 = fl at *
  have HFE := hide hFL
  clear hFL
  have HO1 := hide (own_keep HO.out hb1 (own_lt HO.out))
  have HR1 := hide (recs_more (HR.out.below hb1) hb1.size)
  have F1 := hide own1
  have L1 := hb1
  have hlt1 := hb1.size
  clear own1 hb1 HO HR HF
  have HCL := Try.slices_Clone_int go 0 36 co old w1 (by rw [HOL.out]; exact Nat.le_refl _) (by omega) (fun j hj => by
    rw [Nat.zero_add, HO1.out.cellAt j (by rw [HOL.out] at hj; omega), List.getElem?_map, List.getElem?_eq_getElem hj]
    simp [List.getD, List.getElem?_eq_getElem hj])
  have HCL2 := hide HCL
  clear HCL
  go_wp2_with fail
  refine HCL2.out.mono ?_
  clear HCL2
  rintro e w2 ⟨v2, rfl, own2, _, hb2⟩
  rw [List.take_of_length_le (by rw [HOL.out]; exact Nat.le_refl _)] at own2
  obtain ⟨g2, cap2, rfl, hg2, hgl2⟩ := own2.form (by omega)
  have F2 := hide (own_keep F1.out hb2 (own_lt F1.out))
  have NF2 := hide (show ∀ k, v1.ownBlock = some k → k ≠ g2 from fun k hk => by have := own_lt F1.out k hk; omega)
  have HR2 := hide (recs_more (HR1.out.below hb2) hb2.size)
  have L2 := below_then L1 (Nat.le_refl _) hb2
  have O2 := hide own2
  clear own2 hb2 HR1 F1 L1 HO1
  go_wp2_with fail
  have En2 : min (nr : Int) 1000 = ((min nr 1000 : Nat) : Int) := by omega
  simp only [En2]
  clear En2
  have hm1 : min nr 1000 ≤ nr := by omega
  have hm2 : min nr 1000 ≤ 1000 := by omega
  generalize hME : min nr 1000 = m at *
  have HME := hide hME
  clear hME
  refine (cutR_any Ar m cr R w2 (recs_take HR2.out hm1) hm2).mono ?_
  rintro e w3 ⟨v3, rfl, own3, hb3⟩
  have HT := hide (cutTo_tame R m)
  have hlen := cutTo_len R m
  generalize hRE : cutTo R m = rs at *
  have HRE := hide hRE
  clear hRE
  subst hlen
  obtain ⟨A3, c3, rfl, _, _⟩ := own_reads own3
  have NR3 := hide (show ∀ k, (Value.slice A3 rs.length c3).ownBlock = some k → k ≠ g2 from fun k hk => by have := own_ge own3 k hk; omega)
  have R3 := hide own3
  have F3 := hide (own_keep F2.out hb3 (own_lt F2.out))
  have O3 := hide (own_keep O2.out hb3 (own_lt O2.out))
  have L3 := below_then L2 (Nat.le_refl _) hb3
  have hg0 : w.heap.size ≤ g2 := by omega
  obtain ⟨X, cx, rfl, _, _⟩ := own_reads F3.out
  have HZ := hide (redK_zero fl rs old HOL.out)
  have HFIT := hide hfit
  clear own3 hb3 F2 O2 L2 HR2 hm1 hfit hnr hcr
  go_wp2_with fail
  go_loopw [16, 60] (fun mny i wr => ∃ k : Nat, k ≤ 36 ∧ i = .int .i64 k ∧ mny = .int .i64 (cntK rs k) ∧ Hid (wr.ownsRow w1.heap.size 3 1 (.slice (some ⟨g2, 0, none⟩) 36 cap2) 36 ((redK fl rs old k).map (Value.int .i64))) ∧ Hid (wr.ownsRow w.heap.size 76 14 (.slice X fl.length cx) fl.length (drCells fl)) ∧ Hid (wr.ownsRow w2.heap.size 36 4 (.slice A3 rs.length c3) rs.length (rcCells rs)) ∧ Below w.heap.size w wr) (fun _ i _ => 36 - (intOf i).toNat)
  case atStart => exact ⟨0, Nat.zero_le _, rfl, rfl, by rw [HZ.out]; exact O3, F3, R3, L3⟩
  case round =>
    obtain ⟨k, hk, rfl, rfl, HOk, HFk, HRk, hbel⟩ := hrel
    by_cases hlt : k < 36
    · have hk1 : (0 : Int) ≤ (k : Int) := by omega
      have hk2 : (k : Int) < 36 := by omega
      have hcb := cntK_bd rs k
      have hx : Tame ((k : Int) % 6 * 64 + 32) := by unfold Tame; omega
      have hy : Tame ((k : Int) / 6 * 64 + 32) := by unfold Tame; omega
      go_wp2_with fail
      go_quiet (fail)
      go_wp2_with fail
      have hdn := below_drewN (Below.refl wr.heap.size wr) nq
      have HOq := hide (own_keep HOk.out hdn (own_lt HOk.out))
      have HFq := hide (own_keep HFk.out hdn (own_lt HFk.out))
      have HRq := hide (own_keep HRk.out hdn (own_lt HRk.out))
      have Lq := below_then hbel (Nat.le_refl _) hdn
      clear hdn HOk HFk HRk hbel
      generalize wr.drewN nq = wq at *
      refine (withinR_any rs ((k : Int) % 6 * 64 + 32) ((k : Int) / 6 * 64 + 32) w2.heap.size c3 A3 _ hx hy HT.out hm2 HRq.out).mono ?_
      rintro e w5 ⟨rfl, hb5⟩
      clear hx hy
      have HO5 := hide (own_keep HOq.out hb5 (own_lt HOq.out))
      have HF5 := hide (own_keep HFq.out hb5 (own_lt HFq.out))
      have HR5 := hide (own_keep HRq.out hb5 (own_lt HRq.out))
      have L5 := below_then Lq (Nat.le_refl _) hb5
      clear hb5 Lq HOq HFq HRq
      cases hin : inK rs k
      · rw [show withinF rs ((k : Int) % 6 * 64 + 32) ((k : Int) / 6 * 64 + 32) = false from hin]
        have HS := hide (redK_same fl rs old k hin)
        have HC := hide (show cntK rs (k + 1) = cntK rs k from by simp only [cntK]; rw [hin]; simp)
        clear hin
        go_wp2_with fail
        go_roundw
        case rel => exact ⟨k + 1, by omega, by go_num, by rw [HC.out], by rw [HS.out]; exact HO5, HF5, HR5, L5⟩
        case measure => simp [intOf]; omega
      · rw [show withinF rs ((k : Int) % 6 * 64 + 32) ((k : Int) / 6 * 64 + 32) = true from hin]
        have HS := hide (redK_next fl rs old k hin)
        have HC := hide (show cntK rs (k + 1) = cntK rs k + 1 from by simp only [cntK]; rw [hin]; simp)
        clear hin
        generalize cntK rs k = ck at *
        go_wp2_with fail
        refine (Pixel_any fl ((k : Int) % 6 * 64 + 32) ((k : Int) / 6 * 64 + 32) 4294967295 w.heap.size cx X w5 (by have := HFIT.out.2; omega) HFIT.out.1 (by omega) (by omega) HF5.out).mono ?_
        rintro e w6 ⟨rfl, hb6⟩
        have o6 := own_keep HO5.out hb6 (own_lt HO5.out)
        have f6 := own_keep HF5.out hb6 (own_lt HF5.out)
        have r6 := own_keep HR5.out hb6 (own_lt HR5.out)
        have L6 := below_then L5 (Nat.le_refl _) hb6
        have hfz : w6.frozen? ⟨g2, k, none⟩ = false := o6.frozenAt k
        obtain ⟨cv, hcv⟩ : ∃ cv, w6.cell? ⟨g2, k, none⟩ = some cv := ⟨_, (o6.cellAt k (by omega)).trans (List.getElem?_eq_getElem (by rw [List.length_map, redK_len]; omega))⟩
        have HK := hide (show pixF glyphF fl ((k : Int) % 6 * 64 + 32) ((k : Int) / 6 * 64 + 32) 4294967295 = newK fl k from rfl)
        rw [HK.out]
        generalize newK fl k = nk at *
        have o7 := (o6.stored k (.int .i64 nk)).1
        rw [← List.map_set, ← HS.out] at o7
        have O7 := hide o7
        have F7 := hide (own_far f6 (p := ⟨g2, k, none⟩) (fun h => NF2.out _ h rfl) (.int .i64 nk))
        have R7 := hide (own_far r6 (p := ⟨g2, k, none⟩) (fun h => NR3.out _ h rfl) (.int .i64 nk))
        have L7 := L6.setCell (p := ⟨g2, k, none⟩) hg0 (.int .i64 nk)
        clear o6 f6 r6 o7 L6 hb6 HO5 HF5 HR5 L5 HK
        go_wp2_with fail
        go_roundw
        case rel => exact ⟨k + 1, by omega, by go_num, by rw [HC.out], O7, F7, R7, L7⟩
        case measure => simp [intOf]; omega
    · obtain rfl : k = 36 := by omega
      go_wp2_with fail
      go_ret3
      rw [HFE.out, HME.out, HRE.out]
      exact ⟨_, rfl, own_mono HOk.out hlt1, hbel⟩
end Go.Proofs.Ytbpkffoooieejaa
