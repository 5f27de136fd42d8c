/- Walks: breaks.Pieces; the closed fact broken. -/
import Derived.BigQuiet
import Derived.Handy
import Derived.Test.YtadlabndbomgmaaDoorJBreaks
set_option linter.unusedVariables false
set_option linter.unusedSimpArgs false
namespace Go.Proofs.YtadlabndbomgmaaDoor
open Go.ChangeShapes Go.WideShapes Go.ChangeAt Go.RowKit
theorem brkCell {w : World} {B c : Nat} {A : Option Addr} {L : List (Nat × Bool)} (h : w.ownsRow B 127 2 (.slice A L.length c) L.length (brkCells L)) {k : Nat} (hk : k < L.length) :
    ∃ g, A = some ⟨g, 0, none⟩ ∧ B ≤ g ∧ g < w.heap.size ∧ w.cell? ⟨g, k * 2, none⟩ = some (.int .i64 L[k].1) ∧ w.cell? ⟨g, k * 2 + 1, none⟩ = some (.bool L[k].2) := by
  obtain ⟨g, cap, hv, hg, hlt⟩ := h.form (by omega)
  injection hv with hA _ _
  subst hA
  obtain ⟨h1, h2⟩ := brkCells_at L k hk
  exact ⟨g, rfl, hg, hlt, by rw [h.cellAt _ (by omega)]; exact h1, by rw [h.cellAt _ (by omega)]; exact h2⟩
theorem str_info : (Tryd.prog.info? 9).map (fun i => (i.zero, i.size, i.bytes)) = some (some (.string ByteArray.empty), 1, 16) := by kernel_rfl
/-- The pieces of the first k ends. -/
def pcsTo (s : ByteArray) (l : List Nat) (k : Nat) : List ByteArray := pcs s 0 (l.take k)
def lastTo (l : List Nat) (k : Nat) : Nat := lastOf 0 (l.take k)
theorem pcsTo_succ (s : ByteArray) (l : List Nat) (k : Nat) (h : k < l.length) : pcsTo s l (k + 1) = pcsTo s l k ++ (if lastTo l k < l[k] then [s.extract (lastTo l k) l[k]] else []) := by
  unfold pcsTo lastTo
  rw [List.take_succ_eq_append_getElem h, pcs_append]
  congr 1
theorem lastTo_succ (l : List Nat) (k : Nat) (h : k < l.length) : lastTo l (k + 1) = if lastTo l k < l[k] then l[k] else lastTo l k := by
  unfold lastTo
  rw [List.take_succ_eq_append_getElem h, lastOf_append]
  simp only [lastOf]
theorem pcs_len (s : ByteArray) : ∀ (l : List Nat) (a : Nat), (pcs s a l).length ≤ l.length
  | [], _ => Nat.le_refl _
  | b :: r, a => by
    simp only [pcs]
    split
    · have := pcs_len s r b; simp; omega
    · have := pcs_len s r a; simp; omega
set_option maxRecDepth 100000 in
set_option maxHeartbeats 2000000 in
theorem Pieces_any (s : ByteArray) (mode : Int) (w : World) (hs : s.size ≤ 400) :
    Calls Tryd.prog 43 #[.string s, .int .i64 mode] w fun e w' => ∃ v, e = .returned v ∧ w'.ownsRow w.heap.size 9 1 v (piecesF s (modeW mode) (modeK mode)).length ((piecesF s (modeW mode) (modeK mode)).map Value.string) ∧ Below w.heap.size w w' := by
  obtain ⟨i0, hi0, hz0, hz1, hz2⟩ := info_parts lbreak_info
  have HI := hide (⟨hi0, hz0, hz1, hz2⟩ : Tryd.prog.info? 127 = some i0 ∧ i0.zero = some (.agg #[.int .i64 0, .bool false]) ∧ i0.size = 2 ∧ i0.bytes = 16)
  clear hi0 hz0 hz1 hz2
  obtain ⟨j0, hi0, hz0, hz1, hz2⟩ := info_parts str_info
  have HJ := hide (⟨hi0, hz0, hz1, hz2⟩ : Tryd.prog.info? 9 = some j0 ∧ j0.zero = some (.string ByteArray.empty) ∧ j0.size = 1 ∧ j0.bytes = 16)
  clear hi0 hz0 hz1 hz2
  have hl0 := brk_len s (modeW mode) (modeK mode) (s.size + 1) 0 0 (Nat.zero_le _)
  have hl1 : (brkAll s (modeW mode) (modeK mode)).length ≤ 401 := by unfold brkAll; omega
  have HE := hide (ends_le s (modeW mode) (modeK mode))
  have HF := hide (show piecesF s (modeW mode) (modeK mode) = pcsTo s (brkEnds s (modeW mode) (modeK mode)) (brkEnds s (modeW mode) (modeK mode)).length from by unfold piecesF pcsTo; rw [List.take_length])
  have HB := hide (show brkEnds s (modeW mode) (modeK mode) = ((brkAll s (modeW mode) (modeK mode)) ++ [(s.size, false)]).map (·.1) from by simp [brkEnds])
  clear hl0
  go_enter Tryd.func43, Tryd.ntmps43
  go_wp2_with fail
  refine (All_any s mode w hs).mono ?_
  rintro e w1 ⟨v, rfl, hown, hb1⟩
  have HO := hide hown
  have hs1 := hb1.size
  clear hown
  generalize brkAll s (modeW mode) (modeK mode) = L at *
  generalize brkEnds s (modeW mode) (modeK mode) = E at *
  generalize hPf : piecesF s (modeW mode) (modeK mode) = Pf at *
  have TP := hide hPf
  clear hPf
  go_wp2_with (first
    | (at_builtin; refine wpList_app rfl (.tmp 11) (.tmp 15) _ rfl w.heap.size 127 i0 _ 2 16 Tryd.underlying124 HI.out.1 HI.out.2.1 HI.out.2.2.1 HI.out.2.2.2 rfl (by omega) _ _ _ rfl (HO.out.alloc _) (w1.heap.size + 1) _ 1 1 _ rfl (Reads.lit w1 _ _ 2 1 rfl) (by intro u hu; simp at hu; rcases hu with rfl | rfl <;> rfl) (by simp only [maxLen]; omega) (by omega) w ((hb1).alloc (by omega) _) (Nat.le_refl _) ?_; intro v2 w2 hown3 hb3; obtain ⟨X, cx, hv2, hcx, _⟩ := own_reads hown3; have HO3 := hide hown3; clear hown3; subst hv2) | fail)
  obtain ⟨L2, hL2⟩ : ∃ L2, L2 = L ++ [(s.size, false)] := ⟨_, rfl⟩
  have hl2 : L2.length = L.length + 1 := by rw [hL2]; simp
  have hO4 := HO3.out
  rw [← brkCells_snoc L (s.size, false), ← hL2, ← hl2] at hO4
  have HO4 := hide hO4
  have hEB := HB.out
  rw [← hL2] at hEB
  have HEB := hide hEB
  rw [← hl2] at hcx
  clear hO4 HO3 HB hEB HO hs1
  rw [show ((L.length : Int) + 1) = ((L2.length : Nat) : Int) by omega, ← hl2]
  have hl3 : L2.length ≤ 402 := by omega
  clear hl2 hL2
  have hsz2 := hb3.size
  go_loopw [5, 6, 18] (fun v fr i wr => ∃ (k : Nat), k ≤ L2.length ∧ i = .int .i64 k ∧ fr = .int .i64 (lastTo E k) ∧ wr.ownsRow w2.heap.size 9 1 v (pcsTo s E k).length ((pcsTo s E k).map Value.string) ∧ Below w2.heap.size w2 wr) (fun _ _ i _ => L2.length - (intOf i).toNat)
  case atStart => exact ⟨0, Nat.zero_le _, rfl, rfl, own_none _ _ _ _, Below.refl _ _⟩
  case round =>
    obtain ⟨k, hk, rfl, rfl, hown, hbel⟩ := hrel
    have HOr := hide hown
    have hszr := hbel.size
    have helen : E.length = L2.length := by rw [HEB.out]; simp
    clear hown
    by_cases hlt : k < L2.length
    · obtain ⟨g, rfl, hg1, hg2, c0, c1⟩ := brkCell HO4.out hlt
      have d0 := (hbel.cell (p := ⟨g, k * 2, none⟩) hg2).trans c0
      have d1 := (hbel.cell (p := ⟨g, k * 2 + 1, none⟩) hg2).trans c1
      have hek : E[k]'(by omega) = L2[k].1 := by simp [HEB.out]
      have hes : L2[k].1 ≤ s.size := by rw [← hek]; exact HE.out _ (List.getElem_mem _)
      have P1 := hide (pcsTo_succ s E k (by omega))
      have P2 := hide (lastTo_succ E k (by omega))
      have hpl : (pcsTo s E k).length ≤ 402 := by have := pcs_len s (E.take k) 0; unfold pcsTo; simp only [List.length_take] at this; omega
      rw [hek] at P1 P2
      generalize L2[k] = bk at *
      obtain ⟨at_, mu⟩ := bk
      dsimp only at d0 d1 P1 P2 hes
      generalize lastTo E k = fr at *
      generalize pcsTo s E k = Pk at *
      clear c0 c1 hek helen
      by_cases hc : fr < at_
      · rw [if_pos hc] at P1 P2
        have hrd := Reads.lit1 (wr.alloc (.cells #[.int .i64 at_, .bool mu] 127)) 9 (.string (s.extract fr at_))
        rw [show (wr.alloc (.cells #[.int .i64 at_, .bool mu] 127)).heap.size = wr.heap.size + 1 by simp] at hrd
        have HRD := hide hrd
        clear hrd
        have HOA := hide ((HOr.out.alloc (.cells #[.int .i64 at_, .bool mu] 127)).alloc (.cells #[.string (s.extract fr at_)] 9))
        have HBX := hide ((Blk.new wr 127 #[.int .i64 at_, .bool mu]).alloc (.cells #[.string (s.extract fr at_)] 9))
        have HNE := hide (Ne.symm (own_blk_ne HOA.out HBX.out (by decide)))
        have HBL := hide ((hbel.alloc hszr (.cells #[.int .i64 at_, .bool mu] 127)).alloc (show w2.heap.size ≤ (wr.alloc (.cells #[.int .i64 at_, .bool mu] 127)).heap.size by simp; omega) (.cells #[.string (s.extract fr at_)] 9))
        have HMX := hide (show Pk.length + 1 ≤ maxLen by simp only [maxLen]; omega)
        have HMY := hide (show (Pk.length + 1) * 16 ≤ 140737488355328 by omega)
        have HM1 := hide (show ∀ u ∈ ([.string (s.extract fr at_)] : List Value), u.oneCell' = true by intro u hu; simp at hu; subst hu; rfl)
        go_wp2_with (first
          | (at_builtin; refine wpList_append_any _ rfl (.tmp 26) (.tmp 32) _ rfl w2.heap.size 9 j0 _ 1 16 Tryd.underlying49 HJ.out.1 HJ.out.2.1 HJ.out.2.2.1 HJ.out.2.2.2 rfl Nat.one_pos _ Pk.length _ rfl HOA.out (wr.heap.size + 1 + 1) _ 1 1 _ rfl HRD.out HM1.out HMX.out HMY.out HBL.out.size ?_; intro v4 w4 hown4 hg4 hat4; have q0 : w4.cell? ⟨wr.heap.size, 0, none⟩ = some (.int .i64 at_) := (HBX.out.grown hg4 HNE.out).cell 0; have hb4 := own_below HOA.out HBL.out (Nat.le_refl _) (Nat.le_refl _) hg4) | fail)
        go_roundw
        case rel => exact ⟨k + 1, by omega, by go_num, by rw [P2.out], by rw [P1.out, List.length_append, List.map_append]; exact hown4, hb4⟩
        case measure => simp [intOf]; omega
      · rw [if_neg hc] at P1 P2
        go_wp2_with fail
        go_roundw
        case rel => exact ⟨k + 1, by omega, by go_num, by rw [P2.out], by rw [P1.out, List.append_nil]; exact HOr.out.alloc _, hbel.alloc hszr _⟩
        case measure => simp [intOf]; omega
    · obtain rfl : k = L2.length := by omega
      go_wp2_with fail
      go_ret
      rw [← helen] at HOr
      exact ⟨_, rfl, by rw [TP.out, HF.out]; exact own_mono HOr.out hsz2, below_then hb3 (Nat.le_refl _) hbel⟩
end Go.Proofs.YtadlabndbomgmaaDoor
