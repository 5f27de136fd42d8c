/- Walks: fix.share, fix.Share (what is shared out is a row of the call's own that reads as 'shared'), and the sum of a slice. -/
import Derived.BigQuiet
import Derived.Handy
import Derived.Test.YtadlabndbomgmaaDoorJ1
import Derived.Test.YtadlabndbomgmaaDoorJ2
set_option linter.unusedVariables false
set_option linter.unusedSimpArgs false
namespace Go.Proofs.YtadlabndbomgmaaDoor
open Go.ChangeShapes Go.WideShapes Go.ChangeAt Go.RowKit
set_option maxRecDepth 100000 in
theorem weight_any (k n c : Nat) (p : Addr) (A : Option Addr) (B : Nat) (ws : List Int) (w : World) (hp : w.cell? p = some (.slice A n c)) (hr : Reads w B 1 A n (ws.map (Value.int .i64))) (hk : k < n) :
    Calls Tryd.prog 96 #[.int .i64 k, .pointer (some p)] w fun e w' => e = .returned (.int .i64 (wt k (at0 ws k))) ∧ w = w' := by
  obtain ⟨ad, rfl, _, hc⟩ := hr.int_at hk
  clear hr
  have hx := Lib.hid (show wt k (at0 ws k) = if 1000 ≤ k then 0 else max 0 (cut (at0 ws k)) from rfl)
  generalize at0 ws k = x at *
  by_cases hk1 : 1000 ≤ k
  · go_enter Tryd.func96, Tryd.ntmps96
    go_wp2_with (go_at_call 13; refine (cut_any _ _).mono ?_; rintro e w' ⟨rfl, rfl⟩)
    go_ret
    exact ⟨ret_int (by rw [hx.out, if_pos hk1]), rfl⟩
  · go_enter Tryd.func96, Tryd.ntmps96
    go_wp2_with (go_at_call 13; refine (cut_any _ _).mono ?_; rintro e w' ⟨rfl, rfl⟩)
    go_ret
    exact ⟨ret_int (by rw [hx.out, if_neg hk1]), rfl⟩
theorem share_any (n s a : Int) (w : World) (h1 : -281474976710656000 ≤ n * s) (h2 : n * s ≤ 281474976710656000) (ha : 1 ≤ a) (ha' : a ≤ 9223372036854775807) :
    Calls Tryd.prog 97 #[.int .i64 n, .int .i64 s, .int .i64 a] w fun e w' => e = .returned (.int .i64 (n * s / a)) ∧ w = w' := by
  go_enter Tryd.func97, Tryd.ntmps97
  go_wp2_with (go_at_call 37; refine (floor_any _ _ _ (by omega) (by omega) (by omega) (by omega)).mono ?_; rintro e w' ⟨rfl, rfl⟩)
  go_ret
  exact ⟨rfl, rfl⟩
set_option maxRecDepth 100000 in
theorem Share_any (n : Int) (A : Option Addr) (m c : Nat) (ws : List Int) (w : World) (hr : Reads w w.heap.size 1 A m (ws.map (Value.int .i64))) (hm : m ≤ 1000000) :
    Calls Tryd.prog 76 #[.int .i64 n, .slice A m c] w fun e w' => ∃ v, e = .returned v ∧ w'.ownsRow w.heap.size 3 1 v m ((shared n ws).map (Value.int .i64)) ∧ Below w.heap.size w w' := by
  obtain ⟨i0, hi0, hz0, hz1, hz2⟩ := info_parts int_info
  have hmk := fun W => run_make_rowN (P := Tryd.prog) 39 3 i0 _ Tryd.underlying39 hi0 hz0 .i64 .i64 m m (Nat.le_refl _) (by rw [hz2]; omega) (by omega) W
  rw [hz1, Nat.mul_one] at hmk
  have HR := hide hr
  clear hr
  go_enter Tryd.func76, Tryd.ntmps76
  go_wp2_with (go_at_call 13; refine (cut_any _ _).mono ?_; rintro e w' ⟨rfl, rfl⟩)
  have hbox : ((w.alloc (.cells #[.slice A m c] 39)).alloc (.cells (madeCells #[.int .i64 0] m) 3)).cell? ⟨w.heap.size, 0, none⟩ = some (.slice A m c) := by
    rw [World.cell?_alloc_lt _ _ _ (by simp)]
    exact (Blk.new w 39 #[.slice A m c]).cell 0
  have hown : ((w.alloc (.cells #[.slice A m c] 39)).alloc (.cells (madeCells #[.int .i64 0] m) 3)).ownsRow (w.heap.size + 1) 3 1 (.slice (some ⟨w.heap.size + 1, 0, none⟩) m m) m ((List.replicate m 0).map (Value.int .i64)) := by
    have := World.ownsRow_lit (e := 3) (size := 1) (base := w.heap.size + 1) (w.alloc (.cells #[.slice A m c] 39)) (madeCells #[.int .i64 0] m) m (by simp) (by unfold maxLen; omega) (by simp [madeCells])
    rw [madeCells_rep] at this
    simpa using this
  have hbel : Below w.heap.size w ((w.alloc (.cells #[.slice A m c] 39)).alloc (.cells (madeCells #[.int .i64 0] m) 3)) := ((Below.refl _ _).alloc (Nat.le_refl _) _).alloc (by simp) _
  generalize (w.alloc (.cells #[.slice A m c] 39)).alloc (.cells (madeCells #[.int .i64 0] m) 3) = w2 at *
  have HR2 := hide (HR.out.below hbel)
  have HR0 := hide HR.out
  have Hown := hide hown
  have hl : ws.length = m := by have := HR.out.1; simpa using this
  have HL := hide hl
  clear HR hown hmk hl
  go_loop [7, 8, 21] (fun s x i => ∃ k : Nat, k ≤ m ∧ i = .int .i64 k ∧ s = .int .i64 (wsum ws k)) (fun _ _ i => m - (intOf i).toNat)
  case atStart => exact ⟨0, Nat.zero_le _, rfl, rfl⟩
  case round =>
    obtain ⟨k, hk, rfl, rfl⟩ := hrel
    have b1 := wsum_nonneg ws k
    have b2 := wsum_le ws k
    by_cases hlt : k < m
    · have e1 := Lib.hid (show wsum ws (k + 1) = wsum ws k + wt k (at0 ws k) from rfl)
      have b3 := wt_bd k (at0 ws k)
      go_wp2_with (go_at_call 96; refine (weight_any _ _ _ _ _ _ ws _ hbox HR2.out hlt).mono ?_; rintro e w' ⟨rfl, rfl⟩)
      go_round
      case rel => exact ⟨k + 1, by omega, by go_num, by rw [e1.out]⟩
      case measure => simp [intOf]; omega
    · have hk2 : k = m := by omega
      subst hk2
      have hl := HL.out
      by_cases hz : wsum ws k = 0
      · have hzb : (wsum ws k == 0) = true := by simpa using hz
        have hfin := hide (show shared n ws = List.replicate k 0 from by unfold shared; rw [hl, if_pos hz])
        clear hz hl
        go_wp2
        go_ret
        exact ⟨_, rfl, by rw [hfin.out]; exact own_mono Hown.out (Nat.le_succ _), hbel⟩
      · have hzb : (wsum ws k == 0) = false := by simpa using hz
        have hZ := hide hz
        have hwp : 1 ≤ wsum ws k := by omega
        clear hz hl
        go_wp2_with fail
        go_loopw [9, 10, 11, 12, 35] (fun s t x u i wr => ∃ j : Nat, j ≤ k ∧ i = .int .i64 j ∧ s = .int .i64 (wsum ws j) ∧ t = .int .i64 (upTo n ws j) ∧ wr.cell? ⟨w.heap.size, 0, none⟩ = some (.slice A k c) ∧
            wr.ownsRow (w.heap.size + 1) 3 1 (.slice (some ⟨w.heap.size + 1, 0, none⟩) k k) k (((shared n ws).take j ++ List.replicate (k - j) 0).map (Value.int .i64)) ∧ Below w.heap.size w wr) (fun _ _ _ _ i _ => k - (intOf i).toNat)
        case atStart => exact ⟨0, Nat.zero_le _, rfl, rfl, by rw [upTo_zero], hbox, by simpa using Hown.out, hbel⟩
        case round =>
          obtain ⟨j, hj, rfl, rfl, rfl, hboxr, hownr, hbelr⟩ := hrel
          have HRr := hide (show Reads wr w.heap.size 1 A k (ws.map (Value.int .i64)) from by
            have h0 := HR0.out.below hbelr
            exact h0)
          have b0 := upTo_bound n ws j
          have b1 := upTo_bound n ws (j + 1)
          have c1 := wsum_nonneg ws j
          have c2 := wsum_le ws j
          have c3 := wsum_nonneg ws (j + 1)
          have c4 := wsum_le ws (j + 1)
          have c5 := wsum_le ws k
          have c6 := mul_wsum_bound n ws (j + 1)
          have hlen : (((shared n ws).take j ++ List.replicate (k - j) 0).map (Value.int .i64)).length = k := by
            have := hownr.1; simpa using this
          have hfr := hownr.frozenAt j
          have Hownr := hide hownr
          clear hownr
          by_cases hlt : j < k
          · have hce : ∃ u, wr.cell? ⟨w.heap.size + 1, j, none⟩ = some u := by
              have h1 := Hownr.out.cellAt j (by omega)
              rw [List.getElem?_eq_getElem (by omega)] at h1
              exact ⟨_, h1⟩
            obtain ⟨u0, hce⟩ := hce
            have e1 := Lib.hid (show wsum ws (j + 1) = wsum ws j + wt j (at0 ws j) from rfl)
            have e2 := Lib.hid (show upTo n ws (j + 1) = cut n * wsum ws (j + 1) / wsum ws k from by unfold upTo; rw [HL.out])
            have e3 := Lib.hid (show upTo n ws (j + 1) - upTo n ws j = at0 (shared n ws) j from by
              rw [shared_getD n ws j (by rw [HL.out]; exact hlt), HL.out, if_neg hZ.out])
            have b3 := wt_bd j (at0 ws j)
            clear hlen
            go_wp2_with (first
              | (go_at_call 96; refine (weight_any _ _ _ _ _ _ ws _ hboxr HRr.out hlt).mono ?_; rintro e w' ⟨rfl, rfl⟩)
              | (go_at_call 97; rw [← e1.out]; refine (share_any _ _ _ _ c6.1 c6.2 hwp (by omega)).mono ?_; rintro e w' ⟨rfl, rfl⟩; rw [← e2.out]))
            go_roundw
            case rel =>
              refine ⟨j + 1, by omega, by go_num, rfl, rfl, ?_, ?_, hbelr.setCell (by simp) _⟩
              · rw [World.cell?_setCell_other _ _ _ _ (by simp)]; exact hboxr
              · have h1 := (Hownr.out.stored j (.int .i64 (at0 (shared n ws) j))).1
                rw [← List.map_set, outs_set _ _ _ hlt (by rw [shared_length, HL.out])] at h1
                rw [e3.out]; exact h1
            case measure => simp [intOf]; omega
          · have hjk : j = k := by omega
            subst hjk
            have hfin := hide (show (shared n ws).take j ++ List.replicate (j - j) 0 = shared n ws from by
              rw [Nat.sub_self, List.replicate_zero, List.append_nil, List.take_of_length_le (by rw [shared_length, HL.out]; exact Nat.le_refl _)])
            clear hlen
            go_wp2
            go_ret
            exact ⟨_, rfl, by rw [← hfin.out]; exact own_mono Hownr.out (Nat.le_succ _), hbelr⟩
end Go.Proofs.YtadlabndbomgmaaDoor
