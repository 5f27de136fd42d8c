/- The walk of Rows: items, row by row. -/
import Derived.BigQuiet
import Derived.Handy
import Derived.IntWalk
import Derived.Deep.MidRow
import Derived.Test.YtadlabndbomgmaaFlexB
import Derived.Test.YtadlabndbomgmaaFlexI
namespace Go.Proofs.Ytadlabndbomgmaa
open Go.ChangeShapes Go.WideShapes Go.ChangeAt Go.RowKit
theorem sum_ge (l : List Int) (h : ∀ x ∈ l, 1 ≤ x) : 0 ≤ l.sum := by
  induction l with
  | nil => simp
  | cons x l ih => have := ih (fun y hy => h y (by simp [hy])); have := h x (by simp); simp; omega
theorem rows_last (room gap : Int) (wraps : Bool) (xs : List Fx) (k : Nat) (hk : 0 < k) : ∃ (l : List Int) (n : Int), (rowsTo room gap wraps xs k).1 = l ++ [n] ∧ 1 ≤ n ∧ n ≤ k := by
  obtain ⟨l, n, h1, h2, h3, h4, h5, _⟩ := rows_inv room gap wraps xs k hk
  exact ⟨l, n, h1, h3, by omega⟩
theorem map_snoc_set (l : List Int) (a b : Int) : ((l ++ [a]).map (Value.int .i64)).set l.length (.int .i64 b) = (l ++ [b]).map (Value.int .i64) := by
  rw [List.map_append, List.set_append_right _ _ (by simp), List.map_append]; simp
set_option maxRecDepth 100000 in
set_option maxHeartbeats 4000000 in
theorem Rows_any (room gap : Int) (wraps : Bool) (xs : List Fx) (hok : ∀ x ∈ xs, x.ok) (hn : xs.length ≤ 20) (B c : Nat) (A : Option Addr) (w : World) (ho : w.ownsRow B 81 6 (.slice A xs.length c) xs.length (fxCells xs)) :
    Calls Try.prog 57 #[.int .i64 room, .int .i64 gap, .slice A xs.length c, .bool wraps] w fun e w' => ∃ v, e = .returned v ∧ w'.ownsRow w.heap.size 3 1 v (rowsF (cut room) (max 0 (cut gap)) wraps xs).length ((rowsF (cut room) (max 0 (cut gap)) wraps xs).map (Value.int .i64)) ∧ Below w.heap.size w w' := by
  have HO := hide ho
  have HK := hide hok
  clear ho hok
  have hr1 := cut_lo room
  have hr2 := cut_hi room
  have hg0 : 0 ≤ max 0 (cut gap) ∧ max 0 (cut gap) ≤ 16777216 := by have := cut_hi gap; omega
  have HF := hide (show rowsF (cut room) (max 0 (cut gap)) wraps xs = (rowsTo (cut room) (max 0 (cut gap)) wraps xs xs.length).1 from rfl)
  go_enter Try.func57, Try.ntmps57
  go_wp2_with (first | (go_at_call 28; refine (cut_any _ _).mono ?_; rintro e w' ⟨rfl, rfl⟩) | (go_at_call 88; refine (items_any xs HK.out (by omega) B c A w HO.out).mono ?_; rintro e w1 ⟨g, rfl, hg1, hblk, hb1⟩; have HB := hide hblk; clear hblk) | fail)
  generalize hR : cut room = R at *
  generalize hG : max 0 (cut gap) = G at *
  have HRT := hide hR
  have HGT := hide hG
  clear hR hG
  obtain ⟨i0, hi0, hz0, hz1, hz2⟩ := info_parts int_info
  have HI := hide (⟨hi0, hz0, hz1, hz2⟩ : Try.prog.info? 3 = some i0 ∧ i0.zero = some (.int .i64 0) ∧ i0.size = 1 ∧ i0.bytes = 8)
  clear hi0 hz0 hz1 hz2
  go_loopw [9, 10, 22] (fun v s i wr => ∃ k : Nat, k ≤ xs.length ∧ i = .int .i64 k ∧ s = .int .i64 (rowsTo R G wraps xs k).2 ∧ wr.ownsRow w1.heap.size 3 1 v (rowsTo R G wraps xs k).1.length ((rowsTo R G wraps xs k).1.map (Value.int .i64)) ∧ Below w1.heap.size w1 wr) (fun _ _ i _ => xs.length - (intOf i).toNat)
  case atStart => exact ⟨0, Nat.zero_le _, rfl, rfl, own_none _ _ _ _, Below.refl _ _⟩
  case round =>
    obtain ⟨k, hk, rfl, rfl, hown, hbel⟩ := hrel
    have HW := hide hown
    have hszr := hbel.size
    clear hown
    by_cases hlt : k < xs.length
    · have cc := itCell (HB.out.below hbel HB.out.lt) hlt
      have hcs : its0.set k = false := rfl
      have hci : its0.is k = 0 := rfl
      rw [hcs, hci] at cc
      have hx := fxAt_ok HK.out k
      have hlg := lng_bd hx
      have sb := rowsTo_bd R G wraps HK.out hg0 k
      have PS := hide (show rowsTo R G wraps xs (k + 1) = if (k == 0) || (wraps && decide (R < (rowsTo R G wraps xs k).2 + G + (fxAt xs k).lng + (fxAt xs k).e)) then ((rowsTo R G wraps xs k).1 ++ [1], (fxAt xs k).lng + (fxAt xs k).e) else (addAt (rowsTo R G wraps xs k).1 ((rowsTo R G wraps xs k).1.length - 1) 1, (rowsTo R G wraps xs k).2 + G + (fxAt xs k).lng + (fxAt xs k).e) from rfl)
      have HLA := hide (rows_last R G wraps xs k)
      have hln : (rowsTo R G wraps xs k).1.length ≤ 1000 := by
        rcases Nat.eq_zero_or_pos k with h0 | h0
        · subst h0; simp [rowsTo]
        · obtain ⟨l, n, h1, h2, h3, h4, h5, _⟩ := rows_inv R G wraps xs k h0
          have hlen : ∀ q : List Int, (∀ x ∈ q, 1 ≤ x) → (q.length : Int) ≤ q.sum := by
            intro q
            induction q with
            | nil => intro _; simp
            | cons y q ih => intro hq; have := ih (fun x hx => hq x (by simp [hx])); have := hq y (by simp); simp; omega
          have := hlen l h2
          rw [h1]; simp; omega
      generalize (rowsTo R G wraps xs k).2 = s at *
      generalize (rowsTo R G wraps xs k).1 = l at *
      unfold Fx.ok at hx
      generalize fxAt xs k = x at *
      clear hcs hci
      have d0 : wr.cell? ⟨g, k * 9, none⟩ = some (.int .i64 x.b) := cc 0 (by omega)
      have d1 : wr.cell? ⟨g, k * 9 + 1, none⟩ = some (.int .i64 x.le) := cc 1 (by omega)
      have d2 : wr.cell? ⟨g, k * 9 + 2, none⟩ = some (.int .i64 x.mo) := cc 2 (by omega)
      have d3 : wr.cell? ⟨g, k * 9 + 3, none⟩ = some (.int .i64 x.g) := cc 3 (by omega)
      have d4 : wr.cell? ⟨g, k * 9 + 4, none⟩ = some (.int .i64 x.s) := cc 4 (by omega)
      have d5 : wr.cell? ⟨g, k * 9 + 5, none⟩ = some (.int .i64 x.e) := cc 5 (by omega)
      have d6 : wr.cell? ⟨g, k * 9 + 6, none⟩ = some (.int .i64 x.lng) := cc 6 (by omega)
      have d7 : wr.cell? ⟨g, k * 9 + 7, none⟩ = some (.bool false) := cc 7 (by omega)
      have d8 : wr.cell? ⟨g, k * 9 + 8, none⟩ = some (.int .i64 0) := cc 8 (by omega)
      clear cc
      have five : ((k = 0 ∨ (¬ k = 0 ∧ wraps = true ∧ R < s + G + x.lng + x.e)) ∧ Hid (rowsTo R G wraps xs (k + 1) = (l ++ [1], x.lng + x.e))) ∨ ((¬ k = 0 ∧ (wraps = false ∨ (wraps = true ∧ ¬ R < s + G + x.lng + x.e))) ∧ Hid (rowsTo R G wraps xs (k + 1) = (addAt l (l.length - 1) 1, s + G + x.lng + x.e))) := by
        have ps := PS.out
        by_cases h0 : k = 0
        · exact .inl ⟨.inl h0, by rw [ps]; exact if_pos (by simp [h0])⟩
        · cases wraps
          · exact .inr ⟨⟨h0, .inl rfl⟩, by rw [ps]; exact if_neg (by simp [h0])⟩
          · by_cases h1 : R < s + G + x.lng + x.e
            · exact .inl ⟨.inr ⟨h0, rfl, h1⟩, by rw [ps]; exact if_pos (by simp [h1])⟩
            · exact .inr ⟨⟨h0, .inr ⟨rfl, h1⟩⟩, by rw [ps]; exact if_neg (by simp [h0]; omega)⟩
      clear PS
      have hbA := hbel.alloc hszr (.cells #[.int .i64 x.b, .int .i64 x.le, .int .i64 x.mo, .int .i64 x.g, .int .i64 x.s, .int .i64 x.e, .int .i64 x.lng, .bool false, .int .i64 0] 149)
      have HWA := hide (HW.out.alloc (.cells #[.int .i64 x.b, .int .i64 x.le, .int .i64 x.mo, .int .i64 x.g, .int .i64 x.s, .int .i64 x.e, .int .i64 x.lng, .bool false, .int .i64 0] 149))
      have HQ := hide (Blk.new wr 149 #[.int .i64 x.b, .int .i64 x.le, .int .i64 x.mo, .int .i64 x.g, .int .i64 x.s, .int .i64 x.e, .int .i64 x.lng, .bool false, .int .i64 0])
      rcases five with ⟨hc, HS⟩ | ⟨hc, HS⟩
      · have hbA2 := hbA.alloc hbA.size (.cells #[.int .i64 0] 3)
        have HWA2 := hide (HWA.out.alloc (.cells #[.int .i64 0] 3))
        have HQ2 := hide (HQ.out.alloc (.cells #[.int .i64 0] 3))
        have hB1 := Blk.new (wr.alloc (.cells #[.int .i64 x.b, .int .i64 x.le, .int .i64 x.mo, .int .i64 x.g, .int .i64 x.s, .int .i64 x.e, .int .i64 x.lng, .bool false, .int .i64 0] 149)) 3 #[.int .i64 0]
        rw [show (wr.alloc (.cells #[.int .i64 x.b, .int .i64 x.le, .int .i64 x.mo, .int .i64 x.g, .int .i64 x.s, .int .i64 x.e, .int .i64 x.lng, .bool false, .int .i64 0] 149)).heap.size = wr.heap.size + 1 by simp] at hB1
        have HB1 := hide hB1
        have HNE := hide ((own_blk_ne HWA2.out HQ2.out (by decide)).symm)
        have MSS := hide (map_snoc_set l 0 1)
        clear hB1
        rcases hc with h0 | ⟨h0, hw, hlt2⟩
        case' inl =>
          have z1 : ((k : Int) == 0) = true := by simp [h0]
          clear h0
        case' inr =>
          subst hw
          have z1 : ((k : Int) == 0) = false := beq_eq_false_iff_ne.2 (by omega)
        all_goals
          go_wp2_with (first | (at_builtin; refine wpList_app1 rfl (.tmp 47) (.tmp 48) _ rfl w1.heap.size 3 (.int .i64 0) 1 8 Try.underlying22 int_info rfl (Nat.succ_pos _) _ l.length _ rfl HWA2.out (wr.heap.size + 1) 1 _ HB1.out rfl rfl rfl (by omega) (Nat.le_of_ble_eq_true rfl) hbA2.size ?_; intro v2 w9 hown9 hg9; have HQ9 := hide (HQ2.out.grown hg9 HNE.out); have hb9 := own_below HWA2.out hbA2 (Nat.le_refl _) (Nat.le_refl _) hg9; obtain ⟨g9, cap9, rfl, hg9b, hg9l⟩ := hown9.form (by omega); have q6 : w9.cell? ⟨wr.heap.size, 6, none⟩ = some (.int .i64 x.lng) := HQ9.out.cell 6; have q5 : w9.cell? ⟨wr.heap.size, 5, none⟩ = some (.int .i64 x.e) := HQ9.out.cell 5; have s9 : w9.cell? ⟨g9, l.length, none⟩ = some (.int .i64 0) := (hown9.cellAt l.length (by omega)).trans (by simp); have z9 : w9.frozen? ⟨g9, l.length, none⟩ = false := hown9.frozenAt _; have hst := (hown9.stored l.length (.int .i64 1)).1; have HST := hide hst; have hb10 := hb9.setCell (p := ⟨g9, l.length, none⟩) hg9b (.int .i64 1); clear hown9 hst hg9) | fail)
          go_roundw
          case rel => exact ⟨k + 1, by omega, by go_num, by rw [HS.out], by rw [HS.out]; have h7 := HST.out; rw [show l.map (Value.int .i64) ++ #[Value.int .i64 0].toList = (l ++ [0]).map (Value.int .i64) from by simp, MSS.out] at h7; rw [List.length_append]; exact h7, hb10⟩
          case measure => simp [intOf]; omega
      · have hk0 := hc.1
        obtain ⟨l1, m, hl1, hm1, hm2⟩ := HLA.out (by omega)
        subst hl1
        have hx5 : at0 (l1 ++ [m]) l1.length = m := by simp [at0]
        have hst0 : addAt (l1 ++ [m]) ((l1 ++ [m]).length - 1) 1 = l1 ++ [m + 1] := addAt_last l1 m 1
        rw [hst0] at HS
        have MSS := hide (map_snoc_set l1 m (m + 1))
        have hlen : (l1 ++ [m]).length = l1.length + 1 := by simp
        rw [hlen] at HW HWA hln
        clear hst0 hx5 hlen HLA
        obtain ⟨g9, cap9, hv9, hg9b, hg9l⟩ := HWA.out.form (by omega)
        subst hv9
        have s9 := (HWA.out.cellAt l1.length (by omega)).trans (show ((l1 ++ [m]).map (Value.int .i64))[l1.length]? = some (.int .i64 m) from by simp)
        have z9 := HWA.out.frozenAt l1.length
        have hst := (HWA.out.stored l1.length (.int .i64 (m + 1))).1
        rw [MSS.out] at hst
        have HST := hide hst
        have hb10 := hbA.setCell (p := ⟨g9, l1.length, none⟩) hg9b (.int .i64 (m + 1))
        clear hst
        have z1 : ((k : Int) == 0) = false := beq_eq_false_iff_ne.2 (by omega)
        rcases hc.2 with hw | ⟨hw, hlt2⟩
        all_goals
          subst hw
          clear hc
          go_wp2_with fail
          go_roundw
          case rel => exact ⟨k + 1, by omega, by go_num, by rw [HS.out], by rw [HS.out, List.length_append]; exact HST.out, hb10⟩
          case measure => simp [intOf]; omega
    · obtain rfl : k = xs.length := by omega
      obtain ⟨v, hv⟩ : ∃ v, v = u9 := ⟨_, rfl⟩
      rw [← hv] at HW ⊢
      clear hv
      go_wp2_with fail
      go_ret
      exact ⟨v, rfl, by rw [HRT.out, HGT.out, HF.out]; exact own_mono HW.out hb1.size, hb1.trans (hbel.mono hb1.size)⟩
end Go.Proofs.Ytadlabndbomgmaa
