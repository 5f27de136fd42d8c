/- The walk of the statement FlexFilled: it returns true. -/
import Derived.BigQuiet
import Derived.Handy
import Derived.IntWalk
import Derived.Deep.QuietTactic
import Derived.Test.YtadlabndbomgmaaFlexBounds
namespace Go.Proofs.Ytadlabndbomgmaa
open Go.ChangeShapes Go.WideShapes Go.ChangeAt Go.RowKit
/-- An item that may grow. -/
def growX (x : Fx) : Fx := ⟨x.b, x.le, -1, IntKind.i64.wrap (x.g + 1000), x.s, x.e⟩
def mild1 (x : Fx) : Prop := x.ok ∧ x.g ≤ 65535
theorem mild_ok1 (R : Nat → Nat → Int) (n : Nat) : ∀ x ∈ mildF R n, mild1 x := by
  intro x hx
  refine ⟨mild_ok R n x hx, ?_⟩
  simp only [mildF, List.mem_map] at hx
  obtain ⟨i, _, rfl⟩ := hx
  have h3 := wu16 (R i 3)
  simp only [mildX]
  omega
theorem grow_eq {x : Fx} (h : mild1 x) : growX x = ⟨x.b, x.le, -1, x.g + 1000, x.s, x.e⟩ := by
  have h1 := h.1
  have h2 := h.2
  unfold Fx.ok at h1
  unfold growX
  rw [IntWalk.i64_in _ (by omega)]
theorem grow_ok {x : Fx} (h : mild1 x) : (growX x).ok := by
  have h1 := h.1
  have h2 := h.2
  rw [grow_eq h]
  unfold Fx.ok at *
  simp only
  omega
/-- The first k items may grow. -/
def growTo (xs : List Fx) (k : Nat) : List Fx := (List.range xs.length).map fun i => if i < k then growX (fxAt xs i) else fxAt xs i
theorem growTo_length (xs : List Fx) (k : Nat) : (growTo xs k).length = xs.length := by simp [growTo]
theorem growTo_at (xs : List Fx) (k i : Nat) (h : i < xs.length) : fxAt (growTo xs k) i = if i < k then growX (fxAt xs i) else fxAt xs i := by
  rw [fxAt_of _ i (by rw [growTo_length]; exact h)]
  simp [growTo]
theorem growTo_zero (xs : List Fx) : fxCells (growTo xs 0) = fxCells xs := by
  unfold fxCells
  rw [growTo_length]
  exact flat_congr fun i hi => by rw [growTo_at xs 0 i hi, if_neg (by omega)]
theorem fxCells_len (xs : List Fx) : (fxCells xs).length = xs.length * 6 := flat_len _ 6 _ fun _ _ => rfl
/-- One cell of one item is stored into. -/
theorem fx_setCell (xs xs' : List Fx) (hl : xs'.length = xs.length) (k j : Nat) (v : Value) (_hk : k < xs.length) (hj : j < 6) (h1 : (fxC (fxAt xs k)).set j v = fxC (fxAt xs' k)) (h2 : ∀ i, i < xs.length → i ≠ k → fxAt xs i = fxAt xs' i) :
    (fxCells xs).set (k * 6 + j) v = fxCells xs' := by
  apply List.ext_getElem?
  intro q
  rw [List.getElem?_set]
  by_cases hq : q < xs.length * 6
  · have hi : q / 6 < xs.length := by omega
    have hjq : q % 6 < 6 := by omega
    have e : q = q / 6 * 6 + q % 6 := by omega
    have g1 := fxCells_at xs (q / 6) (q % 6) hi hjq
    have g2 := fxCells_at xs' (q / 6) (q % 6) (by omega) hjq
    rw [← e] at g1 g2
    rw [g1, g2]
    by_cases hqk : q / 6 = k
    · rw [hqk, ← h1, List.getElem?_set]
      by_cases hqj : j = q % 6
      · rw [if_pos (by omega), if_pos hqj, fxCells_len]
        rw [if_pos (by omega), if_pos (by rw [hqj]; exact hjq)]
      · rw [if_neg (by omega), if_neg hqj]
    · rw [if_neg (by omega), h2 _ hi hqk]
  · rw [List.getElem?_eq_none (show (fxCells xs).length ≤ q by rw [fxCells_len]; omega), List.getElem?_eq_none (show (fxCells xs').length ≤ q by rw [fxCells_len]; omega), fxCells_len]
    by_cases e : k * 6 + j = q
    · rw [if_pos e, if_neg (by omega)]
    · rw [if_neg e]
theorem fxAt_set (xs : List Fx) (k i : Nat) (x : Fx) (_hk : k < xs.length) (hi : i < xs.length) : fxAt (xs.set k x) i = if i = k then x else fxAt xs i := by
  rw [fxAt_of _ i (by simpa using hi), List.getElem_set]
  by_cases h : k = i
  · subst h; simp
  · rw [if_neg h, if_neg (fun e => h e.symm), fxAt_of xs i hi]
theorem growTo_next (xs : List Fx) (k : Nat) (hk : k < xs.length) : ((fxCells (growTo xs k)).set (k * 6 + 2) (.int .i64 (-1))).set (k * 6 + 3) (.int .i64 (IntKind.i64.wrap ((fxAt xs k).g + 1000))) = fxCells (growTo xs (k + 1)) := by
  have hkl : k < (growTo xs k).length := by rw [growTo_length]; exact hk
  have hat : fxAt (growTo xs k) k = fxAt xs k := by rw [growTo_at xs k k hk, if_neg (by omega)]
  rw [fx_setCell (growTo xs k) ((growTo xs k).set k ⟨(fxAt xs k).b, (fxAt xs k).le, -1, (fxAt xs k).g, (fxAt xs k).s, (fxAt xs k).e⟩) (by simp) k 2 _ hkl (by omega) (by rw [fxAt_set _ _ _ _ hkl hkl, if_pos rfl, hat]; rfl) (fun i hi hne => by rw [fxAt_set _ _ _ _ hkl hi, if_neg hne])]
  refine fx_setCell _ _ (by simp [growTo_length]) k 3 _ (by simpa using hkl) (by omega) ?_ ?_
  · rw [fxAt_set _ _ _ _ hkl hkl, if_pos rfl, growTo_at xs (k + 1) k hk, if_pos (by omega)]; rfl
  · intro i hi hne
    have hi' : i < xs.length := by simpa [growTo_length] using hi
    rw [fxAt_set _ _ _ _ hkl (by rw [growTo_length]; exact hi'), if_neg hne, growTo_at xs k i hi', growTo_at xs (k + 1) i hi']
    by_cases h : i < k
    · rw [if_pos h, if_pos (by omega)]
    · rw [if_neg h, if_neg (by omega)]
theorem growTo_ok {xs : List Fx} (h : ∀ x ∈ xs, mild1 x) : ∀ x ∈ growTo xs xs.length, x.ok := by
  intro x hx
  simp only [growTo, List.mem_map, List.mem_range] at hx
  obtain ⟨i, hi, rfl⟩ := hx
  rw [if_pos hi, fxAt_of xs i hi]
  exact grow_ok (h _ (List.getElem_mem hi))
theorem growTo_growers {xs : List Fx} (h : ∀ x ∈ xs, mild1 x) : growers (growTo xs xs.length) := by
  intro i hi
  rw [growTo_length] at hi
  have h1 : mild1 (fxAt xs i) := by rw [fxAt_of xs i hi]; exact h _ (List.getElem_mem hi)
  have h2 := h1.1
  unfold Fx.ok at h2
  rw [growTo_at xs xs.length i hi, if_pos hi, grow_eq h1]
  exact ⟨rfl, by show (1000 : Int) ≤ (fxAt xs i).g + 1000; omega⟩
def lenG (xs : List Fx) (k : Nat) : Int := fsum (fun i => max (fxAt xs i).b (fxAt xs i).le + (fxAt xs i).e) k
theorem lenG_bd {xs : List Fx} (h : ∀ x ∈ xs, mild1 x) (k : Nat) : -1000 * (k : Int) ≤ lenG xs k ∧ lenG xs k ≤ 66000 * (k : Int) := by
  refine fsum_bd fun i _ => ?_
  have h1 : (fxAt xs i).ok := fxAt_ok (fun x hx => (h x hx).1) i
  unfold Fx.ok at h1
  omega
theorem lenG_all (xs : List Fx) : fsum (fun i => max (fxAt (growTo xs xs.length) i).b (fxAt (growTo xs xs.length) i).le + (fxAt (growTo xs xs.length) i).e) xs.length = lenG xs xs.length := fsum_congr fun i hi => by
  rw [growTo_at xs xs.length i hi, if_pos hi]; rfl
theorem mains_bd (room gap : Int) {xs : List Fx} (hok : ∀ x ∈ xs, x.ok) (i : Nat) (hi : i < xs.length) : 0 ≤ at0 (mainsO room gap xs) i ∧ at0 (mainsO room gap xs) i ≤ 16777216 := by
  have h1 := fxAt_ok hok i
  have h2 : itsOk xs (endO room gap xs) := run_ok hok _ _ _ _ _ (its1_ok hok _)
  have h3 : openC (endO room gap xs).set xs.length = 0 := run_all _ _ _ _ _ _ (openC_len _ _)
  have h4 := h2 i hi (openC_zero h3 i hi)
  unfold Fx.ok at h1
  unfold okIs at h4
  unfold mainsO
  rw [mainsTo_at _ _ _ hi]
  omega
theorem tdiv256_bd {n : Int} (h : -2147483648 ≤ n ∧ n ≤ 2147483647) : -8388608 ≤ n.tdiv 256 ∧ n.tdiv 256 ≤ 8388607 := by
  rcases Int.le_total 0 n with h0 | h0
  · rw [Int.tdiv_eq_ediv_of_nonneg h0]; omega
  · have e : n.tdiv 256 = -((-n).tdiv 256) := by rw [Int.neg_tdiv, Int.neg_neg]
    rw [e, Int.tdiv_eq_ediv_of_nonneg (by omega)]; omega
set_option maxRecDepth 100000 in
set_option maxHeartbeats 4000000 in
theorem flexFilled_any (room gap : Int) (A : Option Addr) (n c : Nat) (R : Nat → Nat → Int) (w : World) (hr : Recs w w.heap.size 6 A n R) (hn : n ≤ c) (hc : c ≤ maxLen) :
    Calls Try.prog 14 #[.int .i64 room, .int .i64 gap, .slice A n c] w fun e w' => e = .returned (.bool true) ∧ Below w.heap.size w w' := by
  have Hr := hide hr
  clear hr
  have h32 : -2147483648 ≤ wrap32 room ∧ wrap32 room ≤ 2147483647 := by unfold wrap32; omega
  have hrm : -8388608 ≤ (wrap32 room).tdiv 256 ∧ (wrap32 room).tdiv 256 ≤ 8388607 := tdiv256_bd h32
  have hgp : 0 ≤ gap % 256 ∧ gap % 256 ≤ 255 := by omega
  go_enter Try.func14, Try.ntmps14
  go_wp2_with (go_at_call 55; refine (flexed_any _).mono ?_; rintro e w1 ⟨rfl, hb1⟩)
  have hr1 : Recs w1 w1.heap.size 6 A n R := fun k hk => by
    obtain ⟨g, off, hA, hg, hcell⟩ := (Hr.out.below hb1) k hk
    exact ⟨g, off, hA, Nat.lt_of_lt_of_le hg hb1.size, hcell⟩
  refine (mild_any A n c R w1 hr1 hn hc).mono ?_
  rintro e w2 ⟨v, rfl, hown, hb2⟩
  have hbb := below_then hb1 (Nat.le_refl _) hb2
  have hw1' := hb1.size
  have hw3' := hb2.size
  have hl := mild_length R (min n 12)
  have hok := mild_ok1 R (min n 12)
  have hn2 : min n 12 ≤ 12 := by omega
  generalize mildF R (min n 12) = xs at *
  rw [← hl] at hown hn2
  clear hl Hr hn hc hr1 hb1 hb2
  obtain ⟨X, cx, rfl, _, _⟩ := own_reads hown
  have HO := hide hown
  have HK := hide hok
  clear hown hok
  have hm1 : 0 ≤ gap % 256 * max 0 ((xs.length : Int) - 1) := Int.mul_nonneg (by omega) (by omega)
  have hm2 : gap % 256 * max 0 ((xs.length : Int) - 1) ≤ 255 * 12 := Int.mul_le_mul (by omega) (by omega) (by omega) (by omega)
  go_wp2_with fail
  generalize (wrap32 room).tdiv 256 = rm at *
  generalize gap % 256 = gp at *
  clear h32
  have H0 := hide (show w2.ownsRow w1.heap.size 81 6 (.slice X xs.length cx) xs.length (fxCells (growTo xs 0)) from by rw [growTo_zero]; exact HO.out)
  have hw1 := hbb.size
  have hw3 := hw3'
  have hw2 : w.heap.size ≤ w1.heap.size := hw1'
  clear HO
  go_loopw [7, 31] (fun s i wr => ∃ k : Nat, k ≤ xs.length ∧ i = .int .i64 k ∧ s = .int .i64 (gp * max 0 ((xs.length : Int) - 1) + lenG xs k) ∧ wr.ownsRow w1.heap.size 81 6 (.slice X xs.length cx) xs.length (fxCells (growTo xs k)) ∧ Below w1.heap.size w2 wr) (fun _ i _ => xs.length - (intOf i).toNat)
  case atStart => exact ⟨0, Nat.zero_le _, rfl, by simp [lenG, fsum], H0.out, Below.refl _ _⟩
  case round =>
    obtain ⟨k, hk, rfl, rfl, hown, hbel⟩ := hrel
    have HW := hide hown
    clear hown
    have lb := lenG_bd HK.out k
    by_cases hlt : k < xs.length
    · obtain ⟨g, cap, hv, hg, hgl⟩ := HW.out.form (by omega)
      injection hv with hX hn3 hc3
      clear hn3
      subst hX
      subst hc3
      have hcc : ∀ j, j < 6 → wr.cell? ⟨g, k * 6 + j, none⟩ = (fxC (fxAt xs k))[j]? := fun j hj => by
        rw [HW.out.cellAt _ (by omega), fxCells_at _ k j (by rw [growTo_length]; exact hlt) hj, growTo_at xs k k hlt, if_neg (by omega)]
      have hfz : ∀ j, wr.frozen? ⟨g, j, none⟩ = false := fun j => HW.out.frozenAt j
      have GN := hide (growTo_next xs k hlt)
      have GX := hide (show fxAt (growTo xs (k + 1)) k = growX (fxAt xs k) from by rw [growTo_at xs (k + 1) k hlt, if_pos (by omega)])
      have LS := hide (show lenG xs (k + 1) = lenG xs k + (max (fxAt xs k).b (fxAt xs k).le + (fxAt xs k).e) from rfl)
      have hxk : mild1 (fxAt xs k) := by rw [fxAt_of xs k hlt]; exact HK.out _ (List.getElem_mem hlt)
      have hx1 := hxk.1
      have hx2 := hxk.2
      unfold Fx.ok at hx1
      have hk1 : (0 : Int) ≤ (k : Int) := by omega
      have hk2 : (k : Int) < (xs.length : Int) := by omega
      clear hxk
      generalize lenG xs k = lk at *
      generalize fxAt xs k = x at *
      have d0 : wr.cell? ⟨g, k * 6, none⟩ = some (.int .i64 x.b) := hcc 0 (by omega)
      have d1 : wr.cell? ⟨g, k * 6 + 1, none⟩ = some (.int .i64 x.le) := hcc 1 (by omega)
      have d2 : wr.cell? ⟨g, k * 6 + 2, none⟩ = some (.int .i64 x.mo) := hcc 2 (by omega)
      have d3 : wr.cell? ⟨g, k * 6 + 3, none⟩ = some (.int .i64 x.g) := hcc 3 (by omega)
      have d5 : wr.cell? ⟨g, k * 6 + 5, none⟩ = some (.int .i64 x.e) := hcc 5 (by omega)
      have z2 := hfz (k * 6 + 2)
      have z3 := hfz (k * 6 + 3)
      clear hcc hfz
      have hwx : IntKind.i64.wrap (x.g + 1000) = x.g + 1000 := by rw [IntWalk.i64_in _ (by omega)]
      rw [hwx] at GN
      clear hwx
      have hs1 := HW.out.stored (k * 6 + 2) (.int .i64 (-1))
      have hs2 := hs1.1.stored (k * 6 + 3) (.int .i64 (x.g + 1000))
      rw [GN.out] at hs2
      have HW2 := hide hs2.1
      have hb3 := (hbel.setCell (p := ⟨g, k * 6 + 2, none⟩) hg (.int .i64 (-1))).setCell (p := ⟨g, k * 6 + 3, none⟩) hg (.int .i64 (x.g + 1000))
      clear hs1 hs2
      go_wp2_with fail
      have HWS := HW2
      generalize (wr.setCell ⟨g, k * 6 + 2, none⟩ (.int .i64 (-1))).setCell ⟨g, k * 6 + 3, none⟩ (.int .i64 (x.g + 1000)) = wS at *
      clear d0 d1 d2 d3 d5 z2 z3 HW2 hbel HW
      have hcc2 : ∀ j, j < 6 → wS.cell? ⟨g, k * 6 + j, none⟩ = (fxC (fxAt (growTo xs (k + 1)) k))[j]? := fun j hj => by
        rw [HWS.out.cellAt _ (by omega), fxCells_at _ k j (by rw [growTo_length]; exact hlt) hj]
      have hgx := GX.out
      rw [hgx] at hcc2
      have d0 : wS.cell? ⟨g, k * 6, none⟩ = some (.int .i64 x.b) := hcc2 0 (by omega)
      have d1 : wS.cell? ⟨g, k * 6 + 1, none⟩ = some (.int .i64 x.le) := hcc2 1 (by omega)
      have d5 : wS.cell? ⟨g, k * 6 + 5, none⟩ = some (.int .i64 x.e) := hcc2 5 (by omega)
      clear hcc2 hgx
      go_quiet (fail)
      have HW3 := hide (show (wS.drewN nq).ownsRow w1.heap.size 81 6 (.slice (some ⟨g, 0, none⟩) xs.length cx) xs.length (fxCells (growTo xs (k + 1))) from HWS.out)
      have hb4 := below_drewN hb3 nq
      go_wp2_with fail
      go_roundw
      case rel => exact ⟨k + 1, by omega, by go_num, by rw [LS.out]; go_num, HW3.out, hb4⟩
      case measure => simp [intOf]; omega
    · obtain rfl : k = xs.length := by omega
      by_cases h0 : xs.length = 0
      · have z1 : ((xs.length : Int) == 0) = true := by simp [h0]
        clear h0
        go_wp2_with fail
        go_ret
        exact ⟨rfl, hbb.trans (hbel.mono hw2)⟩
      · have z1 : ((xs.length : Int) == 0) = false := beq_eq_false_iff_ne.2 (by omega)
        by_cases hlr : rm ≤ gp * max 0 ((xs.length : Int) - 1) + lenG xs xs.length
        · go_wp2_with fail
          go_ret
          exact ⟨rfl, hbb.trans (hbel.mono hw2)⟩
        · have hyl := growTo_length xs xs.length
          have hyok := growTo_ok HK.out
          have FL := hide (fill_law rm gp hyok (growTo_growers HK.out) (by rw [hyl]; omega) (by rw [hyl]; omega) hrm hgp (by rw [hyl, lenG_all, show (xs.length : Int) - 1 = max 0 ((xs.length : Int) - 1) by omega]; omega))
          have MB := hide (fun k hk => mains_bd rm gp hyok k hk)
          have hmn := fun W h => Mains_any rm gp (growTo xs xs.length) hyok (by rw [hyl]; omega) w1.heap.size cx X W h
          rw [hyl] at hmn
          have HMN := hide hmn
          have HYE := hide (fun k (hk : k < xs.length) => (fxAt_ok hyok k))
          have hpm : max 0 ((xs.length : Int) - 1) = (xs.length : Int) - 1 := by omega
          rw [hpm] at hm1 hm2
          have HYL := hide hyl
          clear hyok hmn hpm hyl
          generalize hys : growTo xs xs.length = ys at *
          clear hys
          go_wp2_with fail
          refine (HMN.out wr HW.out).mono ?_
          rintro e w4 ⟨v4, rfl, hown4, hb4⟩
          obtain ⟨Y, cy, rfl, _, hy⟩ := own_reads hown4
          have HY := hide hy
          have HW4 := hide (own_keep HW.out hb4 (own_lt HW.out))
          have hb5 : Below w.heap.size w w4 := hbb.trans ((below_then hbel hw3 hb4).mono hw2)
          clear hown4 hy HW hbel hb4 HMN
          go_wp2_with fail
          have HX0 := hide (show fsum (fun i => at0 (mainsO rm gp ys) i + (fxAt ys i).e) 0 = 0 from rfl)
          rw [HYL.out] at FL MB
          go_loopw [9, 10, 11, 86] (fun s _ _ i wq => ∃ k : Nat, k ≤ xs.length ∧ i = .int .i64 k ∧ s = .int .i64 (gp * ((xs.length : Int) - 1) + fsum (fun i => at0 (mainsO rm gp ys) i + (fxAt ys i).e) k) ∧ w4 = wq) (fun _ _ _ i _ => xs.length - (intOf i).toNat)
          case atStart => exact ⟨0, Nat.zero_le _, rfl, by rw [HX0.out, Int.add_zero], rfl⟩
          case round =>
            obtain ⟨k, hk, rfl, rfl, rfl⟩ := hrel
            have sb := fsum_bd (f := fun i => at0 (mainsO rm gp ys) i + (fxAt ys i).e) (lo := -128) (hi := 16777400) (k := k) (fun i hi => by have h1 := MB.out i (by omega); have h2 := HYE.out i (by omega); unfold Fx.ok at h2; omega)
            by_cases hlt2 : k < xs.length
            · obtain ⟨g, hX, hg, _, _, _, _, _, d5⟩ := fxRow (xs := ys) (by rw [HYL.out]; exact HW4.out) (by rw [HYL.out]; exact hlt2)
              subst hX
              obtain ⟨ad, rfl, _, hc⟩ := HY.out.int_at hlt2
              have FS := hide (show fsum (fun i => at0 (mainsO rm gp ys) i + (fxAt ys i).e) (k + 1) = fsum (fun i => at0 (mainsO rm gp ys) i + (fxAt ys i).e) k + (at0 (mainsO rm gp ys) k + (fxAt ys k).e) from rfl)
              have hmb := MB.out k hlt2
              have hye := HYE.out k hlt2
              unfold Fx.ok at hye
              have hk1 : (0 : Int) ≤ (k : Int) := by omega
              have hk2 : (k : Int) < (xs.length : Int) := by omega
              generalize fsum (fun i => at0 (mainsO rm gp ys) i + (fxAt ys i).e) k = sk at *
              generalize at0 (mainsO rm gp ys) k = mk at *
              generalize (fxAt ys k).e = ek at *
              go_wp2_with fail
              go_roundw
              case rel => exact ⟨k + 1, by omega, by go_num, by rw [FS.out]; go_num, trivial⟩
              case measure => simp [intOf]; omega
            · obtain rfl : k = xs.length := by omega
              rw [FL.out]
              have zz : (rm == rm) = true := by simp
              go_wp2_with fail
              go_ret
              exact ⟨rfl, hb5⟩
end Go.Proofs.Ytadlabndbomgmaa
