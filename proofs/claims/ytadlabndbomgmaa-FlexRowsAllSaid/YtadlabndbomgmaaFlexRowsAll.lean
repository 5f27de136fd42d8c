/- The walk of the statement FlexRowsAll: it returns true. -/
import Derived.BigQuiet
import Derived.Handy
import Derived.IntWalk
import Derived.Deep.QuietTactic
import Derived.Test.YtadlabndbomgmaaFlexR
import Derived.Test.YtadlabndbomgmaaFlexBounds
import Derived.Test.YtadlabndbomgmaaFlexS
namespace Go.Proofs.Ytadlabndbomgmaa
open Go.ChangeShapes Go.WideShapes Go.ChangeAt Go.RowKit
theorem psum_cons (n : Int) (r : List Int) (j : Nat) : psum (n :: r) (j + 1) = n + psum r j := by simp [psum]
theorem rowsOk_at (room gap : Int) (xs : List Fx) : ∀ (L : List Int) (a j : Nat), rowsOk room gap true xs a L → (∀ x ∈ L, 1 ≤ x) → j < L.length → 1 < at0 L j →
    gap * (at0 L j - 1) + (plen xs (a + (psum L j).toNat + (at0 L j).toNat) - plen xs (a + (psum L j).toNat)) ≤ room
  | [], _, _, _, _, hj, _ => absurd hj (Nat.not_lt_zero _)
  | n :: r, a, 0, h, _, _, h1 => by
    have e : at0 (n :: r) 0 = n := rfl
    rw [e] at h1 ⊢
    rw [psum_zero]
    exact h.1.2 rfl h1
  | n :: r, a, j + 1, h, hp, hj, h1 => by
    have e : at0 (n :: r) (j + 1) = at0 r j := rfl
    have hr : ∀ x ∈ r, 1 ≤ x := fun x hx => hp x (by simp [hx])
    have h0 := (psum_between r (fun x hx => by have := hr x hx; omega) j).1
    have hn := hp n (by simp)
    have ih := rowsOk_at room gap xs r (a + n.toNat) j h.2 hr (by simpa using hj) (by rw [← e]; exact h1)
    rw [e, psum_cons, show a + (n + psum r j).toNat = a + n.toNat + (psum r j).toNat by omega]
    exact ih
theorem plen_bd {xs : List Fx} (h : ∀ x ∈ xs, x.ok) (k : Nat) : -128 * (k : Int) ≤ plen xs k ∧ plen xs k ≤ 65700 * (k : Int) := by
  induction k with
  | zero => simp [plen]
  | succ k ih =>
    have h1 := fxAt_ok h k
    have h2 := lng_bd h1
    unfold Fx.ok at h1
    simp only [plen]; omega
set_option maxRecDepth 100000 in
set_option maxHeartbeats 4000000 in
theorem flexRowsAll_any (room gap : Int) (A : Option Addr) (n c : Nat) (R : Nat → Nat → Int) (wraps : Bool) (w : World) (hr : Recs w w.heap.size 6 A n R) (hn : n ≤ c) (hc : c ≤ maxLen) :
    Calls Try.prog 16 #[.int .i64 room, .int .i64 gap, .slice A n c, .bool wraps] w fun e w' => e = .returned (.bool true) ∧ Below w.heap.size w w' := by
  have Hr := hide hr
  clear hr
  have hgp : 0 ≤ gap % 256 ∧ gap % 256 ≤ 255 := by omega
  go_enter Try.func16, Try.ntmps16
  go_wp2_with fail
  refine (mild_any A n c R w Hr.out hn hc).mono ?_
  rintro e w1 ⟨v, rfl, hown, hb1⟩
  have hl := mild_length R (min n 12)
  have hok := mild_ok R (min n 12)
  have hn2 : min n 12 ≤ 12 := by omega
  generalize mildF R (min n 12) = xs at *
  rw [← hl] at hown hn2
  clear hl Hr hn hc
  obtain ⟨X, cx, rfl, hcx, _⟩ := own_reads hown
  have HO := hide hown
  have HK := hide hok
  clear hown hok
  go_wp2_with fail
  generalize gap % 256 = gp at *
  refine (Rows_any room gp wraps xs HK.out (by omega) w.heap.size cx X w1 HO.out).mono ?_
  rintro e w2 ⟨v2, rfl, hown2, hb2⟩
  have hbb := below_then hb1 (Nat.le_refl _) hb2
  have HO2 := hide (own_keep HO.out hb2 (own_lt HO.out))
  have hG : max 0 (cut gp) = gp := by rw [cut_of (by omega) (by omega)]; omega
  rw [hG] at hown2
  obtain ⟨l1, l2, l3, l4⟩ := rows_law (cut room) gp wraps xs
  generalize rowsF (cut room) gp wraps xs = L at *
  obtain ⟨Y, cy, rfl, _, hy⟩ := own_reads hown2
  have hpb := fun k => psum_between L (fun x hx => by have := l2 x hx; omega) k
  rw [l1] at hpb
  have hlen : L.length ≤ 12 := by
    have : ∀ q : List Int, (∀ x ∈ q, 1 ≤ x) → (q.length : Int) ≤ q.sum := by
      intro q
      induction q with
      | nil => intro _; simp
      | cons y q ih => intro hq; have := ih (fun x hx => hq x (by simp [hx])); have := hq y (by simp); simp; omega
    have := this L l2
    omega
  have HY := hide hy
  have HPB := hide hpb
  have HL1 := hide l1
  have HL2 := hide l2
  have HL3 := hide l3
  clear hown2 hy HO hb1 hb2 hpb l1 l2 l3 hG
  have hz : ((xs.length : Int) != (xs.length : Int)) = false := by simp
  go_wp2_with (go_at_call 55; refine (flexed_any _).mono ?_; rintro e w3 ⟨rfl, hb3⟩)
  have HY3 := hide ((HY.out.below hb3).more hb3.size)
  have HO3 := hide (own_keep HO2.out hb3 (own_lt HO2.out))
  have hb4 := below_then hbb (Nat.le_refl _) hb3
  clear HY HO2 hbb hb3
  refine (sum_any Y L.length cy L _ w3 HY3.out (by omega) (fun k _ => by have := HPB.out k; omega)).mono ?_
  rintro e w' ⟨rfl, rfl⟩
  rw [HL1.out]
  cases wraps
  case' true =>
    have HRO3 : ∀ {a nn : Nat}, Hid (rowsOk (cut room) gp true xs 0 L → 1 < nn → gp * ((nn : Int) - 1) + (plen xs (a + nn) - plen xs a) ≤ cut room) → (1 < nn → gp * ((nn : Int) - 1) + (plen xs (a + nn) - plen xs a) ≤ cut room) := fun h h2 => h.out HL3.out h2
  case' false =>
    have HRO3 : ∀ {a nn : Nat}, Hid (rowsOk (cut room) gp true xs 0 L → 1 < nn → gp * ((nn : Int) - 1) + (plen xs (a + nn) - plen xs a) ≤ cut room) → (1 < nn → True) := fun h h2 => trivial
    have z4 : decide ((1 : Int) < (L.length : Int)) = false := decide_eq_false (by have := l4 rfl; omega)
  all_goals
    clear l4
    go_wp2_with fail
    go_loopw [10, 46] (fun t i wr => ∃ k : Nat, k ≤ L.length ∧ i = .int .i64 k ∧ t = .int .i64 (psum L k) ∧ Below w3.heap.size w3 wr) (fun _ i _ => L.length - (intOf i).toNat)
    case atStart => exact ⟨0, Nat.zero_le _, rfl, rfl, Below.refl _ _⟩
    case round =>
      obtain ⟨k, hk, rfl, rfl, hbel⟩ := hrel
      have hszr := hbel.size
      by_cases hlt : k < L.length
      · have hp0 := HPB.out k
        have hp1 := HPB.out (k + 1)
        have hps := psum_succ L k hlt
        have hn1 : 1 ≤ at0 L k := by rw [at0_of L k hlt]; exact HL2.out _ (List.getElem_mem hlt)
        have PS := hide hps
        obtain ⟨ad, rfl, _, hcy⟩ := (HY3.out.below hbel).int_at hlt
        obtain ⟨a, ha⟩ : ∃ a : Nat, psum L k = (a : Int) := ⟨(psum L k).toNat, by omega⟩
        obtain ⟨nn, hnn⟩ : ∃ nn : Nat, at0 L k = (nn : Int) := ⟨(at0 L k).toNat, by omega⟩
        have HRO := hide (fun (h1 : rowsOk (cut room) gp true xs 0 L) (h2 : 1 < nn) => by
          have := rowsOk_at (cut room) gp xs L 0 k h1 HL2.out hlt (by omega)
          rw [ha, hnn, Nat.zero_add, Int.toNat_natCast, Int.toNat_natCast] at this
          exact this)
        rw [hps, ha, hnn] at hp1
        rw [ha, hnn] at PS
        rw [hnn] at hn1 hcy
        rw [ha] at hp0 ⊢
        clear ha hnn hps
        have HRO2 := HRO3 HRO
        have hnc : a + nn ≤ cx := by omega
        obtain ⟨g, hX, hg, _⟩ := fxRow (own_keep HO3.out hbel (own_lt HO3.out)) (show 0 < xs.length by omega)
        have hX2 := hX
        subst hX2
        have hm1 : 0 ≤ gp * ((nn : Int) - 1) := Int.mul_nonneg (by omega) (by omega)
        have hm2 : gp * ((nn : Int) - 1) ≤ 255 * 12 := Int.mul_le_mul (by omega) (by omega) (by omega) (by omega)
        have HOr := hide (own_keep HO3.out hbel (own_lt HO3.out))
        clear hX
        go_wp2_with fail
        obtain ⟨wo, rfl⟩ : ∃ wo : World, wo = wr := ⟨_, rfl⟩
        go_loopw [13, 63] (fun s j wq => ∃ q : Nat, q ≤ nn ∧ j = .int .i64 q ∧ s = .int .i64 (gp * ((nn : Int) - 1) + (plen xs (a + q) - plen xs a)) ∧ Below wo.heap.size wo wq) (fun _ j _ => nn - (intOf j).toNat)
        case atStart => exact ⟨0, Nat.zero_le _, rfl, by rw [Nat.add_zero, Int.sub_self, Int.add_zero], Below.refl _ _⟩
        case round =>
          obtain ⟨q, hq, rfl, rfl, hbq⟩ := hrel
          have hszq := hbq.size
          have pb := plen_bd HK.out (a + q)
          have pa := plen_bd HK.out a
          by_cases hlq : q < nn
          · obtain ⟨g1, hX3, hg3, d0, d1, d2, d3, d4, d5⟩ := fxRow (own_keep HOr.out hbq (own_lt HOr.out)) (show a + q < xs.length by omega)
            have hge : g1 = g := by injection hX3 with h1; injection h1 with h2; exact h2.symm
            subst hge
            clear hX3
            rw [Nat.add_mul] at d0 d1 d2 d3 d4 d5
            have hx := fxAt_ok HK.out (a + q)
            have hlg := lng_bd hx
            have HLN := hide (show betw (fxAt xs (a + q)).b (fxAt xs (a + q)).le (fxAt xs (a + q)).mo = (fxAt xs (a + q)).lng from rfl)
            have hlg2 : 0 ≤ betw (fxAt xs (a + q)).b (fxAt xs (a + q)).le (fxAt xs (a + q)).mo ∧ betw (fxAt xs (a + q)).b (fxAt xs (a + q)).le (fxAt xs (a + q)).mo ≤ 65535 := hlg
            have PLS := hide (show plen xs (a + (q + 1)) = plen xs (a + q) + ((fxAt xs (a + q)).lng + (fxAt xs (a + q)).e) from rfl)
            unfold Fx.ok at hx
            generalize fxAt xs (a + q) = x at *
            generalize plen xs (a + q) = pq at *
            have HQ := hide (Blk.new wr 81 #[.int .i64 x.b, .int .i64 x.le, .int .i64 x.mo, .int .i64 x.g, .int .i64 x.s, .int .i64 x.e])
            have hbA := hbq.alloc hszq (.cells #[.int .i64 x.b, .int .i64 x.le, .int .i64 x.mo, .int .i64 x.g, .int .i64 x.s, .int .i64 x.e] 81)
            have hq1 : (0 : Int) ≤ (q : Int) := by omega
            have hq2 : (q : Int) < (nn : Int) := by omega
            go_wp2_with fail
            clear d0 d1 d2 d3 d4 d5
            generalize wr.alloc (.cells #[.int .i64 x.b, .int .i64 x.le, .int .i64 x.mo, .int .i64 x.g, .int .i64 x.s, .int .i64 x.e] 81) = wA at *
            have q0 : wA.cell? ⟨wr.heap.size, 0, none⟩ = some (.int .i64 x.b) := HQ.out.cell 0
            have q1 : wA.cell? ⟨wr.heap.size, 1, none⟩ = some (.int .i64 x.le) := HQ.out.cell 1
            have q2 : wA.cell? ⟨wr.heap.size, 2, none⟩ = some (.int .i64 x.mo) := HQ.out.cell 2
            have q5 : wA.cell? ⟨wr.heap.size, 5, none⟩ = some (.int .i64 x.e) := HQ.out.cell 5
            go_quiet ((go_at_call 58; exact quiet_left (between_any _ _ _ _)))
            rw [HLN.out]
            go_wp2_with fail
            go_roundw
            case rel => exact ⟨q + 1, by omega, by go_num, by rw [PLS.out]; go_num, below_drewN hbA _⟩
            case measure => simp [intOf]; omega
          · obtain rfl : q = nn := by omega
            have hb9 := below_then hbel (Nat.le_refl _) hbq
            by_cases h2 : 1 < q
            · have hro := HRO2 h2
              go_wp2_with (first | (go_at_call 28; refine (cut_any _ _).mono ?_; rintro e w' ⟨rfl, rfl⟩) | fail)
              go_roundw
              case rel => exact ⟨k + 1, by omega, by go_num, by rw [PS.out], hb9⟩
              case measure => simp [intOf]; omega
            · go_wp2_with fail
              go_roundw
              case rel => exact ⟨k + 1, by omega, by go_num, by rw [PS.out], hb9⟩
              case measure => simp [intOf]; omega
      · obtain rfl : k = L.length := by omega
        go_wp2_with fail
        go_ret
        exact ⟨rfl, below_then hb4 (Nat.le_refl _) hbel⟩
end Go.Proofs.Ytadlabndbomgmaa
