/- Walks: margins.Meet, the closed fact met, and the statement MarginsOrder: it returns true. -/
import Derived.BigQuiet
import Derived.Test.YtadlabndbomgmaaFix
import Derived.Test.YtadlabndbomgmaaProg
import Derived.Test.YtadlabndbomgmaaPlain
import Derived.Test.YtadlabndbomgmaaKit
namespace Go.Proofs.Ytadlabndbomgmaa
open Go.ChangeShapes Go.WideShapes Go.ChangeAt Go.RowKit
theorem meet_any (A : Option Addr) (n c : Nat) (xs : List Int) (B : Nat) (w : World) (hr : Reads w B 1 A n (xs.map (Value.int .i64))) (hn : n ≤ 1000000) :
    Calls Try.prog 25 #[.slice A n c] w fun e w' => e = .returned (.int .i64 (meet xs)) ∧ w = w' := by
  have hl : xs.length = n := by have := hr.1; simpa using this
  have HL := Lib.hid hl
  have HR := Lib.hid hr
  clear hr hl
  go_enter Try.func25, Try.ntmps25
  go_wp2_with fail
  go_loop [3, 4, 6, 9] (fun m l x i => ∃ k : Nat, k ≤ n ∧ i = .int .i64 k ∧ m = .int .i64 (most (xs.take k)) ∧ l = .int .i64 (least (xs.take k))) (fun _ _ _ i => n - (intOf i).toNat)
  case atStart => exact ⟨0, Nat.zero_le _, rfl, rfl, rfl⟩
  case round =>
    obtain ⟨k, hk, rfl, rfl, rfl⟩ := hrel
    by_cases hlt : k < n
    · obtain ⟨ad, rfl, _, hc⟩ := HR.out.int_at hlt
      have h1 := Lib.hid (most_take xs k (by have := HL.out; omega))
      have h2 := Lib.hid (least_take xs k (by have := HL.out; omega))
      generalize xs.getD k 0 = x at *
      go_wp2_with (first | (go_at_call 28; refine (cut_any _ _).mono ?_; rintro e w' ⟨rfl, rfl⟩))
      go_round
      case rel => exact ⟨k + 1, by omega, by go_num, by rw [h1.out], by rw [h2.out]⟩
      case measure => simp [intOf]; omega
    · have hk2 : k = n := by omega
      subst hk2
      have hl := HL.out
      have hb1 := most_bound (xs.take k)
      have hb2 := least_bound (xs.take k)
      have ht := Lib.hid (show xs.take k = xs from List.take_of_length_le (by omega))
      clear hl
      go_wp2_with (first | (go_at_call 28; refine (cut_any _ _).mono ?_; rintro e w' ⟨rfl, rfl⟩))
      go_ret
      exact ⟨ret_int (by show cut (most (xs.take k) + least (xs.take k)) = _; rw [ht.out]; rfl), rfl⟩
theorem met_any (w : World) : Calls Try.prog 24 #[] w fun e w' => e = .returned (.bool true) ∧ Below w.heap.size w w' := by
  have hr : ∀ W : World, Reads (W.alloc (.cells #[.int .i64 5, .int .i64 (-2), .int .i64 9, .int .i64 (-7)] 3)) (W.heap.size + 1) 1 (some ⟨W.heap.size, 0, none⟩) 4 ([5, -2, 9, -7].map (Value.int .i64)) := by
    intro W
    refine ⟨rfl, fun _ => ⟨_, rfl, by simp, fun j u hj => ?_⟩⟩
    rw [← hj]
    have := (Blk.new W 3 #[.int .i64 5, .int .i64 (-2), .int .i64 9, .int .i64 (-7)]).cell j
    rw [show (⟨W.heap.size, 0, none⟩ : Addr).add j = ⟨W.heap.size, j, none⟩ by unfold Addr.add; split <;> simp_all]
    rw [this]; simp
  have Hr := hide hr
  clear hr
  go_enter Try.func24, Try.ntmps24
  go_wp2_with (go_at_call 25; ((with_reducible refine (meet_any _ _ _ _ _ _ (Hr.out w) (by omega)).mono ?_); rintro e w7 ⟨rfl, rfl⟩))
  go_ret
  exact ⟨by rfl, (Below.refl _ _).alloc (Nat.le_refl _) _⟩
set_option maxRecDepth 100000 in
theorem marginsOrder_any (A B : Option Addr) (n m c d : Nat) (xs ys : List Int) (w : World) (ha : Reads w w.heap.size 1 A n (xs.map (.int .i64))) (hb : Reads w w.heap.size 1 B m (ys.map (.int .i64))) (hn : n ≤ c) (hm : m ≤ d) (hc : c ≤ maxLen) (hd : d ≤ maxLen) :
    Calls Try.prog 3 #[.slice A n c, .slice B m d] w fun e w' => e = .returned (.bool true) ∧ Below w.heap.size w w' := by
  unfold maxLen at hc hd
  obtain ⟨i0, hi0, hz0, hz1, hz2⟩ := info_parts int_info
  have Ha := hide ha
  have Hb := hide hb
  clear ha hb
  go_enter Try.func3, Try.ntmps3
  go_wp2_with fail
  go_quiet (fail)
  have En : (min (n : Int) 50).toNat = min n 50 := by omega
  have Em : (min (m : Int) 50).toNat = min m 50 := by omega
  rw [En, Em]
  clear En Em
  have ha := Ha.out.take1 (k := min n 50) (by omega)
  have hb := Hb.out.take1 (k := min m 50) (by omega)
  have hn1 : min n 50 ≤ 50 := by omega
  have hm1 : min m 50 ≤ 50 := by omega
  generalize min n 50 = n1 at *
  generalize min m 50 = m1 at *
  generalize xs.take n1 = xs1 at *
  generalize ys.take m1 = ys1 at *
  clear Ha Hb
  have Ha := hide ha
  have Hb := hide hb
  clear ha hb
  have ox := hide (ints_one .i64 xs1)
  have oy := hide (ints_one .i64 ys1)
  go_wp2_with (first
    | (at_builtin
       refine wpList_app rfl (.const (.slice none 0 0)) (.tmp 17) _ rfl w.heap.size 3 i0 _ 1 8 Try.underlying22 hi0 hz0 hz1 hz2 rfl (by omega) (.slice none 0 0) 0 [] rfl
         (own_none _ _ _ _) w.heap.size A n1 c _ rfl (Ha.out.drewN _) ox.out (by simp only [maxLen]; omega) (by omega) w (below_drewN (Below.refl _ _) _) (Nat.le_refl _) ?_
       intro v1 w1 hown1 hb1)
    | (at_builtin
       refine wpList_app rfl (.tmp 18) (.tmp 19) _ rfl w.heap.size 3 i0 _ 1 8 Try.underlying22 hi0 hz0 hz1 hz2 rfl (by omega) v1 (0 + n1) _ rfl
         hown1 w.heap.size B m1 d _ rfl (Hb.out.below hb1) oy.out (by simp only [maxLen]; omega) (by omega) w hb1 (Nat.le_refl _) ?_
       intro v2 w2 hown2 hb2
       obtain ⟨X, cx, hv2, hcx, hx⟩ := own_reads hown2
       have ha2 := hide (Ha.out.below hb2)
       have hb2' := hide (Hb.out.below hb2)
       rw [List.nil_append, Nat.zero_add, ← List.map_append] at hx
       rw [Nat.zero_add] at hv2
       have Hx := hide hx
       clear hx hcx hown2 hown1 hb1
       rw [hv2]
       clear hv2)
    | (at_builtin
       refine wpList_app rfl (.const (.slice none 0 0)) (.tmp 21) _ rfl w2.heap.size 3 i0 _ 1 8 Try.underlying22 hi0 hz0 hz1 hz2 rfl (by omega) (.slice none 0 0) 0 [] rfl
         (own_none _ _ _ _) w.heap.size B m1 d _ rfl hb2'.out oy.out (by simp only [maxLen]; omega) (by omega) w2 (Below.refl _ _) (Nat.le_refl _) ?_
       intro v3 w3 hown3 hb3)
    | (at_builtin
       refine wpList_app rfl (.tmp 22) (.tmp 23) _ rfl w2.heap.size 3 i0 _ 1 8 Try.underlying22 hi0 hz0 hz1 hz2 rfl (by omega) v3 (0 + m1) _ rfl
         hown3 w.heap.size A n1 c _ rfl (ha2.out.below (hb3.mono hb2.size)) ox.out (by simp only [maxLen]; omega) (by omega) w2 hb3 (Nat.le_refl _) ?_
       intro v4 w4 hown4 hb4)
    | (at_builtin
       refine wpList_app rfl (.tmp 24) (.tmp 25) _ rfl w2.heap.size 3 i0 _ 1 8 Try.underlying22 hi0 hz0 hz1 hz2 rfl (by omega) v4 (0 + m1 + n1) _ rfl
         hown4 w.heap.size B m1 d _ rfl (hb2'.out.below (hb4.mono hb2.size)) oy.out (by simp only [maxLen]; omega) (by omega) w2 hb4 (Nat.le_refl _) ?_
       intro v5 w5 hown5 hb5
       obtain ⟨Y, cy, hv5, hcy, hy⟩ := own_reads hown5
       have Hx5 := hide (Hx.out.below hb5)
       rw [List.nil_append, ← List.map_append, ← List.map_append, Nat.zero_add] at hy
       rw [Nat.zero_add] at hv5
       have Hy := hide hy
       clear hy hcy hown5 hown4 hown3 hb3 hb4
       rw [hv5]
       clear hv5)
    | (go_at_call 24; refine (met_any _).mono ?_; rintro e w6 ⟨rfl, hb6⟩)
    | (go_at_call 25; ((with_reducible refine (meet_any _ _ _ _ _ _ (Hx5.out.below (hb6.mono hb5.size)) (by omega)).mono ?_); rintro e w7 ⟨rfl, rfl⟩))
    | (go_at_call 25; ((with_reducible refine (meet_any _ _ _ _ _ _ (Hy.out.below hb6) (by omega)).mono ?_); rintro e w7 ⟨rfl, rfl⟩)))
  go_ret
  exact ⟨ret_bool (by have e := meet_order xs1 ys1; rw [List.append_assoc] at e; exact beq_iff_eq.2 e), hb2.trans ((hb5.mono hb2.size).trans (hb6.mono (Nat.le_trans hb2.size hb5.size)))⟩
end Go.Proofs.Ytadlabndbomgmaa
