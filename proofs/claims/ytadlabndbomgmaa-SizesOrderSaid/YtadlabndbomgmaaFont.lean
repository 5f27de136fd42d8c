/- Walks of the package font: how wide a rune is; its dots. -/
import Derived.BigQuiet
import Derived.Handy
import Derived.IntWalk
import Derived.Deep.QuietTactic
import Derived.Test.YtadlabndbomgmaaIndexRune
import Derived.Test.YtadlabndbomgmaaBits
import Derived.Test.YtadlabndbomgmaaGlyphPlain
import Derived.Test.YtadlabndbomgmaaKitT
namespace Go.Proofs.Ytadlabndbomgmaa
open Go.ChangeShapes Go.WideShapes Go.ChangeAt Go.RowKit
set_option maxRecDepth 100000 in
set_option maxHeartbeats 1000000 in
theorem fourths_any (r : Int) (w : World) : Calls Try.prog 144 #[.int .i32 r] w fun e w' => e = .returned (.int .i64 (fourthsF r)) ∧ ∃ k, w' = w.drewN k := by
  have hk := hide (show fourthsF r = if r < 32 ∨ r = 127 then 0 else if 4352 ≤ r then 4 else if r ∈ narrowL then 1 else if r ∈ wideL then 3 else 2 from rfl)
  have HN := hide narrow_ascii
  have HW := hide wide_ascii
  by_cases h1 : r < 32
  · have hr := hide (hk.out.trans (if_pos (.inl h1)))
    clear hk
    go_enter Try.func144, Try.ntmps144
    go_wp2_with fail
    go_ret
    exact ⟨ret_int hr.out.symm, 0, rfl⟩
  · by_cases h2 : r = 127
    · have hr := hide (hk.out.trans (if_pos (.inr h2)))
      clear hk
      have z1 : (r == 127) = true := by simp [h2]
      clear h2
      go_enter Try.func144, Try.ntmps144
      go_wp2_with fail
      go_ret
      exact ⟨ret_int hr.out.symm, 0, rfl⟩
    · have z1 : (r == 127) = false := beq_eq_false_iff_ne.2 h2
      have h12 : ¬ (r < 32 ∨ r = 127) := by omega
      by_cases h3 : 4352 ≤ r
      · have hr := hide (hk.out.trans ((if_neg h12).trans (if_pos h3)))
        clear hk h12 h2
        go_enter Try.func144, Try.ntmps144
        go_wp2_with fail
        go_ret
        exact ⟨ret_int hr.out.symm, 0, rfl⟩
      · have hN := narrow_in r
        have hW := wide_in r
        by_cases h4 : r ∈ narrowL
        · have hr := hide (hk.out.trans ((if_neg h12).trans ((if_neg h3).trans (if_pos h4))))
          rw [decide_eq_true h4] at hN
          have HNN := hide hN
          clear hk h12 h2 hN hW h4
          go_enter Try.func144, Try.ntmps144
          go_wp2_with (first | (go_at_call 164; refine (ContainsRune_any narrowS r _ (by omega) (by omega) (by decide) HN.out).mono ?_; rintro e w1 ⟨rfl, k1, rfl⟩; rw [HNN.out]) | fail)
          go_ret
          exact ⟨ret_int hr.out.symm, _, rfl⟩
        · by_cases h5 : r ∈ wideL
          · have hr := hide (hk.out.trans ((if_neg h12).trans ((if_neg h3).trans ((if_neg h4).trans (if_pos h5)))))
            rw [decide_eq_false h4] at hN
            rw [decide_eq_true h5] at hW
            have HNN := hide hN
            have HWW := hide hW
            clear hk h12 h2 hN hW h4 h5
            go_enter Try.func144, Try.ntmps144
            go_wp2_with fail
            refine (ContainsRune_any narrowS r _ (by omega) (by omega) (by decide) HN.out).mono ?_
            rintro e w1 ⟨rfl, k1, rfl⟩
            rw [HNN.out]
            go_wp2_with fail
            refine (ContainsRune_any wideS' r _ (by omega) (by omega) (by decide) HW.out).mono ?_
            rintro e w1 ⟨rfl, k2, rfl⟩
            rw [HWW.out]
            go_wp2_with fail
            go_ret
            exact ⟨ret_int hr.out.symm, _, rfl⟩
          · have hr := hide (hk.out.trans ((if_neg h12).trans ((if_neg h3).trans ((if_neg h4).trans (if_neg h5)))))
            rw [decide_eq_false h4] at hN
            rw [decide_eq_false h5] at hW
            have HNN := hide hN
            have HWW := hide hW
            clear hk h12 h2 hN hW h4 h5
            go_enter Try.func144, Try.ntmps144
            go_wp2_with fail
            refine (ContainsRune_any narrowS r _ (by omega) (by omega) (by decide) HN.out).mono ?_
            rintro e w1 ⟨rfl, k1, rfl⟩
            rw [HNN.out]
            go_wp2_with fail
            refine (ContainsRune_any wideS' r _ (by omega) (by omega) (by decide) HW.out).mono ?_
            rintro e w1 ⟨rfl, k2, rfl⟩
            rw [HWW.out]
            go_wp2_with fail
            go_ret
            exact ⟨ret_int hr.out.symm, _, rfl⟩
theorem fcut_any (n : Int) (w : World) : Calls Try.prog 143 #[.int .i64 n] w fun e w' => e = .returned (.int .i64 (sizeF n)) ∧ w = w' := by
  have hk := hide (show sizeF n = max 0 (cut n) from rfl)
  go_enter Try.func143, Try.ntmps143
  go_wp2_with (go_at_call 28; refine (cut_any _ _).mono ?_; rintro e w' ⟨rfl, rfl⟩)
  go_ret
  exact ⟨ret_int hk.out.symm, rfl⟩
theorem Advance_any (r size : Int) (w : World) : Calls Try.prog 115 #[.int .i32 r, .int .i64 size] w fun e w' => e = .returned (.int .i64 (advF r size)) ∧ ∃ k, w' = w.drewN k := by
  have hk := hide (show advF r size = partOf (sizeF size) (fourthsF r) 4 from rfl)
  go_enter Try.func115, Try.ntmps115
  go_wp2_with (first | (go_at_call 143; refine (fcut_any _ _).mono ?_; rintro e w' ⟨rfl, rfl⟩) | (go_at_call 144; refine (fourths_any _ _).mono ?_; rintro e w' ⟨rfl, k1, rfl⟩) | (go_at_call 27; refine (part_any _ _ _ _ (by omega)).mono ?_; rintro e w' ⟨rfl, rfl⟩) | fail)
  go_ret
  exact ⟨ret_int hk.out.symm, _, rfl⟩
theorem Ascent_any (size : Int) (w : World) : Calls Try.prog 172 #[.int .i64 size] w fun e w' => e = .returned (.int .i64 (ascF size)) ∧ w = w' := by
  have hk := hide (show ascF size = partOf (sizeF size) 3 4 from rfl)
  go_enter Try.func172, Try.ntmps172
  go_wp2_with (first | (go_at_call 143; refine (fcut_any _ _).mono ?_; rintro e w' ⟨rfl, rfl⟩) | (go_at_call 27; refine (part_any _ _ _ _ (by omega)).mono ?_; rintro e w' ⟨rfl, rfl⟩) | fail)
  go_ret
  exact ⟨ret_int hk.out.symm, rfl⟩
end Go.Proofs.Ytadlabndbomgmaa
