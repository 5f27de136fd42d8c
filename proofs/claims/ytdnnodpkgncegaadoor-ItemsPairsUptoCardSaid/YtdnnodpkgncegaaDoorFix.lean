/- Walks of the package fix: what Cut, floor, Part return. -/
import Derived.Test.YtdnnodpkgncegaaDoorProg
import Derived.Test.YtdnnodpkgncegaaDoorPlain
import Derived.Test.YtdnnodpkgncegaaDoorKit
namespace Go.Proofs.YtdnnodpkgncegaaDoor
open Go.ChangeShapes Go.WideShapes Go.ChangeAt Go.RowKit
theorem cut_any (n : Int) (w : World) : Calls Tryd.prog 10 #[.int .i64 n] w fun e w' => e = .returned (.int .i64 (cut n)) ∧ w = w' := by
  go_enter Tryd.func10, Tryd.ntmps10
  go_wp2
  go_ret
  exact ⟨rfl, rfl⟩
theorem floor_any (n d : Int) (w : World) (h1 : -9223372036854775808 < n) (h2 : n ≤ 9223372036854775807) (hd : 1 ≤ d) (hd' : d ≤ 9223372036854775807) : Calls Tryd.prog 18 #[.int .i64 n, .int .i64 d] w fun e w' => e = .returned (.int .i64 (n / d)) ∧ w = w' := by
  have hdd : decide (d < 0) = false := by simp; omega
  by_cases hn : 0 ≤ n
  · have hnn : decide (n < 0) = false := by simp; omega
    go_enter Tryd.func18, Tryd.ntmps18
    go_wp2_with fail
    all_goals (go_ret; exact ⟨rfl, rfl⟩)
  · have hnn : decide (n < 0) = true := by simp; omega
    have hb := tdiv_bd hd h1 h2
    by_cases hm : n.tmod d = 0
    · have e := tdiv_exact hd hm
      have E := Lib.hid e
      have hm1 : (n.tmod d != 0) = false := by simp [hm]
      clear e hm
      go_enter Tryd.func18, Tryd.ntmps18
      go_wp2_with fail
      all_goals (go_ret; exact ⟨ret_int E.out, rfl⟩)
    · have e := tdiv_down hd (by omega) hm
      have hm1 : (n.tmod d != 0) = true := by simp [hm]
      have hb1 : -9223372036854775808 ≤ n.tdiv d - 1 := by omega
      have hb2 : n.tdiv d - 1 ≤ 9223372036854775807 := by omega
      have E := Lib.hid e
      clear e hm
      go_enter Tryd.func18, Tryd.ntmps18
      go_wp2_with fail
      all_goals (go_ret; exact ⟨ret_int E.out, rfl⟩)
theorem part_any (n up down : Int) (w : World) (hd : 1 ≤ down) : Calls Tryd.prog 11 #[.int .i64 n, .int .i64 up, .int .i64 down] w fun e w' => e = .returned (.int .i64 (partOf n up down)) ∧ w = w' := by
  have hb := cut_mul_bound n up
  have hc : 1 ≤ cut down := by unfold cut; omega
  have hc' := cut_hi down
  have e0 : cut n * cut up / cut down = cut n * cut up / cut down := rfl
  go_enter Tryd.func11, Tryd.ntmps11
  go_wp2_with (first | (go_at_call 10; refine (cut_any _ _).mono ?_; rintro e w' ⟨rfl, rfl⟩) | (go_at_call 18; refine (floor_any _ _ _ (by omega) (by omega) (by omega) (by omega)).mono ?_; rintro e w' ⟨rfl, rfl⟩))
  all_goals (go_ret)
  exact ⟨rfl, rfl⟩

theorem int_info : (Tryd.prog.info? 3).map (fun i => (i.zero, i.size, i.bytes)) = some (some (.int .i64 0), 1, 8) := by kernel_rfl
end Go.Proofs.YtdnnodpkgncegaaDoor
