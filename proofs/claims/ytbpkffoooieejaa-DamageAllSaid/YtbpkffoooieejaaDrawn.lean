/- The closed fact of the law of pixels: one fill, two pixels. -/
import Derived.BigQuiet
import Derived.Handy
import Derived.IntWalk
import Derived.Deep.QuietTactic
import Derived.Test.YtbpkffoooieejaaDraw
import Derived.Test.YtbpkffoooieejaaEq
namespace Go.Proofs.Ytbpkffoooieejaa
open Go.ChangeShapes Go.WideShapes Go.ChangeAt Go.RowKit
def oneFill : List Cm := [⟨1, 0, 0, 0, 64, 64, 255, 0, ByteArray.empty⟩]
theorem oneFill_draw : drawE oneFill 2 1 = (0, [255, 4294967295]) := by kernel_rfl
def two : List Int := [255, 4294967295]
theorem two_map : two.map (Value.int .i64) = [.int .i64 255, .int .i64 4294967295] := rfl
theorem Eq_same (A A2 : Option Addr) (n c c2 B B2 : Nat) (xs : List Int) (w : World) (hr : Reads w B 1 A n (xs.map (Value.int .i64))) (hr2 : Reads w B2 1 A2 n (xs.map (Value.int .i64))) (hn : n ≤ 1000000) :
    Calls Try.prog 16 #[.slice A n c, .slice A2 n c2] w fun e w' => e = .returned (.bool true) ∧ w = w' :=
  (Eq_any A A2 n n c c2 B B2 xs xs w hr hr2 hn hn).mono fun e w' ⟨he, hw⟩ => ⟨by rw [he, decide_eq_true rfl], hw⟩
set_option maxRecDepth 100000 in
set_option maxHeartbeats 4000000 in
theorem drawn_any (w : World) : Calls Try.prog 12 #[] w fun e w' => e = .returned (.bool true) ∧ Below w.heap.size w w' := by
  have HD := hide (show drawE oneFill 2 1 = (0, two) from oneFill_draw)
  have HN := hide (show (2 : Nat) ≤ 1000000 by omega)
  go_enter Try.func12, Try.ntmps12
  go_wp2_with fail
  have hB := Blk.new w 43 #[.int .i64 1, .int .i64 0, .int .i64 0, .int .i64 0, .int .i64 64, .int .i64 64, .int .i64 255, .int .i64 0, .string ByteArray.empty]
  have hown := own_of_blk (base := w.heap.size) (size := 9) (n := 1) hB (Nat.le_refl _) (by simp only [maxLen]; omega) rfl
  refine (Draw_any oneFill 2 1 w.heap.size 1 (some ⟨w.heap.size, 0, none⟩) _ (by decide) (fun x hx => by simp [oneFill] at hx; subst hx; decide) hown).mono ?_
  clear hown hB
  rintro e w1 ⟨v, he, hown1, hb1⟩
  rw [HD.out] at he hown1
  subst he
  obtain ⟨X, cx, rfl, _, hx⟩ := own_reads hown1
  have HR := hide (show Reads (w1.alloc (.cells #[.int .i64 255, .int .i64 4294967295] 3)) w1.heap.size 1 X 2 (two.map (Value.int .i64)) from hx.alloc (Nat.le_refl _) (.cells #[.int .i64 255, .int .i64 4294967295] 3))
  have HL := hide (show Reads (w1.alloc (.cells #[.int .i64 255, .int .i64 4294967295] 3)) (w1.heap.size + 1) 1 (some ⟨w1.heap.size, 0, none⟩) 2 (two.map (Value.int .i64)) from Reads.lit w1 3 #[.int .i64 255, .int .i64 4294967295] 1 2 rfl)
  have hb2 : Below w.heap.size w (w1.alloc (.cells #[.int .i64 255, .int .i64 4294967295] 3)) := ((Below.refl _ _).alloc (Nat.le_refl _) _).trans ((hb1.mono (by simp)).alloc (by have := hb1.size; simp at this; omega) _)
  clear hown1 hx hb1 HD
  rw [show two.length = 2 from rfl]
  go_wp2_with (first | (go_at_call 16; refine (Eq_same X (some ⟨w1.heap.size, 0, none⟩) 2 cx 2 _ _ two _ HR.out HL.out HN.out).mono ?_; rintro e w' ⟨rfl, rfl⟩) | fail)
  go_ret
  exact ⟨rfl, hb2⟩
end Go.Proofs.Ytbpkffoooieejaa
