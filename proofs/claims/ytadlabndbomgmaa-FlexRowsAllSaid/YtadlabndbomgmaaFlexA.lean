/- Walks of the package flex: what is told of one item; items. -/
import Derived.BigQuiet
import Derived.Handy
import Derived.IntWalk
import Derived.Deep.MidRow
import Derived.Deep.RegionHeld3
import Derived.Test.YtadlabndbomgmaaItemsPlain
import Derived.Test.YtadlabndbomgmaaFix
import Derived.Test.YtadlabndbomgmaaOpen
namespace Go.Proofs.Ytadlabndbomgmaa
open Go.ChangeShapes Go.WideShapes Go.ChangeAt Go.RowKit
theorem bound1_any (n : Int) (w : World) : Calls Try.prog 125 #[.int .i64 n] w fun e w' => e = .returned (.int .i64 (min (max n 0) 1000000)) ∧ w = w' := by
  go_enter Try.func125, Try.ntmps125
  go_wp2
  go_ret
  exact ⟨rfl, rfl⟩
theorem between_any (n le mo : Int) (w : World) : Calls Try.prog 58 #[.int .i64 n, .int .i64 le, .int .i64 mo] w fun e w' => e = .returned (.int .i64 (betw n le mo)) ∧ w = w' := by
  have hk := Lib.hid (show betw n le mo = max (if 0 ≤ mo then min (cut n) (cut mo) else cut n) (cut le) from rfl)
  by_cases h : 0 ≤ mo
  · have hr := hide (show betw n le mo = max (min (cut n) (cut mo)) (cut le) from by rw [hk.out, if_pos h])
    clear hk
    go_enter Try.func58, Try.ntmps58
    go_wp2_with (go_at_call 28; refine (cut_any _ _).mono ?_; rintro e w' ⟨rfl, rfl⟩)
    go_ret
    exact ⟨ret_int (by rw [hr.out]), rfl⟩
  · have hr := hide (show betw n le mo = max (cut n) (cut le) from by rw [hk.out, if_neg h])
    clear hk
    go_enter Try.func58, Try.ntmps58
    go_wp2_with (go_at_call 28; refine (cut_any _ _).mono ?_; rintro e w' ⟨rfl, rfl⟩)
    go_ret
    exact ⟨ret_int (by rw [hr.out]), rfl⟩
theorem near_any (a b : Int) (w : World) (h1 : -4611686018427387904 ≤ a ∧ a ≤ 4611686018427387904) (h2 : -4611686018427387904 ≤ b ∧ b ≤ 4611686018427387904) : Calls Try.prog 128 #[.int .i64 a, .int .i64 b] w fun e w' => e = .returned (.int .i64 (nearO a b)) ∧ w = w' := by
  have hk := Lib.hid (show nearO a b = if max b (-b) < max a (-a) then b else a from rfl)
  by_cases h : max b (-b) < max a (-a)
  · have hr := hide (show nearO a b = b from by rw [hk.out, if_pos h])
    clear hk
    go_enter Try.func128, Try.ntmps128
    go_wp2_with fail
    go_ret
    exact ⟨ret_int (by rw [hr.out]), rfl⟩
  · have hr := hide (show nearO a b = a from by rw [hk.out, if_neg h])
    clear hk
    go_enter Try.func128, Try.ntmps128
    go_wp2_with fail
    go_ret
    exact ⟨ret_int (by rw [hr.out]), rfl⟩
/-- An item as a value. -/
def itA (x : Fx) (set : Bool) (is : Int) : Array Value := (itC x set is).toArray
theorem mains1_any (x : Fx) (set : Bool) (is : Int) (w : World) : Calls Try.prog 90 #[.agg #[.int .i64 x.b, .int .i64 x.le, .int .i64 x.mo, .int .i64 x.g, .int .i64 x.s, .int .i64 x.e, .int .i64 x.lng, .bool set, .int .i64 is]] w fun e w' => e = .returned (.int .i64 x.lng) ∧ Below w.heap.size w w' := by
  generalize x.lng = lg at *
  go_enter Try.func90, Try.ntmps90
  go_wp2
  go_ret
  exact ⟨rfl, by go_grown⟩
theorem mains2_any (x : Fx) (set : Bool) (is : Int) (w : World) : Calls Try.prog 94 #[.agg #[.int .i64 x.b, .int .i64 x.le, .int .i64 x.mo, .int .i64 x.g, .int .i64 x.s, .int .i64 x.e, .int .i64 x.lng, .bool set, .int .i64 is]] w fun e w' => e = .returned (.bool (!set)) ∧ Below w.heap.size w w' := by
  go_enter Try.func94, Try.ntmps94
  go_wp2
  go_ret
  exact ⟨rfl, by go_grown⟩
theorem now1_any (x : Fx) (set : Bool) (is : Int) (w : World) : Calls Try.prog 126 #[.agg #[.int .i64 x.b, .int .i64 x.le, .int .i64 x.mo, .int .i64 x.g, .int .i64 x.s, .int .i64 x.e, .int .i64 x.lng, .bool set, .int .i64 is]] w fun e w' => e = .returned (.int .i64 (if set then is else x.b)) ∧ Below w.heap.size w w' := by
  cases set
  all_goals
    go_enter Try.func126, Try.ntmps126
    go_wp2
    go_ret
    exact ⟨rfl, by go_grown⟩
theorem factor_any (x : Fx) (set : Bool) (is : Int) (rb : Nat) (grows : Bool) (w : World) (hg : w.cell? ⟨rb, 2, none⟩ = some (.bool grows)) :
    Calls Try.prog 91 #[.pointer (some ⟨rb, 0, none⟩), .agg #[.int .i64 x.b, .int .i64 x.le, .int .i64 x.mo, .int .i64 x.g, .int .i64 x.s, .int .i64 x.e, .int .i64 x.lng, .bool set, .int .i64 is]] w fun e w' => e = .returned (.int .i64 (facO grows x)) ∧ Below w.heap.size w w' := by
  have hl := cell_lt hg
  have := World.new_ne w _ hg
  cases grows
  all_goals
    go_enter Try.func91, Try.ntmps91
    go_wp2
    go_ret
    exact ⟨rfl, by go_grown⟩
theorem it_info : (Try.prog.info? 149).map (fun i => (i.zero, i.size, i.bytes)) = some (some (.agg #[.int .i64 0, .int .i64 0, .int .i64 0, .int .i64 0, .int .i64 0, .int .i64 0, .int .i64 0, .bool false, .int .i64 0]), 9, 72) := by kernel_rfl
theorem fx_info : (Try.prog.info? 81).map (fun i => (i.zero, i.size, i.bytes)) = some (some (.agg #[.int .i64 0, .int .i64 0, .int .i64 0, .int .i64 0, .int .i64 0, .int .i64 0]), 6, 48) := by kernel_rfl
theorem made_its (xs : List Fx) : madeCells #[.int .i64 0, .int .i64 0, .int .i64 0, .int .i64 0, .int .i64 0, .int .i64 0, .int .i64 0, .bool false, .int .i64 0] (xs.length * 9) = (itTo xs 0).toArray := by
  apply Array.ext'
  apply List.ext_getElem?
  intro q
  have hl : (madeCells #[.int .i64 0, .int .i64 0, .int .i64 0, .int .i64 0, .int .i64 0, .int .i64 0, .int .i64 0, .bool false, .int .i64 0] (xs.length * 9)).toList.length = xs.length * 9 := by simp [madeCells]
  rw [List.toList_toArray]
  by_cases hq : q < xs.length * 9
  · have e : q = q / 9 * 9 + q % 9 := by omega
    have h1 := flat_get (fun i => if i < 0 then itC (fxAt xs i) false 0 else it0) 9 xs.length (fun i _ => by split <;> rfl) (q / 9) (q % 9) (by omega) (by omega)
    rw [← e] at h1
    have h2 : (itTo xs 0)[q]? = it0[q % 9]? := h1.trans (by rw [if_neg (Nat.not_lt_zero _)])
    rw [h2]
    have h3 : q % 9 < 9 := by omega
    simp only [madeCells, Array.getElem?_toList, Array.getElem?_map, Array.getElem?_range, hq, if_true, Option.map_some]
    have h4 : ∀ r, r < 9 → some ((#[.int .i64 0, .int .i64 0, .int .i64 0, .int .i64 0, .int .i64 0, .int .i64 0, .int .i64 0, .bool false, .int .i64 0] : Array Value)[r]!) = it0[r]? := fun r hr => by
      have : r = 0 ∨ r = 1 ∨ r = 2 ∨ r = 3 ∨ r = 4 ∨ r = 5 ∨ r = 6 ∨ r = 7 ∨ r = 8 := by omega
      rcases this with rfl | rfl | rfl | rfl | rfl | rfl | rfl | rfl | rfl <;> rfl
    exact h4 _ h3
  · rw [List.getElem?_eq_none (by rw [hl]; omega), List.getElem?_eq_none (by rw [itTo_len]; omega)]
theorem fxCell {w : World} {B c : Nat} {A : Option Addr} {xs : List Fx} (h : w.ownsRow B 81 6 (.slice A xs.length c) xs.length (fxCells xs)) {k : Nat} (hk : k < xs.length) :
    ∃ g, A = some ⟨g, 0, none⟩ ∧ B ≤ g ∧ g < w.heap.size ∧ ∀ j, j < 6 → w.cell? ⟨g, k * 6 + j, none⟩ = (fxC (fxAt xs k))[j]? := by
  obtain ⟨g, cap, hv, hg, hlt⟩ := h.form (by omega)
  injection hv with hA _ _
  subst hA
  exact ⟨g, rfl, hg, hlt, fun j hj => by rw [h.cellAt _ (by omega)]; exact fxCells_at xs k j hk hj⟩
theorem cut_ok {x : Fx} (h : x.ok) : cut x.b = x.b ∧ cut x.le = x.le ∧ cut x.mo = x.mo ∧ cut x.e = x.e ∧ min (max x.g 0) 1000000 = x.g ∧ min (max x.s 0) 1000000 = x.s ∧ max 0 x.le = x.le := by
  unfold Fx.ok at h
  unfold cut
  omega
end Go.Proofs.Ytadlabndbomgmaa
