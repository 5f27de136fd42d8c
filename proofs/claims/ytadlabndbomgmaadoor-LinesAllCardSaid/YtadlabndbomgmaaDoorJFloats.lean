/- Walks of the package floats. -/
import Derived.BigQuiet
import Derived.Handy
import Derived.Test.YtadlabndbomgmaaDoorJ1
import Derived.Test.YtadlabndbomgmaaDoorJ2
set_option linter.unusedVariables false
set_option linter.unusedSimpArgs false
namespace Go.Proofs.YtadlabndbomgmaaDoor
open Go.ChangeShapes Go.WideShapes Go.ChangeAt Go.RowKit
/-- The floats behind a pointer: block b is the struct, its slice a row of the call's own. -/
def FloatsAt (w : World) (B b : Nat) (width : Int) (fs : List Fl) : Prop :=
  ∃ A c, Blk w b 89 #[.int .i64 width, .slice A fs.length c] ∧ B ≤ b ∧ w.ownsRow B 153 5 (.slice A fs.length c) fs.length (flCells fs)
theorem FloatsAt.mk' {w : World} {B b n c : Nat} {A : Option Addr} {width : Int} {fs : List Fl} (h1 : Blk w b 89 #[.int .i64 width, .slice A n c]) (h2 : B ≤ b) (h3 : w.ownsRow B 153 5 (.slice A n c) n (flCells fs)) (hn : fs.length = n) : FloatsAt w B b width fs := by
  subst hn; exact ⟨A, c, h1, h2, h3⟩
theorem FloatsAt.below {w w' : World} {B b : Nat} {width : Int} {fs : List Fl} (h : FloatsAt w B b width fs) (hb : Below w.heap.size w w') : FloatsAt w' B b width fs := by
  obtain ⟨A, c, h1, h2, h3⟩ := h
  exact ⟨A, c, h1.below hb h1.lt, h2, own_keep h3 hb (own_lt h3)⟩
theorem floatCell {w : World} {B : Nat} {A : Option Addr} {c : Nat} {fs : List Fl} (h : w.ownsRow B 153 5 (.slice A fs.length c) fs.length (flCells fs)) {k : Nat} (hk : k < fs.length) :
    ∃ g, A = some ⟨g, 0, none⟩ ∧ B ≤ g ∧ g < w.heap.size ∧ w.cell? ⟨g, k * 5, none⟩ = some (.int .i64 fs[k].x) ∧ w.cell? ⟨g, k * 5 + 1, none⟩ = some (.int .i64 fs[k].y) ∧ w.cell? ⟨g, k * 5 + 2, none⟩ = some (.int .i64 fs[k].w) ∧ w.cell? ⟨g, k * 5 + 3, none⟩ = some (.int .i64 fs[k].h) ∧ w.cell? ⟨g, k * 5 + 4, none⟩ = some (.int .i64 fs[k].side) := by
  obtain ⟨g, cap, hv, hg, hlt⟩ := h.form (by omega)
  injection hv with hA _ _
  subst hA
  have hc : ∀ j, j < 5 → w.cell? ⟨g, k * 5 + j, none⟩ = fs[k].cells[j]? := fun j hj => by
    rw [h.cellAt _ (by omega), flCells_at fs k hk j hj]
  exact ⟨g, rfl, hg, hlt, hc 0 (by omega), hc 1 (by omega), hc 2 (by omega), hc 3 (by omega), hc 4 (by omega)⟩
set_option maxRecDepth 100000 in
theorem next_any (b : Nat) (B : Nat) (y width : Int) (fs : List Fl) (w : World) (hf : FloatsAt w B b width fs) (hn : fs.length ≤ 200) (hy : -16777216 ≤ y) (hy' : y ≤ 1000000000000) (hok : ∀ f ∈ fs, -16777216 ≤ f.y + f.h ∧ f.y + f.h ≤ 1000000000000) :
    Calls Tryd.prog 91 #[.pointer (some ⟨b, 0, none⟩), .int .i64 y] w fun e w' => e = .returned (.int .i64 (nextF y fs)) ∧ Below w.heap.size w w' := by
  obtain ⟨A, c, hb, hB, hown⟩ := hf
  have c0 : w.cell? ⟨b, 0, none⟩ = some (.int .i64 width) := hb.cell 0
  have c1 : w.cell? ⟨b, 1, none⟩ = some (.slice A fs.length c) := hb.cell 1
  have Hown := hide hown
  have Hok := hide hok
  clear hown hok
  go_enter Tryd.func91, Tryd.ntmps91
  go_wp2_with fail
  go_loopw [5, 7, 8, 14] (fun l p x i wr => ∃ k : Nat, k ≤ fs.length ∧ i = .int .i64 k ∧ l = .int .i64 (leastF y (fs.take k)) ∧ Below w.heap.size w wr) (fun _ _ _ i _ => fs.length - (intOf i).toNat)
  case atStart => exact ⟨0, Nat.zero_le _, rfl, rfl, Below.refl _ _⟩
  case round =>
    obtain ⟨k, hk, rfl, rfl, hbel⟩ := hrel
    by_cases hlt : k < fs.length
    · obtain ⟨g, rfl, _, hg, f0, f1, f2, f3, f4⟩ := floatCell Hown.out hlt
      have d0 := (hbel.cell (p := ⟨g, k * 5, none⟩) hg).trans f0
      have d1 := (hbel.cell (p := ⟨g, k * 5 + 1, none⟩) hg).trans f1
      have d2 := (hbel.cell (p := ⟨g, k * 5 + 2, none⟩) hg).trans f2
      have d3 := (hbel.cell (p := ⟨g, k * 5 + 3, none⟩) hg).trans f3
      have d4 := (hbel.cell (p := ⟨g, k * 5 + 4, none⟩) hg).trans f4
      have e1 := hide (leastF_take y fs k hlt)
      have ho := Hok.out fs[k] (List.getElem_mem hlt)
      generalize fs[k] = f at *
      obtain ⟨fx, fy, fw, fh, fsd⟩ := f
      clear f0 f1 f2 f3 f4
      dsimp only at d0 d1 d2 d3 d4 ho
      generalize leastF y (fs.take k) = l at *
      by_cases h1 : y < fy + fh
      · by_cases h2 : l < 0 ∨ fy + fh < l
        · have e2 := hide (show leastF y (fs.take (k + 1)) = fy + fh from by rw [e1.out]; unfold lstep; rw [if_pos ⟨h1, h2⟩])
          by_cases h3 : l < 0
          · have d2 := decide_eq_true h3
            clear h2
            go_wp2_with fail
            go_roundw
            case rel => exact ⟨k + 1, by omega, by go_num, by rw [e2.out], hbel.alloc hbel.size _⟩
            case measure => simp [intOf]; omega
          · have d2 := decide_eq_false h3
            have h4 : fy + fh < l := by omega
            clear h2
            go_wp2_with fail
            go_roundw
            case rel => exact ⟨k + 1, by omega, by go_num, by rw [e2.out], hbel.alloc hbel.size _⟩
            case measure => simp [intOf]; omega
        · have e2 := hide (show leastF y (fs.take (k + 1)) = l from by rw [e1.out]; unfold lstep; rw [if_neg (fun h => h2 h.2)])
          have h3 : ¬ l < 0 := by omega
          have h4 : ¬ fy + fh < l := by omega
          clear h2
          go_wp2_with fail
          go_roundw
          case rel => exact ⟨k + 1, by omega, by go_num, by rw [e2.out], hbel.alloc hbel.size _⟩
          case measure => simp [intOf]; omega
      · have e2 := hide (show leastF y (fs.take (k + 1)) = l from by rw [e1.out]; unfold lstep; rw [if_neg (fun h => h1 h.1)])
        go_wp2_with fail
        go_roundw
        case rel => exact ⟨k + 1, by omega, by go_num, by rw [e2.out], hbel.alloc hbel.size _⟩
        case measure => simp [intOf]; omega
    · have hk2 : k = fs.length := by omega
      have hfin := hide (show nextF y fs = max (leastF y fs) (y + 1) from rfl)
      subst hk2
      go_wp2
      go_ret
      exact ⟨ret_int (by rw [hfin.out]), hbel⟩
theorem floatMet_any (x y wd h sd Y H : Int) (w : World) (b1 : -4611686018427387904 ≤ y ∧ y ≤ 4611686018427387904) (b2 : 0 ≤ h ∧ h ≤ 16777216) (b3 : -4611686018427387904 ≤ Y ∧ Y ≤ 4611686018427387904) (b4 : H ≤ 16777216) :
    Calls Tryd.prog 108 #[.agg #[.int .i64 x, .int .i64 y, .int .i64 wd, .int .i64 h, .int .i64 sd], .int .i64 Y, .int .i64 H] w fun e w' => e = .returned (.bool (metF Y H ⟨x, y, wd, h, sd⟩)) ∧ Below w.heap.size w w' := by
  have hm := hide (show metF Y H ⟨x, y, wd, h, sd⟩ = (decide (0 < h) && decide (y < Y + max 1 H) && decide (Y < y + h)) from rfl)
  cases h1 : decide (0 < h) <;> cases h2 : decide (y < Y + max 1 H) <;> cases h3 : decide (Y < y + h)
  all_goals
    have hr := hide (hm.out.trans (by rw [h1, h2, h3]))
    clear hm
    go_enter Tryd.func108, Tryd.ntmps108
    go_wp2
    go_ret
    exact ⟨ret_bool (by rw [hr.out]; rfl), (Below.refl _ _).alloc (Nat.le_refl _) _⟩
/-- The bounds under which the walks of the rectangles go. -/
def FlBd (f : Fl) : Prop := (-16777216 ≤ f.x ∧ f.x ≤ 16777216 ∧ 0 ≤ f.w ∧ f.w ≤ 16777216) ∧ (-16777216 ≤ f.y ∧ f.y ≤ 1000000000000) ∧ 0 ≤ f.h ∧ f.h ≤ 16777216
set_option maxRecDepth 100000 in
theorem edges_any (b : Nat) (B : Nat) (y h width : Int) (fs : List Fl) (w : World) (hf : FloatsAt w B b width fs) (hn : fs.length ≤ 200) (hy : -16777216 ≤ y) (hy' : y ≤ 1000000000000) (hh : h ≤ 16777216)
    (hok : ∀ f ∈ fs, FlBd f) :
    Calls Tryd.prog 90 #[.pointer (some ⟨b, 0, none⟩), .int .i64 y, .int .i64 h] w fun e w' =>
      e = .returned (.tuple #[.int .i64 (edgesF width y h fs).1, .int .i64 (edgesF width y h fs).2.1, .bool (edgesF width y h fs).2.2]) ∧ Below w.heap.size w w' := by
  obtain ⟨A, c, hb, hB, hown⟩ := hf
  have c0 : w.cell? ⟨b, 0, none⟩ = some (.int .i64 width) := hb.cell 0
  have c1 : w.cell? ⟨b, 1, none⟩ = some (.slice A fs.length c) := hb.cell 1
  have Hown := hide hown
  have Hok := hide hok
  clear hown hok
  go_enter Tryd.func90, Tryd.ntmps90
  go_wp2_with fail
  go_loopw [6, 7, 8, 10, 20] (fun l r m p i wr => ∃ k : Nat, k ≤ fs.length ∧ i = .int .i64 k ∧ l = .int .i64 (edgesF width y h (fs.take k)).1 ∧ r = .int .i64 (edgesF width y h (fs.take k)).2.1 ∧ m = .bool (edgesF width y h (fs.take k)).2.2 ∧ Below w.heap.size w wr) (fun _ _ _ _ i _ => fs.length - (intOf i).toNat)
  case atStart => exact ⟨0, Nat.zero_le _, rfl, rfl, rfl, rfl, Below.refl _ _⟩
  case round =>
    obtain ⟨k, hk, rfl, rfl, rfl, rfl, hbel⟩ := hrel
    by_cases hlt : k < fs.length
    · obtain ⟨g, rfl, _, hg, f0, f1, f2, f3, f4⟩ := floatCell Hown.out hlt
      have d0 := (hbel.cell (p := ⟨g, k * 5, none⟩) hg).trans f0
      have d1 := (hbel.cell (p := ⟨g, k * 5 + 1, none⟩) hg).trans f1
      have d2 := (hbel.cell (p := ⟨g, k * 5 + 2, none⟩) hg).trans f2
      have d3 := (hbel.cell (p := ⟨g, k * 5 + 3, none⟩) hg).trans f3
      have d4 := (hbel.cell (p := ⟨g, k * 5 + 4, none⟩) hg).trans f4
      have e1 := hide (edgesF_take width y h fs k hlt)
      obtain ⟨⟨o1, o2, o3, o4⟩, ⟨o5, o6⟩, o7, o8⟩ := Hok.out fs[k] (List.getElem_mem hlt)
      generalize fs[k] = f at *
      obtain ⟨fx, fy, fw, fh, fsd⟩ := f
      clear f0 f1 f2 f3 f4
      dsimp only at d0 d1 d2 d3 d4 o1 o2 o3 o4 o5 o6 o7 o8
      generalize edgesF width y h (fs.take k) = s at *
      obtain ⟨l, r, m⟩ := s
      have hsz := hbel.size
      cases hm : metF y h ⟨fx, fy, fw, fh, fsd⟩
      · have e2 := hide (show edgesF width y h (fs.take (k + 1)) = (l, r, m) from by rw [e1.out]; unfold estep; rw [hm]; rfl)
        clear e1
        go_wp2_with (go_at_call 108; refine (floatMet_any _ _ _ _ _ _ _ _ (by omega) (by omega) (by omega) (by omega)).mono ?_; rintro e w1 ⟨rfl, hb1⟩; rw [hm])
        go_roundw
        case rel => exact ⟨k + 1, by omega, by go_num, by rw [e2.out], by rw [e2.out], by rw [e2.out], below_then (hbel.alloc hsz _) (Nat.le_refl _) hb1⟩
        case measure => simp [intOf]; omega
      · cases hs : (fsd == 1)
        · have e2 := hide (show edgesF width y h (fs.take (k + 1)) = (l, min r fx, true) from by rw [e1.out]; unfold estep; rw [hm]; simp only [if_true, hs, Bool.false_eq_true, if_false])
          clear e1
          go_wp2_with (go_at_call 108; refine (floatMet_any _ _ _ _ _ _ _ _ (by omega) (by omega) (by omega) (by omega)).mono ?_; rintro e w1 ⟨rfl, hb1⟩; rw [hm]; have q0 : w1.cell? ⟨wr.heap.size, 0, none⟩ = some (.int .i64 fx) := box_cell hb1 (by simp) 0; have q2 : w1.cell? ⟨wr.heap.size, 2, none⟩ = some (.int .i64 fw) := box_cell hb1 (by simp) 2; have q4 : w1.cell? ⟨wr.heap.size, 4, none⟩ = some (.int .i64 fsd) := box_cell hb1 (by simp) 4)
          go_roundw
          case rel => exact ⟨k + 1, by omega, by go_num, by rw [e2.out], by rw [e2.out], by rw [e2.out], below_then (hbel.alloc hsz _) (Nat.le_refl _) hb1⟩
          case measure => simp [intOf]; omega
        · have e2 := hide (show edgesF width y h (fs.take (k + 1)) = (max l (fx + fw), r, true) from by rw [e1.out]; unfold estep; rw [hm]; simp only [if_true, hs])
          clear e1
          go_wp2_with (go_at_call 108; refine (floatMet_any _ _ _ _ _ _ _ _ (by omega) (by omega) (by omega) (by omega)).mono ?_; rintro e w1 ⟨rfl, hb1⟩; rw [hm]; have q0 : w1.cell? ⟨wr.heap.size, 0, none⟩ = some (.int .i64 fx) := box_cell hb1 (by simp) 0; have q2 : w1.cell? ⟨wr.heap.size, 2, none⟩ = some (.int .i64 fw) := box_cell hb1 (by simp) 2; have q4 : w1.cell? ⟨wr.heap.size, 4, none⟩ = some (.int .i64 fsd) := box_cell hb1 (by simp) 4)
          go_roundw
          case rel => exact ⟨k + 1, by omega, by go_num, by rw [e2.out], by rw [e2.out], by rw [e2.out], below_then (hbel.alloc hsz _) (Nat.le_refl _) hb1⟩
          case measure => simp [intOf]; omega
    · have hk2 : k = fs.length := by omega
      have ht : fs.take k = fs := List.take_of_length_le (by omega)
      rw [ht]
      subst hk2
      clear ht
      generalize hE : edgesF width y h fs = s at *
      obtain ⟨l, r, m⟩ := s
      have E := hide hE
      clear hE
      go_wp2
      go_ret3
      exact ⟨ret_iib (by rw [E.out]) (by rw [E.out]) (by rw [E.out]), hbel⟩
theorem Edges_any (b : Nat) (B : Nat) (y h width : Int) (fs : List Fl) (w : World) (hf : FloatsAt w B b width fs) (hn : fs.length ≤ 200) (hok : ∀ f ∈ fs, FlBd f) :
    Calls Tryd.prog 64 #[.pointer (some ⟨b, 0, none⟩), .int .i64 y, .int .i64 h] w fun e w' =>
      e = .returned (.tuple #[.int .i64 (edgesF width (cut y) (cut h) fs).1, .int .i64 (edgesF width (cut y) (cut h) fs).2.1]) ∧ Below w.heap.size w w' := by
  have Hok := hide hok
  clear hok
  have b1 := cut_lo y
  have b2 := cut_hi y
  have b3 := cut_hi h
  go_enter Tryd.func64, Tryd.ntmps64
  go_wp2_with (first | (go_at_call 13; refine (cut_any _ _).mono ?_; rintro e w' ⟨rfl, rfl⟩) | (go_at_call 90; refine (edges_any b B (cut y) (cut h) width fs _ hf hn (by omega) (by omega) (by omega) Hok.out).mono ?_; rintro e w1 ⟨rfl, hb1⟩))
  go_ret2
  exact ⟨rfl, hb1⟩
theorem fWidth_any (b : Nat) (B : Nat) (width : Int) (fs : List Fl) (w : World) (hf : FloatsAt w B b width fs) :
    Calls Tryd.prog 72 #[.pointer (some ⟨b, 0, none⟩)] w fun e w' => e = .returned (.int .i64 width) ∧ w = w' := by
  obtain ⟨A, c, hb, hB, hown⟩ := hf
  have c0 : w.cell? ⟨b, 0, none⟩ = some (.int .i64 width) := hb.cell 0
  clear hown
  go_enter Tryd.func72, Tryd.ntmps72
  go_wp2
  go_ret
  exact ⟨rfl, rfl⟩
theorem New_any (width : Int) (w : World) :
    Calls Tryd.prog 20 #[.int .i64 width] w fun e w' => e = .returned (.pointer (some ⟨w.heap.size, 0, none⟩)) ∧ FloatsAt w' w.heap.size w.heap.size (max 0 (cut width)) [] ∧ Below w.heap.size w w' := by
  go_enter Tryd.func20, Tryd.ntmps20
  go_wp2_with (go_at_call 13; refine (cut_any _ _).mono ?_; rintro e w' ⟨rfl, rfl⟩)
  go_ret
  exact ⟨rfl, ⟨none, 0, Blk.new w _ _, Nat.le_refl _, own_none _ _ _ _⟩, (Below.refl _ _).alloc (Nat.le_refl _) _⟩
end Go.Proofs.YtadlabndbomgmaaDoor
