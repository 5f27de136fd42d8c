/- The walks of damage.within: does some rectangle hold a point? -/
import Derived.BigQuiet
import Derived.Handy
import Derived.IntWalk
import Derived.Deep.MidRow
import Derived.Test.YtbpkffoooieejaaCut
namespace Go.Proofs.Ytbpkffoooieejaa
open Go.ChangeShapes Go.WideShapes Go.ChangeAt Go.RowKit
def withinF (l : List Rc) (x y : Int) : Bool := l.any fun r => inR r x y
theorem within_some {l : List Rc} {x y : Int} {k : Nat} (hk : k < l.length) (h : inR (rcAt l k) x y = true) : withinF l x y = true := by
  rw [rcAt_of l k hk] at h
  exact List.any_eq_true.2 ⟨l[k], List.getElem_mem hk, h⟩
theorem within_no {l : List Rc} {x y : Int} (h : ∀ k, k < l.length → inR (rcAt l k) x y = false) : withinF l x y = false := by
  unfold withinF
  rw [List.any_eq_false]
  intro r hr
  obtain ⟨k, hk, rfl⟩ := List.getElem_of_mem hr
  have := h k hk
  rw [rcAt_of l k hk] at this
  rw [this]; simp
theorem rcCell {w : World} {B c : Nat} {A : Option Addr} {l : List Rc} (h : w.ownsRow B 36 4 (.slice A l.length c) l.length (rcCells l)) {k : Nat} (hk : k < l.length) :
    ∃ g, A = some ⟨g, 0, none⟩ ∧ B ≤ g ∧ g < w.heap.size ∧ ∀ j, j < 4 → w.cell? ⟨g, k * 4 + j, none⟩ = (rcA (rcAt l k))[j]? := by
  obtain ⟨g, cap, hv, hg, hlt⟩ := h.form (by omega)
  injection hv with hA _ _
  subst hA
  exact ⟨g, rfl, hg, hlt, fun j hj => by rw [h.cellAt _ (by omega)]; exact rcCells_at l k j hk hj⟩
def RcTame (l : List Rc) : Prop := ∀ k, Tame (rcAt l k).x ∧ Tame (rcAt l k).y
set_option maxHeartbeats 2000000 in
theorem within1_any (r : Rc) (x y : Int) (bx by_ : Nat) (w : World) (hcx : w.cell? ⟨bx, 0, none⟩ = some (.int .i64 x)) (hcy : w.cell? ⟨by_, 0, none⟩ = some (.int .i64 y)) (hx : Tame x) (hy : Tame y) (hrx : Tame r.x) (hry : Tame r.y) :
    Calls Try.prog 47 #[.agg #[.int .i64 r.x, .int .i64 r.y, .int .i64 r.w, .int .i64 r.h], .pointer (some ⟨bx, 0, none⟩), .pointer (some ⟨by_, 0, none⟩)] w fun e w' => e = .returned (.bool (inR r x y)) ∧ Below w.heap.size w w' := by
  unfold Tame at *
  have hlx := cell_lt hcx
  have hly := cell_lt hcy
  have hk := hide (show inR r x y = (((decide (r.x ≤ x) && decide (x - r.x < r.w)) && decide (r.y ≤ y)) && decide (y - r.y < r.h)) from rfl)
  obtain ⟨rx, ry, rw_, rh⟩ := r
  dsimp only at hx hy hrx hry
  generalize hres : inR ⟨rx, ry, rw_, rh⟩ x y = res at *
  have hk2 : Hid (res = (((decide (rx ≤ x) && decide (x - rx < rw_)) && decide (ry ≤ y)) && decide (y - ry < rh))) := hk
  clear hk hres
  cases h1 : decide (rx ≤ x) <;> cases h2 : decide (x - rx < rw_) <;> cases h3 : decide (ry ≤ y) <;> cases h4 : decide (y - ry < rh)
  all_goals
    have hr := hide (hk2.out.trans (by rw [h1, h2, h3, h4]))
    clear hk2
    go_enter Try.func47, Try.ntmps47
    go_wp2_with fail
    go_ret
    exact ⟨ret_bool (by rw [hr.out]; rfl), by go_grown⟩
set_option maxRecDepth 100000 in
set_option maxHeartbeats 1000000 in
theorem indexR_any (l : List Rc) (x y : Int) (bx by_ B c : Nat) (A : Option Addr) (w : World) (hcx : w.cell? ⟨bx, 0, none⟩ = some (.int .i64 x)) (hcy : w.cell? ⟨by_, 0, none⟩ = some (.int .i64 y)) (hx : Tame x) (hy : Tame y) (ht : RcTame l) (hn : l.length ≤ 1000)
    (ho : w.ownsRow B 36 4 (.slice A l.length c) l.length (rcCells l)) :
    Calls Try.prog 53 #[.slice A l.length c, .func (.func 47) #[] #[.pointer (some ⟨bx, 0, none⟩), .pointer (some ⟨by_, 0, none⟩)]] w fun e w' => ∃ i : Int, e = .returned (.int .i64 i) ∧ decide (0 ≤ i) = withinF l x y ∧ Below w.heap.size w w' := by
  have HO := hide ho
  have HCX := hide hcx
  have HCY := hide hcy
  have HT := hide ht
  have hlx := cell_lt hcx
  have hly := cell_lt hcy
  clear ho hcx hcy ht
  go_enter Try.func53, Try.ntmps53
  go_wp2_with fail
  go_loopw [8] (fun i wr => ∃ k : Nat, k ≤ l.length ∧ i = .int .i64 k ∧ Hid (∀ i, i < k → inR (rcAt l i) x y = false) ∧ Below w.heap.size w wr) (fun i _ => l.length - (intOf i).toNat)
  case atStart => exact ⟨0, Nat.zero_le _, rfl, hide (fun i hi => absurd hi (Nat.not_lt_zero _)), Below.refl _ _⟩
  case round =>
    obtain ⟨k, hk, rfl, hall, hbel⟩ := hrel
    by_cases hlt : k < l.length
    · obtain ⟨g, rfl, _, hg, hc⟩ := rcCell HO.out hlt
      have cc : ∀ j, j < 4 → wr.cell? ⟨g, k * 4 + j, none⟩ = (rcA (rcAt l k))[j]? := fun j hj => (hbel.cell (p := ⟨g, k * 4 + j, none⟩) hg).trans (hc j hj)
      have htk := HT.out k
      have HX := hide ((hbel.cell (p := ⟨bx, 0, none⟩) hlx).trans HCX.out)
      have HY := hide ((hbel.cell (p := ⟨by_, 0, none⟩) hly).trans HCY.out)
      have HF := hide (show inR (rcAt l k) x y = false → ∀ i, i < k + 1 → inR (rcAt l i) x y = false from fun h i hi => by
        by_cases e : i = k
        · subst e; exact h
        · exact hall.out i (by omega))
      have HG := hide (show inR (rcAt l k) x y = true → withinF l x y = true from within_some hlt)
      generalize rcAt l k = r at *
      cases hs : inR r x y
      all_goals
        have HS := hide hs
        clear hs
        have d0 : wr.cell? ⟨g, k * 4, none⟩ = some (.int .i64 r.x) := cc 0 (by omega)
        have d1 : wr.cell? ⟨g, k * 4 + 1, none⟩ = some (.int .i64 r.y) := cc 1 (by omega)
        have d2 : wr.cell? ⟨g, k * 4 + 2, none⟩ = some (.int .i64 r.w) := cc 2 (by omega)
        have d3 : wr.cell? ⟨g, k * 4 + 3, none⟩ = some (.int .i64 r.h) := cc 3 (by omega)
        clear cc hc
        have HW1 := hide (within1_any r x y bx by_ wr HX.out HY.out hx hy htk.1 htk.2)
        clear htk
        go_wp2_with (go_at_call 47; refine HW1.out.mono ?_; rintro e w5 ⟨rfl, hb5⟩; rw [HS.out])
      · go_roundw
        case rel => exact ⟨k + 1, by omega, by go_num, hide (HF.out HS.out), below_then hbel (Nat.le_refl _) hb5⟩
        case measure => simp [intOf]; omega
      · go_ret
        exact ⟨k, rfl, by rw [HG.out HS.out, decide_eq_true (by omega)], below_then hbel (Nat.le_refl _) hb5⟩
    · obtain rfl : k = l.length := by omega
      have HE := hide (within_no hall.out)
      go_wp2_with fail
      go_ret
      exact ⟨-1, rfl, by rw [HE.out]; rfl, hbel⟩
theorem containsR_any (l : List Rc) (x y : Int) (bx by_ B c : Nat) (A : Option Addr) (w : World) (hcx : w.cell? ⟨bx, 0, none⟩ = some (.int .i64 x)) (hcy : w.cell? ⟨by_, 0, none⟩ = some (.int .i64 y)) (hx : Tame x) (hy : Tame y) (ht : RcTame l) (hn : l.length ≤ 1000)
    (ho : w.ownsRow B 36 4 (.slice A l.length c) l.length (rcCells l)) :
    Calls Try.prog 46 #[.slice A l.length c, .func (.func 47) #[] #[.pointer (some ⟨bx, 0, none⟩), .pointer (some ⟨by_, 0, none⟩)]] w fun e w' => e = .returned (.bool (withinF l x y)) ∧ Below w.heap.size w w' := by
  have H := hide (indexR_any l x y bx by_ B c A w hcx hcy hx hy ht hn ho)
  clear ho hcx hcy ht
  go_enter Try.func46, Try.ntmps46
  go_wp2_with (go_at_call 53; refine H.out.mono ?_; rintro e w5 ⟨i, rfl, hi, hb5⟩; have HI := hide hi; clear hi)
  go_ret
  exact ⟨ret_bool HI.out, hb5⟩
set_option maxRecDepth 100000 in
theorem withinR_any (l : List Rc) (x y : Int) (B c : Nat) (A : Option Addr) (w : World) (hx : Tame x) (hy : Tame y) (ht : RcTame l) (hn : l.length ≤ 1000) (ho : w.ownsRow B 36 4 (.slice A l.length c) l.length (rcCells l)) :
    Calls Try.prog 32 #[.slice A l.length c, .int .i64 x, .int .i64 y] w fun e w' => e = .returned (.bool (withinF l x y)) ∧ Below w.heap.size w w' := by
  have O1 := (ho.alloc (.cells #[.int .i64 x] 3)).alloc (.cells #[.int .i64 y] 3)
  have h1 := ((Blk.new w 3 #[.int .i64 x]).alloc (.cells #[.int .i64 y] 3)).cell 0
  have h2 := (Blk.new (w.alloc (.cells #[.int .i64 x] 3)) 3 #[.int .i64 y]).cell 0
  rw [show (w.alloc (.cells #[.int .i64 x] 3)).heap.size = w.heap.size + 1 by simp] at h2
  have H := hide (containsR_any l x y w.heap.size (w.heap.size + 1) B c A _ h1 h2 hx hy ht hn O1)
  have L : Below w.heap.size w ((w.alloc (.cells #[.int .i64 x] 3)).alloc (.cells #[.int .i64 y] 3)) := by go_grown
  clear ho O1 h1 h2 ht
  go_enter Try.func32, Try.ntmps32
  go_wp2_with (go_at_call 46; refine H.out.mono ?_; rintro e w5 ⟨rfl, hb5⟩)
  go_ret
  exact ⟨rfl, below_then L (Nat.le_refl _) hb5⟩
end Go.Proofs.Ytbpkffoooieejaa
