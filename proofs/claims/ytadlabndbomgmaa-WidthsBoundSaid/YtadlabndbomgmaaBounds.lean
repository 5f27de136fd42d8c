/- Walks: bounds.of, bounds.bound, bounds.told, across. -/
import Derived.BigQuiet
import Derived.Handy
import Derived.Deep.MidRow
import Derived.Deep.RegionHeld3
import Derived.Test.YtadlabndbomgmaaFrame
namespace Go.Proofs.Ytadlabndbomgmaa
open Go.ChangeShapes Go.WideShapes Go.ChangeAt Go.RowKit
/-- The cells of bounds. -/
def bndA (R : Nat → Int) (room rim : Int) (pt : Bool) (sz le mo : Int) : Array Value := styA R ++ #[.int .i64 room, .int .i64 rim, .bool pt, .int .i64 sz, .int .i64 le, .int .i64 mo]
theorem bndA_size (R : Nat → Int) (room rim : Int) (pt : Bool) (sz le mo : Int) : (bndA R room rim pt sz le mo).size = 124 := by simp [bndA, styA_size]
theorem bndA_at (R : Nat → Int) (room rim : Int) (pt : Bool) (sz le mo : Int) {j : Nat} (h : j < 118) : (bndA R room rim pt sz le mo)[j]? = some (.int .i64 (R j)) := by
  rw [bndA, Array.getElem?_append_left (by rw [styA_size]; exact h), styA_at R h]
theorem bndA_hi (R : Nat → Int) (room rim : Int) (pt : Bool) (sz le mo : Int) (j : Nat) (v : Value) (h : (#[.int .i64 room, .int .i64 rim, .bool pt, .int .i64 sz, .int .i64 le, .int .i64 mo] : Array Value)[j]? = some v) : (bndA R room rim pt sz le mo)[118 + j]? = some v := by
  rw [bndA, Array.getElem?_append_right (by rw [styA_size]; omega), styA_size, Nat.add_sub_cancel_left, h]
/-- Is a property's length said, and what is it? -/
def bIs (R : Nat → Int) (pt : Bool) (p : Nat) : Bool := ofB (R (p * 2)) && (!(R (p * 2) == 3) || pt)
def bN (R : Nat → Int) (room rim : Int) (pt : Bool) (p : Nat) : Int := if bIs R pt p then (max 0 (if R 9 == 1 then ofN (R (p * 2)) (R (p * 2 + 1)) room - rim else ofN (R (p * 2)) (R (p * 2 + 1)) room)) else 0
theorem bN_bd (R : Nat → Int) (room rim : Int) (hr : 0 ≤ rim) (pt : Bool) (p : Nat) : 0 ≤ bN R room rim pt p ∧ bN R room rim pt p ≤ 16777216 := by
  have h := ofN_bd (R (p * 2)) (R (p * 2 + 1)) room
  unfold bN
  split
  · split <;> omega
  · omega
set_option maxRecDepth 100000 in
set_option maxHeartbeats 1000000 in
theorem of_any (R : Nat → Int) (room rim : Int) (pt : Bool) (sz le mo : Int) (hr : 0 ≤ rim ∧ rim ≤ 1000000000) (p : Nat) (hp : p < 59) (w : World) :
    Calls Try.prog 118 #[.agg (bndA R room rim pt sz le mo), .int .i64 p] w fun e w' => e = .returned (.tuple #[.int .i64 (bN R room rim pt p), .bool (bIs R pt p)]) ∧ Below w.heap.size w w' := by
  have e1 := hide (show bN R room rim pt p = if bIs R pt p then (max 0 (if R 9 == 1 then ofN (R (p * 2)) (R (p * 2 + 1)) room - rim else ofN (R (p * 2)) (R (p * 2 + 1)) room)) else 0 from rfl)
  have e2 := hide (show bIs R pt p = (ofB (R (p * 2)) && (!(R (p * 2) == 3) || pt)) from rfl)
  have hbd := ofN_bd (R (p * 2)) (R (p * 2 + 1)) room
  have hi1 : (0 : Int) ≤ (p : Int) := by omega
  have hi2 : (p : Int) < 59 := by omega
  go_enter Try.func118, Try.ntmps118
  have f1 := Blk.new w 124 (bndA R room rim pt sz le mo)
  have c0 := (f1.cell (p * 2)).trans (bndA_at R room rim pt sz le mo (by omega))
  have c1 := (f1.cell (p * 2 + 1)).trans (bndA_at R room rim pt sz le mo (by omega))
  have c9 := (f1.cell 9).trans (bndA_at R room rim pt sz le mo (by omega))
  have c118 := (f1.cell 118).trans (bndA_hi R room rim pt sz le mo 0 _ rfl)
  have c119 := (f1.cell 119).trans (bndA_hi R room rim pt sz le mo 1 _ rfl)
  have c120 := (f1.cell 120).trans (bndA_hi R room rim pt sz le mo 2 _ rfl)
  have bA : Below w.heap.size w (w.alloc (.cells (bndA R room rim pt sz le mo) 124)) := (Below.refl _ _).alloc (Nat.le_refl _) _
  have sA : (w.alloc (.cells (bndA R room rim pt sz le mo) 124)).heap.size = w.heap.size + 1 := by simp
  clear f1
  go_wp2_with fail
  generalize w.alloc (.cells (bndA R room rim pt sz le mo) 124) = wA at *
  go_region_held3 (fun w' => w'.cell? ⟨w.heap.size, p * 2, none⟩ = some (.int .i64 (R (p * 2))) ∧ w'.cell? ⟨w.heap.size, p * 2 + 1, none⟩ = some (.int .i64 (R (p * 2 + 1))) ∧ w'.cell? ⟨w.heap.size, 118, none⟩ = some (.int .i64 room)) (first | go_keep | (exact ⟨(hb.cell (p := ⟨w.heap.size, _, none⟩) (by show w.heap.size < wA.heap.size; omega)).trans c0, (hb.cell (p := ⟨w.heap.size, _, none⟩) (by show w.heap.size < wA.heap.size; omega)).trans c1, (hb.cell (p := ⟨w.heap.size, _, none⟩) (by show w.heap.size < wA.heap.size; omega)).trans c118⟩))
    (first | (go_at_call 46; refine (Of_any _ _ _ _).mono ?_; rintro e w' ⟨rfl, hb⟩))
  have d0 : w'.cell? ⟨w.heap.size, p * 2, none⟩ = some (.int .i64 (R (p * 2))) := (hb.cell (p := ⟨w.heap.size, _, none⟩) (by show w.heap.size < wA.heap.size; omega)).trans c0
  have d9 : w'.cell? ⟨w.heap.size, 9, none⟩ = some (.int .i64 (R 9)) := (hb.cell (p := ⟨w.heap.size, _, none⟩) (by show w.heap.size < wA.heap.size; omega)).trans c9
  have d119 : w'.cell? ⟨w.heap.size, 119, none⟩ = some (.int .i64 rim) := (hb.cell (p := ⟨w.heap.size, _, none⟩) (by show w.heap.size < wA.heap.size; omega)).trans c119
  have d120 : w'.cell? ⟨w.heap.size, 120, none⟩ = some (.bool pt) := (hb.cell (p := ⟨w.heap.size, _, none⟩) (by show w.heap.size < wA.heap.size; omega)).trans c120
  have bA2 : Below w.heap.size w wA.drew := ⟨bA.os, bA.tape, bA.output, bA.size, bA.block⟩
  have hbel := bA2.trans (hb.mono (show w.heap.size ≤ wA.drew.heap.size from bA.size))
  clear hb bA bA2 c0 c1 c9 c118 c119 c120
  generalize ofN (R (p * 2)) (R (p * 2 + 1)) room = n at *
  generalize hres : bN R room rim pt p = res at *
  have T1 := hide hres
  clear hres
  generalize hris : bIs R pt p = ris at *
  have T2 := hide hris
  clear hris
  generalize ofB (R (p * 2)) = b at *
  cases b
  · have e3 : ris = false := by rw [e2.out]; rfl
    subst e3
    have e4 : res = 0 := by rw [e1.out]; rfl
    subst e4
    go_wp2
    go_ret2
    exact ⟨by rw [T1.out, T2.out] <;> rfl, hbel⟩
  · cases h3 : (R (p * 2) == 3 && !pt)
    · have e3 : ris = true := by
        rw [e2.out]
        cases hx : (R (p * 2) == 3) <;> cases pt <;> simp_all
      subst e3
      cases h1 : (R 9 == 1)
      · have e4 : res = max 0 n := by rw [e1.out, h1]; rfl
        subst e4
        cases hx : (R (p * 2) == 3)
        · go_wp2
          go_ret2
          exact ⟨by rw [T1.out, T2.out] <;> rfl, hbel⟩
        · rw [hx] at h3
          cases pt
          · simp at h3
          · go_wp2
            go_ret2
            exact ⟨by rw [T1.out, T2.out] <;> rfl, hbel⟩
      · have e4 : res = max 0 (n - rim) := by rw [e1.out, h1]; rfl
        subst e4
        cases hx : (R (p * 2) == 3)
        · go_wp2
          go_ret2
          exact ⟨by rw [T1.out, T2.out] <;> rfl, hbel⟩
        · rw [hx] at h3
          cases pt
          · simp at h3
          · go_wp2
            go_ret2
            exact ⟨by rw [T1.out, T2.out] <;> rfl, hbel⟩
    · have hx : (R (p * 2) == 3) = true := by cases hx : (R (p * 2) == 3) <;> simp_all
      have hpt : pt = false := by cases pt <;> simp_all
      subst hpt
      have e3 : ris = false := by rw [e2.out, hx]; rfl
      subst e3
      have e4 : res = 0 := by rw [e1.out]; rfl
      subst e4
      clear h3
      go_wp2
      go_ret2
      exact ⟨by rw [T1.out, T2.out] <;> rfl, hbel⟩
theorem bnd_u : Try.prog.underlying 124 = some (.struct (Try.prog.fieldsOf 124)) := by kernel_rfl
theorem bnd_i (R : Nat → Int) (room rim : Int) (pt : Bool) (sz le mo : Int) : (Try.prog.info? 124).map (·.size) = some (bndA R room rim pt sz le mo).size := by rw [bndA_size]; kernel_rfl
/-- A length is bound. -/
def boundOf (R : Nat → Int) (room rim : Int) (pt : Bool) (le mo : Nat) (n : Int) : Int :=
  max 0 (if bIs R pt le then max (if bIs R pt mo then min n (bN R room rim pt mo) else n) (bN R room rim pt le) else (if bIs R pt mo then min n (bN R room rim pt mo) else n))
set_option maxRecDepth 100000 in
set_option maxHeartbeats 1000000 in
theorem bound_any (R : Nat → Int) (room rim : Int) (pt : Bool) (sz le mo : Nat) (hr : 0 ≤ rim ∧ rim ≤ 1000000000) (hle : le < 59) (hmo : mo < 59) (n : Int) (w : World) :
    Calls Try.prog 119 #[.agg (bndA R room rim pt sz le mo), .int .i64 n] w fun e w' => e = .returned (.int .i64 (boundOf R room rim pt le mo n)) ∧ Below w.heap.size w w' := by
  have e0 := hide (show boundOf R room rim pt le mo n = max 0 (if bIs R pt le then max (if bIs R pt mo then min n (bN R room rim pt mo) else n) (bN R room rim pt le) else (if bIs R pt mo then min n (bN R room rim pt mo) else n)) from rfl)
  go_enter Try.func119, Try.ntmps119
  have f1 := Blk.new w 124 (bndA R room rim pt sz le mo)
  have c121 : (w.alloc (.cells (bndA R room rim pt sz le mo) 124)).cell? ⟨w.heap.size, 121, none⟩ = some (.int .i64 sz) := (f1.cell 121).trans (bndA_hi R room rim pt sz le mo 3 _ rfl)
  have c122 : (w.alloc (.cells (bndA R room rim pt sz le mo) 124)).cell? ⟨w.heap.size, 122, none⟩ = some (.int .i64 le) := (f1.cell 122).trans (bndA_hi R room rim pt sz le mo 4 _ rfl)
  have c123 : (w.alloc (.cells (bndA R room rim pt sz le mo) 124)).cell? ⟨w.heap.size, 123, none⟩ = some (.int .i64 mo) := (f1.cell 123).trans (bndA_hi R room rim pt sz le mo 5 _ rfl)
  have bA : Below w.heap.size w (w.alloc (.cells (bndA R room rim pt sz le mo) 124)) := (Below.refl _ _).alloc (Nat.le_refl _) _
  have F1 := hide f1
  clear f1
  go_wp2_with (first | (refine wpList_load_row rfl 124 _ rfl w.heap.size rfl 124 _ (0, 0) _ F1.out bnd_u rfl (bnd_i R room rim pt sz le mo) ?_) | fail)
  generalize w.alloc (.cells (bndA R room rim pt sz le mo) 124) = wA at *
  refine (of_any R room rim pt sz le mo hr mo hmo wA).mono ?_
  rintro e w2 ⟨rfl, hb2⟩
  have hlt : w.heap.size < wA.heap.size := F1.out.lt
  have d122 := (hb2.cell (p := ⟨w.heap.size, _, none⟩) hlt).trans c122
  have F2 := hide (F1.out.below hb2 hlt)
  have b2 := bA.trans (hb2.mono (Nat.le_of_lt hlt))
  clear hb2 c121 c122 c123 F1 bA
  generalize hm : bN R room rim pt mo = m at *
  generalize hmi : bIs R pt mo = mi at *
  have Tm := hide hm
  have Tmi := hide hmi
  clear hm hmi
  cases mi
  all_goals
    go_wp2_with (first | (refine wpList_load_row rfl 124 _ rfl w.heap.size rfl 124 _ (0, 0) _ F2.out bnd_u rfl (bnd_i R room rim pt sz le mo) ?_) | fail)
    refine (of_any R room rim pt sz le mo hr le hle w2).mono ?_
    rintro e w3 ⟨rfl, hb3⟩
    have b3 := b2.trans (hb3.mono b2.size)
    clear hb3 F2 b2
    generalize hl : bN R room rim pt le = l at *
    generalize hli : bIs R pt le = li at *
    have Tl := hide hl
    have Tli := hide hli
    clear hl hli
    cases li
    all_goals
      go_wp2
      go_ret
      exact ⟨by rw [e0.out]; try simp [Int.max_comm], b3⟩
/-- What a length is that is said, or else. -/
def toldOf (R : Nat → Int) (room rim : Int) (pt : Bool) (sz le mo : Nat) (other : Int) : Int := if bIs R pt sz then boundOf R room rim pt le mo (bN R room rim pt sz) else boundOf R room rim pt le mo other
set_option maxRecDepth 100000 in
set_option maxHeartbeats 1000000 in
theorem told_any (R : Nat → Int) (room rim : Int) (pt : Bool) (sz le mo : Nat) (hr : 0 ≤ rim ∧ rim ≤ 1000000000) (hsz : sz < 59) (hle : le < 59) (hmo : mo < 59) (n : Int) (w : World) :
    Calls Try.prog 78 #[.agg (bndA R room rim pt sz le mo), .int .i64 n] w fun e w' => e = .returned (.int .i64 (toldOf R room rim pt sz le mo n)) ∧ Below w.heap.size w w' := by
  have e0 := hide (show toldOf R room rim pt sz le mo n = if bIs R pt sz then boundOf R room rim pt le mo (bN R room rim pt sz) else boundOf R room rim pt le mo n from rfl)
  go_enter Try.func78, Try.ntmps78
  have f1 := Blk.new w 124 (bndA R room rim pt sz le mo)
  have c121 : (w.alloc (.cells (bndA R room rim pt sz le mo) 124)).cell? ⟨w.heap.size, 121, none⟩ = some (.int .i64 sz) := (f1.cell 121).trans (bndA_hi R room rim pt sz le mo 3 _ rfl)
  have c122 : (w.alloc (.cells (bndA R room rim pt sz le mo) 124)).cell? ⟨w.heap.size, 122, none⟩ = some (.int .i64 le) := (f1.cell 122).trans (bndA_hi R room rim pt sz le mo 4 _ rfl)
  have c123 : (w.alloc (.cells (bndA R room rim pt sz le mo) 124)).cell? ⟨w.heap.size, 123, none⟩ = some (.int .i64 mo) := (f1.cell 123).trans (bndA_hi R room rim pt sz le mo 5 _ rfl)
  have bA : Below w.heap.size w (w.alloc (.cells (bndA R room rim pt sz le mo) 124)) := (Below.refl _ _).alloc (Nat.le_refl _) _
  have F1 := hide f1
  clear f1
  go_wp2_with (first | (refine wpList_load_row rfl 124 _ rfl w.heap.size rfl 124 _ (0, 0) _ F1.out bnd_u rfl (bnd_i R room rim pt sz le mo) ?_) | fail)
  generalize w.alloc (.cells (bndA R room rim pt sz le mo) 124) = wA at *
  refine (of_any R room rim pt sz le mo hr sz hsz wA).mono ?_
  rintro e w2 ⟨rfl, hb2⟩
  have hlt : w.heap.size < wA.heap.size := F1.out.lt
  have F2 := hide (F1.out.below hb2 hlt)
  have b2 := bA.trans (hb2.mono (Nat.le_of_lt hlt))
  clear hb2 c121 c122 c123 F1 bA
  generalize hm : bN R room rim pt sz = m at *
  generalize hmi : bIs R pt sz = mi at *
  have Tm := hide hm
  have Tmi := hide hmi
  clear hm hmi
  cases mi
  · go_wp2_with (first | (refine wpList_load_row rfl 124 _ rfl w.heap.size rfl 124 _ (0, 0) _ F2.out bnd_u rfl (bnd_i R room rim pt sz le mo) ?_) | fail)
    refine (bound_any R room rim pt sz le mo hr hle hmo n w2).mono ?_
    rintro e w3 ⟨rfl, hb3⟩
    have b3 := b2.trans (hb3.mono b2.size)
    clear hb3 F2 b2
    have e1 := hide (show toldOf R room rim pt sz le mo n = boundOf R room rim pt le mo n from by rw [e0.out]; rfl)
    rw [← e1.out]
    go_wp2
    go_ret
    exact ⟨rfl, b3⟩
  · go_wp2_with (first | (refine wpList_load_row rfl 124 _ rfl w.heap.size rfl 124 _ (0, 0) _ F2.out bnd_u rfl (bnd_i R room rim pt sz le mo) ?_) | fail)
    refine (bound_any R room rim pt sz le mo hr hle hmo m w2).mono ?_
    rintro e w3 ⟨rfl, hb3⟩
    have b3 := b2.trans (hb3.mono b2.size)
    clear hb3 F2 b2
    have e1 := hide (show toldOf R room rim pt sz le mo n = boundOf R room rim pt le mo m from by rw [e0.out]; rfl)
    rw [← e1.out]
    go_wp2
    go_ret
    exact ⟨rfl, b3⟩
end Go.Proofs.Ytadlabndbomgmaa
