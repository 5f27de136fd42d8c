/- The walk of flex.items. -/
import Derived.BigQuiet
import Derived.Handy
import Derived.Deep.MidRow
import Derived.Deep.RegionHeld3
import Derived.Test.YtadlabndbomgmaaFlexA
namespace Go.Proofs.Ytadlabndbomgmaa
open Go.ChangeShapes Go.WideShapes Go.ChangeAt Go.RowKit
set_option maxRecDepth 100000 in
set_option maxHeartbeats 4000000 in
theorem items_any (xs : List Fx) (hok : ∀ x ∈ xs, x.ok) (hn : xs.length ≤ 1000) (B c : Nat) (A : Option Addr) (w : World) (ho : w.ownsRow B 81 6 (.slice A xs.length c) xs.length (fxCells xs)) :
    Calls Try.prog 88 #[.slice A xs.length c] w fun e w' => ∃ g, e = .returned (.slice (some ⟨g, 0, none⟩) xs.length xs.length) ∧ w.heap.size ≤ g ∧ Blk w' g 149 (itV xs its0).toArray ∧ Below w.heap.size w w' := by
  obtain ⟨i0, hi0, hz0, hz1, hz2⟩ := info_parts it_info
  have hmk := fun W => run_make_rowN (P := Try.prog) 143 149 i0 _ Try.underlying143 hi0 hz0 .i64 .i64 xs.length xs.length (Nat.le_refl _) (by rw [hz2]; omega) (by omega) W
  rw [hz1, show (Value.agg #[.int .i64 0, .int .i64 0, .int .i64 0, .int .i64 0, .int .i64 0, .int .i64 0, .int .i64 0, .bool false, .int .i64 0]).cells = #[.int .i64 0, .int .i64 0, .int .i64 0, .int .i64 0, .int .i64 0, .int .i64 0, .int .i64 0, .bool false, .int .i64 0] from rfl, made_its] at hmk
  have HI := hide (show (Try.prog.info? 149).map (·.size) = some 9 by kernel_rfl)
  have HO := hide ho
  have HK := hide hok
  clear ho hok hz0 hz1 hz2 hi0
  go_enter Try.func88, Try.ntmps88
  go_wp2_with fail
  have hB0 := Blk.new w 149 (itTo xs 0).toArray
  have hb0 : Below w.heap.size w (w.alloc (.cells (itTo xs 0).toArray 149)) := by go_grown
  have HB0 := hide hB0
  clear hB0 hmk
  generalize w.alloc (.cells (itTo xs 0).toArray 149) = wA at *
  go_loopw [12] (fun i wr => ∃ k : Nat, k ≤ xs.length ∧ i = .int .i64 k ∧ Blk wr w.heap.size 149 (itTo xs k).toArray ∧ Below w.heap.size w wr) (fun i _ => xs.length - (intOf i).toNat)
  case atStart => exact ⟨0, Nat.zero_le _, rfl, HB0.out, hb0⟩
  case round =>
    obtain ⟨k, hk, rfl, hblk, hbel⟩ := hrel
    have HBk := hide hblk
    have hszr := hbel.size
    have hltr := hblk.lt
    clear hblk
    by_cases hlt : k < xs.length
    · obtain ⟨g, rfl, hg1, hg2, hc⟩ := fxCell HO.out hlt
      have cc : ∀ j, j < 6 → wr.cell? ⟨g, k * 6 + j, none⟩ = (fxC (fxAt xs k))[j]? := fun j hj => (hbel.cell (p := ⟨g, k * 6 + j, none⟩) hg2).trans (hc j hj)
      have hx := fxAt_ok HK.out k
      obtain ⟨e1, e2, e3, e4, e5, e6, e7⟩ := cut_ok hx
      have HN := hide (itTo_next xs k hlt)
      have HL := hide (show betw (fxAt xs k).b (fxAt xs k).le (fxAt xs k).mo = (fxAt xs k).lng from rfl)
      generalize fxAt xs k = x at *
      have E := hide (⟨e1, e2, e3, e4, e5, e6⟩ : cut x.b = x.b ∧ cut x.le = x.le ∧ cut x.mo = x.mo ∧ cut x.e = x.e ∧ min (max x.g 0) 1000000 = x.g ∧ min (max x.s 0) 1000000 = x.s)
      have d0 : wr.cell? ⟨g, k * 6, none⟩ = some (.int .i64 x.b) := cc 0 (by omega)
      have d1 : wr.cell? ⟨g, k * 6 + 1, none⟩ = some (.int .i64 x.le) := cc 1 (by omega)
      have d2 : wr.cell? ⟨g, k * 6 + 2, none⟩ = some (.int .i64 x.mo) := cc 2 (by omega)
      have d3 : wr.cell? ⟨g, k * 6 + 3, none⟩ = some (.int .i64 x.g) := cc 3 (by omega)
      have d4 : wr.cell? ⟨g, k * 6 + 4, none⟩ = some (.int .i64 x.s) := cc 4 (by omega)
      have d5 : wr.cell? ⟨g, k * 6 + 5, none⟩ = some (.int .i64 x.e) := cc 5 (by omega)
      clear cc hc hx e1 e2 e3 e4 e5 e6
      go_wp2_with fail
      have q := Blk.new wr 81 #[.int .i64 x.b, .int .i64 x.le, .int .i64 x.mo, .int .i64 x.g, .int .i64 x.s, .int .i64 x.e]
      have q0 : (wr.alloc (.cells #[.int .i64 x.b, .int .i64 x.le, .int .i64 x.mo, .int .i64 x.g, .int .i64 x.s, .int .i64 x.e] 81)).cell? ⟨wr.heap.size, 0, none⟩ = some (.int .i64 x.b) := q.cell 0
      have q1 : (wr.alloc (.cells #[.int .i64 x.b, .int .i64 x.le, .int .i64 x.mo, .int .i64 x.g, .int .i64 x.s, .int .i64 x.e] 81)).cell? ⟨wr.heap.size, 1, none⟩ = some (.int .i64 x.le) := q.cell 1
      have q2 : (wr.alloc (.cells #[.int .i64 x.b, .int .i64 x.le, .int .i64 x.mo, .int .i64 x.g, .int .i64 x.s, .int .i64 x.e] 81)).cell? ⟨wr.heap.size, 2, none⟩ = some (.int .i64 x.mo) := q.cell 2
      have q3 : (wr.alloc (.cells #[.int .i64 x.b, .int .i64 x.le, .int .i64 x.mo, .int .i64 x.g, .int .i64 x.s, .int .i64 x.e] 81)).cell? ⟨wr.heap.size, 3, none⟩ = some (.int .i64 x.g) := q.cell 3
      have q4 : (wr.alloc (.cells #[.int .i64 x.b, .int .i64 x.le, .int .i64 x.mo, .int .i64 x.g, .int .i64 x.s, .int .i64 x.e] 81)).cell? ⟨wr.heap.size, 4, none⟩ = some (.int .i64 x.s) := q.cell 4
      have q5 : (wr.alloc (.cells #[.int .i64 x.b, .int .i64 x.le, .int .i64 x.mo, .int .i64 x.g, .int .i64 x.s, .int .i64 x.e] 81)).cell? ⟨wr.heap.size, 5, none⟩ = some (.int .i64 x.e) := q.cell 5
      have HB1 := hide (HBk.out.alloc (.cells #[.int .i64 x.b, .int .i64 x.le, .int .i64 x.mo, .int .i64 x.g, .int .i64 x.s, .int .i64 x.e] 81))
      have hb1 := hbel.alloc hszr (.cells #[.int .i64 x.b, .int .i64 x.le, .int .i64 x.mo, .int .i64 x.g, .int .i64 x.s, .int .i64 x.e] 81)
      have HQ := hide q
      clear d0 d1 d2 d3 d4 d5 q
      clear hb1 HB1 HQ
      go_region_held3 (fun w' => w'.cell? ⟨wr.heap.size, 0, none⟩ = some (.int .i64 x.b) ∧ w'.cell? ⟨wr.heap.size, 1, none⟩ = some (.int .i64 x.le) ∧ w'.cell? ⟨wr.heap.size, 2, none⟩ = some (.int .i64 x.mo) ∧ w'.cell? ⟨wr.heap.size, 3, none⟩ = some (.int .i64 x.g) ∧ w'.cell? ⟨wr.heap.size, 4, none⟩ = some (.int .i64 x.s) ∧ w'.cell? ⟨wr.heap.size, 5, none⟩ = some (.int .i64 x.e)) (go_keep)
        (first | (go_at_call 28; refine (cut_any _ _).mono ?_; rintro e w' ⟨rfl, rfl⟩; first | rw [E.out.1] | rw [E.out.2.1] | rw [E.out.2.2.1] | rw [E.out.2.2.2.1]) | (go_at_call 125; refine (bound1_any _ _).mono ?_; rintro e w' ⟨rfl, rfl⟩; first | rw [E.out.2.2.2.2.1] | rw [E.out.2.2.2.2.2]))
      all_goals
        have q : Blk (wr.alloc (.cells #[.int .i64 x.b, .int .i64 x.le, .int .i64 x.mo, .int .i64 x.g, .int .i64 x.s, .int .i64 x.e] 81)).drew wr.heap.size 81 #[.int .i64 x.b, .int .i64 x.le, .int .i64 x.mo, .int .i64 x.g, .int .i64 x.s, .int .i64 x.e] := (Blk.new wr _ _).drew
        have HB1 := hide ((HBk.out.alloc (.cells #[.int .i64 x.b, .int .i64 x.le, .int .i64 x.mo, .int .i64 x.g, .int .i64 x.s, .int .i64 x.e] 81)).drew)
        have hb1 : Below w.heap.size w (wr.alloc (.cells #[.int .i64 x.b, .int .i64 x.le, .int .i64 x.mo, .int .i64 x.g, .int .i64 x.s, .int .i64 x.e] 81)).drew := below_drewN (hbel.alloc hszr (.cells #[.int .i64 x.b, .int .i64 x.le, .int .i64 x.mo, .int .i64 x.g, .int .i64 x.s, .int .i64 x.e] 81)) 1
        clear q0 q1 q2 q3 q4 q5
        generalize (wr.alloc (.cells #[.int .i64 x.b, .int .i64 x.le, .int .i64 x.mo, .int .i64 x.g, .int .i64 x.s, .int .i64 x.e] 81)).drew = wC at *
        have q0 : wC.cell? ⟨wr.heap.size, 0, none⟩ = some (.int .i64 x.b) := q.cell 0
        have q1 : wC.cell? ⟨wr.heap.size, 1, none⟩ = some (.int .i64 x.le) := q.cell 1
        have q2 : wC.cell? ⟨wr.heap.size, 2, none⟩ = some (.int .i64 x.mo) := q.cell 2
        have q3 : wC.cell? ⟨wr.heap.size, 3, none⟩ = some (.int .i64 x.g) := q.cell 3
        have q4 : wC.cell? ⟨wr.heap.size, 4, none⟩ = some (.int .i64 x.s) := q.cell 4
        have q5 : wC.cell? ⟨wr.heap.size, 5, none⟩ = some (.int .i64 x.e) := q.cell 5
        clear e7
        go_wp2_with fail
        have hk1 : (0 : Int) ≤ (k : Int) := by omega
        have hk2 : (k : Int) < (xs.length : Int) := by omega
        have HCE := hide (show ∀ j, j < 9 → ∃ y, wC.cell? ⟨w.heap.size, k * 9 + j, none⟩ = some y from fun j hj => ⟨_, (HB1.out.cell _).trans (by rw [List.getElem?_toArray]; exact List.getElem?_eq_getElem (by rw [itTo_len]; omega))⟩)
        obtain ⟨y0, s0⟩ : ∃ y, wC.cell? ⟨w.heap.size, k * 9, none⟩ = some y := HCE.out 0 (by omega)
        have z0 : wC.frozen? ⟨w.heap.size, k * 9, none⟩ = false := HB1.out.frozen _
        obtain ⟨y1, s1⟩ : ∃ y, wC.cell? ⟨w.heap.size, k * 9 + 1, none⟩ = some y := HCE.out 1 (by omega)
        have z1 : wC.frozen? ⟨w.heap.size, k * 9 + 1, none⟩ = false := HB1.out.frozen _
        obtain ⟨y2, s2⟩ : ∃ y, wC.cell? ⟨w.heap.size, k * 9 + 2, none⟩ = some y := HCE.out 2 (by omega)
        have z2 : wC.frozen? ⟨w.heap.size, k * 9 + 2, none⟩ = false := HB1.out.frozen _
        obtain ⟨y3, s3⟩ : ∃ y, wC.cell? ⟨w.heap.size, k * 9 + 3, none⟩ = some y := HCE.out 3 (by omega)
        have z3 : wC.frozen? ⟨w.heap.size, k * 9 + 3, none⟩ = false := HB1.out.frozen _
        obtain ⟨y4, s4⟩ : ∃ y, wC.cell? ⟨w.heap.size, k * 9 + 4, none⟩ = some y := HCE.out 4 (by omega)
        have z4 : wC.frozen? ⟨w.heap.size, k * 9 + 4, none⟩ = false := HB1.out.frozen _
        obtain ⟨y5, s5⟩ : ∃ y, wC.cell? ⟨w.heap.size, k * 9 + 5, none⟩ = some y := HCE.out 5 (by omega)
        have z5 : wC.frozen? ⟨w.heap.size, k * 9 + 5, none⟩ = false := HB1.out.frozen _
        obtain ⟨y6, s6⟩ : ∃ y, wC.cell? ⟨w.heap.size, k * 9 + 6, none⟩ = some y := HCE.out 6 (by omega)
        have z6 : wC.frozen? ⟨w.heap.size, k * 9 + 6, none⟩ = false := HB1.out.frozen _
        obtain ⟨y7, s7⟩ : ∃ y, wC.cell? ⟨w.heap.size, k * 9 + 7, none⟩ = some y := HCE.out 7 (by omega)
        have z7 : wC.frozen? ⟨w.heap.size, k * 9 + 7, none⟩ = false := HB1.out.frozen _
        obtain ⟨y8, s8⟩ : ∃ y, wC.cell? ⟨w.heap.size, k * 9 + 8, none⟩ = some y := HCE.out 8 (by omega)
        have z8 : wC.frozen? ⟨w.heap.size, k * 9 + 8, none⟩ = false := HB1.out.frozen _
        have hne1 : wr.heap.size ≠ w.heap.size := by omega
        have hne2 : w.heap.size ≠ wr.heap.size := by omega
        go_region_held3 (fun w' => w'.cell? ⟨wr.heap.size, 0, none⟩ = some (.int .i64 x.b) ∧ w'.cell? ⟨wr.heap.size, 1, none⟩ = some (.int .i64 x.le) ∧ w'.cell? ⟨wr.heap.size, 2, none⟩ = some (.int .i64 x.mo) ∧ w'.cell? ⟨wr.heap.size, 3, none⟩ = some (.int .i64 x.g) ∧ w'.cell? ⟨wr.heap.size, 4, none⟩ = some (.int .i64 x.s) ∧ w'.cell? ⟨wr.heap.size, 5, none⟩ = some (.int .i64 x.e)) (go_keep)
          (first
            | (go_at_call 58; refine (between_any _ _ _ _).mono ?_; rintro e w' ⟨rfl, rfl⟩; rw [HL.out]))
        rw [setCells9]
        have hB6 := blk_setCells (itC x false 0) (k * 9) wC (itTo xs k).toArray (by rw [List.size_toArray, itTo_len]; show k * 9 + 9 ≤ xs.length * 9; omega) HB1.out
        rw [List.toList_toArray, HN.out] at hB6
        have hb6 := below_grown hb1 (Nat.le_refl _) (grown_setCells w.heap.size (itC x false 0) (k * 9) wC) (Nat.le_refl _)
        have hB7 : Blk (wC.setCells w.heap.size (k * 9) (itC x false 0)).drew w.heap.size 149 (itTo xs (k + 1)).toArray := hB6.drew
        have hb7 : Below w.heap.size w (wC.setCells w.heap.size (k * 9) (itC x false 0)).drew := below_drewN hb6 1
        have HB6 := hide hB7
        clear hB6 hb6 hB7 s0 s1 s2 s3 s4 s5 s6 s7 s8 z0 z1 z2 z3 z4 z5 z6 z7 z8 q0 q1 q2 q3 q4 q5 q hb1 HB1 HCE
        have hwE : wC.setCells w.heap.size (k * 9) [.int .i64 x.b, .int .i64 x.le, .int .i64 x.mo, .int .i64 x.g, .int .i64 x.s, .int .i64 x.e, .int .i64 x.lng, .bool false, .int .i64 0] = wC.setCells w.heap.size (k * 9) (itC x false 0) := rfl
        rw [hwE]
        clear hwE
        generalize (wC.setCells w.heap.size (k * 9) (itC x false 0)).drew = w6 at *
        go_wp2_with fail
        go_roundw
        case rel => exact ⟨k + 1, by omega, by go_num, HB6.out, hb7⟩
        case measure => simp [intOf]; omega
    · obtain rfl : k = xs.length := by omega
      rw [itTo_all] at HBk
      go_wp2_with fail
      go_ret
      exact ⟨_, rfl, Nat.le_refl _, HBk.out, hbel⟩
end Go.Proofs.Ytadlabndbomgmaa
