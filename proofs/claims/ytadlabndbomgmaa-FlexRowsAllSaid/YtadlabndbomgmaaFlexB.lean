/- Walks of the package flex: what is free. -/
import Derived.BigQuiet
import Derived.Handy
import Derived.IntWalk
import Derived.Deep.MidRow
import Derived.Deep.RegionHeld3
import Derived.Test.YtadlabndbomgmaaFlexA
namespace Go.Proofs.Ytadlabndbomgmaa
open Go.ChangeShapes Go.WideShapes Go.ChangeAt Go.RowKit
/-- A row's struct and its items, in memory. -/
def RowAt (w : World) (rb g : Nat) (room : Int) (grows : Bool) (xs : List Fx) (st : Its) : Prop :=
  Blk w rb 146 #[.int .i64 room, .slice (some ⟨g, 0, none⟩) xs.length xs.length, .bool grows] ∧ Blk w g 149 (itV xs st).toArray
theorem RowAt.below {w w' : World} {rb g : Nat} {room : Int} {grows : Bool} {xs : List Fx} {st : Its} (h : RowAt w rb g room grows xs st) (hb : Below w.heap.size w w') : RowAt w' rb g room grows xs st := ⟨h.1.below hb h.1.lt, h.2.below hb h.2.lt⟩
theorem itCell {w : World} {g : Nat} {xs : List Fx} {st : Its} (h : Blk w g 149 (itV xs st).toArray) {k : Nat} (hk : k < xs.length) (j : Nat) (hj : j < 9) : w.cell? ⟨g, k * 9 + j, none⟩ = (itC (fxAt xs k) (st.set k) (st.is k))[j]? := by
  rw [h.cell, List.getElem?_toArray]
  exact itV_at xs st k j hk hj
theorem nowTo_bd (room : Int) (xs : List Fx) (v : Nat → Int) (hr : -1000000000 ≤ room ∧ room ≤ 1000000000) (hok : ∀ x ∈ xs, x.ok) (hn : xs.length ≤ 1000) (hv : ∀ k, k < xs.length → -16777216 ≤ v k ∧ v k ≤ 16777216) (k : Nat) (hk : k ≤ xs.length) : -1000000000000 ≤ nowTo room xs v k ∧ nowTo room xs v k ≤ 1000000000000 := by
  have h := fsum_bd (f := fun i => v i + (fxAt xs i).e) (lo := -16777344) (hi := 16777343) (k := k) fun i hi => by
    have h1 := fxAt_ok hok i
    have h2 := hv i (by omega)
    unfold Fx.ok at h1
    omega
  unfold nowTo
  omega
theorem nowTo_succ (room : Int) (xs : List Fx) (v : Nat → Int) (k : Nat) : nowTo room xs v (k + 1) = nowTo room xs v k - (v k + (fxAt xs k).e) := by
  unfold nowTo; simp only [fsum]; omega
set_option maxRecDepth 100000 in
set_option maxHeartbeats 2000000 in
theorem freeLong_any (rb g : Nat) (room : Int) (grows : Bool) (xs : List Fx) (st : Its) (w : World) (hr : -1000000000 ≤ room ∧ room ≤ 1000000000) (hok : ∀ x ∈ xs, x.ok) (hn : xs.length ≤ 1000) (h : RowAt w rb g room grows xs st) :
    Calls Try.prog 89 #[.pointer (some ⟨rb, 0, none⟩), .func (.func 90) #[] #[]] w fun e w' => e = .returned (.int .i64 (nowTo room xs (fun i => (fxAt xs i).lng) xs.length)) ∧ Below w.heap.size w w' := by
  have HB := hide (fun k hk => nowTo_bd room xs (fun i => (fxAt xs i).lng) hr hok hn (fun k _ => by have := lng_bd (fxAt_ok hok k); omega) k hk)
  have HK := hide hok
  have HR := hide h
  have c0 : w.cell? ⟨rb, 0, none⟩ = some (.int .i64 room) := h.1.cell 0
  have c1 : w.cell? ⟨rb, 1, none⟩ = some (.slice (some ⟨g, 0, none⟩) xs.length xs.length) := h.1.cell 1
  clear h hok
  go_enter Try.func89, Try.ntmps89
  go_wp2_with fail
  go_loopw [5, 17] (fun n i wr => ∃ k : Nat, k ≤ xs.length ∧ i = .int .i64 k ∧ n = .int .i64 (nowTo room xs (fun i => (fxAt xs i).lng) k) ∧ Below w.heap.size w wr) (fun _ i _ => xs.length - (intOf i).toNat)
  case atStart => exact ⟨0, Nat.zero_le _, rfl, by simp [nowTo, fsum], Below.refl _ _⟩
  case round =>
    obtain ⟨k, hk, rfl, rfl, hbel⟩ := hrel
    have hszr := hbel.size
    by_cases hlt : k < xs.length
    · have cc := itCell (HR.out.2.below hbel HR.out.2.lt) hlt
      have b1 := HB.out k hk
      have b2 := HB.out (k + 1) hlt
      have hx := fxAt_ok HK.out k
      have hlg := lng_bd hx
      have hP : nowTo room xs (fun i => (fxAt xs i).lng) (k + 1) = nowTo room xs (fun i => (fxAt xs i).lng) k - ((fxAt xs k).lng + (fxAt xs k).e) := nowTo_succ _ _ _ _
      rw [hP] at b2
      have P2 := hide hP
      clear hP
      generalize nowTo room xs (fun i => (fxAt xs i).lng) k = nk at *
      generalize st.set k = sk at *
      generalize st.is k = ik at *
      generalize fxAt xs k = x at *
      have he : -128 ≤ x.e ∧ x.e ≤ 127 := by unfold Fx.ok at hx; omega
      have d0 : wr.cell? ⟨g, k * 9, none⟩ = some (.int .i64 x.b) := cc 0 (by omega)
      have d1 : wr.cell? ⟨g, k * 9 + 1, none⟩ = some (.int .i64 x.le) := cc 1 (by omega)
      have d2 : wr.cell? ⟨g, k * 9 + 2, none⟩ = some (.int .i64 x.mo) := cc 2 (by omega)
      have d3 : wr.cell? ⟨g, k * 9 + 3, none⟩ = some (.int .i64 x.g) := cc 3 (by omega)
      have d4 : wr.cell? ⟨g, k * 9 + 4, none⟩ = some (.int .i64 x.s) := cc 4 (by omega)
      have d5 : wr.cell? ⟨g, k * 9 + 5, none⟩ = some (.int .i64 x.e) := cc 5 (by omega)
      have d6 : wr.cell? ⟨g, k * 9 + 6, none⟩ = some (.int .i64 x.lng) := cc 6 (by omega)
      have d7 : wr.cell? ⟨g, k * 9 + 7, none⟩ = some (.bool sk) := cc 7 (by omega)
      have d8 : wr.cell? ⟨g, k * 9 + 8, none⟩ = some (.int .i64 ik) := cc 8 (by omega)
      clear cc hx
      go_wp2_with fail
      have q : Blk (wr.alloc (.cells #[.int .i64 x.b, .int .i64 x.le, .int .i64 x.mo, .int .i64 x.g, .int .i64 x.s, .int .i64 x.e, .int .i64 x.lng, .bool sk, .int .i64 ik] 149)) wr.heap.size 149 #[.int .i64 x.b, .int .i64 x.le, .int .i64 x.mo, .int .i64 x.g, .int .i64 x.s, .int .i64 x.e, .int .i64 x.lng, .bool sk, .int .i64 ik] := Blk.new wr _ _
      have hb1 := hbel.alloc hszr (.cells #[.int .i64 x.b, .int .i64 x.le, .int .i64 x.mo, .int .i64 x.g, .int .i64 x.s, .int .i64 x.e, .int .i64 x.lng, .bool sk, .int .i64 ik] 149)
      clear d0 d1 d2 d3 d4 d5 d6 d7 d8
      generalize wr.alloc (.cells #[.int .i64 x.b, .int .i64 x.le, .int .i64 x.mo, .int .i64 x.g, .int .i64 x.s, .int .i64 x.e, .int .i64 x.lng, .bool sk, .int .i64 ik] 149) = wB at *
      have q0 : wB.cell? ⟨wr.heap.size, 0, none⟩ = some (.int .i64 x.b) := q.cell 0
      have q1 : wB.cell? ⟨wr.heap.size, 1, none⟩ = some (.int .i64 x.le) := q.cell 1
      have q2 : wB.cell? ⟨wr.heap.size, 2, none⟩ = some (.int .i64 x.mo) := q.cell 2
      have q3 : wB.cell? ⟨wr.heap.size, 3, none⟩ = some (.int .i64 x.g) := q.cell 3
      have q4 : wB.cell? ⟨wr.heap.size, 4, none⟩ = some (.int .i64 x.s) := q.cell 4
      have q5 : wB.cell? ⟨wr.heap.size, 5, none⟩ = some (.int .i64 x.e) := q.cell 5
      have q6 : wB.cell? ⟨wr.heap.size, 6, none⟩ = some (.int .i64 x.lng) := q.cell 6
      have q7 : wB.cell? ⟨wr.heap.size, 7, none⟩ = some (.bool sk) := q.cell 7
      have q8 : wB.cell? ⟨wr.heap.size, 8, none⟩ = some (.int .i64 ik) := q.cell 8
      have w1 : IntKind.i64.wrap (x.lng + x.e) = x.lng + x.e := by rw [IntWalk.i64_in _ (by omega)]
      have w2 : IntKind.i64.wrap (nk - (x.lng + x.e)) = nk - (x.lng + x.e) := by rw [IntWalk.i64_in _ (by omega)]
      go_region_held3 (fun W => W.cell? ⟨wr.heap.size, 0, none⟩ = some (.int .i64 x.b) ∧ W.cell? ⟨wr.heap.size, 1, none⟩ = some (.int .i64 x.le) ∧ W.cell? ⟨wr.heap.size, 2, none⟩ = some (.int .i64 x.mo) ∧ W.cell? ⟨wr.heap.size, 3, none⟩ = some (.int .i64 x.g) ∧ W.cell? ⟨wr.heap.size, 4, none⟩ = some (.int .i64 x.s) ∧ W.cell? ⟨wr.heap.size, 5, none⟩ = some (.int .i64 x.e) ∧ W.cell? ⟨wr.heap.size, 6, none⟩ = some (.int .i64 x.lng) ∧ W.cell? ⟨wr.heap.size, 7, none⟩ = some (.bool sk) ∧ W.cell? ⟨wr.heap.size, 8, none⟩ = some (.int .i64 ik)) (first | go_keep | exact ⟨r0, r1, r2, r3, r4, r5, r6, r7, r8⟩)
        (first | (go_at_call 90; refine (mains1_any x sk ik _).mono ?_; rintro e w5 ⟨rfl, hb5⟩; have qq := (Blk.drew q).below hb5 q.lt; have r0 : w5.cell? ⟨wr.heap.size, 0, none⟩ = some (.int .i64 x.b) := qq.cell 0; have r1 : w5.cell? ⟨wr.heap.size, 1, none⟩ = some (.int .i64 x.le) := qq.cell 1; have r2 : w5.cell? ⟨wr.heap.size, 2, none⟩ = some (.int .i64 x.mo) := qq.cell 2; have r3 : w5.cell? ⟨wr.heap.size, 3, none⟩ = some (.int .i64 x.g) := qq.cell 3; have r4 : w5.cell? ⟨wr.heap.size, 4, none⟩ = some (.int .i64 x.s) := qq.cell 4; have r5 : w5.cell? ⟨wr.heap.size, 5, none⟩ = some (.int .i64 x.e) := qq.cell 5; have r6 : w5.cell? ⟨wr.heap.size, 6, none⟩ = some (.int .i64 x.lng) := qq.cell 6; have r7 : w5.cell? ⟨wr.heap.size, 7, none⟩ = some (.bool sk) := qq.cell 7; have r8 : w5.cell? ⟨wr.heap.size, 8, none⟩ = some (.int .i64 ik) := qq.cell 8))
      have hb6 := below_then (below_drewN hb1 1 : Below w.heap.size w wB.drew) (Nat.le_refl _) hb5
      clear w1 w2
      go_wp2_with fail
      go_roundw
      case rel => exact ⟨k + 1, by omega, by go_num, by rw [P2.out], hb6⟩
      case measure => simp [intOf]; omega
    · obtain rfl : k = xs.length := by omega
      go_wp2_with fail
      go_ret
      exact ⟨rfl, hbel⟩
set_option maxRecDepth 100000 in
set_option maxHeartbeats 2000000 in
theorem freeNow_any (rb g : Nat) (room : Int) (grows : Bool) (xs : List Fx) (st : Its) (w : World) (hr : -1000000000 ≤ room ∧ room ≤ 1000000000) (hok : ∀ x ∈ xs, x.ok) (hn : xs.length ≤ 1000) (hv : ∀ k, k < xs.length → -16777216 ≤ valO xs st k ∧ valO xs st k ≤ 16777216) (h : RowAt w rb g room grows xs st) :
    Calls Try.prog 89 #[.pointer (some ⟨rb, 0, none⟩), .func (.func 126) #[] #[]] w fun e w' => e = .returned (.int .i64 (nowTo room xs (valO xs st) xs.length)) ∧ Below w.heap.size w w' := by
  have HB := hide (fun k hk => nowTo_bd room xs (valO xs st) hr hok hn hv k hk)
  have HV := hide hv
  clear hv
  have HK := hide hok
  have HR := hide h
  have c0 : w.cell? ⟨rb, 0, none⟩ = some (.int .i64 room) := h.1.cell 0
  have c1 : w.cell? ⟨rb, 1, none⟩ = some (.slice (some ⟨g, 0, none⟩) xs.length xs.length) := h.1.cell 1
  clear h hok
  go_enter Try.func89, Try.ntmps89
  go_wp2_with fail
  go_loopw [5, 17] (fun n i wr => ∃ k : Nat, k ≤ xs.length ∧ i = .int .i64 k ∧ n = .int .i64 (nowTo room xs (valO xs st) k) ∧ Below w.heap.size w wr) (fun _ i _ => xs.length - (intOf i).toNat)
  case atStart => exact ⟨0, Nat.zero_le _, rfl, by simp [nowTo, fsum], Below.refl _ _⟩
  case round =>
    obtain ⟨k, hk, rfl, rfl, hbel⟩ := hrel
    have hszr := hbel.size
    by_cases hlt : k < xs.length
    · have cc := itCell (HR.out.2.below hbel HR.out.2.lt) hlt
      have b1 := HB.out k hk
      have b2 := HB.out (k + 1) hlt
      have hx := fxAt_ok HK.out k
      have hlg := HV.out k hlt
      have hvo : valO xs st k = if st.set k then st.is k else (fxAt xs k).b := rfl
      have hP : nowTo room xs (valO xs st) (k + 1) = nowTo room xs (valO xs st) k - (valO xs st k + (fxAt xs k).e) := nowTo_succ _ _ _ _
      rw [hP] at b2
      have P2 := hide hP
      clear hP
      generalize nowTo room xs (valO xs st) k = nk at *
      generalize valO xs st k = vk at *
      generalize st.set k = sk at *
      generalize st.is k = ik at *
      generalize fxAt xs k = x at *
      have he : -128 ≤ x.e ∧ x.e ≤ 127 := by unfold Fx.ok at hx; omega
      have d0 : wr.cell? ⟨g, k * 9, none⟩ = some (.int .i64 x.b) := cc 0 (by omega)
      have d1 : wr.cell? ⟨g, k * 9 + 1, none⟩ = some (.int .i64 x.le) := cc 1 (by omega)
      have d2 : wr.cell? ⟨g, k * 9 + 2, none⟩ = some (.int .i64 x.mo) := cc 2 (by omega)
      have d3 : wr.cell? ⟨g, k * 9 + 3, none⟩ = some (.int .i64 x.g) := cc 3 (by omega)
      have d4 : wr.cell? ⟨g, k * 9 + 4, none⟩ = some (.int .i64 x.s) := cc 4 (by omega)
      have d5 : wr.cell? ⟨g, k * 9 + 5, none⟩ = some (.int .i64 x.e) := cc 5 (by omega)
      have d6 : wr.cell? ⟨g, k * 9 + 6, none⟩ = some (.int .i64 x.lng) := cc 6 (by omega)
      have d7 : wr.cell? ⟨g, k * 9 + 7, none⟩ = some (.bool sk) := cc 7 (by omega)
      have d8 : wr.cell? ⟨g, k * 9 + 8, none⟩ = some (.int .i64 ik) := cc 8 (by omega)
      clear cc hx
      have HVO := hide hvo
      clear hvo
      go_wp2_with fail
      have q : Blk (wr.alloc (.cells #[.int .i64 x.b, .int .i64 x.le, .int .i64 x.mo, .int .i64 x.g, .int .i64 x.s, .int .i64 x.e, .int .i64 x.lng, .bool sk, .int .i64 ik] 149)) wr.heap.size 149 #[.int .i64 x.b, .int .i64 x.le, .int .i64 x.mo, .int .i64 x.g, .int .i64 x.s, .int .i64 x.e, .int .i64 x.lng, .bool sk, .int .i64 ik] := Blk.new wr _ _
      have hb1 := hbel.alloc hszr (.cells #[.int .i64 x.b, .int .i64 x.le, .int .i64 x.mo, .int .i64 x.g, .int .i64 x.s, .int .i64 x.e, .int .i64 x.lng, .bool sk, .int .i64 ik] 149)
      clear d0 d1 d2 d3 d4 d5 d6 d7 d8
      generalize wr.alloc (.cells #[.int .i64 x.b, .int .i64 x.le, .int .i64 x.mo, .int .i64 x.g, .int .i64 x.s, .int .i64 x.e, .int .i64 x.lng, .bool sk, .int .i64 ik] 149) = wB at *
      have q0 : wB.cell? ⟨wr.heap.size, 0, none⟩ = some (.int .i64 x.b) := q.cell 0
      have q1 : wB.cell? ⟨wr.heap.size, 1, none⟩ = some (.int .i64 x.le) := q.cell 1
      have q2 : wB.cell? ⟨wr.heap.size, 2, none⟩ = some (.int .i64 x.mo) := q.cell 2
      have q3 : wB.cell? ⟨wr.heap.size, 3, none⟩ = some (.int .i64 x.g) := q.cell 3
      have q4 : wB.cell? ⟨wr.heap.size, 4, none⟩ = some (.int .i64 x.s) := q.cell 4
      have q5 : wB.cell? ⟨wr.heap.size, 5, none⟩ = some (.int .i64 x.e) := q.cell 5
      have q6 : wB.cell? ⟨wr.heap.size, 6, none⟩ = some (.int .i64 x.lng) := q.cell 6
      have q7 : wB.cell? ⟨wr.heap.size, 7, none⟩ = some (.bool sk) := q.cell 7
      have q8 : wB.cell? ⟨wr.heap.size, 8, none⟩ = some (.int .i64 ik) := q.cell 8
      have w1 : IntKind.i64.wrap (vk + x.e) = vk + x.e := by rw [IntWalk.i64_in _ (by omega)]
      have w2 : IntKind.i64.wrap (nk - (vk + x.e)) = nk - (vk + x.e) := by rw [IntWalk.i64_in _ (by omega)]
      go_region_held3 (fun W => W.cell? ⟨wr.heap.size, 0, none⟩ = some (.int .i64 x.b) ∧ W.cell? ⟨wr.heap.size, 1, none⟩ = some (.int .i64 x.le) ∧ W.cell? ⟨wr.heap.size, 2, none⟩ = some (.int .i64 x.mo) ∧ W.cell? ⟨wr.heap.size, 3, none⟩ = some (.int .i64 x.g) ∧ W.cell? ⟨wr.heap.size, 4, none⟩ = some (.int .i64 x.s) ∧ W.cell? ⟨wr.heap.size, 5, none⟩ = some (.int .i64 x.e) ∧ W.cell? ⟨wr.heap.size, 6, none⟩ = some (.int .i64 x.lng) ∧ W.cell? ⟨wr.heap.size, 7, none⟩ = some (.bool sk) ∧ W.cell? ⟨wr.heap.size, 8, none⟩ = some (.int .i64 ik)) (first | go_keep | exact ⟨r0, r1, r2, r3, r4, r5, r6, r7, r8⟩)
        (first | (go_at_call 126; refine (now1_any x sk ik _).mono ?_; rintro e w5 ⟨rfl, hb5⟩; rw [← HVO.out]; have qq := (Blk.drew q).below hb5 q.lt; have r0 : w5.cell? ⟨wr.heap.size, 0, none⟩ = some (.int .i64 x.b) := qq.cell 0; have r1 : w5.cell? ⟨wr.heap.size, 1, none⟩ = some (.int .i64 x.le) := qq.cell 1; have r2 : w5.cell? ⟨wr.heap.size, 2, none⟩ = some (.int .i64 x.mo) := qq.cell 2; have r3 : w5.cell? ⟨wr.heap.size, 3, none⟩ = some (.int .i64 x.g) := qq.cell 3; have r4 : w5.cell? ⟨wr.heap.size, 4, none⟩ = some (.int .i64 x.s) := qq.cell 4; have r5 : w5.cell? ⟨wr.heap.size, 5, none⟩ = some (.int .i64 x.e) := qq.cell 5; have r6 : w5.cell? ⟨wr.heap.size, 6, none⟩ = some (.int .i64 x.lng) := qq.cell 6; have r7 : w5.cell? ⟨wr.heap.size, 7, none⟩ = some (.bool sk) := qq.cell 7; have r8 : w5.cell? ⟨wr.heap.size, 8, none⟩ = some (.int .i64 ik) := qq.cell 8))
      have hb6 := below_then (below_drewN hb1 1 : Below w.heap.size w wB.drew) (Nat.le_refl _) hb5
      clear w1 w2
      go_wp2_with fail
      go_roundw
      case rel => exact ⟨k + 1, by omega, by go_num, by rw [P2.out], hb6⟩
      case measure => simp [intOf]; omega
    · obtain rfl : k = xs.length := by omega
      go_wp2_with fail
      go_ret
      exact ⟨rfl, hbel⟩
end Go.Proofs.Ytadlabndbomgmaa
