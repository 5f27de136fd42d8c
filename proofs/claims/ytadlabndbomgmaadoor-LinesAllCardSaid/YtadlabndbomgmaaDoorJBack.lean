/- The walk of slices.Backward over parts of lines, and of a group's last blank. -/
import Derived.RangeFuncNested
import Derived.RangeFuncBound
import Derived.RangeFuncCalls
import Derived.RangeFuncLeaves
import Derived.Shelf.Abstract
import Derived.Shelf.RegionOpen
import Derived.WalkKit
import Derived.OwnWalkIn
import Derived.TacticsInMore
import Derived.LoopNIn
import Derived.LoopIn
import Derived.Test.YtadlabndbomgmaaDoorJPartB
set_option linter.unusedVariables false
set_option linter.unusedSimpArgs false
namespace Go.Proofs.YtadlabndbomgmaaDoor
open Go.RowKit Go.Shelf
attribute [local go_sem] Oper.semAt_some
def upL {α : Type} (f : Nat → α) (k : Nat) : List α := (List.range k).map f
theorem upL_succ {α : Type} (f : Nat → α) (k : Nat) : upL f (k + 1) = upL f k ++ [f k] := by simp [upL, List.range_succ]
theorem upL_length {α : Type} (f : Nat → α) (k : Nat) : (upL f k).length = k := by simp [upL]
def bkV (g : Nat) (ps : List Pt) (k : Nat) : Array Value := #[.int .i64 (k : Int), .agg (ptV g (ptAt ps k))]
def bkF (n : Nat) (h : 0 < n) (j : Nat) : Fin n := ⟨n - 1 - j, by omega⟩
set_option maxRecDepth 100000 in
set_option maxHeartbeats 2000000 in
theorem back1_in (F : Fence) (n : Nat) (h8 : F.fn 94) (hro : F.round = none) (hn : 1 ≤ n) (l Bs n₀ b off cap g : Nat) (ps : List Pt) (hl : ps.length ≤ 100000) (hl0 : 0 < ps.length) (hb : b < n₀) (J Jx : List (Fin ps.length) → World → Prop)
    (hY : ∀ pre x W, J pre W → pre.length < ps.length → YieldAt F (n - 1) Tryd.prog l (bkV g ps x.1) W fun e W' =>
      (e = .returned (.bool true) ∧ J (pre ++ [x]) W' ∧ Below n₀ W W') ∨ (e = .returned (.bool false) ∧ Jx (pre ++ [x]) W'))
    (W : World) (hBs : W.cell? ⟨Bs, 0, none⟩ = some (.slice (some ⟨b, off, none⟩) ps.length cap)) (hBn : Bs < n₀) (hc : PtsAt W g b off ps) (h0 : J [] W) :
    CallsIn F n Tryd.prog 94 #[.func (.yield l) #[] #[], .pointer (some ⟨Bs, 0, none⟩)] W fun e W' => (∃ v, e = .returned v) ∧
      ((∃ ys, ys = upL (bkF ps.length hl0) ps.length ∧ J ys W') ∨ (∃ pre, (∃ k, k ≤ ps.length ∧ pre = upL (bkF ps.length hl0) k) ∧ Jx pre W')) := by
  have HC := hide hc
  have HB := hide hBs
  clear hc
  have w0 : IntKind.i64.wrap ((ps.length : Int) - 1) = (ps.length : Int) - 1 := IntWalk.i64_in _ (by omega)
  refine callsIn_of_wp Tryd.func94 rfl h8 ?_ hro
  simp only [Tryd.ntmps94, List.size_toArray, List.length_cons, List.length_nil, Nat.reduceAdd, Nat.reduceSub, Array.replicate_succ, Array.replicate_zero, List.push_toArray, List.append_toArray, List.nil_append, List.cons_append]
  gi_wp2
  clear hBs
  gi_loopw [3] (fun i wr => ∃ k m : Nat, k + m = ps.length ∧ i = .int .i64 ((m : Int) - 1) ∧ J (upL (bkF ps.length hl0) k) wr ∧ Below n₀ W wr)
    (fun i _ => ((intOf i) + 1).toNat)
  case atStart => exact ⟨0, ps.length, by omega, rfl, h0, Below.refl _ _⟩
  case round =>
    obtain ⟨k, m, hk, rfl, hJs, hnx⟩ := hrel
    cases m with
    | zero =>
      obtain rfl : k = ps.length := by omega
      gi_wp2
      go_end0
      exact ⟨⟨_, rfl⟩, .inl ⟨_, rfl, hJs⟩⟩
    | succ m =>
      have hfk : bkF ps.length hl0 k = ⟨m, by omega⟩ := by unfold bkF; congr 1; omega
      obtain ⟨fn, tmps, assign, body, hy, hR⟩ := hY _ (bkF ps.length hl0 k) wr hJs (by rw [upL_length]; omega)
      rw [hfk] at hy hR
      dsimp only [bkV, ptV] at hy
      have hcell : wr.cell? ⟨Bs, 0, none⟩ = some (.slice (some ⟨b, off, none⟩) ps.length cap) := (hnx.cell (p := ⟨Bs, 0, none⟩) hBn).trans HB.out
      have hps := HC.out.below hnx hb
      have hm : m < ps.length := by omega
      have d0 : wr.cell? ⟨b, off + m * 5, none⟩ = some (.pointer (some ⟨g, (ptAt ps m).i * 11, none⟩)) := hps m hm 0 (by omega)
      have d1 : wr.cell? ⟨b, off + m * 5 + 1, none⟩ = some (.int .i64 (ptAt ps m).i) := hps m hm 1 (by omega)
      have d2 : wr.cell? ⟨b, off + m * 5 + 2, none⟩ = some (.string (ptAt ps m).t) := hps m hm 2 (by omega)
      have d3 : wr.cell? ⟨b, off + m * 5 + 3, none⟩ = some (.int .i64 (ptAt ps m).w) := hps m hm 3 (by omega)
      have d4 : wr.cell? ⟨b, off + m * 5 + 4, none⟩ = some (.bool (ptAt ps m).last) := hps m hm 4 (by omega)
      rw [show (((m + 1 : Nat) : Int) - 1) = m by omega]
      clear hps
      gi_wp2
      have w1 : IntKind.i64.wrap ((m : Int) - 1) = (m : Int) - 1 := IntWalk.i64_in _ (by omega)
      refine hR.mono ?_
      rintro e W3 (⟨rfl, hJ3, hk3⟩ | ⟨rfl, hJx3⟩)
      · gi_wp2
        go_roundw
        case rel => exact ⟨k + 1, m, by omega, rfl, by rw [upL_succ, hfk]; exact hJ3, hnx.trans hk3⟩
        case measure => simp only [intOf]; omega
      · gi_wp2
        refine bodyPost_ret (results_none rfl _ _ _) rfl ?_
        exact ⟨⟨_, rfl⟩, .inr ⟨_, ⟨k + 1, by omega, rfl⟩, by rw [upL_succ, hfk]; exact hJx3⟩⟩
theorem back_in (F : Fence) (n : Nat) (h6 : F.fn 69) (hro : F.round = none) (a : Option Addr) (len cap : Nat) (w : World) :
    CallsIn F n Tryd.prog 69 #[.slice a len cap] w fun e w' => e = .returned (.func (.func 94) #[] #[.pointer (some ⟨w.heap.size, 0, none⟩)]) ∧ w' = w.alloc (.cells #[.slice a len cap] 79) := by
  refine callsIn_of_wp Tryd.func69 rfl h6 ?_ hro
  simp only [Tryd.ntmps69, List.size_toArray, List.length_cons, List.length_nil, Nat.reduceAdd, Nat.reduceSub, Array.replicate_succ, Array.replicate_zero, List.push_toArray, List.append_toArray, List.nil_append, List.cons_append]
  gi_wp2
  go_ret
  exact ⟨rfl, rfl⟩
theorem back_stops (F : Fence) (n : Nat) (h8 : F.fn 94) (hro : F.round = none) (hn : 1 ≤ n) (Bs n₀ b off cap g : Nat) (ps : List Pt) (hl : ps.length ≤ 100000) (hl0 : 0 < ps.length) (hb : b < n₀) (w : World) (hn₀ : n₀ ≤ w.heap.size)
    (hBs : w.cell? ⟨Bs, 0, none⟩ = some (.slice (some ⟨b, off, none⟩) ps.length cap)) (hBn : Bs < n₀) (hc : PtsAt w g b off ps) :
    SeqStopsK F n Tryd.prog 94 #[.pointer (some ⟨Bs, 0, none⟩)] (fun x : Fin ps.length => bkV g ps x.1) (Below n₀) (fun ys => ys = upL (bkF ps.length hl0) ps.length)
      (fun pre => ∃ k, k ≤ ps.length ∧ pre = upL (bkF ps.length hl0) k) ps.length w := fun l J Jx W hW _ _ hY h0 =>
  back1_in F n h8 hro hn l Bs n₀ b off cap g ps hl hl0 hb J Jx hY W ((hW.cell (p := ⟨Bs, 0, none⟩) (Nat.lt_of_lt_of_le hBn hn₀)).trans hBs) hBn (hc.below hW (Nat.lt_of_lt_of_le hb hn₀)) h0
theorem tail_back (xs : List It) (ps : List Pt) (k : Nat) (hk : k ≤ ps.length) (h : ∀ j, j < k → skipA (pKind xs (ptAt ps (ps.length - 1 - j))) = true) : tailG xs ps.reverse = tailG xs (ps.take (ps.length - k)).reverse := by
  induction k with
  | zero => rw [Nat.sub_zero, List.take_length]
  | succ k ih =>
    rw [ih (by omega) fun j hj => h j (by omega)]
    have hlt : ps.length - k - 1 < ps.length := by omega
    have h1 := h k (by omega)
    rw [show ps.length - k = (ps.length - k - 1) + 1 by omega, List.take_succ_eq_append_getElem hlt, List.reverse_append, List.reverse_singleton, List.singleton_append]
    simp only [tailG]
    rw [show ps.length - 1 - k = ps.length - k - 1 by omega, ptAt_of ps _ hlt] at h1
    rw [if_pos h1, show ps.length - (k + 1) = ps.length - k - 1 by omega]
theorem tail_none (xs : List It) (ps : List Pt) (h : ∀ j, j < ps.length → skipA (pKind xs (ptAt ps (ps.length - 1 - j))) = true) : tailG xs ps.reverse = 0 := by
  rw [tail_back xs ps ps.length (Nat.le_refl _) h, Nat.sub_self, List.take_zero]; rfl
theorem tail_some (xs : List It) (ps : List Pt) (k : Nat) (hk : k < ps.length) (h : ∀ j, j < k → skipA (pKind xs (ptAt ps (ps.length - 1 - j))) = true) (hn : skipA (pKind xs (ptAt ps (ps.length - 1 - k))) = false) : tailG xs ps.reverse = tailF xs (ptAt ps (ps.length - 1 - k)) := by
  have hlt : ps.length - k - 1 < ps.length := by omega
  rw [tail_back xs ps k (by omega) h, show ps.length - k = (ps.length - k - 1) + 1 by omega, List.take_succ_eq_append_getElem hlt, List.reverse_append, List.reverse_singleton, List.singleton_append]
  simp only [tailG]
  rw [show ps.length - 1 - k = ps.length - k - 1 by omega, ptAt_of ps _ hlt] at hn ⊢
  rw [hn]; rfl
theorem blk_own {β : Type} (B : Nat) (t : TypeId) (f : β → Array Value) : Own (fun s W => Blk W B t (f s)) := fun s X Y row hs hg hrow =>
  (hg.block B hs.lt (fun e' => by obtain ⟨o, ho, hc⟩ := hrow B e'.symm; rw [show X.heap[B]? = _ from hs] at ho; cases ho; cases hc)).trans hs
set_option maxRecDepth 100000 in
set_option maxHeartbeats 4000000 in
theorem gtail_any (xs : List It) (g : Nat) (ps : List Pt) (h off c : Nat) (w : World) (hI : ItsAt w g xs) (hg : g < w.heap.size) (hp : PtsAt w g h off ps) (hh : h < w.heap.size) (hl : ps.length ≤ 100000) (hl0 : 0 < ps.length)
    (hok : ∀ p ∈ ps, p.i < xs.length ∧ PtOk xs p) :
    Calls Tryd.prog 46 #[.slice (some ⟨h, off, none⟩) ps.length c] w fun e w' => e = .returned (.int .i64 (tailG xs ps.reverse)) ∧ Below w.heap.size w w' := by
  refine (callsIn_wide (n := 3)).1 ?_
  refine callsIn_of_wp_marks Tryd.func46 rfl trivial ?_ rfl
  simp only [Tryd.ntmps46, List.size_toArray, List.length_cons, List.length_nil, Nat.reduceAdd, Nat.reduceSub, Array.replicate_succ, Array.replicate_zero, List.push_toArray, List.append_toArray, List.nil_append, List.cons_append]
  gi_wp2_with (refine ⟨trivial, ?_⟩; gi_at_call 69; refine (back_in Fence.wide _ trivial rfl _ _ _ _).mono ?_; rintro e w' ⟨rfl, rfl⟩)
  have bR := Boxed.new w 3 (.int .i64 0)
  have bN := Boxed.new (w.alloc (.cells #[.int .i64 0] 3)) 79 (.slice (some ⟨h, off, none⟩) ps.length c)
  rw [World.size_alloc] at bN
  have hB0 : Below w.heap.size w ((w.alloc (.cells #[.int .i64 0] 3)).alloc (.cells #[.slice (some ⟨h, off, none⟩) ps.length c] 79)) := ((Below.refl _ w).alloc (Nat.le_refl _) _).alloc (by simp) _
  have bR2 := bR.alloc (.cells #[.slice (some ⟨h, off, none⟩) ps.length c] 79)
  have hsz : ((w.alloc (.cells #[.int .i64 0] 3)).alloc (.cells #[.slice (some ⟨h, off, none⟩) ps.length c] 79)).heap.size = w.heap.size + 2 := by simp
  clear bR
  generalize (w.alloc (.cells #[.int .i64 0] 3)).alloc (.cells #[.slice (some ⟨h, off, none⟩) ps.length c] 79) = W0 at *
  refine wpIn_rangeFunc_ownH rfl (by omega) (gf := 94) (lb := #[.pointer (some ⟨w.heap.size + 1, 0, none⟩)]) rfl trivial (enters_of Tryd.func94 (by kernel_rfl) rfl)
    (back_stops Fence.wide _ trivial rfl (by omega) (w.heap.size + 1) (w.heap.size + 2) h off c g ps hl hl0 (by omega) W0 (by omega) bN.cell (by omega) (hp.below hB0 hh)) belowK_t (belowK_b (by omega)) (Below.refl _ _) (fun _ => rfl)
    (fun pre W => ((∀ q ∈ pre, skipA (pKind xs (ptAt ps q.1)) = true) ∧ W.cell? ⟨w.heap.size, 0, none⟩ = some (.int .i64 0) ∧ W.frozen? ⟨w.heap.size, 0, none⟩ = false) ∧ Below w.heap.size w W ∧ w.heap.size + 2 ≤ W.heap.size)
    (fun cd pre W => (cd = .ret ∧ ∃ ini last, pre = ini ++ [last] ∧ (∀ q ∈ ini, skipA (pKind xs (ptAt ps q.1)) = true) ∧ skipA (pKind xs (ptAt ps last.1)) = false ∧ W.cell? ⟨w.heap.size, 0, none⟩ = some (.int .i64 (tailF xs (ptAt ps last.1)))) ∧ Below w.heap.size w W)
    (OwnFrom.and (Own.from (fun s A B row hs hg hr => ⟨hs.1, cell_kept hs.2.1 hg hr, (frozen_kept hs.2.1 hg hr).trans hs.2.2⟩) _) (OwnFrom.and (ownFrom_below (Nat.le_refl _) (by omega)) (fun s A B row hs hg _ => Nat.le_trans hs hg.size)))
    (fun cd => OwnFrom.and (Own.from (fun s A B row hs hg hr => by obtain ⟨hc, ini, last, e1, e2, e3, e4⟩ := hs; exact ⟨hc, ini, last, e1, e2, e3, cell_kept e4 hg hr⟩) _) (ownFrom_below (Nat.le_refl _) (by omega)))
    ⟨⟨by simp, bR2.cell, bR2.frozen⟩, hB0, by omega⟩
    (fun x a' W => ∃ Bx, w.heap.size + 2 ≤ Bx ∧ Blk W Bx 96 (ptV g (ptAt ps x.1)) ∧ a' = { tmps := #[.slice (some ⟨h, off, none⟩) ps.length c, undef, .pointer (some ⟨w.heap.size, 0, none⟩), undef, .pointer (some ⟨Bx, 0, none⟩), .slice (some ⟨h, off, none⟩) ps.length c, .func (.func 94) #[] #[.pointer (some ⟨w.heap.size + 1, 0, none⟩)], .int .i64 (x.1 : Int), .agg (ptV g (ptAt ps x.1)), undef, undef, undef, undef, undef, undef, undef, undef, undef, undef, undef], defers := [] })
    (fun x a' s W W' row hs hg hr => by
      obtain ⟨Bx, e1, e2, e3⟩ := hs
      exact ⟨Bx, e1, (blk_own Bx 96 (fun _ : Unit => ptV g (ptAt ps x.1))).from _ () W W' row e2 hg hr, e3⟩) ?assign ?body ?done ?stop
  case assign =>
    rintro l pre x W K ⟨⟨hp1, hcr, hfr⟩, hB, hbs⟩ hK
    dsimp only [bkV, ptV]
    gi_wp2
    have HBA := Below.alloc (Below.refl (w.heap.size + 2) W) hbs (.cells #[.pointer (some ⟨g, (ptAt ps x.1).i * 11, none⟩), .int .i64 (ptAt ps x.1).i, .string (ptAt ps x.1).t, .int .i64 (ptAt ps x.1).w, .bool (ptAt ps x.1).last] 96)
    exact hK _ _ ((KeepsOthers.alloc W _).from _) HBA ⟨⟨hp1, (HBA.cell (p := ⟨w.heap.size, 0, none⟩) (by simp)).trans hcr, (HBA.frozen (p := ⟨w.heap.size, 0, none⟩) (by simp)).trans hfr⟩, hB.alloc hB.size _, Nat.le_trans hbs HBA.size⟩ ⟨W.heap.size, hbs, Blk.new W 96 (ptV g (ptAt ps x.1)), rfl⟩
  case body =>
    rintro l pre x a' W hll hrec ⟨⟨hp1, hcr, hfr⟩, hB, hbs⟩ ⟨Bx, hBx, bX, rfl⟩ hlt
    have hxo := hok (ptAt ps x.1) (by rw [ptAt_of ps x.1 x.2]; exact List.getElem_mem _)
    have hIW := hI.below hB hg
    have ic := hIW.c0 hxo.1
    have HT := hide (ptail_any xs g (ptAt ps x.1) W hIW hxo.1 (by have := hxo.2; unfold PtOk at this; omega) (by have := hxo.2; unfold PtOk at this; omega))
    have HS := hide (show skipA (pKind xs (ptAt ps x.1)) = ((itAt xs (ptAt ps x.1).i).kind == 3 || (itAt xs (ptAt ps x.1).i).kind == 7 || (itAt xs (ptAt ps x.1).i).kind == 5) from rfl)
    have b0 : W.cell? ⟨Bx, 0, none⟩ = some (.pointer (some ⟨g, (ptAt ps x.1).i * 11, none⟩)) := bX.cell 0
    have b1 : W.cell? ⟨Bx, 1, none⟩ = some (.int .i64 (ptAt ps x.1).i) := bX.cell 1
    have b2 : W.cell? ⟨Bx, 2, none⟩ = some (.string (ptAt ps x.1).t) := bX.cell 2
    have b3 : W.cell? ⟨Bx, 3, none⟩ = some (.int .i64 (ptAt ps x.1).w) := bX.cell 3
    have b4 : W.cell? ⟨Bx, 4, none⟩ = some (.bool (ptAt ps x.1).last) := bX.cell 4
    generalize (itAt xs (ptAt ps x.1).i).kind = kd at *
    dsimp only [ptV]
    have hz : w.heap.size < W.heap.size := by omega
    have HSN := hide (show skipA (pKind xs (ptAt ps x.1)) = true → ∀ q ∈ pre ++ [x], skipA (pKind xs (ptAt ps q.1)) = true from fun h q hq => by
      rcases List.mem_append.1 hq with hq | hq
      · exact hp1 q hq
      · obtain rfl : q = x := by simpa using hq
        exact h)
    by_cases h3 : kd = 3
    · have z3 : (kd == 3) = true := by simp [h3]
      have hs := hide (HSN.out (by rw [HS.out, z3]; rfl))
      clear HT HS h3
      gi_wp2
      exact ⟨KeepsFrom.refl _ _, Below.refl _ _, ⟨hs.out, hcr, hfr⟩, hB, hbs⟩
    · have z3 : (kd == 3) = false := by simp [h3]
      by_cases h7 : kd = 7
      · have z7 : (kd == 7) = true := by simp [h7]
        have hs := hide (HSN.out (by rw [HS.out, z3, z7]; rfl))
        clear HT HS h3 h7
        gi_wp2
        exact ⟨KeepsFrom.refl _ _, Below.refl _ _, ⟨hs.out, hcr, hfr⟩, hB, hbs⟩
      · have z7 : (kd == 7) = false := by simp [h7]
        by_cases h5 : kd = 5
        · have z5 : (kd == 5) = true := by simp [h5]
          have hs := hide (HSN.out (by rw [HS.out, z3, z7, z5]; rfl))
          clear HT HS h3 h7 h5
          gi_wp2
          exact ⟨KeepsFrom.refl _ _, Below.refl _ _, ⟨hs.out, hcr, hfr⟩, hB, hbs⟩
        · have z5 : (kd == 5) = false := by simp [h5]
          have hs := hide (show skipA (pKind xs (ptAt ps x.1)) = false from by rw [HS.out, z3, z7, z5]; rfl)
          clear HS h3 h7 h5
          gi_wp2_with (refine ⟨trivial, ?_⟩; gi_at_call 70; refine (CallsIn.inRound l (callsIn_wide.2 HT.out)).mono ?_; rintro e w5 ⟨rfl, hb5⟩; have hc5 := (hb5.cell (p := ⟨w.heap.size, 0, none⟩) hz).trans hcr; have hf5 := (hb5.frozen (p := ⟨w.heap.size, 0, none⟩) hz).trans hfr)
          have b5 := below_then hB (Nat.le_refl _) hb5
          exact ⟨(KeepsFrom.of_grownBy (only_of_below hb5 none) (fun j e => by cases e)).trans ((KeepsOthers.setCell _ _ _).from _), ⟨rfl, pre, x, rfl, hp1, hs.out, World.cell?_setCell_same' _ _ _ (by rw [hc5]; rfl)⟩, b5.setCell (p := ⟨w.heap.size, 0, none⟩) (Nat.le_refl _) _⟩
  case done =>
    rintro D ys W hD rfl ⟨⟨hne, hcr, hfr⟩, hB, hbs⟩ hK
    gi_wp2
    have hK' := (KeepsOthers.setCell W ⟨w.heap.size, 0, none⟩ (.int .i64 0)).same D _ hK rfl
    refine ⟨by simp, .inl ⟨_, _, rfl, run_takeDeferred hK', ?_⟩⟩
    have hc5 := cell_kept (World.cell?_setCell_same' W ⟨w.heap.size, 0, none⟩ (.int .i64 0) (by rw [hcr]; rfl)) (grownBy_putObj' _ D (.deferred none)) (fun r e => by cases e; exact ⟨_, hK', rfl⟩)
    have ht := tail_none xs ps fun j hj => hne (bkF ps.length hl0 j) (by simp only [upL, List.mem_map, List.mem_range]; exact ⟨j, hj, rfl⟩)
    refine ⟨.int .i64 0, ?_, by rw [ht], (hB.setCell (p := ⟨w.heap.size, 0, none⟩) (Nat.le_refl _) _).trans (belowK_b (w := w) (Nat.le_refl _) _ D _ _ (by omega) hK' rfl rfl)⟩
    simp [results, Tryd.f46, go_sem, hc5]
  case stop =>
    rintro D cd pre W hD ⟨k, hk, rfl⟩ ⟨⟨rfl, ini, last, e1, e2, e3, hcr⟩, hB⟩ hK
    gi_wp2
    refine ⟨by simp, .inl ⟨_, _, rfl, run_takeDeferred hK, ?_⟩⟩
    have hc5 := cell_kept hcr (grownBy_putObj' _ D (.deferred none)) (fun r e => by cases e; exact ⟨_, hK, rfl⟩)
    obtain ⟨k', rfl⟩ : ∃ k', k = k' + 1 := by
      cases k with
      | zero => simp [upL] at e1
      | succ k' => exact ⟨k', rfl⟩
    rw [upL_succ] at e1
    obtain ⟨rfl, e5⟩ := List.append_inj' e1 rfl
    obtain rfl : bkF ps.length hl0 k' = last := by simpa using e5
    have ht := tail_some xs ps k' (by omega) (fun j hj => e2 (bkF ps.length hl0 j) (by simp only [upL, List.mem_map, List.mem_range]; exact ⟨j, hj, rfl⟩)) e3
    refine ⟨.int .i64 (tailF xs (ptAt ps (ps.length - 1 - k'))), ?_, by rw [ht], hB.trans (belowK_b (w := w) (Nat.le_refl _) W D _ _ (by omega) hK rfl rfl)⟩
    simp [results, Tryd.f46, go_sem, hc5]
    rfl
end Go.Proofs.YtadlabndbomgmaaDoor
