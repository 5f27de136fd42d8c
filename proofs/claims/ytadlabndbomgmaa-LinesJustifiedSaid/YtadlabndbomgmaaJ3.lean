/- Parts of the proof, joined: Back, BrkA, CleanG, CloneP, Groups, GroupsD, Sizes, TailR, Yield, Steps, Steps2. -/
import Derived.RangeFuncNested
import Derived.RangeFuncBound
import Derived.RangeFuncCalls
import Derived.RangeFuncLeaves
import Derived.Shelf.Abstract
import Derived.Shelf.RegionOpen
import Derived.WalkKit
import Derived.OwnWalkIn
import Derived.TacticsInMore
import Derived.LoopNIn
import Derived.LoopIn
import Derived.BigQuiet
import Derived.Handy
import Derived.IntWalk
import Derived.RegionTactic
import Derived.Deep.MidRow
import Derived.Deep.QuietTactic
import Derived.Deep.RegionHeld3
import Derived.Test.YtadlabndbomgmaaJ2
import Derived.Test.YtadlabndbomgmaaJPartsG
import Derived.Test.YtadlabndbomgmaaJMayEnd
import Derived.Test.YtadlabndbomgmaaJ1
set_option linter.unusedVariables false
set_option linter.unusedSimpArgs false
/- The walk of slices.Backward over parts of lines, and of a group's last blank. -/
namespace Go.Proofs.Ytadlabndbomgmaa
open Go.RowKit Go.Shelf
attribute [local go_sem] Oper.semAt_some
def upL {α : Type} (f : Nat → α) (k : Nat) : List α := (List.range k).map f
theorem upL_succ {α : Type} (f : Nat → α) (k : Nat) : upL f (k + 1) = upL f k ++ [f k] := by simp [upL, List.range_succ]
theorem upL_length {α : Type} (f : Nat → α) (k : Nat) : (upL f k).length = k := by simp [upL]
def bkV (g : Nat) (ps : List Pt) (k : Nat) : Array Value := #[.int .i64 (k : Int), .agg (ptV g (ptAt ps k))]
def bkF (n : Nat) (h : 0 < n) (j : Nat) : Fin n := ⟨n - 1 - j, by omega⟩
set_option maxRecDepth 100000 in
set_option maxHeartbeats 2000000 in
theorem back1_in (F : Fence) (n : Nat) (h8 : F.fn 168) (hro : F.round = none) (hn : 1 ≤ n) (l Bs n₀ b off cap g : Nat) (ps : List Pt) (hl : ps.length ≤ 100000) (hl0 : 0 < ps.length) (hb : b < n₀) (J Jx : List (Fin ps.length) → World → Prop)
    (hY : ∀ pre x W, J pre W → pre.length < ps.length → YieldAt F (n - 1) Try.prog l (bkV g ps x.1) W fun e W' =>
      (e = .returned (.bool true) ∧ J (pre ++ [x]) W' ∧ Below n₀ W W') ∨ (e = .returned (.bool false) ∧ Jx (pre ++ [x]) W'))
    (W : World) (hBs : W.cell? ⟨Bs, 0, none⟩ = some (.slice (some ⟨b, off, none⟩) ps.length cap)) (hBn : Bs < n₀) (hc : PtsAt W g b off ps) (h0 : J [] W) :
    CallsIn F n Try.prog 168 #[.func (.yield l) #[] #[], .pointer (some ⟨Bs, 0, none⟩)] W fun e W' => (∃ v, e = .returned v) ∧
      ((∃ ys, ys = upL (bkF ps.length hl0) ps.length ∧ J ys W') ∨ (∃ pre, (∃ k, k ≤ ps.length ∧ pre = upL (bkF ps.length hl0) k) ∧ Jx pre W')) := by
  have HC := hide hc
  have HB := hide hBs
  clear hc
  have w0 : IntKind.i64.wrap ((ps.length : Int) - 1) = (ps.length : Int) - 1 := IntWalk.i64_in _ (by omega)
  refine callsIn_of_wp Try.func168 rfl h8 ?_ hro
  simp only [Try.ntmps168, List.size_toArray, List.length_cons, List.length_nil, Nat.reduceAdd, Nat.reduceSub, Array.replicate_succ, Array.replicate_zero, List.push_toArray, List.append_toArray, List.nil_append, List.cons_append]
  gi_wp2
  clear hBs
  gi_loopw [3] (fun i wr => ∃ k m : Nat, k + m = ps.length ∧ i = .int .i64 ((m : Int) - 1) ∧ J (upL (bkF ps.length hl0) k) wr ∧ Below n₀ W wr)
    (fun i _ => ((intOf i) + 1).toNat)
  case atStart => exact ⟨0, ps.length, by omega, rfl, h0, Below.refl _ _⟩
  case round =>
    obtain ⟨k, m, hk, rfl, hJs, hnx⟩ := hrel
    cases m with
    | zero =>
      obtain rfl : k = ps.length := by omega
      gi_wp2
      go_end0
      exact ⟨⟨_, rfl⟩, .inl ⟨_, rfl, hJs⟩⟩
    | succ m =>
      have hfk : bkF ps.length hl0 k = ⟨m, by omega⟩ := by unfold bkF; congr 1; omega
      obtain ⟨fn, tmps, assign, body, hy, hR⟩ := hY _ (bkF ps.length hl0 k) wr hJs (by rw [upL_length]; omega)
      rw [hfk] at hy hR
      dsimp only [bkV, ptV] at hy
      have hcell : wr.cell? ⟨Bs, 0, none⟩ = some (.slice (some ⟨b, off, none⟩) ps.length cap) := (hnx.cell (p := ⟨Bs, 0, none⟩) hBn).trans HB.out
      have hps := HC.out.below hnx hb
      have hm : m < ps.length := by omega
      have d0 : wr.cell? ⟨b, off + m * 5, none⟩ = some (.pointer (some ⟨g, (ptAt ps m).i * 11, none⟩)) := hps m hm 0 (by omega)
      have d1 : wr.cell? ⟨b, off + m * 5 + 1, none⟩ = some (.int .i64 (ptAt ps m).i) := hps m hm 1 (by omega)
      have d2 : wr.cell? ⟨b, off + m * 5 + 2, none⟩ = some (.string (ptAt ps m).t) := hps m hm 2 (by omega)
      have d3 : wr.cell? ⟨b, off + m * 5 + 3, none⟩ = some (.int .i64 (ptAt ps m).w) := hps m hm 3 (by omega)
      have d4 : wr.cell? ⟨b, off + m * 5 + 4, none⟩ = some (.bool (ptAt ps m).last) := hps m hm 4 (by omega)
      rw [show (((m + 1 : Nat) : Int) - 1) = m by omega]
      clear hps
      gi_wp2
      have w1 : IntKind.i64.wrap ((m : Int) - 1) = (m : Int) - 1 := IntWalk.i64_in _ (by omega)
      refine hR.mono ?_
      rintro e W3 (⟨rfl, hJ3, hk3⟩ | ⟨rfl, hJx3⟩)
      · gi_wp2
        go_roundw
        case rel => exact ⟨k + 1, m, by omega, rfl, by rw [upL_succ, hfk]; exact hJ3, hnx.trans hk3⟩
        case measure => simp only [intOf]; omega
      · gi_wp2
        refine bodyPost_ret (results_none rfl _ _ _) rfl ?_
        exact ⟨⟨_, rfl⟩, .inr ⟨_, ⟨k + 1, by omega, rfl⟩, by rw [upL_succ, hfk]; exact hJx3⟩⟩
theorem back_in (F : Fence) (n : Nat) (h6 : F.fn 156) (hro : F.round = none) (a : Option Addr) (len cap : Nat) (w : World) :
    CallsIn F n Try.prog 156 #[.slice a len cap] w fun e w' => e = .returned (.func (.func 168) #[] #[.pointer (some ⟨w.heap.size, 0, none⟩)]) ∧ w' = w.alloc (.cells #[.slice a len cap] 172) := by
  refine callsIn_of_wp Try.func156 rfl h6 ?_ hro
  simp only [Try.ntmps156, List.size_toArray, List.length_cons, List.length_nil, Nat.reduceAdd, Nat.reduceSub, Array.replicate_succ, Array.replicate_zero, List.push_toArray, List.append_toArray, List.nil_append, List.cons_append]
  gi_wp2
  go_ret
  exact ⟨rfl, rfl⟩
theorem back_stops (F : Fence) (n : Nat) (h8 : F.fn 168) (hro : F.round = none) (hn : 1 ≤ n) (Bs n₀ b off cap g : Nat) (ps : List Pt) (hl : ps.length ≤ 100000) (hl0 : 0 < ps.length) (hb : b < n₀) (w : World) (hn₀ : n₀ ≤ w.heap.size)
    (hBs : w.cell? ⟨Bs, 0, none⟩ = some (.slice (some ⟨b, off, none⟩) ps.length cap)) (hBn : Bs < n₀) (hc : PtsAt w g b off ps) :
    SeqStopsK F n Try.prog 168 #[.pointer (some ⟨Bs, 0, none⟩)] (fun x : Fin ps.length => bkV g ps x.1) (Below n₀) (fun ys => ys = upL (bkF ps.length hl0) ps.length)
      (fun pre => ∃ k, k ≤ ps.length ∧ pre = upL (bkF ps.length hl0) k) ps.length w := fun l J Jx W hW _ _ hY h0 =>
  back1_in F n h8 hro hn l Bs n₀ b off cap g ps hl hl0 hb J Jx hY W ((hW.cell (p := ⟨Bs, 0, none⟩) (Nat.lt_of_lt_of_le hBn hn₀)).trans hBs) hBn (hc.below hW (Nat.lt_of_lt_of_le hb hn₀)) h0
theorem tail_back (xs : List It) (ps : List Pt) (k : Nat) (hk : k ≤ ps.length) (h : ∀ j, j < k → skipA (pKind xs (ptAt ps (ps.length - 1 - j))) = true) : tailG xs ps.reverse = tailG xs (ps.take (ps.length - k)).reverse := by
  induction k with
  | zero => rw [Nat.sub_zero, List.take_length]
  | succ k ih =>
    rw [ih (by omega) fun j hj => h j (by omega)]
    have hlt : ps.length - k - 1 < ps.length := by omega
    have h1 := h k (by omega)
    rw [show ps.length - k = (ps.length - k - 1) + 1 by omega, List.take_succ_eq_append_getElem hlt, List.reverse_append, List.reverse_singleton, List.singleton_append]
    simp only [tailG]
    rw [show ps.length - 1 - k = ps.length - k - 1 by omega, ptAt_of ps _ hlt] at h1
    rw [if_pos h1, show ps.length - (k + 1) = ps.length - k - 1 by omega]
theorem tail_none (xs : List It) (ps : List Pt) (h : ∀ j, j < ps.length → skipA (pKind xs (ptAt ps (ps.length - 1 - j))) = true) : tailG xs ps.reverse = 0 := by
  rw [tail_back xs ps ps.length (Nat.le_refl _) h, Nat.sub_self, List.take_zero]; rfl
theorem tail_some (xs : List It) (ps : List Pt) (k : Nat) (hk : k < ps.length) (h : ∀ j, j < k → skipA (pKind xs (ptAt ps (ps.length - 1 - j))) = true) (hn : skipA (pKind xs (ptAt ps (ps.length - 1 - k))) = false) : tailG xs ps.reverse = tailF xs (ptAt ps (ps.length - 1 - k)) := by
  have hlt : ps.length - k - 1 < ps.length := by omega
  rw [tail_back xs ps k (by omega) h, show ps.length - k = (ps.length - k - 1) + 1 by omega, List.take_succ_eq_append_getElem hlt, List.reverse_append, List.reverse_singleton, List.singleton_append]
  simp only [tailG]
  rw [show ps.length - 1 - k = ps.length - k - 1 by omega, ptAt_of ps _ hlt] at hn ⊢
  rw [hn]; rfl
theorem blk_own {β : Type} (B : Nat) (t : TypeId) (f : β → Array Value) : Own (fun s W => Blk W B t (f s)) := fun s X Y row hs hg hrow =>
  (hg.block B hs.lt (fun e' => by obtain ⟨o, ho, hc⟩ := hrow B e'.symm; rw [show X.heap[B]? = _ from hs] at ho; cases ho; cases hc)).trans hs
set_option maxRecDepth 100000 in
set_option maxHeartbeats 4000000 in
theorem gtail_any (xs : List It) (g : Nat) (ps : List Pt) (h off c : Nat) (w : World) (hI : ItsAt w g xs) (hg : g < w.heap.size) (hp : PtsAt w g h off ps) (hh : h < w.heap.size) (hl : ps.length ≤ 100000) (hl0 : 0 < ps.length)
    (hok : ∀ p ∈ ps, p.i < xs.length ∧ PtOk xs p) :
    Calls Try.prog 133 #[.slice (some ⟨h, off, none⟩) ps.length c] w fun e w' => e = .returned (.int .i64 (tailG xs ps.reverse)) ∧ Below w.heap.size w w' := by
  refine (callsIn_wide (n := 3)).1 ?_
  refine callsIn_of_wp_marks Try.func133 rfl trivial ?_ rfl
  simp only [Try.ntmps133, List.size_toArray, List.length_cons, List.length_nil, Nat.reduceAdd, Nat.reduceSub, Array.replicate_succ, Array.replicate_zero, List.push_toArray, List.append_toArray, List.nil_append, List.cons_append]
  gi_wp2_with (refine ⟨trivial, ?_⟩; gi_at_call 156; refine (back_in Fence.wide _ trivial rfl _ _ _ _).mono ?_; rintro e w' ⟨rfl, rfl⟩)
  have bR := Boxed.new w 3 (.int .i64 0)
  have bN := Boxed.new (w.alloc (.cells #[.int .i64 0] 3)) 172 (.slice (some ⟨h, off, none⟩) ps.length c)
  rw [World.size_alloc] at bN
  have hB0 : Below w.heap.size w ((w.alloc (.cells #[.int .i64 0] 3)).alloc (.cells #[.slice (some ⟨h, off, none⟩) ps.length c] 172)) := ((Below.refl _ w).alloc (Nat.le_refl _) _).alloc (by simp) _
  have bR2 := bR.alloc (.cells #[.slice (some ⟨h, off, none⟩) ps.length c] 172)
  have hsz : ((w.alloc (.cells #[.int .i64 0] 3)).alloc (.cells #[.slice (some ⟨h, off, none⟩) ps.length c] 172)).heap.size = w.heap.size + 2 := by simp
  clear bR
  generalize (w.alloc (.cells #[.int .i64 0] 3)).alloc (.cells #[.slice (some ⟨h, off, none⟩) ps.length c] 172) = W0 at *
  refine wpIn_rangeFunc_ownH rfl (by omega) (gf := 168) (lb := #[.pointer (some ⟨w.heap.size + 1, 0, none⟩)]) rfl trivial (enters_of Try.func168 (by kernel_rfl) rfl)
    (back_stops Fence.wide _ trivial rfl (by omega) (w.heap.size + 1) (w.heap.size + 2) h off c g ps hl hl0 (by omega) W0 (by omega) bN.cell (by omega) (hp.below hB0 hh)) belowK_t (belowK_b (by omega)) (Below.refl _ _) (fun _ => rfl)
    (fun pre W => ((∀ q ∈ pre, skipA (pKind xs (ptAt ps q.1)) = true) ∧ W.cell? ⟨w.heap.size, 0, none⟩ = some (.int .i64 0) ∧ W.frozen? ⟨w.heap.size, 0, none⟩ = false) ∧ Below w.heap.size w W ∧ w.heap.size + 2 ≤ W.heap.size)
    (fun cd pre W => (cd = .ret ∧ ∃ ini last, pre = ini ++ [last] ∧ (∀ q ∈ ini, skipA (pKind xs (ptAt ps q.1)) = true) ∧ skipA (pKind xs (ptAt ps last.1)) = false ∧ W.cell? ⟨w.heap.size, 0, none⟩ = some (.int .i64 (tailF xs (ptAt ps last.1)))) ∧ Below w.heap.size w W)
    (OwnFrom.and (Own.from (fun s A B row hs hg hr => ⟨hs.1, cell_kept hs.2.1 hg hr, (frozen_kept hs.2.1 hg hr).trans hs.2.2⟩) _) (OwnFrom.and (ownFrom_below (Nat.le_refl _) (by omega)) (fun s A B row hs hg _ => Nat.le_trans hs hg.size)))
    (fun cd => OwnFrom.and (Own.from (fun s A B row hs hg hr => by obtain ⟨hc, ini, last, e1, e2, e3, e4⟩ := hs; exact ⟨hc, ini, last, e1, e2, e3, cell_kept e4 hg hr⟩) _) (ownFrom_below (Nat.le_refl _) (by omega)))
    ⟨⟨by simp, bR2.cell, bR2.frozen⟩, hB0, by omega⟩
    (fun x a' W => ∃ Bx, w.heap.size + 2 ≤ Bx ∧ Blk W Bx 192 (ptV g (ptAt ps x.1)) ∧ a' = { tmps := #[.slice (some ⟨h, off, none⟩) ps.length c, undef, .pointer (some ⟨w.heap.size, 0, none⟩), undef, .pointer (some ⟨Bx, 0, none⟩), .slice (some ⟨h, off, none⟩) ps.length c, .func (.func 168) #[] #[.pointer (some ⟨w.heap.size + 1, 0, none⟩)], .int .i64 (x.1 : Int), .agg (ptV g (ptAt ps x.1)), undef, undef, undef, undef, undef, undef, undef, undef, undef, undef, undef], defers := [] })
    (fun x a' s W W' row hs hg hr => by
      obtain ⟨Bx, e1, e2, e3⟩ := hs
      exact ⟨Bx, e1, (blk_own Bx 192 (fun _ : Unit => ptV g (ptAt ps x.1))).from _ () W W' row e2 hg hr, e3⟩) ?assign ?body ?done ?stop
  case assign =>
    rintro l pre x W K ⟨⟨hp1, hcr, hfr⟩, hB, hbs⟩ hK
    dsimp only [bkV, ptV]
    gi_wp2
    have HBA := Below.alloc (Below.refl (w.heap.size + 2) W) hbs (.cells #[.pointer (some ⟨g, (ptAt ps x.1).i * 11, none⟩), .int .i64 (ptAt ps x.1).i, .string (ptAt ps x.1).t, .int .i64 (ptAt ps x.1).w, .bool (ptAt ps x.1).last] 192)
    exact hK _ _ ((KeepsOthers.alloc W _).from _) HBA ⟨⟨hp1, (HBA.cell (p := ⟨w.heap.size, 0, none⟩) (by simp)).trans hcr, (HBA.frozen (p := ⟨w.heap.size, 0, none⟩) (by simp)).trans hfr⟩, hB.alloc hB.size _, Nat.le_trans hbs HBA.size⟩ ⟨W.heap.size, hbs, Blk.new W 192 (ptV g (ptAt ps x.1)), rfl⟩
  case body =>
    rintro l pre x a' W hll hrec ⟨⟨hp1, hcr, hfr⟩, hB, hbs⟩ ⟨Bx, hBx, bX, rfl⟩ hlt
    have hxo := hok (ptAt ps x.1) (by rw [ptAt_of ps x.1 x.2]; exact List.getElem_mem _)
    have hIW := hI.below hB hg
    have ic := hIW.c0 hxo.1
    have HT := hide (ptail_any xs g (ptAt ps x.1) W hIW hxo.1 (by have := hxo.2; unfold PtOk at this; omega) (by have := hxo.2; unfold PtOk at this; omega))
    have HS := hide (show skipA (pKind xs (ptAt ps x.1)) = ((itAt xs (ptAt ps x.1).i).kind == 3 || (itAt xs (ptAt ps x.1).i).kind == 7 || (itAt xs (ptAt ps x.1).i).kind == 5) from rfl)
    have b0 : W.cell? ⟨Bx, 0, none⟩ = some (.pointer (some ⟨g, (ptAt ps x.1).i * 11, none⟩)) := bX.cell 0
    have b1 : W.cell? ⟨Bx, 1, none⟩ = some (.int .i64 (ptAt ps x.1).i) := bX.cell 1
    have b2 : W.cell? ⟨Bx, 2, none⟩ = some (.string (ptAt ps x.1).t) := bX.cell 2
    have b3 : W.cell? ⟨Bx, 3, none⟩ = some (.int .i64 (ptAt ps x.1).w) := bX.cell 3
    have b4 : W.cell? ⟨Bx, 4, none⟩ = some (.bool (ptAt ps x.1).last) := bX.cell 4
    generalize (itAt xs (ptAt ps x.1).i).kind = kd at *
    dsimp only [ptV]
    have hz : w.heap.size < W.heap.size := by omega
    have HSN := hide (show skipA (pKind xs (ptAt ps x.1)) = true → ∀ q ∈ pre ++ [x], skipA (pKind xs (ptAt ps q.1)) = true from fun h q hq => by
      rcases List.mem_append.1 hq with hq | hq
      · exact hp1 q hq
      · obtain rfl : q = x := by simpa using hq
        exact h)
    by_cases h3 : kd = 3
    · have z3 : (kd == 3) = true := by simp [h3]
      have hs := hide (HSN.out (by rw [HS.out, z3]; rfl))
      clear HT HS h3
      gi_wp2
      exact ⟨KeepsFrom.refl _ _, Below.refl _ _, ⟨hs.out, hcr, hfr⟩, hB, hbs⟩
    · have z3 : (kd == 3) = false := by simp [h3]
      by_cases h7 : kd = 7
      · have z7 : (kd == 7) = true := by simp [h7]
        have hs := hide (HSN.out (by rw [HS.out, z3, z7]; rfl))
        clear HT HS h3 h7
        gi_wp2
        exact ⟨KeepsFrom.refl _ _, Below.refl _ _, ⟨hs.out, hcr, hfr⟩, hB, hbs⟩
      · have z7 : (kd == 7) = false := by simp [h7]
        by_cases h5 : kd = 5
        · have z5 : (kd == 5) = true := by simp [h5]
          have hs := hide (HSN.out (by rw [HS.out, z3, z7, z5]; rfl))
          clear HT HS h3 h7 h5
          gi_wp2
          exact ⟨KeepsFrom.refl _ _, Below.refl _ _, ⟨hs.out, hcr, hfr⟩, hB, hbs⟩
        · have z5 : (kd == 5) = false := by simp [h5]
          have hs := hide (show skipA (pKind xs (ptAt ps x.1)) = false from by rw [HS.out, z3, z7, z5]; rfl)
          clear HS h3 h7 h5
          gi_wp2_with (refine ⟨trivial, ?_⟩; gi_at_call 157; refine (CallsIn.inRound l (callsIn_wide.2 HT.out)).mono ?_; rintro e w5 ⟨rfl, hb5⟩; have hc5 := (hb5.cell (p := ⟨w.heap.size, 0, none⟩) hz).trans hcr; have hf5 := (hb5.frozen (p := ⟨w.heap.size, 0, none⟩) hz).trans hfr)
          have b5 := below_then hB (Nat.le_refl _) hb5
          exact ⟨(KeepsFrom.of_grownBy (only_of_below hb5 none) (fun j e => by cases e)).trans ((KeepsOthers.setCell _ _ _).from _), ⟨rfl, pre, x, rfl, hp1, hs.out, World.cell?_setCell_same' _ _ _ (by rw [hc5]; rfl)⟩, b5.setCell (p := ⟨w.heap.size, 0, none⟩) (Nat.le_refl _) _⟩
  case done =>
    rintro D ys W hD rfl ⟨⟨hne, hcr, hfr⟩, hB, hbs⟩ hK
    gi_wp2
    have hK' := (KeepsOthers.setCell W ⟨w.heap.size, 0, none⟩ (.int .i64 0)).same D _ hK rfl
    refine ⟨by simp, .inl ⟨_, _, rfl, run_takeDeferred hK', ?_⟩⟩
    have hc5 := cell_kept (World.cell?_setCell_same' W ⟨w.heap.size, 0, none⟩ (.int .i64 0) (by rw [hcr]; rfl)) (grownBy_putObj' _ D (.deferred none)) (fun r e => by cases e; exact ⟨_, hK', rfl⟩)
    have ht := tail_none xs ps fun j hj => hne (bkF ps.length hl0 j) (by simp only [upL, List.mem_map, List.mem_range]; exact ⟨j, hj, rfl⟩)
    refine ⟨.int .i64 0, ?_, by rw [ht], (hB.setCell (p := ⟨w.heap.size, 0, none⟩) (Nat.le_refl _) _).trans (belowK_b (w := w) (Nat.le_refl _) _ D _ _ (by omega) hK' rfl rfl)⟩
    simp [results, Try.f133, go_sem, hc5]
  case stop =>
    rintro D cd pre W hD ⟨k, hk, rfl⟩ ⟨⟨rfl, ini, last, e1, e2, e3, hcr⟩, hB⟩ hK
    gi_wp2
    refine ⟨by simp, .inl ⟨_, _, rfl, run_takeDeferred hK, ?_⟩⟩
    have hc5 := cell_kept hcr (grownBy_putObj' _ D (.deferred none)) (fun r e => by cases e; exact ⟨_, hK, rfl⟩)
    obtain ⟨k', rfl⟩ : ∃ k', k = k' + 1 := by
      cases k with
      | zero => simp [upL] at e1
      | succ k' => exact ⟨k', rfl⟩
    rw [upL_succ] at e1
    obtain ⟨rfl, e5⟩ := List.append_inj' e1 rfl
    obtain rfl : bkF ps.length hl0 k' = last := by simpa using e5
    have ht := tail_some xs ps k' (by omega) (fun j hj => e2 (bkF ps.length hl0 j) (by simp only [upL, List.mem_map, List.mem_range]; exact ⟨j, hj, rfl⟩)) e3
    refine ⟨.int .i64 (tailF xs (ptAt ps (ps.length - 1 - k'))), ?_, by rw [ht], hB.trans (belowK_b (w := w) (Nat.le_refl _) W D _ _ (by omega) hK rfl rfl)⟩
    simp [results, Try.f133, go_sem, hc5]
    rfl
end Go.Proofs.Ytadlabndbomgmaa
/- Walks: is a part solid, is it told; is there such a part in a group. -/
namespace Go.Proofs.Ytadlabndbomgmaa
open Go.ChangeShapes Go.WideShapes Go.ChangeAt Go.RowKit
theorem solid_any (xs : List It) (g : Nat) (p : Pt) (w : World) (hI : ItsAt w g xs) (hi : p.i < xs.length) :
    Calls Try.prog 160 #[.agg #[.pointer (some ⟨g, p.i * 11, none⟩), .int .i64 p.i, .string p.t, .int .i64 p.w, .bool p.last]] w fun e w' => e = .returned (.bool (solidF xs p)) ∧ Below w.heap.size w w' := by
  have hg := hI.lt (by omega)
  have HK := hide (show solidF xs p = ((itAt xs p.i).kind == 1 || (itAt xs p.i).kind == 4) from rfl)
  have hI2 := hI.alloc (.cells #[.pointer (some ⟨g, p.i * 11, none⟩), .int .i64 p.i, .string p.t, .int .i64 p.w, .bool p.last] 192) hg
  have c0 := hI2.c0 hi
  generalize (itAt xs p.i).kind = kd at *
  clear hI hI2
  cases hk : (kd == 1) <;> cases hm : (kd == 4)
  all_goals
    have hr := hide (HK.out.trans (by rw [hk, hm]))
    clear HK
    go_enter Try.func160, Try.ntmps160
    go_wp2_with fail
    go_ret
    exact ⟨ret_bool (by rw [hr.out]; first | rfl | simp), by go_grown⟩
theorem told_any (xs : List It) (g : Nat) (p : Pt) (w : World) (hI : ItsAt w g xs) (hi : p.i < xs.length) :
    Calls Try.prog 141 #[.agg #[.pointer (some ⟨g, p.i * 11, none⟩), .int .i64 p.i, .string p.t, .int .i64 p.w, .bool p.last]] w fun e w' => e = .returned (.bool (toldF xs p)) ∧ Below w.heap.size w w' := by
  have hg := hI.lt (by omega)
  have HK := hide (show toldF xs p = if (itAt xs p.i).kind == 1 || (itAt xs p.i).kind == 4 || (itAt xs p.i).kind == 6 then true else if (itAt xs p.i).kind == 2 || (itAt xs p.i).kind == 3 then p.w != 0 else false from rfl)
  have hI2 := hI.alloc (.cells #[.pointer (some ⟨g, p.i * 11, none⟩), .int .i64 p.i, .string p.t, .int .i64 p.w, .bool p.last] 192) hg
  have c0 := hI2.c0 hi
  generalize (itAt xs p.i).kind = kd at *
  clear hI hI2
  cases h1 : (kd == 1)
  · cases h4 : (kd == 4)
    · cases h6 : (kd == 6)
      · cases h2 : (kd == 2)
        · cases h3 : (kd == 3)
          all_goals
            have hr := hide (HK.out.trans (by rw [h1, h4, h6, h2, h3]))
            clear HK
            go_enter Try.func141, Try.ntmps141
            go_wp2_with fail
            go_ret
            exact ⟨ret_bool (by rw [hr.out]; first | rfl | simp), by go_grown⟩
        · have hr := hide (HK.out.trans (by rw [h1, h4, h6, h2]))
          clear HK
          go_enter Try.func141, Try.ntmps141
          go_wp2_with fail
          go_ret
          exact ⟨ret_bool (by rw [hr.out]; first | rfl | simp), by go_grown⟩
      · have hr := hide (HK.out.trans (by rw [h1, h4, h6]))
        clear HK
        go_enter Try.func141, Try.ntmps141
        go_wp2_with fail
        go_ret
        exact ⟨ret_bool (by rw [hr.out]; rfl), by go_grown⟩
    · have hr := hide (HK.out.trans (by rw [h1, h4]))
      clear HK
      go_enter Try.func141, Try.ntmps141
      go_wp2_with fail
      go_ret
      exact ⟨ret_bool (by rw [hr.out]; rfl), by go_grown⟩
  · have hr := hide (HK.out.trans (by rw [h1]))
    clear HK
    go_enter Try.func141, Try.ntmps141
    go_wp2_with fail
    go_ret
    exact ⟨ret_bool (by rw [hr.out]; rfl), by go_grown⟩
/-- Parts as a slice reads them, from wherever it begins. -/
def PtsR (w : World) (g : Nat) (A : Option Addr) (ps : List Pt) : Prop := 0 < ps.length → ∃ h off, A = some ⟨h, off, none⟩ ∧ h < w.heap.size ∧ PtsAt w g h off ps
theorem PtsR.below {w w' : World} {g : Nat} {A : Option Addr} {ps : List Pt} (h : PtsR w g A ps) (hb : Below w.heap.size w w') : PtsR w' g A ps := fun hl => by
  obtain ⟨q, off, h1, h2, h3⟩ := h hl
  exact ⟨q, off, h1, Nat.lt_of_lt_of_le h2 hb.size, h3.below hb h2⟩
theorem PtsR.own {w : World} {base g : Nat} {t : TypeId} {A : Option Addr} {n c : Nat} {ps : List Pt} (h : w.ownsRow base t 5 (.slice A n c) n (ptCells g ps)) (hl : ps.length = n) : PtsR w g A ps := fun h0 => by
  obtain ⟨q, h1, _, h2, h3⟩ := pts_of_own h hl (by omega)
  exact ⟨q, 0, h1, h2, h3⟩
def ItsR (w : World) (g : Nat) (xs : List It) : Prop := ItsAt w g xs ∧ (0 < xs.length → g < w.heap.size)
theorem ItsR.below {w w' : World} {g : Nat} {xs : List It} (h : ItsR w g xs) (hb : Below w.heap.size w w') : ItsR w' g xs :=
  ⟨fun k hk => h.1.below hb (h.2 (by omega)) k hk, fun hl => Nat.lt_of_lt_of_le (h.2 hl) hb.size⟩
def PsOk (xs : List It) (ps : List Pt) : Prop := ∀ p ∈ ps, p.i < xs.length ∧ PtOk xs p
set_option maxRecDepth 100000 in
set_option maxHeartbeats 2000000 in
theorem index_solid (xs : List It) (g : Nat) (ps : List Pt) (A : Option Addr) (c : Nat) (w : World) (hI : ItsR w g xs) (hp : PtsR w g A ps) (hl : ps.length ≤ 100000) (hok : PsOk xs ps) :
    Calls Try.prog 161 #[.slice A ps.length c, .func (.func 160) #[] #[]] w fun e w' => ∃ k : Int, e = .returned (.int .i64 k) ∧ decide (0 ≤ k) = ps.any (solidF xs) ∧ -1 ≤ k ∧ k ≤ 100000 ∧ Below w.heap.size w w' := by
  have HI := hide hI
  have HP := hide hp
  have HO := hide hok
  clear hI hp hok
  go_enter Try.func161, Try.ntmps161
  go_wp2_with fail
  go_loopw [8] (fun i wr => ∃ k : Nat, k ≤ ps.length ∧ i = .int .i64 k ∧ Hid ((ps.take k).any (solidF xs) = false) ∧ Below w.heap.size w wr) (fun i _ => ps.length - (intOf i).toNat)
  case atStart => exact ⟨0, Nat.zero_le _, rfl, hide rfl, Below.refl _ _⟩
  case round =>
    obtain ⟨k, hk, rfl, hn, hbel⟩ := hrel
    by_cases hlt : k < ps.length
    · obtain ⟨h, off, rfl, hh, hps0⟩ := HP.out (by omega)
      have hps := hps0.below hbel hh
      have d0 : wr.cell? ⟨h, off + k * 5, none⟩ = some (.pointer (some ⟨g, (ptAt ps k).i * 11, none⟩)) := hps k hlt 0 (by omega)
      have d1 : wr.cell? ⟨h, off + k * 5 + 1, none⟩ = some (.int .i64 (ptAt ps k).i) := hps k hlt 1 (by omega)
      have d2 : wr.cell? ⟨h, off + k * 5 + 2, none⟩ = some (.string (ptAt ps k).t) := hps k hlt 2 (by omega)
      have d3 : wr.cell? ⟨h, off + k * 5 + 3, none⟩ = some (.int .i64 (ptAt ps k).w) := hps k hlt 3 (by omega)
      have d4 : wr.cell? ⟨h, off + k * 5 + 4, none⟩ = some (.bool (ptAt ps k).last) := hps k hlt 4 (by omega)
      have hpo := HO.out _ (List.getElem_mem hlt)
      rw [← ptAt_of ps k hlt] at hpo
      have HS := hide (solid_any xs g (ptAt ps k) wr (HI.out.below hbel).1 hpo.1)
      have HN := hide (show (ps.take (k + 1)).any (solidF xs) = ((ps.take k).any (solidF xs) || solidF xs (ptAt ps k)) from by rw [List.take_succ_eq_append_getElem hlt, List.any_append, ptAt_of ps k hlt]; simp)
      have HA := hide (show solidF xs (ptAt ps k) = true → ps.any (solidF xs) = true from fun h => List.any_eq_true.2 ⟨_, List.getElem_mem hlt, by rw [← ptAt_of ps k hlt]; exact h⟩)
      clear hps hps0 hpo
      generalize ptAt ps k = p at *
      cases hs : solidF xs p
      · rw [hs] at HS
        have HN2 := hide (show (ps.take (k + 1)).any (solidF xs) = false from by rw [HN.out, hn.out, hs]; rfl)
        clear HN HA hs
        go_wp2_with (go_at_call 160; refine HS.out.mono ?_; rintro e w5 ⟨rfl, hb5⟩)
        go_roundw
        case rel => exact ⟨k + 1, by omega, by go_num, HN2, below_on hbel hb5⟩
        case measure => simp only [intOf]; omega
      · rw [hs] at HS
        have HA2 := hide (HA.out hs)
        clear HN HA hs
        go_wp2_with (go_at_call 160; refine HS.out.mono ?_; rintro e w5 ⟨rfl, hb5⟩)
        go_ret
        exact ⟨(k : Int), rfl, by rw [HA2.out, decide_eq_true (by omega)], by omega, by omega, below_on hbel hb5⟩
    · obtain rfl : k = ps.length := by omega
      have HN2 := hide (show ps.any (solidF xs) = false from by have := hn.out; rwa [List.take_length] at this)
      go_wp2_with fail
      go_ret
      exact ⟨-1, rfl, by rw [HN2.out]; rfl, by omega, by omega, hbel⟩
theorem contains_solid (xs : List It) (g : Nat) (ps : List Pt) (A : Option Addr) (c : Nat) (w : World) (hI : ItsR w g xs) (hp : PtsR w g A ps) (hl : ps.length ≤ 100000) (hok : PsOk xs ps) :
    Calls Try.prog 140 #[.slice A ps.length c, .func (.func 160) #[] #[]] w fun e w' => e = .returned (.bool (ps.any (solidF xs))) ∧ Below w.heap.size w w' := by
  have H := hide (index_solid xs g ps A c w hI hp hl hok)
  clear hI hp hok
  generalize ps.any (solidF xs) = b at *
  go_enter Try.func140, Try.ntmps140
  go_wp2_with fail
  refine H.out.mono ?_
  rintro e w1 ⟨k, rfl, hk, h1, h2, hb1⟩
  have HK := hide hk
  clear hk
  go_wp2_with fail
  go_ret
  exact ⟨ret_bool (by rw [← HK.out]), hb1⟩
set_option maxRecDepth 100000 in
set_option maxHeartbeats 2000000 in
theorem index_told (xs : List It) (g : Nat) (ps : List Pt) (A : Option Addr) (c : Nat) (w : World) (hI : ItsR w g xs) (hp : PtsR w g A ps) (hl : ps.length ≤ 100000) (hok : PsOk xs ps) :
    Calls Try.prog 161 #[.slice A ps.length c, .func (.func 141) #[] #[]] w fun e w' => ∃ k : Int, e = .returned (.int .i64 k) ∧ decide (0 ≤ k) = ps.any (toldF xs) ∧ -1 ≤ k ∧ k ≤ 100000 ∧ Below w.heap.size w w' := by
  have HI := hide hI
  have HP := hide hp
  have HO := hide hok
  clear hI hp hok
  go_enter Try.func161, Try.ntmps161
  go_wp2_with fail
  go_loopw [8] (fun i wr => ∃ k : Nat, k ≤ ps.length ∧ i = .int .i64 k ∧ Hid ((ps.take k).any (toldF xs) = false) ∧ Below w.heap.size w wr) (fun i _ => ps.length - (intOf i).toNat)
  case atStart => exact ⟨0, Nat.zero_le _, rfl, hide rfl, Below.refl _ _⟩
  case round =>
    obtain ⟨k, hk, rfl, hn, hbel⟩ := hrel
    by_cases hlt : k < ps.length
    · obtain ⟨h, off, rfl, hh, hps0⟩ := HP.out (by omega)
      have hps := hps0.below hbel hh
      have d0 : wr.cell? ⟨h, off + k * 5, none⟩ = some (.pointer (some ⟨g, (ptAt ps k).i * 11, none⟩)) := hps k hlt 0 (by omega)
      have d1 : wr.cell? ⟨h, off + k * 5 + 1, none⟩ = some (.int .i64 (ptAt ps k).i) := hps k hlt 1 (by omega)
      have d2 : wr.cell? ⟨h, off + k * 5 + 2, none⟩ = some (.string (ptAt ps k).t) := hps k hlt 2 (by omega)
      have d3 : wr.cell? ⟨h, off + k * 5 + 3, none⟩ = some (.int .i64 (ptAt ps k).w) := hps k hlt 3 (by omega)
      have d4 : wr.cell? ⟨h, off + k * 5 + 4, none⟩ = some (.bool (ptAt ps k).last) := hps k hlt 4 (by omega)
      have hpo := HO.out _ (List.getElem_mem hlt)
      rw [← ptAt_of ps k hlt] at hpo
      have HS := hide (told_any xs g (ptAt ps k) wr (HI.out.below hbel).1 hpo.1)
      have HN := hide (show (ps.take (k + 1)).any (toldF xs) = ((ps.take k).any (toldF xs) || toldF xs (ptAt ps k)) from by rw [List.take_succ_eq_append_getElem hlt, List.any_append, ptAt_of ps k hlt]; simp)
      have HA := hide (show toldF xs (ptAt ps k) = true → ps.any (toldF xs) = true from fun h => List.any_eq_true.2 ⟨_, List.getElem_mem hlt, by rw [← ptAt_of ps k hlt]; exact h⟩)
      clear hps hps0 hpo
      generalize ptAt ps k = p at *
      cases hs : toldF xs p
      · rw [hs] at HS
        have HN2 := hide (show (ps.take (k + 1)).any (toldF xs) = false from by rw [HN.out, hn.out, hs]; rfl)
        clear HN HA hs
        go_wp2_with (go_at_call 141; refine HS.out.mono ?_; rintro e w5 ⟨rfl, hb5⟩)
        go_roundw
        case rel => exact ⟨k + 1, by omega, by go_num, HN2, below_on hbel hb5⟩
        case measure => simp only [intOf]; omega
      · rw [hs] at HS
        have HA2 := hide (HA.out hs)
        clear HN HA hs
        go_wp2_with (go_at_call 141; refine HS.out.mono ?_; rintro e w5 ⟨rfl, hb5⟩)
        go_ret
        exact ⟨(k : Int), rfl, by rw [HA2.out, decide_eq_true (by omega)], by omega, by omega, below_on hbel hb5⟩
    · obtain rfl : k = ps.length := by omega
      have HN2 := hide (show ps.any (toldF xs) = false from by have := hn.out; rwa [List.take_length] at this)
      go_wp2_with fail
      go_ret
      exact ⟨-1, rfl, by rw [HN2.out]; rfl, by omega, by omega, hbel⟩
theorem contains_told (xs : List It) (g : Nat) (ps : List Pt) (A : Option Addr) (c : Nat) (w : World) (hI : ItsR w g xs) (hp : PtsR w g A ps) (hl : ps.length ≤ 100000) (hok : PsOk xs ps) :
    Calls Try.prog 140 #[.slice A ps.length c, .func (.func 141) #[] #[]] w fun e w' => e = .returned (.bool (ps.any (toldF xs))) ∧ Below w.heap.size w w' := by
  have H := hide (index_told xs g ps A c w hI hp hl hok)
  clear hI hp hok
  generalize ps.any (toldF xs) = b at *
  go_enter Try.func140, Try.ntmps140
  go_wp2_with fail
  refine H.out.mono ?_
  rintro e w1 ⟨k, rfl, hk, h1, h2, hb1⟩
  have HK := hide hk
  clear hk
  go_wp2_with fail
  go_ret
  exact ⟨ret_bool (by rw [← HK.out]), hb1⟩
theorem full_any (xs : List It) (g : Nat) (ps : List Pt) (A : Option Addr) (c : Nat) (w : World) (hI : ItsR w g xs) (hp : PtsR w g A ps) (hl : ps.length ≤ 100000) (hok : PsOk xs ps) :
    Calls Try.prog 138 #[.slice A ps.length c] w fun e w' => e = .returned (.bool (ps.any (solidF xs))) ∧ Below w.heap.size w w' := by
  have H := hide (contains_solid xs g ps A c w hI hp hl hok)
  clear hI hp hok
  generalize ps.any (solidF xs) = b at *
  go_enter Try.func138, Try.ntmps138
  go_wp2_with fail
  refine H.out.mono ?_
  rintro e w1 ⟨rfl, hb1⟩
  go_wp2_with fail
  go_ret
  exact ⟨rfl, hb1⟩
end Go.Proofs.Ytadlabndbomgmaa
/- The walk of breaker.clean: a group without blanks that stand first; widths and tails of groups that may be empty. -/
namespace Go.Proofs.Ytadlabndbomgmaa
open Go.ChangeShapes Go.WideShapes Go.ChangeAt Go.RowKit
theorem gwidth_nil (A : Option Addr) (c : Nat) (w : World) : Calls Try.prog 132 #[.slice A 0 c] w fun e w' => e = .returned (.int .i64 0) ∧ Below w.heap.size w w' := by
  go_enter Try.func132, Try.ntmps132
  go_wp2_with fail
  go_loopw [2, 7] (fun n i wr => n = .int .i64 0 ∧ i = .int .i64 0 ∧ w = wr) (fun _ _ _ => 0)
  case atStart => exact ⟨rfl, rfl, rfl⟩
  case round =>
    obtain ⟨rfl, rfl, rfl⟩ := hrel
    go_wp2_with fail
    go_ret
    exact ⟨rfl, Below.refl _ _⟩
theorem gwidthR_any (xs : List It) (g : Nat) (ps : List Pt) (A : Option Addr) (c : Nat) (w : World) (hp : PtsR w g A ps) (hl : ps.length ≤ 100000) (hok : PsOk xs ps) :
    Calls Try.prog 132 #[.slice A ps.length c] w fun e w' => e = .returned (.int .i64 (widthG ps)) ∧ Below w.heap.size w w' := by
  rcases Nat.eq_zero_or_pos ps.length with h0 | h0
  · obtain rfl : ps = [] := List.eq_nil_of_length_eq_zero h0
    exact gwidth_nil A c w
  · obtain ⟨h, off, rfl, hh, hps⟩ := hp h0
    exact gwidth_any g ps h off c w hps hh hl fun p hp => by have := (hok p hp).2; unfold PtOk at this; omega
/-- The first k parts, cleaned: what is kept, and whether a solid one has come. -/
def cleanTo (xs : List It) (full : Bool) : List Pt → List Pt × Bool
  | ps => ps.foldl (fun st p => if !st.2 && (collF xs p && isSp p.t) then st else (st.1 ++ [p], st.2 || solidF xs p)) ([], full)
theorem cleanTo_snoc (xs : List It) (full : Bool) (ps : List Pt) (p : Pt) : cleanTo xs full (ps ++ [p]) = if !(cleanTo xs full ps).2 && (collF xs p && isSp p.t) then cleanTo xs full ps else ((cleanTo xs full ps).1 ++ [p], (cleanTo xs full ps).2 || solidF xs p) := by
  simp only [cleanTo, List.foldl_append, List.foldl_cons, List.foldl_nil]
  rfl
theorem cleanTo_is (xs : List It) (ps : List Pt) : ∀ (full : Bool) (out : List Pt), (ps.foldl (fun st p => if !st.2 && (collF xs p && isSp p.t) then st else (st.1 ++ [p], st.2 || solidF xs p)) (out, full)).1 = out ++ cleanF xs full ps := by
  induction ps with
  | nil => intro full out; simp [cleanF]
  | cons p r ih =>
    intro full out
    simp only [List.foldl_cons, cleanF]
    by_cases h : (!full && (collF xs p && isSp p.t)) = true
    · rw [if_pos h, if_pos h, ih]
    · rw [if_neg h, if_neg h, ih]; simp
theorem cleanTo_all (xs : List It) (full : Bool) (ps : List Pt) : (cleanTo xs full ps).1 = cleanF xs full ps := by
  have := cleanTo_is xs ps full []
  simpa [cleanTo] using this
theorem cleanTo_len (xs : List It) (full : Bool) (ps : List Pt) (k : Nat) (hk : k ≤ ps.length) : (cleanTo xs full (ps.take k)).1.length ≤ k := by
  induction k with
  | zero => simp [cleanTo]
  | succ k ih =>
    have hlt : k < ps.length := by omega
    have := ih (by omega)
    rw [List.take_succ_eq_append_getElem hlt, cleanTo_snoc]
    split
    · omega
    · simp; omega
theorem cleanF_mem (xs : List It) : ∀ (ps : List Pt) (full : Bool), ∀ p ∈ cleanF xs full ps, p ∈ ps
  | [], _ => by intro p hp; simp [cleanF] at hp
  | q :: r, full => by
    intro p hp
    simp only [cleanF] at hp
    split at hp
    · exact List.mem_cons_of_mem _ (cleanF_mem xs r full p hp)
    · rcases List.mem_cons.1 hp with rfl | hp
      · exact List.mem_cons_self
      · exact List.mem_cons_of_mem _ (cleanF_mem xs r _ p hp)
set_option maxRecDepth 100000 in
set_option maxHeartbeats 4000000 in
theorem clean_any (xs : List It) (g : Nat) (ps : List Pt) (A : Option Addr) (c b : Nat) (full : Bool) (w : World) (hI : ItsR w g xs) (hp : PtsR w g A ps) (hl : ps.length ≤ 100000) (hok : PsOk xs ps) (hb : b < w.heap.size) (hf : w.cell? ⟨b, 9, none⟩ = some (.bool full)) :
    Calls Try.prog 137 #[.pointer (some ⟨b, 0, none⟩), .slice A ps.length c] w fun e w' => ∃ v, e = .returned v ∧ w'.ownsRow w.heap.size 192 5 v (cleanF xs full ps).length (ptCells g (cleanF xs full ps)) ∧ Below w.heap.size w w' := by
  have HI := hide hI
  have HP := hide hp
  have HO := hide hok
  have HC := hide (cleanTo_all xs full ps)
  clear hI hp hok
  go_enter Try.func137, Try.ntmps137
  go_wp2_with fail
  clear hf
  go_loopw [5, 6, 15] (fun fv v i wr => ∃ k : Nat, k ≤ ps.length ∧ i = .int .i64 k ∧ fv = .bool (cleanTo xs full (ps.take k)).2 ∧ wr.ownsRow w.heap.size 192 5 v (cleanTo xs full (ps.take k)).1.length (ptCells g (cleanTo xs full (ps.take k)).1) ∧ Below w.heap.size w wr) (fun _ _ i _ => ps.length - (intOf i).toNat)
  case atStart => exact ⟨0, Nat.zero_le _, rfl, rfl, own_none _ _ _ _, Below.refl _ _⟩
  case round =>
    obtain ⟨k, hk, rfl, rfl, hown, hbel⟩ := hrel
    have HW := hide hown
    have hszr := hbel.size
    clear hown
    obtain ⟨v, hv⟩ : ∃ v, v = u6 := ⟨_, rfl⟩
    rw [← hv] at HW ⊢
    clear hv
    by_cases hlt : k < ps.length
    · obtain ⟨h, off, rfl, hh, hps0⟩ := HP.out (by omega)
      have hps := hps0.below hbel hh
      have d0 : wr.cell? ⟨h, off + k * 5, none⟩ = some (.pointer (some ⟨g, (ptAt ps k).i * 11, none⟩)) := hps k hlt 0 (by omega)
      have d1 : wr.cell? ⟨h, off + k * 5 + 1, none⟩ = some (.int .i64 (ptAt ps k).i) := hps k hlt 1 (by omega)
      have d2 : wr.cell? ⟨h, off + k * 5 + 2, none⟩ = some (.string (ptAt ps k).t) := hps k hlt 2 (by omega)
      have d3 : wr.cell? ⟨h, off + k * 5 + 3, none⟩ = some (.int .i64 (ptAt ps k).w) := hps k hlt 3 (by omega)
      have d4 : wr.cell? ⟨h, off + k * 5 + 4, none⟩ = some (.bool (ptAt ps k).last) := hps k hlt 4 (by omega)
      have hpo := HO.out _ (List.getElem_mem hlt)
      rw [← ptAt_of ps k hlt] at hpo
      have hlen : (cleanTo xs full (ps.take k)).1.length ≤ 1000000 := by have := cleanTo_len xs full ps k hk; omega
      have HN := hide (show cleanTo xs full (ps.take (k + 1)) = if !(cleanTo xs full (ps.take k)).2 && (collF xs (ptAt ps k) && isSp (ptAt ps k).t) then cleanTo xs full (ps.take k) else ((cleanTo xs full (ps.take k)).1 ++ [ptAt ps k], (cleanTo xs full (ps.take k)).2 || solidF xs (ptAt ps k)) from by rw [List.take_succ_eq_append_getElem hlt, cleanTo_snoc, ← ptAt_of ps k hlt])
      clear hps hps0
      generalize ptAt ps k = p at *
      have IR := HI.out.below hbel
      have HIA := hide (IR.below ((Below.refl wr.heap.size wr).alloc (Nat.le_refl _) (.cells #[.pointer (some ⟨g, p.i * 11, none⟩), .int .i64 p.i, .string p.t, .int .i64 p.w, .bool p.last] 192)))
      have HBX := hide (Blk.new wr 192 #[.pointer (some ⟨g, p.i * 11, none⟩), .int .i64 p.i, .string p.t, .int .i64 p.w, .bool p.last])
      have HVW := hide (HW.out.alloc (.cells #[.pointer (some ⟨g, p.i * 11, none⟩), .int .i64 p.i, .string p.t, .int .i64 p.w, .bool p.last] 192))
      have b1 := hbel.alloc hszr (.cells #[.pointer (some ⟨g, p.i * 11, none⟩), .int .i64 p.i, .string p.t, .int .i64 p.w, .bool p.last] 192)
      clear IR
      generalize hg2 : (cleanTo xs full (ps.take k)).2 = fl at *
      generalize hg1 : (cleanTo xs full (ps.take k)).1 = lst at *
      have HGE0 := hide (show cleanTo xs full (ps.take k) = (lst, fl) from by rw [← hg1, ← hg2])
      clear hg1 hg2
      cases hfl : fl
      · have hN := hide (HN.out.trans (by rw [hfl]))
        have HGE := hide (show cleanTo xs full (ps.take k) = (lst, false) from by rw [HGE0.out, hfl])
        clear HN HGE0
        go_wp2_with fail
        generalize hwA : wr.alloc (.cells #[.pointer (some ⟨g, p.i * 11, none⟩), .int .i64 p.i, .string p.t, .int .i64 p.w, .bool p.last] 192) = wA at *
        clear hwA
        refine (collapses_any xs g p wA HIA.out.1 hpo.1).mono ?_
        rintro e w5 ⟨rfl, hb5⟩
        have HI5 := hide (HIA.out.below hb5)
        have HX5 := hide (HBX.out.below hb5 HBX.out.lt)
        have HV5 := hide (own_keep HVW.out hb5 (own_lt HVW.out))
        have b5 := below_on b1 hb5
        have hS5 := HX5.out
        clear HIA HBX HVW hb5 b1 HW
        cases hco : collF xs p
        · have HN1 := hide (hN.out.trans (by rw [hco]))
          clear hN hco
          have q0 : w5.cell? ⟨wr.heap.size, 0, none⟩ = some (.pointer (some ⟨g, p.i * 11, none⟩)) := hS5.cell 0
          have q1 : w5.cell? ⟨wr.heap.size, 1, none⟩ = some (.int .i64 p.i) := hS5.cell 1
          have q2 : w5.cell? ⟨wr.heap.size, 2, none⟩ = some (.string p.t) := hS5.cell 2
          have q3 : w5.cell? ⟨wr.heap.size, 3, none⟩ = some (.int .i64 p.w) := hS5.cell 3
          have q4 : w5.cell? ⟨wr.heap.size, 4, none⟩ = some (.bool p.last) := hS5.cell 4
          clear hS5
          have HSO := hide (solid_any xs g p w5 HI5.out.1 hpo.1)
          cases hso : solidF xs p
          · have HN2 := hide (HN1.out.trans (show _ = (lst ++ [p], false) from by rw [hso]; rfl))
            rw [hso] at HSO
            clear HN1 hso
            go_wp2_with fail
            refine HSO.out.mono ?_
            rintro e w6 ⟨rfl, hb6⟩
            have HX6 := hide (HX5.out.below hb6 HX5.out.lt)
            have HV6 := hide (own_keep HV5.out hb6 (own_lt HV5.out))
            have b6 := below_on b5 hb6
            clear HSO HI5 HX5 HV5 b5 hb6 q0 q1 q2 q3 q4
            have q0 : w6.cell? ⟨wr.heap.size, 0, none⟩ = some (.pointer (some ⟨g, p.i * 11, none⟩)) := HX6.out.cell 0
            have q1 : w6.cell? ⟨wr.heap.size, 1, none⟩ = some (.int .i64 p.i) := HX6.out.cell 1
            have q2 : w6.cell? ⟨wr.heap.size, 2, none⟩ = some (.string p.t) := HX6.out.cell 2
            have q3 : w6.cell? ⟨wr.heap.size, 3, none⟩ = some (.int .i64 p.w) := HX6.out.cell 3
            have q4 : w6.cell? ⟨wr.heap.size, 4, none⟩ = some (.bool p.last) := HX6.out.cell 4
            have HVA := hide (HV6.out.alloc (.cells #[.pointer (some ⟨g, p.i * 11, none⟩), .int .i64 p.i, .string p.t, .int .i64 p.w, .bool p.last] 192))
            have HBL := hide (b6.alloc b6.size (.cells #[.pointer (some ⟨g, p.i * 11, none⟩), .int .i64 p.i, .string p.t, .int .i64 p.w, .bool p.last] 192))
            have HNB := hide (Blk.new w6 192 #[.pointer (some ⟨g, p.i * 11, none⟩), .int .i64 p.i, .string p.t, .int .i64 p.w, .bool p.last])
            go_wp2_with (first | (at_builtin; refine wpList_app1 rfl (.tmp 35) (.tmp 37) _ rfl w.heap.size 192 _ 5 48 Try.underlying172 part_info rfl (Nat.succ_pos _) _ lst.length _ rfl HVA.out w6.heap.size 1 _ HNB.out rfl rfl rfl hlen (Nat.le_of_ble_eq_true rfl) HBL.out.size ?_; intro v4 w4 hown4 hg4; have hb9 := own_below HVA.out HBL.out (Nat.le_refl _) (Nat.le_refl _) hg4; have O4 := hide hown4; clear hown4 hg4) | fail)
            go_roundw
            case rel => exact ⟨k + 1, by omega, by go_num, by rw [HN2.out], by rw [HN2.out]; simp only [List.length_append, ptCells_snoc]; exact O4.out, hb9⟩
            case measure => simp only [intOf]; omega
          · have HN2 := hide (HN1.out.trans (show _ = (lst ++ [p], true) from by rw [hso]; rfl))
            rw [hso] at HSO
            clear HN1 hso
            go_wp2_with fail
            refine HSO.out.mono ?_
            rintro e w6 ⟨rfl, hb6⟩
            have HX6 := hide (HX5.out.below hb6 HX5.out.lt)
            have HV6 := hide (own_keep HV5.out hb6 (own_lt HV5.out))
            have b6 := below_on b5 hb6
            clear HSO HI5 HX5 HV5 b5 hb6 q0 q1 q2 q3 q4
            have q0 : w6.cell? ⟨wr.heap.size, 0, none⟩ = some (.pointer (some ⟨g, p.i * 11, none⟩)) := HX6.out.cell 0
            have q1 : w6.cell? ⟨wr.heap.size, 1, none⟩ = some (.int .i64 p.i) := HX6.out.cell 1
            have q2 : w6.cell? ⟨wr.heap.size, 2, none⟩ = some (.string p.t) := HX6.out.cell 2
            have q3 : w6.cell? ⟨wr.heap.size, 3, none⟩ = some (.int .i64 p.w) := HX6.out.cell 3
            have q4 : w6.cell? ⟨wr.heap.size, 4, none⟩ = some (.bool p.last) := HX6.out.cell 4
            have HVA := hide (HV6.out.alloc (.cells #[.pointer (some ⟨g, p.i * 11, none⟩), .int .i64 p.i, .string p.t, .int .i64 p.w, .bool p.last] 192))
            have HBL := hide (b6.alloc b6.size (.cells #[.pointer (some ⟨g, p.i * 11, none⟩), .int .i64 p.i, .string p.t, .int .i64 p.w, .bool p.last] 192))
            have HNB := hide (Blk.new w6 192 #[.pointer (some ⟨g, p.i * 11, none⟩), .int .i64 p.i, .string p.t, .int .i64 p.w, .bool p.last])
            go_wp2_with (first | (at_builtin; refine wpList_app1 rfl (.tmp 35) (.tmp 37) _ rfl w.heap.size 192 _ 5 48 Try.underlying172 part_info rfl (Nat.succ_pos _) _ lst.length _ rfl HVA.out w6.heap.size 1 _ HNB.out rfl rfl rfl hlen (Nat.le_of_ble_eq_true rfl) HBL.out.size ?_; intro v4 w4 hown4 hg4; have hb9 := own_below HVA.out HBL.out (Nat.le_refl _) (Nat.le_refl _) hg4; have O4 := hide hown4; clear hown4 hg4) | fail)
            go_roundw
            case rel => exact ⟨k + 1, by omega, by go_num, by rw [HN2.out], by rw [HN2.out]; simp only [List.length_append, ptCells_snoc]; exact O4.out, hb9⟩
            case measure => simp only [intOf]; omega
        · cases hsp : isSp p.t
          · have HN1 := hide (hN.out.trans (by rw [hco, hsp]))
            have zsp : (p.t.toList == [32]) = false := hsp
            clear hN hco hsp
            have q0 : w5.cell? ⟨wr.heap.size, 0, none⟩ = some (.pointer (some ⟨g, p.i * 11, none⟩)) := hS5.cell 0
            have q1 : w5.cell? ⟨wr.heap.size, 1, none⟩ = some (.int .i64 p.i) := hS5.cell 1
            have q2 : w5.cell? ⟨wr.heap.size, 2, none⟩ = some (.string p.t) := hS5.cell 2
            have q3 : w5.cell? ⟨wr.heap.size, 3, none⟩ = some (.int .i64 p.w) := hS5.cell 3
            have q4 : w5.cell? ⟨wr.heap.size, 4, none⟩ = some (.bool p.last) := hS5.cell 4
            clear hS5
            have HSO := hide (solid_any xs g p w5 HI5.out.1 hpo.1)
            cases hso : solidF xs p
            · have HN2 := hide (HN1.out.trans (show _ = (lst ++ [p], false) from by rw [hso]; rfl))
              rw [hso] at HSO
              clear HN1 hso
              go_wp2_with fail
              refine HSO.out.mono ?_
              rintro e w6 ⟨rfl, hb6⟩
              have HX6 := hide (HX5.out.below hb6 HX5.out.lt)
              have HV6 := hide (own_keep HV5.out hb6 (own_lt HV5.out))
              have b6 := below_on b5 hb6
              clear HSO HI5 HX5 HV5 b5 hb6 q0 q1 q2 q3 q4
              have q0 : w6.cell? ⟨wr.heap.size, 0, none⟩ = some (.pointer (some ⟨g, p.i * 11, none⟩)) := HX6.out.cell 0
              have q1 : w6.cell? ⟨wr.heap.size, 1, none⟩ = some (.int .i64 p.i) := HX6.out.cell 1
              have q2 : w6.cell? ⟨wr.heap.size, 2, none⟩ = some (.string p.t) := HX6.out.cell 2
              have q3 : w6.cell? ⟨wr.heap.size, 3, none⟩ = some (.int .i64 p.w) := HX6.out.cell 3
              have q4 : w6.cell? ⟨wr.heap.size, 4, none⟩ = some (.bool p.last) := HX6.out.cell 4
              have HVA := hide (HV6.out.alloc (.cells #[.pointer (some ⟨g, p.i * 11, none⟩), .int .i64 p.i, .string p.t, .int .i64 p.w, .bool p.last] 192))
              have HBL := hide (b6.alloc b6.size (.cells #[.pointer (some ⟨g, p.i * 11, none⟩), .int .i64 p.i, .string p.t, .int .i64 p.w, .bool p.last] 192))
              have HNB := hide (Blk.new w6 192 #[.pointer (some ⟨g, p.i * 11, none⟩), .int .i64 p.i, .string p.t, .int .i64 p.w, .bool p.last])
              go_wp2_with (first | (at_builtin; refine wpList_app1 rfl (.tmp 35) (.tmp 37) _ rfl w.heap.size 192 _ 5 48 Try.underlying172 part_info rfl (Nat.succ_pos _) _ lst.length _ rfl HVA.out w6.heap.size 1 _ HNB.out rfl rfl rfl hlen (Nat.le_of_ble_eq_true rfl) HBL.out.size ?_; intro v4 w4 hown4 hg4; have hb9 := own_below HVA.out HBL.out (Nat.le_refl _) (Nat.le_refl _) hg4; have O4 := hide hown4; clear hown4 hg4) | fail)
              go_roundw
              case rel => exact ⟨k + 1, by omega, by go_num, by rw [HN2.out], by rw [HN2.out]; simp only [List.length_append, ptCells_snoc]; exact O4.out, hb9⟩
              case measure => simp only [intOf]; omega
            · have HN2 := hide (HN1.out.trans (show _ = (lst ++ [p], true) from by rw [hso]; rfl))
              rw [hso] at HSO
              clear HN1 hso
              go_wp2_with fail
              refine HSO.out.mono ?_
              rintro e w6 ⟨rfl, hb6⟩
              have HX6 := hide (HX5.out.below hb6 HX5.out.lt)
              have HV6 := hide (own_keep HV5.out hb6 (own_lt HV5.out))
              have b6 := below_on b5 hb6
              clear HSO HI5 HX5 HV5 b5 hb6 q0 q1 q2 q3 q4
              have q0 : w6.cell? ⟨wr.heap.size, 0, none⟩ = some (.pointer (some ⟨g, p.i * 11, none⟩)) := HX6.out.cell 0
              have q1 : w6.cell? ⟨wr.heap.size, 1, none⟩ = some (.int .i64 p.i) := HX6.out.cell 1
              have q2 : w6.cell? ⟨wr.heap.size, 2, none⟩ = some (.string p.t) := HX6.out.cell 2
              have q3 : w6.cell? ⟨wr.heap.size, 3, none⟩ = some (.int .i64 p.w) := HX6.out.cell 3
              have q4 : w6.cell? ⟨wr.heap.size, 4, none⟩ = some (.bool p.last) := HX6.out.cell 4
              have HVA := hide (HV6.out.alloc (.cells #[.pointer (some ⟨g, p.i * 11, none⟩), .int .i64 p.i, .string p.t, .int .i64 p.w, .bool p.last] 192))
              have HBL := hide (b6.alloc b6.size (.cells #[.pointer (some ⟨g, p.i * 11, none⟩), .int .i64 p.i, .string p.t, .int .i64 p.w, .bool p.last] 192))
              have HNB := hide (Blk.new w6 192 #[.pointer (some ⟨g, p.i * 11, none⟩), .int .i64 p.i, .string p.t, .int .i64 p.w, .bool p.last])
              go_wp2_with (first | (at_builtin; refine wpList_app1 rfl (.tmp 35) (.tmp 37) _ rfl w.heap.size 192 _ 5 48 Try.underlying172 part_info rfl (Nat.succ_pos _) _ lst.length _ rfl HVA.out w6.heap.size 1 _ HNB.out rfl rfl rfl hlen (Nat.le_of_ble_eq_true rfl) HBL.out.size ?_; intro v4 w4 hown4 hg4; have hb9 := own_below HVA.out HBL.out (Nat.le_refl _) (Nat.le_refl _) hg4; have O4 := hide hown4; clear hown4 hg4) | fail)
              go_roundw
              case rel => exact ⟨k + 1, by omega, by go_num, by rw [HN2.out], by rw [HN2.out]; simp only [List.length_append, ptCells_snoc]; exact O4.out, hb9⟩
              case measure => simp only [intOf]; omega
          · have HN2 := hide (show cleanTo xs full (ps.take (k + 1)) = (lst, false) from by rw [hN.out, hco, hsp]; exact HGE.out)
            have zsp : (p.t.toList == [32]) = true := hsp
            clear hN hco hsp
            have q0 : w5.cell? ⟨wr.heap.size, 0, none⟩ = some (.pointer (some ⟨g, p.i * 11, none⟩)) := hS5.cell 0
            have q1 : w5.cell? ⟨wr.heap.size, 1, none⟩ = some (.int .i64 p.i) := hS5.cell 1
            have q2 : w5.cell? ⟨wr.heap.size, 2, none⟩ = some (.string p.t) := hS5.cell 2
            have q3 : w5.cell? ⟨wr.heap.size, 3, none⟩ = some (.int .i64 p.w) := hS5.cell 3
            have q4 : w5.cell? ⟨wr.heap.size, 4, none⟩ = some (.bool p.last) := hS5.cell 4
            clear hS5
            go_wp2_with fail
            go_roundw
            case rel => exact ⟨k + 1, by omega, by go_num, by rw [HN2.out], by rw [HN2.out]; exact HV5.out, b5⟩
            case measure => simp only [intOf]; omega
      · have HN2 := hide (show cleanTo xs full (ps.take (k + 1)) = (lst ++ [p], true) from by rw [HN.out, hfl]; rfl)
        clear HN HIA HW HBX
        have HVA := hide (HVW.out.alloc (.cells #[.pointer (some ⟨g, p.i * 11, none⟩), .int .i64 p.i, .string p.t, .int .i64 p.w, .bool p.last] 192))
        have HBL := hide (b1.alloc b1.size (.cells #[.pointer (some ⟨g, p.i * 11, none⟩), .int .i64 p.i, .string p.t, .int .i64 p.w, .bool p.last] 192))
        have HNB0 := Blk.new (wr.alloc (.cells #[.pointer (some ⟨g, p.i * 11, none⟩), .int .i64 p.i, .string p.t, .int .i64 p.w, .bool p.last] 192)) 192 #[.pointer (some ⟨g, p.i * 11, none⟩), .int .i64 p.i, .string p.t, .int .i64 p.w, .bool p.last]
        rw [World.size_alloc] at HNB0
        have HNB := hide HNB0
        clear HNB0 HVW b1
        go_wp2_with (first | (at_builtin; refine wpList_app1 rfl (.tmp 35) (.tmp 37) _ rfl w.heap.size 192 _ 5 48 Try.underlying172 part_info rfl (Nat.succ_pos _) _ lst.length _ rfl HVA.out (wr.heap.size + 1) 1 _ HNB.out rfl rfl rfl hlen (Nat.le_of_ble_eq_true rfl) HBL.out.size ?_; intro v4 w4 hown4 hg4; have hb9 := own_below HVA.out HBL.out (Nat.le_refl _) (Nat.le_refl _) hg4; have O4 := hide hown4; clear hown4 hg4) | fail)
        go_roundw
        case rel => exact ⟨k + 1, by omega, by go_num, by rw [HN2.out], by rw [HN2.out]; simp only [List.length_append, ptCells_snoc]; exact O4.out, hb9⟩
        case measure => simp only [intOf]; omega
    · obtain rfl : k = ps.length := by omega
      have hW := HW.out
      rw [List.take_length, HC.out] at hW
      have HW2 := hide hW
      clear hW HW
      generalize (cleanTo xs full (ps.take ps.length)).2 = fl at *
      go_wp2_with fail
      go_ret
      exact ⟨v, rfl, HW2.out, hbel⟩
end Go.Proofs.Ytadlabndbomgmaa
/- The walk of slices.Clone of a group of parts. -/
namespace Go.Proofs.Ytadlabndbomgmaa
open Go.ChangeShapes Go.WideShapes Go.ChangeAt Go.RowKit
@[go_sem high] theorem run_eql_nil_group (a : Addr) (n c : Nat) (w : World) : (binOp BinOp.eql 172 (.slice (some a) n c) (.slice none 0 0)).run Try.prog w = .ok (.bool false) w := by kernel_rfl
theorem add_plain (g o j : Nat) : (⟨g, o, none⟩ : Addr).add j = ⟨g, o + j, none⟩ := by unfold Addr.add; split <;> simp_all
theorem pts_reads {w : World} {g h off B : Nat} {ps : List Pt} (hp : PtsAt w g h off ps) (hB : h < B) : Reads w B 5 (some ⟨h, off, none⟩) ps.length (ptCells g ps) := by
  refine ⟨ptCells_len g ps, fun _ => ⟨_, rfl, hB, fun j u hu => ?_⟩⟩
  have hj : j < ps.length * 5 := by rw [← ptCells_len g ps]; exact (List.getElem?_eq_some_iff.1 hu).1
  have e : j = j / 5 * 5 + j % 5 := by omega
  rw [e, ptCells_at g ps (j / 5) (j % 5) (by omega) (by omega)] at hu
  rw [add_plain, ← hu, ← hp (j / 5) (by omega) (j % 5) (by omega)]
  congr 2
  omega
theorem pt_ones (g : Nat) (ps : List Pt) : ∀ u ∈ ptCells g ps, u.oneCell' = true := by
  intro u hu
  unfold ptCells at hu
  obtain ⟨p, _, hp⟩ := List.mem_flatMap.1 hu
  unfold ptC at hp
  simp only [List.mem_cons, List.not_mem_nil, or_false] at hp
  rcases hp with rfl | rfl | rfl | rfl | rfl <;> rfl
set_option maxRecDepth 100000 in
theorem cloneP_any (g : Nat) (ps : List Pt) (h off c : Nat) (w : World) (hp : PtsAt w g h off ps) (hh : h < w.heap.size) (hl : ps.length ≤ 100000) (h0 : 0 < ps.length) :
    Calls Try.prog 162 #[.slice (some ⟨h, off, none⟩) ps.length c] w fun e w' => ∃ v, e = .returned v ∧ w'.ownsRow w.heap.size 192 5 v ps.length (ptCells g ps) ∧ Below w.heap.size w w' := by
  have HP := hide hp
  have HO := hide (own_of_blk (base := w.heap.size) (n := 0) (size := 5) (Blk.new w 192 #[]) (Nat.le_refl _) (Nat.zero_le _) rfl)
  have HR := hide (show Reads (w.alloc (.cells #[] 192)) w.heap.size 5 (some ⟨h, off, none⟩) ps.length (ptCells g ps) from pts_reads (hp.below ((Below.refl w.heap.size w).alloc (Nat.le_refl _) _) hh) hh)
  have H1 := hide (show ∀ u ∈ ptCells g ps, u.oneCell' = true from pt_ones g ps)
  have HB := (Below.refl w.heap.size w).alloc (Nat.le_refl _) (.cells #[] 192)
  have hm : 0 + ps.length ≤ maxLen := by simp only [maxLen]; omega
  obtain ⟨i0, hi0, hz0, hz1, hz2⟩ := info_parts part_info
  go_enter Try.func162, Try.ntmps162
  go_wp2_with (first | (at_builtin; refine wpList_append_any _ rfl (.tmp 5) (.tmp 6) _ rfl w.heap.size 192 i0 _ 5 48 Try.underlying172 hi0 hz0 hz1 hz2 rfl (by omega) _ 0 _ rfl HO.out w.heap.size _ _ _ _ rfl HR.out H1.out hm (by omega) HB.size ?_; intro v4 w4 hown4 hg4 hat4) | fail)
  rw [Nat.zero_add, List.nil_append] at hown4
  have hb := own_below HO.out HB (Nat.le_refl _) (Nat.le_refl _) hg4
  go_ret
  exact ⟨v4, rfl, hown4, hb⟩
end Go.Proofs.Ytadlabndbomgmaa
/- The walk of lines.groups. -/
namespace Go.Proofs.Ytadlabndbomgmaa
open Go.ChangeShapes Go.WideShapes Go.ChangeAt Go.RowKit
theorem grp_info : (Try.prog.info? 172).map (fun i => (i.zero, i.size, i.bytes)) = some (some (.slice none 0 0), 1, 24) := by kernel_rfl
/-- A group as it lies: a stretch of the parts. -/
def grV (h c : Nat) (g : Nat × Nat) : Value := .slice (some ⟨h, g.1 * 5, none⟩) (g.2 - g.1) (c - g.1)
def grCells (h c : Nat) (gs : List (Nat × Nat)) : List Value := gs.map (grV h c)
theorem grCells_snoc (h c : Nat) (gs : List (Nat × Nat)) (g : Nat × Nat) : grCells h c (gs ++ [g]) = grCells h c gs ++ [grV h c g] := by simp [grCells]
theorem groupsTo_step (xs : List It) (ps : List Pt) (j : Nat) : groupsTo xs ps (j + 1) = if cutsAt xs ps (j + 1) = true then ((groupsTo xs ps j).1 ++ [((groupsTo xs ps j).2, j + 1)], j + 1) else groupsTo xs ps j := rfl
set_option maxRecDepth 100000 in
set_option maxHeartbeats 4000000 in
theorem groups_any (xs : List It) (g : Nat) (ps : List Pt) (h c : Nat) (w : World) (hI : ItsAt w g xs) (hg : g < w.heap.size) (hp : PtsAt w g h 0 ps) (hh : h < w.heap.size) (hl : ps.length ≤ 100000) (hl0 : 0 < ps.length) (hc : ps.length ≤ c)
    (hok : ∀ p ∈ ps, p.i < xs.length ∧ PtOk xs p) :
    Calls Try.prog 109 #[.slice (some ⟨h, 0, none⟩) ps.length c] w fun e w' => ∃ v, e = .returned v ∧ w'.ownsRow w.heap.size 172 1 v (groupsTo xs ps ps.length).1.length (grCells h c (groupsTo xs ps ps.length).1) ∧ Below w.heap.size w w' := by
  have HI := hide hI
  have HP := hide hp
  have HOK := hide hok
  clear hI hp hok
  go_enter Try.func109, Try.ntmps109
  go_wp2_with fail
  go_loopw [3, 4, 5] (fun v fr kv wr => ∃ j k : Nat, k ≤ j + 1 ∧ j + 1 ≤ k ∧ j ≤ ps.length ∧ kv = .int .i64 (k : Int) ∧ fr = .int .i64 ((groupsTo xs ps j).2 : Int) ∧ wr.ownsRow w.heap.size 172 1 v (groupsTo xs ps j).1.length (grCells h c (groupsTo xs ps j).1) ∧ Below w.heap.size w wr) (fun _ _ kv _ => ps.length + 1 - (intOf kv).toNat)
  case atStart => exact ⟨0, 1, Nat.le_refl _, Nat.le_refl _, Nat.zero_le _, rfl, rfl, own_none _ _ _ _, Below.refl _ _⟩
  case round =>
    obtain ⟨j, k, hk1, hk2, hj, rfl, rfl, hown, hbel⟩ := hrel
    have HW := hide hown
    have hszr := hbel.size
    clear hown
    obtain ⟨v, hv⟩ : ∃ v, v = u3 := ⟨_, rfl⟩
    rw [← hv] at HW ⊢
    clear hv
    by_cases hlt : k ≤ ps.length
    · obtain ⟨gb1, gb2, gb3⟩ := groups_ok xs ps j hj
      have HS := hide (show groupsTo xs ps k = if cutsAt xs ps k = true then ((groupsTo xs ps j).1 ++ [((groupsTo xs ps j).2, k)], k) else groupsTo xs ps j from by rw [show k = j + 1 by omega]; exact groupsTo_step xs ps j)
      have HC := hide (show cutsAt xs ps k = (k == ps.length || pKind xs (ptAt ps (k - 1)) == 6 || mayEndF xs ps k) from rfl)
      have hjl : j < ps.length := by omega
      have hij := HOK.out _ (List.getElem_mem hjl)
      rw [← ptAt_of ps j hjl] at hij
      have c0 := (HP.out.below hbel hh).d0 hjl
      have i0 := (HI.out.below hbel hg).c0 hij.1
      have e0 : (itAt xs (ptAt ps j).i).kind = pKind xs (ptAt ps j) := rfl
      rw [e0] at i0
      rw [show k - 1 = j by omega] at HC
      clear e0 gb2
      have w1 : IntKind.i64.wrap ((k : Int) - 1) = j := by rw [show (k : Int) - 1 = j by omega]; exact IntWalk.i64_in _ (by omega)
      generalize pKind xs (ptAt ps j) = kd at *
      have hkf : (groupsTo xs ps j).2 < k := by omega
      have hlen : (groupsTo xs ps j).1.length ≤ 1000000 := by omega
      generalize hgf : (groupsTo xs ps j).2 = fr at *
      generalize hgl : (groupsTo xs ps j).1 = l at *
      have HGE := hide (show groupsTo xs ps j = (l, fr) from by rw [← hgf, ← hgl])
      clear hgf hgl gb1 gb3
      have f1 : ¬ c = fr := by omega
      have f2 : k ≤ c := by omega
      have f3 : fr ≤ k := by omega
      cases zk : ((k : Int) == (ps.length : Int))
      · have zk2 : (k == ps.length) = false := by simp at zk ⊢; omega
        cases z6 : (kd == 6)
        · have hkl : k < ps.length := by simp at zk2; omega
          have HME := hide (mayEnd_any xs g ps h c k wr (HI.out.below hbel hg) (Nat.lt_of_lt_of_le hg hszr) (HP.out.below hbel hh) (Nat.lt_of_lt_of_le hh hszr) hl (by omega) hkl HOK.out)
          have hc1 := hide (HC.out.trans (by rw [zk2, z6]))
          generalize mayEndF xs ps k = me at *
          cases hme : me
          · have HS2 := hide (show groupsTo xs ps k = (l, fr) from by rw [HS.out, hc1.out, hme, HGE.out]; rfl)
            rw [hme] at HME
            clear HC HS hc1 hme
            have HOW := HW
            clear HW
            go_wp2_with (go_at_call 136; refine HME.out.mono ?_; rintro e w5 ⟨rfl, hb5⟩)
            have HO5 := hide (own_keep HOW.out hb5 (own_lt HOW.out))
            have b5 := below_on hbel hb5
            go_roundw
            case rel => exact ⟨k, k + 1, Nat.le_refl _, Nat.le_refl _, hlt, by go_num, by rw [HS2.out], by rw [HS2.out]; exact HO5.out, b5⟩
            case measure => simp only [intOf]; omega
          · have HS2 := hide (show groupsTo xs ps k = (l ++ [(fr, k)], k) from by rw [HS.out, hc1.out, hme]; rfl)
            rw [hme] at HME
            clear HC HS hc1 hme
            have HOW := HW
            clear HW
            go_wp2_with (first | (go_at_call 136; refine HME.out.mono ?_; rintro e w5 ⟨rfl, hb5⟩; have HO5 := hide (own_keep HOW.out hb5 (own_lt HOW.out)); have b5 := below_on hbel hb5; have HVA := hide (HO5.out.alloc (.cells #[.slice (some ⟨h, fr * 5, none⟩) (k - fr) (c - fr)] 172)); have HBX := hide (Blk.new w5 172 #[.slice (some ⟨h, fr * 5, none⟩) (k - fr) (c - fr)]); have HBL := hide (b5.alloc b5.size (.cells #[.slice (some ⟨h, fr * 5, none⟩) (k - fr) (c - fr)] 172)); clear hb5) | (at_builtin; refine wpList_app1 rfl (.tmp 33) (.tmp 38) _ rfl w.heap.size 172 _ 1 24 Try.underlying175 grp_info rfl (Nat.succ_pos _) _ l.length _ rfl HVA.out w5.heap.size 1 _ HBX.out rfl rfl rfl hlen (Nat.le_of_ble_eq_true rfl) HBL.out.size ?_; intro v4 w4 hown4 hg4; have hb9 := own_below HVA.out HBL.out (Nat.le_refl _) (Nat.le_refl _) hg4) | fail)
            go_roundw
            case rel => exact ⟨k, k + 1, Nat.le_refl _, Nat.le_refl _, hlt, by go_num, by rw [HS2.out], by rw [HS2.out, List.length_append, grCells_snoc]; exact hown4, hb9⟩
            case measure => simp only [intOf]; omega
        · have HS2 := hide (show groupsTo xs ps k = (l ++ [(fr, k)], k) from by rw [HS.out, HC.out, zk2, z6]; rfl)
          have HVA := hide (HW.out.alloc (.cells #[.slice (some ⟨h, fr * 5, none⟩) (k - fr) (c - fr)] 172))
          have HBX := hide (Blk.new wr 172 #[.slice (some ⟨h, fr * 5, none⟩) (k - fr) (c - fr)])
          have HBL := hide (hbel.alloc hbel.size (.cells #[.slice (some ⟨h, fr * 5, none⟩) (k - fr) (c - fr)] 172))
          clear HC HS
          go_wp2_with (first | (at_builtin; refine wpList_app1 rfl (.tmp 33) (.tmp 38) _ rfl w.heap.size 172 _ 1 24 Try.underlying175 grp_info rfl (Nat.succ_pos _) _ l.length _ rfl HVA.out wr.heap.size 1 _ HBX.out rfl rfl rfl hlen (Nat.le_of_ble_eq_true rfl) HBL.out.size ?_; intro v4 w4 hown4 hg4; have hb9 := own_below HVA.out HBL.out (Nat.le_refl _) (Nat.le_refl _) hg4) | fail)
          go_roundw
          case rel => exact ⟨k, k + 1, Nat.le_refl _, Nat.le_refl _, hlt, by go_num, by rw [HS2.out], by rw [HS2.out, List.length_append, grCells_snoc]; exact hown4, hb9⟩
          case measure => simp only [intOf]; omega
      · have zk2 : (k == ps.length) = true := by simp at zk ⊢; omega
        have HS2 := hide (show groupsTo xs ps k = (l ++ [(fr, k)], k) from by rw [HS.out, HC.out, zk2]; rfl)
        have HVA := hide (HW.out.alloc (.cells #[.slice (some ⟨h, fr * 5, none⟩) (k - fr) (c - fr)] 172))
        have HBX := hide (Blk.new wr 172 #[.slice (some ⟨h, fr * 5, none⟩) (k - fr) (c - fr)])
        have HBL := hide (hbel.alloc hbel.size (.cells #[.slice (some ⟨h, fr * 5, none⟩) (k - fr) (c - fr)] 172))
        clear HC HS
        go_wp2_with (first | (at_builtin; refine wpList_app1 rfl (.tmp 33) (.tmp 38) _ rfl w.heap.size 172 _ 1 24 Try.underlying175 grp_info rfl (Nat.succ_pos _) _ l.length _ rfl HVA.out wr.heap.size 1 _ HBX.out rfl rfl rfl hlen (Nat.le_of_ble_eq_true rfl) HBL.out.size ?_; intro v4 w4 hown4 hg4; have hb9 := own_below HVA.out HBL.out (Nat.le_refl _) (Nat.le_refl _) hg4) | fail)
        go_roundw
        case rel => exact ⟨k, k + 1, Nat.le_refl _, Nat.le_refl _, hlt, by go_num, by rw [HS2.out], by rw [HS2.out, List.length_append, grCells_snoc]; exact hown4, hb9⟩
        case measure => simp only [intOf]; omega
    · obtain rfl : j = ps.length := by omega
      go_wp2_with fail
      go_ret
      exact ⟨v, rfl, HW.out, hbel⟩
end Go.Proofs.Ytadlabndbomgmaa
/- The walk of lines.Groups. -/
namespace Go.Proofs.Ytadlabndbomgmaa
open Go.ChangeShapes Go.WideShapes Go.ChangeAt Go.RowKit
theorem Group_info : (Try.prog.info? 169).map (fun i => (i.zero, i.size, i.bytes)) = some (some (.agg #[.int .i64 0, .int .i64 0, .bool false]), 3, 24) := by kernel_rfl
def gdC (d : Int × Int × Bool) : List Value := [.int .i64 d.1, .int .i64 d.2.1, .bool d.2.2]
def gdCells (l : List (Int × Int × Bool)) : List Value := l.flatMap gdC
theorem gdCells_snoc (l : List (Int × Int × Bool)) (d : Int × Int × Bool) : gdCells (l ++ [d]) = gdCells l ++ gdC d := by simp [gdCells]
theorem groups_nil (A : Option Addr) (c : Nat) (w : World) : Calls Try.prog 109 #[.slice A 0 c] w fun e w' => e = .returned (.slice none 0 0) ∧ w = w' := by
  go_enter Try.func109, Try.ntmps109
  go_wp2_with fail
  go_loopw [3, 4, 5] (fun v f k wr => v = .slice none 0 0 ∧ f = .int .i64 0 ∧ k = .int .i64 1 ∧ w = wr) (fun _ _ _ _ => 0)
  case atStart => exact ⟨rfl, rfl, rfl, rfl⟩
  case round =>
    obtain ⟨rfl, rfl, rfl, rfl⟩ := hrel
    go_wp2_with fail
    go_ret
    exact ⟨rfl, rfl⟩
/-- The groups of parts that lie in a row of their own. -/
theorem groups_own (xs : List It) (g : Nat) (ps : List Pt) (B c : Nat) (A : Option Addr) (w : World) (hI : ItsAt w g xs) (hg : 0 < xs.length → g < w.heap.size) (hown : w.ownsRow B 192 5 (.slice A ps.length c) ps.length (ptCells g ps)) (hl : ps.length ≤ 100000) (hc : ps.length ≤ c)
    (hok : ∀ p ∈ ps, p.i < xs.length ∧ PtOk xs p) :
    Calls Try.prog 109 #[.slice A ps.length c] w fun e w' => ∃ v h, e = .returned v ∧ w'.ownsRow w.heap.size 172 1 v (groupsTo xs ps ps.length).1.length (grCells h c (groupsTo xs ps ps.length).1) ∧ (0 < ps.length → h < w.heap.size ∧ PtsAt w g h 0 ps) ∧ Below w.heap.size w w' := by
  rcases Nat.eq_zero_or_pos ps.length with h0 | h0
  · obtain rfl : ps = [] := List.eq_nil_of_length_eq_zero h0
    refine (groups_nil A c w).mono ?_
    rintro e w' ⟨rfl, rfl⟩
    exact ⟨_, 0, rfl, own_none _ _ _ _, fun h => absurd h (Nat.not_lt_zero _), Below.refl _ _⟩
  · obtain ⟨q, rfl, hq, hql, hpq⟩ := pts_of_own hown rfl h0
    have hx : 0 < xs.length := by have := hok _ (List.getElem_mem h0); omega
    refine (groups_any xs g ps q c w hI (hg hx) hpq hql hl h0 hc hok).mono ?_
    rintro e w' ⟨v, rfl, ho, hb⟩
    exact ⟨v, q, rfl, ho, fun _ => ⟨hql, hpq⟩, hb⟩
set_option maxRecDepth 100000 in
set_option maxHeartbeats 4000000 in
theorem Groups_any (xs : List It) (g c : Nat) (A : Option Addr) (w : World) (hA : 0 < xs.length → A = some ⟨g, 0, none⟩) (hI : ItsAt w g xs) (hg : 0 < xs.length → g < w.heap.size) (hok : ItsOk xs) :
    Calls Try.prog 106 #[.slice A xs.length c] w fun e w' => ∃ v, e = .returned v ∧ w'.ownsRow w.heap.size 169 3 v (groupsD xs).length (gdCells (groupsD xs)) ∧ Below w.heap.size w w' := by
  have HI := hide hI
  have HG := hide hg
  have HPA := hide (parts_any xs g c A w hA hI hg hok)
  obtain ⟨hp1, hp2⟩ := partsTo_ok hok xs.length (Nat.le_refl _)
  have hn := hok.1
  have HD := hide (show groupsD xs = (groupsTo xs (partsTo xs xs.length) (partsTo xs xs.length).length).1.map (gData xs (partsTo xs xs.length)) from rfl)
  have HGO := hide (groups_ok xs (partsTo xs xs.length) (partsTo xs xs.length).length (Nat.le_refl _))
  clear hI hg hok hA
  go_enter Try.func106, Try.ntmps106
  go_wp2_with fail
  refine HPA.out.mono ?_
  clear HPA
  rintro e w1 ⟨v1, rfl, own1, hb1⟩
  generalize hps : partsTo xs xs.length = ps at *
  clear hps
  have HP1 := hide hp1
  obtain ⟨A1, c1, rfl, hc1, _⟩ := own_reads own1
  have HI1 := hide (show ItsAt w1 g xs from fun k hk => HI.out.below hb1 (HG.out (by omega)) k hk)
  have HG1 := hide (show 0 < xs.length → g < w1.heap.size from fun h => Nat.lt_of_lt_of_le (HG.out h) hb1.size)
  have HGR := hide (groups_own xs g ps w.heap.size c1 A1 w1 HI1.out HG1.out own1 (by omega) hc1 (fun p hp => ⟨(hp1 p hp).1, (hp1 p hp).2⟩))
  have hs1 := hb1.size
  clear own1 hp1 HI HG
  go_wp2_with fail
  refine HGR.out.mono ?_
  clear HGR
  rintro e w2 ⟨v2, q, rfl, own2, hpt, hb2⟩
  have HPT := hide (show 0 < ps.length → q < w2.heap.size ∧ PtsAt w2 g q 0 ps from fun h => ⟨Nat.lt_of_lt_of_le (hpt h).1 hb2.size, (hpt h).2.below hb2 (hpt h).1⟩)
  have HI2 := hide (show ItsAt w2 g xs from fun k hk => HI1.out.below hb2 (HG1.out (by omega)) k hk)
  have HG2 := hide (show 0 < xs.length → g < w2.heap.size from fun h => Nat.lt_of_lt_of_le (HG1.out h) hb2.size)
  have b2 := below_on hb1 hb2
  generalize hgs : (groupsTo xs ps ps.length).1 = gs at *
  clear hgs
  obtain ⟨A2, c2, rfl, hc2, _⟩ := own_reads own2
  obtain ⟨B2, hB2⟩ : ∃ B, B = w1.heap.size := ⟨_, rfl⟩
  rw [← hB2] at own2
  have O2 := hide own2
  clear own2 hpt hB2 HI1 HG1 hb1 hb2
  obtain ⟨hgo1, hgo2, hgo3⟩ := HGO.out
  have HGK := hide hgo2
  clear hgo1 hgo2 HGO
  have hwB := b2.size
  have hgl : gs.length ≤ 100000 := by omega
  have Bi := Below.refl w2.heap.size w2
  obtain ⟨B, hB⟩ : ∃ B, B = w2.heap.size := ⟨_, rfl⟩
  have hwB0 : w2.heap.size ≤ B := by omega
  have hBw0 : B ≤ w2.heap.size := by omega
  clear hB
  go_wp2_with fail
  go_loopw [3, 10] (fun v i wr => ∃ j : Nat, j ≤ gs.length ∧ i = .int .i64 j ∧ wr.ownsRow B 169 3 v ((gs.take j).map (gData xs ps)).length (gdCells ((gs.take j).map (gData xs ps))) ∧ Hid (wr.ownsRow B2 172 1 (.slice A2 gs.length c2) gs.length (grCells q c1 gs)) ∧ Below w2.heap.size w2 wr) (fun _ i _ => gs.length - (intOf i).toNat)
  case atStart => exact ⟨0, Nat.zero_le _, rfl, own_none _ _ _ _, O2, Bi⟩
  case round =>
    obtain ⟨j, hj, rfl, hown, HGw, hbi⟩ := hrel
    clear O2 Bi
    have HW2 := hide hown
    clear hown
    obtain ⟨v2, hv⟩ : ∃ v, v = u3 := ⟨_, rfl⟩
    rw [← hv] at HW2 ⊢
    clear hv
    by_cases hjl : j < gs.length
    · obtain ⟨ad, u, rfl, hadl, hu, hcell1⟩ := (Reads.of_own HGw.out).at_ hjl
      have hgk := HGK.out _ (List.getElem_mem hjl)
      have HNX := hide (show (gs.take (j + 1)).map (gData xs ps) = (gs.take j).map (gData xs ps) ++ [gData xs ps gs[j]] from by rw [List.take_succ_eq_append_getElem hjl, List.map_append]; rfl)
      have hlj := hide (show ((gs.take j).map (gData xs ps)).length ≤ 1000000 from by simp; omega)
      unfold grCells at hu
      rw [List.getElem?_map, List.getElem?_eq_getElem hjl] at hu
      obtain rfl : grV q c1 gs[j] = u := by simpa using hu
      generalize gs[j] = gr at *
      obtain ⟨a, b⟩ := gr
      unfold grV at hcell1
      simp only at hgk hcell1
      obtain ⟨m, rfl⟩ : ∃ m, b = a + (m + 1) := ⟨b - a - 1, by omega⟩
      rw [show a + (m + 1) - a = m + 1 by omega] at hcell1
      have hpos : 0 < ps.length := by omega
      obtain ⟨hq1, hq2⟩ := HPT.out hpos
      have hseg := hq2.seg a (a + (m + 1)) (by omega)
      rw [Nat.zero_add] at hseg
      have hsl : (segP ps (a, a + (m + 1))).length = m + 1 := by simp only [segP, List.length_take, List.length_drop]; omega
      have hxl := (HP1.out _ (List.getElem_mem (show a + m < ps.length by omega)))
      have hgx : g < w2.heap.size := HG2.out (by omega)
      have hmem : ∀ p ∈ segP ps (a, a + (m + 1)), p.i < xs.length ∧ PtOk xs p := fun p hp => HP1.out p (segP_mem p hp)
      have HWD := hide (fun (W : World) (hb : Below w2.heap.size w2 W) => by
        have := gwidth_any g (segP ps (a, a + (m + 1))) q (a * 5) (c1 - a) W (hseg.below hb hq1) (Nat.lt_of_lt_of_le hq1 hb.size) (by omega) (fun p hp => by have := (hmem p hp).2; unfold PtOk at this; omega)
        rwa [hsl] at this)
      have HTL := hide (fun (W : World) (hb : Below w2.heap.size w2 W) => by
        have := gtail_any xs g (segP ps (a, a + (m + 1))) q (a * 5) (c1 - a) W (fun k hk => HI2.out.below hb hgx k hk) (Nat.lt_of_lt_of_le hgx hb.size) (hseg.below hb hq1) (Nat.lt_of_lt_of_le hq1 hb.size) (by omega) (by omega) hmem
        rwa [hsl] at this)
      have HGD := hide (show gData xs ps (a, a + (m + 1)) = (widthG (segP ps (a, a + (m + 1))), tailG xs (segP ps (a, a + (m + 1))).reverse, pKind xs (ptAt ps (a + m)) == 6) from by unfold gData; simp only; rw [show a + (m + 1) - 1 = a + m by omega])
      rw [HGD.out] at HNX
      have hl1 := hq2.d0 (show a + m < ps.length by omega)
      have hxi : (ptAt ps (a + m)).i < xs.length := by rw [ptAt_of ps _ (by omega)]; exact hxl.1
      have hi1 := HI2.out.c0 hxi
      have e0 : (itAt xs (ptAt ps (a + m)).i).kind = pKind xs (ptAt ps (a + m)) := rfl
      rw [e0] at hi1
      rw [show (a + m) * 5 = a * 5 + m * 5 by omega] at hl1
      have HSW := hide (fun (W : World) (hb : Below w2.heap.size w2 W) => (⟨(hb.cell (p := ⟨q, a * 5 + m * 5, none⟩) hq1).trans hl1, (hb.cell (p := ⟨g, (ptAt ps (a + m)).i * 11, none⟩) hgx).trans hi1⟩ : W.cell? ⟨q, a * 5 + m * 5, none⟩ = some (.pointer (some ⟨g, (ptAt ps (a + m)).i * 11, none⟩)) ∧ W.cell? ⟨g, (ptAt ps (a + m)).i * 11, none⟩ = some (.int .i64 (pKind xs (ptAt ps (a + m))))))
      have W1 := hide (show IntKind.i64.wrap (m : Int) = (m : Int) from IntWalk.i64_in _ (by omega))
      clear hu hadl HGD hl1 hi1 e0 hseg hsl hmem hq2 hxi hxl
      generalize widthG (segP ps (a, a + (m + 1))) = wd at *
      generalize tailG xs (segP ps (a, a + (m + 1))).reverse = tl at *
      generalize pKind xs (ptAt ps (a + m)) = kd at *
      generalize (ptAt ps (a + m)).i = pi at *
      generalize (gs.take j).map (gData xs ps) = lst at *
      generalize q = h at *
      generalize c1 = c at *
      go_wp2_with fail
      clear hcell1
      have b1 := hbi.drew
      have S0 := HSW.out _ b1
      have HO1 := hide HW2.out.drew
      have HG1 := hide HGw.out.drew
      refine wp_region_held_drew (S := fun W => W.cell? ⟨h, a * 5 + m * 5, none⟩ = some (.pointer (some ⟨g, pi * 11, none⟩)) ∧ W.cell? ⟨g, pi * 11, none⟩ = some (.int .i64 kd)) (by kernel_rfl) S0 (fun hHeld => ?_)
      have HPB := hide b1
      have hBw : B ≤ w2.heap.size := hBw0
      have hwB := hwB0
      clear S0 hbi HW2 HGw
      generalize wr.drew = wB at *
      refine take_at (i := 0) (v := v2) (some 14) rfl rfl (by kernel_rfl) (by kernel_rfl) (by kernel_rfl) (fun _ _ _ h => h) (yieldsIf_move (by rfl) _ rfl _ rfl) hHeld ?_
      simp only [Act.put, List.setIfInBounds_toArray, List.set_cons_zero, List.set_cons_succ]
      refine take_at (i := 1) (v := Value.slice (some ⟨h, a * 5, none⟩) (m + 1) (c - a)) (some 15) rfl rfl (by kernel_rfl) (by kernel_rfl) (by kernel_rfl) (fun _ _ _ h => h) (yieldsIf_move (by rfl) _ rfl _ rfl) hHeld ?_
      simp only [Act.put, List.setIfInBounds_toArray, List.set_cons_zero, List.set_cons_succ]
      refine take_at (i := 3) (v := Value.slice (some ⟨h, a * 5, none⟩) (m + 1) (c - a)) (some 17) rfl rfl (by kernel_rfl) (by kernel_rfl) (by kernel_rfl) (fun _ _ _ h => h) (yieldsIf_move (by rfl) _ rfl _ rfl) hHeld ?_
      simp only [Act.put, List.setIfInBounds_toArray, List.set_cons_zero, List.set_cons_succ]
      refine take_at (i := 5) (v := Value.slice (some ⟨h, a * 5, none⟩) (m + 1) (c - a)) (some 19) rfl rfl (by kernel_rfl) (by kernel_rfl) (by kernel_rfl) (fun _ _ _ h => h) (yieldsIf_move (by rfl) _ rfl _ rfl) hHeld ?_
      simp only [Act.put, List.setIfInBounds_toArray, List.set_cons_zero, List.set_cons_succ]
      refine take_at (i := 6) (v := Value.slice (some ⟨h, a * 5, none⟩) (m + 1) (c - a)) (some 20) rfl rfl (by kernel_rfl) (by kernel_rfl) (by kernel_rfl) (fun _ _ _ h => h) (yieldsIf_move (by rfl) _ rfl _ rfl) hHeld ?_
      simp only [Act.put, List.setIfInBounds_toArray, List.set_cons_zero, List.set_cons_succ]
      refine take_at (i := 7) (v := .int .i64 ((m + 1 : Nat) : Int)) (some 21) rfl rfl (by kernel_rfl) (by kernel_rfl) (by kernel_rfl) (fun _ _ _ h => h) (Or.inl ⟨by rfl, fun W hW => ?_⟩) hHeld ?_
      · go_simp
      simp only [Act.put, List.setIfInBounds_toArray, List.set_cons_zero, List.set_cons_succ]
      refine take_at (i := 8) (v := .int .i64 m) (some 22) rfl rfl (by kernel_rfl) (by kernel_rfl) (by kernel_rfl) (fun _ _ _ h => h) (Or.inl ⟨by rfl, fun W hW => ?_⟩) hHeld ?_
      · go_simp; exact W1.out
      simp only [Act.put, List.setIfInBounds_toArray, List.set_cons_zero, List.set_cons_succ]
      refine take_at (i := 9) (v := Value.pointer (some ⟨h, a * 5 + m * 5, none⟩)) (some 23) rfl rfl (by kernel_rfl) (by kernel_rfl) (by kernel_rfl) (fun _ _ _ h => h) (Or.inl ⟨by rfl, fun W hW => ?_⟩) hHeld ?_
      · go_simp; intro h4; exact absurd h4 (by omega)
      simp only [Act.put, List.setIfInBounds_toArray, List.set_cons_zero, List.set_cons_succ]
      refine take_at (i := 10) (v := Value.pointer (some ⟨h, a * 5 + m * 5, none⟩)) (some 24) rfl rfl (by kernel_rfl) (by kernel_rfl) (by kernel_rfl) (fun _ _ _ h => h) (Or.inl ⟨by rfl, fun W hW => ?_⟩) hHeld ?_
      · go_simp
      simp only [Act.put, List.setIfInBounds_toArray, List.set_cons_zero, List.set_cons_succ]
      refine take_at (i := 11) (v := Value.pointer (some ⟨g, pi * 11, none⟩)) (some 25) rfl rfl (by kernel_rfl) (by kernel_rfl) (by kernel_rfl) (fun _ _ _ h => h) (Or.inl ⟨by rfl, fun W hW => ?_⟩) hHeld ?_
      · have h4 := hW.1; go_simp
      simp only [Act.put, List.setIfInBounds_toArray, List.set_cons_zero, List.set_cons_succ]
      refine take_at (i := 12) (v := Value.pointer (some ⟨g, pi * 11, none⟩)) (some 26) rfl rfl (by kernel_rfl) (by kernel_rfl) (by kernel_rfl) (fun _ _ _ h => h) (Or.inl ⟨by rfl, fun W hW => ?_⟩) hHeld ?_
      · go_simp
      simp only [Act.put, List.setIfInBounds_toArray, List.set_cons_zero, List.set_cons_succ]
      refine take_at (i := 13) (v := Value.pointer (some ⟨g, pi * 11, none⟩)) (some 27) rfl rfl (by kernel_rfl) (by kernel_rfl) (by kernel_rfl) (fun _ _ _ h => h) (Or.inl ⟨by rfl, fun W hW => ?_⟩) hHeld ?_
      · go_simp
      simp only [Act.put, List.setIfInBounds_toArray, List.set_cons_zero, List.set_cons_succ]
      refine take_at (i := 14) (v := .int .i64 kd) (some 28) rfl rfl (by kernel_rfl) (by kernel_rfl) (by kernel_rfl) (fun _ _ _ h => h) (Or.inl ⟨by rfl, fun W hW => ?_⟩) hHeld ?_
      · have h4 := hW.2; go_simp
      simp only [Act.put, List.setIfInBounds_toArray, List.set_cons_zero, List.set_cons_succ]
      refine take_at (i := 15) (v := .bool (kd == 6)) (some 29) rfl rfl (by kernel_rfl) (by kernel_rfl) (by kernel_rfl) (fun _ _ _ h => h) (Or.inl ⟨by rfl, fun W hW => ?_⟩) hHeld ?_
      · go_simp
      simp only [Act.put, List.setIfInBounds_toArray, List.set_cons_zero, List.set_cons_succ]
      refine wpAnyH_ready (rs := [2]) (by kernel_rfl) (by simp) ?_
      refine AllReadyH.cons rfl (fun K1 hK1 => ?_) AllReadyH.nil
      go_simp
      go_at_call 132
      refine (HWD.out wB HPB.out).mono ?_
      rintro e w5 ⟨rfl, hb5⟩
      have hH5 := HSW.out _ (below_on b1 hb5)
      have b5 := below_on b1 hb5
      have HO5 := hide (own_keep HO1.out hb5 (own_lt HO1.out))
      have HG5 := hide (own_keep HG1.out hb5 (own_lt HG1.out))
      refine hK1.out _ _ hH5 (fun hH1 => ?_)
      try simp only [Act.put, List.setIfInBounds_toArray, List.set_cons_zero, List.set_cons_succ]
      refine wpAnyH_ready (rs := [4]) (by kernel_rfl) (by simp) ?_
      refine AllReadyH.cons rfl (fun K2 hK2 => ?_) AllReadyH.nil
      go_simp
      go_at_call 133
      refine (HTL.out w5 b5).mono ?_
      rintro e w6 ⟨rfl, hb6⟩
      have b6 := below_on b5 hb6
      have hH6 := HSW.out _ b6
      have HO6 := hide (own_keep HO5.out hb6 (own_lt HO5.out))
      have HG6 := hide (own_keep HG5.out hb6 (own_lt HG5.out))
      refine hK2.out _ _ hH6 (fun hH2 => ?_)
      try simp only [Act.put, List.setIfInBounds_toArray, List.set_cons_zero, List.set_cons_succ]
      refine take_at (i := 16) (v := Value.agg #[.int .i64 wd, .int .i64 tl, .bool (kd == 6)]) (some 30) rfl rfl (by kernel_rfl) (by kernel_rfl) (by kernel_rfl) (fun _ _ _ h => h) (yieldsIf_build (by rfl) 169 _ rfl [(0, .int .i64 wd), (1, .int .i64 tl), (2, .bool (kd == 6))] rfl _ (by kernel_rfl)) hH6 ?_
      simp only [Act.put, List.setIfInBounds_toArray, List.set_cons_zero, List.set_cons_succ]
      refine wpAnyH_ready (rs := [17]) (by kernel_rfl) (by simp) ?_
      refine AllReadyH.cons rfl (fun K3 hK3 => ?_) AllReadyH.nil
      go_simp
      have HVA := hide (HO6.out.alloc (.cells #[.int .i64 wd, .int .i64 tl, .bool (kd == 6)] 169))
      have HGA := hide (HG6.out.alloc (.cells #[.int .i64 wd, .int .i64 tl, .bool (kd == 6)] 169))
      have HBX := hide (Blk.new w6 169 #[.int .i64 wd, .int .i64 tl, .bool (kd == 6)])
      have HBL := hide (b6.alloc b6.size (.cells #[.int .i64 wd, .int .i64 tl, .bool (kd == 6)] 169))
      have hH7 := HSW.out _ HBL.out
      refine hK3.out _ _ hH7 (fun hH3 => ?_)
      try simp only [Act.put, List.setIfInBounds_toArray, List.set_cons_zero, List.set_cons_succ]
      refine wpAnyH_ready (rs := [18]) (by kernel_rfl) (by simp) ?_
      refine AllReadyH.cons rfl (fun K4 hK4 => ?_) AllReadyH.nil
      refine step_app1 rfl (.tmp 14) (.tmp 31) _ rfl B 169 _ 3 24 Try.underlying166 Group_info rfl (Nat.succ_pos _) _ lst.length _ rfl HVA.out w6.heap.size 1 _ HBX.out rfl rfl rfl hlj.out (Nat.le_of_ble_eq_true rfl) (Nat.le_trans hBw HBL.out.size) (fun v4 w4 hown4 hg4 => ?_)
      have hb9 := own_below HVA.out HBL.out hwB (Nat.le_refl _) hg4
      have HG9 := hide (own_other HGA.out HVA.out (by decide) hg4)
      have O4 := hide hown4
      clear hown4 hg4
      have hH9 := HSW.out _ hb9
      refine hK4.out _ _ hH9 (fun hH4 => ?_)
      try simp only [Act.put, List.setIfInBounds_toArray, List.set_cons_zero, List.set_cons_succ]
      refine take_at (i := 19) (v := v4) (some 3) rfl rfl (by kernel_rfl) (by kernel_rfl) (by kernel_rfl) (fun _ _ _ h => h) (Or.inl ⟨by rfl, fun W hW => ?_⟩) hH9 ?_
      · go_simp
      simp only [Act.put, List.setIfInBounds_toArray, List.set_cons_zero, List.set_cons_succ]
      refine wpAnyH_done (by kernel_rfl) ?_ _
      clear HVA HGA HBX HBL hH9 hH7 hH6 hH5 hH4 hH3 hH2 hH1
      go_wp2_with fail
      go_roundw
      case rel => exact ⟨j + 1, by omega, by go_num, by rw [HNX.out, List.length_append, gdCells_snoc]; exact O4.out, HG9.out, hb9⟩
      case measure => simp only [intOf]; omega
    · obtain rfl : j = gs.length := by omega
      rw [List.take_length, ← HD.out] at HW2
      go_wp2_with fail
      go_ret
      exact ⟨_, rfl, own_mono HW2.out (Nat.le_trans hwB hwB0), b2.trans (hbi.mono hwB)⟩
end Go.Proofs.Ytadlabndbomgmaa
/- The walks of sizes.Lines and of the statement SizesOrder. -/
namespace Go.Proofs.Ytadlabndbomgmaa
open Go.ChangeShapes Go.WideShapes Go.ChangeAt Go.RowKit
theorem gdCells_at : ∀ (l : List (Int × Int × Bool)) (k j : Nat), (hk : k < l.length) → j < 3 → (gdCells l)[k * 3 + j]? = (gdC l[k])[j]?
  | [], _, _, h, _ => absurd h (Nat.not_lt_zero _)
  | d :: l, 0, j, _, hj => by
    show (gdC d ++ gdCells l)[0 * 3 + j]? = _
    rw [Nat.zero_mul, Nat.zero_add, List.getElem?_append_left (by simpa [gdC] using hj)]; rfl
  | d :: l, k + 1, j, h, hj => by
    show (gdC d ++ gdCells l)[(k + 1) * 3 + j]? = _
    rw [List.getElem?_append_right (by simp [gdC]; omega), show (k + 1) * 3 + j - (gdC d).length = k * 3 + j by simp [gdC]; omega, gdCells_at l k j (by simpa using h) hj]; rfl
theorem groupsD_len {xs : List It} (h : ItsOk xs) : (groupsD xs).length ≤ 5000 := by
  have h1 := (partsTo_ok h xs.length (Nat.le_refl _)).2
  have h2 := (groups_ok xs (partsTo xs xs.length) (partsTo xs xs.length).length (Nat.le_refl _)).2.2
  have h3 := h.1
  unfold groupsD
  rw [List.length_map]
  omega
set_option maxRecDepth 100000 in
set_option maxHeartbeats 4000000 in
theorem sizesLines_any (xs : List It) (g c : Nat) (A : Option Addr) (w : World) (hA : 0 < xs.length → A = some ⟨g, 0, none⟩) (hI : ItsAt w g xs) (hg : 0 < xs.length → g < w.heap.size) (hok : ItsOk xs) :
    Calls Try.prog 62 #[.slice A xs.length c] w fun e w' => e = .returned (.tuple #[.int .i64 (cut (szTo (groupsD xs)).least), .int .i64 (cut (max (szTo (groupsD xs)).most (szTo (groupsD xs)).fin))]) ∧ Below w.heap.size w w' := by
  have HGD := hide (Groups_any xs g c A w hA hI hg hok)
  have HOK := hide (szTo_ok (groupsD xs) (groupsD_ok hok))
  have HGK := hide (groupsD_ok hok)
  have hln := groupsD_len hok
  clear hA hI hg hok
  generalize groupsD xs = D at *
  go_enter Try.func62, Try.ntmps62
  go_wp2_with fail
  refine HGD.out.mono ?_
  clear HGD
  rintro e w1 ⟨v1, rfl, own1, hb1⟩
  obtain ⟨A1, c1, rfl, _, _⟩ := own_reads own1
  have O1 := hide own1
  clear own1
  have Bi := Below.refl w1.heap.size w1
  go_wp2_with fail
  go_loopw [4, 5, 6, 7, 13] (fun l m s f i wr => ∃ k : Nat, k ≤ D.length ∧ i = .int .i64 k ∧ l = .int .i64 (szTo (D.take k)).least ∧ m = .int .i64 (szTo (D.take k)).most ∧ s = .int .i64 (szTo (D.take k)).sum ∧ f = .int .i64 (szTo (D.take k)).fin ∧ Below w1.heap.size w1 wr) (fun _ _ _ _ i _ => D.length - (intOf i).toNat)
  case atStart => exact ⟨0, Nat.zero_le _, rfl, rfl, rfl, rfl, rfl, Bi⟩
  case round =>
    clear Bi
    obtain ⟨k, hk, rfl, rfl, rfl, rfl, rfl, hbi⟩ := hrel
    by_cases hlt : k < D.length
    · obtain ⟨q, cap, hv, _, hql⟩ := O1.out.form (by omega)
      obtain rfl : A1 = some ⟨q, 0, none⟩ := by injection hv
      have hd := HGK.out _ (List.getElem_mem hlt)
      have hs := HOK.out k hk
      have HN := hide (show szTo (D.take (k + 1)) = szStep (szTo (D.take k)) D[k] from by rw [List.take_succ_eq_append_getElem hlt, szTo_snoc])
      have cc : ∀ j, j < 3 → wr.cell? ⟨q, k * 3 + j, none⟩ = (gdC D[k])[j]? := fun j hj => (hbi.cell (p := ⟨q, k * 3 + j, none⟩) hql).trans (by rw [O1.out.cellAt _ (by omega), gdCells_at D k j hlt hj])
      clear hv
      generalize D[k] = d at *
      obtain ⟨gw, gt, gm⟩ := d
      have d0 : wr.cell? ⟨q, k * 3, none⟩ = some (.int .i64 gw) := cc 0 (by omega)
      have d1 : wr.cell? ⟨q, k * 3 + 1, none⟩ = some (.int .i64 gt) := cc 1 (by omega)
      have d2 : wr.cell? ⟨q, k * 3 + 2, none⟩ = some (.bool gm) := cc 2 (by omega)
      clear cc
      simp only at hd
      unfold SzOk at hs
      have hkk : k ≤ 5000 := by omega
      have BX := hbi.alloc hbi.size (.cells #[.int .i64 gw, .int .i64 gt, .bool gm] 169)
      have HST := hide (show szStep (szTo (D.take k)) (gw, gt, gm) = if gm then ⟨max (szTo (D.take k)).least (gw - gt), max (szTo (D.take k)).most ((szTo (D.take k)).sum + gw - gt), 0, 0⟩ else ⟨max (szTo (D.take k)).least (gw - gt), (szTo (D.take k)).most, (szTo (D.take k)).sum + gw, (szTo (D.take k)).sum + gw - gt⟩ from rfl)
      generalize (szTo (D.take k)).least = sl at *
      generalize (szTo (D.take k)).most = sm at *
      generalize (szTo (D.take k)).sum = ss at *
      generalize (szTo (D.take k)).fin = sf at *
      cases hgm : gm
      · have HS2 := hide (HN.out.trans (HST.out.trans (by rw [hgm])))
        rw [hgm] at d2 BX
        clear HN HST hgm
        go_wp2_with fail
        go_roundw
        case rel => exact ⟨k + 1, by omega, by go_num, by rw [HS2.out]; rfl, by rw [HS2.out]; rfl, by rw [HS2.out]; rfl, by rw [HS2.out]; rfl, BX⟩
        case measure => simp only [intOf]; omega
      · have HS2 := hide (HN.out.trans (HST.out.trans (by rw [hgm])))
        rw [hgm] at d2 BX
        clear HN HST hgm
        go_wp2_with fail
        go_roundw
        case rel => exact ⟨k + 1, by omega, by go_num, by rw [HS2.out]; rfl, by rw [HS2.out]; rfl, by rw [HS2.out]; rfl, by rw [HS2.out]; rfl, BX⟩
        case measure => simp only [intOf]; omega
    · obtain rfl : k = D.length := by omega
      rw [List.take_length]
      have b2 := below_on hb1 hbi
      go_wp2_with (first | (go_at_call 28; refine (cut_any _ _).mono ?_; rintro e w' ⟨rfl, rfl⟩) | fail)
      go_ret2
      exact ⟨rfl, b2⟩
theorem its_own_any {w : World} {base : Nat} {t : TypeId} {A : Option Addr} {n c : Nat} {xs : List It} (h : w.ownsRow base t 11 (.slice A n c) n (itCells xs)) (hl : xs.length = n) : ∃ g, (0 < xs.length → A = some ⟨g, 0, none⟩) ∧ ItsAt w g xs ∧ (0 < xs.length → g < w.heap.size) := by
  rcases Nat.eq_zero_or_pos n with h0 | h0
  · exact ⟨0, fun h => by omega, fun k hk => by omega, fun h => by omega⟩
  · obtain ⟨g, h1, _, h2, h3⟩ := its_of_own h hl h0
    exact ⟨g, fun _ => h1, h3, fun _ => h2⟩
def atom7 : It := ⟨4, 0, ByteArray.empty, 0, 0, 0, 0, 0, 7, 0, 0⟩
theorem atom7_ok : ItsOk [atom7] := ⟨by decide, fun x hx => by
  obtain rfl : x = atom7 := by simpa using hx
  have h : (ByteArray.empty).size = 0 := rfl
  unfold ItOk atom7
  simp only [h]
  omega⟩
theorem atom7_sizes : cut (szTo (groupsD [atom7])).least = 7 ∧ cut (max (szTo (groupsD [atom7])).most (szTo (groupsD [atom7])).fin) = 7 := by
  constructor <;> kernel_rfl
set_option maxRecDepth 100000 in
set_option maxHeartbeats 4000000 in
theorem sizesOrder_any (l : List It) (A : Option Addr) (c : Nat) (w : World) (hr : ItsIn w A l) (hn : l.length ≤ c) (hc : c ≤ maxLen) (hs : ∀ k, k < l.length → (itAt l k).text.size ≤ maxLen) :
    Calls Try.prog 19 #[.slice A l.length c] w fun e w' => e = .returned (.bool true) ∧ Below w.heap.size w w' := by
  have HT := hide (tame_any l A c w hr hn hc hs)
  have HK := hide (tameF_ok l)
  have HL := hide (sizes_law (groupsD (tameF l)) (groupsD_ok (tameF_ok l)))
  clear hr hs hc
  generalize tameF l = xs at *
  go_enter Try.func19, Try.ntmps19
  go_wp2_with fail
  refine HT.out.mono ?_
  clear HT
  rintro e w1 ⟨v1, rfl, own1, hb1⟩
  obtain ⟨A1, c1, rfl, _, _⟩ := own_reads own1
  obtain ⟨g, hA, hI, hg⟩ := its_own_any own1 rfl
  have HS := hide (sizesLines_any xs g c1 A1 w1 hA hI hg HK.out)
  clear own1 hA hI hg HK
  have hl := HL.out
  generalize cut (szTo (groupsD xs)).least = lo at *
  generalize cut (max (szTo (groupsD xs)).most (szTo (groupsD xs)).fin) = hi at *
  go_wp2_with fail
  refine HS.out.mono ?_
  clear HS
  rintro e w2 ⟨rfl, hb2⟩
  have b2 := below_on hb1 hb2
  have hbx := Blk.new w2 100 #[.int .i64 4, .int .i64 0, .string ByteArray.empty, .int .i64 0, .int .i64 0, .int .i64 0, .int .i64 0, .int .i64 0, .int .i64 7, .int .i64 0, .int .i64 0]
  have ho := own_of_blk (base := 0) (n := 1) (size := 11) hbx (Nat.zero_le _) (by unfold maxLen; omega) rfl
  obtain ⟨q, hA, hI, hg⟩ := its_own_any (xs := [atom7]) ho rfl
  have HS := hide (sizesLines_any [atom7] q 1 _ _ hA hI hg atom7_ok)
  rw [atom7_sizes.1, atom7_sizes.2] at HS
  have b3 := b2.alloc b2.size (.cells #[.int .i64 4, .int .i64 0, .string ByteArray.empty, .int .i64 0, .int .i64 0, .int .i64 0, .int .i64 0, .int .i64 0, .int .i64 7, .int .i64 0, .int .i64 0] 100)
  clear hbx ho hA hI hg
  go_wp2_with fail
  refine HS.out.mono ?_
  clear HS
  rintro e w3 ⟨rfl, hb3⟩
  have b4 := below_on b3 hb3
  go_wp2_with fail
  go_ret
  exact ⟨rfl, b4⟩
end Go.Proofs.Ytadlabndbomgmaa
/- The last blank of a group that may be empty. -/
namespace Go.Proofs.Ytadlabndbomgmaa
open Go.RowKit Go.Shelf
attribute [local go_sem] Oper.semAt_some
set_option maxRecDepth 100000 in
set_option maxHeartbeats 2000000 in
theorem back0_in (F : Fence) (n : Nat) (h8 : F.fn 168) (hro : F.round = none) (l Bs cap : Nat) (A : Option Addr) (J Jx : List (Fin 0) → World → Prop)
    (W : World) (hBs : W.cell? ⟨Bs, 0, none⟩ = some (.slice A 0 cap)) (h0 : J [] W) :
    CallsIn F n Try.prog 168 #[.func (.yield l) #[] #[], .pointer (some ⟨Bs, 0, none⟩)] W fun e W' => (∃ v, e = .returned v) ∧
      ((∃ ys, ys = [] ∧ J ys W') ∨ (∃ pre, False ∧ Jx pre W')) := by
  refine callsIn_of_wp Try.func168 rfl h8 ?_ hro
  simp only [Try.ntmps168, List.size_toArray, List.length_cons, List.length_nil, Nat.reduceAdd, Nat.reduceSub, Array.replicate_succ, Array.replicate_zero, List.push_toArray, List.append_toArray, List.nil_append, List.cons_append]
  gi_wp2
  gi_loopw [3] (fun i wr => i = .int .i64 (-1) ∧ J [] wr) (fun i _ => 0)
  case atStart => exact ⟨rfl, h0⟩
  case round =>
    obtain ⟨rfl, hJ⟩ := hrel
    gi_wp2
    go_end0
    exact ⟨⟨_, rfl⟩, .inl ⟨_, rfl, hJ⟩⟩
theorem back0_stops (F : Fence) (n : Nat) (h8 : F.fn 168) (hro : F.round = none) (Bs n₀ cap : Nat) (A : Option Addr) (w : World) (hn₀ : n₀ ≤ w.heap.size)
    (hBs : w.cell? ⟨Bs, 0, none⟩ = some (.slice A 0 cap)) (hBn : Bs < n₀) :
    SeqStopsK F n Try.prog 168 #[.pointer (some ⟨Bs, 0, none⟩)] (fun x : Fin 0 => x.elim0) (Below n₀) (fun ys => ys = []) (fun _ => False) 0 w := fun l J Jx W hW _ _ _ h0 =>
  back0_in F n h8 hro l Bs cap A J Jx W ((hW.cell (p := ⟨Bs, 0, none⟩) (Nat.lt_of_lt_of_le hBn hn₀)).trans hBs) h0
set_option maxRecDepth 100000 in
set_option maxHeartbeats 4000000 in
theorem gtail_nil (A : Option Addr) (c : Nat) (w : World) : Calls Try.prog 133 #[.slice A 0 c] w fun e w' => e = .returned (.int .i64 0) ∧ Below w.heap.size w w' := by
  refine (callsIn_wide (n := 3)).1 ?_
  refine callsIn_of_wp_marks Try.func133 rfl trivial ?_ rfl
  simp only [Try.ntmps133, List.size_toArray, List.length_cons, List.length_nil, Nat.reduceAdd, Nat.reduceSub, Array.replicate_succ, Array.replicate_zero, List.push_toArray, List.append_toArray, List.nil_append, List.cons_append]
  gi_wp2_with (refine ⟨trivial, ?_⟩; gi_at_call 156; refine (back_in Fence.wide _ trivial rfl _ _ _ _).mono ?_; rintro e w' ⟨rfl, rfl⟩)
  have bR := Boxed.new w 3 (.int .i64 0)
  have bN := Boxed.new (w.alloc (.cells #[.int .i64 0] 3)) 172 (.slice A 0 c)
  rw [World.size_alloc] at bN
  have hB0 : Below w.heap.size w ((w.alloc (.cells #[.int .i64 0] 3)).alloc (.cells #[.slice A 0 c] 172)) := ((Below.refl _ w).alloc (Nat.le_refl _) _).alloc (by simp) _
  have bR2 := bR.alloc (.cells #[.slice A 0 c] 172)
  have hsz : ((w.alloc (.cells #[.int .i64 0] 3)).alloc (.cells #[.slice A 0 c] 172)).heap.size = w.heap.size + 2 := by simp
  clear bR
  generalize (w.alloc (.cells #[.int .i64 0] 3)).alloc (.cells #[.slice A 0 c] 172) = W0 at *
  refine wpIn_rangeFunc_ownH rfl (by omega) (gf := 168) (lb := #[.pointer (some ⟨w.heap.size + 1, 0, none⟩)]) rfl trivial (enters_of Try.func168 (by kernel_rfl) rfl)
    (back0_stops Fence.wide _ trivial rfl (w.heap.size + 1) (w.heap.size + 2) c A W0 (by omega) bN.cell (by omega)) belowK_t (belowK_b (by omega)) (Below.refl _ _) (fun x => x.elim0)
    (fun _ W => (W.cell? ⟨w.heap.size, 0, none⟩ = some (.int .i64 0) ∧ W.frozen? ⟨w.heap.size, 0, none⟩ = false) ∧ Below w.heap.size w W ∧ w.heap.size + 2 ≤ W.heap.size)
    (fun _ _ W => Below w.heap.size w W)
    (OwnFrom.and (Own.from (fun s A B row hs hg hr => ⟨cell_kept hs.1 hg hr, (frozen_kept hs.1 hg hr).trans hs.2⟩) _) (OwnFrom.and (ownFrom_below (Nat.le_refl _) (by omega)) (fun s A B row hs hg _ => Nat.le_trans hs hg.size)))
    (fun cd => ownFrom_below (Nat.le_refl _) (by omega))
    ⟨⟨bR2.cell, bR2.frozen⟩, hB0, by omega⟩
    (fun x _ _ => x.elim0)
    (fun x => x.elim0) ?assign ?body ?done ?stop
  case assign => rintro l pre x; exact x.elim0
  case body => rintro l pre x; exact x.elim0
  case done =>
    rintro D ys W hD rfl ⟨⟨hcr, hfr⟩, hB, hbs⟩ hK
    gi_wp2
    have hK' := (KeepsOthers.setCell W ⟨w.heap.size, 0, none⟩ (.int .i64 0)).same D _ hK rfl
    refine ⟨by simp, .inl ⟨_, _, rfl, run_takeDeferred hK', ?_⟩⟩
    have hc5 := cell_kept (World.cell?_setCell_same' W ⟨w.heap.size, 0, none⟩ (.int .i64 0) (by rw [hcr]; rfl)) (grownBy_putObj' _ D (.deferred none)) (fun r e => by cases e; exact ⟨_, hK', rfl⟩)
    refine ⟨.int .i64 0, ?_, rfl, (hB.setCell (p := ⟨w.heap.size, 0, none⟩) (Nat.le_refl _) _).trans (belowK_b (w := w) (Nat.le_refl _) _ D _ _ (by omega) hK' rfl rfl)⟩
    simp [results, Try.f133, go_sem, hc5]
  case stop =>
    rintro D cd pre W hD h
    exact h.elim
theorem gtailR_any (xs : List It) (g : Nat) (ps : List Pt) (A : Option Addr) (c : Nat) (w : World) (hI : ItsR w g xs) (hp : PtsR w g A ps) (hl : ps.length ≤ 100000) (hok : PsOk xs ps) :
    Calls Try.prog 133 #[.slice A ps.length c] w fun e w' => e = .returned (.int .i64 (tailG xs ps.reverse)) ∧ Below w.heap.size w w' := by
  rcases Nat.eq_zero_or_pos ps.length with h0 | h0
  · obtain rfl : ps = [] := List.eq_nil_of_length_eq_zero h0
    exact gtail_nil A c w
  · obtain ⟨h, off, rfl, hh, hps⟩ := hp h0
    have hx : 0 < xs.length := Nat.lt_of_le_of_lt (Nat.zero_le _) (hok _ (List.getElem_mem h0)).1
    exact gtail_any xs g ps h off c w hI.1 (hI.2 hx) hps hh hl h0 hok
end Go.Proofs.Ytadlabndbomgmaa
/- Fields, nil checks, loads of one cell in a region that draws, each taken without the walk's simplifier. No program in sight. -/
namespace Go.Proofs.Ytadlabndbomgmaa
open Go.RowKit Go.Instr
section
variable {P : Program} {ops : Array Oper} {S : World → Prop} {op : Oper} {a : Act}
def fieldOff (P : Program) (s : TypeId) (k : Nat) : Option Nat :=
  match P.underlying s with
  | some (.struct fs) => match fs[k]? with
    | some f => match P.info? f.type with
      | some i => if i.size = 0 then none else some f.offset
      | none => none
    | none => none
  | _ => none
theorem yieldsIf_faddr (hw : Region.wanted op (yielded ops a.tmps) = true) (s : TypeId) (x : Operand) (k : Nat) (ho : op.op = .fieldAddr s x k) (g o off : Nat) (hx : a.eval x = .pointer (some ⟨g, o, none⟩)) (hf : fieldOff P s k = some off) :
    YieldsIf P ops S op (.pointer (some ⟨g, o + off, none⟩)) a :=
  .inl ⟨hw, fun w _ => by
    unfold fieldOff at hf
    cases hu : P.underlying s with
    | none => rw [hu] at hf; cases hf
    | some d =>
      rw [hu] at hf
      cases d with
      | struct fs =>
        simp only at hf
        cases hk : fs[k]? with
        | none => rw [hk] at hf; cases hf
        | some f =>
          rw [hk] at hf
          simp only at hf
          cases hi : P.info? f.type with
          | none => rw [hi] at hf; cases hf
          | some i =>
            rw [hi] at hf
            simp only at hf
            by_cases hz : i.size = 0
            · rw [if_pos hz] at hf; cases hf
            · rw [if_neg hz] at hf
              injection hf with hf
              have hadd : (⟨g, o, none⟩ : Addr).add f.offset = ⟨g, o + off, none⟩ := by rw [← hf]; unfold Addr.add; split <;> simp_all
              unfold execOp
              simp [ho, hx, fieldAt, Sem.run_bind, run_underlying hu, hk, sureAddr, fieldPlace, sizeOf, typeInfo, hi, hz, hadd]
      | _ => cases hf⟩
theorem yieldsIf_nil (hw : Region.wanted op (yielded ops a.tmps) = true) (x : Operand) (ho : op.op = .nilCheck x) (ad : Addr) (hx : a.eval x = .pointer (some ad)) : YieldsIf P ops S op (.pointer (some ad)) a :=
  .inl ⟨hw, fun w _ => by
    unfold execOp
    simp [ho, hx]⟩
def oneCellT (P : Program) (ty : TypeId) : Bool := match P.underlying ty with | some (.struct _) => false | some (.array _ _) => false | some _ => true | none => false
theorem yieldsIf_load1 (hw : Region.wanted op (yielded ops a.tmps) = true) (ty : TypeId) (x : Operand) (ho : op.op = .load ty x) (g o : Nat) (v : Value) (hx : a.eval x = .pointer (some ⟨g, o, none⟩)) (ht : oneCellT P ty = true) (hS : ∀ w, S w → w.cell? ⟨g, o, none⟩ = some v) : YieldsIf P ops S op v a :=
  .inl ⟨hw, fun w hw' => by
    have hc := hS w hw'
    unfold oneCellT at ht
    cases hu : P.underlying ty with
    | none => rw [hu] at ht; cases ht
    | some d =>
      have hagg : (isAgg ty).run P w = .ok false w := by
        unfold isAgg
        rw [Sem.run_bind, run_underlying hu w]
        rw [hu] at ht
        cases d <;> simp_all
      unfold execOp
      simp [ho, hx, loadAt, sureAddr, Sem.run_bind, loadVar, hagg, hc]⟩
/-- A call of a Go function by its number enters it. -/
theorem run_enter {f : FuncId} {fn : Func} (hf : P.funcs[f]? = some fn) (hn : (fn.name == "runtime.NumGoroutine") = false) (hb : fn.body.isNone = false) (xs : Array Operand) (ts : Array TypeId) (ho : op.op = .call { callee := .value (.func f), args := xs, argTypes := ts }) (args : Array Value) (hx : xs.map a.eval = args) (w : World) :
    (execOp a.eval op).run P w = .ok (.enter f args) w := by
  unfold execOp
  have hd : Deferred.ofValue (Value.func (Fn.func f) #[] #[]) args = pure { target := .fn (.func f) #[], args := #[] ++ args } := rfl
  simp only [ho, resolve, hx]
  rw [show a.eval (Operand.func f) = Value.func (Fn.func f) #[] #[] from rfl, hd]
  simp [invoke, callFunc, hf]
  rw [if_neg (by intro e; rw [e] at hn; simp at hn), if_neg (by intro e; rw [e] at hb; cases hb)]
end
end Go.Proofs.Ytadlabndbomgmaa
/- Steps of a region that draws, where one operation alone may come up next: a store into a known block, an append of one record, a record laid into a slice. No program in sight. -/
namespace Go.Proofs.Ytadlabndbomgmaa
open Go.RowKit Go.Instr
section
variable {P : Program} {ops : Array Oper} {Q : Exit → Act → World → Prop} {md : Region.Mode} {S : World → Prop} {k : Nat} {fuel : Nat} {l : Array Bool} {a : Act} {w : World} {j : Nat} {o : Oper}
theorem oneH (hr : Region.ready md ops l = [j]) (ho : ops[j]? = some o) (hgd : o.guard = none)
    (h : ∀ K' : Act → World → Prop, (∀ a w, S w → wpAnyH P md ops Q S fuel (l.setIfInBounds j true) a w → K' a w) → Oper.wp P o a w K' Q) : wpAnyH P md ops Q S (fuel + 1) l a w :=
  wpAnyH_ready (rs := [j]) hr (by simp) (AllReadyH.cons ho (fun K' hK => by
    rw [if_pos (by simp [Region.wanted, hgd])]
    exact h K' fun a w hS hW => hK.out a w hS fun _ => hW) AllReadyH.nil)
theorem oneK' (hr : Region.ready md ops l = [j]) (ho : ops[j]? = some o) (hgd : o.guard = none)
    (h : ∀ K' : Act → World → Prop, (∀ a w, S w → wpAnyK P md ops Q S k fuel (l.setIfInBounds j true) a w → K' a w) → Oper.wp P o a w K' Q) : wpAnyK P md ops Q S k (fuel + 1) l a w :=
  oneK hr ho fun K' hK => by
    rw [if_pos (by simp [Region.wanted, hgd])]
    exact h K' hK.out
theorem put_none (a : Act) (v : Value) : a.put none v = a := rfl
theorem storeH (hr : Region.ready md ops l = [j]) (ho : ops[j]? = some o) (hgd : o.guard = none) (hd : o.dst = none) (ty x y) (hop : o.op = .store ty x y) (g i : Nat) (t : TypeId) (cs : Array Value) (v : Value) (hx : a.eval x = .pointer (some ⟨g, i, none⟩)) (hy : a.eval y = v)
    (hb : Blk w g t cs) (hs : i < cs.size) (hi : (P.info? ty).map (·.size) = some 1) (hvc : v.cells = #[v]) (hv : v.oneCell' = true)
    (h : ∀ w', Blk w' g t (cs.setIfInBounds i v) → w.grownBy w' (some g) → S w' ∧ wpAnyH P md ops Q S fuel (l.setIfInBounds j true) a w') : wpAnyH P md ops Q S (fuel + 1) l a w :=
  oneH hr ho hgd fun K' hK => wp_store_fld ty x y hop g i t cs v hx hy hb hs hi hvc hv fun w' h1 h2 => by
    rw [hd, put_none]
    exact hK _ _ (h w' h1 h2).1 (h w' h1 h2).2
theorem storeK (hr : Region.ready md ops l = [j]) (ho : ops[j]? = some o) (hgd : o.guard = none) (hd : o.dst = none) (ty x y) (hop : o.op = .store ty x y) (g i : Nat) (t : TypeId) (cs : Array Value) (v : Value) (hx : a.eval x = .pointer (some ⟨g, i, none⟩)) (hy : a.eval y = v)
    (hb : Blk w g t cs) (hs : i < cs.size) (hi : (P.info? ty).map (·.size) = some 1) (hvc : v.cells = #[v]) (hv : v.oneCell' = true)
    (h : ∀ w', Blk w' g t (cs.setIfInBounds i v) → w.grownBy w' (some g) → S w' ∧ wpAnyK P md ops Q S k fuel (l.setIfInBounds j true) a w') : wpAnyK P md ops Q S k (fuel + 1) l a w :=
  oneK' hr ho hgd fun K' hK => wp_store_fld ty x y hop g i t cs v hx hy hb hs hi hvc hv fun w' h1 h2 => by
    rw [hd, put_none]
    exact hK _ _ (h w' h1 h2).1 (h w' h1 h2).2
theorem wp_app1 {K : Act → World → Prop} (s x : Operand) (t : TypeId)
    (ho : o.op = .call { callee := .builtin .append, args := #[s, x], argTypes := #[t, t] }) (base : Nat) (e : TypeId) (z : Value) (size bytes : Nat) (ht : P.underlying t = some (.slice e))
    (hinfo : (P.info? e).map (fun i => (i.zero, i.size, i.bytes)) = some (some z, size, bytes)) (hzs : z.cells.size = size) (hsz : 0 < size)
    (v : Value) (n : Nat) (xs : List Value) (hs : a.eval s = v) (hown : w.ownsRow base e size v n xs) (g c : Nat) (cs : Array Value) (hb : Blk w g e cs) (hcs : cs.size = size) (hx : a.eval x = .slice (some ⟨g, 0, none⟩) 1 c)
    (h1 : cs.toList.all (·.oneCell') = true) (hn : n ≤ 1000000) (hby : bytes ≤ 1000) (hbase : base ≤ w.heap.size)
    (h : ∀ v' w', w'.ownsRow base e size v' (n + 1) (xs ++ cs.toList) → w.grownBy w' v.ownBlock → (v'.ownBlock = v.ownBlock ∨ v'.ownBlock = some w.heap.size) → K (a.put o.dst v') w') : Oper.wp P o a w K Q := by
  obtain ⟨i, hi, hz, hsize, hbytes⟩ := info_parts hinfo
  refine wp_append_any w s x t ho base e i z size bytes ht hi hz hsize hbytes hzs hsz v n xs hs hown (g + 1) (some ⟨g, 0, none⟩) 1 c cs.toList hx (reads_blk hb size hcs) (List.all_eq_true.1 h1) (by simp only [maxLen]; omega) ?_ hbase fun v' w' h2 h3 h4 => h v' w' h2 h3 h4
  have := Nat.mul_le_mul (show n + 1 ≤ 1000001 by omega) hby
  omega
theorem app1H (hr : Region.ready md ops l = [j]) (ho : ops[j]? = some o) (hgd : o.guard = none) (d : Tmp) (hd : o.dst = some d) (s x : Operand) (t : TypeId)
    (hop : o.op = .call { callee := .builtin .append, args := #[s, x], argTypes := #[t, t] }) (base : Nat) (e : TypeId) (z : Value) (size bytes : Nat) (ht : P.underlying t = some (.slice e))
    (hinfo : (P.info? e).map (fun i => (i.zero, i.size, i.bytes)) = some (some z, size, bytes)) (hzs : z.cells.size = size) (hsz : 0 < size)
    (v : Value) (n : Nat) (xs : List Value) (hs : a.eval s = v) (hown : w.ownsRow base e size v n xs) (g c : Nat) (cs : Array Value) (hb : Blk w g e cs) (hcs : cs.size = size) (hx : a.eval x = .slice (some ⟨g, 0, none⟩) 1 c)
    (h1 : cs.toList.all (·.oneCell') = true) (hn : n ≤ 1000000) (hby : bytes ≤ 1000) (hbase : base ≤ w.heap.size)
    (h : ∀ v' w', w'.ownsRow base e size v' (n + 1) (xs ++ cs.toList) → w.grownBy w' v.ownBlock → (v'.ownBlock = v.ownBlock ∨ v'.ownBlock = some w.heap.size) → S w' ∧ wpAnyH P md ops Q S fuel (l.setIfInBounds j true) (a.put (some d) v') w') : wpAnyH P md ops Q S (fuel + 1) l a w :=
  oneH hr ho hgd fun K' hK => wp_app1 s x t hop base e z size bytes ht hinfo hzs hsz v n xs hs hown g c cs hb hcs hx h1 hn hby hbase fun v' w' h2 h3 h4 => by
    rw [hd]
    exact hK _ _ (h v' w' h2 h3 h4).1 (h v' w' h2 h3 h4).2
theorem app1K (hr : Region.ready md ops l = [j]) (ho : ops[j]? = some o) (hgd : o.guard = none) (d : Tmp) (hd : o.dst = some d) (s x : Operand) (t : TypeId)
    (hop : o.op = .call { callee := .builtin .append, args := #[s, x], argTypes := #[t, t] }) (base : Nat) (e : TypeId) (z : Value) (size bytes : Nat) (ht : P.underlying t = some (.slice e))
    (hinfo : (P.info? e).map (fun i => (i.zero, i.size, i.bytes)) = some (some z, size, bytes)) (hzs : z.cells.size = size) (hsz : 0 < size)
    (v : Value) (n : Nat) (xs : List Value) (hs : a.eval s = v) (hown : w.ownsRow base e size v n xs) (g c : Nat) (cs : Array Value) (hb : Blk w g e cs) (hcs : cs.size = size) (hx : a.eval x = .slice (some ⟨g, 0, none⟩) 1 c)
    (h1 : cs.toList.all (·.oneCell') = true) (hn : n ≤ 1000000) (hby : bytes ≤ 1000) (hbase : base ≤ w.heap.size)
    (h : ∀ v' w', w'.ownsRow base e size v' (n + 1) (xs ++ cs.toList) → w.grownBy w' v.ownBlock → (v'.ownBlock = v.ownBlock ∨ v'.ownBlock = some w.heap.size) → S w' ∧ wpAnyK P md ops Q S k fuel (l.setIfInBounds j true) (a.put (some d) v') w') : wpAnyK P md ops Q S k (fuel + 1) l a w :=
  oneK' hr ho hgd fun K' hK => wp_app1 s x t hop base e z size bytes ht hinfo hzs hsz v n xs hs hown g c cs hb hcs hx h1 hn hby hbase fun v' w' h2 h3 h4 => by
    rw [hd]
    exact hK _ _ (h v' w' h2 h3 h4).1 (h v' w' h2 h3 h4).2
/-- What a slice literal lays into its block. -/
def sliceCells (P : Program) (t : TypeId) (len : Nat) (parts : List (Nat × Value)) : Option (Array Value × TypeId) :=
  match P.underlying t with
  | some (.slice e) => match P.info? e with
    | some i => if len * i.size > 2 ^ 24 then none else if len * i.size = 0 then none else match i.zero with
      | some z => (fill (fun j => some (j * i.size, i.size)) ((Array.range (len * i.size)).map (z.cells[· % z.cells.size]!)) parts).map (·, e)
      | none => none
    | none => none
  | _ => none
theorem run_buildSlice {t : TypeId} {len : Nat} {parts : Array (Nat × Value)} {cs : Array Value} {e : TypeId} (h : sliceCells P t len parts.toList = some (cs, e)) (w : World) :
    (buildSlice t len parts).run P w = .ok (.slice (some ⟨w.heap.size, 0, none⟩) len len) (w.alloc (.cells cs e)) := by
  unfold sliceCells at h
  cases hu : P.underlying t with
  | none => rw [hu] at h; cases h
  | some d =>
    rw [hu] at h
    cases d with
    | slice e' =>
      simp only at h
      cases hi : P.info? e' with
      | none => rw [hi] at h; cases h
      | some i =>
        rw [hi] at h
        simp only at h
        by_cases h1 : len * i.size > 2 ^ 24
        · rw [if_pos h1] at h; cases h
        · rw [if_neg h1] at h
          by_cases h2 : len * i.size = 0
          · rw [if_pos h2] at h; cases h
          · rw [if_neg h2] at h
            cases hz : i.zero with
            | none => rw [hz] at h; cases h
            | some z =>
              rw [hz] at h
              simp only at h
              cases hf : fill (fun j => some (j * i.size, i.size)) ((Array.range (len * i.size)).map (z.cells[· % z.cells.size]!)) parts.toList with
              | none => rw [hf] at h; cases h
              | some c =>
                rw [hf] at h
                simp only [Option.map_some, Option.some.injEq, Prod.mk.injEq] at h
                obtain ⟨rfl, rfl⟩ := h
                simp [buildSlice, Sem.run_bind, run_underlying hu, sizeOf, typeInfo, hi, h1, h2, zeroValue, hz, hf, newRow]
    | _ => cases h
theorem wp_lay {K : Act → World → Prop} (t : TypeId) (len : Nat) (parts : Array (Nat × Operand)) (hop : o.op = .buildSlice t len parts) (vals : List (Nat × Value)) (hv : parts.toList.map (fun p => (p.1, a.eval p.2)) = vals) (cs : Array Value) (e : TypeId) (hc : sliceCells P t len vals = some (cs, e))
    (h : K (a.put o.dst (.slice (some ⟨w.heap.size, 0, none⟩) len len)) (w.alloc (.cells cs e))) : Oper.wp P o a w K Q := by
  have hc' : sliceCells P t len (parts.map fun (i, x) => (i, a.eval x)).toList = some (cs, e) := by rw [Array.toList_map]; exact (congrArg (sliceCells P t len) hv).trans hc
  unfold Oper.wp execOp
  simp only [hop, Sem.run_bind, run_buildSlice hc' w, Result.andThen_ok]
  exact h
theorem layH (hr : Region.ready md ops l = [j]) (ho : ops[j]? = some o) (hgd : o.guard = none) (d : Tmp) (hd : o.dst = some d) (t : TypeId) (len : Nat) (parts : Array (Nat × Operand)) (hop : o.op = .buildSlice t len parts) (vals : List (Nat × Value)) (hv : parts.toList.map (fun p => (p.1, a.eval p.2)) = vals) (cs : Array Value) (e : TypeId) (hc : sliceCells P t len vals = some (cs, e))
    (hS : S (w.alloc (.cells cs e))) (h : wpAnyH P md ops Q S fuel (l.setIfInBounds j true) (a.put (some d) (.slice (some ⟨w.heap.size, 0, none⟩) len len)) (w.alloc (.cells cs e))) : wpAnyH P md ops Q S (fuel + 1) l a w :=
  oneH hr ho hgd fun K' hK => wp_lay t len parts hop vals hv cs e hc (by rw [hd]; exact hK _ _ hS h)
theorem layK (hr : Region.ready md ops l = [j]) (ho : ops[j]? = some o) (hgd : o.guard = none) (d : Tmp) (hd : o.dst = some d) (t : TypeId) (len : Nat) (parts : Array (Nat × Operand)) (hop : o.op = .buildSlice t len parts) (vals : List (Nat × Value)) (hv : parts.toList.map (fun p => (p.1, a.eval p.2)) = vals) (cs : Array Value) (e : TypeId) (hc : sliceCells P t len vals = some (cs, e))
    (hS : S (w.alloc (.cells cs e))) (h : wpAnyK P md ops Q S k fuel (l.setIfInBounds j true) (a.put (some d) (.slice (some ⟨w.heap.size, 0, none⟩) len len)) (w.alloc (.cells cs e))) : wpAnyK P md ops Q S k (fuel + 1) l a w :=
  oneK' hr ho hgd fun K' hK => wp_lay t len parts hop vals hv cs e hc (by rw [hd]; exact hK _ _ hS h)
end
end Go.Proofs.Ytadlabndbomgmaa
/- A call where one operation alone may come up next. No program in sight. -/
namespace Go.Proofs.Ytadlabndbomgmaa
open Go.RowKit Go.Instr
section
variable {P : Program} {ops : Array Oper} {Q : Exit → Act → World → Prop} {md : Region.Mode} {S : World → Prop} {k : Nat} {fuel : Nat} {l : Array Bool} {a : Act} {w : World} {j : Nat} {o : Oper}
theorem wp_callR {K : Act → World → Prop} {f : FuncId} {args : Array Value} (he : (execOp a.eval o).run P w = .ok (.enter f args) w) {R : Ending → World → Prop} (hc : Calls P f args w R)
    (h : ∀ e w', R e w' → ∃ v, e = .returned v ∧ K (a.put o.dst v) w') : Oper.wp P o a w K Q := by
  unfold Oper.wp
  rw [he, Oper.upon_enter]
  refine hc.mono fun e w' hR => ?_
  obtain ⟨v, rfl, hK⟩ := h e w' hR
  exact hK
theorem callH (hr : Region.ready md ops l = [j]) (ho : ops[j]? = some o) (hgd : o.guard = none) (d : Option Tmp) (hd : o.dst = d) (f : FuncId) (args : Array Value) (he : (execOp a.eval o).run P w = .ok (.enter f args) w) {R : Ending → World → Prop} (hc : Calls P f args w R)
    (h : ∀ e w', R e w' → ∃ v, e = .returned v ∧ S w' ∧ wpAnyH P md ops Q S fuel (l.setIfInBounds j true) (a.put d v) w') : wpAnyH P md ops Q S (fuel + 1) l a w :=
  oneH hr ho hgd fun K' hK => wp_callR he hc fun e w' hR => by
    obtain ⟨v, rfl, h1, h2⟩ := h e w' hR
    rw [hd]
    exact ⟨v, rfl, hK _ _ h1 h2⟩
theorem callK' (hr : Region.ready md ops l = [j]) (ho : ops[j]? = some o) (hgd : o.guard = none) (d : Option Tmp) (hd : o.dst = d) (f : FuncId) (args : Array Value) (he : (execOp a.eval o).run P w = .ok (.enter f args) w) {R : Ending → World → Prop} (hc : Calls P f args w R)
    (h : ∀ e w', R e w' → ∃ v, e = .returned v ∧ S w' ∧ wpAnyK P md ops Q S k fuel (l.setIfInBounds j true) (a.put d v) w') : wpAnyK P md ops Q S k (fuel + 1) l a w :=
  oneK' hr ho hgd fun K' hK => wp_callR he hc fun e w' hR => by
    obtain ⟨v, rfl, h1, h2⟩ := h e w' hR
    rw [hd]
    exact ⟨v, rfl, hK _ _ h1 h2⟩
/-- An operation whose guard does not hold is passed by. -/
theorem skipH {i : Nat} {oi : Oper} (d : Option Tmp) (hi : ops[i]? = some oi) (hd : oi.dst = d)
    (hs : Region.noSelect ops = true) (hf : Region.free md ops l i = true) (hr : (Region.ready md ops l).contains i = true)
    (hQ : ∀ c a w, Q (.panic c) (a.put oi.dst undef) w → Q (.panic c) a w) (hw : Region.wanted oi (yielded ops a.tmps) = false) (hS : S w)
    (h : wpAnyH P md ops Q S fuel (l.setIfInBounds i true) (a.put d undef) w) : wpAnyH P md ops Q S (fuel + 1) l a w :=
  take_at d hi hd hs hf hr hQ (Or.inr ⟨hw, rfl⟩) hS h
theorem wp_region_HL {id : Nat} (n : Nat) (l : Array Bool) (hn : ops.size = n) (hl : Array.replicate n false = l) (hm : P.follows .mixedOrders = true) (hS : S w.drew)
    (h : S w.drew → wpAnyH P .any ops Q S n l a w.drew) : (Code.region id ops true).wp P Q a w := by
  subst hn hl
  exact wp_region_held_drew hm hS h
def elemSize (P : Program) (ty : TypeId) : Option Nat := match P.underlying ty with | some (.slice e) => (P.info? e).map (·.size) | _ => none
theorem yieldsIf_iaddr {op : Oper} (hw : Region.wanted op (yielded ops a.tmps) = true) (ty : TypeId) (x ix : Operand) (ho : op.op = .indexAddr ty x ix) (g off n c : Nat) (hx : a.eval x = .slice (some ⟨g, off, none⟩) n c) (kd : IntKind) (e : Nat) (he : a.eval ix = .int kd (e : Int)) (hlt : e < n)
    (s : Nat) (hs : elemSize P ty = some s) (r : Nat) (hr : off + e * s = r) : YieldsIf P ops S op (.pointer (some ⟨g, r, none⟩)) a :=
  .inl ⟨hw, fun w _ => by
    unfold elemSize at hs
    cases hu : P.underlying ty with
    | none => rw [hu] at hs; cases hs
    | some d =>
      rw [hu] at hs
      cases d with
      | slice el =>
        simp only at hs
        cases hi : P.info? el with
        | none => rw [hi] at hs; cases hs
        | some i =>
          rw [hi] at hs
          injection hs with hs
          have hadd : (⟨g, off, none⟩ : Addr).add (e * i.size) = ⟨g, r, none⟩ := by rw [← hr, ← hs]; unfold Addr.add; split <;> simp_all
          have hlt' : (e : Int) < (n : Int) := by omega
          unfold execOp
          simp [ho, hx, he, indexAt, asIntOf, Sem.run_bind, run_underlying hu, sizeOf, typeInfo, hi, hlt, hadd]
      | _ => cases hs⟩
theorem yieldsIf_loadMid {op : Oper} (hw : Region.wanted op (yielded ops a.tmps) = true) (ty : TypeId) (x : Operand) (ho : op.op = .load ty x) (g off : Nat) (hx : a.eval x = .pointer (some ⟨g, off, none⟩)) (cs : List Value) (d : TypeDesc)
    (hS : ∀ w, S w → ∀ j u, cs[j]? = some u → w.cell? ⟨g, off + j, none⟩ = some u) (hu : P.underlying ty = some d) (hd : (match d with | .struct _ | .array _ _ => true | _ => false) = true) (hi : (P.info? ty).map (·.size) = some cs.length) : YieldsIf P ops S op (.agg cs.toArray) a :=
  .inl ⟨hw, fun w hw' => by
    have hl : (loadCells ⟨g, off, none⟩ cs.length).run P w = .ok cs.toArray w :=
      run_loadCells_list (P := P) w ⟨g, off, none⟩ cs (fun j v hv => by
        have hadd : (⟨g, off, none⟩ : Addr).add j = ⟨g, off + j, none⟩ := by unfold Addr.add; split <;> simp_all
        rw [hadd]
        exact hS w hw' j v hv)
    cases hq : P.info? ty with
    | none => simp [hq] at hi
    | some i =>
      have hs : i.size = cs.length := by simpa [hq] using hi
      have hagg : (isAgg ty).run P w = .ok true w := by
        unfold isAgg
        rw [Sem.run_bind, run_underlying hu w]
        cases d <;> simp_all
      unfold execOp
      simp [ho, hx, loadAt, sureAddr, loadVar, Sem.run_bind, hagg, sizeOf, typeInfo, hq, hs, hl]⟩
theorem yieldsIf_strcut {op : Oper} (hw : Region.wanted op (yielded ops a.tmps) = true) (ty : TypeId) (x h : Operand) (ho : op.op = .slice ty x none (some h) none) (s : ByteArray) (hx : a.eval x = .string s) (n : Nat) (i : Int) (hh : a.eval h = .int .i64 i) (hi : i = (n : Int)) (hn : n ≤ s.size) (hu : P.underlying ty = some .string) :
    YieldsIf P ops S op (.string (s.extract 0 n)) a :=
  .inl ⟨hw, fun w _ => by
    subst hi
    unfold execOp
    simp [ho, hx, hh, sliceAt, slice, sliceBounds, sliceBound, asIntOf, Sem.run_bind, run_underlying hu, hn]⟩
theorem five_cells {w : World} {g off : Nat} {v0 v1 v2 v3 v4 : Value} (h0 : w.cell? ⟨g, off, none⟩ = some v0) (h1 : w.cell? ⟨g, off + 1, none⟩ = some v1) (h2 : w.cell? ⟨g, off + 2, none⟩ = some v2) (h3 : w.cell? ⟨g, off + 3, none⟩ = some v3) (h4 : w.cell? ⟨g, off + 4, none⟩ = some v4) :
    ∀ j u, [v0, v1, v2, v3, v4][j]? = some u → w.cell? ⟨g, off + j, none⟩ = some u := by
  intro j u hu
  rcases (show j = 0 ∨ j = 1 ∨ j = 2 ∨ j = 3 ∨ j = 4 ∨ 5 ≤ j by omega) with rfl | rfl | rfl | rfl | rfl | h5
  · rw [← hu]; exact h0
  · rw [← hu]; exact h1
  · rw [← hu]; exact h2
  · rw [← hu]; exact h3
  · rw [← hu]; exact h4
  · rw [List.getElem?_eq_none (by simpa using h5)] at hu; cases hu
end
end Go.Proofs.Ytadlabndbomgmaa
