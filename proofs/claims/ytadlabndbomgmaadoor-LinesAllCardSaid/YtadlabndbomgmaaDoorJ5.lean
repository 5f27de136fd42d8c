/- Parts of the proof, joined: CloneP, GroupsO, TailR. -/
import Derived.BigQuiet
import Derived.Handy
import Derived.IntWalk
import Derived.RegionTactic
import Derived.Deep.QuietTactic
import Derived.Deep.MidRow
import Derived.Deep.RegionHeld3
import Derived.Test.YtadlabndbomgmaaDoorJCleanG
import Derived.Test.YtadlabndbomgmaaDoorJPartsG
import Derived.Test.YtadlabndbomgmaaDoorJGroups
import Derived.Test.YtadlabndbomgmaaDoorJBack
set_option linter.unusedVariables false
set_option linter.unusedSimpArgs false
/- The walk of slices.Clone of a group of parts. -/
namespace Go.Proofs.YtadlabndbomgmaaDoor
open Go.ChangeShapes Go.WideShapes Go.ChangeAt Go.RowKit
@[go_sem high] theorem run_eql_nil_group (a : Addr) (n c : Nat) (w : World) : (binOp BinOp.eql 79 (.slice (some a) n c) (.slice none 0 0)).run Tryd.prog w = .ok (.bool false) w := by kernel_rfl
theorem add_plain (g o j : Nat) : (⟨g, o, none⟩ : Addr).add j = ⟨g, o + j, none⟩ := by unfold Addr.add; split <;> simp_all
theorem pts_reads {w : World} {g h off B : Nat} {ps : List Pt} (hp : PtsAt w g h off ps) (hB : h < B) : Reads w B 5 (some ⟨h, off, none⟩) ps.length (ptCells g ps) := by
  refine ⟨ptCells_len g ps, fun _ => ⟨_, rfl, hB, fun j u hu => ?_⟩⟩
  have hj : j < ps.length * 5 := by rw [← ptCells_len g ps]; exact (List.getElem?_eq_some_iff.1 hu).1
  have e : j = j / 5 * 5 + j % 5 := by omega
  rw [e, ptCells_at g ps (j / 5) (j % 5) (by omega) (by omega)] at hu
  rw [add_plain, ← hu, ← hp (j / 5) (by omega) (j % 5) (by omega)]
  congr 2
  omega
theorem pt_ones (g : Nat) (ps : List Pt) : ∀ u ∈ ptCells g ps, u.oneCell' = true := by
  intro u hu
  unfold ptCells at hu
  obtain ⟨p, _, hp⟩ := List.mem_flatMap.1 hu
  unfold ptC at hp
  simp only [List.mem_cons, List.not_mem_nil, or_false] at hp
  rcases hp with rfl | rfl | rfl | rfl | rfl <;> rfl
set_option maxRecDepth 100000 in
theorem cloneP_any (g : Nat) (ps : List Pt) (h off c : Nat) (w : World) (hp : PtsAt w g h off ps) (hh : h < w.heap.size) (hl : ps.length ≤ 100000) (h0 : 0 < ps.length) :
    Calls Tryd.prog 74 #[.slice (some ⟨h, off, none⟩) ps.length c] w fun e w' => ∃ v, e = .returned v ∧ w'.ownsRow w.heap.size 96 5 v ps.length (ptCells g ps) ∧ Below w.heap.size w w' := by
  have HP := hide hp
  have HO := hide (own_of_blk (base := w.heap.size) (n := 0) (size := 5) (Blk.new w 96 #[]) (Nat.le_refl _) (Nat.zero_le _) rfl)
  have HR := hide (show Reads (w.alloc (.cells #[] 96)) w.heap.size 5 (some ⟨h, off, none⟩) ps.length (ptCells g ps) from pts_reads (hp.below ((Below.refl w.heap.size w).alloc (Nat.le_refl _) _) hh) hh)
  have H1 := hide (show ∀ u ∈ ptCells g ps, u.oneCell' = true from pt_ones g ps)
  have HB := (Below.refl w.heap.size w).alloc (Nat.le_refl _) (.cells #[] 96)
  have hm : 0 + ps.length ≤ maxLen := by simp only [maxLen]; omega
  obtain ⟨i0, hi0, hz0, hz1, hz2⟩ := info_parts part_info
  go_enter Tryd.func74, Tryd.ntmps74
  go_wp2_with (first | (at_builtin; refine wpList_append_any _ rfl (.tmp 5) (.tmp 6) _ rfl w.heap.size 96 i0 _ 5 48 Tryd.underlying79 hi0 hz0 hz1 hz2 rfl (by omega) _ 0 _ rfl HO.out w.heap.size _ _ _ _ rfl HR.out H1.out hm (by omega) HB.size ?_; intro v4 w4 hown4 hg4 hat4) | fail)
  rw [Nat.zero_add, List.nil_append] at hown4
  have hb := own_below HO.out HB (Nat.le_refl _) (Nat.le_refl _) hg4
  go_ret
  exact ⟨v4, rfl, hown4, hb⟩
end Go.Proofs.YtadlabndbomgmaaDoor
/- lines.groups, of parts that lie in a row of their own. -/
namespace Go.Proofs.YtadlabndbomgmaaDoor
open Go.ChangeShapes Go.WideShapes Go.ChangeAt Go.RowKit
theorem groups_nil (A : Option Addr) (c : Nat) (w : World) : Calls Tryd.prog 31 #[.slice A 0 c] w fun e w' => e = .returned (.slice none 0 0) ∧ w = w' := by
  go_enter Tryd.func31, Tryd.ntmps31
  go_wp2_with fail
  go_loopw [3, 4, 5] (fun v f k wr => v = .slice none 0 0 ∧ f = .int .i64 0 ∧ k = .int .i64 1 ∧ w = wr) (fun _ _ _ _ => 0)
  case atStart => exact ⟨rfl, rfl, rfl, rfl⟩
  case round =>
    obtain ⟨rfl, rfl, rfl, rfl⟩ := hrel
    go_wp2_with fail
    go_ret
    exact ⟨rfl, rfl⟩
/-- The groups of parts that lie in a row of their own. -/
theorem groups_own (xs : List It) (g : Nat) (ps : List Pt) (B c : Nat) (A : Option Addr) (w : World) (hI : ItsAt w g xs) (hg : 0 < xs.length → g < w.heap.size) (hown : w.ownsRow B 96 5 (.slice A ps.length c) ps.length (ptCells g ps)) (hl : ps.length ≤ 100000) (hc : ps.length ≤ c)
    (hok : ∀ p ∈ ps, p.i < xs.length ∧ PtOk xs p) :
    Calls Tryd.prog 31 #[.slice A ps.length c] w fun e w' => ∃ v h, e = .returned v ∧ w'.ownsRow w.heap.size 79 1 v (groupsTo xs ps ps.length).1.length (grCells h c (groupsTo xs ps ps.length).1) ∧ (0 < ps.length → h < w.heap.size ∧ PtsAt w g h 0 ps) ∧ Below w.heap.size w w' := by
  rcases Nat.eq_zero_or_pos ps.length with h0 | h0
  · obtain rfl : ps = [] := List.eq_nil_of_length_eq_zero h0
    refine (groups_nil A c w).mono ?_
    rintro e w' ⟨rfl, rfl⟩
    exact ⟨_, 0, rfl, own_none _ _ _ _, fun h => absurd h (Nat.not_lt_zero _), Below.refl _ _⟩
  · obtain ⟨q, rfl, hq, hql, hpq⟩ := pts_of_own hown rfl h0
    have hx : 0 < xs.length := by have := hok _ (List.getElem_mem h0); omega
    refine (groups_any xs g ps q c w hI (hg hx) hpq hql hl h0 hc hok).mono ?_
    rintro e w' ⟨v, rfl, ho, hb⟩
    exact ⟨v, q, rfl, ho, fun _ => ⟨hql, hpq⟩, hb⟩
end Go.Proofs.YtadlabndbomgmaaDoor
/- The last blank of a group that may be empty. -/
namespace Go.Proofs.YtadlabndbomgmaaDoor
open Go.RowKit Go.Shelf
attribute [local go_sem] Oper.semAt_some
set_option maxRecDepth 100000 in
set_option maxHeartbeats 2000000 in
theorem back0_in (F : Fence) (n : Nat) (h8 : F.fn 94) (hro : F.round = none) (l Bs cap : Nat) (A : Option Addr) (J Jx : List (Fin 0) → World → Prop)
    (W : World) (hBs : W.cell? ⟨Bs, 0, none⟩ = some (.slice A 0 cap)) (h0 : J [] W) :
    CallsIn F n Tryd.prog 94 #[.func (.yield l) #[] #[], .pointer (some ⟨Bs, 0, none⟩)] W fun e W' => (∃ v, e = .returned v) ∧
      ((∃ ys, ys = [] ∧ J ys W') ∨ (∃ pre, False ∧ Jx pre W')) := by
  refine callsIn_of_wp Tryd.func94 rfl h8 ?_ hro
  simp only [Tryd.ntmps94, List.size_toArray, List.length_cons, List.length_nil, Nat.reduceAdd, Nat.reduceSub, Array.replicate_succ, Array.replicate_zero, List.push_toArray, List.append_toArray, List.nil_append, List.cons_append]
  gi_wp2
  gi_loopw [3] (fun i wr => i = .int .i64 (-1) ∧ J [] wr) (fun i _ => 0)
  case atStart => exact ⟨rfl, h0⟩
  case round =>
    obtain ⟨rfl, hJ⟩ := hrel
    gi_wp2
    go_end0
    exact ⟨⟨_, rfl⟩, .inl ⟨_, rfl, hJ⟩⟩
theorem back0_stops (F : Fence) (n : Nat) (h8 : F.fn 94) (hro : F.round = none) (Bs n₀ cap : Nat) (A : Option Addr) (w : World) (hn₀ : n₀ ≤ w.heap.size)
    (hBs : w.cell? ⟨Bs, 0, none⟩ = some (.slice A 0 cap)) (hBn : Bs < n₀) :
    SeqStopsK F n Tryd.prog 94 #[.pointer (some ⟨Bs, 0, none⟩)] (fun x : Fin 0 => x.elim0) (Below n₀) (fun ys => ys = []) (fun _ => False) 0 w := fun l J Jx W hW _ _ _ h0 =>
  back0_in F n h8 hro l Bs cap A J Jx W ((hW.cell (p := ⟨Bs, 0, none⟩) (Nat.lt_of_lt_of_le hBn hn₀)).trans hBs) h0
set_option maxRecDepth 100000 in
set_option maxHeartbeats 4000000 in
theorem gtail_nil (A : Option Addr) (c : Nat) (w : World) : Calls Tryd.prog 46 #[.slice A 0 c] w fun e w' => e = .returned (.int .i64 0) ∧ Below w.heap.size w w' := by
  refine (callsIn_wide (n := 3)).1 ?_
  refine callsIn_of_wp_marks Tryd.func46 rfl trivial ?_ rfl
  simp only [Tryd.ntmps46, List.size_toArray, List.length_cons, List.length_nil, Nat.reduceAdd, Nat.reduceSub, Array.replicate_succ, Array.replicate_zero, List.push_toArray, List.append_toArray, List.nil_append, List.cons_append]
  gi_wp2_with (refine ⟨trivial, ?_⟩; gi_at_call 69; refine (back_in Fence.wide _ trivial rfl _ _ _ _).mono ?_; rintro e w' ⟨rfl, rfl⟩)
  have bR := Boxed.new w 3 (.int .i64 0)
  have bN := Boxed.new (w.alloc (.cells #[.int .i64 0] 3)) 79 (.slice A 0 c)
  rw [World.size_alloc] at bN
  have hB0 : Below w.heap.size w ((w.alloc (.cells #[.int .i64 0] 3)).alloc (.cells #[.slice A 0 c] 79)) := ((Below.refl _ w).alloc (Nat.le_refl _) _).alloc (by simp) _
  have bR2 := bR.alloc (.cells #[.slice A 0 c] 79)
  have hsz : ((w.alloc (.cells #[.int .i64 0] 3)).alloc (.cells #[.slice A 0 c] 79)).heap.size = w.heap.size + 2 := by simp
  clear bR
  generalize (w.alloc (.cells #[.int .i64 0] 3)).alloc (.cells #[.slice A 0 c] 79) = W0 at *
  refine wpIn_rangeFunc_ownH rfl (by omega) (gf := 94) (lb := #[.pointer (some ⟨w.heap.size + 1, 0, none⟩)]) rfl trivial (enters_of Tryd.func94 (by kernel_rfl) rfl)
    (back0_stops Fence.wide _ trivial rfl (w.heap.size + 1) (w.heap.size + 2) c A W0 (by omega) bN.cell (by omega)) belowK_t (belowK_b (by omega)) (Below.refl _ _) (fun x => x.elim0)
    (fun _ W => (W.cell? ⟨w.heap.size, 0, none⟩ = some (.int .i64 0) ∧ W.frozen? ⟨w.heap.size, 0, none⟩ = false) ∧ Below w.heap.size w W ∧ w.heap.size + 2 ≤ W.heap.size)
    (fun _ _ W => Below w.heap.size w W)
    (OwnFrom.and (Own.from (fun s A B row hs hg hr => ⟨cell_kept hs.1 hg hr, (frozen_kept hs.1 hg hr).trans hs.2⟩) _) (OwnFrom.and (ownFrom_below (Nat.le_refl _) (by omega)) (fun s A B row hs hg _ => Nat.le_trans hs hg.size)))
    (fun cd => ownFrom_below (Nat.le_refl _) (by omega))
    ⟨⟨bR2.cell, bR2.frozen⟩, hB0, by omega⟩
    (fun x _ _ => x.elim0)
    (fun x => x.elim0) ?assign ?body ?done ?stop
  case assign => rintro l pre x; exact x.elim0
  case body => rintro l pre x; exact x.elim0
  case done =>
    rintro D ys W hD rfl ⟨⟨hcr, hfr⟩, hB, hbs⟩ hK
    gi_wp2
    have hK' := (KeepsOthers.setCell W ⟨w.heap.size, 0, none⟩ (.int .i64 0)).same D _ hK rfl
    refine ⟨by simp, .inl ⟨_, _, rfl, run_takeDeferred hK', ?_⟩⟩
    have hc5 := cell_kept (World.cell?_setCell_same' W ⟨w.heap.size, 0, none⟩ (.int .i64 0) (by rw [hcr]; rfl)) (grownBy_putObj' _ D (.deferred none)) (fun r e => by cases e; exact ⟨_, hK', rfl⟩)
    refine ⟨.int .i64 0, ?_, rfl, (hB.setCell (p := ⟨w.heap.size, 0, none⟩) (Nat.le_refl _) _).trans (belowK_b (w := w) (Nat.le_refl _) _ D _ _ (by omega) hK' rfl rfl)⟩
    simp [results, Tryd.f46, go_sem, hc5]
  case stop =>
    rintro D cd pre W hD h
    exact h.elim
theorem gtailR_any (xs : List It) (g : Nat) (ps : List Pt) (A : Option Addr) (c : Nat) (w : World) (hI : ItsR w g xs) (hp : PtsR w g A ps) (hl : ps.length ≤ 100000) (hok : PsOk xs ps) :
    Calls Tryd.prog 46 #[.slice A ps.length c] w fun e w' => e = .returned (.int .i64 (tailG xs ps.reverse)) ∧ Below w.heap.size w w' := by
  rcases Nat.eq_zero_or_pos ps.length with h0 | h0
  · obtain rfl : ps = [] := List.eq_nil_of_length_eq_zero h0
    exact gtail_nil A c w
  · obtain ⟨h, off, rfl, hh, hps⟩ := hp h0
    have hx : 0 < xs.length := Nat.lt_of_le_of_lt (Nat.zero_le _) (hok _ (List.getElem_mem h0)).1
    exact gtail_any xs g ps h off c w hI.1 (hI.2 hx) hps hh hl h0 hok
end Go.Proofs.YtadlabndbomgmaaDoor
