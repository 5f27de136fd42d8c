/- Parts of the proof, joined: Fix, KitS, KitT, Open, StepApp, TakeAt, TakeCall, LinesMem, BrkOne, BrkGen, OpenL, PartsPlain, RunesCut, BrkFit, BrkTold, BrkAll, BrkLen, ReplPlain, TakeK, Yield, Steps, Steps2. -/
import Derived.Test.YtadlabndbomgmaaDoorProg
import Derived.Deep.MidRow
import Derived.Deep.Upon
import Derived.Deep.RegionLaw
import Derived.Deep.RegionHeld3
import Derived.Laws.CopyOwn
import Derived.OpenShut
import Derived.ShutString
import Derived.ChangeOld
import Derived.Carry
import Derived.Lib.Replace
import Derived.Test.YtadlabndbomgmaaDoorJ1
import Derived.Test.YtadlabndbomgmaaDoorJKit
set_option linter.unusedVariables false
set_option linter.unusedSimpArgs false
/- Walks of the package fix: what Cut, floor, Part return. -/
namespace Go.Proofs.YtadlabndbomgmaaDoor
open Go.ChangeShapes Go.WideShapes Go.ChangeAt Go.RowKit
theorem cut_any (n : Int) (w : World) : Calls Tryd.prog 13 #[.int .i64 n] w fun e w' => e = .returned (.int .i64 (cut n)) ∧ w = w' := by
  go_enter Tryd.func13, Tryd.ntmps13
  go_wp2
  go_ret
  exact ⟨rfl, rfl⟩
theorem floor_any (n d : Int) (w : World) (h1 : -9223372036854775808 < n) (h2 : n ≤ 9223372036854775807) (hd : 1 ≤ d) (hd' : d ≤ 9223372036854775807) : Calls Tryd.prog 37 #[.int .i64 n, .int .i64 d] w fun e w' => e = .returned (.int .i64 (n / d)) ∧ w = w' := by
  have hdd : decide (d < 0) = false := by simp; omega
  by_cases hn : 0 ≤ n
  · have hnn : decide (n < 0) = false := by simp; omega
    go_enter Tryd.func37, Tryd.ntmps37
    go_wp2_with fail
    all_goals (go_ret; exact ⟨rfl, rfl⟩)
  · have hnn : decide (n < 0) = true := by simp; omega
    have hb := tdiv_bd hd h1 h2
    by_cases hm : n.tmod d = 0
    · have e := tdiv_exact hd hm
      have E := Lib.hid e
      have hm1 : (n.tmod d != 0) = false := by simp [hm]
      clear e hm
      go_enter Tryd.func37, Tryd.ntmps37
      go_wp2_with fail
      all_goals (go_ret; exact ⟨ret_int E.out, rfl⟩)
    · have e := tdiv_down hd (by omega) hm
      have hm1 : (n.tmod d != 0) = true := by simp [hm]
      have hb1 : -9223372036854775808 ≤ n.tdiv d - 1 := by omega
      have hb2 : n.tdiv d - 1 ≤ 9223372036854775807 := by omega
      have E := Lib.hid e
      clear e hm
      go_enter Tryd.func37, Tryd.ntmps37
      go_wp2_with fail
      all_goals (go_ret; exact ⟨ret_int E.out, rfl⟩)
theorem part_any (n up down : Int) (w : World) (hd : 1 ≤ down) : Calls Tryd.prog 24 #[.int .i64 n, .int .i64 up, .int .i64 down] w fun e w' => e = .returned (.int .i64 (partOf n up down)) ∧ w = w' := by
  have hb := cut_mul_bound n up
  have hc : 1 ≤ cut down := by unfold cut; omega
  have hc' := cut_hi down
  have e0 : cut n * cut up / cut down = cut n * cut up / cut down := rfl
  go_enter Tryd.func24, Tryd.ntmps24
  go_wp2_with (first | (go_at_call 13; refine (cut_any _ _).mono ?_; rintro e w' ⟨rfl, rfl⟩) | (go_at_call 37; refine (floor_any _ _ _ (by omega) (by omega) (by omega) (by omega)).mono ?_; rintro e w' ⟨rfl, rfl⟩))
  all_goals (go_ret)
  exact ⟨rfl, rfl⟩

theorem int_info : (Tryd.prog.info? 3).map (fun i => (i.zero, i.size, i.bytes)) = some (some (.int .i64 0), 1, 8) := by kernel_rfl
end Go.Proofs.YtadlabndbomgmaaDoor
/- Words for structs and arrays that lie whole in a block: loads, stores, results. No program in sight. -/
namespace Go.Proofs.YtadlabndbomgmaaDoor
open Go.RowKit
section
variable {P : Program}
theorem grown_setCells (g : Nat) : ∀ (vs : List Value) (o : Nat) (w : World), w.grownBy (w.setCells g o vs) (some g)
  | [], o, w => World.grownBy.refl w _
  | v :: r, o, w => by
    have h1 := grown_setCells g r (o + 1) (w.setCell ⟨g, o, none⟩ v)
    exact ⟨h1.os, h1.tape, h1.output, by
      show w.heap.size ≤ ((w.setCell ⟨g, o, none⟩ v).setCells g (o + 1) r).heap.size
      exact Nat.le_trans (by simp [World.setCell]) h1.size, fun k hk hne => (h1.block k (by simpa [World.setCell] using hk) hne).trans (Below.heap_setCell w _ v k (fun e => hne (by rw [e])))⟩
theorem blk_setCells {g : Nat} {t : TypeId} : ∀ (vs : List Value) (o : Nat) (w : World) (cs : Array Value), o + vs.length ≤ cs.size → Blk w g t cs →
    Blk (w.setCells g o vs) g t (cs.toList.take o ++ vs ++ cs.toList.drop (o + vs.length)).toArray
  | [], o, w, cs, _, h => by
    have e : (cs.toList.take o ++ [] ++ cs.toList.drop (o + ([] : List Value).length)).toArray = cs := by simp
    rw [e]; exact h
  | v :: r, o, w, cs, hl, h => by
    have hs : o < cs.size := by simp at hl; omega
    have h1 := blk_setCells r (o + 1) _ _ (by simp at hl ⊢; omega) (h.set_ o v)
    have e : (((cs.setIfInBounds o v).toList.take (o + 1)) ++ r ++ (cs.setIfInBounds o v).toList.drop (o + 1 + r.length)) = (cs.toList.take o ++ (v :: r) ++ cs.toList.drop (o + (v :: r).length)) := by
      rw [Array.toList_setIfInBounds, List.take_set, List.drop_set_of_lt (by omega), List.take_succ_eq_append_getElem (by simpa using hs), List.set_append_right _ _ (by simp; exact Nat.min_le_left _ _)]
      have hlt : (cs.toList.take o).length = o := by simp; omega
      rw [hlt, Nat.sub_self]
      simp [Nat.add_assoc, Nat.add_comm 1 r.length]
    rw [e] at h1
    exact h1
theorem blk_setWhole {g : Nat} {t : TypeId} {w : World} {cs cs' : Array Value} (h : Blk w g t cs) (hs : cs'.size = cs.size) : Blk (w.setCells g 0 cs'.toList) g t cs' := by
  have := blk_setCells cs'.toList 0 w cs (by simp [hs]) h
  simpa [hs, List.drop_of_length_le] using this
theorem there_of_blk {g : Nat} {t : TypeId} {w : World} {cs : Array Value} (h : Blk w g t cs) (n : Nat) (hn : n = cs.size) : w.there g 0 n := fun j hj => by
  refine ⟨?_, h.frozen _⟩
  rw [Nat.zero_add, h.cell j, Array.getElem?_eq_getElem (by omega)]; rfl
theorem below_grown {B g : Nat} {a b c : World} (h : Below B a b) (hB : B ≤ a.heap.size) (k : b.grownBy c (some g)) (hg : B ≤ g) : Below B a c :=
  ⟨k.os.trans h.os, k.tape.trans h.tape, k.output.trans h.output, Nat.le_trans h.size k.size, fun i hi => (k.block i (by have := h.size; omega) (fun e => by cases e; omega)).trans (h.block i hi)⟩
theorem blk_grown {g r : Nat} {t : TypeId} {cs : Array Value} {b c : World} (h : Blk b r t cs) (k : b.grownBy c (some g)) (hne : r ≠ g) : Blk c r t cs :=
  (k.block r h.lt (fun e => hne (by cases e; rfl))).trans h
/-- A whole struct or array is stored into its block. -/
theorem wp_store_blk {op : Oper} {a : Act} {w : World} {K : Act → World → Prop} {Q : Exit → Act → World → Prop} (ty : TypeId) (x y : Operand) (ho : op.op = .store ty x y)
    (g : Nat) (t : TypeId) (cs cs' : Array Value) (hx : a.eval x = .pointer (some ⟨g, 0, none⟩)) (hy : a.eval y = .agg cs') (hb : Blk w g t cs) (hs : cs'.size = cs.size)
    (hi : (P.info? ty).map (·.size) = some cs'.size) (h1 : cs'.all (·.oneCell') = true)
    (h : ∀ w', Blk w' g t cs' → w.grownBy w' (some g) → K (a.put op.dst undef) w') : op.wp P a w K Q :=
  wp_store_mid ty x y ho g 0 cs' hx hy (there_of_blk hb _ hs) hi h1 (h _ (blk_setWhole hb hs) (grown_setCells g _ 0 w))
theorem wpList_store_blk {ops : Array Oper} {rest : List Oper} {op : Oper} {a : Act} {w : World} {Q : Exit → Act → World → Prop} (hgd : op.guard = none) (ty : TypeId) (x y : Operand) (ho : op.op = .store ty x y)
    (g : Nat) (t : TypeId) (cs cs' : Array Value) (hx : a.eval x = .pointer (some ⟨g, 0, none⟩)) (hy : a.eval y = .agg cs') (hb : Blk w g t cs) (hs : cs'.size = cs.size)
    (hi : (P.info? ty).map (·.size) = some cs'.size) (h1 : cs'.all (·.oneCell') = true)
    (h : ∀ w', Blk w' g t cs' → w.grownBy w' (some g) → wpList P ops Q rest (a.put op.dst undef) w') : wpList P ops Q (op :: rest) a w :=
  wpList_plain hgd fun _ hK => wp_store_blk ty x y ho g t cs cs' hx hy hb hs hi h1 fun w' h2 h3 => hK _ _ (h w' h2 h3)
theorem step_store_blk {ops : Array Oper} {op : Oper} {a : Act} {w : World} {K : Act → World → Prop} {Q : Exit → Act → World → Prop} {E : Prop} (hgd : op.guard = none) (ty : TypeId) (x y : Operand) (ho : op.op = .store ty x y)
    (g : Nat) (t : TypeId) (cs cs' : Array Value) (hx : a.eval x = .pointer (some ⟨g, 0, none⟩)) (hy : a.eval y = .agg cs') (hb : Blk w g t cs) (hs : cs'.size = cs.size)
    (hi : (P.info? ty).map (·.size) = some cs'.size) (h1 : cs'.all (·.oneCell') = true)
    (h : ∀ w', Blk w' g t cs' → w.grownBy w' (some g) → K (a.put op.dst undef) w') : if Region.wanted op (yielded ops a.tmps) = true then Oper.wp P op a w K Q else E := by
  rw [if_pos (by simp [Region.wanted, hgd])]
  exact wp_store_blk ty x y ho g t cs cs' hx hy hb hs hi h1 h
theorem step_load_blk {ops : Array Oper} {op : Oper} {a : Act} {w : World} {K : Act → World → Prop} {Q : Exit → Act → World → Prop} {E : Prop} (hgd : op.guard = none) (ty : TypeId) (x : Operand) (ho : op.op = .load ty x)
    (g : Nat) (hx : a.eval x = .pointer (some ⟨g, 0, none⟩)) (t : TypeId) (cs : Array Value) (d : TypeDesc) (hb : Blk w g t cs)
    (hu : P.underlying ty = some d) (hd : (match d with | .struct _ | .array _ _ => true | _ => false) = true) (hi : (P.info? ty).map (·.size) = some cs.size)
    (h : K (a.put op.dst (.agg cs)) w) : if Region.wanted op (yielded ops a.tmps) = true then Oper.wp P op a w K Q else E := by
  rw [if_pos (by simp [Region.wanted, hgd])]
  exact wp_load_row ty x ho g hx t cs (0, 0) d hb hu hd hi h
/-- One cell of a block is stored into. -/
theorem run_storeVar_one (w : World) (b o : Nat) (ty : TypeId) (v : Value) (hvc : v.cells = #[v]) (hv : v.oneCell' = true) (ht : w.there b o 1) (hi : (P.info? ty).map (·.size) = some 1) :
    (storeVar ty ⟨b, o, none⟩ v).run P w = .ok () (w.setCell ⟨b, o, none⟩ v) := by
  have := run_storeCells_cells (P := P) b o [v] 0 w (fun j hj => by simpa using (ht j (by simpa using hj)).1) (fun j hj => by simpa using (ht j (by simpa using hj)).2)
    (fun u hu => by simp at hu; rw [hu]; exact hv)
  cases hq : P.info? ty with
  | none => simp [hq] at hi
  | some i =>
    have hs : 1 = i.size := by simp [hq] at hi; omega
    simp only [Nat.add_zero] at this
    simp [storeVar, sizeOf, typeInfo, hq, hvc, ← hs, this, World.setCells]
theorem wp_store_fld {op : Oper} {a : Act} {w : World} {K : Act → World → Prop} {Q : Exit → Act → World → Prop} (ty : TypeId) (x y : Operand) (ho : op.op = .store ty x y)
    (g i : Nat) (t : TypeId) (cs : Array Value) (v : Value) (hx : a.eval x = .pointer (some ⟨g, i, none⟩)) (hy : a.eval y = v) (hb : Blk w g t cs) (hs : i < cs.size)
    (hi : (P.info? ty).map (·.size) = some 1) (hvc : v.cells = #[v]) (hv : v.oneCell' = true)
    (h : ∀ w', Blk w' g t (cs.setIfInBounds i v) → w.grownBy w' (some g) → K (a.put op.dst undef) w') : op.wp P a w K Q := by
  have ht : w.there g i 1 := fun j hj => by
    obtain rfl : j = 0 := by omega
    refine ⟨?_, hb.frozen _⟩
    rw [Nat.add_zero, hb.cell i, Array.getElem?_eq_getElem hs]; rfl
  have hg : w.grownBy (w.setCell ⟨g, i, none⟩ v) (some g) := grown_setCells g [v] i w
  unfold Oper.wp execOp
  simp only [ho, hx, hy, Instr.storeAt, Instr.sureAddr, Sem.run_bind, Sem.run_pure, Result.andThen_ok, run_storeVar_one w g i ty v hvc hv ht hi]
  exact h _ (hb.set_ i v) hg
theorem wpList_store_fld {ops : Array Oper} {rest : List Oper} {op : Oper} {a : Act} {w : World} {Q : Exit → Act → World → Prop} (hgd : op.guard = none) (ty : TypeId) (x y : Operand) (ho : op.op = .store ty x y)
    (g i : Nat) (t : TypeId) (cs : Array Value) (v : Value) (hx : a.eval x = .pointer (some ⟨g, i, none⟩)) (hy : a.eval y = v) (hb : Blk w g t cs) (hs : i < cs.size)
    (hi : (P.info? ty).map (·.size) = some 1) (hvc : v.cells = #[v]) (hv : v.oneCell' = true)
    (h : ∀ w', Blk w' g t (cs.setIfInBounds i v) → w.grownBy w' (some g) → wpList P ops Q rest (a.put op.dst undef) w') : wpList P ops Q (op :: rest) a w :=
  wpList_plain hgd fun _ hK => wp_store_fld ty x y ho g i t cs v hx hy hb hs hi hvc hv fun w' h2 h3 => hK _ _ (h w' h2 h3)
/-- Under an S that gives a whole block its load may be taken first. -/
theorem yieldsIf_load_blk {ops : Array Oper} {S : World → Prop} {op : Oper} {a : Act} (hw : Region.wanted op (yielded ops a.tmps) = true) (ty : TypeId) (x : Operand) (ho : op.op = .load ty x)
    (g : Nat) (hx : a.eval x = .pointer (some ⟨g, 0, none⟩)) (t : TypeId) (cs : Array Value) (d : TypeDesc) (hS : ∀ w, S w → Blk w g t cs)
    (hu : P.underlying ty = some d) (hd : (match d with | .struct _ | .array _ _ => true | _ => false) = true) (hi : (P.info? ty).map (·.size) = some cs.size) : YieldsIf P ops S op (.agg cs) a :=
  .inl ⟨hw, fun w hw' => by
    unfold execOp
    simp only [ho, hx, Instr.loadAt, Instr.sureAddr, Sem.run_bind, Sem.run_pure, Result.andThen_ok, run_loadVar_row w g t ty cs (0, 0) d (hS w hw') hu hd hi]⟩
theorem yieldsIf_build {ops : Array Oper} {S : World → Prop} {op : Oper} {a : Act} (hw : Region.wanted op (yielded ops a.tmps) = true) (t : TypeId) (parts : Array (Nat × Operand)) (ho : op.op = .build t parts)
    (vals : List (Nat × Value)) (hv : parts.toList.map (fun p => (p.1, a.eval p.2)) = vals) (cells : Array Value) (hc' : P.built t vals = some cells) : YieldsIf P ops S op (.agg cells) a :=
  .inl ⟨hw, fun w _ => by
    have hc : P.built t (parts.map fun (i, x) => (i, a.eval x)).toList = some cells := by rw [Array.toList_map]; exact (congrArg (P.built t) hv).trans hc'
    unfold execOp
    simp only [ho, Sem.run_bind, run_build w t _ cells hc, Result.andThen_ok]
    rfl⟩
theorem yieldsIf_move {ops : Array Oper} {S : World → Prop} {op : Oper} {a : Act} (hw : Region.wanted op (yielded ops a.tmps) = true) (x : Operand) (ho : op.op = .move x) (v : Value) (hx : a.eval x = v) : YieldsIf P ops S op v a :=
  .inl ⟨hw, fun w _ => by
    unfold execOp
    simp only [ho, hx]
    rfl⟩
/-- A function's results that lie in blocks. -/
theorem res_row {w : World} {ty : TypeId} {g : Nat} {t : TypeId} {cs : Array Value} {d : TypeDesc} (hb : Blk w g t cs) (hu : P.underlying ty = some d) (hd : (match d with | .struct _ | .array _ _ => true | _ => false) = true) (hi : (P.info? ty).map (·.size) = some cs.size) :
    (loadVar ty ⟨g, 0, none⟩).run P w = .ok (.agg cs) w := run_loadVar_row w g t ty cs (0, 0) d hb hu hd hi
theorem results_rows2 {fn : Func} {p q : Tmp} {ty ty2 : TypeId} (h : fn.results = #[.cell p ty, .cell q ty2]) (tmps : Array Value) (w : World) (g g2 : Nat) (t t2 : TypeId) (cs cs2 : Array Value) (d d2 : TypeDesc)
    (hp : tmps.getD p undef = .pointer (some ⟨g, 0, none⟩)) (hq : tmps.getD q undef = .pointer (some ⟨g2, 0, none⟩)) (hb : Blk w g t cs) (hb2 : Blk w g2 t2 cs2)
    (hu : P.underlying ty = some d) (hd : (match d with | .struct _ | .array _ _ => true | _ => false) = true) (hi : (P.info? ty).map (·.size) = some cs.size)
    (hu2 : P.underlying ty2 = some d2) (hd2 : (match d2 with | .struct _ | .array _ _ => true | _ => false) = true) (hi2 : (P.info? ty2).map (·.size) = some cs2.size) :
    (results fn tmps).run P w = .ok (.tuple #[.agg cs, .agg cs2]) w := by
  have hp' : tmps[p]?.getD undef = .pointer (some ⟨g, 0, none⟩) := by simpa using hp
  have hq' : tmps[q]?.getD undef = .pointer (some ⟨g2, 0, none⟩) := by simpa using hq
  simp [results, h, hp', hq', asAddr, res_row hb hu hd hi, res_row hb2 hu2 hd2 hi2]
theorem results_rows3 {fn : Func} {p q r : Tmp} {ty : TypeId} (h : fn.results = #[.cell p ty, .cell q ty, .cell r ty]) (tmps : Array Value) (w : World) (g g2 g3 : Nat) (t t2 t3 : TypeId) (cs cs2 cs3 : Array Value) (d : TypeDesc)
    (hp : tmps.getD p undef = .pointer (some ⟨g, 0, none⟩)) (hq : tmps.getD q undef = .pointer (some ⟨g2, 0, none⟩)) (hr : tmps.getD r undef = .pointer (some ⟨g3, 0, none⟩)) (hb : Blk w g t cs) (hb2 : Blk w g2 t2 cs2) (hb3 : Blk w g3 t3 cs3)
    (hu : P.underlying ty = some d) (hd : (match d with | .struct _ | .array _ _ => true | _ => false) = true) (hi : (P.info? ty).map (·.size) = some cs.size) (hi2 : (P.info? ty).map (·.size) = some cs2.size) (hi3 : (P.info? ty).map (·.size) = some cs3.size) :
    (results fn tmps).run P w = .ok (.tuple #[.agg cs, .agg cs2, .agg cs3]) w := by
  have hp' : tmps[p]?.getD undef = .pointer (some ⟨g, 0, none⟩) := by simpa using hp
  have hq' : tmps[q]?.getD undef = .pointer (some ⟨g2, 0, none⟩) := by simpa using hq
  have hr' : tmps[r]?.getD undef = .pointer (some ⟨g3, 0, none⟩) := by simpa using hr
  simp [results, h, hp', hq', hr', asAddr, res_row hb hu hd hi, res_row hb2 hu hd hi2, res_row hb3 hu hd hi3]
end
end Go.Proofs.YtadlabndbomgmaaDoor
/- More words for memory: what lies in a block of the call's own, whole; copying into it. No program in sight. -/
namespace Go.Proofs.YtadlabndbomgmaaDoor
open Go.RowKit
/-- A block known whole is a row of the call's own. -/
theorem own_of_blk {w : World} {base g n size : Nat} {e : TypeId} {cs : Array Value} (h : Blk w g e cs) (hb : base ≤ g) (hc : n ≤ maxLen) (hs : cs.size = n * size) : w.ownsRow base e size (.slice (some ⟨g, 0, none⟩) n n) n cs.toList :=
  ⟨by simpa using hs, .inr ⟨g, n, cs, rfl, hb, h, Nat.le_refl _, hc, hs, List.take_of_length_le (by simp [hs])⟩⟩
/-- The cells of a list of integers. -/
def intsA (xs : List Int) : Array Value := (xs.map (Value.int .i64)).toArray
theorem intsA_size (xs : List Int) : (intsA xs).size = xs.length := by simp [intsA]
theorem intsA_list (xs : List Int) : (intsA xs).toList = xs.map (Value.int .i64) := by simp [intsA]
theorem intsA_at (xs : List Int) (k : Nat) (h : k < xs.length) : (intsA xs)[k]? = some (.int .i64 (at0 xs k)) := by
  simp [intsA, List.getElem?_eq_getElem h, at0]
theorem intsA_set (xs : List Int) (k : Nat) (x : Int) : (intsA xs).setIfInBounds k (.int .i64 x) = intsA (xs.set k x) := by
  apply Array.ext'
  simp [intsA, List.map_set]
theorem made_ints (m : Nat) : madeCells #[.int .i64 0] m = intsA (List.replicate m 0) := by
  apply Array.ext'
  rw [intsA_list, madeCells_rep, List.map_replicate]
theorem splice_ints (xs ys : List Int) (k : Nat) : (splice (xs.map (Value.int .i64)) k (ys.map (Value.int .i64))).toArray = intsA (xs.take k ++ ys ++ xs.drop (k + ys.length)) := by
  simp [splice, intsA, List.map_take, List.map_drop]
/-- A copy into a block of the call's own, as its run says it: for a region that draws its order. -/
theorem copy_run {P : Program} (w : World) (T ty elem : TypeId) (hu : P.underlying T = some (.slice elem)) (hsz : (P.info? elem).map (·.size) = some 1) (g off dLen dCap : Nat) (ad : Addr) (sLen sCap : Nat) (t : TypeId) (cur cs : List Value)
    (hg : Blk w g t cur.toArray) (hn : cs.length = Nat.min sLen dLen) (hsrc : ∀ j v, cs[j]? = some v → w.cell? (ad.add j) = some v) (hfit : off + cs.length ≤ cur.length) (h1 : ∀ v ∈ cs, v.oneCell' = true) :
    ∃ w', (Builtin.copy_ #[T, T] ty #[.slice (some ⟨g, off, none⟩) dLen dCap, .slice (some ad) sLen sCap]).run P w = .ok (.int .i64 (cs.length : Nat)) w' ∧ Blk w' g t (splice cur off cs).toArray ∧ ∀ B w0, Below B w0 w → B ≤ g → Below B w0 w' := by
  by_cases h0 : cs.length = 0
  · obtain rfl : cs = [] := List.eq_nil_of_length_eq_zero h0
    have hrun := run_copy_none (P := P) w T T ty elem (some ⟨g, off, none⟩) (some ad) dLen dCap sLen sCap hu hsz (by simpa using hn.symm)
    exact ⟨w, hrun, by simpa [splice] using hg, fun _ _ h _ => h⟩
  · have hrun := run_copy_row (P := P) w T T ty elem g off dLen dCap ad sLen sCap cur.toArray t cs hu hsz hg hn hsrc (by simpa using hfit) h1
    exact ⟨_, hrun, by unfold Blk; simpa [splice] using setRow_heap w g _ _ t _ hg, fun B w0 hb hB => below_setRow hb hB _⟩
/-- The same, of a source that reads as a list, all of it. -/
theorem copy_reads {P : Program} (w : World) (T ty elem : TypeId) (hu : P.underlying T = some (.slice elem)) (hsz : (P.info? elem).map (·.size) = some 1) (g off m dCap : Nat) (A : Option Addr) (sCap B : Nat) (t : TypeId) (cur cs : List Value)
    (hg : Blk w g t cur.toArray) (hr : Reads w B 1 A m cs) (hfit : off + m ≤ cur.length) (h1 : ∀ v ∈ cs, v.oneCell' = true) :
    ∃ w', (Builtin.copy_ #[T, T] ty #[.slice (some ⟨g, off, none⟩) m dCap, .slice A m sCap]).run P w = .ok (.int .i64 (m : Nat)) w' ∧ Blk w' g t (splice cur off cs).toArray ∧ ∀ B w0, Below B w0 w → B ≤ g → Below B w0 w' := by
  have hl : cs.length = m := by have := hr.1; simpa using this
  rcases Nat.eq_zero_or_pos m with h0 | h0
  · subst h0
    obtain rfl : cs = [] := List.eq_nil_of_length_eq_zero hl
    have hrun := run_copy_none (P := P) w T T ty elem (some ⟨g, off, none⟩) A 0 dCap 0 sCap hu hsz rfl
    exact ⟨w, hrun, by simpa [splice] using hg, fun _ _ h _ => h⟩
  · obtain ⟨ad, rfl, _, hc⟩ := hr.2 h0
    obtain ⟨w', h2, h3, h4⟩ := copy_run (P := P) w T ty elem hu hsz g off m dCap ad m sCap t cur cs hg (by rw [hl]; exact (Nat.min_self m).symm) hc (by omega) h1
    exact ⟨w', by rw [h2, hl], h3, h4⟩
/-- A block known whole reads as one element. -/
theorem reads_blk {w : World} {g : Nat} {e : TypeId} {cs : Array Value} (hb : Blk w g e cs) (size : Nat) (hcs : cs.size = size) : Reads w (g + 1) size (some ⟨g, 0, none⟩) 1 cs.toList := by
  refine ⟨by simp [hcs], fun _ => ⟨_, rfl, by simp, fun j u hj => ?_⟩⟩
  rw [show (⟨g, 0, none⟩ : Addr).add j = ⟨g, j, none⟩ by unfold Addr.add; split <;> simp_all]
  rw [hb.cell j, ← hj]; simp
/-- One element, which lies in a block of its own, is appended to a row of the call's own. -/
theorem wpList_app1 {P : Program} {w : World} {ops : Array Oper} {rest : List Oper} {o : Oper} {a : Act} {Q : Exit → Act → World → Prop} (hgd : o.guard = none) (s x : Operand) (t : TypeId)
    (ho : o.op = .call { callee := .builtin .append, args := #[s, x], argTypes := #[t, t] }) (base : Nat) (e : TypeId) (z : Value) (size bytes : Nat) (ht : P.underlying t = some (.slice e))
    (hinfo : (P.info? e).map (fun i => (i.zero, i.size, i.bytes)) = some (some z, size, bytes)) (hzs : z.cells.size = size) (hsz : 0 < size)
    (v : Value) (n : Nat) (xs : List Value) (hs : a.eval s = v) (hown : w.ownsRow base e size v n xs) (g c : Nat) (cs : Array Value) (hb : Blk w g e cs) (hcs : cs.size = size) (hx : a.eval x = .slice (some ⟨g, 0, none⟩) 1 c)
    (h1 : cs.toList.all (·.oneCell') = true) (hn : n ≤ 1000000) (hby : bytes ≤ 1000) (hbase : base ≤ w.heap.size)
    (h : ∀ v' w', w'.ownsRow base e size v' (n + 1) (xs ++ cs.toList) → w.grownBy w' v.ownBlock → wpList P ops Q rest (a.put o.dst v') w') : wpList P ops Q (o :: rest) a w := by
  obtain ⟨i, hi, hz, hsize, hbytes⟩ := info_parts hinfo
  refine wpList_append_any w hgd s x t ho base e i z size bytes ht hi hz hsize hbytes hzs hsz v n xs hs hown (g + 1) (some ⟨g, 0, none⟩) 1 c cs.toList hx (reads_blk hb size hcs) (List.all_eq_true.1 h1) (by simp only [maxLen]; omega) ?_ hbase fun v' w' h2 h3 _ => h v' w' h2 h3
  have := Nat.mul_le_mul (show n + 1 ≤ 1000001 by omega) hby
  omega
/-- A record is stored into the midst of a block. -/
theorem wp_store_rec {P : Program} {op : Oper} {a : Act} {w : World} {K : Act → World → Prop} {Q : Exit → Act → World → Prop} (ty : TypeId) (x y : Operand) (ho : op.op = .store ty x y)
    (g i : Nat) (t : TypeId) (cs : List Value) (vs : Array Value) (hx : a.eval x = .pointer (some ⟨g, i, none⟩)) (hy : a.eval y = .agg vs) (hb : Blk w g t cs.toArray) (hs : i + vs.size ≤ cs.length)
    (hi : (P.info? ty).map (·.size) = some vs.size) (h1 : vs.toList.all (·.oneCell') = true)
    (h : ∀ w', Blk w' g t (cs.take i ++ vs.toList ++ cs.drop (i + vs.toList.length)).toArray → w.grownBy w' (some g) → K (a.put op.dst undef) w') : op.wp P a w K Q := by
  have ht : w.there g i vs.size := fun j hj => by
    refine ⟨?_, hb.frozen _⟩
    rw [hb.cell, List.getElem?_toArray, List.getElem?_eq_getElem (by omega)]; rfl
  have hb2 := blk_setCells vs.toList i w cs.toArray (by simpa using hs) hb
  exact wp_store_mid ty x y ho g i vs hx hy ht hi (by rw [← Array.all_toList]; exact h1) (h _ (by simpa using hb2) (grown_setCells g _ i w))
theorem step_store_rec {P : Program} {ops : Array Oper} {op : Oper} {a : Act} {w : World} {K : Act → World → Prop} {Q : Exit → Act → World → Prop} {E : Prop} (hgd : op.guard = none) (ty : TypeId) (x y : Operand) (ho : op.op = .store ty x y)
    (g i : Nat) (t : TypeId) (cs : List Value) (vs : Array Value) (hx : a.eval x = .pointer (some ⟨g, i, none⟩)) (hy : a.eval y = .agg vs) (hb : Blk w g t cs.toArray) (hs : i + vs.size ≤ cs.length)
    (hi : (P.info? ty).map (·.size) = some vs.size) (h1 : vs.toList.all (·.oneCell') = true)
    (h : ∀ w', Blk w' g t (cs.take i ++ vs.toList ++ cs.drop (i + vs.toList.length)).toArray → w.grownBy w' (some g) → K (a.put op.dst undef) w') : if Region.wanted op (yielded ops a.tmps) = true then Oper.wp P op a w K Q else E := by
  rw [if_pos (by simp [Region.wanted, hgd])]
  exact wp_store_rec ty x y ho g i t cs vs hx hy hb hs hi h1 h
theorem step_store_fld {P : Program} {ops : Array Oper} {op : Oper} {a : Act} {w : World} {K : Act → World → Prop} {Q : Exit → Act → World → Prop} {E : Prop} (hgd : op.guard = none) (ty : TypeId) (x y : Operand) (ho : op.op = .store ty x y)
    (g i : Nat) (t : TypeId) (cs : Array Value) (v : Value) (hx : a.eval x = .pointer (some ⟨g, i, none⟩)) (hy : a.eval y = v) (hb : Blk w g t cs) (hs : i < cs.size)
    (hi : (P.info? ty).map (·.size) = some 1) (hvc : v.cells = #[v]) (hv : v.oneCell' = true)
    (h : ∀ w', Blk w' g t (cs.setIfInBounds i v) → w.grownBy w' (some g) → K (a.put op.dst undef) w') : if Region.wanted op (yielded ops a.tmps) = true then Oper.wp P op a w K Q else E := by
  rw [if_pos (by simp [Region.wanted, hgd])]
  exact wp_store_fld ty x y ho g i t cs v hx hy hb hs hi hvc hv h
theorem setCells9 (w : World) (g o : Nat) (v0 v1 v2 v3 v4 v5 v6 v7 v8 : Value) :
    ((((((((w.setCell ⟨g, o, none⟩ v0).setCell ⟨g, o + 1, none⟩ v1).setCell ⟨g, o + 2, none⟩ v2).setCell ⟨g, o + 3, none⟩ v3).setCell ⟨g, o + 4, none⟩ v4).setCell ⟨g, o + 5, none⟩ v5).setCell ⟨g, o + 6, none⟩ v6).setCell ⟨g, o + 7, none⟩ v7).setCell ⟨g, o + 8, none⟩ v8 =
      w.setCells g o [v0, v1, v2, v3, v4, v5, v6, v7, v8] := rfl
end Go.Proofs.YtadlabndbomgmaaDoor
/- Opening a law's arguments: what the walk is told of them. No program in sight. -/
namespace Go.Proofs.YtadlabndbomgmaaDoor
open Go.RowKit Go.ChangeShapes Go.WideShapes Go.Deep Go.ChangeAt
section
variable {H : Type} {enc : TypeId × Value → H} {P : Program} {w : World} {base : Nat} {spare : Nat → Bool} {held : Bool}
theorem cell_lt {w : World} {p : Addr} {v : Value} (h : w.cell? p = some v) : p.block < w.heap.size := by
  unfold World.cell? at h
  rcases Nat.lt_or_ge p.block w.heap.size with hlt | hge
  · exact hlt
  · rw [Array.getElem?_eq_none hge] at h; cases h
/-- A slice of integers that came in reads as a list. -/
theorem open_ints_reads {r : Reach} {b0 : Nat} {t e : TypeId} {k : IntKind} {v : Value} {d : DataW H} {ps : List MemPlace} (ht : P.underlying t = some (.slice e)) (he : P.underlying e = some (.int k)) (hc : P.cellsOf e = 1)
    (hval : Value.okWide P w r b0 t v) (hd : DataW.Trod enc P w base spare held t v d ps) :
    ∃ (A : Option Addr) (n c : Nat) (xs : List Int), v = .slice A n c ∧ n ≤ c ∧ c ≤ maxLen ∧ Reads w w.heap.size 1 A n (xs.map (.int k)) ∧ ∀ x ∈ xs, (Lit.int k x).wf = true := by
  obtain ⟨A, n, c, rfl⟩ := okWide_slice ht hval
  obtain ⟨fuel, hf⟩ := hd
  rcases open_ints ht he hc hf with ⟨hcs, _⟩ | ⟨x, l, c', zs, hcs, _, hl, hm, hz, _, hcell, hwz⟩
  · simp [Value.cells] at hcs
    obtain ⟨rfl, rfl, rfl⟩ := hcs
    exact ⟨none, 0, 0, [], rfl, Nat.le_refl _, Nat.zero_le _, by simpa using Reads.none_, by simp⟩
  · simp [Value.cells] at hcs
    obtain ⟨rfl, rfl, rfl⟩ := hcs
    have hzl : n ≤ zs.length := by rw [hz]; split <;> omega
    refine ⟨some x, n, c, zs.take n, rfl, hl, hm, ⟨by simp; omega, fun hn => ⟨x, rfl, ?_, fun j u hj => ?_⟩⟩, fun y hy => hwz y (List.mem_of_mem_take hy)⟩
    · have := hcell 0 (by omega)
      have h2 := cell_lt this
      rwa [block_of_add] at h2
    · rw [List.getElem?_map, List.getElem?_take] at hj
      split at hj
      · rename_i hjn
        rw [hcell j (by omega), ← hj]
        simp [List.getD, List.getElem?_eq_getElem (show j < zs.length by omega)]
      · cases hj
theorem wf_i64 {x : Int} (h : (Lit.int .i64 x).wf = true) : -9223372036854775808 ≤ x ∧ x ≤ 9223372036854775807 := by
  simp [Lit.wf, IntKind.min, IntKind.max, IntKind.signed, IntKind.bits] at h
  omega
/-- A slice of records of integers: the cell of field j of record k. -/
def Recs (w : World) (B size : Nat) (A : Option Addr) (n : Nat) (R : Nat → Nat → Int) : Prop :=
  ∀ k, k < n → ∃ g off, A = some ⟨g, off, none⟩ ∧ g < B ∧ ∀ j, j < size → w.cell? ⟨g, off + k * size + j, none⟩ = some (.int .i64 (R k j))
theorem Recs.below {w w' : World} {B size n : Nat} {A : Option Addr} {R : Nat → Nat → Int} (h : Recs w B size A n R) (hb : Below B w w') : Recs w' B size A n R := by
  intro k hk
  obtain ⟨g, off, hA, hg, hc⟩ := h k hk
  exact ⟨g, off, hA, hg, fun j hj => (hb.cell (p := ⟨g, off + k * size + j, none⟩) hg).trans (hc j hj)⟩
theorem Recs.drewN {w : World} {B size n : Nat} {A : Option Addr} {R : Nat → Nat → Int} (h : Recs w B size A n R) (k : Nat) : Recs (w.drewN k) B size A n R := h
theorem open_recs {r : Reach} {b0 : Nat} {t e : TypeId} {fs : Array Field} {v : Value} {d : DataW H} {ps : List MemPlace} (ht : P.underlying t = some (.slice e)) (he : P.underlying e = some (.struct fs))
    (hone : oneCellFields P fs = true) (hC : P.cellsOf e = fs.size) (hpos : 0 < fs.size) {ti : TypeId} (hU : P.underlying ti = some (.int .i64)) (hty : fs.toList.map (·.type) = List.replicate fs.size ti)
    (hval : Value.okWide P w r b0 t v) (hd : DataW.Trod enc P w base spare held t v d ps) :
    ∃ (A : Option Addr) (n c : Nat) (R : Nat → Nat → Int), v = .slice A n c ∧ n ≤ c ∧ c ≤ maxLen ∧ Recs w w.heap.size fs.size A n R ∧ ∀ k j, -9223372036854775808 ≤ R k j ∧ R k j ≤ 9223372036854775807 := by
  have hint : ∀ (j : Nat) (f : Field), fs[j]? = some f → P.underlying f.type = some (.int .i64) := by
    intro j f hj
    have h1 : (fs.toList.map (·.type))[j]? = some f.type := by rw [List.getElem?_map, Array.getElem?_toList, hj]; rfl
    rw [hty, List.getElem?_replicate] at h1
    split at h1
    · injection h1 with h1; rw [← h1]; exact hU
    · cases h1
  obtain ⟨A, n, c, rfl⟩ := okWide_slice ht hval
  obtain ⟨fuel, hf⟩ := hd
  rcases open_slice_fields ht he hone hC hf with ⟨hcs, _⟩ | ⟨a, l, c', m, D, Pl, hcs, _, hl, hm, hmm, _, hel⟩
  · simp [Value.cells] at hcs
    obtain ⟨rfl, rfl, rfl⟩ := hcs
    exact ⟨none, 0, 0, fun _ _ => 0, rfl, Nat.le_refl _, Nat.zero_le _, fun k hk => by omega, fun _ _ => by dsimp only; omega⟩
  · simp [Value.cells] at hcs
    obtain ⟨rfl, rfl, rfl⟩ := hcs
    have hnm : n ≤ m := by rw [hmm]; split <;> omega
    have hx : ∀ k j, k < n → j < fs.size → ∃ x, w.cell? (a.add (k * fs.size + j)) = some (.int .i64 x) ∧ (Lit.int .i64 x).wf = true := by
      intro k j hk hj
      obtain ⟨ys, n', _, _, _, hfd⟩ := hel k (by omega)
      obtain ⟨v, y, hc, _, hy⟩ := hfd j fs[j] (Array.getElem?_eq_getElem hj)
      obtain ⟨x, hv, _, hwf⟩ := DataW.trod_int (hint j fs[j] (Array.getElem?_eq_getElem hj)) hy
      simp at hv
      subst hv
      exact ⟨x, hc, hwf⟩
    refine ⟨some a, n, c, fun k j => if h : k < n ∧ j < fs.size then Classical.choose (hx k j h.1 h.2) else 0, rfl, hl, hm, ?_, ?_⟩
    · intro k hk
      obtain ⟨x, hc, _⟩ := hx k 0 hk (by omega)
      have hlt := cell_lt hc
      rw [block_of_add] at hlt
      obtain ⟨g, off, spot⟩ := a
      have hspot : spot = none := by
        have h1 := hx 0 0 (by omega) (by omega)
        obtain ⟨x1, hc1, _⟩ := h1
        simp [Addr.add] at hc1
        simpa using World.cell?_spot hc1
      subst hspot
      refine ⟨g, off, rfl, hlt, fun j hj => ?_⟩
      have hadd : ∀ i, (⟨g, off, none⟩ : Addr).add i = ⟨g, off + i, none⟩ := fun i => by unfold Addr.add; split <;> simp_all
      have h2 := Classical.choose_spec (hx k j hk hj)
      simp only [dif_pos (show k < n ∧ j < fs.size from ⟨hk, hj⟩)]
      rw [Nat.add_assoc, ← hadd]
      exact h2.1
    · intro k j
      by_cases h : k < n ∧ j < fs.size
      · simp only [dif_pos h]
        exact wf_i64 (Classical.choose_spec (hx k j h.1 h.2)).2
      · simp only [dif_neg h]; omega
end
end Go.Proofs.YtadlabndbomgmaaDoor
/- One element is appended in a region that draws its order; rows of other types stay. No program in sight. -/
namespace Go.Proofs.YtadlabndbomgmaaDoor
open Go.RowKit
theorem step_app1 {P : Program} {w : World} {ops : Array Oper} {o : Oper} {a : Act} {K : Act → World → Prop} {Q : Exit → Act → World → Prop} {E : Prop} (hgd : o.guard = none) (s x : Operand) (t : TypeId)
    (ho : o.op = .call { callee := .builtin .append, args := #[s, x], argTypes := #[t, t] }) (base : Nat) (e : TypeId) (z : Value) (size bytes : Nat) (ht : P.underlying t = some (.slice e))
    (hinfo : (P.info? e).map (fun i => (i.zero, i.size, i.bytes)) = some (some z, size, bytes)) (hzs : z.cells.size = size) (hsz : 0 < size)
    (v : Value) (n : Nat) (xs : List Value) (hs : a.eval s = v) (hown : w.ownsRow base e size v n xs) (g c : Nat) (cs : Array Value) (hb : Blk w g e cs) (hcs : cs.size = size) (hx : a.eval x = .slice (some ⟨g, 0, none⟩) 1 c)
    (h1 : cs.toList.all (·.oneCell') = true) (hn : n ≤ 1000000) (hby : bytes ≤ 1000) (hbase : base ≤ w.heap.size)
    (h : ∀ v' w', w'.ownsRow base e size v' (n + 1) (xs ++ cs.toList) → w.grownBy w' v.ownBlock → K (a.put o.dst v') w') : if Region.wanted o (yielded ops a.tmps) = true then Oper.wp P o a w K Q else E := by
  obtain ⟨i, hi, hz, hsize, hbytes⟩ := info_parts hinfo
  refine step_append_any w hgd s x t ho base e i z size bytes ht hi hz hsize hbytes hzs hsz v n xs hs hown (g + 1) (some ⟨g, 0, none⟩) 1 c cs.toList hx (reads_blk hb size hcs) (List.all_eq_true.1 h1) (by simp only [maxLen]; omega) ?_ hbase fun v' w' h2 h3 _ => h v' w' h2 h3
  have := Nat.mul_le_mul (show n + 1 ≤ 1000001 by omega) hby
  omega
theorem own_other {w w' : World} {b1 b2 s1 s2 n1 n2 : Nat} {e1 e2 : TypeId} {v1 v2 : Value} {x1 x2 : List Value} (h1 : w.ownsRow b1 e1 s1 v1 n1 x1) (h2 : w.ownsRow b2 e2 s2 v2 n2 x2) (hne : e1 ≠ e2) (hg : w.grownBy w' v2.ownBlock) : w'.ownsRow b1 e1 s1 v1 n1 x1 := by
  rcases h2.2 with ⟨rfl, _⟩ | ⟨g, cap, cur, rfl, _, hh, _⟩
  · by_cases hb : v1.ownBlock = none
    · exact h1.kept hg (.inl hb)
    · exact h1.kept hg (.inr (by simpa [Value.ownBlock] using hb))
  · exact h1.kept hg (.inr (own_blk_ne h1 hh hne))
end Go.Proofs.YtadlabndbomgmaaDoor
/- An operation of a region that may be taken first, its slot named. No program in sight. -/
namespace Go.Proofs.YtadlabndbomgmaaDoor
open Go.RowKit
section
variable {P : Program} {ops : Array Oper} {Q : Exit → Act → World → Prop} {md : Region.Mode} {S : World → Prop}
theorem take_at {i : Nat} {oi : Oper} {v : Value} {fuel : Nat} {listed : Array Bool} {a : Act} {w : World} (d : Option Tmp) (hi : ops[i]? = some oi) (hd : oi.dst = d)
    (hs : Region.noSelect ops = true) (hf : Region.free md ops listed i = true) (hr : (Region.ready md ops listed).contains i = true)
    (hQ : ∀ c a w, Q (.panic c) (a.put oi.dst v) w → Q (.panic c) a w) (hy : YieldsIf P ops S oi v a) (hS : S w)
    (h : wpAnyH P md ops Q S fuel (listed.setIfInBounds i true) (a.put d v) w) : wpAnyH P md ops Q S (fuel + 1) listed a w := by
  subst hd; exact wpAnyH_take hi hs hf hr hQ hy hS h
end
end Go.Proofs.YtadlabndbomgmaaDoor
/- A call that only computes may be taken first in a region that draws its order. No program in sight. -/
namespace Go.Proofs.YtadlabndbomgmaaDoor
open Go.RowKit
section
variable {P : Program} {ops : Array Oper} {Q : Exit → Act → World → Prop} {md : Region.Mode} {S : World → Prop}
/-- In every world that meets S the operation gives v and leaves the world as it is: by itself, or by a call that does so. -/
def Gives (P : Program) (S : World → Prop) (o : Oper) (v : Value) (a : Act) : Prop :=
  ∀ w, S w → (execOp a.eval o).run P w = .ok (.value v) w ∨ ∃ f args, (execOp a.eval o).run P w = .ok (.enter f args) w ∧ Calls P f args w fun e w' => e = .returned v ∧ w = w'
def Pays (P : Program) (ops : Array Oper) (S : World → Prop) (o : Oper) (v : Value) (a : Act) : Prop :=
  Region.wanted o (yielded ops a.tmps) = true ∧ Gives P S o v a
theorem Gives.wp {o : Oper} {v : Value} {a : Act} (h : Gives P S o v a) {K : Act → World → Prop} {w : World} (hS : S w) (hK : K (a.put o.dst v) w) : o.wp P a w K Q := by
  unfold Oper.wp
  rcases h w hS with e | ⟨f, args, e, hc⟩
  · rw [e]; exact hK
  · rw [e]
    refine Calls.mono hc ?_
    rintro e w' ⟨rfl, rfl⟩
    exact hK
theorem Pays.wpOp {i : Nat} {o : Oper} {v : Value} {a : Act} (hi : ops[i]? = some o) (hy : Pays P ops S o v a) {K : Act → World → Prop} {w : World} (hS : S w) (hK : K (a.put o.dst v) w) : wpOp P ops Q i K a w := by
  unfold Go.wpOp
  simp only [hi, hy.1, if_true]
  exact .inl (hy.2.wp hS hK)
theorem Pays.same {o : Oper} {v : Value} {a a' : Act} (hy : Pays P ops S o v a) (he : execOp a'.eval o = execOp a.eval o) (hw : Region.wanted o (yielded ops a'.tmps) = Region.wanted o (yielded ops a.tmps)) : Pays P ops S o v a' :=
  ⟨by rw [hw]; exact hy.1, fun w h => by rw [he]; exact hy.2 w h⟩
/-- Another operation, apart from the one that is taken first, goes as it went behind it. -/
theorem wpOp_before {j : Nat} {oi oj : Oper} {v : Value} (hj : ops[j]? = some oj) (hap : oi.apart ops oj = true) (hsi : ∀ cs b, oi.op ≠ .select cs b) (hsj : ∀ cs b, oj.op ≠ .select cs b)
    (hQ : ∀ c a w, Q (.panic c) (a.put oi.dst v) w → Q (.panic c) a w) {K : Act → World → Prop} {a : Act} {w : World} (hy : Pays P ops S oi v a) (h : wpOp P ops Q j K (a.put oi.dst v) w) :
    wpOp P ops Q j (fun a' w' => Pays P ops S oi v a' ∧ K (a'.put oi.dst v) w') a w := by
  obtain ⟨h1, h2, h3⟩ := Oper.apart_spec hap
  have on : ∀ u, Pays P ops S oi v (a.put oj.dst u) := fun u => hy.same (execOp_put oi hsi a oj.dst u h3) (wanted_put oi a oj.dst u h3)
  have back : ∀ u w', K ((a.put oi.dst v).put oj.dst u) w' → Pays P ops S oi v (a.put oj.dst u) ∧ K ((a.put oj.dst u).put oi.dst v) w' := fun u w' hk =>
    ⟨on u, by rw [← Act.put_comm a v u h2]; exact hk⟩
  unfold wpOp at *
  simp only [hj] at *
  rw [wanted_put oj a oi.dst v h1] at h
  by_cases hw : Region.wanted oj (yielded ops a.tmps) = true
  · simp only [hw, if_true] at h ⊢
    rcases h with h | ⟨ha, hl⟩
    · refine .inl ?_
      unfold Oper.wp at *
      rw [execOp_put oj hsj a oi.dst v h1] at h
      cases hr : (execOp a.eval oj).run P w with
      | ok n w' =>
        rw [hr] at h
        cases n with
        | value u => exact back u w' h
        | skip => exact back undef w' h
        | defer d =>
          refine ⟨(show Pays P ops S oi v { a with defers := d :: a.defers } from hy.same rfl rfl).same (execOp_put oi hsi _ oj.dst _ h3) (wanted_put oi _ oj.dst _ h3), ?_⟩
          simp only [Oper.upon] at h ⊢
          rw [← Act.put_comm _ v undef h2, ← Act.put_defers]
          exact h
        | enter f args =>
          refine Calls.mono h fun e w'' he => ?_
          cases e with
          | returned u => exact back u w'' he
          | panicked c => exact hQ _ _ _ he
          | outgrown => exact he
        | row r args => exact Rows.mono h fun u w'' he => back u w'' he
        | _ => exact h
      | halt x w' =>
        rw [hr] at h
        cases x with
        | panic u => exact hQ _ _ _ h
        | _ => exact h
    · exact .inr ⟨by unfold Oper.asks at *; rw [execOp_put oj hsj a oi.dst v h1] at ha; exact ha, hl⟩
  · simp only [hw] at h ⊢
    exact back undef w h
theorem unlisted_set {l : Array Bool} {i j : Nat} (h : (l.setIfInBounds j true).getD i true = false) : l.getD i true = false := by
  by_cases e : j = i
  · subst e
    rcases Nat.lt_or_ge j l.size with h' | h'
    · simp [h'] at h
    · simp at h
  · rwa [getD_set_ne true e] at h
theorem pays_first {i : Nat} {oi : Oper} {v : Value} (hi : ops[i]? = some oi) (hsel : ∀ (j : Nat) (o : Oper) cs b, ops[j]? = some o → o.op ≠ .select cs b) (hQ : ∀ c a w, Q (.panic c) (a.put oi.dst v) w → Q (.panic c) a w) :
    ∀ (fuel : Nat) (l : Array Bool) (a : Act) (w : World), (∀ j oj, ops[j]? = some oj → j ≠ i → l.getD j true = false → (∀ e ∈ oj.after, Region.binds md e = true → e.on ≠ i) → oi.apart ops oj = true) →
      i ∈ Region.ready md ops l → Pays P ops S oi v a → S w → wpAnyH P md ops Q S fuel (l.setIfInBounds i true) (a.put oi.dst v) w → wpAnyH P md ops Q S (fuel + 1) l a w := by
  intro fuel
  induction fuel with
  | zero =>
    intro l a w _ hr hy hS H
    refine ⟨fun h => absurd hr (by rw [h]; exact List.not_mem_nil), fun j hj => ?_⟩
    by_cases e : j = i
    · subst e; exact hy.wpOp hi hS ⟨hS, H⟩
    · have := ready_mono hj e
      rw [H.1] at this
      exact absurd this List.not_mem_nil
  | succ fuel ih =>
    intro l a w hfree hr hy hS H
    refine ⟨fun h => absurd hr (by rw [h]; exact List.not_mem_nil), fun j hj => ?_⟩
    by_cases e : j = i
    · subst e; exact hy.wpOp hi hS ⟨hS, H⟩
    · obtain ⟨hun, oj, hoj, hall⟩ := mem_ready.1 hj
      have h0 := (mem_ready.1 hr).1
      have hnot : ∀ e ∈ oj.after, Region.binds md e = true → e.on ≠ i := fun e he hb heq => by
        have h1 := hall e he hb
        rw [heq] at h1
        rcases Nat.lt_or_ge i l.size with h' | h'
        · simp [h'] at h0 h1; rw [h0] at h1; cases h1
        · simp [Array.getElem?_eq_none h'] at h1
      refine wpOp_mono (fun a' w' h3 => ⟨h3.2.1, ih (l.setIfInBounds j true) a' w' (fun k ok hk hki hu hno => hfree k ok hk hki (unlisted_set hu) hno) (ready_mono hr (Ne.symm e)) h3.1 h3.2.1 ?_⟩)
        (wpOp_before hoj (hfree j oj hoj e hun hnot) (fun cs b => hsel i oi cs b hi) (fun cs b => hsel j oj cs b hoj) hQ hy (H.2 j (ready_mono hj e)))
      rw [Array.setIfInBounds_comm _ _ e]
      exact h3.2.2
/-- The call, taken first, its slot named. -/
theorem call_at {i : Nat} {oi : Oper} {v : Value} {fuel : Nat} {l : Array Bool} {a : Act} {w : World} (d : Option Tmp) (hi : ops[i]? = some oi) (hd : oi.dst = d)
    (hs : Region.noSelect ops = true) (hf : Region.free md ops l i = true) (hr : (Region.ready md ops l).contains i = true)
    (hQ : ∀ c a w, Q (.panic c) (a.put oi.dst v) w → Q (.panic c) a w) (hw : Region.wanted oi (yielded ops a.tmps) = true) (f : FuncId) (args : Array Value) (he : ∀ W, S W → (execOp a.eval oi).run P W = .ok (.enter f args) W)
    (hc : ∀ W, S W → Calls P f args W fun e w' => e = .returned v ∧ W = w') (hS : S w)
    (h : wpAnyH P md ops Q S fuel (l.setIfInBounds i true) (a.put d v) w) : wpAnyH P md ops Q S (fuel + 1) l a w := by
  subst hd
  exact pays_first hi (Region.noSelect_spec hs) hQ fuel l a w (Region.free_spec hi hf) (by simpa using hr) ⟨hw, fun W hW => .inr ⟨f, args, he W hW, hc W hW⟩⟩ hS h
end
end Go.Proofs.YtadlabndbomgmaaDoor
/- How items of lines and their parts lie in memory. No program in sight. -/
namespace Go.Proofs.YtadlabndbomgmaaDoor
open Go.RowKit
def itC (x : It) : List Value := [.int .i64 x.kind, .int .i64 x.box, .string x.text, .int .i64 x.size, .int .i64 x.spacing, .int .i64 x.height, .int .i64 x.mode, .int .i64 x.shift, .int .i64 x.w, .int .i64 x.h, .int .i64 x.side]
def itCells (xs : List It) : List Value := xs.flatMap itC
theorem itCells_len (l : List It) : (itCells l).length = l.length * 11 := by
  induction l with
  | nil => rfl
  | cons c l ih => simp only [itCells, List.flatMap_cons, List.length_append] at ih ⊢; rw [ih]; simp [itC]; omega
theorem itCells_snoc (l : List It) (c : It) : itCells (l ++ [c]) = itCells l ++ itC c := by simp [itCells]
theorem itCells_at : ∀ (l : List It) (k j : Nat), k < l.length → j < 11 → (itCells l)[k * 11 + j]? = (itC (itAt l k))[j]?
  | [], _, _, h, _ => absurd h (Nat.not_lt_zero _)
  | d :: l, 0, j, _, hj => by
    show (itC d ++ itCells l)[0 * 11 + j]? = _
    rw [Nat.zero_mul, Nat.zero_add, List.getElem?_append_left (by simpa [itC] using hj)]; rfl
  | d :: l, k + 1, j, h, hj => by
    show (itC d ++ itCells l)[(k + 1) * 11 + j]? = _
    rw [List.getElem?_append_right (by simp [itC]; omega), show (k + 1) * 11 + j - (itC d).length = k * 11 + j by simp [itC]; omega, itCells_at l k j (by simpa using h) hj]; rfl
/-- The items lie in block g. -/
def ItsAt (w : World) (g : Nat) (xs : List It) : Prop := ∀ k, k < xs.length → ∀ j, j < 11 → w.cell? ⟨g, k * 11 + j, none⟩ = (itC (itAt xs k))[j]?
theorem ItsAt.below {w w' : World} {g B : Nat} {xs : List It} (h : ItsAt w g xs) (hb : Below B w w') (hg : g < B) : ItsAt w' g xs := fun k hk j hj => (hb.cell (p := ⟨g, k * 11 + j, none⟩) hg).trans (h k hk j hj)
theorem ItsAt.lt {w : World} {g : Nat} {xs : List It} (h : ItsAt w g xs) (hl : 0 < xs.length) : g < w.heap.size := by
  have h1 := h 0 hl 0 (by omega)
  have h2 : (w.cell? ⟨g, 0 * 11 + 0, none⟩) = some (.int .i64 (itAt xs 0).kind) := h1
  unfold World.cell? at h2
  rcases Nat.lt_or_ge g w.heap.size with hlt | hge
  · exact hlt
  · rw [Array.getElem?_eq_none hge] at h2; cases h2
theorem ItsAt.alloc {w : World} {g : Nat} {xs : List It} (h : ItsAt w g xs) (o : Obj) (hl : g < w.heap.size) : ItsAt (w.alloc o) g xs := h.below ((Below.refl w.heap.size w).alloc (Nat.le_refl _) o) hl
theorem its_of_own {w : World} {base : Nat} {t : TypeId} {A : Option Addr} {n c : Nat} {xs : List It} (h : w.ownsRow base t 11 (.slice A n c) n (itCells xs)) (hl : xs.length = n) (h0 : 0 < n) : ∃ g, A = some ⟨g, 0, none⟩ ∧ base ≤ g ∧ g < w.heap.size ∧ ItsAt w g xs := by
  obtain ⟨g, cap, hv, hg, hgl⟩ := h.form h0
  have hA : A = some ⟨g, 0, none⟩ := by injection hv
  subst hA
  refine ⟨g, rfl, hg, hgl, fun k hk j hj => ?_⟩
  rw [h.cellAt _ (by omega), itCells_at xs k j hk hj]
def ptC (g : Nat) (p : Pt) : List Value := [.pointer (some ⟨g, p.i * 11, none⟩), .int .i64 p.i, .string p.t, .int .i64 p.w, .bool p.last]
def ptV (g : Nat) (p : Pt) : Array Value := #[.pointer (some ⟨g, p.i * 11, none⟩), .int .i64 p.i, .string p.t, .int .i64 p.w, .bool p.last]
def ptCells (g : Nat) (ps : List Pt) : List Value := ps.flatMap (ptC g)
theorem ptCells_len (g : Nat) (l : List Pt) : (ptCells g l).length = l.length * 5 := by
  induction l with
  | nil => rfl
  | cons c l ih => simp only [ptCells, List.flatMap_cons, List.length_append] at ih ⊢; rw [ih]; simp [ptC]; omega
theorem ptCells_snoc (g : Nat) (l : List Pt) (c : Pt) : ptCells g (l ++ [c]) = ptCells g l ++ ptC g c := by simp [ptCells]
theorem ptCells_at (g : Nat) : ∀ (l : List Pt) (k j : Nat), k < l.length → j < 5 → (ptCells g l)[k * 5 + j]? = (ptC g (ptAt l k))[j]?
  | [], _, _, h, _ => absurd h (Nat.not_lt_zero _)
  | d :: l, 0, j, _, hj => by
    show (ptC g d ++ ptCells g l)[0 * 5 + j]? = _
    rw [Nat.zero_mul, Nat.zero_add, List.getElem?_append_left (by simpa [ptC] using hj)]; rfl
  | d :: l, k + 1, j, h, hj => by
    show (ptC g d ++ ptCells g l)[(k + 1) * 5 + j]? = _
    rw [List.getElem?_append_right (by simp [ptC]; omega), show (k + 1) * 5 + j - (ptC g d).length = k * 5 + j by simp [ptC]; omega, ptCells_at g l k j (by simpa using h) hj]; rfl
/-- Parts lie in block h from place off on; they point to items in block g. -/
def PtsAt (w : World) (g h off : Nat) (ps : List Pt) : Prop := ∀ k, k < ps.length → ∀ j, j < 5 → w.cell? ⟨h, off + k * 5 + j, none⟩ = (ptC g (ptAt ps k))[j]?
theorem PtsAt.below {w w' : World} {g h off B : Nat} {ps : List Pt} (hp : PtsAt w g h off ps) (hb : Below B w w') (hg : h < B) : PtsAt w' g h off ps := fun k hk j hj => (hb.cell (p := ⟨h, off + k * 5 + j, none⟩) hg).trans (hp k hk j hj)
theorem ptAt_seg (ps : List Pt) (a b k : Nat) (hb : b ≤ ps.length) (hk : a + k < b) : ptAt (segP ps (a, b)) k = ptAt ps (a + k) := by
  have h1 : (segP ps (a, b)).length = b - a := by simp only [segP, List.length_take, List.length_drop]; omega
  rw [ptAt_of _ k (by omega), ptAt_of _ (a + k) (by omega)]
  simp [segP]
theorem PtsAt.seg {w : World} {g h off : Nat} {ps : List Pt} (hp : PtsAt w g h off ps) (a b : Nat) (hb : b ≤ ps.length) : PtsAt w g h (off + a * 5) (segP ps (a, b)) := by
  intro k hk j hj
  have h1 : (segP ps (a, b)).length = b - a := by simp only [segP, List.length_take, List.length_drop]; omega
  rw [ptAt_seg ps a b k hb (by omega), ← hp (a + k) (by omega) j hj, show off + a * 5 + k * 5 + j = off + (a + k) * 5 + j by omega]
theorem pts_of_own {w : World} {base g : Nat} {t : TypeId} {A : Option Addr} {n c : Nat} {ps : List Pt} (h : w.ownsRow base t 5 (.slice A n c) n (ptCells g ps)) (hl : ps.length = n) (h0 : 0 < n) : ∃ q, A = some ⟨q, 0, none⟩ ∧ base ≤ q ∧ q < w.heap.size ∧ PtsAt w g q 0 ps := by
  obtain ⟨q, cap, hv, hg, hgl⟩ := h.form h0
  have hA : A = some ⟨q, 0, none⟩ := by injection hv
  subst hA
  refine ⟨q, rfl, hg, hgl, fun k hk j hj => ?_⟩
  rw [Nat.zero_add, h.cellAt _ (by omega), ptCells_at g ps k j hk hj]
theorem suffix_space (t : ByteArray) : Lib.hasSuffix t.data.toList [32] = spaceEnd t := by
  unfold Lib.hasSuffix spaceEnd
  rw [Bool.eq_iff_iff]
  simp only [List.isSuffixOf_iff_suffix, beq_iff_eq]
  constructor
  · rintro ⟨l, hl⟩
    rw [← hl]; simp
  · intro h
    have hne : t.data.toList ≠ [] := by intro e; rw [e] at h; cases h
    have h1 := List.dropLast_concat_getLast hne
    have h2 : t.data.toList.getLast hne = 32 := by rw [List.getLast?_eq_some_getLast hne] at h; injection h
    rw [h2] at h1
    exact ⟨_, h1⟩
end Go.Proofs.YtadlabndbomgmaaDoor
/- Plain law: in room enough nothing breaks. No program in sight. -/
namespace Go.Proofs.YtadlabndbomgmaaDoor
def dG (xs : List It) (ps : List Pt) : Int := widthG ps - tailG xs ps.reverse
def allSkip (xs : List It) (ps : List Pt) : Bool := ps.all fun p => skipA (pKind xs p)
theorem allSkip_cons (xs : List It) (p : Pt) (a : List Pt) : allSkip xs (p :: a) = (skipA (pKind xs p) && allSkip xs a) := rfl
theorem tailG_append (xs : List It) (a b : List Pt) : tailG xs (a ++ b) = if allSkip xs a then tailG xs b else tailG xs a := by
  induction a with
  | nil => rfl
  | cons p a ih =>
    rw [List.cons_append, allSkip_cons]
    simp only [tailG]
    by_cases h : skipA (pKind xs p) = true
    · rw [if_pos h, if_pos h, h, Bool.true_and]; exact ih
    · rw [if_neg h, if_neg h, if_neg (show ¬ (skipA (pKind xs p) && allSkip xs a) = true from by rw [Bool.and_eq_true]; exact fun q => h q.1)]
theorem allSkip_rev (xs : List It) (a : List Pt) : allSkip xs a.reverse = allSkip xs a := by simp [allSkip]
theorem tailG_skip (xs : List It) (a : List Pt) (h : allSkip xs a = true) : tailG xs a = 0 := by
  have := tailG_append xs a []
  rw [List.append_nil, h] at this
  simpa [tailG] using this
theorem dG_cons (xs : List It) (p : Pt) (r : List Pt) : dG xs (p :: r) = if allSkip xs r then p.w + widthG r - (if skipA (pKind xs p) then 0 else tailF xs p) else p.w + dG xs r := by
  unfold dG
  rw [widthG_cons, List.reverse_cons, tailG_append, allSkip_rev]
  split
  · simp [tailG]
  · omega
theorem dG_skip (xs : List It) (r : List Pt) (h : allSkip xs r = true) : dG xs r = widthG r := by
  unfold dG; rw [tailG_skip xs _ (by rw [allSkip_rev]; exact h)]; omega
theorem skip_coll {xs : List It} {p : Pt} (h : skipA (pKind xs p) = true) : collF xs p = false := by
  unfold collF
  unfold skipA at h
  have : (pKind xs p == 1) = false := by
    rw [Bool.or_eq_true, Bool.or_eq_true] at h
    simp only [beq_iff_eq] at h
    rw [beq_eq_false_iff_ne]
    omega
  rw [this]; rfl
theorem cleanF_skip (xs : List It) : ∀ (r : List Pt) (f : Bool), allSkip xs r = true → cleanF xs f r = r
  | [], _, _ => rfl
  | p :: r, f, h => by
    simp only [allSkip, List.all_cons, Bool.and_eq_true] at h
    have h1 := skip_coll h.1
    simp only [cleanF, h1, Bool.false_and, Bool.and_false, Bool.false_eq_true, if_false]
    rw [cleanF_skip xs r _ h.2]
theorem cleanF_width (xs : List It) : ∀ (r : List Pt) (f : Bool), (∀ p ∈ r, PtOk xs p) → widthG (cleanF xs f r) ≤ widthG r ∧ dG xs (cleanF xs f r) ≤ dG xs r
  | [], _, _ => ⟨Int.le_refl _, Int.le_refl _⟩
  | p :: r, f, h => by
    have hp := h p (by simp)
    unfold PtOk at hp
    have hr : ∀ q ∈ r, PtOk xs q := fun q hq => h q (by simp [hq])
    have hw := tailG_ok r.reverse (fun q hq => hr q (List.mem_reverse.1 hq))
    rw [widthG_rev] at hw
    simp only [cleanF]
    split
    · obtain ⟨i1, i2⟩ := cleanF_width xs r f hr
      rw [widthG_cons, dG_cons]
      refine ⟨by omega, ?_⟩
      by_cases hs : allSkip xs r = true
      · rw [if_pos hs]
        have := dG_skip xs r hs
        split <;> omega
      · rw [if_neg hs]; omega
    · obtain ⟨i1, i2⟩ := cleanF_width xs r (f || solidF xs p) hr
      rw [widthG_cons, widthG_cons, dG_cons, dG_cons]
      refine ⟨by omega, ?_⟩
      by_cases hs : allSkip xs r = true
      · rw [cleanF_skip xs r _ hs, if_pos hs]; exact Int.le_refl _
      · rw [if_neg hs]
        by_cases hc : allSkip xs (cleanF xs (f || solidF xs p) r) = true
        · rw [if_pos hc]
          have := dG_skip xs _ hc
          split <;> omega
        · rw [if_neg hc]; omega
theorem cleanF_sub (xs : List It) : ∀ (r : List Pt) (f : Bool), (cleanF xs f r).Sublist r
  | [], _ => List.Sublist.slnil
  | p :: r, f => by
    simp only [cleanF]
    split
    · exact List.Sublist.cons _ (cleanF_sub xs r f)
    · exact List.Sublist.cons_cons _ (cleanF_sub xs r _)
theorem cleanF_ends (xs : List It) (p : Pt) (hp : collF xs p = false) : ∀ (r : List Pt) (f : Bool), ∃ c, cleanF xs f (r ++ [p]) = c ++ [p]
  | [], f => ⟨[], by simp [cleanF, hp]⟩
  | q :: r, f => by
    simp only [List.cons_append, cleanF]
    split
    · exact cleanF_ends xs p hp r f
    · obtain ⟨c, hc⟩ := cleanF_ends xs p hp r (f || solidF xs q)
      exact ⟨q :: c, by rw [hc]; rfl⟩
/-- How many parts end their line. -/
def mustN (xs : List It) (ps : List Pt) : Nat := ps.countP fun p => pKind xs p == 6
theorem lastMust_of {xs : List It} {c : List Pt} (h : lastMust xs c = true) : 1 ≤ mustN xs c := by
  unfold lastMust at h
  cases hc : c.getLast? with
  | none => rw [hc] at h; cases h
  | some p =>
    rw [hc] at h
    have hm : p ∈ c := List.mem_of_getLast? hc
    exact List.countP_pos_iff.2 ⟨p, hm, h⟩
theorem endF_out (xs : List It) (sz ht al W : Int) (last : Bool) (st : BSt) : (endF xs sz ht al W last st).out.length ≤ st.out.length + 1 ∧ (endF xs sz ht al W last st).line = [] := by
  unfold endF; split <;> simp
theorem appF_out (xs : List It) (sz ht al W : Int) (st : BSt) (c : List Pt) : (appF xs sz ht al W st c).out.length ≤ st.out.length + mustN xs c ∧ ((appF xs sz ht al W st c).line = if lastMust xs c then [] else st.line ++ c) := by
  unfold appF
  by_cases h : lastMust xs c = true
  · rw [if_pos h, if_pos h]
    have h1 := endF_out xs sz ht al W true ⟨st.y, st.line ++ c, st.full || c.any (solidF xs), st.out⟩
    have h2 := lastMust_of h
    exact ⟨by have := h1.1; simp only at this; omega, h1.2⟩
  · rw [if_neg h, if_neg h]; exact ⟨Nat.le_add_right _ _, rfl⟩
theorem putF_fits (xs : List It) (sz ht al W : Int) (st : BSt) (g : List Pt) (h : widthG st.line + dG xs (cleanF xs st.full g) ≤ W) : putF xs sz ht al W st g = appF xs sz ht al W st (cleanF xs st.full g) := by
  unfold putF
  have : fitsF xs W st.line st.full (cleanF xs st.full g) = true := by
    unfold fitsF
    unfold dG at h
    rw [decide_eq_true (by omega)]; rfl
  rw [this]; rfl
def phi (s : Sz) : Int := max s.most s.fin
theorem szStep_phi {n : Nat} {s : Sz} {g : Int × Int × Bool} (h : SzOk n s) (hg : 0 ≤ g.2.1 ∧ g.2.1 ≤ g.1) : phi s ≤ phi (szStep s g) ∧ s.sum + (g.1 - g.2.1) ≤ phi (szStep s g) ∧ (szStep s g).sum = if g.2.2 then 0 else s.sum + g.1 := by
  obtain ⟨w, t, m⟩ := g
  unfold SzOk at h
  unfold szStep phi
  simp only at hg
  cases m
  · simp only [if_false, Bool.false_eq_true]
    exact ⟨by omega, by omega, trivial⟩
  · simp only [if_true]
    exact ⟨by omega, by omega, trivial⟩
theorem szTo_phi (gs : List (Int × Int × Bool)) (h : GsOk gs) (k j : Nat) (hj : k + j ≤ gs.length) : phi (szTo (gs.take k)) ≤ phi (szTo (gs.take (k + j))) := by
  induction j with
  | zero => exact Int.le_refl _
  | succ j ih =>
    have hlt : k + j < gs.length := by omega
    have h1 := szTo_ok gs h (k + j) (by omega)
    have h2 := h _ (List.getElem_mem hlt)
    rw [show k + (j + 1) = k + j + 1 by omega, List.take_succ_eq_append_getElem hlt, szTo_snoc]
    exact Int.le_trans (ih (by omega)) (szStep_phi h1 ⟨h2.1, h2.2.1⟩).1
/-- A group of parts as it is measured. -/
def gD (xs : List It) (g : List Pt) : Int × Int × Bool := (widthG g, tailG xs g.reverse, lastMust xs g)
theorem run_step (xs : List It) (sz ht al W y : Int) (gs : List (List Pt)) (k : Nat) (h : k < gs.length) : runF xs sz ht al W y (gs.take (k + 1)) = putF xs sz ht al W (runF xs sz ht al W y (gs.take k)) gs[k] := by
  unfold runF; rw [List.take_succ_eq_append_getElem h, List.foldl_append]; rfl
theorem collF_must {xs : List It} {p : Pt} (h : (pKind xs p == 6) = true) : collF xs p = false := by
  unfold collF
  have : (pKind xs p == 1) = false := by rw [beq_eq_false_iff_ne]; have := eq_of_beq h; omega
  rw [this]; rfl
theorem lastMust_clean {xs : List It} {g : List Pt} (f : Bool) (h : lastMust xs g = true) : lastMust xs (cleanF xs f g) = true := by
  unfold lastMust at h
  cases hc : g.getLast? with
  | none => rw [hc] at h; cases h
  | some p =>
    rw [hc] at h
    have hm : collF xs p = false := collF_must h
    obtain ⟨l, rfl⟩ := List.getLast?_eq_some_iff.1 hc
    obtain ⟨c, hc2⟩ := cleanF_ends xs p hm l f
    unfold lastMust
    rw [hc2]
    simpa using h
theorem run_one (xs : List It) (sz ht al W y : Int) (gs : List (List Pt)) (hok : ∀ g ∈ gs, ∀ p ∈ g, PtOk xs p) (hG : GsOk (gs.map (gD xs))) (hW : phi (szTo (gs.map (gD xs))) ≤ W) (k : Nat) (hk : k ≤ gs.length) :
    (runF xs sz ht al W y (gs.take k)).out.length ≤ ((gs.take k).map (mustN xs)).sum ∧ widthG (runF xs sz ht al W y (gs.take k)).line ≤ (szTo ((gs.map (gD xs)).take k)).sum := by
  induction k with
  | zero => simp [runF, szTo, widthG]
  | succ k ih =>
    obtain ⟨i1, i2⟩ := ih (by omega)
    have hlt : k < gs.length := by omega
    have hlt2 : k < (gs.map (gD xs)).length := by rw [List.length_map]; exact hlt
    have h1 := szTo_ok _ hG k (by omega)
    have h2 := hG _ (List.getElem_mem hlt2)
    have hcl := hok _ (List.getElem_mem hlt)
    have h3 := szTo_phi _ hG (k + 1) (gs.length - (k + 1)) (by rw [List.length_map]; omega)
    rw [show k + 1 + (gs.length - (k + 1)) = (gs.map (gD xs)).length by rw [List.length_map]; omega, List.take_length] at h3
    rw [run_step _ _ _ _ _ _ _ _ hlt]
    have eT : ((gs.take (k + 1)).map (mustN xs)).sum = ((gs.take k).map (mustN xs)).sum + mustN xs gs[k] := by
      rw [List.take_succ_eq_append_getElem hlt, List.map_append, List.sum_append]; simp
    have eD : (gs.map (gD xs)).take (k + 1) = (gs.map (gD xs)).take k ++ [gD xs gs[k]] := by
      rw [List.take_succ_eq_append_getElem hlt2, List.getElem_map]
    rw [eD, szTo_snoc] at h3 ⊢
    rw [eT]
    rw [List.getElem_map] at h2
    have h4 := szStep_phi h1 (g := gD xs gs[k]) ⟨h2.1, h2.2.1⟩
    generalize runF xs sz ht al W y (gs.take k) = st at *
    generalize gs[k] = g at *
    obtain ⟨c1, c2⟩ := cleanF_width xs g st.full hcl
    have c3 : dG xs g = (gD xs g).1 - (gD xs g).2.1 := rfl
    have c4 : widthG g = (gD xs g).1 := rfl
    rw [putF_fits xs sz ht al W st g (by omega)]
    obtain ⟨a1, a2⟩ := appF_out xs sz ht al W st (cleanF xs st.full g)
    have a3 : mustN xs (cleanF xs st.full g) ≤ mustN xs g := (cleanF_sub xs g st.full).countP_le
    refine ⟨by omega, ?_⟩
    rw [a2, h4.2.2]
    by_cases hm : lastMust xs g = true
    · rw [if_pos (lastMust_clean st.full hm), if_pos (show (gD xs g).2.2 = true from hm)]; simp [widthG]
    · rw [if_neg (show ¬ (gD xs g).2.2 = true from hm)]
      split
      · have : (0 : Int) ≤ (szTo ((gs.map (gD xs)).take k)).sum := by unfold SzOk at h1; omega
        simp only [widthG, List.map_nil, List.sum_nil]
        omega
      · rw [widthG_append]; omega
theorem segs_must (xs : List It) (ps : List Pt) (k : Nat) (hk : k ≤ ps.length) : (((groupsTo xs ps k).1.map (segP ps)).map (mustN xs)).sum ≤ mustN xs (ps.take (groupsTo xs ps k).2) := by
  induction k with
  | zero => simp [groupsTo]
  | succ k ih =>
    have h1 := ih (by omega)
    have h2 := (groups_ok xs ps k (by omega)).1
    simp only [groupsTo]
    split
    · simp only [List.map_append, List.sum_append, List.map_cons, List.map_nil, List.sum_cons, List.sum_nil]
      have e : ps.take (k + 1) = ps.take (groupsTo xs ps k).2 ++ segP ps ((groupsTo xs ps k).2, k + 1) := by
        unfold segP
        simp only
        rw [← List.take_add, show (groupsTo xs ps k).2 + (k + 1 - (groupsTo xs ps k).2) = k + 1 by omega]
      rw [e]
      unfold mustN at *
      rw [List.countP_append]
      omega
    · exact h1
theorem mustN_of (i : Nat) (x : It) (xs : List It) (hx : itAt xs i = x) : mustN xs (partsOf i x) = if x.kind = 6 then 1 else 0 := by
  have key : ∀ p : Pt, p.i = i → pKind xs p = x.kind := fun p h => by unfold pKind; rw [h, hx]
  unfold partsOf mustN
  by_cases h1 : x.kind = 1
  · rw [if_pos h1, if_neg (by omega)]
    rw [List.countP_eq_zero]
    intro p hp
    have := textParts_mem i x _ _ p hp
    rw [key p this.1, h1]; decide
  · rw [if_neg h1]
    by_cases h6 : x.kind = 6
    · rw [if_pos (.inl h6), if_pos h6]
      simp [key ⟨i, ByteArray.empty, 0, true⟩ rfl, h6]
    · rw [if_neg h6]
      split
      · simp [key ⟨i, ByteArray.empty, 0, true⟩ rfl, h6]
      · split
        · simp [key ⟨i, ByteArray.empty, max 0 (cut x.w), true⟩ rfl, h6]
        · simp [key ⟨i, ByteArray.empty, cut x.w, true⟩ rfl, h6]
theorem parts_must (xs : List It) (k : Nat) (hk : k ≤ xs.length) : mustN xs (partsTo xs k) = (xs.take k).countP fun x => x.kind == 6 := by
  induction k with
  | zero => simp [partsTo, mustN]
  | succ k ih =>
    have hlt : k < xs.length := by omega
    rw [partsTo_next, List.take_succ_eq_append_getElem hlt, List.countP_append, ← ih (by omega), ← itAt_of xs k hlt]
    show List.countP _ (_ ++ _) = _
    rw [List.countP_append]
    have := mustN_of k (itAt xs k) xs rfl
    unfold mustN at this ⊢
    rw [this]
    congr 1
    simp [List.countP_cons]
theorem lastMust_seg (xs : List It) (ps : List Pt) (g : Nat × Nat) (h1 : g.1 < g.2) (h2 : g.2 ≤ ps.length) : lastMust xs (segP ps g) = (pKind xs (ptAt ps (g.2 - 1)) == 6) := by
  have hl : (segP ps g).length = g.2 - g.1 := by unfold segP; rw [List.length_take, List.length_drop]; omega
  have hlast : (segP ps g).getLast? = some (ptAt ps (g.2 - 1)) := by
    rw [List.getLast?_eq_getElem?, hl]
    have := ptAt_seg ps g.1 g.2 (g.2 - g.1 - 1) h2 (by omega)
    rw [List.getElem?_eq_getElem (by omega)]
    rw [ptAt_of _ _ (by show g.2 - g.1 - 1 < (segP ps (g.1, g.2)).length; rw [show (g.1, g.2) = g from rfl]; omega)] at this
    rw [show g.1 + (g.2 - g.1 - 1) = g.2 - 1 by omega] at this
    exact congrArg some this
  unfold lastMust
  rw [hlast]
theorem groupsD_segs (xs : List It) : groupsD xs = (segsF xs).map (gD xs) := by
  unfold groupsD segsF
  rw [List.map_map]
  refine List.map_congr_left fun g hg => ?_
  have h := (groups_ok xs (partsTo xs xs.length) (partsTo xs xs.length).length (Nat.le_refl _)).2.1 g hg
  unfold gData gD
  simp only [Function.comp]
  rw [lastMust_seg xs _ g h.1 h.2]
/-- In room enough nothing breaks. -/
theorem one_law (xs : List It) (hok : ItsOk xs) (sz ht al y W : Int) (hW : W = cut (max (szTo (groupsD xs)).most (szTo (groupsD xs)).fin)) (hlt : W < 16777216) :
    (breakF xs sz ht al W y).length ≤ 1 + xs.countP fun x => x.kind == 6 := by
  have hG := groupsD_ok hok
  have hp := (partsTo_ok hok xs.length (Nat.le_refl _)).1
  have h0 := szTo_ok _ hG (groupsD xs).length (Nat.le_refl _)
  rw [List.take_length] at h0
  have hphi : phi (szTo (groupsD xs)) ≤ W := by
    unfold SzOk at h0
    unfold cut at hW
    unfold phi
    omega
  rw [groupsD_segs] at hG hphi
  have hseg : ∀ g ∈ segsF xs, ∀ p ∈ g, PtOk xs p := fun g hg p hpg => by
    unfold segsF at hg
    obtain ⟨q, _, rfl⟩ := List.mem_map.1 hg
    exact (hp p (segP_mem p hpg)).2
  obtain ⟨r1, _⟩ := run_one xs sz ht al W y (segsF xs) hseg hG hphi (segsF xs).length (Nat.le_refl _)
  rw [List.take_length] at r1
  have hm := segs_must xs (partsTo xs xs.length) (partsTo xs xs.length).length (Nat.le_refl _)
  have hm2 : mustN xs ((partsTo xs xs.length).take (groupsTo xs (partsTo xs xs.length) (partsTo xs xs.length).length).2) ≤ mustN xs (partsTo xs xs.length) := (List.take_sublist _ _).countP_le
  have hm3 := parts_must xs xs.length (Nat.le_refl _)
  rw [List.take_length] at hm3
  have r2 : (runF xs sz ht al W y (segsF xs)).out.length ≤ xs.countP fun x => x.kind == 6 := Nat.le_trans r1 (Nat.le_trans hm (Nat.le_trans hm2 (Nat.le_of_eq hm3)))
  unfold breakF finF
  split
  · have := (endF_out xs sz ht al W true (runF xs sz ht al W y (segsF xs))).1
    omega
  · unfold lastLn
    split
    · rename_i x hx
      obtain ⟨l, hl⟩ := List.getLast?_eq_some_iff.1 hx
      rw [hl] at r2 ⊢
      simp at r2 ⊢
      omega
    · simp
end Go.Proofs.YtadlabndbomgmaaDoor
/- Lines as they are broken, where things float among them: a plain model that lets what floats stand anywhere; where nothing floats it is the breaker of BrkPlain. No program in sight. -/
namespace Go.Proofs.YtadlabndbomgmaaDoor
/-- The breaker's state. -/
structure BG where
  y : Int
  ind : Int
  left : Int
  right : Int
  line : List Pt
  full : Bool
  late : List Pt
  out : List Ln
  fs : List Fl
section
variable (xs : List It) (sz ht al W : Int)
def floatP (p : Pt) : Bool := pKind xs p == 5
def endsG (st : BG) : BG := { st with left := (edgesF W (cut st.y) (cut ht) st.fs).1 + st.ind, right := (edgesF W (cut st.y) (cut ht) st.fs).2.1 }
def resetG (st : BG) (fs : List Fl) : BG := endsG ht W { st with line := [], full := false, late := [], fs := fs }
def BeginR (st st' : BG) : Prop := ∃ fs, (st.late = [] → fs = st.fs) ∧ st' = resetG ht W st fs
def tellG (last : Bool) (st : BG) : BG := if st.line.any (toldF xs) then { st with y := st.y + highF xs sz ht st.line, out := st.out ++ [lnOf xs sz ht al st.y st.left st.right st.line last] } else st
def EndR (last : Bool) (st st' : BG) : Prop := BeginR ht W { tellG xs sz ht al last st with ind := 0 } st'
def lowStep (y a : Int) (f : Fl) : Int := if 0 < f.h ∧ y < f.y + f.h then min a (f.y + f.h) else a
def lowF (y : Int) (fs : List Fl) : Int := fs.foldl (lowStep y) 16777217
def noLow (st : BG) : Bool := decide (16777216 < lowF st.y st.fs) || (st.left == st.ind && st.right == W)
def lowG (st : BG) : BG := endsG ht W { st with y := lowF st.y st.fs }
def fitsG (st : BG) (c : List Pt) : Bool := decide (widthG st.line + widthG c - tailG xs c.reverse ≤ st.right - st.left) || (!c.any (solidF xs) && st.full)
/-- A round of put's loop. -/
def StepR (g : List Pt) (st st' : BG) : Prop := fitsG xs st (cleanF xs st.full g) = false ∧ ((st.full = true ∧ EndR xs sz ht al W false st st') ∨ (st.full = false ∧ noLow W st = false ∧ st' = lowG ht W st))
inductive Steps (g : List Pt) : BG → BG → Prop
  | refl (a : BG) : Steps g a a
  | snoc {a b c : BG} : Steps g a b → StepR xs sz ht al W g b c → Steps g a c
def DoneR (g : List Pt) (st : BG) : Prop := fitsG xs st (cleanF xs st.full g) = true ∨ (st.full = false ∧ noLow W st = true)
def addFl (st : BG) (c : List Pt) (st' : BG) : Prop :=
  (st.full = true ∧ st' = { st with late := st.late ++ c.filter (floatP xs) }) ∨ (st.full = false ∧ ((c.filter (floatP xs) = [] ∧ st' = st) ∨ (c.filter (floatP xs) ≠ [] ∧ ∃ fs, st' = endsG ht W { st with fs := fs })))
def addLn (st : BG) (c : List Pt) : BG := { st with line := st.line ++ c, full := st.full || c.any (solidF xs) }
def PutR (st : BG) (g : List Pt) (st' : BG) : Prop :=
  ∃ s1 s2, Steps xs sz ht al W g st s1 ∧ DoneR xs W g s1 ∧ addFl xs ht W s1 (cleanF xs s1.full g) s2 ∧
    ((lastMust xs (cleanF xs s1.full g) = true ∧ EndR xs sz ht al W true (addLn xs s2 (cleanF xs s1.full g)) st') ∨ (lastMust xs (cleanF xs s1.full g) = false ∧ st' = addLn xs s2 (cleanF xs s1.full g)))
inductive RunR : BG → List (List Pt) → BG → Prop
  | nil (a : BG) : RunR a [] a
  | snoc {a b c : BG} {gs : List (List Pt)} {g : List Pt} : RunR a gs b → PutR xs sz ht al W b g c → RunR a (gs ++ [g]) c
def FinR (st : BG) (out : List Ln) : Prop := (st.line ≠ [] ∧ ∃ st', EndR xs sz ht al W true st st' ∧ out = st'.out) ∨ (st.line = [] ∧ out = lastLn st.out)
def BreakR (y ind : Int) (fs : List Fl) (out : List Ln) : Prop :=
  ∃ s0 s1, BeginR ht W ⟨y, ind, 0, 0, [], false, [], [], fs⟩ s0 ∧ RunR xs sz ht al W s0 (segsF xs) s1 ∧ FinR xs sz ht al W s1 out
end
/-! Where nothing floats. -/
structure Sim (W : Int) (st : BG) (s : BSt) : Prop where
  y : st.y = s.y
  line : st.line = s.line
  full : st.full = s.full
  out : st.out = s.out
  ind : st.ind = 0
  left : st.left = 0
  right : st.right = W
  late : st.late = []
  fs : st.fs = []
theorem sim_end {xs : List It} {sz ht al W : Int} {st st' : BG} {s : BSt} (h : Sim W st s) (last : Bool) (e : EndR xs sz ht al W last st st') : Sim W st' (endF xs sz ht al W last s) := by
  obtain ⟨fs, hf, rfl⟩ := e
  obtain ⟨h1, h2, h3, h4, h5, h6, h7, h8, h9⟩ := h
  have hl : ({ tellG xs sz ht al last st with ind := 0 } : BG).late = [] := by unfold tellG; split <;> exact h8
  have hs : ({ tellG xs sz ht al last st with ind := 0 } : BG).fs = [] := by unfold tellG; split <;> exact h9
  obtain rfl := (hf hl).trans hs
  unfold resetG endsG tellG endF
  rw [h2]
  by_cases ht : s.line.any (toldF xs) = true
  · rw [if_pos ht, if_pos ht]
    refine ⟨?_, rfl, rfl, ?_, rfl, rfl, rfl, rfl, rfl⟩
    · simp only [h1]
    · simp only [h1, h4, h6, h7]
  · rw [if_neg ht, if_neg ht]
    exact ⟨h1, rfl, rfl, h4, rfl, rfl, rfl, rfl, rfl⟩
theorem sim_noLow {W : Int} {st : BG} {s : BSt} (h : Sim W st s) : noLow W st = true := by
  unfold noLow
  rw [h.fs]
  rfl
theorem sim_fits {xs : List It} {W : Int} {st : BG} {s : BSt} (h : Sim W st s) (c : List Pt) : fitsG xs st c = fitsF xs W s.line s.full c := by
  unfold fitsG fitsF
  rw [h.line, h.left, h.right, h.full, Int.sub_zero]
theorem sim_steps {xs : List It} {sz ht al W : Int} {g : List Pt} {st st' : BG} {s : BSt} (h : Sim W st s) (e : Steps xs sz ht al W g st st') :
    (Sim W st' s) ∨ (fitsF xs W s.line s.full (cleanF xs s.full g) = false ∧ s.full = true ∧ Sim W st' (endF xs sz ht al W false s)) := by
  induction e with
  | refl => exact .inl h
  | snoc _ k ih =>
    rcases ih with i | ⟨i1, i2, i3⟩
    · obtain ⟨k1, k2⟩ := k
      rw [i.full, sim_fits i] at k1
      rcases k2 with ⟨k2, k3⟩ | ⟨_, k3, _⟩
      · exact .inr ⟨k1, by rw [← i.full]; exact k2, sim_end i false k3⟩
      · rw [sim_noLow i] at k3; cases k3
    · obtain ⟨k1, k2⟩ := k
      rcases k2 with ⟨k2, _⟩ | ⟨_, k3, _⟩
      · rw [i3.full] at k2
        unfold endF at k2
        split at k2 <;> cases k2
      · rw [sim_noLow i3] at k3; cases k3
theorem sim_add {xs : List It} {ht W : Int} {st st' : BG} {s : BSt} {c : List Pt} (hc : ∀ p ∈ c, floatP xs p = false) (h : Sim W st s) (e : addFl xs ht W st c st') : Sim W (addLn xs st' c) ⟨s.y, s.line ++ c, s.full || c.any (solidF xs), s.out⟩ := by
  have hn : c.filter (floatP xs) = [] := List.filter_eq_nil_iff.2 fun p hp => by rw [hc p hp]; simp
  obtain ⟨h1, h2, h3, h4, h5, h6, h7, h8, h9⟩ := h
  rcases e with ⟨_, rfl⟩ | ⟨_, ⟨_, rfl⟩ | ⟨e1, _⟩⟩
  · exact ⟨h1, by simp only [addLn, h2], by simp only [addLn, h3], h4, h5, h6, h7, by simp only [addLn, hn, h8, List.append_nil], h9⟩
  · exact ⟨h1, by simp only [addLn, h2], by simp only [addLn, h3], h4, h5, h6, h7, h8, h9⟩
  · exact absurd hn e1
theorem sim_app {xs : List It} {sz ht al W : Int} {s1 s2 st' : BG} {s : BSt} {c : List Pt} (hc : ∀ p ∈ c, floatP xs p = false) (h : Sim W s1 s) (e : addFl xs ht W s1 c s2)
    (k : (lastMust xs c = true ∧ EndR xs sz ht al W true (addLn xs s2 c) st') ∨ (lastMust xs c = false ∧ st' = addLn xs s2 c)) : Sim W st' (appF xs sz ht al W s c) := by
  have hs := sim_add hc h e
  unfold appF
  rcases k with ⟨k1, k2⟩ | ⟨k1, rfl⟩
  · rw [if_pos k1]
    exact sim_end hs true k2
  · rw [if_neg (by rw [k1]; decide)]
    exact hs
theorem sim_put {xs : List It} {sz ht al W : Int} {g : List Pt} {st st' : BG} {s : BSt} (hg : ∀ p ∈ g, floatP xs p = false) (h : Sim W st s) (e : PutR xs sz ht al W st g st') : Sim W st' (putF xs sz ht al W s g) := by
  obtain ⟨s1, s2, e1, e2, e3, e4⟩ := e
  have hc : ∀ f, ∀ p ∈ cleanF xs f g, floatP xs p = false := fun f p hp => hg p ((cleanF_sub xs g f).mem hp)
  unfold putF
  rcases sim_steps h e1 with i | ⟨i1, i2, i3⟩
  · have hd : ¬ ((!fitsF xs W s.line s.full (cleanF xs s.full g) && s.full) = true) := by
      intro hh
      rw [Bool.and_eq_true] at hh
      rcases e2 with d | ⟨d, _⟩
      · rw [i.full, sim_fits i] at d
        rw [d] at hh
        cases hh.1
      · rw [i.full, hh.2] at d; cases d
    rw [if_neg hd, ← i.full]
    exact sim_app (hc _) i e3 e4
  · rw [if_pos (by rw [i1, i2]; rfl)]
    have hf : s1.full = false := by rw [i3.full]; unfold endF; split <;> rfl
    rw [hf] at e3 e4
    exact sim_app (hc _) i3 e3 e4
theorem sim_run {xs : List It} {sz ht al W : Int} {gs : List (List Pt)} {st st' : BG} {s : BSt} (h : Sim W st s) (e : RunR xs sz ht al W st gs st') (hg : ∀ g ∈ gs, ∀ p ∈ g, floatP xs p = false) : Sim W st' (gs.foldl (putF xs sz ht al W) s) := by
  induction e with
  | nil => exact h
  | snoc _ k ih =>
    rw [List.foldl_append]
    exact sim_put (hg _ (by simp)) (ih fun g hgm => hg g (by simp [hgm])) k
theorem break_sim {xs : List It} {sz ht al W y : Int} {out : List Ln} (hx : ∀ x ∈ xs, x.kind ≠ 5) (e : BreakR xs sz ht al W y 0 [] out) : out = breakF xs sz ht al W y := by
  obtain ⟨s0, s1, e1, e2, e3⟩ := e
  have hfl : ∀ p : Pt, floatP xs p = false := fun p => by
    unfold floatP pKind itAt List.getD
    cases hq : xs[p.i]? with
    | none => rfl
    | some x =>
      have := hx x (List.mem_of_getElem? hq)
      simpa using this
  obtain ⟨fs, hf, rfl⟩ := e1
  obtain rfl : fs = [] := hf rfl
  have h0 : Sim W (resetG ht W ⟨y, 0, 0, 0, [], false, [], [], []⟩ []) ⟨y, [], false, []⟩ := ⟨rfl, rfl, rfl, rfl, rfl, rfl, rfl, rfl, rfl⟩
  have h1 := sim_run h0 e2 fun g _ p _ => hfl p
  show out = finF xs sz ht al W (runF xs sz ht al W y (segsF xs))
  unfold runF
  generalize (segsF xs).foldl (putF xs sz ht al W) ⟨y, [], false, []⟩ = s at h1 ⊢
  unfold finF
  rcases e3 with ⟨k1, st', k2, rfl⟩ | ⟨k1, rfl⟩
  · rw [if_pos (by rw [← h1.line]; exact k1)]
    exact (sim_end h1 true k2).out
  · rw [if_neg (by rw [← h1.line]; exact fun h => h k1), h1.out]
end Go.Proofs.YtadlabndbomgmaaDoor
/- Items of lines that came in, opened: what lies in memory reads as a list of them. -/
namespace Go.Proofs.YtadlabndbomgmaaDoor
open Go.RowKit Go.ChangeShapes Go.WideShapes Go.Deep Go.ChangeAt
theorem its_of {P : Nat → It → Prop} : ∀ n, (∀ k, k < n → ∃ c, P k c) → ∃ l : List It, l.length = n ∧ ∀ k, k < n → P k (itAt l k)
  | 0, _ => ⟨[], rfl, fun k hk => absurd hk (Nat.not_lt_zero _)⟩
  | n + 1, h => by
    obtain ⟨l, hl, hp⟩ := its_of n fun k hk => h k (by omega)
    obtain ⟨c, hc⟩ := h n (by omega)
    refine ⟨l ++ [c], by simp [hl], fun k hk => ?_⟩
    by_cases e : k = n
    · subst e
      rw [itAt_of _ _ (by simp; omega), List.getElem_append_right (by omega)]
      simpa [hl] using hc
    · have := hp k (by omega)
      rw [itAt_of _ _ (by omega)] at this
      rw [itAt_of _ _ (by simp; omega), List.getElem_append_left (by omega)]
      exact this
/-- Items that came in: they lie from some place on. -/
def ItsIn (w : World) (A : Option Addr) (l : List It) : Prop := ∀ k, k < l.length → ∃ g off, A = some ⟨g, off, none⟩ ∧ g < w.heap.size ∧ ∀ j, j < 11 → w.cell? ⟨g, off + k * 11 + j, none⟩ = (itC (itAt l k))[j]?
section
variable {H : Type} {enc : TypeId × Value → H} {w : World} {base : Nat} {spare : Nat → Bool} {held : Bool}
set_option maxRecDepth 100000 in
theorem open_its {r : Reach} {b0 : Nat} {v : Value} {d : DataW H} {ps : List MemPlace} (hval : Value.okWide Tryd.prog w r b0 35 v) (hd : DataW.Trod enc Tryd.prog w base spare held 35 v d ps) :
    ∃ (A : Option Addr) (n c : Nat) (l : List It), v = .slice A n c ∧ n ≤ c ∧ c ≤ maxLen ∧ l.length = n ∧ ItsIn w A l ∧ ∀ k, k < n → (itAt l k).text.size ≤ maxLen := by
  obtain ⟨A, n, c, rfl⟩ := okWide_slice Tryd.underlying35 hval
  obtain ⟨fuel, hf⟩ := hd
  rcases open_slice_fields Tryd.underlying35 Tryd.underlying41 (by kernel_rfl) (by kernel_rfl) hf with ⟨hcs, _⟩ | ⟨a, l, c', m, D, Pl, hcs, _, hl, hm, hmm, _, hel⟩
  · simp [Value.cells] at hcs
    obtain ⟨rfl, rfl, rfl⟩ := hcs
    exact ⟨none, 0, 0, [], rfl, Nat.le_refl _, Nat.zero_le _, rfl, fun k hk => absurd hk (Nat.not_lt_zero _), fun k hk => absurd hk (Nat.not_lt_zero _)⟩
  · simp [Value.cells] at hcs
    obtain ⟨rfl, rfl, rfl⟩ := hcs
    have hnm : n ≤ m := by rw [hmm]; split <;> omega
    have hx : ∀ k, k < n → ∃ x : It, (∀ j, j < 11 → w.cell? (a.add (k * 11 + j)) = (itC x)[j]?) ∧ x.text.size ≤ maxLen := by
      intro k hk
      obtain ⟨ys, n', _, _, _, hfd⟩ := hel k (by omega)
      obtain ⟨v0, y0, c0, _, t0⟩ := hfd 0 _ rfl
      obtain ⟨v1, y1, c1, _, t1⟩ := hfd 1 _ rfl
      obtain ⟨v2, y2, c2, _, t2⟩ := hfd 2 _ rfl
      obtain ⟨v3, y3, c3, _, t3⟩ := hfd 3 _ rfl
      obtain ⟨v4, y4, c4, _, t4⟩ := hfd 4 _ rfl
      obtain ⟨v5, y5, c5, _, t5⟩ := hfd 5 _ rfl
      obtain ⟨v6, y6, c6, _, t6⟩ := hfd 6 _ rfl
      obtain ⟨v7, y7, c7, _, t7⟩ := hfd 7 _ rfl
      obtain ⟨v8, y8, c8, _, t8⟩ := hfd 8 _ rfl
      obtain ⟨v9, y9, c9, _, t9⟩ := hfd 9 _ rfl
      obtain ⟨v10, y10, c10, _, t10⟩ := hfd 10 _ rfl
      obtain ⟨x0, e0, _, _⟩ := DataW.trod_int Tryd.underlying3 t0
      obtain ⟨x1, e1, _, _⟩ := DataW.trod_int Tryd.underlying3 t1
      obtain ⟨x2, e2, _, sz2⟩ := DataW.trod_string Tryd.underlying9 t2
      obtain ⟨x3, e3, _, _⟩ := DataW.trod_int Tryd.underlying3 t3
      obtain ⟨x4, e4, _, _⟩ := DataW.trod_int Tryd.underlying3 t4
      obtain ⟨x5, e5, _, _⟩ := DataW.trod_int Tryd.underlying3 t5
      obtain ⟨x6, e6, _, _⟩ := DataW.trod_int Tryd.underlying3 t6
      obtain ⟨x7, e7, _, _⟩ := DataW.trod_int Tryd.underlying3 t7
      obtain ⟨x8, e8, _, _⟩ := DataW.trod_int Tryd.underlying3 t8
      obtain ⟨x9, e9, _, _⟩ := DataW.trod_int Tryd.underlying3 t9
      obtain ⟨x10, e10, _, _⟩ := DataW.trod_int Tryd.underlying3 t10
      injection e0 with e0 _; injection e1 with e1 _; injection e2 with e2 _; injection e3 with e3 _; injection e4 with e4 _; injection e5 with e5 _; injection e6 with e6 _; injection e7 with e7 _; injection e8 with e8 _; injection e9 with e9 _; injection e10 with e10 _
      subst e0 e1 e2 e3 e4 e5 e6 e7 e8 e9 e10
      refine ⟨⟨x0, x1, x2, x3, x4, x5, x6, x7, x8, x9, x10⟩, fun j hj => ?_, sz2⟩
      rcases (show j = 0 ∨ j = 1 ∨ j = 2 ∨ j = 3 ∨ j = 4 ∨ j = 5 ∨ j = 6 ∨ j = 7 ∨ j = 8 ∨ j = 9 ∨ j = 10 by omega) with rfl | rfl | rfl | rfl | rfl | rfl | rfl | rfl | rfl | rfl | rfl
      · exact c0
      · exact c1
      · exact c2
      · exact c3
      · exact c4
      · exact c5
      · exact c6
      · exact c7
      · exact c8
      · exact c9
      · exact c10
    obtain ⟨L, hL, hc⟩ := its_of n hx
    refine ⟨some a, n, c, L, rfl, hl, hm, hL, fun k hk => ?_, fun k hk => (hc k hk).2⟩
    have h0 := (hc k (by omega)).1 0 (by omega)
    have h1 := cell_lt (h0.trans rfl)
    rw [block_of_add] at h1
    obtain ⟨g, off, spot⟩ := a
    have hspot : spot = none := by
      have h2 := (hc 0 (by omega)).1 0 (by omega)
      simp [Addr.add] at h2
      have h3 : w.cell? ⟨g, off, spot⟩ = some (.int .i64 (itAt L 0).kind) := h2
      simpa using World.cell?_spot h3
    subst hspot
    refine ⟨g, off, rfl, h1, fun j hj => ?_⟩
    have hadd : ∀ i, (⟨g, off, none⟩ : Addr).add i = ⟨g, off + i, none⟩ := fun i => by unfold Addr.add; split <;> simp_all
    rw [Nat.add_assoc, ← hadd]
    exact (hc k (by omega)).1 j hj
end
end Go.Proofs.YtadlabndbomgmaaDoor
/- Plain facts on the parts of a text. No program in sight. -/
namespace Go.Proofs.YtadlabndbomgmaaDoor
open Go.RowKit
def pieceAt (l : List ByteArray) (q : Nat) : ByteArray := l.getD q ByteArray.empty
theorem pieceAt_of (l : List ByteArray) (q : Nat) (h : q < l.length) : pieceAt l q = l[q] := by simp [pieceAt, List.getD, List.getElem?_eq_getElem h]
def textPt (i : Nat) (x : It) (l : List ByteArray) (q : Nat) : Pt := ⟨i, pieceAt l q, txW x (pieceAt l q), l.length - q == 1⟩
def textTo (i : Nat) (x : It) (l : List ByteArray) (k : Nat) : List Pt := (List.range k).map (textPt i x l)
theorem textTo_next (i : Nat) (x : It) (l : List ByteArray) (k : Nat) : textTo i x l (k + 1) = textTo i x l k ++ [textPt i x l k] := by simp [textTo, List.range_succ]
theorem textParts_map (i : Nat) (x : It) : ∀ (l : List ByteArray) (n : Nat), textParts i x n l = (List.range l.length).map fun q => ⟨i, pieceAt l q, txW x (pieceAt l q), n - q == 1⟩
  | [], n => rfl
  | t :: r, n => by
    simp only [textParts]
    rw [textParts_map i x r (n - 1), List.length_cons, List.range_succ_eq_map, List.map_cons, List.map_map]
    congr 1
    refine List.map_congr_left fun q _ => ?_
    simp only [Function.comp]
    have e : n - 1 - q = n - (q + 1) := by omega
    rw [e]; rfl
theorem textTo_all (i : Nat) (x : It) (l : List ByteArray) : textTo i x l l.length = textParts i x l.length l := (textParts_map i x l l.length).symm
end Go.Proofs.YtadlabndbomgmaaDoor
/- Plain facts: the pieces of a text have its runes, one behind the other; no piece is a blank alone. No program in sight. -/
namespace Go.Proofs.YtadlabndbomgmaaDoor
open Go.Lib
/-- A text that ends behind its first rune: the rune is the same. -/
theorem decodeL_cut (l p : List UInt8) (hne : p ≠ []) (hpre : p <+: l) (hw : (decodeL l).2 ≤ p.length) : decodeL p = decodeL l := by
  obtain ⟨c, rfl⟩ := hpre
  by_cases h : ((decodeL (p ++ c)).1 = 65533 ∧ (decodeL (p ++ c)).2 = 1)
  · by_cases h2 : ((decodeL p).1 = 65533 ∧ (decodeL p).2 = 1)
    · exact Prod.ext (h2.1.trans h.1.symm) (h2.2.trans h.2.symm)
    · have hl := decodeL_le p hne
      exact (decodeL_pre p (p ++ c) (by rw [List.length_append]; omega) (by rw [List.take_append_of_le_length hl]) h2).symm
  · exact decodeL_pre (p ++ c) p hw (by rw [List.take_append_of_le_length hw]) h
/-- The runes of a ++ c end at the end of a. -/
def Bd : Nat → List UInt8 → List UInt8 → Prop
  | 0, a, _ => a = []
  | f + 1, a, c => a = [] ∨ ((decodeL (a ++ c)).2 ≤ a.length ∧ Bd f (a.drop (decodeL (a ++ c)).2) c)
theorem Bd.nil (f : Nat) (c : List UInt8) : Bd f [] c := by cases f; rfl; exact .inl rfl
theorem Bd.more : ∀ (f g : Nat) (a c : List UInt8), f ≤ g → Bd f a c → Bd g a c
  | 0, g, a, c, _, h => by rw [show a = [] from h]; exact Bd.nil g c
  | f + 1, 0, a, c, hl, _ => by omega
  | f + 1, g + 1, a, c, hl, h => by
    rcases h with h | ⟨h1, h2⟩
    · exact .inl h
    · exact .inr ⟨h1, Bd.more f g _ c (by omega) h2⟩
theorem Bd.runes : ∀ (f : Nat) (a c c' : List UInt8), Bd f a c → c' <+: c → runesL (a ++ c') = runesL a ++ runesL c'
  | 0, a, c, c', h, _ => by rw [show a = [] from h]; rfl
  | f + 1, a, c, c', h, hp => by
    rcases h with h | ⟨h1, h2⟩
    · rw [h]; rfl
    · by_cases hne : a = []
      · rw [hne]; rfl
      · have e1 : decodeL (a ++ c') = decodeL (a ++ c) := decodeL_cut _ _ (by simp [hne]) (by obtain ⟨d, rfl⟩ := hp; exact ⟨d, by simp⟩) (by rw [List.length_append]; omega)
        have e2 : decodeL a = decodeL (a ++ c) := decodeL_cut _ _ hne ⟨c, rfl⟩ h1
        rw [runesL_step (a ++ c') (by simp [hne]), runesL_step a hne, e1, e2, List.drop_append_of_le_length h1, Bd.runes f _ c c' h2 hp]
        rfl
theorem Bd.snoc : ∀ (f : Nat) (a r c : List UInt8), Bd f a (r ++ c) → (decodeL (r ++ c)).2 = r.length → Bd (f + 1) (a ++ r) c
  | 0, a, r, c, h, hr => by
    rw [show a = [] from h, List.nil_append]
    refine .inr ⟨by rw [hr]; exact Nat.le_refl _, ?_⟩
    rw [hr, List.drop_length]; exact Bd.nil _ _
  | f + 1, a, r, c, h, hr => by
    rcases h with h | ⟨h1, h2⟩
    · rw [h, List.nil_append]
      refine .inr ⟨by rw [hr]; exact Nat.le_refl _, ?_⟩
      rw [hr, List.drop_length]; exact Bd.nil _ _
    · refine .inr ?_
      rw [List.append_assoc]
      refine ⟨by rw [List.length_append]; omega, ?_⟩
      rw [List.drop_append_of_le_length h1]
      exact Bd.snoc f _ r c h2 hr
/-- Pieces that end where runes end. -/
def Cuts : List (List UInt8) → Prop
  | [] => True
  | m :: r => (∃ f, Bd f m r.flatten) ∧ Cuts r
theorem Cuts.drop : ∀ (u r : List (List UInt8)), Cuts (u ++ r) → Cuts r
  | [], _, h => h
  | _ :: u, r, h => Cuts.drop u r h.2
theorem Cuts.runes : ∀ (m v : List (List UInt8)) (p : List UInt8), Cuts (m ++ v) → p <+: v.flatten → runesL (m.flatten ++ p) = (m.map runesL).flatten ++ runesL p
  | [], _, p, _, _ => rfl
  | a :: m, v, p, h, hp => by
    obtain ⟨⟨f, hb⟩, hr⟩ := h
    have e := Bd.runes f a _ (m.flatten ++ p) hb (by show _ <+: (m ++ v).flatten; rw [List.flatten_append]; obtain ⟨d, hd⟩ := hp; exact ⟨d, by rw [← hd]; simp⟩)
    rw [List.flatten_cons, List.append_assoc, e, Cuts.runes m v p hr hp, List.map_cons, List.flatten_cons, List.append_assoc]
theorem drop_cons_at (s : ByteArray) (pos : Nat) (h : pos < s.size) : s.data.toList.drop pos = s[pos] :: s.data.toList.drop (pos + 1) := by
  have hl : pos < s.data.toList.length := by rw [Array.length_toList]; exact h
  exact List.drop_eq_getElem_cons hl
theorem bytes_len2 (s : ByteArray) : s.data.toList.length = s.size := Array.length_toList
/-- A piece, and what stands behind it. -/
theorem piece_split (s : ByteArray) (a b : Nat) (hab : a ≤ b) (hb : b ≤ s.size) : s.data.toList.drop a = (s.extract a b).data.toList ++ s.data.toList.drop b := by
  have e1 : (s.extract a b).data.toList = (s.data.toList.drop a).take (b - a) := by simp [ByteArray.data_extract, Array.toList_extract]
  have e2 : s.data.toList.drop b = (s.data.toList.drop a).drop (b - a) := by rw [List.drop_drop]; congr 1; omega
  rw [e1, e2, List.take_append_drop]
theorem ends_flat (s : ByteArray) (l : List Nat) (a : Nat) (ha : a ≤ s.size) (hb : ∀ b ∈ l, b ≤ s.size) : ((pcs s a (l ++ [s.size])).map (·.data.toList)).flatten = s.data.toList.drop a := by
  have hb2 : ∀ b ∈ l ++ [s.size], b ≤ s.size := by
    intro b h
    rcases List.mem_append.1 h with h | h
    · exact hb b h
    · simp at h; omega
  rw [pcs_join s _ a ha hb2]
  have h1 := lastOf_le s.size (l ++ [s.size]) a ha hb2
  have h2 : lastOf a (l ++ [s.size]) = s.size := by
    rw [lastOf_append] at h1 ⊢
    simp only [lastOf] at h1 ⊢
    have h3 := lastOf_le s.size l a ha hb
    split <;> omega
  rw [h2, List.take_of_length_le (by rw [List.length_drop, bytes_len2]; exact Nat.le_refl _)]
theorem bd_step (s : ByteArray) (a pos : Nat) (hap : a ≤ pos) (hp : pos < s.size) (h : ∃ f, Bd f (s.extract a pos).data.toList (s.data.toList.drop pos)) : ∃ f, Bd f (s.extract a (pos + (Utf8.decode s pos).2)).data.toList (s.data.toList.drop (pos + (Utf8.decode s pos).2)) := by
  obtain ⟨f, hb⟩ := h
  obtain ⟨h1, h2, _⟩ := dec_facts s pos hp
  have e := piece_split s pos (pos + (Utf8.decode s pos).2) (by omega) h2
  have e2 : (s.extract a (pos + (Utf8.decode s pos).2)).data.toList = (s.extract a pos).data.toList ++ (s.extract pos (pos + (Utf8.decode s pos).2)).data.toList := by
    have h3 := piece_split s a pos hap (by omega)
    have h4 := piece_split s a (pos + (Utf8.decode s pos).2) (by omega) h2
    rw [h3, e, ← List.append_assoc] at h4
    exact (List.append_cancel_right h4).symm
  refine ⟨f + 1, ?_⟩
  rw [e2]
  rw [e] at hb
  refine Bd.snoc f _ _ _ hb ?_
  rw [← e, decodeL_drop]
  have : (s.extract pos (pos + (Utf8.decode s pos).2)).data.toList.length = (Utf8.decode s pos).2 := by
    rw [Array.length_toList]
    show (s.extract pos (pos + (Utf8.decode s pos).2)).size = _
    rw [ByteArray.size_extract]; omega
  exact this.symm
theorem brk_le (s : ByteArray) (wr ke : Bool) : ∀ (f pos : Nat) (last : Int), pos ≤ s.size → ∀ b ∈ (brk s wr ke f pos last).map (·.1), b ≤ s.size
  | 0, _, _, _, b, hb => by simp [brk] at hb
  | f + 1, pos, last, hp, b, hb => by
    by_cases h : pos < s.size
    · rw [brk_step s wr ke f pos last h, List.map_append] at hb
      obtain ⟨_, h2, _⟩ := dec_facts s pos h
      rcases List.mem_append.1 hb with hb | hb
      · unfold brkStep at hb
        split at hb
        · simp at hb; omega
        · simp at hb
      · exact brk_le s wr ke f _ _ h2 b hb
    · rw [brk_end s wr ke f pos last h] at hb
      unfold brkEnd at hb
      split at hb
      · simp at hb; omega
      · simp at hb
/-- No blank stands first in a piece. -/
def noBlank (l : List UInt8) : Prop := l.head? ≠ some 32
theorem first_rune (s : ByteArray) (pos b : Nat) (h : pos < s.size) (hb : pos < b) (h32 : (s.extract pos b).data.toList.head? = some 32) : ((Utf8.decode s pos).1 : Int) = 32 := by
  have e : (s.extract pos b).data.toList = (s.data.toList.drop pos).take (b - pos) := by simp [ByteArray.data_extract, Array.toList_extract]
  rw [e, drop_cons_at s pos h, show b - pos = (b - pos - 1) + 1 by omega, List.take_succ_cons] at h32
  simp only [List.head?_cons, Option.some.injEq] at h32
  have hd := Lib.decode_at s pos
  rw [get_bang s pos h, h32] at hd
  rw [hd]
  unfold Lib.decodeN
  rfl
theorem may_blank (last : Int) : mayF last 32 = false := by
  unfold mayF
  split
  · rfl
  · split
    · rfl
    · simp [wideF, otherF]
theorem brk_cuts (s : ByteArray) : ∀ (f pos a : Nat) (last : Int), pos ≤ s.size → s.size < pos + f → a ≤ pos → (∃ g, Bd g (s.extract a pos).data.toList (s.data.toList.drop pos)) → (pos = a → a < s.size → ((Utf8.decode s pos).1 : Int) ≠ 32) → (a < pos → ∀ b, a < b → noBlank (s.extract a b).data.toList) →
      Cuts ((pcs s a ((brk s true false f pos last).map (·.1) ++ [s.size])).map (·.data.toList)) ∧ ∀ p ∈ pcs s a ((brk s true false f pos last).map (·.1) ++ [s.size]), noBlank p.data.toList
  | 0, pos, a, _, h1, h2, _, _, _, _ => by omega
  | f + 1, pos, a, last, hp, hf, ha, hb, hs, hn => by
    by_cases h : pos < s.size
    · obtain ⟨h1, h2, _⟩ := dec_facts s pos h
      have hb2 := bd_step s a pos ha h hb
      rw [brk_step s true false f pos last h]
      have hle := brk_le s true false f (pos + (Utf8.decode s pos).2) (Utf8.decode s pos).1 h2
      have cont : Cuts ((pcs s a ((brk s true false f (pos + (Utf8.decode s pos).2) (Utf8.decode s pos).1).map (·.1) ++ [s.size])).map (·.data.toList)) ∧ ∀ p ∈ pcs s a ((brk s true false f (pos + (Utf8.decode s pos).2) (Utf8.decode s pos).1).map (·.1) ++ [s.size]), noBlank p.data.toList := by
        refine brk_cuts s f _ a _ h2 (by omega) (by omega) hb2 (fun e => by omega) (fun _ b hab => ?_)
        by_cases hpa : pos = a
        · intro h32
          subst hpa
          exact hs rfl h (first_rune s pos b h hab h32)
        · exact hn (by omega) b hab
      unfold brkStep
      split
      · rename_i hc
        simp only [Bool.false_and, Bool.false_or, Bool.true_and, Bool.and_eq_true, decide_eq_true_eq] at hc
        simp only [List.cons_append, List.nil_append, List.map_cons, pcs]
        by_cases hap : a < pos
        · rw [if_pos hap]
          have ih := brk_cuts s f (pos + (Utf8.decode s pos).2) pos (Utf8.decode s pos).1 h2 (by omega) (by omega) (bd_step s pos pos (Nat.le_refl _) h ⟨0, by
            have : (s.extract pos pos).data.toList = [] := by simp [ByteArray.data_extract, Array.toList_extract]
            exact this⟩) (fun e => by omega) (fun _ b hab h32 => by
              have := first_rune s pos b h hab h32
              rw [this, may_blank] at hc
              exact absurd hc.2 (by decide))
          refine ⟨?_, fun p hp2 => ?_⟩
          · rw [List.map_cons]
            refine ⟨?_, ih.1⟩
            rw [ends_flat s _ pos hp hle]
            exact hb
          · rcases List.mem_cons.1 hp2 with rfl | hp2
            · exact hn hap pos hap
            · exact ih.2 p hp2
        · rw [if_neg hap]; exact cont
      · exact cont
    · obtain rfl : pos = s.size := by omega
      rw [brk_end s true false f _ last h]
      simp only [brkEnd, Bool.false_and, Bool.false_eq_true, if_false, List.map_nil, List.nil_append, pcs]
      by_cases hap : a < s.size
      · rw [if_pos hap]
        refine ⟨⟨?_, trivial⟩, fun p hp2 => ?_⟩
        · obtain ⟨g, hg⟩ := hb
          rw [List.drop_of_length_le (by rw [bytes_len2]; exact Nat.le_refl _)] at hg
          exact ⟨g, hg⟩
        · obtain rfl : p = s.extract a s.size := by simpa using hp2
          exact hn hap s.size hap
      · rw [if_neg hap]
        exact ⟨trivial, fun p hp2 => by cases hp2⟩
/-- The pieces of a text without a blank ahead. -/
theorem pieces_cuts (s : ByteArray) (h0 : noBlank s.data.toList) : Cuts ((piecesF s true false).map (·.data.toList)) ∧ ∀ p ∈ piecesF s true false, noBlank p.data.toList := by
  unfold piecesF brkEnds brkAll
  refine brk_cuts s (s.size + 1) 0 0 0 (Nat.zero_le _) (by omega) (Nat.le_refl _) ⟨0, by
    have : (s.extract 0 0).data.toList = [] := by simp [ByteArray.data_extract, Array.toList_extract]
    exact this⟩ (fun _ hlt h32 => h0 ?_) (fun h => absurd h (Nat.lt_irrefl _))
  obtain ⟨_, _, _, _, _⟩ := dec_facts s 0 hlt
  have hd := drop_cons_at s 0 hlt
  rw [List.drop_zero] at hd
  rw [hd, List.head?_cons]
  congr 1
  have hb : (s[0] : UInt8).toNat = 32 := by
    have h := Lib.decode_at s 0
    rw [get_bang s 0 hlt] at h
    rw [h] at h32
    unfold Lib.decodeN at h32
    revert h32
    repeat' split
    all_goals (intro h32; simp only at h32; omega)
  exact UInt8.toNat_inj.1 hb
end Go.Proofs.YtadlabndbomgmaaDoor
/- Plain facts on the lines of one text: what they hold, how wide they are, what would not have fitted. No program in sight. -/
namespace Go.Proofs.YtadlabndbomgmaaDoor
open Go.Lib
def oneIt (s : ByteArray) (z : Int) : It := ⟨1, 0, s, z, 0, 10, 0, 0, 0, 0, 0⟩
theorem one_ok (s : ByteArray) (z : Int) (hs : s.size ≤ 200) (hz : 0 ≤ z ∧ z ≤ 255) : ItsOk [oneIt s z] := ⟨Nat.le_of_ble_eq_true rfl, fun x hx => by
  obtain rfl : x = oneIt s z := by simpa using hx
  unfold ItOk oneIt
  simp only
  omega⟩
/-- A part of the one text. -/
def TxP (xs : List It) (p : Pt) : Prop := pKind xs p = 1 ∧ pMode xs p = 0 ∧ PtOk xs p ∧ isSp p.t = false
theorem TxP.solid {xs : List It} {p : Pt} (h : TxP xs p) : solidF xs p = true := by unfold solidF; rw [h.1]; rfl
theorem TxP.told {xs : List It} {p : Pt} (h : TxP xs p) : toldF xs p = true := by unfold toldF; rw [h.1]; rfl
theorem TxP.skip {xs : List It} {p : Pt} (h : TxP xs p) : skipA (pKind xs p) = false := by rw [h.1]; rfl
theorem TxP.clean {xs : List It} {p : Pt} (h : TxP xs p) (f : Bool) : cleanF xs f [p] = [p] := by simp [cleanF, h.2.2.2]
theorem TxP.must {xs : List It} {p : Pt} (h : TxP xs p) : lastMust xs [p] = false := by unfold lastMust; simp [h.1]
theorem TxP.dG {xs : List It} {p : Pt} (h : TxP xs p) : dG xs [p] = p.w - tailF xs p := by unfold Go.Proofs.YtadlabndbomgmaaDoor.dG; simp [widthG, tailG, h.skip]
theorem dG_snoc {xs : List It} {p : Pt} (h : TxP xs p) (l : List Pt) : dG xs (l ++ [p]) = widthG l + dG xs [p] := by
  rw [h.dG]
  unfold Go.Proofs.YtadlabndbomgmaaDoor.dG
  rw [List.reverse_append, widthG_append]
  simp only [List.reverse_cons, List.reverse_nil, List.nil_append, List.cons_append, tailG, h.skip, Bool.false_eq_true, if_false]
  simp [widthG]; omega
def lineStep (xs : List It) (W : Int) (st : List (List Pt) × List Pt) (p : Pt) : List (List Pt) × List Pt :=
  if st.2 ≠ [] ∧ W < widthG st.2 + dG xs [p] then (st.1 ++ [st.2], [p]) else (st.1, st.2 ++ [p])
def lineRun (xs : List It) (W : Int) (ps : List Pt) : List (List Pt) × List Pt := ps.foldl (lineStep xs W) ([], [])
theorem lineRun_snoc (xs : List It) (W : Int) (ps : List Pt) (p : Pt) : lineRun xs W (ps ++ [p]) = lineStep xs W (lineRun xs W ps) p := by simp [lineRun]
def Chn (R : List Pt → List Pt → Prop) : List (List Pt) → Prop
  | [] => True
  | [_] => True
  | a :: b :: r => R a b ∧ Chn R (b :: r)
theorem chn_snoc (R : List Pt → List Pt → Prop) : ∀ (l : List (List Pt)) (a b : List Pt), Chn R (l ++ [a]) → R a b → Chn R (l ++ [a] ++ [b])
  | [], _, _, _, h => ⟨h, trivial⟩
  | [_], _, _, h, h2 => ⟨h.1, h2, trivial⟩
  | _ :: d :: l, a, b, h, h2 => ⟨h.1, chn_snoc R (d :: l) a b h.2 h2⟩
theorem chn_last (R : List Pt → List Pt → Prop) : ∀ (l : List (List Pt)) (a b : List Pt), Chn R (l ++ [a]) → (∀ c, R c a → R c b) → Chn R (l ++ [b])
  | [], _, _, _, _ => trivial
  | [_], _, _, h, h2 => ⟨h2 _ h.1, trivial⟩
  | _ :: d :: l, a, b, h, h2 => ⟨h.1, chn_last R (d :: l) a b h.2 h2⟩
theorem chn_at (R : List Pt → List Pt → Prop) : ∀ (l : List (List Pt)) (i : Nat) (h : i + 1 < l.length), Chn R l → R l[i] l[i + 1]
  | a :: b :: r, 0, _, h => h.1
  | a :: b :: r, i + 1, hi, h => chn_at R (b :: r) i (by simpa using hi) h.2
/-- What first stands in the next line would have had no room. -/
def NoRoom (xs : List It) (W : Int) (a b : List Pt) : Prop := W < widthG a + dG xs [ptAt b 0]
structure LineOk (xs : List It) (W : Int) (ps : List Pt) (r : List (List Pt) × List Pt) : Prop where
  flat : r.1.flatten ++ r.2 = ps
  some : ∀ L ∈ r.1, L ≠ []
  some2 : ps ≠ [] → r.2 ≠ []
  room : ∀ L ∈ r.1 ++ [r.2], L.length ≤ 1 ∨ dG xs L ≤ W
  chain : Chn (NoRoom xs W) (r.1 ++ [r.2])
theorem line_ok (xs : List It) (W : Int) (ps : List Pt) (h : ∀ p ∈ ps, TxP xs p) (k : Nat) (hk : k ≤ ps.length) : LineOk xs W (ps.take k) (lineRun xs W (ps.take k)) := by
  induction k with
  | zero => exact ⟨rfl, fun L hL => by simp [lineRun] at hL, fun h => absurd (List.take_zero ..) h, fun L hL => by simp [lineRun] at hL; subst hL; exact .inl (Nat.zero_le _), trivial⟩
  | succ k ih =>
    have hlt : k < ps.length := by omega
    have hp := h _ (List.getElem_mem hlt)
    obtain ⟨i1, i2, i3, i4, i5⟩ := ih (by omega)
    rw [List.take_succ_eq_append_getElem hlt, lineRun_snoc]
    generalize lineRun xs W (ps.take k) = r at *
    generalize ps[k] = p at *
    obtain ⟨done, line⟩ := r
    simp only at i1 i2 i3 i4 i5
    unfold lineStep
    simp only
    by_cases hc : line ≠ [] ∧ W < widthG line + dG xs [p]
    · rw [if_pos hc]
      refine ⟨by simp [i1], fun L hL => ?_, fun _ => by simp, fun L hL => ?_, chn_snoc _ done line [p] i5 hc.2⟩
      · rcases List.mem_append.1 hL with hL | hL
        · exact i2 L hL
        · obtain rfl : L = line := by simpa using hL
          exact hc.1
      · rcases List.mem_append.1 hL with hL | hL
        · exact i4 L hL
        · obtain rfl : L = [p] := by simpa using hL
          exact .inl (Nat.le_refl _)
    · rw [if_neg hc]
      refine ⟨by simp [← i1], i2, fun _ => by simp, fun L hL => ?_, ?_⟩
      · rcases List.mem_append.1 hL with hL | hL
        · exact i4 L (List.mem_append_left _ hL)
        · obtain rfl : L = line ++ [p] := by simpa using hL
          by_cases hl : line = []
          · subst hl; exact .inl (Nat.le_refl _)
          · refine .inr ?_
            rw [dG_snoc hp]
            have : ¬ W < widthG line + dG xs [p] := fun h2 => hc ⟨hl, h2⟩
            omega
      · by_cases hl : line = []
        · have hd : done = [] := by
            rcases List.eq_nil_or_concat done with hd | ⟨d, L, hd⟩
            · exact hd
            · exfalso
              have h1 := i2 L (by rw [hd]; simp)
              rw [hl, List.append_nil] at i1
              by_cases hn : ps.take k = []
              · rw [hn, hd] at i1
                simp at i1
                exact h1 i1.2
              · exact i3 hn hl
          subst hl hd
          exact trivial
        · refine chn_last _ done line _ i5 fun c hc2 => ?_
          unfold NoRoom at hc2 ⊢
          rwa [show ptAt (line ++ [p]) 0 = ptAt line 0 from by
            cases line with
            | nil => exact absurd rfl hl
            | cons q l => rfl]
/-- Lines as they are told. -/
def Told1 (xs : List It) (sz ht al W : Int) : List (List Pt) → List Ln → Prop
  | [], [] => True
  | L :: Ls, o :: out => (∃ y, o = lnOf xs sz ht al y 0 W L false) ∧ Told1 xs sz ht al W Ls out
  | _, _ => False
theorem told1_snoc (xs : List It) (sz ht al W y : Int) (L : List Pt) : ∀ (Ls : List (List Pt)) (out : List Ln), Told1 xs sz ht al W Ls out → Told1 xs sz ht al W (Ls ++ [L]) (out ++ [lnOf xs sz ht al y 0 W L false])
  | [], [], _ => ⟨⟨y, rfl⟩, trivial⟩
  | _ :: Ls, _ :: out, h => ⟨h.1, told1_snoc xs sz ht al W y L Ls out h.2⟩
  | [], _ :: _, h => h.elim
  | _ :: _, [], h => h.elim
theorem told1_len (xs : List It) (sz ht al W : Int) : ∀ (Ls : List (List Pt)) (out : List Ln), Told1 xs sz ht al W Ls out → out.length = Ls.length
  | [], [], _ => rfl
  | _ :: Ls, _ :: out, h => by simp [told1_len xs sz ht al W Ls out h.2]
  | [], _ :: _, h => h.elim
  | _ :: _, [], h => h.elim
theorem told1_at (xs : List It) (sz ht al W : Int) : ∀ (Ls : List (List Pt)) (out : List Ln) (i : Nat) (h1 : i < Ls.length) (h2 : i < out.length), Told1 xs sz ht al W Ls out → ∃ y, out[i] = lnOf xs sz ht al y 0 W Ls[i] false
  | _ :: _, _ :: _, 0, _, _, h => h.1
  | _ :: Ls, _ :: out, i + 1, h1, h2, h => told1_at xs sz ht al W Ls out i (by simpa using h1) (by simpa using h2) h.2
theorem run_lines (xs : List It) (sz ht al W y : Int) (ps : List Pt) (h : ∀ p ∈ ps, TxP xs p) (k : Nat) (hk : k ≤ ps.length) :
    (runF xs sz ht al W y ((ps.map fun p => [p]).take k)).line = (lineRun xs W (ps.take k)).2 ∧ (runF xs sz ht al W y ((ps.map fun p => [p]).take k)).full = !(lineRun xs W (ps.take k)).2.isEmpty ∧
      Told1 xs sz ht al W (lineRun xs W (ps.take k)).1 (runF xs sz ht al W y ((ps.map fun p => [p]).take k)).out := by
  induction k with
  | zero => exact ⟨rfl, rfl, trivial⟩
  | succ k ih =>
    have hlt : k < ps.length := by omega
    have hp := h _ (List.getElem_mem hlt)
    have hmem : ∀ p ∈ (lineRun xs W (ps.take k)).2, TxP xs p := fun p hp2 => by
      have := (line_ok xs W ps h k (by omega)).flat
      exact h p (List.mem_of_mem_take (by rw [← this]; exact List.mem_append_right _ hp2))
    obtain ⟨i1, i2, i3⟩ := ih (by omega)
    have hlt2 : k < (ps.map fun p => [p]).length := by rw [List.length_map]; exact hlt
    rw [List.take_succ_eq_append_getElem hlt, lineRun_snoc, run_step xs sz ht al W y _ k hlt2, List.getElem_map]
    generalize runF xs sz ht al W y ((ps.map fun p => [p]).take k) = st at *
    generalize lineRun xs W (ps.take k) = r at *
    generalize ps[k] = p at *
    obtain ⟨done, line⟩ := r
    obtain ⟨yy, ln, full, out⟩ := st
    simp only at i1 i2 i3 hmem
    subst i1 i2
    have happ : ∀ st : BSt, appF xs sz ht al W st [p] = ⟨st.y, st.line ++ [p], true, st.out⟩ := fun st => by
      unfold appF
      rw [hp.must]
      simp [hp.solid]
    have hwd : widthG ln + widthG [p] - tailG xs [p].reverse = widthG ln + dG xs [p] := by unfold dG; omega
    have hso : ([p].any (solidF xs)) = true := by simp [hp.solid]
    unfold putF lineStep fitsF
    simp only [hp.clean, hwd, hso, Bool.not_true, Bool.false_and, Bool.or_false]
    cases ln with
    | nil =>
      simp only [List.isEmpty_nil, Bool.not_true, Bool.and_false, Bool.false_eq_true, if_false, ne_eq, not_true_eq_false, false_and]
      rw [happ]
      exact ⟨rfl, rfl, i3⟩
    | cons q l =>
      simp only [List.isEmpty_cons, Bool.not_false, Bool.and_true, ne_eq, reduceCtorEq, not_false_eq_true, true_and]
      by_cases hc : W < widthG (q :: l) + dG xs [p]
      · have hd : (!decide (widthG (q :: l) + dG xs [p] ≤ W)) = true := by rw [decide_eq_false (by omega)]; rfl
        rw [if_pos hd, if_pos hc, happ]
        have htold : (q :: l).any (toldF xs) = true := by rw [List.any_cons, (hmem q (by simp)).told]; rfl
        have he : endF xs sz ht al W false ⟨yy, q :: l, true, out⟩ = ⟨yy + highF xs sz ht (q :: l), [], false, out ++ [lnOf xs sz ht al yy 0 W (q :: l) false]⟩ := by
          unfold endF
          simp only
          rw [if_pos htold]
        rw [he]
        exact ⟨rfl, rfl, told1_snoc xs sz ht al W yy (q :: l) done out i3⟩
      · have hd : ¬ (!decide (widthG (q :: l) + dG xs [p] ≤ W)) = true := by rw [decide_eq_true (by omega)]; decide
        rw [if_neg hd, if_neg hc, happ]
        exact ⟨rfl, by simp, i3⟩
/-! The parts of the one text. -/
section
variable (s : ByteArray) (z : Int)
def pcsOf : List ByteArray := piecesF s true false
def psOf : List Pt := textTo 0 (oneIt s z) (pcsOf s) (pcsOf s).length
theorem parts_one : partsTo [oneIt s z] 1 = psOf s z := by
  have e : partsTo [oneIt s z] 1 = partsOf 0 (oneIt s z) := by simp [partsTo, itAt]
  rw [e]
  unfold partsOf
  rw [if_pos (show (oneIt s z).kind = 1 from rfl)]
  exact (textTo_all 0 (oneIt s z) (pcsOf s)).symm
theorem psOf_len : (psOf s z).length = (pcsOf s).length := by simp [psOf, textTo]
theorem psOf_at (k : Nat) (h : k < (pcsOf s).length) : ptAt (psOf s z) k = textPt 0 (oneIt s z) (pcsOf s) k := by
  rw [ptAt_of _ _ (by rw [psOf_len]; exact h)]
  simp [psOf, textTo]
theorem psOf_kind (k : Nat) (h : k < (pcsOf s).length) : pKind [oneIt s z] (ptAt (psOf s z) k) = 1 := by rw [psOf_at s z k h]; rfl
theorem cuts_one (k : Nat) (h : k < (psOf s z).length) : cutsAt [oneIt s z] (psOf s z) (k + 1) = true := by
  have hl := psOf_len s z
  unfold cutsAt
  by_cases he : k + 1 = (psOf s z).length
  · rw [he]; simp
  · have hk1 := psOf_kind s z k (by omega)
    have hk2 := psOf_kind s z (k + 1) (by omega)
    have e1 : downF [oneIt s z] (psOf s z) (k + 1) = k + 1 := by
      show (if skipA (pKind _ (ptAt _ k)) then _ else k + 1) = k + 1
      rw [hk1]; rfl
    have e2 : upF [oneIt s z] (psOf s z) ((psOf s z).length - (k + 1)) (k + 1) = k + 1 := by
      obtain ⟨m, hm⟩ : ∃ m, (psOf s z).length - (k + 1) = m + 1 := ⟨(psOf s z).length - (k + 1) - 1, by omega⟩
      rw [hm]
      show (if skipB (pKind _ (ptAt _ (k + 1))) then _ else k + 1) = k + 1
      rw [hk2]; rfl
    have e3 : (ptAt (psOf s z) k).last = false := by
      rw [psOf_at s z k (by omega)]
      unfold textPt
      simp only
      rw [beq_eq_false_iff_ne]; omega
    have : mayEndF [oneIt s z] (psOf s z) (k + 1) = true := by
      unfold mayEndF
      rw [Nat.add_sub_cancel, hk1, hk2, e1, e2, if_neg (by omega), if_neg (by omega)]
      unfold mayAt
      rw [Nat.add_sub_cancel, hk1, hk2, e3, if_neg (by omega)]
      rfl
    rw [this]; simp
theorem groups_one (k : Nat) (h : k ≤ (psOf s z).length) : groupsTo [oneIt s z] (psOf s z) k = ((List.range k).map fun j => (j, j + 1), k) := by
  induction k with
  | zero => rfl
  | succ k ih =>
    simp only [groupsTo]
    rw [ih (by omega), cuts_one s z k (by omega), if_pos rfl, List.range_succ, List.map_append]
    rfl
theorem segs_one : segsF [oneIt s z] = (psOf s z).map fun p => [p] := by
  unfold segsF
  rw [show ([oneIt s z] : List It).length = 1 from rfl, parts_one, groups_one s z _ (Nat.le_refl _)]
  simp only [List.map_map]
  refine List.ext_getElem (by simp) fun j h1 h2 => ?_
  simp only [List.length_map, List.length_range] at h1
  simp only [List.getElem_map, List.getElem_range, Function.comp, segP]
  rw [show j + 1 - j = 1 by omega, List.drop_eq_getElem_cons h1]
  rfl
end
end Go.Proofs.YtadlabndbomgmaaDoor
/- Plain laws on the lines of one text: LinesFit, LinesJustified. No program in sight. -/
namespace Go.Proofs.YtadlabndbomgmaaDoor
open Go.Lib
def trimPt (xs : List It) (p : Pt) : Pt := if tailF xs p = 0 then p else cutPt xs p
theorem trimPt_i (xs : List It) (p : Pt) : (trimPt xs p).i = p.i := by unfold trimPt; split <;> rfl
theorem trimPt_w (xs : List It) (p : Pt) : (trimPt xs p).w = p.w - tailF xs p := by unfold trimPt; split <;> simp_all [cutPt]
theorem ptAt_snoc (L : List Pt) (p : Pt) : ptAt (L ++ [p]) L.length = p := by simp [ptAt, List.getD]
theorem ptAt_left (L M : List Pt) (k : Nat) (h : k < L.length) : ptAt (L ++ M) k = ptAt L k := by simp [ptAt, List.getD, List.getElem?_append_left h]
theorem solidTo_snoc {xs : List It} {p : Pt} (h : TxP xs p) (L : List Pt) : solidTo xs (L ++ [p]) (L ++ [p]).length = L.length + 1 := by
  rw [List.length_append, List.length_singleton]
  simp only [solidTo]
  rw [ptAt_snoc, if_pos h.solid]
theorem trimF_snoc {xs : List It} {p : Pt} (h : TxP xs p) (L : List Pt) : trimF xs (L ++ [p]) = L ++ [trimPt xs p] := by
  unfold trimF trimPt
  rw [solidTo_snoc h]
  simp only [Nat.add_sub_cancel, ptAt_snoc]
  rw [if_neg (by omega)]
  split
  · rfl
  · rw [List.set_append_right _ _ (Nat.le_refl _), Nat.sub_self]; rfl
theorem widthG_trim {xs : List It} {p : Pt} (h : TxP xs p) (L : List Pt) : widthG (L ++ [trimPt xs p]) = dG xs (L ++ [p]) := by
  rw [dG_snoc h, h.dG, widthG_append]
  simp [widthG, trimPt_w]
theorem tellTo_eq (xs : List It) (qs : List Pt) (gaps : List Int) (hk : ∀ q ∈ qs, pKind xs q ≠ 5) (hg : gaps.length = qs.length) (k : Nat) (h : k ≤ qs.length) :
    tellTo xs qs gaps k = (widthG (qs.take k) + psum gaps k, (List.range k).map fun j => ⟨(ptAt qs j).i, cut (widthG (qs.take j) + psum gaps j), cut (ptAt qs j).w, (ptAt qs j).t⟩) := by
  induction k with
  | zero => simp [tellTo, widthG, psum]
  | succ k ih =>
    have hlt : k < qs.length := by omega
    have hq := hk _ (List.getElem_mem hlt)
    rw [← ptAt_of qs k hlt] at hq
    simp only [tellTo]
    rw [ih (by omega), if_neg hq, List.take_succ_eq_append_getElem hlt, widthG_append, psum_succ gaps k (by omega), List.range_succ, List.map_append, ← ptAt_of qs k hlt]
    refine Prod.ext ?_ rfl
    simp only [widthG, List.map_cons, List.map_nil, List.sum_cons, List.sum_nil]
    omega
theorem gapsF_len (xs : List It) (al : Int) (last : Bool) (ps : List Pt) (m : Nat) (free : Int) : (gapsF xs al last ps m free).length = ps.length := by
  unfold gapsF
  split
  · rw [shared_length]; simp [gapWs]
  · simp
theorem gapsF_nonneg (xs : List It) (al : Int) (last : Bool) (ps : List Pt) (m : Nat) (free : Int) (h : 0 ≤ free) (k : Nat) : 0 ≤ at0 (gapsF xs al last ps m free) k := by
  unfold gapsF
  split
  · exact shared_nonneg _ h k
  · have e : at0 (List.replicate ps.length 0) k = 0 := by
      unfold at0 List.getD
      rw [List.getElem?_replicate]
      split <;> rfl
    rw [e]; exact Int.le_refl _
theorem psum_nonneg (l : List Int) (h : ∀ k, 0 ≤ at0 l k) (k : Nat) (hk : k ≤ l.length) : 0 ≤ psum l k := by
  induction k with
  | zero => rw [psum_zero]; exact Int.le_refl _
  | succ k ih => rw [psum_succ l k (by omega)]; have := ih (by omega); have := h k; omega
theorem psum_rep (n k : Nat) (hk : k ≤ n) : psum (List.replicate n 0) k = 0 := by
  unfold psum
  rw [List.take_replicate]
  induction min k n with
  | zero => rfl
  | succ m ih => rw [List.replicate_succ, List.sum_cons, ih]; rfl
/-- A line of parts of one text, as it is told. -/
theorem ln_told {xs : List It} {p : Pt} (L : List Pt) (hL : ∀ q ∈ L, TxP xs q) (hp : TxP xs p) (sz ht al y W : Int) (last : Bool) :
    ∃ g : List Int, g = gapsF xs al last (L ++ [trimPt xs p]) L.length (max 0 (W - dG xs (L ++ [p]))) ∧ (lnOf xs sz ht al y 0 W (L ++ [p]) last).last = last ∧
      (lnOf xs sz ht al y 0 W (L ++ [p]) last).w = cut (dG xs (L ++ [p]) + psum g (L.length + 1)) ∧
      (lnOf xs sz ht al y 0 W (L ++ [p]) last).pcs = (List.range (L.length + 1)).map fun j => ⟨(ptAt (L ++ [trimPt xs p]) j).i, cut (widthG ((L ++ [trimPt xs p]).take j) + psum g j), cut (ptAt (L ++ [trimPt xs p]) j).w, (ptAt (L ++ [trimPt xs p]) j).t⟩ := by
  refine ⟨_, rfl, rfl, ?_⟩
  have hk : ∀ q ∈ L ++ [trimPt xs p], pKind xs q ≠ 5 := fun q hq => by
    rcases List.mem_append.1 hq with hq | hq
    · rw [(hL q hq).1]; decide
    · obtain rfl : q = trimPt xs p := by simpa using hq
      unfold pKind
      rw [trimPt_i]
      have := hp.1
      unfold pKind at this
      rw [this]; decide
  have e := tellTo_eq xs (L ++ [trimPt xs p]) (gapsF xs al last (L ++ [trimPt xs p]) L.length (max 0 (W - dG xs (L ++ [p])))) hk (gapsF_len ..) (L.length + 1) (by simp)
  have ef : freeF 0 W (L ++ [trimPt xs p]) = max 0 (W - dG xs (L ++ [p])) := by unfold freeF; rw [widthG_trim hp]; omega
  have el : (L ++ [trimPt xs p]).length = L.length + 1 := by simp
  have et : toldTo xs al 0 W (L ++ [p]) last = tellTo xs (L ++ [trimPt xs p]) (gapsF xs al last (L ++ [trimPt xs p]) L.length (max 0 (W - dG xs (L ++ [p])))) (L.length + 1) := by
    unfold toldTo
    rw [trimF_snoc hp, solidTo_snoc hp, Nat.add_sub_cancel, ef, el]
  have ew : (L ++ [trimPt xs p]).take (L.length + 1) = L ++ [trimPt xs p] := List.take_of_length_le (by simp)
  rw [ew, widthG_trim hp] at e
  unfold lnOf
  simp only
  rw [et, e]
  exact ⟨rfl, rfl⟩
/-- What a text is without its last blank. -/
def spTrim (l : List UInt8) : List UInt8 := if l.getLast? = some 32 then l.dropLast else l
theorem spTrim_pre (l : List UInt8) : spTrim l <+: l := by
  unfold spTrim; split
  · exact List.dropLast_prefix l
  · exact List.prefix_rfl
theorem tidy_double : ∀ (l : List UInt8) (b : Bool), Tidy b l → ∀ u v, l ≠ u ++ (32 :: 32 :: v)
  | [], _, _, u, v => by simp
  | c :: r, b, h, [], v => by
    intro e
    simp only [List.nil_append, List.cons.injEq] at e
    obtain ⟨rfl, rfl⟩ := e
    unfold Tidy at h
    rw [isBl_32] at h
    obtain ⟨_, _, h2⟩ := h
    unfold Tidy at h2
    rw [isBl_32] at h2
    exact absurd h2.2.1 (by decide)
  | c :: r, b, h, d :: u, v => by
    intro e
    simp only [List.cons_append, List.cons.injEq] at e
    unfold Tidy at h
    split at h
    · exact tidy_double r _ h.2.2 u v e.2
    · exact tidy_double r _ h u v e.2
theorem tidy_first {l : List UInt8} (h : Tidy true l) : noBlank l := by
  intro h32
  cases l with
  | nil => cases h32
  | cons c r =>
    simp only [List.head?_cons, Option.some.injEq] at h32
    subst h32
    unfold Tidy at h
    rw [isBl_32] at h
    exact absurd h.2.1 (by decide)
theorem last_split {l : List UInt8} (h : l.getLast? = some 32) : l = l.dropLast ++ [32] := by
  obtain ⟨m, hm⟩ := List.getLast?_eq_some_iff.1 h
  rw [hm]; simp
theorem spTrim_twice {l : List UInt8} (h : ∀ u, l ≠ u ++ [32, 32]) : spTrim (spTrim l) = spTrim l := by
  unfold spTrim
  by_cases h1 : l.getLast? = some 32
  · rw [if_pos h1, if_neg]
    intro h2
    have e1 := last_split h1
    have e2 := last_split h2
    rw [e2] at e1
    exact h l.dropLast.dropLast (e1.trans (by rw [List.append_assoc]; rfl))
  · rw [if_neg h1, if_neg h1]
section
variable (s : ByteArray) (z : Int)
theorem psOf_mem (p : Pt) (hp : p ∈ psOf s z) : p.i = 0 ∧ p.t ∈ pcsOf s ∧ p.w = txW (oneIt s z) p.t := by
  unfold psOf textTo at hp
  obtain ⟨q, hq, rfl⟩ := List.mem_map.1 hp
  have hq := List.mem_range.1 hq
  refine ⟨rfl, ?_, rfl⟩
  unfold textPt
  simp only
  rw [pieceAt_of _ q hq]
  exact List.getElem_mem hq
theorem psOf_bytes : (psOf s z).map (fun p => p.t.data.toList) = (pcsOf s).map (·.data.toList) := by
  unfold psOf textTo
  rw [List.map_map]
  refine List.ext_getElem (by simp) fun j h1 h2 => ?_
  simp only [List.length_map, List.length_range] at h1
  simp only [List.getElem_map, List.getElem_range, Function.comp, textPt]
  rw [pieceAt_of _ j h1]
theorem psOf_txp (hs : s.size ≤ 200) (hz : 0 ≤ z ∧ z ≤ 255) (ht : Tidy true s.data.toList) : ∀ p ∈ psOf s z, TxP [oneIt s z] p := fun p hp => by
  obtain ⟨h1, h2, h3⟩ := psOf_mem s z p hp
  refine ⟨by unfold pKind; rw [h1]; rfl, by unfold pMode; rw [h1]; rfl, ?_, ?_⟩
  · have := (partsTo_ok (one_ok s z hs hz) 1 (Nat.le_refl _)).1 p (by rw [parts_one]; exact hp)
    exact this.2
  · have := (pieces_cuts s (tidy_first ht)).2 _ h2
    unfold isSp
    rw [beq_eq_false_iff_ne, ByteArray.toList_eq]
    intro e
    unfold noBlank at this
    rw [e] at this
    exact this rfl
theorem tx_one (hs : s.size ≤ 200) (hz : 0 ≤ z ∧ z ≤ 255) (t : ByteArray) (ht : t.size ≤ s.size) : txW (oneIt s z) t = wideS z 0 (runesL t.data.toList) :=
  (txW_eq ((one_ok s z hs hz).2 _ (by simp)) t ht).1
theorem psOf_size (p : Pt) (hp : p ∈ psOf s z) : p.t.size ≤ s.size := pieces_le s true false _ (psOf_mem s z p hp).2.1
theorem dG_one (hs : s.size ≤ 200) (hz : 0 ≤ z ∧ z ≤ 255) (ht : Tidy true s.data.toList) (p : Pt) (hp : p ∈ psOf s z) : dG [oneIt s z] [p] = wideS z 0 (runesL (spTrim p.t.data.toList)) := by
  have hx := psOf_txp s z hs hz ht p hp
  obtain ⟨h1, h2, h3⟩ := psOf_mem s z p hp
  have hsz := psOf_size s z p hp
  rw [hx.dG]
  have hc : collF [oneIt s z] p = true := by unfold collF; rw [hx.1, hx.2.1]; rfl
  have he : endsF [oneIt s z] p = spaceEnd p.t := by unfold endsF; rw [hx.1]; rfl
  unfold tailF
  rw [hc, he, Bool.true_and]
  unfold spTrim
  by_cases hsp : spaceEnd p.t = true
  · have hl : p.t.data.toList.getLast? = some 32 := by unfold spaceEnd at hsp; simpa using hsp
    rw [if_pos hsp, if_pos hl, h1]
    have e1 : itAt [oneIt s z] 0 = oneIt s z := rfl
    have e2 : (p.t.extract 0 (p.t.size - 1)).data.toList = p.t.data.toList.dropLast := by simp
    rw [e1, tx_one s z hs hz _ (by rw [ByteArray.size_extract]; omega), e2]
    omega
  · have hl : ¬ p.t.data.toList.getLast? = some 32 := fun e => hsp (by unfold spaceEnd; simpa using e)
    rw [if_neg hsp, if_neg hl, h3, tx_one s z hs hz _ hsz]
    omega
theorem widthG_bytes (hs : s.size ≤ 200) (hz : 0 ≤ z ∧ z ≤ 255) : ∀ L : List Pt, (∀ p ∈ L, p ∈ psOf s z) → widthG L = wideS z 0 ((L.map fun p => runesL p.t.data.toList).flatten)
  | [], _ => rfl
  | p :: L, h => by
    have hp := h p (by simp)
    rw [widthG_cons, widthG_bytes hs hz L fun q hq => h q (by simp [hq]), List.map_cons, List.flatten_cons, wideS_append, (psOf_mem s z p hp).2.2, tx_one s z hs hz _ (psOf_size s z p hp)]
def bytesG (L : List Pt) : List UInt8 := (L.map fun p => p.t.data.toList).flatten
theorem bytesG_append (L M : List Pt) : bytesG (L ++ M) = bytesG L ++ bytesG M := by simp [bytesG]
theorem trimPt_bytes (hs : s.size ≤ 200) (hz : 0 ≤ z ∧ z ≤ 255) (ht : Tidy true s.data.toList) (p : Pt) (hp : p ∈ psOf s z) :
    (trimPt [oneIt s z] p).t.data.toList = p.t.data.toList ∨ (p.t.data.toList.getLast? = some 32 ∧ (trimPt [oneIt s z] p).t.data.toList = p.t.data.toList.dropLast) := by
  have hx := psOf_txp s z hs hz ht p hp
  unfold trimPt
  split
  · exact .inl rfl
  · rename_i hn
    refine .inr ⟨?_, by simp [cutPt]⟩
    have he : endsF [oneIt s z] p = spaceEnd p.t := by unfold endsF; rw [hx.1]; rfl
    unfold tailF at hn
    rw [he] at hn
    by_cases hsp : spaceEnd p.t = true
    · unfold spaceEnd at hsp; simpa using hsp
    · rw [if_neg (by simp [hsp])] at hn; exact absurd rfl hn
/-- No two blanks end a piece. -/
theorem piece_single (ht : Tidy true s.data.toList) (p : Pt) (hp : p ∈ psOf s z) : ∀ u, p.t.data.toList ≠ u ++ [32, 32] := by
  intro u e
  have hj := pieces_join s true false
  obtain ⟨a, b, hab⟩ := List.append_of_mem (psOf_mem s z p hp).2.1
  unfold pcsOf at hab
  rw [hab, List.map_append, List.flatten_append, List.map_cons, List.flatten_cons, e] at hj
  refine tidy_double _ _ ht ((a.map (·.data.toList)).flatten ++ u) ((b.map (·.data.toList)).flatten) ?_
  rw [← hj]
  simp
theorem fit_pair (hs : s.size ≤ 200) (hz : 0 ≤ z ∧ z ≤ 255) (ht : Tidy true s.data.toList) (W : Int) (hW : W ≤ 65535) (U A T V : List Pt) (p q : Pt) (hps : psOf s z = U ++ ((A ++ [p]) ++ ((q :: T) ++ V)))
    (hn : W < widthG (A ++ [p]) + dG [oneIt s z] [q]) :
    W < widthF z 0 (runesL (bytesG (A ++ [trimPt [oneIt s z] p]) ++ spTrim q.t.data.toList)) ∨ W < widthF z 0 (runesL (bytesG (A ++ [trimPt [oneIt s z] p]) ++ [32] ++ spTrim q.t.data.toList)) := by
  have hpm : p ∈ psOf s z := by rw [hps]; simp
  have hqm : q ∈ psOf s z := by rw [hps]; simp
  have hAm : ∀ r ∈ A ++ [p], r ∈ psOf s z := fun r hr => by rw [hps]; exact List.mem_append_right _ (List.mem_append_left _ hr)
  have hc := (pieces_cuts s (tidy_first ht)).1
  have hb := psOf_bytes s z
  unfold pcsOf at hb
  rw [← hb, hps, List.map_append] at hc
  have hc2 := Cuts.drop _ _ hc
  rw [List.map_append] at hc2
  have hr := Cuts.runes _ _ (spTrim q.t.data.toList) hc2 (by
    rw [List.map_append, List.map_cons, List.cons_append, List.flatten_cons]
    exact (spTrim_pre _).trans (List.prefix_append _ _))
  have key : W < widthF z 0 (runesL (bytesG (A ++ [p]) ++ spTrim q.t.data.toList)) := by
    unfold bytesG
    rw [hr]
    unfold widthF
    rw [show cut 0 = 0 from rfl, wideS_append, List.map_map]
    have h1 := widthG_bytes s z hs hz _ hAm
    have h2 := dG_one s z hs hz ht q hqm
    have h3 : (List.map (runesL ∘ fun p : Pt => p.t.data.toList) (A ++ [p])) = (A ++ [p]).map fun p => runesL p.t.data.toList := rfl
    rw [h3, ← h1, ← h2]
    unfold cut
    omega
  rcases trimPt_bytes s z hs hz ht p hpm with e | ⟨e1, e2⟩
  · left
    rw [bytesG_append] at key ⊢
    rw [show bytesG [trimPt [oneIt s z] p] = bytesG [p] from by simp [bytesG, e]]
    exact key
  · right
    rw [bytesG_append] at key ⊢
    have : bytesG [trimPt [oneIt s z] p] ++ [32] = bytesG [p] := by simp [bytesG, e2]; exact (last_split e1).symm
    rw [List.append_assoc (bytesG A), this]
    exact key
end
/-! The lines as they come out. -/
structure Lines1 (xs : List It) (sz ht al W : Int) (ps : List Pt) (Ls : List (List Pt)) (out : List Ln) : Prop where
  len : out.length = Ls.length
  flat : Ls.flatten = ps
  some : ∀ L ∈ Ls, L ≠ []
  room : ∀ L ∈ Ls, L.length ≤ 1 ∨ dG xs L ≤ W
  chain : Chn (NoRoom xs W) Ls
  told : ∀ (i : Nat) (h : i < out.length) (h2 : i < Ls.length), ∃ y, out[i] = lnOf xs sz ht al y 0 W Ls[i] (decide (i + 1 = Ls.length))
def linesF (xs : List It) (W : Int) (ps : List Pt) : List (List Pt) := if ps = [] then [] else (lineRun xs W ps).1 ++ [(lineRun xs W ps).2]
theorem lines_one (xs : List It) (sz ht al W y : Int) (ps : List Pt) (hseg : segsF xs = ps.map fun p => [p]) (h : ∀ p ∈ ps, TxP xs p) : Lines1 xs sz ht al W ps (linesF xs W ps) (breakF xs sz ht al W y) := by
  have hl := line_ok xs W ps h ps.length (Nat.le_refl _)
  have hr := run_lines xs sz ht al W y ps h ps.length (Nat.le_refl _)
  rw [List.take_length] at hl
  rw [List.take_length, show ps.length = (ps.map fun p => [p]).length by simp, List.take_length, ← hseg] at hr
  unfold breakF linesF
  by_cases hn : ps = []
  · rw [if_pos hn]
    have e : runF xs sz ht al W y (segsF xs) = ⟨y, [], false, []⟩ := by rw [hseg, hn]; rfl
    rw [e]
    exact ⟨rfl, by rw [hn]; rfl, (fun L hL => by cases hL), (fun L hL => by cases hL), trivial, (fun i h => absurd h (Nat.not_lt_zero _))⟩
  · rw [if_neg hn]
    have h2 := hl.some2 hn
    obtain ⟨r1, r2, r3⟩ := hr
    generalize runF xs sz ht al W y (segsF xs) = st at *
    have hmem : ∀ p ∈ (lineRun xs W ps).2, TxP xs p := fun p hp2 => h p (by rw [← hl.flat]; exact List.mem_append_right _ hp2)
    have hf := hl.flat
    have hs := hl.some
    have hro := hl.room
    have hch := hl.chain
    generalize lineRun xs W ps = r at *
    obtain ⟨done, line⟩ := r
    obtain ⟨yy, ln, full, out⟩ := st
    simp only at *
    subst r1
    have hfin : finF xs sz ht al W ⟨yy, ln, full, out⟩ = out ++ [lnOf xs sz ht al yy 0 W ln true] := by
      unfold finF endF
      simp only
      rw [if_pos h2]
      cases ln with
      | nil => exact absurd rfl h2
      | cons q l =>
        rw [if_pos (by rw [List.any_cons, (hmem q (by simp)).told]; rfl)]
    rw [hfin]
    have hlen := told1_len xs sz ht al W done out r3
    refine ⟨by simp [hlen], by simp [hf], fun L hL => ?_, hro, hch, fun i hi hi2 => ?_⟩
    · rcases List.mem_append.1 hL with hL | hL
      · exact hs L hL
      · obtain rfl : L = ln := by simpa using hL
        exact h2
    · by_cases he : i < out.length
      · obtain ⟨y', hy⟩ := told1_at xs sz ht al W done out i (by omega) he r3
        refine ⟨y', ?_⟩
        rw [List.getElem_append_left he, List.getElem_append_left (by omega), hy, decide_eq_false (by simp; omega)]
      · have hie : i = out.length := by simp at hi; omega
        subst hie
        refine ⟨yy, ?_⟩
        rw [List.getElem_append_right (Nat.le_refl _), List.getElem_append_right (by omega), decide_eq_true (by simp; omega)]
        simp [hlen]
theorem last_of (L : List Pt) (h : L ≠ []) : ∃ A p, L = A ++ [p] := ⟨_, _, (List.dropLast_concat_getLast h).symm⟩
def pcBytes (l : List Pc) : List UInt8 := (l.map fun c => c.t.data.toList).flatten
theorem pcs_map (qs : List Pt) (n : Nat) (hn : n = qs.length) (f : Nat → Int) (g : Nat → Int) (h : Nat → Int) : (((List.range n).map fun j => (⟨f j, g j, h j, (ptAt qs j).t⟩ : Pc)).map fun c => c.t.data.toList) = qs.map fun p => p.t.data.toList := by
  refine List.ext_getElem (by simp [hn]) fun j h1 h2 => ?_
  simp only [List.length_map, List.length_range] at h1
  simp only [List.getElem_map, List.getElem_range]
  rw [ptAt_of _ _ (by omega)]
theorem noGaps (xs : List It) (al : Int) (last : Bool) (ps : List Pt) (m : Nat) (free : Int) (h : ¬ (al = 3 ∧ last = false)) (k : Nat) (hk : k ≤ ps.length) : psum (gapsF xs al last ps m free) k = 0 := by
  unfold gapsF
  rw [if_neg h]
  exact psum_rep _ _ hk
theorem split_at {α : Type} : ∀ (l : List α) (i : Nat) (h : i + 1 < l.length), ∃ u v, l = u ++ (l[i] :: l[i + 1] :: v)
  | a :: b :: r, 0, _ => ⟨[], r, rfl⟩
  | a :: b :: r, i + 1, h => by
    obtain ⟨u, v, e⟩ := split_at (b :: r) i (by simpa using h)
    exact ⟨a :: u, v, by rw [List.cons_append]; exact congrArg (a :: ·) e⟩
/-- A justified line beside the same one that is not. -/
def JustOk (W : Int) (a b : Ln) : Prop :=
  a.pcs.length = b.pcs.length ∧ (∀ (k : Nat) (hk : k < a.pcs.length) (hk' : k < b.pcs.length), b.pcs[k].x ≤ a.pcs[k].x ∧ a.pcs[k].t = b.pcs[k].t) ∧
    (a.last = false → (∃ (k : Nat) (hk : k < a.pcs.length), k + 1 < a.pcs.length ∧ spaceEnd a.pcs[k].t = true) → a.w = W) ∧ (a.last = true → a.w = b.w)
/-- What first stands in a line would have had no room in the one ahead. -/
def FitPair (W z : Int) (a b : Ln) : Prop :=
  ∃ c r, b.pcs = c :: r ∧ (W < widthF z 0 (runesL (pcBytes a.pcs ++ spTrim c.t.data.toList)) ∨ W < widthF z 0 (runesL (pcBytes a.pcs ++ [32] ++ spTrim c.t.data.toList)))
section
variable (s : ByteArray) (z : Int)
theorem lines_text (hs : s.size ≤ 200) (hz : 0 ≤ z ∧ z ≤ 255) (ht : Tidy true s.data.toList) (sz ht2 al y W : Int) : Lines1 [oneIt s z] sz ht2 al W (psOf s z) (linesF [oneIt s z] W (psOf s z)) (breakF [oneIt s z] sz ht2 al W y) :=
  lines_one _ _ _ _ _ _ _ (segs_one s z) (psOf_txp s z hs hz ht)
theorem mem_line {xs : List It} {sz ht2 al W : Int} {ps : List Pt} {Ls : List (List Pt)} {out : List Ln} (h : Lines1 xs sz ht2 al W ps Ls out) {i : Nat} (hi : i < Ls.length) : ∀ p ∈ Ls[i], p ∈ ps := fun p hp => by
  rw [← h.flat]
  exact List.mem_flatten.2 ⟨_, List.getElem_mem hi, hp⟩
/-- A line of words is no wider than its room, unless it is one piece alone; what stands first in the next one would have had no room. -/
theorem fit_out (hs : s.size ≤ 200) (hz : 0 ≤ z ∧ z ≤ 255) (ht : Tidy true s.data.toList) (sz ht2 y W : Int) (hW0 : 0 ≤ W) (hW : W ≤ 65535) (out : List Ln) (hout : breakF [oneIt s z] sz ht2 0 W y = out) (i : Nat) (h : i < out.length) :
    (out[i].w ≤ W ∨ out[i].pcs.length = 1) ∧ ∀ h2 : i + 1 < out.length, FitPair W z out[i] out[i + 1] := by
  have H := lines_text s z hs hz ht sz ht2 0 y W
  have hps := psOf_txp s z hs hz ht
  rw [hout] at H
  clear hout
  generalize hLs : linesF [oneIt s z] W (psOf s z) = Ls at *
  have hl := H.len
  have hiL : i < Ls.length := by omega
  obtain ⟨A, p, hL⟩ := last_of _ (H.some _ (List.getElem_mem hiL))
  obtain ⟨y1, ho⟩ := H.told i h hiL
  have hm := mem_line H hiL
  rw [hL] at ho hm
  obtain ⟨g, hg, _, hw, hp⟩ := ln_told (xs := [oneIt s z]) A (fun q hq => hps q (hm q (by simp [hq]))) (hps p (hm p (by simp))) sz ht2 0 y1 W (decide (i + 1 = Ls.length))
  rw [← ho] at hw hp
  constructor
  · have hro := H.room _ (List.getElem_mem hiL)
    rw [hL] at hro
    rcases hro with hro | hro
    · right
      rw [hp, List.length_map, List.length_range]
      simp at hro
      rw [hro]; rfl
    · left
      rw [hw, hg, noGaps _ _ _ _ _ _ (fun q => absurd q.1 (by decide)) _ (by rw [List.length_append]; exact Nat.le_refl _)]
      unfold cut
      omega
  · intro h2
    have hiL2 : i + 1 < Ls.length := by omega
    have hch := chn_at _ _ _ hiL2 H.chain
    unfold NoRoom at hch
    have hsome := H.some _ (List.getElem_mem hiL2)
    obtain ⟨A2, p2, hL2⟩ := last_of _ hsome
    obtain ⟨y2, ho2⟩ := H.told (i + 1) h2 hiL2
    have hm2 := mem_line H hiL2
    obtain ⟨U, V, hsp⟩ := split_at Ls i hiL2
    have hfl := H.flat
    rw [hsp] at hfl
    rw [hL] at hch hfl
    rw [hL2] at ho2 hm2 hch hfl
    obtain ⟨g2, _, _, _, hp2⟩ := ln_told (xs := [oneIt s z]) A2 (fun q hq => hps q (hm2 q (by simp [hq]))) (hps p2 (hm2 p2 (by simp))) sz ht2 0 y2 W (decide (i + 1 + 1 = Ls.length))
    rw [← ho2] at hp2
    have hbytes : pcBytes out[i].pcs = bytesG (A ++ [trimPt [oneIt s z] p]) := by
      rw [hp]
      unfold pcBytes bytesG
      rw [pcs_map _ _ (by simp)]
    unfold FitPair
    rw [hbytes]
    obtain ⟨q, T, hqT⟩ : ∃ q T, A2 ++ [p2] = q :: T := by
      cases A2 with
      | nil => exact ⟨p2, [], rfl⟩
      | cons q T => exact ⟨q, T ++ [p2], rfl⟩
    rw [hqT] at hch hfl
    have hq0 : ptAt (q :: T) 0 = q := rfl
    rw [hq0] at hch
    have hpair := fit_pair s z hs hz ht W hW U.flatten A T V.flatten p q (by rw [← hfl]; simp) hch
    rw [List.range_succ_eq_map, List.map_cons] at hp2
    refine ⟨_, _, hp2, ?_⟩
    have hqm : q ∈ psOf s z := hm2 q (by rw [hqT]; simp)
    have hfirst : spTrim (ptAt (A2 ++ [trimPt [oneIt s z] p2]) 0).t.data.toList = spTrim q.t.data.toList := by
      cases A2 with
      | cons a A3 =>
        simp only [List.cons_append, List.cons.injEq] at hqT
        obtain ⟨rfl, _⟩ := hqT
        rfl
      | nil =>
        simp only [List.nil_append, List.cons.injEq] at hqT
        obtain ⟨rfl, _⟩ := hqT
        show spTrim (trimPt [oneIt s z] p2).t.data.toList = _
        rcases trimPt_bytes s z hs hz ht p2 hqm with e | ⟨e1, e2⟩
        · rw [e]
        · have h3 := spTrim_twice (piece_single s z ht p2 hqm)
          have h4 : spTrim p2.t.data.toList = p2.t.data.toList.dropLast := by unfold spTrim; rw [if_pos e1]
          rw [e2, ← h4, h3]
    simp only
    rw [hfirst]
    exact hpair
/-- A line that is justified, and has blanks in it, is as wide as its room. -/
theorem just_out (hs : s.size ≤ 200) (hz : 0 ≤ z ∧ z ≤ 255) (ht : Tidy true s.data.toList) (sz ht2 y W : Int) (hW0 : 0 ≤ W) (hW : W ≤ 65535) (out out0 : List Ln) (ho1 : breakF [oneIt s z] sz ht2 3 W y = out) (ho2 : breakF [oneIt s z] sz ht2 0 W y = out0) :
    out.length = out0.length ∧ ∀ (i : Nat) (h : i < out.length) (h' : i < out0.length), JustOk W out[i] out0[i] := by
  have H := lines_text s z hs hz ht sz ht2 3 y W
  have H0 := lines_text s z hs hz ht sz ht2 0 y W
  have hps := psOf_txp s z hs hz ht
  rw [ho1] at H
  rw [ho2] at H0
  clear ho1 ho2
  generalize hLs : linesF [oneIt s z] W (psOf s z) = Ls at *
  have hl := H.len
  have hl0 := H0.len
  refine ⟨by omega, fun i h h' => ?_⟩
  have hiL : i < Ls.length := by omega
  obtain ⟨A, p, hL⟩ := last_of _ (H.some _ (List.getElem_mem hiL))
  obtain ⟨y1, ho⟩ := H.told i h hiL
  obtain ⟨y0, ho0⟩ := H0.told i h' hiL
  have hm := mem_line H hiL
  have hro := H.room _ (List.getElem_mem hiL)
  rw [hL] at ho ho0 hm hro
  have hA : ∀ q ∈ A, TxP [oneIt s z] q := fun q hq => hps q (hm q (by simp [hq]))
  have hP : TxP [oneIt s z] p := hps p (hm p (by simp))
  obtain ⟨g, hg, hla, hw, hp⟩ := ln_told (xs := [oneIt s z]) A hA hP sz ht2 3 y1 W (decide (i + 1 = Ls.length))
  obtain ⟨g0, hg0, _, hw0, hp0⟩ := ln_told (xs := [oneIt s z]) A hA hP sz ht2 0 y0 W (decide (i + 1 = Ls.length))
  rw [← ho] at hw hp hla
  rw [← ho0] at hw0 hp0
  have hz0 : ∀ k, k ≤ A.length + 1 → psum g0 k = 0 := fun k hk => by
    rw [hg0]
    refine noGaps _ _ _ _ _ _ (fun q => absurd q.1 (by decide)) _ ?_
    rw [List.length_append]; exact hk
  have hfree : (0 : Int) ≤ max 0 (W - dG [oneIt s z] (A ++ [p])) := by omega
  have hgl : g.length = A.length + 1 := by rw [hg, gapsF_len]; simp
  have hgn : ∀ j, 0 ≤ at0 g j := fun j => by
    rw [hg]
    exact gapsF_nonneg _ _ _ _ _ _ hfree j
  have hpos : ∀ k, k ≤ A.length + 1 → 0 ≤ psum g k := fun k hk => psum_nonneg g hgn k (by omega)
  have hlp : out[i].pcs.length = A.length + 1 := by rw [hp]; simp
  have hlp0 : out0[i].pcs.length = A.length + 1 := by rw [hp0]; simp
  refine ⟨by omega, fun k hk hk' => ?_, fun hlast hb => ?_, fun hlast => ?_⟩
  · clear hg hg0 hw hw0 hro
    have e1 : out[i].pcs[k] = ⟨(ptAt (A ++ [trimPt [oneIt s z] p]) k).i, cut (widthG ((A ++ [trimPt [oneIt s z] p]).take k) + psum g k), cut (ptAt (A ++ [trimPt [oneIt s z] p]) k).w, (ptAt (A ++ [trimPt [oneIt s z] p]) k).t⟩ := by
      simp only [hp, List.getElem_map, List.getElem_range]
    have e2 : out0[i].pcs[k] = ⟨(ptAt (A ++ [trimPt [oneIt s z] p]) k).i, cut (widthG ((A ++ [trimPt [oneIt s z] p]).take k) + psum g0 k), cut (ptAt (A ++ [trimPt [oneIt s z] p]) k).w, (ptAt (A ++ [trimPt [oneIt s z] p]) k).t⟩ := by
      simp only [hp0, List.getElem_map, List.getElem_range]
    rw [e1, e2]
    refine ⟨?_, rfl⟩
    simp only
    rw [hz0 k (by omega)]
    have := hpos k (by omega)
    exact cut_mono (by omega)
  · obtain ⟨k, hk, hk1, hsp⟩ := hb
    have e1 : out[i].pcs[k].t = (ptAt (A ++ [trimPt [oneIt s z] p]) k).t := by
      simp only [hp, List.getElem_map, List.getElem_range]
    rw [e1] at hsp
    have hkA : k < A.length := by omega
    have hr : dG [oneIt s z] (A ++ [p]) ≤ W := by
      rcases hro with hro | hro
      · rw [List.length_append, List.length_singleton] at hro; omega
      · exact hro
    rw [hla] at hlast
    have hends : endsF [oneIt s z] (ptAt (A ++ [trimPt [oneIt s z] p]) k) = true := by
      rw [ptAt_left _ _ _ hkA] at hsp ⊢
      have := hA _ (List.getElem_mem hkA)
      rw [← ptAt_of A k hkA] at this
      unfold endsF
      rw [this.1, hsp]; rfl
    have hsome : somePos (gapWs [oneIt s z] (A ++ [trimPt [oneIt s z] p]) A.length) (gapWs [oneIt s z] (A ++ [trimPt [oneIt s z] p]) A.length).length = true := by
      cases hsm : somePos (gapWs [oneIt s z] (A ++ [trimPt [oneIt s z] p]) A.length) (gapWs [oneIt s z] (A ++ [trimPt [oneIt s z] p]) A.length).length
      · have h9 := somePos_false hsm k (by simp [gapWs]; omega)
        rw [at0_of _ _ (by simp [gapWs]; omega)] at h9
        simp only [gapWs, List.getElem_map, List.getElem_range, decide_eq_true hkA, hends, Bool.and_self, if_true] at h9
        omega
      · rfl
    have hsum : psum g (A.length + 1) = cut (max 0 (W - dG [oneIt s z] (A ++ [p]))) := by
      rw [← hgl, psum_all, hg]
      unfold gapsF
      rw [if_pos ⟨rfl, hlast⟩]
      refine shared_sum_some _ _ ?_ hsome
      have h5 : A.length + 1 ≤ 200 := by
        have h6 := (psOf_len s z)
        have h7 := pieces_count s true false
        have h8 : (A ++ [p]).length ≤ (psOf s z).length := by
          have h9 : (A ++ [p]).Sublist Ls.flatten := by rw [← hL]; exact List.sublist_flatten_of_mem (List.getElem_mem hiL)
          rw [H.flat] at h9
          exact h9.length_le
        unfold pcsOf at h6
        rw [List.length_append, List.length_singleton] at h8
        omega
      simp [gapWs]; omega
    have hd0 : 0 ≤ dG [oneIt s z] (A ++ [p]) := by
      have := tailG_ok (A ++ [p]).reverse (xs := [oneIt s z]) (fun q hq => (hps q (hm q (List.mem_reverse.1 hq))).2.2.1)
      rw [widthG_rev] at this
      unfold dG; omega
    rw [hw, hsum]
    unfold cut
    omega
  · rw [hla] at hlast
    have : psum g (A.length + 1) = 0 := by rw [hg]; exact noGaps _ _ _ _ _ _ (by rw [hlast]; simp) _ (by simp)
    rw [hw, hw0, this, hz0 _ (Nat.le_refl _)]
end
end Go.Proofs.YtadlabndbomgmaaDoor
/- Plain law of LinesAll: all texts stand in the lines, but for blanks, in order, lines one below the other. No program in sight. -/
namespace Go.Proofs.YtadlabndbomgmaaDoor
def nbs (l : List UInt8) : List UInt8 := l.filter (· != 32)
def ptNb (i : Nat) (l : List Pt) : List UInt8 := l.flatMap fun p => if p.i = i then nbs p.t.data.toList else []
def kNb (i : Nat) (a : Int × ByteArray) : List UInt8 := if a.1 = (i : Int) then nbs a.2.data.toList else []
def pcNb (i : Nat) (l : List Pc) : List UInt8 := l.flatMap fun c => kNb i (c.item, c.t)
def pcsOut (out : List Ln) : List Pc := out.flatMap (·.pcs)
theorem nbs_append (a b : List UInt8) : nbs (a ++ b) = nbs a ++ nbs b := by simp [nbs]
theorem ptNb_append (i : Nat) (a b : List Pt) : ptNb i (a ++ b) = ptNb i a ++ ptNb i b := by simp [ptNb]
theorem pcNb_append (i : Nat) (a b : List Pc) : pcNb i (a ++ b) = pcNb i a ++ pcNb i b := by simp [pcNb]
theorem pcsOut_snoc (out : List Ln) (l : Ln) : pcsOut (out ++ [l]) = pcsOut out ++ l.pcs := by simp [pcsOut]
theorem pcNb_key (i : Nat) (l : List Pc) : pcNb i l = (l.map fun c => (c.item, c.t)).flatMap (kNb i) := by simp [pcNb, List.flatMap_map]
/-- Who is no text has none. -/
def PtT (xs : List It) (p : Pt) : Prop := pKind xs p ≠ 1 → p.t.data.toList = []
theorem tell_key (xs : List It) (ts : List Pt) (gp : List Int) (k : Nat) (hk : k ≤ ts.length) : (tellTo xs ts gp k).2.map (fun c => (c.item, c.t)) = ((ts.take k).filter (fun p => !floatP xs p)).map (fun p => ((p.i : Int), p.t)) := by
  induction k with
  | zero => simp [tellTo]
  | succ k ih =>
    have hlt : k < ts.length := by omega
    rw [List.take_succ_eq_append_getElem hlt, List.filter_append, List.map_append, ← ih (by omega), ← ptAt_of ts k hlt]
    simp only [tellTo]
    by_cases h5 : pKind xs (ptAt ts k) = 5
    · have hf : floatP xs (ptAt ts k) = true := by unfold floatP; simpa using h5
      rw [if_pos h5]
      simp [hf]
    · have hf : floatP xs (ptAt ts k) = false := by unfold floatP; simpa using h5
      rw [if_neg h5]
      simp [hf]
theorem ptNb_noFloat {xs : List It} (i : Nat) : ∀ (l : List Pt), (∀ p ∈ l, PtT xs p) → ptNb i (l.filter fun p => !floatP xs p) = ptNb i l
  | [], _ => rfl
  | p :: r, h => by
    have ih := ptNb_noFloat i r fun q hq => h q (by simp [hq])
    by_cases hf : floatP xs p = true
    · have hk : pKind xs p ≠ 1 := by
        unfold floatP at hf
        have : pKind xs p = 5 := by simpa using hf
        omega
      have ht := h p (by simp) hk
      rw [List.filter_cons_of_neg (by simp [hf]), ih]
      show ptNb i r = (if p.i = i then nbs p.t.data.toList else []) ++ ptNb i r
      rw [ht]
      split <;> rfl
    · rw [List.filter_cons_of_pos (by simp [hf])]
      show (if p.i = i then nbs p.t.data.toList else []) ++ ptNb i _ = (if p.i = i then nbs p.t.data.toList else []) ++ ptNb i r
      rw [ih]
theorem flatMap_set {α β : Type} (f : α → List β) : ∀ (l : List α) (k : Nat) (a : α), (∀ h : k < l.length, f a = f l[k]) → (l.set k a).flatMap f = l.flatMap f
  | [], _, _, _ => rfl
  | b :: r, 0, a, h => by
    have := h (by simp)
    simp only [List.getElem_cons_zero] at this
    simp [this]
  | b :: r, k + 1, a, h => by
    have ih := flatMap_set f r k a fun hk => by have := h (by simpa using hk); simpa using this
    simp [ih]
theorem map_set_same {α β : Type} (f : α → β) : ∀ (l : List α) (k : Nat) (a : α), (∀ h : k < l.length, f a = f l[k]) → (l.set k a).map f = l.map f
  | [], _, _, _ => rfl
  | b :: r, 0, a, h => by
    have := h (by simp)
    simp only [List.getElem_cons_zero] at this
    simp [this]
  | b :: r, k + 1, a, h => by
    have ih := map_set_same f r k a fun hk => by have := h (by simpa using hk); simpa using this
    simp [ih]
theorem cutPt_nbs {xs : List It} {p : Pt} (h : tailF xs p ≠ 0) : nbs (cutPt xs p).t.data.toList = nbs p.t.data.toList := by
  have hd : (cutPt xs p).t.data.toList = p.t.data.toList.dropLast := by simp [cutPt]
  have he : endsF xs p = true := by
    unfold tailF at h
    by_cases he : endsF xs p = true
    · exact he
    · rw [if_neg (by simp [he])] at h; exact absurd rfl h
  have hsp : p.t.data.toList.getLast? = some 32 := by
    unfold endsF spaceEnd at he
    rw [Bool.and_eq_true] at he
    simpa using he.2
  rw [hd]
  conv => rhs; rw [last_split hsp, nbs_append]
  simp [nbs]
theorem trim_same (xs : List It) (line : List Pt) (i : Nat) : ptNb i (trimF xs line) = ptNb i line ∧ (trimF xs line).map (·.i) = line.map (·.i) := by
  unfold trimF
  simp only
  split
  · exact ⟨rfl, rfl⟩
  · split
    · exact ⟨rfl, rfl⟩
    · rename_i h1 h2
      refine ⟨flatMap_set _ _ _ _ fun h => ?_, map_set_same _ _ _ _ fun h => ?_⟩
      · rw [ptAt_of line _ h] at h2 ⊢
        rw [cutPt_nbs h2]; rfl
      · rw [ptAt_of line _ h]; rfl
theorem trim_ptt {xs : List It} {line : List Pt} (h : ∀ p ∈ line, PtT xs p) : ∀ p ∈ trimF xs line, PtT xs p := by
  unfold trimF
  simp only
  split
  · exact h
  · split
    · exact h
    · rename_i h1 h2
      intro p hp
      rcases List.mem_or_eq_of_mem_set hp with hp | rfl
      · exact h p hp
      · intro hk
        exfalso
        apply hk
        have h3 : ¬ pKind xs (ptAt line (solidTo xs line line.length - 1)) ≠ 1 := fun h4 => h2 (tail_zero xs _ h4)
        have h4 : pKind xs (ptAt line (solidTo xs line line.length - 1)) = 1 := Decidable.not_not.1 h3
        exact h4
theorem told_none {xs : List It} {line : List Pt} (h : ∀ p ∈ line, PtT xs p) (hn : ¬ line.any (toldF xs) = true) (i : Nat) : ptNb i line = [] := by
  unfold ptNb
  rw [List.flatMap_eq_nil_iff]
  intro p hp
  have hk : pKind xs p ≠ 1 := fun hk => hn (List.any_eq_true.2 ⟨p, hp, by unfold toldF; rw [hk]; rfl⟩)
  rw [h p hp hk]
  split <;> rfl
theorem clean_nb (xs : List It) (i : Nat) : ∀ (g : List Pt) (f : Bool), ptNb i (cleanF xs f g) = ptNb i g
  | [], _ => rfl
  | p :: r, f => by
    simp only [cleanF]
    by_cases h : (!f && (collF xs p && isSp p.t)) = true
    · rw [if_pos h, clean_nb xs i r f]
      have hs : p.t.data.toList = [32] := by
        simp only [Bool.and_eq_true] at h
        have h3 := h.2.2
        unfold isSp at h3
        rw [← ByteArray.toList_eq]
        simpa using h3
      show ptNb i r = (if p.i = i then nbs p.t.data.toList else []) ++ ptNb i r
      rw [hs]
      split <;> rfl
    · rw [if_neg h]
      show (if p.i = i then nbs p.t.data.toList else []) ++ ptNb i _ = (if p.i = i then nbs p.t.data.toList else []) ++ ptNb i r
      rw [clean_nb xs i r _]
/-! The lines: one below the other. -/
def ln0 : Ln := ⟨0, 0, 0, 0, 0, [], false⟩
def lnAt (out : List Ln) (k : Nat) : Ln := out.getD k ln0
theorem lnAt_of (out : List Ln) (k : Nat) (h : k < out.length) : lnAt out k = out[k] := by simp [lnAt, List.getD, List.getElem?_eq_getElem h]
def yAt (out : List Ln) : Nat → Int
  | 0 => 0
  | k + 1 => min ((lnAt out k).y + (lnAt out k).h) 16777216
def YOk (out : List Ln) : Prop := ∀ k, k < out.length → 0 ≤ (lnAt out k).h ∧ yAt out k ≤ (lnAt out k).y
theorem lnAt_left (out : List Ln) (l : Ln) (k : Nat) (h : k < out.length) : lnAt (out ++ [l]) k = lnAt out k := by simp [lnAt, List.getD, List.getElem?_append_left h]
theorem lnAt_last (out : List Ln) (l : Ln) : lnAt (out ++ [l]) out.length = l := by simp [lnAt, List.getD]
theorem yAt_left (out : List Ln) (l : Ln) (k : Nat) (h : k ≤ out.length) : yAt (out ++ [l]) k = yAt out k := by
  cases k with
  | zero => rfl
  | succ k => simp only [yAt]; rw [lnAt_left out l k (by omega)]
theorem yok_snoc {out : List Ln} {l : Ln} (h : YOk out) (h1 : yAt out out.length ≤ l.y) (h2 : 0 ≤ l.h) : YOk (out ++ [l]) := by
  intro k hk
  rw [List.length_append, List.length_singleton] at hk
  by_cases e : k < out.length
  · rw [lnAt_left out l k e, yAt_left out l k (by omega)]
    exact h k e
  · obtain rfl : k = out.length := by omega
    rw [lnAt_last, yAt_left out l _ (Nat.le_refl _)]
    exact ⟨h2, h1⟩
structure InvA (xs : List It) (st : BG) (done : List Pt) : Prop where
  nb : ∀ i, pcNb i (pcsOut st.out) ++ ptNb i st.line = ptNb i done
  sub : ((pcsOut st.out).map (·.item) ++ st.line.map (fun p => (p.i : Int))).Sublist (done.map fun p => (p.i : Int))
  nofl : ∀ c ∈ pcsOut st.out, ∃ p ∈ done, c.item = (p.i : Int) ∧ floatP xs p = false
  mem : ∀ p ∈ st.line, p ∈ done
  y0 : 0 ≤ st.y
  yc : YOk st.out
  yl : yAt st.out st.out.length ≤ cut st.y
section
variable {xs : List It} {sz ht al W : Int}
theorem inv_tell {st : BG} {done : List Pt} (hd : ∀ p ∈ done, PtT xs p) (h : InvA xs st done) (last : Bool) :
    (∀ i, pcNb i (pcsOut (tellG xs sz ht al last st).out) = ptNb i done) ∧ ((pcsOut (tellG xs sz ht al last st).out).map (·.item)).Sublist (done.map fun p => (p.i : Int)) ∧
    (∀ c ∈ pcsOut (tellG xs sz ht al last st).out, ∃ p ∈ done, c.item = (p.i : Int) ∧ floatP xs p = false) ∧ 0 ≤ (tellG xs sz ht al last st).y ∧ YOk (tellG xs sz ht al last st).out ∧
    yAt (tellG xs sz ht al last st).out (tellG xs sz ht al last st).out.length ≤ cut (tellG xs sz ht al last st).y := by
  have hl : ∀ p ∈ st.line, PtT xs p := fun p hp => hd p (h.mem p hp)
  unfold tellG
  by_cases ht' : st.line.any (toldF xs) = true
  · rw [if_pos ht']
    simp only [pcsOut_snoc, pcNb_append, List.map_append]
    have hkey : (lnOf xs sz ht al st.y st.left st.right st.line last).pcs.map (fun c => (c.item, c.t)) = ((trimF xs st.line).filter (fun p => !floatP xs p)).map (fun p => ((p.i : Int), p.t)) := by
      show ((toldTo xs al st.left st.right st.line last).2).map _ = _
      unfold toldTo
      rw [tell_key xs _ _ _ (Nat.le_refl _), List.take_length]
    have hi : (lnOf xs sz ht al st.y st.left st.right st.line last).pcs.map (·.item) = ((trimF xs st.line).filter (fun p => !floatP xs p)).map (fun p => (p.i : Int)) := by
      have := congrArg (List.map Prod.fst) hkey
      simpa [List.map_map, Function.comp_def] using this
    have hmi : (trimF xs st.line).map (fun p => (p.i : Int)) = st.line.map (fun p => (p.i : Int)) := by
      have := congrArg (List.map (fun (n : Nat) => (n : Int))) (trim_same xs st.line 0).2
      simpa [List.map_map, Function.comp_def] using this
    have hh : 0 ≤ highF xs sz ht st.line := by unfold highF; omega
    have hy0 := h.y0
    refine ⟨fun i => ?_, ?_, ?_, ?_, ?_, ?_⟩
    · rw [pcNb_key i (lnOf _ _ _ _ _ _ _ _ _).pcs, hkey, ← h.nb i]
      congr 1
      rw [List.flatMap_map]
      have e : (fun p : Pt => kNb i ((p.i : Int), p.t)) = fun p => if p.i = i then nbs p.t.data.toList else [] := by
        funext p
        unfold kNb
        by_cases hp : p.i = i
        · rw [if_pos hp, if_pos (by rw [hp])]
        · rw [if_neg hp, if_neg (by omega)]
      rw [e]
      show ptNb i _ = _
      rw [ptNb_noFloat i _ (trim_ptt hl), (trim_same xs st.line i).1]
    · rw [hi]
      refine List.Sublist.trans (List.Sublist.append_left ?_ _) h.sub
      rw [← hmi]
      exact (List.filter_sublist).map _
    · intro c hc
      rcases List.mem_append.1 hc with hc | hc
      · exact h.nofl c hc
      · have h1 : c.item ∈ (lnOf xs sz ht al st.y st.left st.right st.line last).pcs.map (·.item) := List.mem_map_of_mem hc
        rw [hi] at h1
        obtain ⟨q, hq, he⟩ := List.mem_map.1 h1
        obtain ⟨hq1, hq2⟩ := List.mem_filter.1 hq
        have h2 : q.i ∈ (trimF xs st.line).map (·.i) := List.mem_map_of_mem hq1
        rw [(trim_same xs st.line 0).2] at h2
        obtain ⟨p, hp, hpi⟩ := List.mem_map.1 h2
        refine ⟨p, h.mem p hp, by rw [hpi]; exact he.symm, ?_⟩
        have : floatP xs p = floatP xs q := by unfold floatP pKind; rw [hpi]
        rw [this]
        simpa using hq2
    · omega
    · refine yok_snoc h.yc h.yl ?_
      show 0 ≤ cut (highF xs sz ht st.line)
      unfold cut; omega
    · rw [List.length_append, List.length_singleton]
      simp only [yAt]
      rw [lnAt_last]
      show min (cut st.y + cut (highF xs sz ht st.line)) 16777216 ≤ cut (st.y + highF xs sz ht st.line)
      unfold cut; omega
  · rw [if_neg ht']
    refine ⟨fun i => ?_, ?_, h.nofl, h.y0, h.yc, h.yl⟩
    · rw [← h.nb i, told_none hl ht' i, List.append_nil]
    · exact (List.sublist_append_left _ _).trans h.sub
theorem inv_end {st st' : BG} {done : List Pt} (hd : ∀ p ∈ done, PtT xs p) (h : InvA xs st done) {last : Bool} (e : EndR xs sz ht al W last st st') : InvA xs st' done ∧ st'.line = [] := by
  obtain ⟨fs, _, rfl⟩ := e
  obtain ⟨h1, h2, h3, h4, h5, h6⟩ := inv_tell hd h (sz := sz) (ht := ht) (al := al) last
  refine ⟨⟨fun i => ?_, ?_, h3, (fun p hp => by cases hp), h4, h5, h6⟩, rfl⟩
  · show pcNb i (pcsOut (tellG xs sz ht al last st).out) ++ [] = _
    rw [List.append_nil]; exact h1 i
  · show ((pcsOut (tellG xs sz ht al last st).out).map (fun c : Pc => c.item) ++ []).Sublist _
    rw [List.append_nil]; exact h2
theorem lowF_gt (y : Int) (fs : List Fl) : lowF y fs = 16777217 ∨ y < lowF y fs := by
  unfold lowF
  suffices H : ∀ a : Int, a = 16777217 ∨ y < a → fs.foldl (lowStep y) a = 16777217 ∨ y < fs.foldl (lowStep y) a from H 16777217 (.inl rfl)
  induction fs with
  | nil => intro a h; exact h
  | cons f fs ih =>
    intro a h
    refine ih _ ?_
    unfold lowStep
    split
    · rename_i h1
      rcases h with h | h
      · by_cases h2 : f.y + f.h ≤ 16777217
        · right; omega
        · left; omega
      · right; omega
    · exact h
theorem noLow_y {st : BG} (h : noLow W st = false) : st.y < lowF st.y st.fs ∧ lowF st.y st.fs ≤ 16777216 := by
  unfold noLow at h
  rw [Bool.or_eq_false_iff] at h
  have h1 := of_decide_eq_false h.1
  have := lowF_gt st.y st.fs
  omega
theorem inv_steps {st st' : BG} {g done : List Pt} (hd : ∀ p ∈ done, PtT xs p) (h : InvA xs st done) (e : Steps xs sz ht al W g st st') : InvA xs st' done := by
  induction e with
  | refl => exact h
  | snoc _ k ih =>
    rcases k.2 with ⟨_, k2⟩ | ⟨_, k2, rfl⟩
    · exact (inv_end hd ih k2).1
    · have hy := noLow_y k2
      have y0 := ih.y0
      refine ⟨ih.nb, ih.sub, ih.nofl, ih.mem, ?_, ih.yc, Int.le_trans ih.yl (cut_mono ?_)⟩
      · show 0 ≤ lowF _ _; omega
      · show _ ≤ lowF _ _; omega
theorem inv_put {st st' : BG} {g done : List Pt} (hd : ∀ p ∈ done ++ g, PtT xs p) (h : InvA xs st done) (e : PutR xs sz ht al W st g st') : InvA xs st' (done ++ g) := by
  obtain ⟨s1, s2, e1, _, e3, e4⟩ := e
  have h1 := inv_steps (fun p hp => hd p (by simp [hp])) h e1
  generalize hc : cleanF xs s1.full g = c at e3 e4
  have hsub : c.Sublist g := by rw [← hc]; exact cleanF_sub xs g _
  have h2 : InvA xs (addLn xs s2 c) (done ++ g) := by
    have key : s2.y = s1.y ∧ s2.line = s1.line ∧ s2.out = s1.out := by
      rcases e3 with ⟨_, rfl⟩ | ⟨_, ⟨_, rfl⟩ | ⟨_, fs, rfl⟩⟩ <;> exact ⟨rfl, rfl, rfl⟩
    obtain ⟨k1, k2, k3⟩ := key
    refine ⟨fun i => ?_, ?_, fun q hq => ?_, fun p hp => ?_, ?_, ?_, ?_⟩
    · show pcNb i (pcsOut s2.out) ++ ptNb i (s2.line ++ c) = _
      rw [k2, k3, ptNb_append, ptNb_append, ← List.append_assoc, h1.nb i, ← hc, clean_nb]
    · show ((pcsOut s2.out).map (·.item) ++ (s2.line ++ c).map (fun p => (p.i : Int))).Sublist _
      rw [k2, k3, List.map_append, List.map_append, ← List.append_assoc]
      exact h1.sub.append (hsub.map _)
    · have hq' : q ∈ pcsOut s1.out := by rw [← k3]; exact hq
      obtain ⟨p, hp, e5⟩ := h1.nofl q hq'
      exact ⟨p, by simp [hp], e5⟩
    · have hp' : p ∈ s1.line ++ c := by rw [← k2]; exact hp
      rcases List.mem_append.1 hp' with hp' | hp'
      · exact List.mem_append_left _ (h1.mem p hp')
      · exact List.mem_append_right _ (hsub.mem hp')
    · show 0 ≤ s2.y; rw [k1]; exact h1.y0
    · show YOk s2.out; rw [k3]; exact h1.yc
    · show yAt s2.out s2.out.length ≤ cut s2.y; rw [k1, k3]; exact h1.yl
  rcases e4 with ⟨_, e4⟩ | ⟨_, rfl⟩
  · exact (inv_end hd h2 e4).1
  · exact h2
theorem inv_run {st st' : BG} {gs : List (List Pt)} {done : List Pt} (h : InvA xs st done) (e : RunR xs sz ht al W st gs st') (hd : ∀ p ∈ done ++ gs.flatten, PtT xs p) : InvA xs st' (done ++ gs.flatten) := by
  induction e with
  | nil => simpa using h
  | snoc _ k ih =>
    rw [List.flatten_append] at hd ⊢
    have h1 := ih fun p hp => hd p (by simp only [List.mem_append] at hp ⊢; rcases hp with hp | hp <;> simp [hp])
    rw [← List.append_assoc] at hd ⊢
    simp only [List.flatten_cons, List.flatten_nil, List.append_nil] at hd ⊢
    exact inv_put hd h1 k
theorem lastLn_pcs (out : List Ln) : pcsOut (lastLn out) = pcsOut out ∧ (lastLn out).length = out.length ∧ ∀ k, (lnAt (lastLn out) k).y = (lnAt out k).y ∧ (lnAt (lastLn out) k).h = (lnAt out k).h := by
  unfold lastLn
  cases hl : out.getLast? with
  | none =>
    obtain rfl : out = [] := by simpa using hl
    exact ⟨rfl, rfl, fun k => ⟨rfl, rfl⟩⟩
  | some x =>
    have hne : out ≠ [] := by intro e; rw [e] at hl; cases hl
    have hx : out = out.dropLast ++ [x] := by
      have := List.dropLast_concat_getLast hne
      rw [List.getLast?_eq_some_getLast hne] at hl
      injection hl with hl
      rw [hl] at this
      exact this.symm
    generalize out.dropLast = o at hx
    subst hx
    simp only
    refine ⟨by rw [pcsOut_snoc, pcsOut_snoc], by simp, fun k => ?_⟩
    by_cases hk : k < o.length
    · rw [lnAt_left _ _ _ hk, lnAt_left _ _ _ hk]; exact ⟨rfl, rfl⟩
    · by_cases hk2 : k = o.length
      · subst hk2; rw [lnAt_last, lnAt_last]; exact ⟨rfl, rfl⟩
      · have e1 : ∀ y : Ln, lnAt (o ++ [y]) k = ln0 := fun y => by
          unfold lnAt List.getD
          rw [List.getElem?_eq_none (by simp; omega)]; rfl
        rw [e1, e1]; exact ⟨rfl, rfl⟩
theorem yAt_congr {a b : List Ln} (h : ∀ k, (lnAt a k).y = (lnAt b k).y ∧ (lnAt a k).h = (lnAt b k).h) (k : Nat) : yAt a k = yAt b k := by
  cases k with
  | zero => rfl
  | succ k => simp only [yAt]; rw [(h k).1, (h k).2]
theorem segs_flat (xs : List It) (ps : List Pt) (k : Nat) (hk : k ≤ ps.length) : ((groupsTo xs ps k).1.map (segP ps)).flatten = ps.take (groupsTo xs ps k).2 := by
  induction k with
  | zero => simp [groupsTo]
  | succ k ih =>
    have h1 := ih (by omega)
    have h2 := (groups_ok xs ps k (by omega)).1
    simp only [groupsTo]
    split
    · rw [List.map_append, List.flatten_append, h1, List.map_cons, List.map_nil, List.flatten_cons, List.flatten_nil, List.append_nil]
      unfold segP
      simp only
      rw [← List.take_add, show (groupsTo xs ps k).2 + (k + 1 - (groupsTo xs ps k).2) = k + 1 by omega]
    · exact h1
theorem segs_all (xs : List It) : (segsF xs).flatten = partsTo xs xs.length := by
  unfold segsF
  generalize partsTo xs xs.length = ps
  rw [segs_flat xs ps _ (Nat.le_refl _)]
  cases hn : ps.length with
  | zero => rw [List.eq_nil_of_length_eq_zero hn]; rfl
  | succ n =>
    have hc : cutsAt xs ps (n + 1) = true := by unfold cutsAt; simp [hn]
    simp only [groupsTo]
    rw [if_pos hc, ← hn, List.take_length]
theorem partsOf_i (i : Nat) (x : It) : ∀ p ∈ partsOf i x, p.i = i := by
  intro p hp
  unfold partsOf at hp
  split at hp
  · exact (textParts_mem i x _ _ p hp).1
  · split at hp
    · simp at hp; rw [hp]
    · split at hp <;> (simp at hp; rw [hp])
theorem parts_i (xs : List It) (n : Nat) : (∀ p ∈ partsTo xs n, p.i < n) ∧ ((partsTo xs n).map fun p => (p.i : Int)).Pairwise (· ≤ ·) := by
  induction n with
  | zero => simp [partsTo]
  | succ n ih =>
    rw [partsTo_next]
    refine ⟨fun p hp => ?_, ?_⟩
    · rcases List.mem_append.1 hp with hp | hp
      · have := ih.1 p hp; omega
      · have := partsOf_i n _ p hp; omega
    · rw [List.map_append, List.pairwise_append]
      refine ⟨ih.2, ?_, ?_⟩
      · rw [List.pairwise_map, List.pairwise_iff_getElem]
        intro a b ha hb _
        have h1 := partsOf_i n _ _ (List.getElem_mem ha)
        have h2 := partsOf_i n _ _ (List.getElem_mem hb)
        omega
      · intro a ha b hb
        obtain ⟨p, hp, rfl⟩ := List.mem_map.1 ha
        obtain ⟨q, hq, rfl⟩ := List.mem_map.1 hb
        have h1 := ih.1 p hp
        have h2 := partsOf_i n _ q hq
        omega
theorem parts_t (xs : List It) (n : Nat) : ∀ p ∈ partsTo xs n, PtT xs p := by
  induction n with
  | zero => intro p hp; simp [partsTo] at hp
  | succ n ih =>
    rw [partsTo_next]
    intro p hp
    rcases List.mem_append.1 hp with hp | hp
    · exact ih p hp
    · have hi := partsOf_i n _ p hp
      intro hk
      unfold pKind at hk
      rw [hi] at hk
      unfold partsOf at hp
      rw [if_neg hk] at hp
      split at hp
      · simp at hp; rw [hp]; rfl
      · split at hp <;> (simp at hp; rw [hp]; rfl)
theorem ptNb_none {i : Nat} {l : List Pt} (h : ∀ p ∈ l, p.i ≠ i) : ptNb i l = [] := by
  unfold ptNb
  rw [List.flatMap_eq_nil_iff]
  intro p hp
  rw [if_neg (h p hp)]
theorem ptNb_text (i : Nat) (x : It) : ∀ (l : List ByteArray) (n : Nat), ptNb i (textParts i x n l) = nbs ((l.map (·.data.toList)).flatten)
  | [], _ => rfl
  | t :: r, n => by
    show (if i = i then nbs t.data.toList else []) ++ ptNb i (textParts i x (n - 1) r) = _
    rw [if_pos rfl, ptNb_text i x r (n - 1), List.map_cons, List.flatten_cons, nbs_append]
theorem parts_nb (xs : List It) (n i : Nat) (hi : i < n) (hk : (itAt xs i).kind = 1) : ptNb i (partsTo xs n) = nbs (itAt xs i).text.data.toList := by
  induction n with
  | zero => omega
  | succ n ih =>
    rw [partsTo_next, ptNb_append]
    by_cases e : i < n
    · rw [ih e, ptNb_none (l := partsOf n (itAt xs n)) fun p hp => by have := partsOf_i n _ p hp; omega, List.append_nil]
    · obtain rfl : i = n := by omega
      rw [ptNb_none (l := partsTo xs i) fun p hp => by have := (parts_i xs i).1 p hp; omega, List.nil_append]
      unfold partsOf
      rw [if_pos hk, ptNb_text, pieces_join]
/-- What the statement asks of the lines. -/
structure AllOk (xs : List It) (out : List Ln) : Prop where
  y : YOk out
  rise : ((pcsOut out).map (·.item)).Pairwise (· ≤ ·)
  item : ∀ c ∈ pcsOut out, ∃ i : Nat, c.item = (i : Int) ∧ i < xs.length ∧ (itAt xs i).kind ≠ 5
  text : ∀ i, i < xs.length → (itAt xs i).kind = 1 → pcNb i (pcsOut out) = nbs (itAt xs i).text.data.toList
theorem all_law {y ind : Int} {out : List Ln} (hy : 0 ≤ y) (e : BreakR xs sz ht al W y ind [] out) : AllOk xs out := by
  obtain ⟨s0, s1, e1, e2, e3⟩ := e
  have h0 : InvA xs s0 [] := by
    obtain ⟨fs, _, rfl⟩ := e1
    refine ⟨fun i => rfl, List.Sublist.refl _, fun c hc => (by cases hc), fun p hp => (by cases hp), hy, fun k hk => (by cases hk), ?_⟩
    show (0 : Int) ≤ cut y
    unfold cut; omega
  have ht := parts_t xs xs.length
  have h1 := inv_run h0 e2 (by rw [segs_all]; exact ht)
  rw [segs_all, List.nil_append] at h1
  have fin : ∀ o : List Ln, (∀ i, pcNb i (pcsOut o) = ptNb i (partsTo xs xs.length)) → ((pcsOut o).map (·.item)).Sublist ((partsTo xs xs.length).map fun p => (p.i : Int)) → (∀ c ∈ pcsOut o, ∃ p ∈ partsTo xs xs.length, c.item = (p.i : Int) ∧ floatP xs p = false) → YOk o → AllOk xs o := fun o a1 a2 a3 a4 => by
    refine ⟨a4, (parts_i xs xs.length).2.sublist a2, fun c hc => ?_, fun i hi hk => by rw [a1 i, parts_nb xs _ i hi hk]⟩
    obtain ⟨p, hp, e5, e6⟩ := a3 c hc
    refine ⟨p.i, e5, (parts_i xs xs.length).1 p hp, fun hk => ?_⟩
    unfold floatP pKind at e6
    rw [hk] at e6
    cases e6
  rcases e3 with ⟨_, st', k2, rfl⟩ | ⟨k1, rfl⟩
  · obtain ⟨h2, hl⟩ := inv_end ht h1 k2
    refine fin _ (fun i => ?_) ?_ h2.nofl h2.yc
    · have := h2.nb i
      rw [hl] at this
      rw [← this]; exact (List.append_nil _).symm
    · have := h2.sub
      rw [hl, List.map_nil, List.append_nil] at this
      exact this
  · obtain ⟨q1, q2, q3⟩ := lastLn_pcs s1.out
    refine fin _ (fun i => ?_) ?_ (by rw [q1]; exact h1.nofl) (fun k hk => ?_)
    · have := h1.nb i
      rw [k1] at this
      rw [q1, ← this]; exact (List.append_nil _).symm
    · have := h1.sub
      rw [k1, List.map_nil, List.append_nil] at this
      rw [q1]; exact this
    · rw [q2] at hk
      rw [(q3 k).1, (q3 k).2, yAt_congr q3]
      exact h1.yc k hk
end
end Go.Proofs.YtadlabndbomgmaaDoor
/- How many pieces lines have, and how long each is. No program in sight. -/
namespace Go.Proofs.YtadlabndbomgmaaDoor
section
variable {xs : List It} {sz ht al W : Int} (M : Nat)
theorem trim_size {line : List Pt} (h : ∀ p ∈ line, p.t.size ≤ M) : (∀ p ∈ trimF xs line, p.t.size ≤ M) ∧ (trimF xs line).length = line.length := by
  unfold trimF
  simp only
  split
  · exact ⟨h, rfl⟩
  · split
    · exact ⟨h, rfl⟩
    · rename_i h1 h2
      refine ⟨fun p hp => ?_, List.length_set⟩
      rcases List.mem_or_eq_of_mem_set hp with hp | rfl
      · exact h p hp
      · have hlt : solidTo xs line line.length - 1 < line.length := by
          have : ∀ k, solidTo xs line k ≤ k := fun k => by
            induction k with
            | zero => exact Nat.le_refl _
            | succ k ih => simp only [solidTo]; split <;> omega
          have := this line.length
          have h3 : line.length ≠ 0 := fun e => h1 (by rw [e]; rfl)
          omega
        have h4 := h _ (List.getElem_mem hlt)
        rw [← ptAt_of line _ hlt] at h4
        show ((ptAt line (solidTo xs line line.length - 1)).t.extract 0 _).size ≤ M
        rw [ByteArray.size_extract]
        omega
structure InvL (st : BG) (n : Nat) : Prop where
  out : ∀ c ∈ pcsOut st.out, c.t.size ≤ M
  line : ∀ p ∈ st.line, p.t.size ≤ M
  cnt : (pcsOut st.out).length + st.line.length ≤ n
theorem lenL_tell {st : BG} {n : Nat} (h : InvL M st n) (last : Bool) : (∀ c ∈ pcsOut (tellG xs sz ht al last st).out, c.t.size ≤ M) ∧ (pcsOut (tellG xs sz ht al last st).out).length ≤ n := by
  unfold tellG
  split
  · obtain ⟨t1, t2⟩ := trim_size M (xs := xs) h.line
    have hkey : (lnOf xs sz ht al st.y st.left st.right st.line last).pcs.map (fun c => (c.item, c.t)) = ((trimF xs st.line).filter (fun p => !floatP xs p)).map (fun p => ((p.i : Int), p.t)) := by
      show ((toldTo xs al st.left st.right st.line last).2).map _ = _
      unfold toldTo
      rw [tell_key xs _ _ _ (Nat.le_refl _), List.take_length]
    simp only [pcsOut_snoc]
    refine ⟨fun c hc => ?_, ?_⟩
    · rcases List.mem_append.1 hc with hc | hc
      · exact h.out c hc
      · have h1 : (c.item, c.t) ∈ (lnOf xs sz ht al st.y st.left st.right st.line last).pcs.map fun c => (c.item, c.t) := List.mem_map_of_mem hc
        rw [hkey] at h1
        obtain ⟨q, hq, he⟩ := List.mem_map.1 h1
        have h2 : q.t = c.t := congrArg Prod.snd he
        rw [← h2]
        exact t1 q (List.mem_filter.1 hq).1
    · have h1 := congrArg List.length hkey
      rw [List.length_map, List.length_map] at h1
      have h2 := List.length_filter_le (fun p => !floatP xs p) (trimF xs st.line)
      rw [List.length_append]
      have := h.cnt
      omega
  · exact ⟨h.out, Nat.le_trans (Nat.le_add_right _ _) h.cnt⟩
theorem lenL_end {st st' : BG} {n : Nat} (h : InvL M st n) {last : Bool} (e : EndR xs sz ht al W last st st') : InvL M st' n := by
  obtain ⟨fs, _, rfl⟩ := e
  obtain ⟨h1, h2⟩ := lenL_tell M (xs := xs) (sz := sz) (ht := ht) (al := al) h last
  exact ⟨h1, (fun p hp => by cases hp), h2⟩
theorem lenL_steps {st st' : BG} {g : List Pt} {n : Nat} (h : InvL M st n) (e : Steps xs sz ht al W g st st') : InvL M st' n := by
  induction e with
  | refl => exact h
  | snoc _ k ih =>
    rcases k.2 with ⟨_, k2⟩ | ⟨_, k2, rfl⟩
    · exact lenL_end M ih k2
    · exact ⟨ih.out, ih.line, ih.cnt⟩
theorem lenL_put {st st' : BG} {g : List Pt} {n : Nat} (hg : ∀ p ∈ g, p.t.size ≤ M) (h : InvL M st n) (e : PutR xs sz ht al W st g st') : InvL M st' (n + g.length) := by
  obtain ⟨s1, s2, e1, _, e3, e4⟩ := e
  have h1 := lenL_steps M h e1
  generalize hc : cleanF xs s1.full g = c at e3 e4
  have hsub : c.Sublist g := by rw [← hc]; exact cleanF_sub xs g _
  have h2 : InvL M (addLn xs s2 c) (n + g.length) := by
    have key : s2.line = s1.line ∧ s2.out = s1.out := by
      rcases e3 with ⟨_, rfl⟩ | ⟨_, ⟨_, rfl⟩ | ⟨_, fs, rfl⟩⟩ <;> exact ⟨rfl, rfl⟩
    obtain ⟨k2, k3⟩ := key
    refine ⟨fun q hq => ?_, fun p hp => ?_, ?_⟩
    · have hq' : q ∈ pcsOut s1.out := by rw [← k3]; exact hq
      exact h1.out q hq'
    · have hp' : p ∈ s1.line ++ c := by rw [← k2]; exact hp
      rcases List.mem_append.1 hp' with hp' | hp'
      · exact h1.line p hp'
      · exact hg p (hsub.mem hp')
    · show (pcsOut s2.out).length + (s2.line ++ c).length ≤ _
      rw [k2, k3, List.length_append]
      have := h1.cnt
      have := hsub.length_le
      omega
  rcases e4 with ⟨_, e4⟩ | ⟨_, rfl⟩
  · exact lenL_end M h2 e4
  · exact h2
theorem lenL_run {st st' : BG} {gs : List (List Pt)} {n : Nat} (h : InvL M st n) (e : RunR xs sz ht al W st gs st') (hd : ∀ p ∈ gs.flatten, p.t.size ≤ M) : InvL M st' (n + gs.flatten.length) := by
  induction e with
  | nil => simpa using h
  | snoc _ k ih =>
    rw [List.flatten_append] at hd
    have h1 := ih fun p hp => hd p (by simp [hp])
    have h2 := lenL_put M (fun p hp => hd p (by simp [hp])) h1 k
    rw [List.flatten_append, List.length_append]
    simpa [Nat.add_assoc] using h2
/-- How many pieces, how long. -/
theorem len_law {y ind : Int} {out : List Ln} (hp : ∀ p ∈ partsTo xs xs.length, p.t.size ≤ M) (e : BreakR xs sz ht al W y ind [] out) : (∀ c ∈ pcsOut out, c.t.size ≤ M) ∧ (pcsOut out).length ≤ (partsTo xs xs.length).length := by
  obtain ⟨s0, s1, e1, e2, e3⟩ := e
  have h0 : InvL M s0 0 := by
    obtain ⟨fs, _, rfl⟩ := e1
    exact ⟨fun c hc => (by cases hc), fun p hp => (by cases hp), Nat.le_refl _⟩
  have h1 := lenL_run M h0 e2 (by rw [segs_all]; exact hp)
  rw [segs_all, Nat.zero_add] at h1
  rcases e3 with ⟨_, st', k2, rfl⟩ | ⟨k1, rfl⟩
  · have h2 := lenL_end M h1 k2
    exact ⟨h2.out, Nat.le_trans (Nat.le_add_right _ _) h2.cnt⟩
  · rw [(lastLn_pcs s1.out).1]
    exact ⟨h1.out, Nat.le_trans (Nat.le_add_right _ _) h1.cnt⟩
/-- Bounds of lines. -/
def LnB (l : Ln) : Prop := l.y ≤ 16777216 ∧ l.h ≤ 16777216 ∧ -16777216 ≤ l.y
theorem lnOf_bd (y left right : Int) (line : List Pt) (last : Bool) : LnB (lnOf xs sz ht al y left right line last) := by
  unfold LnB lnOf
  simp only
  unfold cut
  omega
def OutB (st : BG) : Prop := ∀ l ∈ st.out, LnB l
theorem outB_end {st st' : BG} {last : Bool} (h : OutB st) (e : EndR xs sz ht al W last st st') : OutB st' := by
  obtain ⟨fs, _, rfl⟩ := e
  show ∀ l ∈ (tellG xs sz ht al last st).out, LnB l
  unfold tellG
  split
  · intro l hl
    rcases List.mem_append.1 hl with hl | hl
    · exact h l hl
    · obtain rfl := List.mem_singleton.1 hl
      exact lnOf_bd _ _ _ _ _
  · exact h
theorem outB_steps {st st' : BG} {g : List Pt} (h : OutB st) (e : Steps xs sz ht al W g st st') : OutB st' := by
  induction e with
  | refl => exact h
  | snoc _ k ih =>
    rcases k.2 with ⟨_, k2⟩ | ⟨_, k2, rfl⟩
    · exact outB_end ih k2
    · exact ih
theorem outB_put {st st' : BG} {g : List Pt} (h : OutB st) (e : PutR xs sz ht al W st g st') : OutB st' := by
  obtain ⟨s1, s2, e1, _, e3, e4⟩ := e
  have h1 := outB_steps h e1
  have h2 : OutB (addLn xs s2 (cleanF xs s1.full g)) := by
    have key : s2.out = s1.out := by
      rcases e3 with ⟨_, rfl⟩ | ⟨_, ⟨_, rfl⟩ | ⟨_, fs, rfl⟩⟩ <;> rfl
    show ∀ l ∈ s2.out, LnB l
    rw [key]; exact h1
  rcases e4 with ⟨_, e4⟩ | ⟨_, rfl⟩
  · exact outB_end h2 e4
  · exact h2
theorem outB_run {st st' : BG} {gs : List (List Pt)} (h : OutB st) (e : RunR xs sz ht al W st gs st') : OutB st' := by
  induction e with
  | nil => exact h
  | snoc _ k ih => exact outB_put ih k
theorem bd_law {y ind : Int} {out : List Ln} (e : BreakR xs sz ht al W y ind [] out) (k : Nat) (hk : k < out.length) : LnB (lnAt out k) := by
  obtain ⟨s0, s1, e1, e2, e3⟩ := e
  have h0 : OutB s0 := by
    obtain ⟨fs, _, rfl⟩ := e1
    exact fun l hl => (by cases hl)
  have h1 := outB_run h0 e2
  rcases e3 with ⟨_, st', k2, rfl⟩ | ⟨_, rfl⟩
  · have h2 := outB_end h1 k2
    rw [lnAt_of _ k hk]
    exact h2 _ (List.getElem_mem hk)
  · obtain ⟨_, q2, q3⟩ := lastLn_pcs s1.out
    rw [q2] at hk
    have h2 := h1 _ (List.getElem_mem hk)
    rw [← lnAt_of _ k hk] at h2
    unfold LnB at h2 ⊢
    rw [(q3 k).1, (q3 k).2]
    exact h2
end
end Go.Proofs.YtadlabndbomgmaaDoor
/- Texts without their blanks, gathered from pieces. No program in sight. -/
namespace Go.Proofs.YtadlabndbomgmaaDoor
open Go.Lib
theorem index_cons_ne (b : UInt8) (l : List UInt8) (h : b ≠ 32) : index (b :: l) [32] = if index l [32] == -1 then -1 else index l [32] + 1 := by
  have hp : List.isPrefixOf [32] (b :: l) = false := by
    simp [List.isPrefixOf]; exact fun e => h e.symm
  rw [index, hp]
  simp
theorem index_cons_eq (l : List UInt8) : index (32 :: l) [32] = 0 := by
  rw [index]
  simp [List.isPrefixOf]
theorem replaceK_ne (b : UInt8) (h : b ≠ 32) : ∀ (k : Nat) (l : List UInt8), replaceK [32] [] k (b :: l) = b :: replaceK [32] [] k l
  | 0, _ => rfl
  | k + 1, l => by
    have hi := index_cons_ne b l h
    rw [replaceK, replaceK]
    by_cases hm : index l [32] = -1
    · have h1 : index (b :: l) [32] = -1 := by rw [hi, hm]; rfl
      rw [h1, hm]; rfl
    · have hge := index_ge l [32]
      have h1 : index (b :: l) [32] = index l [32] + 1 := by rw [hi, if_neg (by simpa using hm)]
      have h2 : ¬ (index (b :: l) [32] == -1) = true := by rw [h1]; simp; omega
      have h3 : ¬ (index l [32] == -1) = true := by simpa using hm
      rw [if_neg h2, if_neg h3, h1]
      have h4 : (index l [32] + 1).toNat = (index l [32]).toNat + 1 := by omega
      rw [h4]
      simp [Nat.add_right_comm]
theorem replaceK_all : ∀ s : List UInt8, replaceK [32] [] (count s [32]) s = nbs s
  | [] => rfl
  | b :: l => by
    by_cases h : b = 32
    · subst h
      rw [count_cons_eq, Nat.add_comm, replaceK, index_cons_eq, if_neg (by decide)]
      show replaceK [32] [] (count l [32]) l = _
      rw [replaceK_all l]; rfl
    · rw [count_cons_ne b 32 l h, replaceK_ne b h, replaceK_all l]
      show _ = (b :: l).filter _
      rw [List.filter_cons_of_pos (by simpa using h)]; rfl
theorem replaceAll_nbs (s : List UInt8) : replaceAll s [32] [] = nbs s := by
  unfold replaceAll replace
  rw [if_neg (by decide)]
  have h : replaceNum s [32] (-1) = count s [32] := by unfold replaceNum; rw [if_pos (.inl (by decide))]
  rw [h]
  exact replaceK_all s
/-- What is written of an item, in the pieces so far. -/
def txTo (P : List Pc) (i : Nat) : List UInt8 := P.flatMap fun c => if c.item = (i : Int) then c.t.data.toList else []
theorem txTo_snoc (P : List Pc) (c : Pc) (i : Nat) : txTo (P ++ [c]) i = txTo P i ++ if c.item = (i : Int) then c.t.data.toList else [] := by simp [txTo]
theorem nbs_txTo (i : Nat) : ∀ P : List Pc, nbs (txTo P i) = pcNb i P
  | [] => rfl
  | c :: P => by
    have h : txTo (c :: P) i = (if c.item = (i : Int) then c.t.data.toList else []) ++ txTo P i := by simp [txTo]
    rw [h, nbs_append, nbs_txTo i P]
    show _ = kNb i (c.item, c.t) ++ pcNb i P
    unfold kNb
    simp only
    split <;> rfl
theorem txTo_len (i : Nat) : ∀ P : List Pc, (∀ c ∈ P, c.t.size ≤ 200) → (txTo P i).length ≤ 200 * P.length
  | [], _ => Nat.le_refl _
  | c :: P, h => by
    have h1 := txTo_len i P fun d hd => h d (by simp [hd])
    have h2 := h c (by simp)
    have e : txTo (c :: P) i = (if c.item = (i : Int) then c.t.data.toList else []) ++ txTo P i := by simp [txTo]
    rw [e, List.length_append, List.length_cons]
    split
    · have : c.t.data.toList.length = c.t.size := by rw [Array.length_toList]; rfl
      omega
    · simp; omega
/-- The pieces of the first k lines, and the first j of the next one. -/
def pcKJ (out : List Ln) (k j : Nat) : List Pc := pcsOut (out.take k) ++ (lnAt out k).pcs.take j
def pcDef : Pc := ⟨0, 0, 0, ByteArray.empty⟩
theorem pcKJ_zero (out : List Ln) (k : Nat) : pcKJ out k 0 = pcsOut (out.take k) := by simp [pcKJ]
theorem pcKJ_succ (out : List Ln) (k j : Nat) (h : j < (lnAt out k).pcs.length) : pcKJ out k (j + 1) = pcKJ out k j ++ [(lnAt out k).pcs.getD j pcDef] := by
  unfold pcKJ
  rw [List.take_succ_eq_append_getElem h, List.append_assoc]
  congr 2
  simp [List.getD, List.getElem?_eq_getElem h]
theorem pcKJ_line (out : List Ln) (k : Nat) (h : k < out.length) : pcKJ out k (lnAt out k).pcs.length = pcKJ out (k + 1) 0 := by
  rw [pcKJ_zero]
  unfold pcKJ
  rw [List.take_length, List.take_succ_eq_append_getElem h, pcsOut_snoc, lnAt_of out k h]
theorem pcKJ_end (out : List Ln) : pcKJ out out.length 0 = pcsOut out := by rw [pcKJ_zero, List.take_length]
theorem pcKJ_pre (out : List Ln) (k j : Nat) (h : k < out.length) : ∃ r, pcsOut out = pcKJ out k j ++ r := by
  refine ⟨(lnAt out k).pcs.drop j ++ pcsOut (out.drop (k + 1)), ?_⟩
  have e : out = out.take k ++ (out[k] :: out.drop (k + 1)) := by rw [← List.drop_eq_getElem_cons h, List.take_append_drop]
  conv => lhs; rw [e]
  unfold pcKJ pcsOut
  rw [List.flatMap_append, List.flatMap_cons, lnAt_of out k h, List.append_assoc]
  congr 1
  rw [← List.append_assoc, List.take_append_drop]
end Go.Proofs.YtadlabndbomgmaaDoor
/- Operations of a region may be taken first although a later one (number k) writes what they read, where k waits for them. No program in sight. -/
namespace Go.Proofs.YtadlabndbomgmaaDoor
open Go.RowKit
section
variable {P : Program} {ops : Array Oper} {Q : Exit → Act → World → Prop} {md : Region.Mode} {S : World → Prop} {k : Nat}
/-- Whatever order is picked, and S holds behind every operation as long as number k has not come up. -/
def wpAnyK (P : Program) (md : Region.Mode) (ops : Array Oper) (Q : Exit → Act → World → Prop) (S : World → Prop) (k : Nat) : Nat → Array Bool → Act → World → Prop
  | 0, l, a, w => Region.ready md ops l = [] ∧ Q .normal a w
  | f + 1, l, a, w => (Region.ready md ops l = [] → Q .normal a w) ∧
      ∀ i ∈ Region.ready md ops l, wpOp P ops Q i (fun a' w' => ((l.setIfInBounds i true).getD k true = false → S w') ∧ wpAnyK P md ops Q S k f (l.setIfInBounds i true) a' w') a w
theorem wpAny_of_K : ∀ (f : Nat) (l : Array Bool) (a : Act) (w : World), wpAnyK P md ops Q S k f l a w → wpAny P md ops Q f l a w
  | 0, _, _, _, h => h
  | f + 1, _, _, _, h => ⟨h.1, fun i hi => wpOp_mono (fun a' w' h' => wpAny_of_K f _ a' w' h'.2) (h.2 i hi)⟩
theorem wp_region_K {id : Nat} {a : Act} {w : World} (hm : P.follows .mixedOrders = true) (hS : S w.drew)
    (h : S w.drew → wpAnyK P .any ops Q S k ops.size (Array.replicate ops.size false) a w.drew) : (Code.region id ops true).wp P Q a w :=
  wp_region_any hm (wpAny_of_K _ _ _ _ (h hS))
theorem wp_region_KL {id : Nat} {a : Act} {w : World} (n : Nat) (l : Array Bool) (hn : ops.size = n) (hl : Array.replicate n false = l) (hm : P.follows .mixedOrders = true) (hS : S w.drew)
    (h : S w.drew → wpAnyK P .any ops Q S k n l a w.drew) : (Code.region id ops true).wp P Q a w := by
  subst hn hl
  exact wp_region_K hm hS h
/-- D: operations that have not come up and wait for i. -/
def Waits (md : Region.Mode) (ops : Array Oper) (l : Array Bool) (i : Nat) (D : List Nat) : Prop :=
  ∀ d ∈ D, l.getD d true = false ∧ ∃ o e, ops[d]? = some o ∧ e ∈ o.after ∧ Region.binds md e = true ∧ (e.on = i ∨ e.on ∈ D)
def waitsB (md : Region.Mode) (ops : Array Oper) (l : Array Bool) (i : Nat) (D : List Nat) : Bool :=
  D.all fun d => !(l.getD d true) && (match ops[d]? with | some o => o.after.any (fun e => Region.binds md e && (e.on == i || D.contains e.on)) | none => false)
theorem waits_of {l : Array Bool} {i : Nat} {D : List Nat} (h : waitsB md ops l i D = true) : Waits md ops l i D := by
  intro d hd
  have h1 := List.all_eq_true.1 h d hd
  rw [Bool.and_eq_true] at h1
  obtain ⟨h2, h3⟩ := h1
  refine ⟨by simpa using h2, ?_⟩
  cases ho : ops[d]? with
  | none => rw [ho] at h3; cases h3
  | some o =>
    rw [ho] at h3
    simp only at h3
    obtain ⟨e, he, h4⟩ := Array.any_eq_true'.1 h3
    rw [Bool.and_eq_true, Bool.or_eq_true] at h4
    exact ⟨o, e, rfl, he, h4.1, by simpa using h4.2⟩
theorem unready {l : Array Bool} {e j : Nat} (h0 : l.getD e true = false) (h1 : l.getD e false = true) : j ≠ j := by
  rcases Nat.lt_or_ge e l.size with h' | h'
  · simp [h'] at h0 h1; rw [h0] at h1; cases h1
  · simp [Array.getElem?_eq_none h'] at h1
theorem waits_not {l : Array Bool} {i : Nat} {D : List Nat} (h : Waits md ops l i D) (hi : l.getD i true = false) {d : Nat} (hd : d ∈ D) : ¬ d ∈ Region.ready md ops l := by
  intro hr
  obtain ⟨_, o, ho, hall⟩ := mem_ready.1 hr
  obtain ⟨_, o', e, ho', he, hb, hon⟩ := h d hd
  rw [ho] at ho'
  injection ho' with ho'
  subst ho'
  have h1 := hall e he hb
  rcases hon with hon | hon
  · rw [hon] at h1; exact unready hi h1 (j := 0) rfl
  · exact unready (h _ hon).1 h1 (j := 0) rfl
theorem pays_firstK {i : Nat} {oi : Oper} {v : Value} {D : List Nat} (hkD : k ∈ D) (hi : ops[i]? = some oi) (hsel : ∀ (j : Nat) (o : Oper) cs b, ops[j]? = some o → o.op ≠ .select cs b) (hQ : ∀ c a w, Q (.panic c) (a.put oi.dst v) w → Q (.panic c) a w) :
    ∀ (fuel : Nat) (l : Array Bool) (a : Act) (w : World), (∀ j oj, ops[j]? = some oj → j ≠ i → l.getD j true = false → (∀ e ∈ oj.after, Region.binds md e = true → e.on ≠ i) → oi.apart ops oj = true) →
      i ∈ Region.ready md ops l → Waits md ops l i D → Pays P ops S oi v a → S w → wpAnyK P md ops Q S k fuel (l.setIfInBounds i true) (a.put oi.dst v) w → wpAnyK P md ops Q S k (fuel + 1) l a w := by
  intro fuel
  induction fuel with
  | zero =>
    intro l a w _ hr _ hy hS H
    refine ⟨fun h => absurd hr (by rw [h]; exact List.not_mem_nil), fun j hj => ?_⟩
    by_cases e : j = i
    · subst e; exact hy.wpOp hi hS ⟨fun _ => hS, H⟩
    · have := ready_mono hj e
      rw [H.1] at this
      exact absurd this List.not_mem_nil
  | succ fuel ih =>
    intro l a w hfree hr hD hy hS H
    refine ⟨fun h => absurd hr (by rw [h]; exact List.not_mem_nil), fun j hj => ?_⟩
    by_cases e : j = i
    · subst e; exact hy.wpOp hi hS ⟨fun _ => hS, H⟩
    · obtain ⟨hun, oj, hoj, hall⟩ := mem_ready.1 hj
      have h0 := (mem_ready.1 hr).1
      have hnot : ∀ e ∈ oj.after, Region.binds md e = true → e.on ≠ i := fun e he hb heq => by
        have h1 := hall e he hb
        rw [heq] at h1
        exact unready h0 h1 (j := 0) rfl
      have hjD : ∀ d ∈ D, j ≠ d := fun d hd he => waits_not hD h0 hd (by rw [← he]; exact hj)
      have hik : i ≠ k := fun he => waits_not hD h0 hkD (by rw [← he]; exact hr)
      have hD' : Waits md ops (l.setIfInBounds j true) i D := fun d hd => ⟨by rw [getD_set_ne true (hjD d hd)]; exact (hD d hd).1, (hD d hd).2⟩
      have hkf : ((l.setIfInBounds i true).setIfInBounds j true).getD k true = false := by
        rw [getD_set_ne true (hjD k hkD), getD_set_ne true hik]; exact (hD k hkD).1
      refine wpOp_mono (fun a' w' h3 => ?_) (wpOp_before hoj (hfree j oj hoj e hun hnot) (fun cs b => hsel i oi cs b hi) (fun cs b => hsel j oj cs b hoj) hQ hy (H.2 j (ready_mono hj e)))
      have hS' := h3.2.1 hkf
      refine ⟨fun _ => hS', ih (l.setIfInBounds j true) a' w' (fun m om hm hmi hu hno => hfree m om hm hmi (unlisted_set hu) hno) (ready_mono hr (Ne.symm e)) hD' h3.1 hS' ?_⟩
      rw [Array.setIfInBounds_comm _ _ e]
      exact h3.2.2
/-- A value that an operation yields where S holds. -/
theorem pays_plain {oi : Oper} {v : Value} {a : Act} (hw : Region.wanted oi (yielded ops a.tmps) = true) (h : ∀ W, S W → (execOp a.eval oi).run P W = .ok (.value v) W) : Pays P ops S oi v a := ⟨hw, fun W hW => .inl (h W hW)⟩
theorem pays_yields {oi : Oper} {v : Value} {a : Act} (hw : Region.wanted oi (yielded ops a.tmps) = true) (hy : YieldsIf P ops S oi v a) : Pays P ops S oi v a :=
  ⟨hw, fun W hW => .inl (hy.elim (fun h => h.2 W hW) (fun h => by rw [hw] at h; cases h.1))⟩
theorem takeK {i : Nat} {oi : Oper} {v : Value} {fuel : Nat} {l : Array Bool} {a : Act} {w : World} (D : List Nat) (d : Option Tmp) (hi : ops[i]? = some oi) (hd : oi.dst = d) (hkD : D.contains k = true)
    (hs : Region.noSelect ops = true) (hf : Region.free md ops l i = true) (hr : (Region.ready md ops l).contains i = true) (hD : waitsB md ops l i D = true)
    (hQ : ∀ c a w, Q (.panic c) (a.put oi.dst v) w → Q (.panic c) a w) (hw : Region.wanted oi (yielded ops a.tmps) = true) (hy : YieldsIf P ops S oi v a) (hS : S w)
    (h : wpAnyK P md ops Q S k fuel (l.setIfInBounds i true) (a.put d v) w) : wpAnyK P md ops Q S k (fuel + 1) l a w := by
  subst hd
  exact pays_firstK (by simpa using hkD) hi (Region.noSelect_spec hs) hQ fuel l a w (Region.free_spec hi hf) (by simpa using hr) (waits_of hD) (pays_yields hw hy) hS h
theorem callK {i : Nat} {oi : Oper} {v : Value} {fuel : Nat} {l : Array Bool} {a : Act} {w : World} (D : List Nat) (d : Option Tmp) (hi : ops[i]? = some oi) (hd : oi.dst = d) (hkD : D.contains k = true)
    (hs : Region.noSelect ops = true) (hf : Region.free md ops l i = true) (hr : (Region.ready md ops l).contains i = true) (hD : waitsB md ops l i D = true)
    (hQ : ∀ c a w, Q (.panic c) (a.put oi.dst v) w → Q (.panic c) a w) (hw : Region.wanted oi (yielded ops a.tmps) = true) (f : FuncId) (args : Array Value) (he : ∀ W, S W → (execOp a.eval oi).run P W = .ok (.enter f args) W)
    (hc : ∀ W, S W → Calls P f args W fun e w' => e = .returned v ∧ W = w') (hS : S w)
    (h : wpAnyK P md ops Q S k fuel (l.setIfInBounds i true) (a.put d v) w) : wpAnyK P md ops Q S k (fuel + 1) l a w := by
  subst hd
  exact pays_firstK (by simpa using hkD) hi (Region.noSelect_spec hs) hQ fuel l a w (Region.free_spec hi hf) (by simpa using hr) (waits_of hD) ⟨hw, fun W hW => .inr ⟨f, args, he W hW, hc W hW⟩⟩ hS h
/-- An operation that yields its value in whatever world waits for nothing. -/
theorem pays_anyK {i : Nat} {oi : Oper} {v : Value} (hik : i ≠ k) (hi : ops[i]? = some oi) (hsel : ∀ (j : Nat) (o : Oper) cs b, ops[j]? = some o → o.op ≠ .select cs b) (hQ : ∀ c a w, Q (.panic c) (a.put oi.dst v) w → Q (.panic c) a w) :
    ∀ (fuel : Nat) (l : Array Bool) (a : Act) (w : World), (∀ j oj, ops[j]? = some oj → j ≠ i → l.getD j true = false → (∀ e ∈ oj.after, Region.binds md e = true → e.on ≠ i) → oi.apart ops oj = true) →
      i ∈ Region.ready md ops l → Pays P ops (fun _ => True) oi v a → (l.getD k true = false → S w) → wpAnyK P md ops Q S k fuel (l.setIfInBounds i true) (a.put oi.dst v) w → wpAnyK P md ops Q S k (fuel + 1) l a w := by
  intro fuel
  induction fuel with
  | zero =>
    intro l a w _ hr hy hS H
    refine ⟨fun h => absurd hr (by rw [h]; exact List.not_mem_nil), fun j hj => ?_⟩
    by_cases e : j = i
    · subst e; exact hy.wpOp hi trivial ⟨fun h => hS (unlisted_set h), H⟩
    · have := ready_mono hj e
      rw [H.1] at this
      exact absurd this List.not_mem_nil
  | succ fuel ih =>
    intro l a w hfree hr hy hS H
    refine ⟨fun h => absurd hr (by rw [h]; exact List.not_mem_nil), fun j hj => ?_⟩
    by_cases e : j = i
    · subst e; exact hy.wpOp hi trivial ⟨fun h => hS (unlisted_set h), H⟩
    · obtain ⟨hun, oj, hoj, hall⟩ := mem_ready.1 hj
      have h0 := (mem_ready.1 hr).1
      have hnot : ∀ e ∈ oj.after, Region.binds md e = true → e.on ≠ i := fun e he hb heq => by
        have h1 := hall e he hb
        rw [heq] at h1
        exact unready h0 h1 (j := 0) rfl
      refine wpOp_mono (fun a' w' h3 => ?_) (wpOp_before hoj (hfree j oj hoj e hun hnot) (fun cs b => hsel i oi cs b hi) (fun cs b => hsel j oj cs b hoj) hQ hy (H.2 j (ready_mono hj e)))
      have hS' : (l.setIfInBounds j true).getD k true = false → S w' := fun h => h3.2.1 (by rw [Array.setIfInBounds_comm _ _ (Ne.symm e), getD_set_ne true hik]; exact h)
      refine ⟨hS', ih (l.setIfInBounds j true) a' w' (fun m om hm hmi hu hno => hfree m om hm hmi (unlisted_set hu) hno) (ready_mono hr (Ne.symm e)) h3.1 hS' ?_⟩
      rw [Array.setIfInBounds_comm _ _ e]
      exact h3.2.2
theorem takeAnyK {i : Nat} {oi : Oper} {v : Value} {fuel : Nat} {l : Array Bool} {a : Act} {w : World} (d : Option Tmp) (hik : (i == k) = false) (hi : ops[i]? = some oi) (hd : oi.dst = d)
    (hs : Region.noSelect ops = true) (hf : Region.free md ops l i = true) (hr : (Region.ready md ops l).contains i = true)
    (hQ : ∀ c a w, Q (.panic c) (a.put oi.dst v) w → Q (.panic c) a w) (hw : Region.wanted oi (yielded ops a.tmps) = true) (hy : YieldsIf P ops (fun _ => True) oi v a) (hS : S w)
    (h : wpAnyK P md ops Q S k fuel (l.setIfInBounds i true) (a.put d v) w) : wpAnyK P md ops Q S k (fuel + 1) l a w := by
  subst hd
  exact pays_anyK (by simpa using hik) hi (Region.noSelect_spec hs) hQ fuel l a w (Region.free_spec hi hf) (by simpa using hr) (pays_yields hw hy) (fun _ => hS) h
theorem callAnyK {i : Nat} {oi : Oper} {v : Value} {fuel : Nat} {l : Array Bool} {a : Act} {w : World} (d : Option Tmp) (hik : (i == k) = false) (hi : ops[i]? = some oi) (hd : oi.dst = d)
    (hs : Region.noSelect ops = true) (hf : Region.free md ops l i = true) (hr : (Region.ready md ops l).contains i = true)
    (hQ : ∀ c a w, Q (.panic c) (a.put oi.dst v) w → Q (.panic c) a w) (hw : Region.wanted oi (yielded ops a.tmps) = true) (f : FuncId) (args : Array Value) (he : ∀ W, True → (execOp a.eval oi).run P W = .ok (.enter f args) W)
    (hc : ∀ W, True → Calls P f args W fun e w' => e = .returned v ∧ W = w') (hS : S w)
    (h : wpAnyK P md ops Q S k fuel (l.setIfInBounds i true) (a.put d v) w) : wpAnyK P md ops Q S k (fuel + 1) l a w := by
  subst hd
  exact pays_anyK (by simpa using hik) hi (Region.noSelect_spec hs) hQ fuel l a w (Region.free_spec hi hf) (by simpa using hr) ⟨hw, fun W hW => .inr ⟨f, args, he W hW, hc W hW⟩⟩ (fun _ => hS) h
theorem K_listed : ∀ (f : Nat) (l : Array Bool) (a : Act) (w : World), l.getD k true = true → wpAnyH P md ops Q (fun _ => True) f l a w → wpAnyK P md ops Q S k f l a w
  | 0, _, _, _, _, h => h
  | f + 1, l, _, _, hk, h => ⟨h.1, fun i hi => wpOp_mono (fun a' w' h' => by
      have hk' : (l.setIfInBounds i true).getD k true = true := by
        by_cases e : i = k
        · subst e
          rcases Nat.lt_or_ge i l.size with h9 | h9
          · simp [h9]
          · simp
        · rw [getD_set_ne true e]; exact hk
      exact ⟨(fun hc => by rw [hk'] at hc; cases hc), K_listed f _ a' w' hk' h'.2⟩) (h.2 i hi)⟩
/-- When k alone may come up next S is no longer asked for. -/
theorem exitK {fuel : Nat} {l : Array Bool} {a : Act} {w : World} (hr : Region.ready md ops l = [k]) (h : wpAnyH P md ops Q (fun _ => True) fuel l a w) : wpAnyK P md ops Q S k fuel l a w := by
  cases fuel with
  | zero => exact h
  | succ f =>
    refine ⟨h.1, fun i hi => ?_⟩
    have hik : i = k := by rw [hr] at hi; simpa using hi
    subst hik
    refine wpOp_mono (fun a' w' h' => ?_) (h.2 i hi)
    have hk' : (l.setIfInBounds i true).getD i true = true := by
      rcases Nat.lt_or_ge i l.size with h9 | h9
      · simp [h9]
      · simp
    exact ⟨(fun hc => by rw [hk'] at hc; cases hc), K_listed f _ a' w' hk' h'.2⟩
/-- One operation alone may come up next; behind it S is to be shown anew. -/
theorem oneK {fuel : Nat} {l : Array Bool} {a : Act} {w : World} {j : Nat} {o : Oper} (hr : Region.ready md ops l = [j]) (ho : ops[j]? = some o)
    (h : ∀ K' : Act → World → Prop, Shut (∀ a w, S w → wpAnyK P md ops Q S k fuel (l.setIfInBounds j true) a w → K' a w) → if Region.wanted o (yielded ops a.tmps) = true then Oper.wp P o a w K' Q else K' (a.put o.dst undef) w) :
    wpAnyK P md ops Q S k (fuel + 1) l a w :=
  ⟨(fun h0 => by rw [hr] at h0; cases h0), fun i hi => by
    have hij : i = j := by rw [hr] at hi; simpa using hi
    subst hij
    exact wpOp_step ho fun K' hK => h K' fun a w hS hW => hK a w ⟨fun _ => hS, hW⟩⟩
end
theorem step_app1h {P : Program} {w : World} {ops : Array Oper} {o : Oper} {a : Act} {K : Act → World → Prop} {Q : Exit → Act → World → Prop} {E : Prop} (hgd : o.guard = none) (s x : Operand) (t : TypeId)
    (ho : o.op = .call { callee := .builtin .append, args := #[s, x], argTypes := #[t, t] }) (base : Nat) (e : TypeId) (z : Value) (size bytes : Nat) (ht : P.underlying t = some (.slice e))
    (hinfo : (P.info? e).map (fun i => (i.zero, i.size, i.bytes)) = some (some z, size, bytes)) (hzs : z.cells.size = size) (hsz : 0 < size)
    (v : Value) (n : Nat) (xs : List Value) (hs : a.eval s = v) (hown : w.ownsRow base e size v n xs) (g c : Nat) (cs : Array Value) (hb : Blk w g e cs) (hcs : cs.size = size) (hx : a.eval x = .slice (some ⟨g, 0, none⟩) 1 c)
    (h1 : cs.toList.all (·.oneCell') = true) (hn : n ≤ 1000000) (hby : bytes ≤ 1000) (hbase : base ≤ w.heap.size)
    (h : ∀ v' w', w'.ownsRow base e size v' (n + 1) (xs ++ cs.toList) → w.grownBy w' v.ownBlock → (v'.ownBlock = v.ownBlock ∨ v'.ownBlock = some w.heap.size) → K (a.put o.dst v') w') : if Region.wanted o (yielded ops a.tmps) = true then Oper.wp P o a w K Q else E := by
  obtain ⟨i, hi, hz, hsize, hbytes⟩ := info_parts hinfo
  refine step_append_any w hgd s x t ho base e i z size bytes ht hi hz hsize hbytes hzs hsz v n xs hs hown (g + 1) (some ⟨g, 0, none⟩) 1 c cs.toList hx (reads_blk hb size hcs) (List.all_eq_true.1 h1) (by simp only [maxLen]; omega) ?_ hbase fun v' w' h2 h3 h4 => h v' w' h2 h3 h4
  have := Nat.mul_le_mul (show n + 1 ≤ 1000001 by omega) hby
  omega
end Go.Proofs.YtadlabndbomgmaaDoor
/- Fields, nil checks, loads of one cell in a region that draws, each taken without the walk's simplifier. No program in sight. -/
namespace Go.Proofs.YtadlabndbomgmaaDoor
open Go.RowKit Go.Instr
section
variable {P : Program} {ops : Array Oper} {S : World → Prop} {op : Oper} {a : Act}
def fieldOff (P : Program) (s : TypeId) (k : Nat) : Option Nat :=
  match P.underlying s with
  | some (.struct fs) => match fs[k]? with
    | some f => match P.info? f.type with
      | some i => if i.size = 0 then none else some f.offset
      | none => none
    | none => none
  | _ => none
theorem yieldsIf_faddr (hw : Region.wanted op (yielded ops a.tmps) = true) (s : TypeId) (x : Operand) (k : Nat) (ho : op.op = .fieldAddr s x k) (g o off : Nat) (hx : a.eval x = .pointer (some ⟨g, o, none⟩)) (hf : fieldOff P s k = some off) :
    YieldsIf P ops S op (.pointer (some ⟨g, o + off, none⟩)) a :=
  .inl ⟨hw, fun w _ => by
    unfold fieldOff at hf
    cases hu : P.underlying s with
    | none => rw [hu] at hf; cases hf
    | some d =>
      rw [hu] at hf
      cases d with
      | struct fs =>
        simp only at hf
        cases hk : fs[k]? with
        | none => rw [hk] at hf; cases hf
        | some f =>
          rw [hk] at hf
          simp only at hf
          cases hi : P.info? f.type with
          | none => rw [hi] at hf; cases hf
          | some i =>
            rw [hi] at hf
            simp only at hf
            by_cases hz : i.size = 0
            · rw [if_pos hz] at hf; cases hf
            · rw [if_neg hz] at hf
              injection hf with hf
              have hadd : (⟨g, o, none⟩ : Addr).add f.offset = ⟨g, o + off, none⟩ := by rw [← hf]; unfold Addr.add; split <;> simp_all
              unfold execOp
              simp [ho, hx, fieldAt, Sem.run_bind, run_underlying hu, hk, sureAddr, fieldPlace, sizeOf, typeInfo, hi, hz, hadd]
      | _ => cases hf⟩
theorem yieldsIf_nil (hw : Region.wanted op (yielded ops a.tmps) = true) (x : Operand) (ho : op.op = .nilCheck x) (ad : Addr) (hx : a.eval x = .pointer (some ad)) : YieldsIf P ops S op (.pointer (some ad)) a :=
  .inl ⟨hw, fun w _ => by
    unfold execOp
    simp [ho, hx]⟩
def oneCellT (P : Program) (ty : TypeId) : Bool := match P.underlying ty with | some (.struct _) => false | some (.array _ _) => false | some _ => true | none => false
theorem yieldsIf_load1 (hw : Region.wanted op (yielded ops a.tmps) = true) (ty : TypeId) (x : Operand) (ho : op.op = .load ty x) (g o : Nat) (v : Value) (hx : a.eval x = .pointer (some ⟨g, o, none⟩)) (ht : oneCellT P ty = true) (hS : ∀ w, S w → w.cell? ⟨g, o, none⟩ = some v) : YieldsIf P ops S op v a :=
  .inl ⟨hw, fun w hw' => by
    have hc := hS w hw'
    unfold oneCellT at ht
    cases hu : P.underlying ty with
    | none => rw [hu] at ht; cases ht
    | some d =>
      have hagg : (isAgg ty).run P w = .ok false w := by
        unfold isAgg
        rw [Sem.run_bind, run_underlying hu w]
        rw [hu] at ht
        cases d <;> simp_all
      unfold execOp
      simp [ho, hx, loadAt, sureAddr, Sem.run_bind, loadVar, hagg, hc]⟩
/-- A call of a Go function by its number enters it. -/
theorem run_enter {f : FuncId} {fn : Func} (hf : P.funcs[f]? = some fn) (hn : (fn.name == "runtime.NumGoroutine") = false) (hb : fn.body.isNone = false) (xs : Array Operand) (ts : Array TypeId) (ho : op.op = .call { callee := .value (.func f), args := xs, argTypes := ts }) (args : Array Value) (hx : xs.map a.eval = args) (w : World) :
    (execOp a.eval op).run P w = .ok (.enter f args) w := by
  unfold execOp
  have hd : Deferred.ofValue (Value.func (Fn.func f) #[] #[]) args = pure { target := .fn (.func f) #[], args := #[] ++ args } := rfl
  simp only [ho, resolve, hx]
  rw [show a.eval (Operand.func f) = Value.func (Fn.func f) #[] #[] from rfl, hd]
  simp [invoke, callFunc, hf]
  rw [if_neg (by intro e; rw [e] at hn; simp at hn), if_neg (by intro e; rw [e] at hb; cases hb)]
end
end Go.Proofs.YtadlabndbomgmaaDoor
/- Steps of a region that draws, where one operation alone may come up next: a store into a known block, an append of one record, a record laid into a slice. No program in sight. -/
namespace Go.Proofs.YtadlabndbomgmaaDoor
open Go.RowKit Go.Instr
section
variable {P : Program} {ops : Array Oper} {Q : Exit → Act → World → Prop} {md : Region.Mode} {S : World → Prop} {k : Nat} {fuel : Nat} {l : Array Bool} {a : Act} {w : World} {j : Nat} {o : Oper}
theorem oneH (hr : Region.ready md ops l = [j]) (ho : ops[j]? = some o) (hgd : o.guard = none)
    (h : ∀ K' : Act → World → Prop, (∀ a w, S w → wpAnyH P md ops Q S fuel (l.setIfInBounds j true) a w → K' a w) → Oper.wp P o a w K' Q) : wpAnyH P md ops Q S (fuel + 1) l a w :=
  wpAnyH_ready (rs := [j]) hr (by simp) (AllReadyH.cons ho (fun K' hK => by
    rw [if_pos (by simp [Region.wanted, hgd])]
    exact h K' fun a w hS hW => hK.out a w hS fun _ => hW) AllReadyH.nil)
theorem oneK' (hr : Region.ready md ops l = [j]) (ho : ops[j]? = some o) (hgd : o.guard = none)
    (h : ∀ K' : Act → World → Prop, (∀ a w, S w → wpAnyK P md ops Q S k fuel (l.setIfInBounds j true) a w → K' a w) → Oper.wp P o a w K' Q) : wpAnyK P md ops Q S k (fuel + 1) l a w :=
  oneK hr ho fun K' hK => by
    rw [if_pos (by simp [Region.wanted, hgd])]
    exact h K' hK.out
theorem put_none (a : Act) (v : Value) : a.put none v = a := rfl
theorem storeH (hr : Region.ready md ops l = [j]) (ho : ops[j]? = some o) (hgd : o.guard = none) (hd : o.dst = none) (ty x y) (hop : o.op = .store ty x y) (g i : Nat) (t : TypeId) (cs : Array Value) (v : Value) (hx : a.eval x = .pointer (some ⟨g, i, none⟩)) (hy : a.eval y = v)
    (hb : Blk w g t cs) (hs : i < cs.size) (hi : (P.info? ty).map (·.size) = some 1) (hvc : v.cells = #[v]) (hv : v.oneCell' = true)
    (h : ∀ w', Blk w' g t (cs.setIfInBounds i v) → w.grownBy w' (some g) → S w' ∧ wpAnyH P md ops Q S fuel (l.setIfInBounds j true) a w') : wpAnyH P md ops Q S (fuel + 1) l a w :=
  oneH hr ho hgd fun K' hK => wp_store_fld ty x y hop g i t cs v hx hy hb hs hi hvc hv fun w' h1 h2 => by
    rw [hd, put_none]
    exact hK _ _ (h w' h1 h2).1 (h w' h1 h2).2
theorem storeK (hr : Region.ready md ops l = [j]) (ho : ops[j]? = some o) (hgd : o.guard = none) (hd : o.dst = none) (ty x y) (hop : o.op = .store ty x y) (g i : Nat) (t : TypeId) (cs : Array Value) (v : Value) (hx : a.eval x = .pointer (some ⟨g, i, none⟩)) (hy : a.eval y = v)
    (hb : Blk w g t cs) (hs : i < cs.size) (hi : (P.info? ty).map (·.size) = some 1) (hvc : v.cells = #[v]) (hv : v.oneCell' = true)
    (h : ∀ w', Blk w' g t (cs.setIfInBounds i v) → w.grownBy w' (some g) → S w' ∧ wpAnyK P md ops Q S k fuel (l.setIfInBounds j true) a w') : wpAnyK P md ops Q S k (fuel + 1) l a w :=
  oneK' hr ho hgd fun K' hK => wp_store_fld ty x y hop g i t cs v hx hy hb hs hi hvc hv fun w' h1 h2 => by
    rw [hd, put_none]
    exact hK _ _ (h w' h1 h2).1 (h w' h1 h2).2
theorem wp_app1 {K : Act → World → Prop} (s x : Operand) (t : TypeId)
    (ho : o.op = .call { callee := .builtin .append, args := #[s, x], argTypes := #[t, t] }) (base : Nat) (e : TypeId) (z : Value) (size bytes : Nat) (ht : P.underlying t = some (.slice e))
    (hinfo : (P.info? e).map (fun i => (i.zero, i.size, i.bytes)) = some (some z, size, bytes)) (hzs : z.cells.size = size) (hsz : 0 < size)
    (v : Value) (n : Nat) (xs : List Value) (hs : a.eval s = v) (hown : w.ownsRow base e size v n xs) (g c : Nat) (cs : Array Value) (hb : Blk w g e cs) (hcs : cs.size = size) (hx : a.eval x = .slice (some ⟨g, 0, none⟩) 1 c)
    (h1 : cs.toList.all (·.oneCell') = true) (hn : n ≤ 1000000) (hby : bytes ≤ 1000) (hbase : base ≤ w.heap.size)
    (h : ∀ v' w', w'.ownsRow base e size v' (n + 1) (xs ++ cs.toList) → w.grownBy w' v.ownBlock → (v'.ownBlock = v.ownBlock ∨ v'.ownBlock = some w.heap.size) → K (a.put o.dst v') w') : Oper.wp P o a w K Q := by
  obtain ⟨i, hi, hz, hsize, hbytes⟩ := info_parts hinfo
  refine wp_append_any w s x t ho base e i z size bytes ht hi hz hsize hbytes hzs hsz v n xs hs hown (g + 1) (some ⟨g, 0, none⟩) 1 c cs.toList hx (reads_blk hb size hcs) (List.all_eq_true.1 h1) (by simp only [maxLen]; omega) ?_ hbase fun v' w' h2 h3 h4 => h v' w' h2 h3 h4
  have := Nat.mul_le_mul (show n + 1 ≤ 1000001 by omega) hby
  omega
theorem app1H (hr : Region.ready md ops l = [j]) (ho : ops[j]? = some o) (hgd : o.guard = none) (d : Tmp) (hd : o.dst = some d) (s x : Operand) (t : TypeId)
    (hop : o.op = .call { callee := .builtin .append, args := #[s, x], argTypes := #[t, t] }) (base : Nat) (e : TypeId) (z : Value) (size bytes : Nat) (ht : P.underlying t = some (.slice e))
    (hinfo : (P.info? e).map (fun i => (i.zero, i.size, i.bytes)) = some (some z, size, bytes)) (hzs : z.cells.size = size) (hsz : 0 < size)
    (v : Value) (n : Nat) (xs : List Value) (hs : a.eval s = v) (hown : w.ownsRow base e size v n xs) (g c : Nat) (cs : Array Value) (hb : Blk w g e cs) (hcs : cs.size = size) (hx : a.eval x = .slice (some ⟨g, 0, none⟩) 1 c)
    (h1 : cs.toList.all (·.oneCell') = true) (hn : n ≤ 1000000) (hby : bytes ≤ 1000) (hbase : base ≤ w.heap.size)
    (h : ∀ v' w', w'.ownsRow base e size v' (n + 1) (xs ++ cs.toList) → w.grownBy w' v.ownBlock → (v'.ownBlock = v.ownBlock ∨ v'.ownBlock = some w.heap.size) → S w' ∧ wpAnyH P md ops Q S fuel (l.setIfInBounds j true) (a.put (some d) v') w') : wpAnyH P md ops Q S (fuel + 1) l a w :=
  oneH hr ho hgd fun K' hK => wp_app1 s x t hop base e z size bytes ht hinfo hzs hsz v n xs hs hown g c cs hb hcs hx h1 hn hby hbase fun v' w' h2 h3 h4 => by
    rw [hd]
    exact hK _ _ (h v' w' h2 h3 h4).1 (h v' w' h2 h3 h4).2
theorem app1K (hr : Region.ready md ops l = [j]) (ho : ops[j]? = some o) (hgd : o.guard = none) (d : Tmp) (hd : o.dst = some d) (s x : Operand) (t : TypeId)
    (hop : o.op = .call { callee := .builtin .append, args := #[s, x], argTypes := #[t, t] }) (base : Nat) (e : TypeId) (z : Value) (size bytes : Nat) (ht : P.underlying t = some (.slice e))
    (hinfo : (P.info? e).map (fun i => (i.zero, i.size, i.bytes)) = some (some z, size, bytes)) (hzs : z.cells.size = size) (hsz : 0 < size)
    (v : Value) (n : Nat) (xs : List Value) (hs : a.eval s = v) (hown : w.ownsRow base e size v n xs) (g c : Nat) (cs : Array Value) (hb : Blk w g e cs) (hcs : cs.size = size) (hx : a.eval x = .slice (some ⟨g, 0, none⟩) 1 c)
    (h1 : cs.toList.all (·.oneCell') = true) (hn : n ≤ 1000000) (hby : bytes ≤ 1000) (hbase : base ≤ w.heap.size)
    (h : ∀ v' w', w'.ownsRow base e size v' (n + 1) (xs ++ cs.toList) → w.grownBy w' v.ownBlock → (v'.ownBlock = v.ownBlock ∨ v'.ownBlock = some w.heap.size) → S w' ∧ wpAnyK P md ops Q S k fuel (l.setIfInBounds j true) (a.put (some d) v') w') : wpAnyK P md ops Q S k (fuel + 1) l a w :=
  oneK' hr ho hgd fun K' hK => wp_app1 s x t hop base e z size bytes ht hinfo hzs hsz v n xs hs hown g c cs hb hcs hx h1 hn hby hbase fun v' w' h2 h3 h4 => by
    rw [hd]
    exact hK _ _ (h v' w' h2 h3 h4).1 (h v' w' h2 h3 h4).2
/-- What a slice literal lays into its block. -/
def sliceCells (P : Program) (t : TypeId) (len : Nat) (parts : List (Nat × Value)) : Option (Array Value × TypeId) :=
  match P.underlying t with
  | some (.slice e) => match P.info? e with
    | some i => if len * i.size > 2 ^ 24 then none else if len * i.size = 0 then none else match i.zero with
      | some z => (fill (fun j => some (j * i.size, i.size)) ((Array.range (len * i.size)).map (z.cells[· % z.cells.size]!)) parts).map (·, e)
      | none => none
    | none => none
  | _ => none
theorem run_buildSlice {t : TypeId} {len : Nat} {parts : Array (Nat × Value)} {cs : Array Value} {e : TypeId} (h : sliceCells P t len parts.toList = some (cs, e)) (w : World) :
    (buildSlice t len parts).run P w = .ok (.slice (some ⟨w.heap.size, 0, none⟩) len len) (w.alloc (.cells cs e)) := by
  unfold sliceCells at h
  cases hu : P.underlying t with
  | none => rw [hu] at h; cases h
  | some d =>
    rw [hu] at h
    cases d with
    | slice e' =>
      simp only at h
      cases hi : P.info? e' with
      | none => rw [hi] at h; cases h
      | some i =>
        rw [hi] at h
        simp only at h
        by_cases h1 : len * i.size > 2 ^ 24
        · rw [if_pos h1] at h; cases h
        · rw [if_neg h1] at h
          by_cases h2 : len * i.size = 0
          · rw [if_pos h2] at h; cases h
          · rw [if_neg h2] at h
            cases hz : i.zero with
            | none => rw [hz] at h; cases h
            | some z =>
              rw [hz] at h
              simp only at h
              cases hf : fill (fun j => some (j * i.size, i.size)) ((Array.range (len * i.size)).map (z.cells[· % z.cells.size]!)) parts.toList with
              | none => rw [hf] at h; cases h
              | some c =>
                rw [hf] at h
                simp only [Option.map_some, Option.some.injEq, Prod.mk.injEq] at h
                obtain ⟨rfl, rfl⟩ := h
                simp [buildSlice, Sem.run_bind, run_underlying hu, sizeOf, typeInfo, hi, h1, h2, zeroValue, hz, hf, newRow]
    | _ => cases h
theorem wp_lay {K : Act → World → Prop} (t : TypeId) (len : Nat) (parts : Array (Nat × Operand)) (hop : o.op = .buildSlice t len parts) (vals : List (Nat × Value)) (hv : parts.toList.map (fun p => (p.1, a.eval p.2)) = vals) (cs : Array Value) (e : TypeId) (hc : sliceCells P t len vals = some (cs, e))
    (h : K (a.put o.dst (.slice (some ⟨w.heap.size, 0, none⟩) len len)) (w.alloc (.cells cs e))) : Oper.wp P o a w K Q := by
  have hc' : sliceCells P t len (parts.map fun (i, x) => (i, a.eval x)).toList = some (cs, e) := by rw [Array.toList_map]; exact (congrArg (sliceCells P t len) hv).trans hc
  unfold Oper.wp execOp
  simp only [hop, Sem.run_bind, run_buildSlice hc' w, Result.andThen_ok]
  exact h
theorem layH (hr : Region.ready md ops l = [j]) (ho : ops[j]? = some o) (hgd : o.guard = none) (d : Tmp) (hd : o.dst = some d) (t : TypeId) (len : Nat) (parts : Array (Nat × Operand)) (hop : o.op = .buildSlice t len parts) (vals : List (Nat × Value)) (hv : parts.toList.map (fun p => (p.1, a.eval p.2)) = vals) (cs : Array Value) (e : TypeId) (hc : sliceCells P t len vals = some (cs, e))
    (hS : S (w.alloc (.cells cs e))) (h : wpAnyH P md ops Q S fuel (l.setIfInBounds j true) (a.put (some d) (.slice (some ⟨w.heap.size, 0, none⟩) len len)) (w.alloc (.cells cs e))) : wpAnyH P md ops Q S (fuel + 1) l a w :=
  oneH hr ho hgd fun K' hK => wp_lay t len parts hop vals hv cs e hc (by rw [hd]; exact hK _ _ hS h)
theorem layK (hr : Region.ready md ops l = [j]) (ho : ops[j]? = some o) (hgd : o.guard = none) (d : Tmp) (hd : o.dst = some d) (t : TypeId) (len : Nat) (parts : Array (Nat × Operand)) (hop : o.op = .buildSlice t len parts) (vals : List (Nat × Value)) (hv : parts.toList.map (fun p => (p.1, a.eval p.2)) = vals) (cs : Array Value) (e : TypeId) (hc : sliceCells P t len vals = some (cs, e))
    (hS : S (w.alloc (.cells cs e))) (h : wpAnyK P md ops Q S k fuel (l.setIfInBounds j true) (a.put (some d) (.slice (some ⟨w.heap.size, 0, none⟩) len len)) (w.alloc (.cells cs e))) : wpAnyK P md ops Q S k (fuel + 1) l a w :=
  oneK' hr ho hgd fun K' hK => wp_lay t len parts hop vals hv cs e hc (by rw [hd]; exact hK _ _ hS h)
end
end Go.Proofs.YtadlabndbomgmaaDoor
/- A call where one operation alone may come up next. No program in sight. -/
namespace Go.Proofs.YtadlabndbomgmaaDoor
open Go.RowKit Go.Instr
section
variable {P : Program} {ops : Array Oper} {Q : Exit → Act → World → Prop} {md : Region.Mode} {S : World → Prop} {k : Nat} {fuel : Nat} {l : Array Bool} {a : Act} {w : World} {j : Nat} {o : Oper}
theorem wp_callR {K : Act → World → Prop} {f : FuncId} {args : Array Value} (he : (execOp a.eval o).run P w = .ok (.enter f args) w) {R : Ending → World → Prop} (hc : Calls P f args w R)
    (h : ∀ e w', R e w' → ∃ v, e = .returned v ∧ K (a.put o.dst v) w') : Oper.wp P o a w K Q := by
  unfold Oper.wp
  rw [he, Oper.upon_enter]
  refine hc.mono fun e w' hR => ?_
  obtain ⟨v, rfl, hK⟩ := h e w' hR
  exact hK
theorem callH (hr : Region.ready md ops l = [j]) (ho : ops[j]? = some o) (hgd : o.guard = none) (d : Option Tmp) (hd : o.dst = d) (f : FuncId) (args : Array Value) (he : (execOp a.eval o).run P w = .ok (.enter f args) w) {R : Ending → World → Prop} (hc : Calls P f args w R)
    (h : ∀ e w', R e w' → ∃ v, e = .returned v ∧ S w' ∧ wpAnyH P md ops Q S fuel (l.setIfInBounds j true) (a.put d v) w') : wpAnyH P md ops Q S (fuel + 1) l a w :=
  oneH hr ho hgd fun K' hK => wp_callR he hc fun e w' hR => by
    obtain ⟨v, rfl, h1, h2⟩ := h e w' hR
    rw [hd]
    exact ⟨v, rfl, hK _ _ h1 h2⟩
theorem callK' (hr : Region.ready md ops l = [j]) (ho : ops[j]? = some o) (hgd : o.guard = none) (d : Option Tmp) (hd : o.dst = d) (f : FuncId) (args : Array Value) (he : (execOp a.eval o).run P w = .ok (.enter f args) w) {R : Ending → World → Prop} (hc : Calls P f args w R)
    (h : ∀ e w', R e w' → ∃ v, e = .returned v ∧ S w' ∧ wpAnyK P md ops Q S k fuel (l.setIfInBounds j true) (a.put d v) w') : wpAnyK P md ops Q S k (fuel + 1) l a w :=
  oneK' hr ho hgd fun K' hK => wp_callR he hc fun e w' hR => by
    obtain ⟨v, rfl, h1, h2⟩ := h e w' hR
    rw [hd]
    exact ⟨v, rfl, hK _ _ h1 h2⟩
/-- An operation whose guard does not hold is passed by. -/
theorem skipH {i : Nat} {oi : Oper} (d : Option Tmp) (hi : ops[i]? = some oi) (hd : oi.dst = d)
    (hs : Region.noSelect ops = true) (hf : Region.free md ops l i = true) (hr : (Region.ready md ops l).contains i = true)
    (hQ : ∀ c a w, Q (.panic c) (a.put oi.dst undef) w → Q (.panic c) a w) (hw : Region.wanted oi (yielded ops a.tmps) = false) (hS : S w)
    (h : wpAnyH P md ops Q S fuel (l.setIfInBounds i true) (a.put d undef) w) : wpAnyH P md ops Q S (fuel + 1) l a w :=
  take_at d hi hd hs hf hr hQ (Or.inr ⟨hw, rfl⟩) hS h
theorem wp_region_HL {id : Nat} (n : Nat) (l : Array Bool) (hn : ops.size = n) (hl : Array.replicate n false = l) (hm : P.follows .mixedOrders = true) (hS : S w.drew)
    (h : S w.drew → wpAnyH P .any ops Q S n l a w.drew) : (Code.region id ops true).wp P Q a w := by
  subst hn hl
  exact wp_region_held_drew hm hS h
def elemSize (P : Program) (ty : TypeId) : Option Nat := match P.underlying ty with | some (.slice e) => (P.info? e).map (·.size) | _ => none
theorem yieldsIf_iaddr {op : Oper} (hw : Region.wanted op (yielded ops a.tmps) = true) (ty : TypeId) (x ix : Operand) (ho : op.op = .indexAddr ty x ix) (g off n c : Nat) (hx : a.eval x = .slice (some ⟨g, off, none⟩) n c) (kd : IntKind) (e : Nat) (he : a.eval ix = .int kd (e : Int)) (hlt : e < n)
    (s : Nat) (hs : elemSize P ty = some s) (r : Nat) (hr : off + e * s = r) : YieldsIf P ops S op (.pointer (some ⟨g, r, none⟩)) a :=
  .inl ⟨hw, fun w _ => by
    unfold elemSize at hs
    cases hu : P.underlying ty with
    | none => rw [hu] at hs; cases hs
    | some d =>
      rw [hu] at hs
      cases d with
      | slice el =>
        simp only at hs
        cases hi : P.info? el with
        | none => rw [hi] at hs; cases hs
        | some i =>
          rw [hi] at hs
          injection hs with hs
          have hadd : (⟨g, off, none⟩ : Addr).add (e * i.size) = ⟨g, r, none⟩ := by rw [← hr, ← hs]; unfold Addr.add; split <;> simp_all
          have hlt' : (e : Int) < (n : Int) := by omega
          unfold execOp
          simp [ho, hx, he, indexAt, asIntOf, Sem.run_bind, run_underlying hu, sizeOf, typeInfo, hi, hlt, hadd]
      | _ => cases hs⟩
theorem yieldsIf_loadMid {op : Oper} (hw : Region.wanted op (yielded ops a.tmps) = true) (ty : TypeId) (x : Operand) (ho : op.op = .load ty x) (g off : Nat) (hx : a.eval x = .pointer (some ⟨g, off, none⟩)) (cs : List Value) (d : TypeDesc)
    (hS : ∀ w, S w → ∀ j u, cs[j]? = some u → w.cell? ⟨g, off + j, none⟩ = some u) (hu : P.underlying ty = some d) (hd : (match d with | .struct _ | .array _ _ => true | _ => false) = true) (hi : (P.info? ty).map (·.size) = some cs.length) : YieldsIf P ops S op (.agg cs.toArray) a :=
  .inl ⟨hw, fun w hw' => by
    have hl : (loadCells ⟨g, off, none⟩ cs.length).run P w = .ok cs.toArray w :=
      run_loadCells_list (P := P) w ⟨g, off, none⟩ cs (fun j v hv => by
        have hadd : (⟨g, off, none⟩ : Addr).add j = ⟨g, off + j, none⟩ := by unfold Addr.add; split <;> simp_all
        rw [hadd]
        exact hS w hw' j v hv)
    cases hq : P.info? ty with
    | none => simp [hq] at hi
    | some i =>
      have hs : i.size = cs.length := by simpa [hq] using hi
      have hagg : (isAgg ty).run P w = .ok true w := by
        unfold isAgg
        rw [Sem.run_bind, run_underlying hu w]
        cases d <;> simp_all
      unfold execOp
      simp [ho, hx, loadAt, sureAddr, loadVar, Sem.run_bind, hagg, sizeOf, typeInfo, hq, hs, hl]⟩
theorem yieldsIf_strcut {op : Oper} (hw : Region.wanted op (yielded ops a.tmps) = true) (ty : TypeId) (x h : Operand) (ho : op.op = .slice ty x none (some h) none) (s : ByteArray) (hx : a.eval x = .string s) (n : Nat) (i : Int) (hh : a.eval h = .int .i64 i) (hi : i = (n : Int)) (hn : n ≤ s.size) (hu : P.underlying ty = some .string) :
    YieldsIf P ops S op (.string (s.extract 0 n)) a :=
  .inl ⟨hw, fun w _ => by
    subst hi
    unfold execOp
    simp [ho, hx, hh, sliceAt, slice, sliceBounds, sliceBound, asIntOf, Sem.run_bind, run_underlying hu, hn]⟩
theorem five_cells {w : World} {g off : Nat} {v0 v1 v2 v3 v4 : Value} (h0 : w.cell? ⟨g, off, none⟩ = some v0) (h1 : w.cell? ⟨g, off + 1, none⟩ = some v1) (h2 : w.cell? ⟨g, off + 2, none⟩ = some v2) (h3 : w.cell? ⟨g, off + 3, none⟩ = some v3) (h4 : w.cell? ⟨g, off + 4, none⟩ = some v4) :
    ∀ j u, [v0, v1, v2, v3, v4][j]? = some u → w.cell? ⟨g, off + j, none⟩ = some u := by
  intro j u hu
  rcases (show j = 0 ∨ j = 1 ∨ j = 2 ∨ j = 3 ∨ j = 4 ∨ 5 ≤ j by omega) with rfl | rfl | rfl | rfl | rfl | h5
  · rw [← hu]; exact h0
  · rw [← hu]; exact h1
  · rw [← hu]; exact h2
  · rw [← hu]; exact h3
  · rw [← hu]; exact h4
  · rw [List.getElem?_eq_none (by simpa using h5)] at hu; cases hu
end
end Go.Proofs.YtadlabndbomgmaaDoor
