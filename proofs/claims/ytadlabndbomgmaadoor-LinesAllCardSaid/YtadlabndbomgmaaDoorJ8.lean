/- Parts of the proof, joined: PutK. -/
import Derived.Test.YtadlabndbomgmaaDoorJ5
import Derived.Test.YtadlabndbomgmaaDoorJ7
import Derived.Test.YtadlabndbomgmaaDoorJLower
set_option linter.unusedVariables false
set_option linter.unusedSimpArgs false
/- The walk of breaker.put: what it leans on. -/
namespace Go.Proofs.YtadlabndbomgmaaDoor
open Go.RowKit Go.Instr
def PtsK (w : World) (K : Nat → Prop) (g : Nat) (A : Option Addr) (ps : List Pt) : Prop := 0 < ps.length → ∃ h off, A = some ⟨h, off, none⟩ ∧ h < w.heap.size ∧ K h ∧ PtsAt w g h off ps
theorem PtsK.reads {w : World} {K : Nat → Prop} {g : Nat} {A : Option Addr} {ps : List Pt} (h : PtsK w K g A ps) : PtsR w g A ps := fun h0 => by
  obtain ⟨q, off, h1, h2, _, h4⟩ := h h0
  exact ⟨q, off, h1, h2, h4⟩
theorem PtsK.kept {w w' : World} {K : Nat → Prop} {g : Nat} {A : Option Addr} {ps : List Pt} (h : PtsK w K g A ps) (k : Kept K w w') : PtsK w' K g A ps := fun h0 => by
  obtain ⟨q, off, h1, h2, h3, h4⟩ := h h0
  refine ⟨q, off, h1, Nat.lt_of_lt_of_le h2 k.size, h3, fun i hi j hj => ?_⟩
  rw [World.cell?_of_block (w := w) (k.block q h3)]
  exact h4 i hi j hj
/-- For the loop's measure: how far the breaker may still go down, and whether its line is full. -/
def brMeas (b : Nat) (w : World) : Nat := match w.cell? ⟨b, 1, none⟩, w.cell? ⟨b, 9, none⟩ with
  | some (.int _ y), some (.bool f) => (16777216 - y).toNat * 2 + (if f then 1 else 0)
  | _, _ => 0
theorem brMeas_of {w : World} {K : Nat → Prop} {b fp g : Nat} {W sz ht al : Int} {st : BG} {Lv Tv Ov Fv : Value} (h : BrV w K b fp g W sz ht al st Lv Tv Ov Fv) : brMeas b w = (16777216 - st.y).toNat * 2 + (if st.full then 1 else 0) := by
  have h1 : w.cell? ⟨b, 1, none⟩ = some (.int .i64 st.y) := h.blk.cell 1
  have h9 : w.cell? ⟨b, 9, none⟩ = some (.bool st.full) := h.blk.cell 9
  unfold brMeas
  rw [h1, h9]
theorem tailG_bd {xs : List It} : ∀ (l : List Pt), PsOk xs l → 0 ≤ tailG xs l ∧ tailG xs l ≤ 16777216
  | [], _ => ⟨Int.le_refl _, by show (0 : Int) ≤ 16777216; decide⟩
  | p :: r, h => by
    unfold tailG
    split
    · exact tailG_bd r fun q hq => h q (by simp [hq])
    · have := (h p (by simp)).2
      unfold PtOk at this
      omega
theorem psOk_bd {xs : List It} {l : List Pt} (h : PsOk xs l) : ∀ p ∈ l, 0 ≤ p.w ∧ p.w ≤ 16777216 := fun p hp => by
  have := (h p hp).2
  unfold PtOk at this
  omega
theorem psOk_clean {xs : List It} {l : List Pt} (h : PsOk xs l) (f : Bool) : PsOk xs (cleanF xs f l) := fun p hp => h p ((cleanF_sub xs l f).mem hp)
theorem psOk_append {xs : List It} {a b : List Pt} (ha : PsOk xs a) (hb : PsOk xs b) : PsOk xs (a ++ b) := fun p hp => (List.mem_append.1 hp).elim (ha p) (hb p)
/-- More blocks that are none of the breaker's: new ones. -/
theorem BrV.fresh {w0 w : World} {K D : Nat → Prop} {b fp g : Nat} {W sz ht al : Int} {st : BG} {Lv Tv Ov Fv : Value} (h : BrV w0 K b fp g W sz ht al st Lv Tv Ov Fv) (hb : Below w0.heap.size w0 w) (hD : ∀ k, D k → w0.heap.size ≤ k ∧ k < w.heap.size) : BrV w (fun k => K k ∨ D k) b fp g W sz ht al st Lv Tv Ov Fv := by
  have hw := h.below hb
  have key : ∀ k, k < w0.heap.size → ¬ K k → ¬ (K k ∨ D k) := fun k hk hn hc => by
    rcases hc with hc | hc
    · exact hn hc
    · have := hD k hc; omega
  exact ⟨hw.blk, hw.line, hw.late, hw.lines, hw.flo, hw.fls, hw.two, key b h.blk.lt h.kb, key fp h.flo.lt h.kf, fun k hk => key k (own_lt h.line k hk) (h.kL k hk), fun k hk => key k (own_lt h.late k hk) (h.kT k hk), fun k hk => by
    obtain ⟨q, _, h2, _⟩ := h.lines
    exact key k (own_lt h2 k hk) (h.kO k hk), fun k hk => key k (own_lt h.fls k hk) (h.kF k hk), fun k hk => hk.elim (hw.kk k) (fun hd => (hD k hd).2)⟩
theorem BrV.less {w : World} {K K' : Nat → Prop} {b fp g : Nat} {W sz ht al : Int} {st : BG} {Lv Tv Ov Fv : Value} (h : BrV w K b fp g W sz ht al st Lv Tv Ov Fv) (hk : ∀ k, K' k → K k) : BrV w K' b fp g W sz ht al st Lv Tv Ov Fv :=
  ⟨h.blk, h.line, h.late, h.lines, h.flo, h.fls, h.two, fun e => h.kb (hk _ e), fun e => h.kf (hk _ e), fun k e c => h.kL k e (hk _ c), fun k e c => h.kT k e (hk _ c), fun k e c => h.kO k e (hk _ c), fun k e c => h.kF k e (hk _ c), fun k e => h.kk k (hk _ e)⟩
theorem Kept.less {K K' : Nat → Prop} {w w' : World} (h : Kept K w w') (hk : ∀ k, K' k → K k) : Kept K' w w' := ⟨h.os, h.tape, h.output, h.size, fun k e => h.block k (hk k e)⟩
/-- A row of parts is written, and the breaker's own block: the line's. -/
theorem BrV.l_set {w w' : World} {K : Nat → Prop} {b fp g : Nat} {W sz ht al : Int} {st st' : BG} {Lv Tv Ov Fv Lv' : Value} (h : BrV w K b fp g W sz ht al st Lv Tv Ov Fv) (hb : Blk w' b 81 (brA fp st'.y sz ht al st'.ind st'.left st'.right Lv' st'.full Tv Ov)) (hl : w'.ownsRow 0 96 5 Lv' st'.line.length (ptCells g st'.line))
    (hg : Only (fun i => i = b ∨ Lv.ownBlock = some i) w w') (hn : Lv'.ownBlock = Lv.ownBlock ∨ ∀ k, Lv'.ownBlock = some k → w.heap.size ≤ k) (e1 : st'.out = st.out) (e2 : st'.late = st.late) (e3 : st'.fs = st.fs) : BrV w' K b fp g W sz ht al st' Lv' Tv Ov Fv := by
  have hkey : ∀ i, i < w.heap.size → (i = b ∨ Lv.ownBlock = some i) → ∃ t cs, Blk w i t cs ∧ (t = 81 ∨ t = 96) := fun i _ hi => by
    rcases hi with rfl | hi
    · exact ⟨_, _, h.blk, .inl rfl⟩
    · rcases h.line.2 with ⟨h9, _⟩ | ⟨q2, cap, cur, h9, _, hqq, _⟩
      · rw [h9] at hi; cases hi
      · rw [h9] at hi
        have : q2 = i := by injection hi
        subst this
        exact ⟨_, _, hqq, .inr rfl⟩
  have row : ∀ {e : TypeId} {size n : Nat} {v : Value} {xs : List Value}, w.ownsRow 0 e size v n xs → e ≠ 81 → e ≠ 96 → w'.ownsRow 0 e size v n xs := fun ho n1 n2 => by
    refine own_only ho hg fun i hi hci => ?_
    obtain ⟨t, cs, hqq, ht⟩ := hkey i (own_lt ho i hi) hci
    refine own_blk_ne ho hqq ?_ hi
    rcases ht with rfl | rfl
    · exact n1
    · exact n2
  have hfp : ¬ (fp = b ∨ Lv.ownBlock = some fp) := fun hc => by
    obtain ⟨t, cs, hqq, ht⟩ := hkey fp h.flo.lt hc
    rcases ht with rfl | rfl
    · exact (hqq.ne_ h.flo (by decide)) rfl
    · exact (hqq.ne_ h.flo (by decide)) rfl
  have hlate : w'.ownsRow 0 96 5 Tv st.late.length (ptCells g st.late) := own_only h.late hg fun i hi hci => by
    rcases hci with rfl | hci
    · exact own_blk_ne h.late h.blk (by decide) hi
    · exact h.two i hci hi
  have hlines : LinesAt w' 0 Ov st.out := by
    refine h.lines.only hg (fun i t cs hci hi hq => ?_) (fun i hci hi => by obtain ⟨t, cs, hq, _⟩ := hkey i hi hci; exact ⟨t, cs, hq⟩)
    obtain ⟨t2, cs2, hq2, ht2⟩ := hkey i hi hci
    have hcell : some (Obj.cells cs t (0, 0)) = some (Obj.cells cs2 t2 (0, 0)) := hq.symm.trans hq2
    injection hcell with hcell
    injection hcell with _ ht _
    subst ht
    rcases ht2 with rfl | rfl <;> exact ⟨by decide, by decide⟩
  refine ⟨hb, hl, by rw [e2]; exact hlate, by rw [e1]; exact hlines, blk_only h.flo hg hfp, by rw [e3]; exact row h.fls (by decide) (by decide), ?_, h.kb, h.kf, ?_, h.kT, h.kO, h.kF, fun i hi => Nat.lt_of_lt_of_le (h.kk i hi) hg.size⟩
  · intro k hk hT
    rcases hn with h9 | h9
    · exact h.two k (by rw [← h9]; exact hk) hT
    · have := h9 k hk
      have := own_lt h.late k hT
      omega
  · intro k hk
    rcases hn with h9 | h9
    · exact h.kL k (by rw [← h9]; exact hk)
    · exact fun hK => by have := h9 k hk; have := h.kk k hK; omega
/-- The same: of what floats late. -/
theorem BrV.t_set {w w' : World} {K : Nat → Prop} {b fp g : Nat} {W sz ht al : Int} {st st' : BG} {Lv Tv Ov Fv Tv' : Value} (h : BrV w K b fp g W sz ht al st Lv Tv Ov Fv) (hb : Blk w' b 81 (brA fp st'.y sz ht al st'.ind st'.left st'.right Lv st'.full Tv' Ov)) (hl : w'.ownsRow 0 96 5 Tv' st'.late.length (ptCells g st'.late))
    (hg : Only (fun i => i = b ∨ Tv.ownBlock = some i) w w') (hn : Tv'.ownBlock = Tv.ownBlock ∨ ∀ k, Tv'.ownBlock = some k → w.heap.size ≤ k) (e1 : st'.out = st.out) (e2 : st'.line = st.line) (e3 : st'.fs = st.fs) : BrV w' K b fp g W sz ht al st' Lv Tv' Ov Fv := by
  have hkey : ∀ i, i < w.heap.size → (i = b ∨ Tv.ownBlock = some i) → ∃ t cs, Blk w i t cs ∧ (t = 81 ∨ t = 96) := fun i _ hi => by
    rcases hi with rfl | hi
    · exact ⟨_, _, h.blk, .inl rfl⟩
    · rcases h.late.2 with ⟨h9, _⟩ | ⟨q2, cap, cur, h9, _, hqq, _⟩
      · rw [h9] at hi; cases hi
      · rw [h9] at hi
        have : q2 = i := by injection hi
        subst this
        exact ⟨_, _, hqq, .inr rfl⟩
  have row : ∀ {e : TypeId} {size n : Nat} {v : Value} {xs : List Value}, w.ownsRow 0 e size v n xs → e ≠ 81 → e ≠ 96 → w'.ownsRow 0 e size v n xs := fun ho n1 n2 => by
    refine own_only ho hg fun i hi hci => ?_
    obtain ⟨t, cs, hqq, ht⟩ := hkey i (own_lt ho i hi) hci
    refine own_blk_ne ho hqq ?_ hi
    rcases ht with rfl | rfl
    · exact n1
    · exact n2
  have hfp : ¬ (fp = b ∨ Tv.ownBlock = some fp) := fun hc => by
    obtain ⟨t, cs, hqq, ht⟩ := hkey fp h.flo.lt hc
    rcases ht with rfl | rfl
    · exact (hqq.ne_ h.flo (by decide)) rfl
    · exact (hqq.ne_ h.flo (by decide)) rfl
  have hline : w'.ownsRow 0 96 5 Lv st.line.length (ptCells g st.line) := own_only h.line hg fun i hi hci => by
    rcases hci with rfl | hci
    · exact own_blk_ne h.line h.blk (by decide) hi
    · exact h.two i hi hci
  have hlines : LinesAt w' 0 Ov st.out := by
    refine h.lines.only hg (fun i t cs hci hi hq => ?_) (fun i hci hi => by obtain ⟨t, cs, hq, _⟩ := hkey i hi hci; exact ⟨t, cs, hq⟩)
    obtain ⟨t2, cs2, hq2, ht2⟩ := hkey i hi hci
    have hcell : some (Obj.cells cs t (0, 0)) = some (Obj.cells cs2 t2 (0, 0)) := hq.symm.trans hq2
    injection hcell with hcell
    injection hcell with _ ht _
    subst ht
    rcases ht2 with rfl | rfl <;> exact ⟨by decide, by decide⟩
  refine ⟨hb, by rw [e2]; exact hline, hl, by rw [e1]; exact hlines, blk_only h.flo hg hfp, by rw [e3]; exact row h.fls (by decide) (by decide), ?_, h.kb, h.kf, h.kL, ?_, h.kO, h.kF, fun i hi => Nat.lt_of_lt_of_le (h.kk i hi) hg.size⟩
  · intro k hk hT
    rcases hn with h9 | h9
    · exact h.two k hk (by rw [← h9]; exact hT)
    · have := h9 k hT
      have := own_lt h.line k hk
      omega
  · intro k hk
    rcases hn with h9 | h9
    · exact h.kT k (by rw [← h9]; exact hk)
    · exact fun hK => by have := h9 k hk; have := h.kk k hK; omega
theorem addFl_nil (xs : List It) (ht W : Int) (st : BG) : addFl xs ht W st [] st := by
  cases h : st.full
  · exact .inr ⟨h, .inl ⟨rfl, rfl⟩⟩
  · exact .inl ⟨h, by simp⟩
theorem addFl_full {xs : List It} {ht W : Int} {st st' : BG} {c : List Pt} (h : addFl xs ht W st c st') : st'.full = st.full ∧ st'.line = st.line ∧ st'.out = st.out ∧ st'.ind = st.ind ∧ st'.y = st.y := by
  rcases h with ⟨_, rfl⟩ | ⟨_, ⟨_, rfl⟩ | ⟨_, fs, rfl⟩⟩ <;> exact ⟨rfl, rfl, rfl, rfl, rfl⟩
theorem addFl_pass {xs : List It} {ht W : Int} {st st' : BG} {c : List Pt} {p : Pt} (h : addFl xs ht W st c st') (hp : floatP xs p = false) : addFl xs ht W st (c ++ [p]) st' := by
  have e : (c ++ [p]).filter (floatP xs) = c.filter (floatP xs) := by rw [List.filter_append, List.filter_cons_of_neg (by rw [hp]; decide)]; simp
  unfold addFl at h ⊢
  rw [e]
  exact h
theorem addFl_late {xs : List It} {ht W : Int} {st st' : BG} {c : List Pt} {p : Pt} (h : addFl xs ht W st c st') (hp : floatP xs p = true) (hf : st.full = true) : addFl xs ht W st (c ++ [p]) { st' with late := st'.late ++ [p] } := by
  rcases h with ⟨_, rfl⟩ | ⟨h1, _⟩
  · refine .inl ⟨hf, ?_⟩
    simp [List.filter_append, hp]
  · rw [hf] at h1; cases h1
theorem addFl_put {xs : List It} {ht W : Int} {st st' : BG} {c : List Pt} {p : Pt} (h : addFl xs ht W st c st') (hp : floatP xs p = true) (hf : st.full = false) (fs : List Fl) : addFl xs ht W st (c ++ [p]) (endsG ht W { st' with fs := fs }) := by
  have hne : (c ++ [p]).filter (floatP xs) ≠ [] := by rw [List.filter_append, List.filter_cons_of_pos hp]; simp
  rcases h with ⟨h1, _⟩ | ⟨_, ⟨_, rfl⟩ | ⟨_, fs1, rfl⟩⟩
  · rw [hf] at h1; cases h1
  · exact .inr ⟨hf, .inr ⟨hne, fs, rfl⟩⟩
  · exact .inr ⟨hf, .inr ⟨hne, fs, rfl⟩⟩
theorem ptsK_own {w : World} {K : Nat → Prop} {base g n c : Nat} {A : Option Addr} {ps : List Pt} (h : w.ownsRow base 96 5 (.slice A n c) n (ptCells g ps)) (hl : ps.length = n) : PtsK w (fun k => K k ∨ (Value.slice A n c).ownBlock = some k) g A ps := fun h0 => by
  obtain ⟨q, h1, _, h2, h3⟩ := pts_of_own h hl (by omega)
  subst h1
  exact ⟨q, 0, rfl, h2, .inr rfl, h3⟩
theorem PtsAt.rowO {w : World} {g h off : Nat} {ps : List Pt} (hp : PtsAt w g h off ps) {k : Nat} (hk : k < ps.length) : w.cell? ⟨h, off + k * 5, none⟩ = some (.pointer (some ⟨g, (ptAt ps k).i * 11, none⟩)) ∧ w.cell? ⟨h, off + k * 5 + 1, none⟩ = some (.int .i64 (ptAt ps k).i) ∧ w.cell? ⟨h, off + k * 5 + 2, none⟩ = some (.string (ptAt ps k).t) ∧ w.cell? ⟨h, off + k * 5 + 3, none⟩ = some (.int .i64 (ptAt ps k).w) ∧ w.cell? ⟨h, off + k * 5 + 4, none⟩ = some (.bool (ptAt ps k).last) :=
  ⟨hp k hk 0 (by omega), hp k hk 1 (by omega), hp k hk 2 (by omega), hp k hk 3 (by omega), hp k hk 4 (by omega)⟩
theorem StOk.late_ {xs : List It} {st : BG} {n m : Nat} (h : StOk xs st n m) {p : Pt} (hp : p.i < xs.length ∧ PtOk xs p) : StOk xs { st with late := st.late ++ [p] } (n + 1) m :=
  ⟨h.fs, h.ind, h.lf, h.rt, h.y, h.line, psOk_append h.late (fun q hq => by obtain rfl : q = p := (by simpa using hq); exact hp), by have := h.ll; show st.line.length ≤ n + 1; omega, by have := h.lt; simp only [List.length_append, List.length_singleton]; omega, h.out⟩
theorem StOk.fs_ {xs : List It} {st : BG} {n m : Nat} (h : StOk xs st n m) {fs : List Fl} (hf : FsOk fs) : StOk xs { st with fs := fs } n m := ⟨hf, h.ind, h.lf, h.rt, h.y, h.line, h.late, h.ll, h.lt, h.out⟩
theorem StOk.addLn {xs : List It} {st : BG} {n n' m : Nat} (h : StOk xs st n m) {c : List Pt} (hc : PsOk xs c) (hl : st.line.length + c.length ≤ n') (hn : n ≤ n') : StOk xs (addLn xs st c) n' m :=
  ⟨h.fs, h.ind, h.lf, h.rt, h.y, psOk_append h.line hc, h.late, by show (st.line ++ c).length ≤ n'; rw [List.length_append]; exact hl, Nat.le_trans h.lt hn, h.out⟩
theorem lastMust_at {xs : List It} {cs : List Pt} {j : Nat} (h : cs.length = j + 1) : lastMust xs cs = (pKind xs (ptAt cs j) == 6) := by
  unfold lastMust
  rw [List.getLast?_eq_getElem?, h, Nat.add_sub_cancel, List.getElem?_eq_getElem (by omega), ptAt_of cs j (by omega)]
theorem ptCells_app (g : Nat) (a b : List Pt) : ptCells g (a ++ b) = ptCells g a ++ ptCells g b := by simp [ptCells]
section
variable {P : Program} {ops : Array Oper} {Q : Exit → Act → World → Prop} {md : Region.Mode} {S : World → Prop} {fuel : Nat} {l : Array Bool} {a : Act} {w : World} {j : Nat} {o : Oper}
/-- A call whose guard holds. -/
theorem callHw (hr : Region.ready md ops l = [j]) (ho : ops[j]? = some o) (hw : Region.wanted o (yielded ops a.tmps) = true) (d : Option Tmp) (hd : o.dst = d) (f : FuncId) (args : Array Value) (he : (execOp a.eval o).run P w = .ok (.enter f args) w) {R : Ending → World → Prop} (hc : Calls P f args w R)
    (h : ∀ e w', R e w' → ∃ v, e = .returned v ∧ S w' ∧ wpAnyH P md ops Q S fuel (l.setIfInBounds j true) (a.put d v) w') : wpAnyH P md ops Q S (fuel + 1) l a w :=
  wpAnyH_ready (rs := [j]) hr (by simp) (AllReadyH.cons ho (fun K' hK => by
    rw [if_pos hw]
    refine wp_callR he hc fun e w' hR => ?_
    obtain ⟨v, rfl, h1, h2⟩ := h e w' hR
    rw [hd]
    exact ⟨v, rfl, hK.out _ _ h1 fun _ => h2⟩) AllReadyH.nil)
end
end Go.Proofs.YtadlabndbomgmaaDoor
