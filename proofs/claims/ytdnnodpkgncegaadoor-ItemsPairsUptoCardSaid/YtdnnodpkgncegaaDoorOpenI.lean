/- Boxes and styles that came in, opened; how many letters they hold, by the bulk of what is read. -/
import Derived.Test.YtdnnodpkgncegaaDoorOpen
import Derived.Test.YtdnnodpkgncegaaDoorItTx
import Derived.Test.YtdnnodpkgncegaaDoorItTree
import Derived.Test.YtdnnodpkgncegaaDoorRows
namespace Go.Proofs.YtdnnodpkgncegaaDoor
open Go.RowKit Go.ChangeShapes Go.WideShapes Go.Deep Go.ChangeAt
section
variable {H : Type}
theorem bulk_one (d : DataW H) : 1 ≤ Rows.uptoBulk d := by
  cases d with
  | lit l => cases l <;> simp [Rows.uptoBulk]
  | nil => simp [Rows.uptoBulk]
  | ptr d => simp [Rows.uptoBulk]
  | slice elems spare => simp [Rows.uptoBulk]
  | agg parts => simp [Rows.uptoBulk]
  | iface t d => simp [Rows.uptoBulk]
  | map entries => simp [Rows.uptoBulk]
  | held h => simp [Rows.uptoBulk]
theorem bulk_len (k : Nat) (l : List (DataW H)) (h : ∀ d ∈ l, k ≤ Rows.uptoBulk d) : k * l.length ≤ Rows.uptoBulkAll l := by
  induction l with
  | nil => simp [Rows.uptoBulkAll]
  | cons x r ih =>
    have h1 := h x (by simp)
    have h2 := ih fun d hd => h d (by simp [hd])
    simp only [Rows.uptoBulkAll, List.length_cons, Nat.mul_add, Nat.mul_one]
    omega
theorem bulk_agg (parts : List (DataW H)) : parts.length + 1 ≤ Rows.uptoBulk (.agg parts) := by
  have := bulk_len 1 parts fun d _ => bulk_one d
  simp only [Rows.uptoBulk]
  omega
theorem bulk_part {d : DataW H} {l : List (DataW H)} (h : d ∈ l) : Rows.uptoBulk d ≤ Rows.uptoBulkAll l := by
  induction l with
  | nil => cases h
  | cons x r ih =>
    simp only [Rows.uptoBulkAll]
    cases List.mem_cons.1 h with
    | inl e => subst e; omega
    | inr e => have := ih e; omega
theorem bulk_append (a b : List (DataW H)) : Rows.uptoBulkAll (a ++ b) = Rows.uptoBulkAll a + Rows.uptoBulkAll b := by
  induction a with
  | nil => simp [Rows.uptoBulkAll]
  | cons x r ih => simp only [List.cons_append, Rows.uptoBulkAll, ih]; omega
theorem tot_bulk (f : Nat → Nat) (D : Nat → DataW H) : ∀ n, (∀ k, k < n → f k ≤ 2 * Rows.uptoBulk (D k)) → tot f n ≤ 2 * Rows.uptoBulkAll ((List.range n).map D)
  | 0, _ => by simp [tot]
  | n + 1, h => by
    have h1 := tot_bulk f D n fun k hk => h k (by omega)
    have h2 := h n (by omega)
    rw [tot, List.range_succ, List.map_append, bulk_append]
    simp only [List.map_cons, List.map_nil, Rows.uptoBulkAll]
    omega
theorem bulk_at (D : Nat → DataW H) (n k : Nat) (h : k < n) : Rows.uptoBulk (D k) ≤ Rows.uptoBulkAll ((List.range n).map D) := bulk_part (List.mem_map.2 ⟨k, List.mem_range.2 h, rfl⟩)
end
section
variable {H : Type} {enc : TypeId × Value → H} {P : Program} {w : World} {base : Nat} {spare : Nat → Bool} {held : Bool} {fuel : Nat} {cs : List Value} {x : DataW H × List MemPlace}
/-- A slice of integers that lies within something. -/
theorem open_nums {t e : TypeId} {k : IntKind} (ht : P.underlying t = some (.slice e)) (he : P.underlying e = some (.int k)) (hc : P.cellsOf e = 1) (hf : DataW.trod enc P w base spare held fuel t cs = some x) :
    ∃ (A : Option Addr) (c : Nat) (xs : List Int), cs = [.slice A xs.length c] ∧ xs.length ≤ maxLen ∧ Reads w w.heap.size 1 A xs.length (xs.map (.int k)) := by
  rcases open_ints ht he hc hf with ⟨hcs, _⟩ | ⟨a, l, c', zs, hcs, _, hl, hm, hz, _, hcell, hwz⟩
  · exact ⟨none, 0, [], hcs, Nat.zero_le _, by simpa using Reads.none_⟩
  · have hzl : l ≤ zs.length := by rw [hz]; split <;> omega
    have hlen : (zs.take l).length = l := by simp; omega
    refine ⟨some a, c', zs.take l, by rw [hlen]; exact hcs, by omega, by simp, fun hn => ⟨a, rfl, ?_, fun j u hj => ?_⟩⟩
    · have h2 := cell_lt (hcell 0 (by omega))
      rwa [block_of_add] at h2
    · rw [List.getElem?_map, List.getElem?_take] at hj
      split at hj
      · rw [hcell j (by omega), ← hj]
        simp [List.getD, List.getElem?_eq_getElem (show j < zs.length by omega)]
      · cases hj
/-- A slice at which every element says something of its cells and of its bulk. -/
theorem open_each {t e : TypeId} (ht : P.underlying t = some (.slice e)) (hf : DataW.trod enc P w base spare held fuel t cs = some x) :
    ∃ (A : Option Addr) (n c : Nat) (D : Nat → DataW H), cs = [.slice A n c] ∧ n ≤ c ∧ c ≤ maxLen ∧ Rows.uptoBulkAll ((List.range n).map D) ≤ Rows.uptoBulk x.1 ∧
      (0 < n → 0 < P.cellsOf e → ∃ g off, A = some ⟨g, off, none⟩ ∧ g < w.heap.size ∧ ∀ k, k < n → ∃ (m : Nat) (cs' : List Value) (y : DataW H × List MemPlace), DataW.trod enc P w base spare held m e cs' = some y ∧ y.1 = D k ∧ cs'.length = P.cellsOf e ∧ ∀ j, j < P.cellsOf e → w.cell? ⟨g, off + k * P.cellsOf e + j, none⟩ = cs'[j]?) := by
  rcases open_slice ht hf with ⟨hcs, _⟩ | ⟨a, len, cap, m, n, D, Pl, hcs, _, hl, hm, hmm, hx, hi⟩
  · exact ⟨none, 0, 0, fun _ => .nil, hcs, Nat.le_refl _, Nat.zero_le _, by simp [Rows.uptoBulkAll], fun h => by omega⟩
  · have hnm : len ≤ m := by rw [hmm]; split <;> omega
    refine ⟨some a, len, cap, D, hcs, hl, hm, ?_, fun h0 hpos => ?_⟩
    · rw [hx]
      simp only [Rows.uptoBulk]
      omega
    · obtain ⟨g, off, spot⟩ := a
      obtain ⟨cs0, hc0, _⟩ := hi 0 (by omega)
      obtain ⟨_, hcl0, hat0⟩ := World.cells?_some hc0
      have h0' := hat0 0 hpos
      rw [List.getElem?_eq_getElem (by omega)] at h0'
      have hspot : spot = none := by
        simp [Addr.add] at h0'
        simpa using World.cell?_spot h0'
      subst hspot
      have hadd : ∀ i, (⟨g, off, none⟩ : Addr).add i = ⟨g, off + i, none⟩ := fun i => by unfold Addr.add; split <;> simp_all
      refine ⟨g, off, rfl, ?_, fun k hk => ?_⟩
      · have h2 := cell_lt h0'
        rw [block_of_add, block_of_add] at h2
        exact h2
      · obtain ⟨cs', hc, ht'⟩ := hi k (by omega)
        obtain ⟨_, hcl, hat⟩ := World.cells?_some hc
        refine ⟨n, cs', _, ht', rfl, hcl, fun j hj => ?_⟩
        rw [← hat j hj, hadd]
        rw [show (⟨g, off + k * P.cellsOf e, none⟩ : Addr).add j = ⟨g, off + k * P.cellsOf e + j, none⟩ by unfold Addr.add; split <;> simp_all]
end
theorem take_one {cs : List Value} {o : Nat} {v : Value} (h : (cs.drop o).take 1 = [v]) : cs[o]? = some v := by
  have := congrArg (·[0]?) h
  simpa [List.getElem?_take, List.getElem?_drop] using this
section
variable {H : Type} {enc : TypeId × Value → H} {w : World} {base : Nat} {spare : Nat → Bool} {held : Bool} {fuel : Nat} {cs : List Value} {x : DataW H × List MemPlace}
theorem fld_one {P : Program} {fs : Array Field} {n : Nat} {xs : List (DataW H × List MemPlace)} (hf : ∀ (i : Nat) (f : Field), fs[i]? = some f → DataW.trod enc P w base spare held n f.type ((cs.drop f.offset).take (P.cellsOf f.type)) = xs[i]?) (hl : xs.length = fs.size)
    (i o : Nat) (t : TypeId) (h : (fs[i]?).map (fun f => (f.type, f.offset)) = some (t, o)) (hc : P.cellsOf t = 1) : ∃ y, xs[i]? = some y ∧ DataW.trod enc P w base spare held n t ((cs.drop o).take 1) = some y := by
  cases hq : fs[i]? with
  | none => rw [hq] at h; cases h
  | some f =>
    rw [hq] at h
    simp only [Option.map_some, Option.some.injEq, Prod.mk.injEq] at h
    obtain ⟨rfl, rfl⟩ := h
    have h1 := hf i f hq
    have hi := (Array.getElem?_eq_some_iff.1 hq).1
    rw [hc, List.getElem?_eq_getElem (by omega)] at h1
    exact ⟨_, List.getElem?_eq_getElem (by omega), h1⟩
theorem fld_int {P : Program} {fs : Array Field} {n : Nat} {xs : List (DataW H × List MemPlace)} (hf : ∀ (i : Nat) (f : Field), fs[i]? = some f → DataW.trod enc P w base spare held n f.type ((cs.drop f.offset).take (P.cellsOf f.type)) = xs[i]?) (hl : xs.length = fs.size)
    (i o : Nat) (t : TypeId) (h : (fs[i]?).map (fun f => (f.type, f.offset)) = some (t, o)) (hc : P.cellsOf t = 1) (hu : P.underlying t = some (.int .i64)) : ∃ z, cs[o]? = some (.int .i64 z) := by
  obtain ⟨y, _, h1⟩ := fld_one hf hl i o t h hc
  obtain ⟨z, h2, _⟩ := DataW.trod_int hu h1
  exact ⟨z, take_one h2⟩
theorem ci : Tryd.prog.cellsOf 3 = 1 := by kernel_rfl
theorem cst : Tryd.prog.cellsOf 9 = 1 := by kernel_rfl
theorem cis : Tryd.prog.cellsOf 29 = 1 := by kernel_rfl
theorem cbx : Tryd.prog.cellsOf 35 = 5 := by kernel_rfl
theorem cvl : Tryd.prog.cellsOf 42 = 2 := by kernel_rfl
theorem csy : Tryd.prog.cellsOf 44 = 118 := by kernel_rfl
theorem fld_strb {P : Program} {fs : Array Field} {n : Nat} {xs : List (DataW H × List MemPlace)} (hf : ∀ (i : Nat) (f : Field), fs[i]? = some f → DataW.trod enc P w base spare held n f.type ((cs.drop f.offset).take (P.cellsOf f.type)) = xs[i]?) (hl : xs.length = fs.size)
    (i o : Nat) (t : TypeId) (h : (fs[i]?).map (fun f => (f.type, f.offset)) = some (t, o)) (hc : P.cellsOf t = 1) (hu : P.underlying t = some .string) : ∃ s : ByteArray, cs[o]? = some (.string s) ∧ s.size + 1 ≤ Rows.uptoBulkAll (xs.map (·.1)) := by
  obtain ⟨y, hy, h1⟩ := fld_one hf hl i o t h hc
  obtain ⟨s, h2, h3, _⟩ := DataW.trod_string hu h1
  refine ⟨s, take_one h2, ?_⟩
  have h4 := bulk_part (List.mem_map_of_mem (f := (·.1)) (List.mem_of_getElem? hy))
  rw [h3] at h4
  simpa [Rows.uptoBulk] using h4
theorem open_box (h : DataW.trod enc Tryd.prog w base spare held fuel 35 cs = some x) : 4 ≤ Rows.uptoBulk x.1 ∧ ∃ (b : Bo) (Ak : Option Addr) (ck : Nat), b.text.size + 1 ≤ Rows.uptoBulk x.1 ∧ cs[0]? = some (.int .i64 b.kind) ∧ cs[1]? = some (.int .i64 b.node) ∧ cs[2]? = some (.int .i64 b.par) ∧ cs[3]? = some (.slice Ak b.kids.length ck) ∧ cs[4]? = some (.string b.text) ∧ Reads w w.heap.size 1 Ak b.kids.length (b.kids.map (Value.int .i64)) ∧ b.kids.length ≤ maxLen := by
  obtain ⟨xs, n, _, hx, hlen, hxl, hf⟩ := DataW.trod_struct Tryd.underlying35 h
  obtain ⟨z0, h0⟩ := fld_int hf hxl 0 0 3 rfl ci Tryd.underlying3
  obtain ⟨z1, h1⟩ := fld_int hf hxl 1 1 3 rfl ci Tryd.underlying3
  obtain ⟨z2, h2⟩ := fld_int hf hxl 2 2 3 rfl ci Tryd.underlying3
  obtain ⟨y3, _, h3⟩ := fld_one hf hxl 3 3 29 rfl cis
  obtain ⟨s4, h4, hb4⟩ := fld_strb hf hxl 4 4 9 rfl cst Tryd.underlying9
  obtain ⟨A, c, ks, e1, e2, e3⟩ := open_nums Tryd.underlying29 Tryd.underlying3 ci h3
  refine ⟨?_, ⟨z0, z1, z2, ks, s4⟩, A, c, by rw [hx]; simp only [Rows.uptoBulk]; omega, h0, h1, h2, take_one e1, h4, e3, e2⟩
  rw [hx]
  have := bulk_agg (xs.map (·.1))
  rw [List.length_map, hxl] at this
  exact Nat.le_trans (by decide) this
theorem open_sty_cells (h : DataW.trod enc Tryd.prog w base spare held fuel 44 cs = some x) : ∃ R : Nat → Int, ∀ j, j < 118 → cs[j]? = some (.int .i64 (R j)) := by
  obtain ⟨xs, n, _, hx, hlen, hxl, hf⟩ := DataW.trod_array Tryd.underlying44 h
  rw [cvl] at hf
  have key : ∀ j, j < 118 → ∃ z, cs[j]? = some (.int .i64 z) := by
    intro j hj
    have h1 := hf (j / 2) (by omega)
    rw [List.getElem?_eq_getElem (by omega)] at h1
    obtain ⟨ys, m, _, _, _, hyl, hg⟩ := DataW.trod_struct Tryd.underlying42 h1
    have hj2 : j % 2 = 0 ∨ j % 2 = 1 := by omega
    rcases hj2 with e | e
    · obtain ⟨z, hz⟩ := fld_int hg hyl 0 0 3 rfl ci Tryd.underlying3
      rw [List.getElem?_take_of_lt (by omega), List.getElem?_drop] at hz
      exact ⟨z, by rw [← hz]; congr 1; omega⟩
    · obtain ⟨z, hz⟩ := fld_int hg hyl 1 1 3 rfl ci Tryd.underlying3
      rw [List.getElem?_take_of_lt (by omega), List.getElem?_drop] at hz
      exact ⟨z, by rw [← hz]; congr 1; omega⟩
  refine ⟨fun j => if h : j < 118 then Classical.choose (key j h) else 0, fun j hj => ?_⟩
  simp only [dif_pos hj]
  exact Classical.choose_spec (key j hj)
theorem bos_of {P : Nat → Bo → Prop} : ∀ n, (∀ k, k < n → ∃ c, P k c) → ∃ l : List Bo, l.length = n ∧ ∀ k, k < n → P k (boAt l k)
  | 0, _ => ⟨[], rfl, fun k hk => absurd hk (Nat.not_lt_zero _)⟩
  | n + 1, h => by
    obtain ⟨l, hl, hp⟩ := bos_of n fun k hk => h k (by omega)
    obtain ⟨c, hc⟩ := h n (by omega)
    refine ⟨l ++ [c], by simp [hl], fun k hk => ?_⟩
    by_cases e : k = n
    · subst e
      simpa [boAt, List.getD, ← hl] using hc
    · have := hp k (by omega)
      have e2 : boAt (l ++ [c]) k = boAt l k := by simp [boAt, List.getD, List.getElem?_append_left (show k < l.length by omega)]
      rw [e2]; exact this
theorem open_boxes (h : DataW.trod enc Tryd.prog w base spare held fuel 22 cs = some x) : ∃ (A : Option Addr) (c : Nat) (l : List Bo), cs = [.slice A l.length c] ∧ BoxIn w w.heap.size A l ∧ 4 * l.length ≤ Rows.uptoBulk x.1 ∧ (∀ k, k < l.length → (boAt l k).text.size ≤ Rows.uptoBulk x.1) ∧ tot (ownN l) l.length ≤ 2 * Rows.uptoBulk x.1 := by
  obtain ⟨A, n, c, D, rfl, hn, hc, hb, hi⟩ := open_each Tryd.underlying22 h
  rcases Nat.eq_zero_or_pos n with rfl | h0
  · exact ⟨A, c, [], rfl, fun k hk => absurd hk (Nat.not_lt_zero _), by simp, fun k hk => absurd hk (Nat.not_lt_zero _), by simp [tot]⟩
  · obtain ⟨g, off, rfl, hg, he⟩ := hi h0 (by rw [cbx]; decide)
    rw [cbx] at he
    obtain ⟨l, hl, hp⟩ := bos_of (P := fun k b => (4 ≤ Rows.uptoBulk (D k) ∧ b.text.size + 1 ≤ Rows.uptoBulk (D k)) ∧ ∃ Ak ck, BoxC w w.heap.size g (off + k * 5) b Ak ck ∧ b.kids.length ≤ maxLen) n fun k hk => by
      obtain ⟨m, cs', y, hy, hyD, _, hcell⟩ := he k hk
      obtain ⟨e4', b, Ak, ck, eb, e0, e1, e2, e3, e4, e5, e6⟩ := open_box hy
      rw [hyD] at e4' eb
      exact ⟨b, ⟨e4', eb⟩, Ak, ck, ⟨(hcell 0 (by omega)).trans e0, (hcell 1 (by omega)).trans e1, (hcell 2 (by omega)).trans e2, (hcell 3 (by omega)).trans e3, (hcell 4 (by omega)).trans e4, e5⟩, e6⟩
    subst hl
    refine ⟨_, c, l, rfl, fun k hk => ?_, ?_, fun k hk => ?_, ?_⟩
    · obtain ⟨_, Ak, ck, h1, h2⟩ := hp k hk
      exact ⟨g, off, Ak, ck, rfl, hg, h1, h2⟩
    · have h1 := bulk_len 4 ((List.range l.length).map D) fun d hd => by
        obtain ⟨i, hi1, rfl⟩ := List.mem_map.1 hd
        exact (hp i (List.mem_range.1 hi1)).1.1
      rw [List.length_map, List.length_range] at h1
      omega
    · have h1 := (hp k hk).1.2
      have h2 := bulk_at D l.length k hk
      omega
    · have h1 := tot_bulk (ownN l) D l.length fun k hk => by
        have h1 := (hp k hk).1.2
        unfold ownN
        omega
      omega
theorem open_stys (h : DataW.trod enc Tryd.prog w base spare held fuel 23 cs = some x) : ∃ (A : Option Addr) (n c : Nat) (R : Nat → Nat → Int), cs = [.slice A n c] ∧ n ≤ maxLen ∧ StyIn w w.heap.size A n R := by
  obtain ⟨A, n, c, D, rfl, hn, hc, _, hi⟩ := open_each Tryd.underlying23 h
  rcases Nat.eq_zero_or_pos n with rfl | h0
  · exact ⟨A, 0, c, fun _ _ => 0, rfl, Nat.zero_le _, fun k hk => absurd hk (Nat.not_lt_zero _)⟩
  · obtain ⟨g, off, rfl, hg, he⟩ := hi h0 (by rw [csy]; decide)
    rw [csy] at he
    have key : ∀ k, k < n → ∃ R : Nat → Int, ∀ j, j < 118 → w.cell? ⟨g, off + k * 118 + j, none⟩ = some (.int .i64 (R j)) := fun k hk => by
      obtain ⟨m, cs', y, hy, _, _, hcell⟩ := he k hk
      obtain ⟨R, hR⟩ := open_sty_cells hy
      exact ⟨R, fun j hj => (hcell j hj).trans (hR j hj)⟩
    refine ⟨_, n, c, fun k => if h : k < n then Classical.choose (key k h) else fun _ => 0, rfl, by omega, fun k hk => ⟨g, off, rfl, hg, ?_⟩⟩
    simp only [dif_pos hk]
    exact Classical.choose_spec (key k hk)
end
end Go.Proofs.YtdnnodpkgncegaaDoor
