/- Parts of the proof, joined: BrkMem, BrkState. -/
import Derived.Test.YtadlabndbomgmaaDoorJ5
import Derived.Test.YtadlabndbomgmaaDoorJ2
import Derived.Test.YtadlabndbomgmaaDoorJMetrics
set_option linter.unusedVariables false
set_option linter.unusedSimpArgs false
/- How a breaker's lines lie in memory. -/
namespace Go.Proofs.YtadlabndbomgmaaDoor
open Go.RowKit
def pcC (p : Pc) : List Value := [.int .i64 p.item, .int .i64 p.x, .int .i64 p.w, .string p.t]
def pcCells (l : List Pc) : List Value := l.flatMap pcC
theorem pcCells_snoc (l : List Pc) (c : Pc) : pcCells (l ++ [c]) = pcCells l ++ pcC c := by simp [pcCells]
theorem pcCells_len (l : List Pc) : (pcCells l).length = l.length * 4 := by
  induction l with
  | nil => rfl
  | cons c l ih => simp only [pcCells, List.flatMap_cons, List.length_append] at ih ⊢; rw [ih]; simp [pcC]; omega
theorem pcCells_at : ∀ (l : List Pc) (k j : Nat) (h : k < l.length), j < 4 → (pcCells l)[k * 4 + j]? = (pcC l[k])[j]?
  | d :: l, 0, j, _, hj => by
    show (pcC d ++ pcCells l)[0 * 4 + j]? = _
    rw [Nat.zero_mul, Nat.zero_add, List.getElem?_append_left (by simpa [pcC] using hj)]; rfl
  | d :: l, k + 1, j, h, hj => by
    show (pcC d ++ pcCells l)[(k + 1) * 4 + j]? = _
    rw [List.getElem?_append_right (by simp [pcC]; omega), show (k + 1) * 4 + j - (pcC d).length = k * 4 + j by simp [pcC]; omega, pcCells_at l k j (by simpa using h) hj]; rfl
def lnC (o : Ln) (v : Value) : List Value := [.int .i64 o.x, .int .i64 o.y, .int .i64 o.w, .int .i64 o.h, .int .i64 o.base, v, .bool o.last]
def lnCells (q : List (Ln × Value)) : List Value := q.flatMap fun a => lnC a.1 a.2
theorem lnCells_snoc (l : List (Ln × Value)) (a : Ln × Value) : lnCells (l ++ [a]) = lnCells l ++ lnC a.1 a.2 := by simp [lnCells]
theorem lnCells_len (l : List (Ln × Value)) : (lnCells l).length = l.length * 7 := by
  induction l with
  | nil => rfl
  | cons c l ih => simp only [lnCells, List.flatMap_cons, List.length_append] at ih ⊢; rw [ih]; simp [lnC]; omega
theorem lnCells_at : ∀ (l : List (Ln × Value)) (k j : Nat) (h : k < l.length), j < 7 → (lnCells l)[k * 7 + j]? = (lnC l[k].1 l[k].2)[j]?
  | d :: l, 0, j, _, hj => by
    show (lnC d.1 d.2 ++ lnCells l)[0 * 7 + j]? = _
    rw [Nat.zero_mul, Nat.zero_add, List.getElem?_append_left (by simpa [lnC] using hj)]; rfl
  | d :: l, k + 1, j, h, hj => by
    show (lnC d.1 d.2 ++ lnCells l)[(k + 1) * 7 + j]? = _
    rw [List.getElem?_append_right (by simp [lnC]; omega), show (k + 1) * 7 + j - (lnC d.1 d.2).length = k * 7 + j by simp [lnC]; omega, lnCells_at l k j (by simpa using h) hj]; rfl
/-- Lines in a row of their own, each one's pieces in one of theirs. -/
def LinesAt (w : World) (B : Nat) (v : Value) (out : List Ln) : Prop :=
  ∃ q : List (Ln × Value), q.map (·.1) = out ∧ w.ownsRow B 52 7 v out.length (lnCells q) ∧ ∀ a ∈ q, w.ownsRow B 54 4 a.2 a.1.pcs.length (pcCells a.1.pcs)
theorem LinesAt.none_ (w : World) (B : Nat) : LinesAt w B (.slice none 0 0) [] := ⟨[], rfl, own_none _ _ _ _, fun _ h => by cases h⟩
theorem LinesAt.below {w w' : World} {B : Nat} {v : Value} {out : List Ln} (h : LinesAt w B v out) (hb : Below w.heap.size w w') : LinesAt w' B v out := by
  obtain ⟨q, h1, h2, h3⟩ := h
  exact ⟨q, h1, own_keep h2 hb (own_lt h2), fun a ha => own_keep (h3 a ha) hb (own_lt (h3 a ha))⟩
theorem LinesAt.grown {w w' : World} {B b : Nat} {v : Value} {out : List Ln} {t : TypeId} {cs : Array Value} (h : LinesAt w B v out) (hb : Blk w b t cs) (h1 : 52 ≠ t) (h2 : 54 ≠ t) (g : w.grownBy w' (some b)) : LinesAt w' B v out := by
  obtain ⟨q, e1, e2, e3⟩ := h
  exact ⟨q, e1, own_stays e2 g (own_blk_ne e2 hb h1), fun a ha => own_stays (e3 a ha) g (own_blk_ne (e3 a ha) hb h2)⟩
theorem LinesAt.other {w w' : World} {B b1 s1 n1 : Nat} {v v1 : Value} {out : List Ln} {t : TypeId} {x1 : List Value} (h : LinesAt w B v out) (ho : w.ownsRow b1 t s1 v1 n1 x1) (h1 : 52 ≠ t) (h2 : 54 ≠ t) (g : w.grownBy w' v1.ownBlock) : LinesAt w' B v out := by
  obtain ⟨q, e1, e2, e3⟩ := h
  exact ⟨q, e1, own_other e2 ho h1 g, fun a ha => own_other (e3 a ha) ho h2 g⟩
/-- One cell of a part is stored anew. -/
theorem PtsAt.set_ {w : World} {g h : Nat} {ps : List Pt} {t : TypeId} {cs : Array Value} (hp : PtsAt w g h 0 ps) (hb : Blk w h t cs) (k j : Nat) (hk : k < ps.length) (_hj : j < 5) (p : Pt) (v : Value) (hv : (ptC g p)[j]? = some v) (ho : ∀ i, i < 5 → i ≠ j → (ptC g p)[i]? = (ptC g (ptAt ps k))[i]?) :
    PtsAt (w.setCell ⟨h, k * 5 + j, none⟩ v) g h 0 (ps.set k p) := by
  intro i hi r hr
  rw [List.length_set] at hi
  have hat : ptAt (ps.set k p) i = if i = k then p else ptAt ps i := by
    rw [ptAt_of _ _ (by rw [List.length_set]; exact hi), List.getElem_set]
    by_cases e : k = i
    · rw [if_pos e, if_pos e.symm]
    · rw [if_neg e, if_neg (fun h => e h.symm), ptAt_of ps i hi]
  have h0 := hp i hi r hr
  have hcl := (hb.set_ (k * 5 + j) v).cell (0 + i * 5 + r)
  have hcl0 := hb.cell (0 + i * 5 + r)
  rw [hcl, hat]
  by_cases e : i = k
  · subst e
    rw [if_pos rfl]
    by_cases e2 : r = j
    · subst e2
      rw [hv, show 0 + i * 5 + r = i * 5 + r by omega]
      have : i * 5 + r < cs.size := by
        rw [hcl0] at h0
        rcases Nat.lt_or_ge (0 + i * 5 + r) cs.size with h9 | h9
        · omega
        · rw [Array.getElem?_eq_none h9] at h0
          exfalso
          have : (ptC g (ptAt ps i)).length = 5 := rfl
          rw [List.getElem?_eq_getElem (by omega)] at h0
          cases h0
      rw [Array.getElem?_setIfInBounds_self_of_lt this]
    · rw [ho r hr e2, ← h0, hcl0, Array.getElem?_setIfInBounds_ne (by omega)]
  · rw [if_neg e, ← h0, hcl0, Array.getElem?_setIfInBounds_ne (by omega)]
end Go.Proofs.YtadlabndbomgmaaDoor
/- The breaker's state in memory, and what a step of it leaves alone. -/
namespace Go.Proofs.YtadlabndbomgmaaDoor
open Go.RowKit
/-- But for the blocks C, and new ones, the world is as it was. -/
structure Only (C : Nat → Prop) (w w' : World) : Prop where
  os : w'.os = w.os
  tape : w'.tape = w.tape
  output : w'.output = w.output
  size : w.heap.size ≤ w'.heap.size
  block : ∀ k, k < w.heap.size → ¬ C k → w'.heap[k]? = w.heap[k]?
theorem Only.refl (C : Nat → Prop) (w : World) : Only C w w := ⟨rfl, rfl, rfl, Nat.le_refl _, fun _ _ _ => rfl⟩
theorem Only.trans {C : Nat → Prop} {a b c : World} (h : Only C a b) (k : Only C b c) : Only C a c :=
  ⟨k.os.trans h.os, k.tape.trans h.tape, k.output.trans h.output, Nat.le_trans h.size k.size, fun i hi hc => (k.block i (Nat.lt_of_lt_of_le hi h.size) hc).trans (h.block i hi hc)⟩
theorem Only.mono {C D : Nat → Prop} {a b : World} (h : Only C a b) (hd : ∀ k, k < a.heap.size → C k → D k) : Only D a b := ⟨h.os, h.tape, h.output, h.size, fun i hi hc => h.block i hi fun hi2 => hc (hd i hi hi2)⟩
theorem Only.of_below {C : Nat → Prop} {w w' : World} (h : Below w.heap.size w w') : Only C w w' := ⟨h.os, h.tape, h.output, h.size, fun k hk _ => h.block k hk⟩
theorem Only.of_grown {C : Nat → Prop} {w w' : World} {row : Option Nat} (h : w.grownBy w' row) (hr : ∀ k, row = some k → C k) : Only C w w' := ⟨h.os, h.tape, h.output, h.size, fun k hk hc => h.block k hk fun e => hc (hr k e.symm)⟩
/-- The blocks K are as they were. -/
structure Kept (K : Nat → Prop) (w w' : World) : Prop where
  os : w'.os = w.os
  tape : w'.tape = w.tape
  output : w'.output = w.output
  size : w.heap.size ≤ w'.heap.size
  block : ∀ k, K k → w'.heap[k]? = w.heap[k]?
theorem Kept.refl (K : Nat → Prop) (w : World) : Kept K w w := ⟨rfl, rfl, rfl, Nat.le_refl _, fun _ _ => rfl⟩
theorem Kept.trans {K : Nat → Prop} {a b c : World} (h : Kept K a b) (k : Kept K b c) : Kept K a c :=
  ⟨k.os.trans h.os, k.tape.trans h.tape, k.output.trans h.output, Nat.le_trans h.size k.size, fun i hi => (k.block i hi).trans (h.block i hi)⟩
theorem Kept.of_only {C K : Nat → Prop} {w w' : World} (h : Only C w w') (hK : ∀ k, K k → k < w.heap.size) (hc : ∀ k, C k → ¬ K k) : Kept K w w' := ⟨h.os, h.tape, h.output, h.size, fun k hk => h.block k (hK k hk) fun e => hc k e hk⟩
theorem Kept.of_below {K : Nat → Prop} {w w' : World} (h : Below w.heap.size w w') (hK : ∀ k, K k → k < w.heap.size) : Kept K w w' := ⟨h.os, h.tape, h.output, h.size, fun k hk => h.block k (hK k hk)⟩
theorem Kept.of_grown {K : Nat → Prop} {w w' : World} {row : Option Nat} (h : w.grownBy w' row) (hK : ∀ k, K k → k < w.heap.size) (hr : ∀ k, row = some k → ¬ K k) : Kept K w w' := ⟨h.os, h.tape, h.output, h.size, fun k hk => h.block k (hK k hk) fun e => hr k e.symm hk⟩
theorem Kept.below {K : Nat → Prop} {w w' : World} {B : Nat} (h : Kept K w w') (hB : ∀ k, k < B → K k) : Below B w w' := ⟨h.os, h.tape, h.output, h.size, fun k hk => h.block k (hB k hk)⟩
theorem Kept.drew {K : Nat → Prop} {w w' : World} (h : Kept K w w') : Kept K w w'.drew := ⟨h.os, h.tape, h.output, h.size, h.block⟩
theorem Only.drew {C : Nat → Prop} {w w' : World} (h : Only C w w') : Only C w w'.drew := ⟨h.os, h.tape, h.output, h.size, h.block⟩
/-- A row whose block has not changed. -/
theorem own_only {C : Nat → Prop} {w w' : World} {base size n : Nat} {e : TypeId} {v : Value} {xs : List Value} (h : w.ownsRow base e size v n xs) (k : Only C w w') (hc : ∀ i, v.ownBlock = some i → ¬ C i) : w'.ownsRow base e size v n xs := by
  refine ⟨h.1, ?_⟩
  rcases h.2 with hn | ⟨g, cap, cur, rfl, hb, hgg, rest⟩
  · exact .inl hn
  · refine .inr ⟨g, cap, cur, rfl, hb, ?_, rest⟩
    rw [k.block g (Array.getElem?_eq_some_iff.1 hgg).1 (hc g rfl)]
    exact hgg
theorem blk_only {C : Nat → Prop} {w w' : World} {g : Nat} {t : TypeId} {cs : Array Value} (h : Blk w g t cs) (k : Only C w w') (hc : ¬ C g) : Blk w' g t cs := (k.block g h.lt hc).trans h
theorem LinesAt.only {C : Nat → Prop} {w w' : World} {B : Nat} {v : Value} {out : List Ln} (h : LinesAt w B v out) (k : Only C w w') (hc : ∀ i t cs, C i → i < w.heap.size → Blk w i t cs → t ≠ 52 ∧ t ≠ 54) (hC : ∀ i, C i → i < w.heap.size → ∃ t cs, Blk w i t cs) : LinesAt w' B v out := by
  obtain ⟨q, e1, e2, e3⟩ := h
  have key : ∀ (e : TypeId) (size n : Nat) (v : Value) (xs : List Value), w.ownsRow B e size v n xs → (e = 52 ∨ e = 54) → w'.ownsRow B e size v n xs := fun e size n v xs ho he => by
    refine own_only ho k fun i hi hci => ?_
    have hlt := own_lt ho i hi
    obtain ⟨t, cs, hb⟩ := hC i hci hlt
    obtain ⟨n1, n2⟩ := hc i t cs hci hlt hb
    refine own_blk_ne ho hb ?_ hi
    rcases he with rfl | rfl
    · exact fun e => n1 e.symm
    · exact fun e => n2 e.symm
  exact ⟨q, e1, key _ _ _ _ _ e2 (.inl rfl), fun a ha => key _ _ _ _ _ (e3 a ha) (.inr rfl)⟩
/-- The breaker in memory: its own block b, what floats behind fp, its rows; the blocks K are none of its own. -/
structure BrV (w : World) (K : Nat → Prop) (b fp g : Nat) (W sz ht al : Int) (st : BG) (Lv Tv Ov Fv : Value) : Prop where
  blk : Blk w b 81 (brA fp st.y sz ht al st.ind st.left st.right Lv st.full Tv Ov)
  line : w.ownsRow 0 96 5 Lv st.line.length (ptCells g st.line)
  late : w.ownsRow 0 96 5 Tv st.late.length (ptCells g st.late)
  lines : LinesAt w 0 Ov st.out
  flo : Blk w fp 89 #[.int .i64 W, Fv]
  fls : w.ownsRow 0 153 5 Fv st.fs.length (flCells st.fs)
  two : ∀ k, Lv.ownBlock = some k → Tv.ownBlock ≠ some k
  kb : ¬ K b
  kf : ¬ K fp
  kL : ∀ k, Lv.ownBlock = some k → ¬ K k
  kT : ∀ k, Tv.ownBlock = some k → ¬ K k
  kO : ∀ k, Ov.ownBlock = some k → ¬ K k
  kF : ∀ k, Fv.ownBlock = some k → ¬ K k
  kk : ∀ k, K k → k < w.heap.size
section
variable {w w' : World} {K : Nat → Prop} {b fp g : Nat} {W sz ht al : Int} {st : BG} {Lv Tv Ov Fv : Value}
theorem BrV.floats (h : BrV w K b fp g W sz ht al st Lv Tv Ov Fv) : FloatsAt w 0 fp W st.fs := by
  obtain ⟨A, c, rfl, _, _⟩ := own_reads h.fls
  exact ⟨A, c, h.flo, Nat.zero_le _, h.fls⟩
theorem BrV.below (h : BrV w K b fp g W sz ht al st Lv Tv Ov Fv) (k : Below w.heap.size w w') : BrV w' K b fp g W sz ht al st Lv Tv Ov Fv :=
  ⟨h.blk.below k h.blk.lt, own_keep h.line k (own_lt h.line), own_keep h.late k (own_lt h.late), h.lines.below k, h.flo.below k h.flo.lt, own_keep h.fls k (own_lt h.fls), h.two, h.kb, h.kf, h.kL, h.kT, h.kO, h.kF, fun i hi => Nat.lt_of_lt_of_le (h.kk i hi) k.size⟩
/-- The breaker's own block alone is written: rows stay, or become nil. -/
theorem BrV.b_set {st' : BG} {Lv' Tv' : Value} (h : BrV w K b fp g W sz ht al st Lv Tv Ov Fv) (hb : Blk w' b 81 (brA fp st'.y sz ht al st'.ind st'.left st'.right Lv' st'.full Tv' Ov)) (hg : w.grownBy w' (some b))
    (e1 : (Lv' = Lv ∧ st'.line = st.line) ∨ (Lv' = .slice none 0 0 ∧ st'.line = [])) (e2 : (Tv' = Tv ∧ st'.late = st.late) ∨ (Tv' = .slice none 0 0 ∧ st'.late = [])) (e3 : st'.out = st.out) (e4 : st'.fs = st.fs) : BrV w' K b fp g W sz ht al st' Lv' Tv' Ov Fv := by
  have l1 : w'.ownsRow 0 96 5 Lv' st'.line.length (ptCells g st'.line) := by
    rcases e1 with ⟨rfl, e⟩ | ⟨rfl, e⟩
    · rw [e]; exact own_stays h.line hg (own_blk_ne h.line h.blk (by decide))
    · rw [e]; exact own_none _ _ _ _
  have l2 : w'.ownsRow 0 96 5 Tv' st'.late.length (ptCells g st'.late) := by
    rcases e2 with ⟨rfl, e⟩ | ⟨rfl, e⟩
    · rw [e]; exact own_stays h.late hg (own_blk_ne h.late h.blk (by decide))
    · rw [e]; exact own_none _ _ _ _
  refine ⟨hb, l1, l2, by rw [e3]; exact h.lines.grown h.blk (by decide) (by decide) hg, h.flo.grown hg (fun e => (h.flo.ne_ h.blk (by decide)) (by injection e)), by rw [e4]; exact own_stays h.fls hg (own_blk_ne h.fls h.blk (by decide)), ?_, h.kb, h.kf, ?_, ?_, h.kO, h.kF, fun i hi => Nat.lt_of_lt_of_le (h.kk i hi) hg.size⟩
  · rcases e1 with ⟨rfl, _⟩ | ⟨rfl, _⟩
    · rcases e2 with ⟨rfl, _⟩ | ⟨rfl, _⟩
      · exact h.two
      · intro k _ h2; cases h2
    · intro k h2; cases h2
  · rcases e1 with ⟨rfl, _⟩ | ⟨rfl, _⟩
    · exact h.kL
    · intro k h2; cases h2
  · rcases e2 with ⟨rfl, _⟩ | ⟨rfl, _⟩
    · exact h.kT
    · intro k h2; cases h2
theorem BrV.kept_b (h : BrV w K b fp g W sz ht al st Lv Tv Ov Fv) (hg : w.grownBy w' (some b)) : Kept K w w' := Kept.of_grown hg h.kk fun k e => by injection e with e; rw [← e]; exact h.kb
/-- What floats is written. -/
theorem BrV.f_set {fs' : List Fl} {Fv' : Value} (h : BrV w K b fp g W sz ht al st Lv Tv Ov Fv) (hb : Blk w' fp 89 #[.int .i64 W, Fv']) (hf : w'.ownsRow 0 153 5 Fv' fs'.length (flCells fs')) (hg : Only (fun k => k = fp ∨ Fv.ownBlock = some k) w w')
    (hn : ∀ k, Fv'.ownBlock = some k → Fv.ownBlock = some k ∨ w.heap.size ≤ k) : BrV w' K b fp g W sz ht al { st with fs := fs' } Lv Tv Ov Fv' := by
  have hkey : ∀ i, i < w.heap.size → (i = fp ∨ Fv.ownBlock = some i) → ∃ t cs, Blk w i t cs ∧ (t = 89 ∨ t = 153) := fun i _ hi => by
    rcases hi with rfl | hi
    · exact ⟨_, _, h.flo, .inl rfl⟩
    · rcases h.fls.2 with ⟨h9, _⟩ | ⟨q, cap, cur, h9, _, hq, _⟩
      · rw [h9] at hi; cases hi
      · rw [h9] at hi
        have : q = i := by injection hi
        subst this
        exact ⟨_, _, hq, .inr rfl⟩
  have row : ∀ {e : TypeId} {size n : Nat} {v : Value} {xs : List Value}, w.ownsRow 0 e size v n xs → e ≠ 89 → e ≠ 153 → w'.ownsRow 0 e size v n xs := fun ho n1 n2 => by
    refine own_only ho hg fun i hi hci => ?_
    obtain ⟨t, cs, hq, ht⟩ := hkey i (own_lt ho i hi) hci
    refine own_blk_ne ho hq ?_ hi
    rcases ht with rfl | rfl
    · exact n1
    · exact n2
  have hbne : ¬ (b = fp ∨ Fv.ownBlock = some b) := fun hc => by
    obtain ⟨t, cs, hq, ht⟩ := hkey b h.blk.lt hc
    rcases ht with rfl | rfl
    · exact (hq.ne_ h.blk (by decide)) rfl
    · exact (hq.ne_ h.blk (by decide)) rfl
  refine ⟨blk_only h.blk hg hbne, row h.line (by decide) (by decide), row h.late (by decide) (by decide), ?_, hb, hf, h.two, h.kb, h.kf, h.kL, h.kT, h.kO, ?_, fun i hi => Nat.lt_of_lt_of_le (h.kk i hi) hg.size⟩
  · refine h.lines.only hg (fun i t cs hci hi hq => ?_) (fun i hci hi => by obtain ⟨t, cs, hq, _⟩ := hkey i hi hci; exact ⟨t, cs, hq⟩)
    obtain ⟨t2, cs2, hq2, ht2⟩ := hkey i hi hci
    have hcell : some (Obj.cells cs t (0, 0)) = some (Obj.cells cs2 t2 (0, 0)) := hq.symm.trans hq2
    injection hcell with hcell
    injection hcell with _ ht _
    subst ht
    rcases ht2 with rfl | rfl <;> exact ⟨by decide, by decide⟩
  · intro k hk
    rcases hn k hk with h9 | h9
    · exact h.kF k h9
    · exact fun hK => by have := h.kk k hK; omega
theorem BrV.kept_f (h : BrV w K b fp g W sz ht al st Lv Tv Ov Fv) (hg : Only (fun k => k = fp ∨ Fv.ownBlock = some k) w w') : Kept K w w' := Kept.of_only hg h.kk fun k hk => by
  rcases hk with rfl | hk
  · exact h.kf
  · exact h.kF k hk
end
/-- What holds of what floats, of items that are tame. -/
def FsOk (fs : List Fl) : Prop := fs.length ≤ 200 ∧ ∀ f ∈ fs, FlBd f ∧ f.y + f.h ≤ 16777216 + 65535 * (fs.length : Int)
theorem FsOk.nil : FsOk [] := ⟨Nat.zero_le _, fun f hf => by cases hf⟩
end Go.Proofs.YtadlabndbomgmaaDoor
