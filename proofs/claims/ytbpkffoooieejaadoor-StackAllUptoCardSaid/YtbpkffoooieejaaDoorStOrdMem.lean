/- The order's state in memory while marks and kids are gathered. -/
import Derived.Test.YtbpkffoooieejaaDoorStTellMem2
import Derived.Test.YtbpkffoooieejaaDoorLooks
namespace Go.Proofs.YtbpkffoooieejaaDoor
open Go.RowKit Go.Sort
def mkCells (Ms : List Mk) : List Value := Ms.flatMap fun m => [.int .i64 m.1, .int .i64 m.2.1, .int .i64 m.2.2]
theorem mkCells_snoc (Ms : List Mk) (m : Mk) : mkCells (Ms ++ [m]) = mkCells Ms ++ [.int .i64 m.1, .int .i64 m.2.1, .int .i64 m.2.2] := by simp [mkCells]
theorem mkCells_len (Ms : List Mk) : (mkCells Ms).length = Ms.length * 3 := by
  induction Ms with
  | nil => rfl
  | cons a s ih =>
    have e : mkCells (a :: s) = [.int .i64 a.1, .int .i64 a.2.1, .int .i64 a.2.2] ++ mkCells s := rfl
    rw [e, List.length_append, ih, List.length_cons]
    simp only [List.length_cons, List.length_nil]
    omega
theorem mkCells_at (Ms : List Mk) (i : Nat) (m : Mk) (h : Ms[i]? = some m) : (mkCells Ms)[i * 3]? = some (.int .i64 m.1) ∧ (mkCells Ms)[i * 3 + 1]? = some (.int .i64 m.2.1) ∧ (mkCells Ms)[i * 3 + 2]? = some (.int .i64 m.2.2) := by
  induction Ms generalizing i with
  | nil => simp at h
  | cons a s ih =>
    have e : mkCells (a :: s) = .int .i64 a.1 :: .int .i64 a.2.1 :: .int .i64 a.2.2 :: mkCells s := rfl
    rw [e]
    cases i with
    | zero =>
      obtain rfl : a = m := by simpa using h
      exact ⟨rfl, rfl, rfl⟩
    | succ i =>
      obtain ⟨h1, h2, h3⟩ := ih i (by simpa using h)
      rw [show (i + 1) * 3 = i * 3 + 1 + 1 + 1 by omega]
      exact ⟨by simpa using h1, by simpa using h2, by simpa using h3⟩
theorem mkCells_set0 (m : Mk) (Ms : List Mk) (x : Int) : (mkCells (m :: Ms)).set 0 (.int .i64 x) = mkCells ((x, m.2) :: Ms) := rfl
theorem kidsF_succ (k : Nat) (par : Nat → Nat) (f : Nat) : kidsF (k + 1) par f = kidsF k par f ++ (if 0 < k ∧ par k = f then [k] else []) := by
  unfold kidsF
  rw [List.range_succ, List.filter_append]
  congr 1
  by_cases h : 0 < k ∧ par k = f
  · rw [if_pos h]; simp [h.1, h.2]
  · rw [if_neg h]
    by_cases h0 : 0 < k
    · have h1 : ¬ par k = f := fun e => h ⟨h0, e⟩
      simp [h1]
    · simp [h0]
theorem kidsF_zero (par : Nat → Nat) (f : Nat) : kidsF 0 par f = [] := rfl
def kvA (KV : Nat → Value) (n : Nat) : Array Value := ((List.range n).map KV).toArray
theorem kvA_size (KV : Nat → Value) (n : Nat) : (kvA KV n).size = n := by simp [kvA]
theorem kvA_at (KV : Nat → Value) (n f : Nat) (h : f < n) : (kvA KV n)[f]? = some (KV f) := by simp [kvA, h]
theorem kvA_set (KV : Nat → Value) (n p : Nat) (v : Value) : (kvA KV n).setIfInBounds p v = kvA (fun f => if f = p then v else KV f) n := by
  apply Array.ext
  · simp [kvA]
  · intro i h1 h2
    simp [kvA] at h2
    simp only [kvA, List.setIfInBounds_toArray, List.getElem_toArray, List.getElem_set, List.getElem_map, List.getElem_range]
    by_cases h : p = i
    · subst h; simp
    · rw [if_neg h, if_neg (fun e => h e.symm)]
theorem kvA_nil (n : Nat) : madeCells #[.slice none 0 0] n = kvA (fun _ => .slice none 0 0) n := by
  apply Array.toList_inj.1
  rw [madeCells_rep]
  simp [kvA, List.map_const']
structure MkV (w : World) (B bo n bkk k : Nat) (par : Nat → Nat) (Ms : List Mk) (V : Value) (KV : Nat → Value) : Prop where
  blk : Blk w bo 67 #[V, .slice (some ⟨bkk, 0, none⟩) n n, .slice none 0 0]
  hbo : B ≤ bo
  row : w.ownsRow B 69 3 V Ms.length (mkCells Ms)
  kblk : Blk w bkk 35 (kvA KV n)
  hbk : B ≤ bkk
  krow : ∀ f, f < n → w.ownsRow B 3 1 (KV f) (kidsF k par f).length (natCells (kidsF k par f))
  kdis : ∀ f g b, f < n → g < n → f ≠ g → (KV f).ownBlock = some b → (KV g).ownBlock ≠ some b
section
variable {w w' : World} {B bo n bkk k : Nat} {par : Nat → Nat} {Ms : List Mk} {V : Value} {KV : Nat → Value}
theorem MkV.old (h : MkV w B bo n bkk k par Ms V KV) (hb : Below w.heap.size w w') : MkV w' B bo n bkk k par Ms V KV :=
  ⟨h.blk.below hb h.blk.lt, h.hbo, own_keep h.row hb (own_lt h.row), h.kblk.below hb h.kblk.lt, h.hbk, fun f hf => own_keep (h.krow f hf) hb (own_lt (h.krow f hf)), h.kdis⟩
/-- A mark is appended. -/
theorem MkV.mark (h : MkV w B bo n bkk k par Ms V KV) (hB : B ≤ w.heap.size) (m : Mk) {v4 : Value} {w4 w5 : World} (hown : w4.ownsRow B 69 3 v4 (Ms.length + 1) (mkCells Ms ++ [.int .i64 m.1, .int .i64 m.2.1, .int .i64 m.2.2])) (hg : w.grownBy w4 V.ownBlock)
    (hb : Blk w5 bo 67 #[v4, .slice (some ⟨bkk, 0, none⟩) n n, .slice none 0 0]) (hG : w4.grownBy w5 (some bo)) : MkV w5 B bo n bkk k par (Ms ++ [m]) v4 KV ∧ Below B w w5 := by
  have hb4 : Blk w4 bo 67 _ := h.blk.grown hg (Ne.symm (own_blk_ne h.row h.blk (by decide)))
  have hk4 : Blk w4 bkk 35 _ := h.kblk.grown hg (Ne.symm (own_blk_ne h.row h.kblk (by decide)))
  have hne : bkk ≠ bo := h.kblk.ne_ h.blk (by decide)
  refine ⟨⟨hb, h.hbo, ?_, hk4.grown hG (fun e => hne (by injection e)), h.hbk, fun f hf => ?_, h.kdis⟩, ?_⟩
  · rw [List.length_append, mkCells_snoc]
    exact own_stays hown hG (own_blk_ne hown hb4 (by decide))
  · have h4 := own_other (h.krow f hf) h.row (by decide) hg
    exact own_stays h4 hG (own_blk_ne h4 hb4 (by decide))
  · exact below_grown (own_below h.row (Below.refl B w) (Nat.le_refl _) hB hg) hB hG h.hbo
/-- A kid is appended. -/
theorem MkV.kid (h : MkV w B bo n bkk k par Ms V KV) (hB : B ≤ w.heap.size) (p : Nat) (hp : p < n) (hk : 0 < k) (hpk : par k = p) {v4 : Value} {w4 w5 : World} (hown : w4.ownsRow B 3 1 v4 ((kidsF k par p).length + 1) (natCells (kidsF k par p) ++ [.int .i64 (k : Int)])) (hg : w.grownBy w4 (KV p).ownBlock) (hat : v4.ownBlock = (KV p).ownBlock ∨ v4.ownBlock = some w.heap.size)
    (hb : Blk w5 bkk 35 ((kvA KV n).setIfInBounds p v4)) (hG : w4.grownBy w5 (some bkk)) : MkV w5 B bo n bkk (k + 1) par Ms V (fun f => if f = p then v4 else KV f) ∧ Below B w w5 := by
  have hrp := h.krow p hp
  have hb4 : Blk w4 bo 67 _ := h.blk.grown hg (Ne.symm (own_blk_ne hrp h.blk (by decide)))
  have hk4 : Blk w4 bkk 35 _ := h.kblk.grown hg (Ne.symm (own_blk_ne hrp h.kblk (by decide)))
  have hne : bo ≠ bkk := h.blk.ne_ h.kblk (by decide)
  have hV4 := own_other h.row hrp (by decide) hg
  refine ⟨⟨hb4.grown hG (fun e => hne (by injection e)), h.hbo, own_stays hV4 hG (own_blk_ne hV4 hk4 (by decide)), by rw [← kvA_set]; exact hb, h.hbk, fun f hf => ?_, fun f g b hf hg9 hfg hbf => ?_⟩, ?_⟩
  · rw [kidsF_succ]
    by_cases e : f = p
    · subst e
      rw [if_pos rfl, if_pos ⟨hk, hpk⟩, List.length_append, natCells_app]
      exact own_stays hown hG (own_blk_ne hown hk4 (by decide))
    · have hne2 : ¬ (0 < k ∧ par k = f) := fun h9 => e (by rw [← h9.2, hpk])
      rw [if_neg e, if_neg hne2, List.append_nil]
      have h4 : w4.ownsRow B 3 1 (KV f) (kidsF k par f).length (natCells (kidsF k par f)) := by
        rcases hq : (KV f).ownBlock with _ | b
        · exact (h.krow f hf).kept hg (.inl hq)
        · exact own_stays (h.krow f hf) hg (fun e2 => h.kdis f p b hf hp e hq (by rw [← e2, hq]))
      exact own_stays h4 hG (own_blk_ne h4 hk4 (by decide))
  · have old : ∀ f, f < n → ∀ b, (KV f).ownBlock = some b → b < w.heap.size := fun f hf b hb => own_lt (h.krow f hf) b hb
    by_cases e1 : f = p
    · subst e1
      rw [if_pos rfl] at hbf
      rw [if_neg (fun e => hfg e.symm)]
      rcases hat with e | e
      · rw [e] at hbf; exact h.kdis f g b hf hg9 hfg hbf
      · rw [e] at hbf
        injection hbf with hbf
        intro h9
        have := old g hg9 b h9
        omega
    · rw [if_neg e1] at hbf
      by_cases e2 : g = p
      · subst e2
        rw [if_pos rfl]
        rcases hat with e | e
        · rw [e]; exact h.kdis f g b hf hg9 hfg hbf
        · rw [e]
          intro h9
          injection h9 with h9
          have := old f hf b hbf
          omega
      · rw [if_neg e2]; exact h.kdis f g b hf hg9 hfg hbf
  · exact below_grown (own_below hrp (Below.refl B w) (Nat.le_refl _) hB hg) hB hG h.hbk
/-- The first frag has no parent. -/
theorem MkV.first (h : MkV w B bo n bkk 0 par Ms V KV) : MkV w B bo n bkk 1 par Ms V KV :=
  ⟨h.blk, h.hbo, h.row, h.kblk, h.hbk, fun f hf => by rw [kidsF_succ]; simpa using h.krow f hf, h.kdis⟩
/-- The first mark is written. -/
theorem MkV.top {gm cm L : Nat} {m : Mk} {Mr : List Mk} {cur : Array Value} (h : MkV w B bo n bkk k par (m :: Mr) (.slice (some ⟨gm, 0, none⟩) L cm) KV) (hB : B ≤ w.heap.size) (hL : L = (m :: Mr).length) (hc : Blk w gm 69 cur) (x : Int)
    (hb : Blk w' gm 69 (cur.setIfInBounds 0 (.int .i64 x))) (hG : w.grownBy w' (some gm)) : MkV w' B bo n bkk k par ((x, m.2) :: Mr) (.slice (some ⟨gm, 0, none⟩) L cm) KV ∧ Below B w w' := by
  subst hL
  have hge : B ≤ gm := own_ge h.row gm rfl
  refine ⟨⟨h.blk.grown hG (fun e => (h.blk.ne_ hc (by decide)) (by injection e)), h.hbo, ?_, h.kblk.grown hG (fun e => (h.kblk.ne_ hc (by decide)) (by injection e)), h.hbk, fun f hf => own_stays (h.krow f hf) hG (own_blk_ne (h.krow f hf) hc (by decide)), h.kdis⟩, below_grown (Below.refl B w) hB hG hge⟩
  have := own_put h.row hc 0 (.int .i64 x) hb
  rw [mkCells_set0] at this
  exact this
theorem MkV.ord (h : MkV w B bo n bkk n par Ms V KV) (hn : Ms.length = n) (h0 : 0 < n) : ∃ bm cm, V = .slice (some ⟨bm, 0, none⟩) n cm ∧ OrdV w (fun b => b = bm ∨ b = bkk ∨ ∃ f, f < n ∧ (KV f).ownBlock = some b) bo n (kidsF n par) (fun f => Ms.getD f (0, 0, 0)) bm bkk cm n (.slice none 0 0) [] := by
  obtain ⟨bm, cm, cur, rfl, _, hcb, _, _, _, hct⟩ := own_form h.row (by omega)
  rw [hn]
  refine ⟨bm, cm, rfl, ⟨by rw [← hn]; rw [hn]; rw [← hn]; have := h.blk; rw [hn] at this ⊢; exact this, own_none _ _ _ _, ⟨.inl rfl, .inr (.inl rfl), fun f hf => ?_, fun f hf => ?_⟩, fun k hk => ?_, fun hk => ?_, fun k hk => by cases hk⟩⟩
  · have e : Ms[f]? = some (Ms.getD f (0, 0, 0)) := by
      rw [List.getD, List.getElem?_eq_getElem (by omega)]
      rfl
    obtain ⟨h1, h2, h3⟩ := mkCells_at Ms f _ e
    have c : ∀ (j : Nat) (u : Value), (mkCells Ms)[j]? = some u → w.cell? ⟨bm, j, none⟩ = some u := fun j u hu => by
      rw [hcb.cell j]
      rw [← hct] at hu
      have hj := (List.getElem?_eq_some_iff.1 hu).1
      rw [List.length_take] at hj
      rw [List.getElem?_take_of_lt (by omega)] at hu
      simpa using hu
    exact ⟨c _ _ h1, c _ _ h2, c _ _ h3⟩
  · have hr := h.krow f hf
    obtain ⟨A, c, hv, _, _⟩ := own_reads hr
    refine ⟨A, c, ?_, fun hl => ?_⟩
    · rw [h.kblk.cell f, kvA_at _ _ _ hf, hv]
    · rw [hv] at hr
      obtain ⟨g, cap, hv2, _, _⟩ := hr.form hl
      have hA : A = some ⟨g, 0, none⟩ := by injection hv2
      subst hA
      obtain ⟨cur2, hb2, hc2⟩ := own_nums hr
      refine ⟨g, 0, rfl, .inr (.inr ⟨f, hf, by rw [hv]; rfl⟩), fun j k hj => ?_⟩
      rw [Nat.zero_add, hb2.cell j]
      exact hc2 j k hj
  · rcases hk with rfl | rfl | ⟨f, hf, hk⟩
    · exact hcb.lt
    · exact h.kblk.lt
    · exact own_lt (h.krow f hf) k hk
  · rcases hk with e | e | ⟨f, hf, hk⟩
    · exact (h.blk.ne_ hcb (by decide)) e
    · exact (h.blk.ne_ h.kblk (by decide)) e
    · exact own_blk_ne (h.krow f hf) h.blk (by decide) hk
end
end Go.Proofs.YtbpkffoooieejaaDoor
