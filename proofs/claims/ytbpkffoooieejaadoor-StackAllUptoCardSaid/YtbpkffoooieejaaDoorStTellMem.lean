/- The order's state in memory while it is made. -/
import Derived.Test.YtbpkffoooieejaaDoorStBel
import Derived.Test.YtbpkffoooieejaaDoorStCmp
namespace Go.Proofs.YtbpkffoooieejaaDoor
open Go.RowKit Go.Sort
def lsCells (s : List (Nat × Nat)) : List Value := s.flatMap fun p => [.int .i64 (p.1 : Int), .int .i64 (p.2 : Int)]
theorem lsCells_len (s : List (Nat × Nat)) : (lsCells s).length = s.length * 2 := by
  induction s with
  | nil => rfl
  | cons a s ih =>
    have e : lsCells (a :: s) = [.int .i64 (a.1 : Int), .int .i64 (a.2 : Int)] ++ lsCells s := rfl
    rw [e, List.length_append, ih, List.length_cons]
    simp only [List.length_cons, List.length_nil]
    omega
theorem lsCells_app (s t : List (Nat × Nat)) : lsCells (s ++ t) = lsCells s ++ lsCells t := by simp [lsCells]
theorem lsCells_cons (p : Nat × Nat) (t : List (Nat × Nat)) : lsCells (p :: t) = .int .i64 (p.1 : Int) :: .int .i64 (p.2 : Int) :: lsCells t := rfl
theorem lsCells_set (s t : List (Nat × Nat)) (f x y : Nat) : (lsCells (s ++ (f, x) :: t)).set (s.length * 2 + 1) (.int .i64 (y : Int)) = lsCells (s ++ (f, y) :: t) := by
  rw [lsCells_app, lsCells_app, lsCells_cons, lsCells_cons, List.set_append_right _ _ (by rw [lsCells_len]; omega), lsCells_len, show s.length * 2 + 1 - s.length * 2 = 1 by omega]
  rfl
theorem lsCells_at (s : List (Nat × Nat)) (i : Nat) (p : Nat × Nat) (h : s[i]? = some p) : (lsCells s)[i * 2]? = some (.int .i64 (p.1 : Int)) ∧ (lsCells s)[i * 2 + 1]? = some (.int .i64 (p.2 : Int)) := by
  induction s generalizing i with
  | nil => simp at h
  | cons a s ih =>
    rw [lsCells_cons]
    cases i with
    | zero =>
      obtain rfl : a = p := by simpa using h
      exact ⟨rfl, rfl⟩
    | succ i =>
      obtain ⟨h1, h2⟩ := ih i (by simpa using h)
      rw [show (i + 1) * 2 = i * 2 + 1 + 1 by omega, show i * 2 + 1 + 1 + 1 = (i * 2 + 1) + 1 + 1 by omega]
      exact ⟨by simpa using h1, by simpa using h2⟩
/-- What is read of the marks and the kids: in blocks of which K holds. -/
structure KidK (w : World) (K : Nat → Prop) (n : Nat) (kids : Nat → List Nat) (M : Nat → Mk) (bm bk : Nat) : Prop where
  m : K bm
  k : K bk
  mks : ∀ f, f < n → w.cell? ⟨bm, f * 3, none⟩ = some (.int .i64 (M f).1) ∧ w.cell? ⟨bm, f * 3 + 1, none⟩ = some (.int .i64 (M f).2.1) ∧ w.cell? ⟨bm, f * 3 + 2, none⟩ = some (.int .i64 (M f).2.2)
  kd : ∀ f, f < n → ∃ A c, w.cell? ⟨bk, f, none⟩ = some (.slice A (kids f).length c) ∧ (0 < (kids f).length → ∃ g off, A = some ⟨g, off, none⟩ ∧ K g ∧ ∀ (j k : Nat), (kids f)[j]? = some k → w.cell? ⟨g, off + j, none⟩ = some (.int .i64 (k : Int)))
theorem KidK.kept {w w' : World} {K : Nat → Prop} {n : Nat} {kids : Nat → List Nat} {M : Nat → Mk} {bm bk : Nat} (h : KidK w K n kids M bm bk) (hk : ∀ k, K k → w'.heap[k]? = w.heap[k]?) : KidK w' K n kids M bm bk where
  m := h.m
  k := h.k
  mks := fun f hf => by
    obtain ⟨h1, h2, h3⟩ := h.mks f hf
    have e := hk bm h.m
    exact ⟨(World.cell?_of_block (a := ⟨bm, f * 3, none⟩) e).trans h1, (World.cell?_of_block (a := ⟨bm, f * 3 + 1, none⟩) e).trans h2, (World.cell?_of_block (a := ⟨bm, f * 3 + 2, none⟩) e).trans h3⟩
  kd := fun f hf => by
    obtain ⟨A, c, h1, h2⟩ := h.kd f hf
    refine ⟨A, c, (World.cell?_of_block (a := ⟨bk, f, none⟩) (hk bk h.k)).trans h1, fun h0 => ?_⟩
    obtain ⟨g, off, e1, e2, e3⟩ := h2 h0
    exact ⟨g, off, e1, e2, fun j k hj => (World.cell?_of_block (a := ⟨g, off + j, none⟩) (hk g e2)).trans (e3 j k hj)⟩
def ownM (M : Nat → Mk) (f : Nat) : Bool := decide ((M f).1 ≠ 0)
structure OrdV (w : World) (K : Nat → Prop) (bo n : Nat) (kids : Nat → List Nat) (M : Nat → Mk) (bm bk cm ck : Nat) (V : Value) (s : List (Nat × Nat)) : Prop where
  blk : Blk w bo 67 #[.slice (some ⟨bm, 0, none⟩) n cm, .slice (some ⟨bk, 0, none⟩) n ck, V]
  row : w.ownsRow 0 33 2 V s.length (lsCells s)
  kid : KidK w K n kids M bm bk
  kk : ∀ k, K k → k < w.heap.size
  kb : ¬ K bo
  kv : ∀ k, V.ownBlock = some k → ¬ K k
section
variable {w w' : World} {K : Nat → Prop} {bo n bm bk cm ck : Nat} {kids : Nat → List Nat} {M : Nat → Mk} {V V' : Value} {s : List (Nat × Nat)}
theorem OrdV.r (h : OrdV w K bo n kids M bm bk cm ck V s) : KidR w w.heap.size bo n kids (ownM M) bm bk cm ck where
  o := h.blk.lt
  m := h.kk _ h.kid.m
  k := h.kk _ h.kid.k
  c0 := h.blk.cell 0
  c1 := h.blk.cell 1
  mks := fun f hf => by
    obtain ⟨h1, h2, h3⟩ := h.kid.mks f hf
    exact ⟨_, _, _, h1, h2, h3, by simp [ownM]⟩
  kd := fun f hf => by
    obtain ⟨A, c, h1, h2⟩ := h.kid.kd f hf
    refine ⟨A, c, h1, by simp [natCells], fun h0 => ?_⟩
    obtain ⟨g, off, rfl, e2, e3⟩ := h2 h0
    refine ⟨_, rfl, h.kk _ e2, fun j u hu => ?_⟩
    rw [natCells_at] at hu
    cases hj : (kids f)[j]? with
    | none => rw [hj] at hu; cases hu
    | some k =>
      rw [hj] at hu
      obtain rfl : Value.int .i64 (k : Int) = u := by simpa using hu
      have hadd : (⟨g, off, none⟩ : Addr).add j = ⟨g, off + j, none⟩ := by unfold Addr.add; split <;> simp_all
      rw [hadd]
      exact e3 j k hj
/-- A step: but for the order's own block, its row, and new blocks, the world is as it was. -/
structure Stp (bo : Nat) (w : World) (V : Value) (w' : World) (V' : Value) : Prop where
  only : Only (fun k => k = bo ∨ V.ownBlock = some k) w w'
  new : ∀ k, V'.ownBlock = some k → V.ownBlock = some k ∨ w.heap.size ≤ k
theorem Stp.refl (bo : Nat) (w : World) (V : Value) : Stp bo w V w V := ⟨Only.refl _ _, fun _ h => .inl h⟩
theorem Stp.trans {a b c : World} {Va Vb Vc : Value} (h : Stp bo a Va b Vb) (k : Stp bo b Vb c Vc) : Stp bo a Va c Vc :=
  ⟨h.only.then_ k.only fun i hi hd => by
    rcases hd with rfl | hd
    · exact .inl rfl
    · rcases h.new i hd with h1 | h1
      · exact .inr h1
      · omega, fun i hi => by
    rcases k.new i hi with h1 | h1
    · exact h.new i h1
    · exact .inr (Nat.le_trans h.only.size h1)⟩
theorem Stp.of_below (h : Below w.heap.size w w') (V : Value) : Stp bo w V w' V := ⟨Only.of_below h, fun _ h => .inl h⟩
theorem OrdV.old (h : OrdV w K bo n kids M bm bk cm ck V s) (k : Below w.heap.size w w') : OrdV w' K bo n kids M bm bk cm ck V s :=
  ⟨h.blk.below k h.blk.lt, own_keep h.row k (own_lt h.row), h.kid.kept fun i hi => k.block i (h.kk i hi), fun i hi => Nat.lt_of_lt_of_le (h.kk i hi) k.size, h.kb, h.kv⟩
/-- Another block is written. -/
theorem OrdV.far (h : OrdV w K bo n kids M bm bk cm ck V s) {g : Nat} (k : w.grownBy w' (some g)) (h1 : g ≠ bo) (h2 : V.ownBlock ≠ some g) (h3 : ¬ K g) : OrdV w' K bo n kids M bm bk cm ck V s :=
  ⟨h.blk.grown k (fun e => h1 (by injection e with e; exact e.symm)), own_stays h.row k h2, h.kid.kept fun i hi => k.block i (h.kk i hi) (fun e => h3 (by injection e with e; rw [← e]; exact hi)), fun i hi => Nat.lt_of_lt_of_le (h.kk i hi) k.size, h.kb, h.kv⟩
theorem Stp.blk (h : Stp bo w V w' V') (hO : OrdV w K bo n kids M bm bk cm ck V s) {g : Nat} {t : TypeId} {cs : Array Value} (hb : Blk w g t cs) (h1 : t ≠ 67) (h2 : t ≠ 33) : Blk w' g t cs :=
  blk_only hb h.only fun hc => by
    rcases hc with rfl | hc
    · exact hb.ne_ hO.blk h1 rfl
    · exact own_blk_ne hO.row hb (Ne.symm h2) hc
/-- A step is appended. -/
theorem OrdV.app (h : OrdV w K bo n kids M bm bk cm ck V s) (f : Nat) {v4 : Value} {w4 w5 : World} (hown : w4.ownsRow 0 33 2 v4 (s.length + 1) (lsCells s ++ [.int .i64 (f : Int), .int .i64 0])) (hg : w.grownBy w4 V.ownBlock) (hat : v4.ownBlock = V.ownBlock ∨ v4.ownBlock = some w.heap.size)
    (hB : Blk w5 bo 67 #[.slice (some ⟨bm, 0, none⟩) n cm, .slice (some ⟨bk, 0, none⟩) n ck, v4]) (hG : w4.grownBy w5 (some bo)) : OrdV w5 K bo n kids M bm bk cm ck v4 (s ++ [(f, 0)]) ∧ Stp bo w V w5 v4 := by
  have hbV := own_blk_ne h.row h.blk (by decide)
  have hb4 : Blk w4 bo 67 _ := h.blk.grown hg (Ne.symm hbV)
  have h4 := own_stays hown hG (own_blk_ne hown hb4 (by decide))
  refine ⟨⟨hB, ?_, h.kid.kept fun i hi => ?_, fun i hi => Nat.lt_of_lt_of_le (h.kk i hi) (Nat.le_trans hg.size hG.size), h.kb, fun k hk => ?_⟩, ⟨(Only.of_grown hg fun k hk => .inr hk).trans (Only.of_grown hG fun k hk => .inl (by injection hk with hk; exact hk.symm)), fun k hk => ?_⟩⟩
  · rw [List.length_append, lsCells_app]
    exact h4
  · have hi1 := h.kk i hi
    rw [hG.block i (Nat.lt_of_lt_of_le hi1 hg.size) (fun e => h.kb (by injection e with e; rw [← e]; exact hi)), hg.block i hi1 (fun e => h.kv i e.symm hi)]
  · rcases hat with e | e
    · rw [e] at hk; exact h.kv k hk
    · rw [e] at hk
      injection hk with hk
      intro hK
      have := h.kk k hK
      omega
  · rcases hat with e | e
    · exact .inl (by rw [← e]; exact hk)
    · rw [e] at hk
      injection hk with hk
      exact .inr (by omega)
end
/-- A row's own block. -/
theorem own_form {w : World} {base size n : Nat} {e : TypeId} {v : Value} {xs : List Value} (h : w.ownsRow base e size v n xs) (hn : 0 < n) : ∃ g cap cur, v = .slice (some ⟨g, 0, none⟩) n cap ∧ base ≤ g ∧ Blk w g e cur ∧ n ≤ cap ∧ cap ≤ maxLen ∧ cur.size = cap * size ∧ cur.toList.take (n * size) = xs := by
  rcases h.2 with ⟨_, h0⟩ | ⟨g, cap, cur, h1, h2, h3, h4, h5, h6, h7⟩
  · omega
  · exact ⟨g, cap, cur, h1, h2, h3, h4, h5, h6, h7⟩
theorem own_put {w w' : World} {base size n g cap : Nat} {e : TypeId} {xs : List Value} {cur : Array Value} (h : w.ownsRow base e size (.slice (some ⟨g, 0, none⟩) n cap) n xs) (hc : Blk w g e cur) (i : Nat) (u : Value) (hb : Blk w' g e (cur.setIfInBounds i u)) : w'.ownsRow base e size (.slice (some ⟨g, 0, none⟩) n cap) n (xs.set i u) := by
  refine ⟨by rw [List.length_set]; exact h.1, ?_⟩
  rcases h.2 with ⟨h0, _⟩ | ⟨g2, cap2, cur2, h1, h2, h3, h4, h5, h6, h7⟩
  · cases h0
  · injection h1 with h1 _ h1c
    injection h1 with h1
    injection h1 with h1
    subst h1 h1c
    have hcc : cur2 = cur := by
      have := h3.symm.trans hc
      injection this with this
      injection this
    subst hcc
    refine .inr ⟨g, cap, _, rfl, h2, hb, h4, h5, by simpa using h6, ?_⟩
    rw [Array.toList_setIfInBounds, List.take_set, h7]
/-- The numbers of a row, read. -/
def NumsAt (w : World) (g : Nat) (l : List Nat) : Prop := ∃ cur, Blk w g 3 cur ∧ ∀ (j k : Nat), l[j]? = some k → cur[j]? = some (.int .i64 (k : Int))
/-- A row of numbers, sorted. -/
theorem sort_nums {w : World} {g n q : Nat} {cur : Array Value} {d : Array (Fin n)} {os : Array Obj} [Inhabited (Fin n)] (hb : Blk w g 3 cur) (h0 : Holds (encF n) w g 0 d) (d' : List (Fin n)) (hd : d'.length = d.size) : NumsAt (sortWorld (encF n) w g 0 q d'.toArray os) g (d'.map (·.val)) := by
  have hH := holds_sortWorld (encF n) w g 0 q d d'.toArray os hb.lt h0 (by simpa using hd)
  have hblk : ∃ cur', Blk (sortWorld (encF n) w g 0 q d'.toArray os) g 3 cur' := by
    unfold sortWorld
    refine ⟨putCells (encF n) 0 d'.toArray cur, ?_⟩
    unfold Blk at hb ⊢
    have hlt : g < w.heap.size := by
      rcases Nat.lt_or_ge g w.heap.size with h | h
      · exact h
      · rw [Array.getElem?_eq_none h] at hb; cases hb
    rw [heap_grow_old _ _ (by simpa [putRow, mapBlock] using hlt)]
    simp only [putRow, mapBlock, Array.getElem?_modify]
    simp only [if_true]
    show Option.map _ w.heap[g]? = _
    rw [hb]
    rfl
  obtain ⟨cur', hc⟩ := hblk
  refine ⟨cur', hc, fun j k hj => ?_⟩
  rw [List.getElem?_map] at hj
  cases hx : d'[j]? with
  | none => rw [hx] at hj; cases hj
  | some x =>
    rw [hx] at hj
    obtain rfl : x.val = k := by simpa using hj
    obtain ⟨hjl, hxe⟩ := List.getElem?_eq_some_iff.1 hx
    have h1 := (hH j (by simpa using hjl)).1
    rw [Nat.zero_add] at h1
    rw [← hc.cell j, h1, getElem!_pos _ j (by simpa using hjl)]
    simp [encF, hxe]
end Go.Proofs.YtbpkffoooieejaaDoor
