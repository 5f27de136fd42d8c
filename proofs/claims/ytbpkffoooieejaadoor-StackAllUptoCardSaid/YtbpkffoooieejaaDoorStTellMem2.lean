/- The order's state: the last store; what a sort leaves alone; steps of the first kids. -/
import Derived.Test.YtbpkffoooieejaaDoorStSortW
namespace Go.Proofs.YtbpkffoooieejaaDoor
open Go.RowKit Go.Sort
section
variable {w w' : World} {K : Nat → Prop} {bo n bm bk cm ck : Nat} {kids : Nat → List Nat} {M : Nat → Mk} {V : Value} {s : List (Nat × Nat)}
theorem OrdV.fin {g cap f m : Nat} {T : List (Nat × Nat)} {cur : Array Value} (h : OrdV w K bo n kids M bm bk cm ck (.slice (some ⟨g, 0, none⟩) (s ++ (f, 0) :: T).length cap) (s ++ (f, 0) :: T)) (hc : Blk w g 33 cur)
    (hb : Blk w' g 33 (cur.setIfInBounds (s.length * 2 + 1) (.int .i64 (m : Int)))) (hG : w.grownBy w' (some g)) :
    OrdV w' K bo n kids M bm bk cm ck (.slice (some ⟨g, 0, none⟩) (s ++ (f, 0) :: T).length cap) (s ++ (f, m) :: T) ∧ Stp bo w (.slice (some ⟨g, 0, none⟩) (s ++ (f, 0) :: T).length cap) w' (.slice (some ⟨g, 0, none⟩) (s ++ (f, 0) :: T).length cap) := by
  have hne : g ≠ bo := hc.ne_ h.blk (by decide)
  have hgK : ¬ K g := h.kv g rfl
  refine ⟨⟨h.blk.grown hG (fun e => hne (by injection e with e; exact e.symm)), ?_, h.kid.kept fun i hi => hG.block i (h.kk i hi) (fun e => hgK (by injection e with e; rw [← e]; exact hi)), fun i hi => Nat.lt_of_lt_of_le (h.kk i hi) hG.size, h.kb, h.kv⟩, ⟨Only.of_grown hG fun k hk => .inr hk, fun _ hk => .inl hk⟩⟩
  have := own_put h.row hc (s.length * 2 + 1) (.int .i64 (m : Int)) hb
  rw [lsCells_set] at this
  simpa using this
/-- Numbers of a slice, read. -/
def NumsRd (w : World) (A : Option Addr) (l : List Nat) : Prop := 0 < l.length → ∃ g, A = some ⟨g, 0, none⟩ ∧ NumsAt w g l
theorem sorted_on {w6 w7 : World} {A : Option Addr} {l : List Nat} {base c bx : Nat} {t : TypeId} {cs : Array Value} (hs : Sorted M l A w6 w7) (hO : OrdV w6 K bo n kids M bm bk cm ck V s) (hown : w6.ownsRow base 3 1 (.slice A l.length c) l.length (natCells l))
    (hX : Blk w6 bx t cs) (hbx : bx < base) (hbo : bo < base) (hV : ∀ k, V.ownBlock = some k → k < base) (hK : ∀ k, K k → k < base) :
    OrdV w7 K bo n kids M bm bk cm ck V s ∧ Blk w7 bx t cs ∧ Only (fun k => base ≤ k) w6 w7 ∧ NumsRd w7 A (srtM M l) := by
  rcases hs with ⟨rfl, rfl⟩ | ⟨g, rfl, h1, h2⟩
  · exact ⟨hO, hX, Only.refl _ _, fun h => by simp [srtM] at h⟩
  · have hg : base ≤ g := own_ge hown g rfl
    exact ⟨hO.far h2 (by omega) (fun e => by have := hV g e; omega) (fun e => by have := hK g e; omega), hX.grown h2 (fun e => by injection e with e; omega), Only.of_grown h2 fun k hk => by injection hk with hk; omega, fun _ => ⟨g, rfl, h1⟩⟩
theorem NumsRd.stp {V' : Value} {A : Option Addr} {l : List Nat} (h : NumsRd w A l) (hO : OrdV w K bo n kids M bm bk cm ck V s) (hs : Stp bo w V w' V') : NumsRd w' A l := fun h0 => by
  obtain ⟨g, rfl, cur, hb, hc⟩ := h h0
  exact ⟨g, rfl, cur, hs.blk hO hb (by decide) (by decide), hc⟩
theorem Stp.then_only {a b c : World} {V' : Value} {base : Nat} (h : Stp bo a V b V') (hk : Only (fun k => base ≤ k) b c) (hb : a.heap.size ≤ base) : Stp bo a V c V' :=
  ⟨h.only.then_ hk fun i hi hd => by omega, h.new⟩
end
theorem stepsL_app (g : Nat → Nat → List (Nat × Nat)) : ∀ (l m : List Nat) (a : Nat), stepsL g (l ++ m) a = stepsL g l a ++ stepsL g m (a + (stepsL g l a).length)
  | [], m, a => by simp [stepsL]
  | k :: l, m, a => by rw [List.cons_append, stepsL, stepsL, stepsL_app g l m, List.append_assoc, List.length_append, Nat.add_assoc]
theorem stepsL_take (g : Nat → Nat → List (Nat × Nat)) (l : List Nat) (j k a : Nat) (hj : l[j]? = some k) : stepsL g (l.take (j + 1)) a = stepsL g (l.take j) a ++ g k (a + (stepsL g (l.take j) a).length) := by
  rw [List.take_add_one, hj, stepsL_app]
  simp [stepsL]
theorem stepsL_le (g : Nat → Nat → List (Nat × Nat)) (l : List Nat) (j a : Nat) : (stepsL g (l.take j) a).length ≤ (stepsL g l a).length := by
  conv => rhs; rw [← List.take_append_drop j l, stepsL_app, List.length_append]
  exact Nat.le_add_right _ _
end Go.Proofs.YtbpkffoooieejaaDoor
