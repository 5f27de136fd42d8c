/- A guarded load of a struct or an array; reading data that lies below. No program in sight. -/
import Derived.Test.YtdnnodpkgncegaaDoorItPuts
import Derived.Test.YtdnnodpkgncegaaDoorItText
import Derived.Test.YtdnnodpkgncegaaDoorItTree
import Derived.Test.YtdnnodpkgncegaaDoorItAny
namespace Go.Proofs.YtdnnodpkgncegaaDoor
open Go.RowKit Go.Instr
section
variable {P : Program} {ops : Array Oper} {rest : List Oper} {o : Oper} {a : Act} {w : World} {Q : Exit → Act → World → Prop}
theorem wpList_wanted (hw : Region.wanted o (yielded ops a.tmps) = true) (h : ∀ K : Act → World → Prop, (∀ a w, wpList P ops Q rest a w → K a w) → o.wp P a w K Q) : wpList P ops Q (o :: rest) a w :=
  wpList_step fun K hK => by rw [if_pos hw]; exact h K hK
theorem wpList_load_blkG (hw : Region.wanted o (yielded ops a.tmps) = true) (ty : TypeId) (x : Operand) (ho : o.op = .load ty x) (g : Nat) (hx : a.eval x = .pointer (some ⟨g, 0, none⟩)) (t : TypeId) (cs : Array Value) (d : TypeDesc)
    (hb : Blk w g t cs) (hu : P.underlying ty = some d) (hd : (match d with | .struct _ | .array _ _ => true | _ => false) = true) (hi : (P.info? ty).map (·.size) = some cs.size)
    (h : wpList P ops Q rest (a.put o.dst (.agg cs)) w) : wpList P ops Q (o :: rest) a w :=
  wpList_wanted hw fun K hK => by
    have hl : (loadCells ⟨g, 0, none⟩ cs.size).run P w = .ok cs w := by
      have h1 := run_loadCells_list (P := P) w ⟨g, 0, none⟩ cs.toList (fun j v hv => by
        have hadd : (⟨g, 0, none⟩ : Addr).add j = ⟨g, j, none⟩ := by unfold Addr.add; split <;> simp_all
        rw [hadd, hb.cell j, ← Array.getElem?_toList]
        exact hv)
      simpa using h1
    have he : (execOp a.eval o).run P w = .ok (.value (.agg cs)) w := by
      cases hq : P.info? ty with
      | none => simp [hq] at hi
      | some i =>
        have hs : i.size = cs.size := by simpa [hq] using hi
        have hagg : (isAgg ty).run P w = .ok true w := by
          unfold isAgg
          rw [Sem.run_bind, run_underlying hu w]
          cases d <;> simp_all
        unfold execOp
        simp [ho, hx, loadAt, sureAddr, loadVar, Sem.run_bind, hagg, sizeOf, typeInfo, hq, hs, hl]
    unfold Oper.wp
    rw [he]
    exact hK _ _ h
end
/-- What the maker reads: boxes, looks, one variable of the library. -/
structure ItD (w : World) (B g off gl ol : Nat) (l : List Bo) (R : Nat → Nat → Int) (mv : Int) : Prop where
  box : ∀ k, k < l.length → ∃ Ak ck, BoxC w B g (off + k * 5) (boAt l k) Ak ck
  sty : ∀ k, k < l.length → ∀ j, j < 118 → w.cell? ⟨gl, ol + k * 118 + j, none⟩ = some (.int .i64 (R k j))
  mlen : w.cell? ⟨0, 0, none⟩ = some (.int .i64 mv)
  hg : g < B
  hgl : gl < B
  h0 : 0 < B
theorem ItD.below {w w' : World} {B g off gl ol : Nat} {l : List Bo} {R : Nat → Nat → Int} {mv : Int} (h : ItD w B g off gl ol l R mv) (k : Below B w w') : ItD w' B g off gl ol l R mv where
  box := fun i hi => by
    obtain ⟨Ak, ck, h1⟩ := h.box i hi
    exact ⟨Ak, ck, h1.below k h.hg⟩
  sty := fun i hi j hj => (k.cell (p := ⟨gl, ol + i * 118 + j, none⟩) h.hgl).trans (h.sty i hi j hj)
  mlen := (k.cell (p := ⟨0, 0, none⟩) h.h0).trans h.mlen
  hg := h.hg
  hgl := h.hgl
  h0 := h.h0
theorem sum_take (f : Nat → Nat) (L : List Nat) (j k : Nat) (hj : L[j]? = some k) : ((L.take (j + 1)).map f).sum = ((L.take j).map f).sum + f k := by
  rw [List.take_add_one, hj, List.map_append, List.sum_append]
  simp
theorem sum_take_le (f : Nat → Nat) (L : List Nat) (j : Nat) : ((L.take j).map f).sum ≤ (L.map f).sum := by
  conv => rhs; rw [← List.take_append_drop j L, List.map_append, List.sum_append]
  exact Nat.le_add_right _ _
def KidPost (w : World) (B mb : Nat) (Sb Sl V : Value) (room : Int) (s : List Li) (cost : Nat) (e : Ending) (w' : World) : Prop := e = .returned (.tuple #[]) ∧ ∃ (V' : Value) (bl' : Bool) (s' : List Li), ItV w' B mb Sb Sl room bl' V' (s ++ s') ∧ Stp mb w V w' V' ∧ Bal (s'.map liKey) ∧ s'.length ≤ cost
def BoxAt (B mb g off cB gl ol cl : Nat) (l : List Bo) (R : Nat → Nat → Int) (mv room : Int) (d : Nat) : Prop :=
  ∀ (at_ : Nat) (V : Value) (bl : Bool) (s : List Li) (w : World), at_ < l.length → l.length ≤ d + at_ → B ≤ w.heap.size → ItD w B g off gl ol l R mv → ItV w B mb (.slice (some ⟨g, off, none⟩) l.length cB) (.slice (some ⟨gl, ol, none⟩) l.length cl) room bl V s →
    s.length + costF (kidN l) (ownN l) d at_ ≤ 10000000 → Calls Tryd.prog 9 #[.pointer (some ⟨mb, 0, none⟩), .int .i64 (at_ : Int)] w fun e w' => KidPost w B mb (.slice (some ⟨g, off, none⟩) l.length cB) (.slice (some ⟨gl, ol, none⟩) l.length cl) V room s (costF (kidN l) (ownN l) d at_) e w'
end Go.Proofs.YtdnnodpkgncegaaDoor
