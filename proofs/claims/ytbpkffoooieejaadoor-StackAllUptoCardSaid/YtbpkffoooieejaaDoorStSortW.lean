/- slices.SortFunc at the marks. -/
import Derived.Test.YtbpkffoooieejaaDoorStTellMem
import Derived.Test.YtbpkffoooieejaaDoorShelfA
namespace Go.Proofs.YtbpkffoooieejaaDoor
open Go.RowKit Go.Sort Go.Lib
theorem own_nums {w : World} {base g c : Nat} {l : List Nat} (h : w.ownsRow base 3 1 (.slice (some ⟨g, 0, none⟩) l.length c) l.length (natCells l)) : ∃ cur, Blk w g 3 cur ∧ ∀ (j k : Nat), l[j]? = some k → cur[j]? = some (.int .i64 (k : Int)) := by
  rcases h.2 with ⟨h0, _⟩ | ⟨g2, cap2, cur, h1, h2, h3, h4, h5, h6, h7⟩
  · cases h0
  · injection h1 with h1 _ h1c
    injection h1 with h1
    injection h1 with h1
    subst h1
    refine ⟨cur, h3, fun j k hj => ?_⟩
    have hjl := (List.getElem?_eq_some_iff.1 hj).1
    have h8 : (natCells l)[j]? = some (.int .i64 (k : Int)) := by rw [natCells_at, hj]; rfl
    rw [← h7, List.getElem?_take_of_lt (by omega)] at h8
    simpa using h8
/-- What a sort leaves behind. -/
def Sorted (M : Nat → Mk) (l : List Nat) (A : Option Addr) (w w' : World) : Prop := (l = [] ∧ w' = w) ∨ ∃ g, A = some ⟨g, 0, none⟩ ∧ NumsAt w' g (srtM M l) ∧ w.grownBy w' (some g)
theorem sort_any (M : Nat → Mk) (n : Nat) (hn : n ≤ 300000) (bx bo bm cm : Nat) (base c : Nat) (A : Option Addr) (l : List Nat) (w : World) (hl : ∀ x ∈ l, x < n) (hll : l.length ≤ 300000) (hown : w.ownsRow base 3 1 (.slice A l.length c) l.length (natCells l))
    (hb : w.cell? ⟨bx, 0, none⟩ = some (.pointer (some ⟨bo, 0, none⟩))) (ho : w.cell? ⟨bo, 0, none⟩ = some (.slice (some ⟨bm, 0, none⟩) n cm))
    (hm : ∀ f, f < n → w.cell? ⟨bm, f * 3, none⟩ = some (.int .i64 (M f).1) ∧ w.cell? ⟨bm, f * 3 + 1, none⟩ = some (.int .i64 (M f).2.1) ∧ w.cell? ⟨bm, f * 3 + 2, none⟩ = some (.int .i64 (M f).2.2))
    (hx : bx < base) (hbo : bo < base) (hbm : bm < base) :
    Calls Tryd.prog 32 #[.slice A l.length c, .func (.func 33) #[] #[.pointer (some ⟨bx, 0, none⟩)]] w fun e w' => e = .returned (.tuple #[]) ∧ Sorted M l A w w' := by
  rcases Nat.eq_zero_or_pos l.length with h0 | h0
  · obtain rfl : l = [] := List.eq_nil_of_length_eq_zero h0
    exact (Tryd.slices_SortFunc_none (α := Int) A c _ w).mono fun e w' h => ⟨h.1, .inl ⟨rfl, h.2⟩⟩
  · obtain ⟨g, off, hv, hg, _⟩ := hown.form h0
    obtain rfl : A = some ⟨g, 0, none⟩ := by injection hv
    obtain ⟨cur, hc, hcur⟩ := own_nums hown
    obtain ⟨d, hd⟩ := fins n l hl
    have hdl : d.length = l.length := by rw [← hd, List.length_map]
    have hlt : 0 < n := by
      cases d with
      | nil => simp at hdl; omega
      | cons a _ => exact Nat.lt_of_le_of_lt (Nat.zero_le _) a.isLt
    haveI : Inhabited (Fin n) := ⟨⟨0, hlt⟩⟩
    have hH : Holds (encF n) w g 0 d.toArray := fun j hj => by
      have hj' : j < d.length := by simpa using hj
      refine ⟨?_, hc.frozen _⟩
      rw [Nat.zero_add, hc.cell j]
      have e : l[j]? = some (d[j].val) := by rw [← hd, List.getElem?_map, List.getElem?_eq_getElem hj']; rfl
      rw [hcur j _ e, getElem!_pos _ j hj]
      rfl
    have hS := Tryd.slices_SortFunc_total (encF n) (fun _ => rfl) (cfF M n) (swoF M n) 33 #[.pointer (some ⟨bx, 0, none⟩)] g 0 c d.toArray w (enters_of Tryd.func33 (by kernel_rfl) rfl) ?_ hH hc.lt (by simp only [List.size_toArray, hdl]; omega) (totF M n)
    · have hs : d.toArray.size = l.length := by simpa using hdl
      rw [hs] at hS
      refine hS.mono ?_
      rintro e w' ⟨rfl, q, os, rfl⟩
      refine ⟨rfl, .inr ⟨g, rfl, ?_, sort_grown _ _ _ _ _ _ _⟩⟩
      have := sort_nums (q := q) (os := os) hc hH (d.mergeSort fun x y => !(ltOf (cfF M n)) y x) (by simp)
      rw [srtF, hd] at this
      exact this
    · intro m os dk hdk x y
      have hgr := sort_grown (encF n) w g 0 m dk os
      have k : ∀ (b o : Nat), b < base → (sortWorld (encF n) w g 0 m dk os).cell? ⟨b, o, none⟩ = w.cell? ⟨b, o, none⟩ := fun b o hb2 => World.cell?_of_block (hgr.block b (by have := hc.lt; omega) (fun e => by injection e with e; omega))
      refine cmpc_any M n hn bx bo bm cm x.val y.val x.isLt y.isLt _ ((k _ _ hx).trans hb) ((k _ _ hbo).trans ho) fun f hf => ?_
      obtain ⟨h1, h2, h3⟩ := hm f hf
      exact ⟨(k _ _ hbm).trans h1, (k _ _ hbm).trans h2, (k _ _ hbm).trans h3⟩
end Go.Proofs.YtbpkffoooieejaaDoor
