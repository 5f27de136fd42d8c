/- The boxes of a document stand boxes.Check's questions. -/
import Derived.Test.YtbpkffoooieejaaDoorK5
set_option linter.unusedVariables false
set_option linter.unusedSimpArgs false
namespace Go.Proofs.YtbpkffoooieejaaDoor
open Go.RowKit
def HeadQ (t : Tr) : Prop := (1 ≤ t.kind ∧ t.kind ≤ 9) ∧ -1 ≤ t.node
theorem headq {k n : Int} {x : ByteArray} {l : List Tr} (hk : 1 ≤ k ∧ k ≤ 9) (hn : -1 ≤ n) : HeadQ (.mk k n x l) := ⟨hk, hn⟩
section
variable (P : Pg) (idl : ByteArray → Bool)
theorem row_head {alone : Tr → Bool} {l : List Tr} (h : ∀ t ∈ l, Tr.Ok HeadQ t) : ∀ t ∈ rowF idl P alone l, Tr.Ok HeadQ t := by
  unfold rowF
  refine split_all (R := Tr.Ok HeadQ) _ _ (fun x hx _ => h x hx) fun r hr => ?_
  exact Tr.Ok.mk (t := anonF 2 r) (headq (by decide) (by decide)) fun s hs => h s (hr s hs).1
theorem contr_head {n : Int} {l : List Tr} (hn : -1 ≤ n) (h : ∀ t ∈ l, Tr.Ok HeadQ t) : Tr.Ok HeadQ (contrF idl P n l) := by
  unfold contrF
  split
  · exact .mk (headq (by decide) hn) (row_head P idl h)
  · exact .mk (headq (by decide) hn) h
theorem cell_head {k n : Int} {l : List Tr} (hk : 1 ≤ k ∧ k ≤ 9) (hn : -1 ≤ n) (h : ∀ t ∈ l, Tr.Ok HeadQ t) : Tr.Ok HeadQ (.mk k n ByteArray.empty [contrF idl P (-1) l]) := by
  refine .mk ⟨hk, hn⟩ fun s hs => ?_
  obtain rfl : s = contrF idl P (-1) l := by simpa [Tr.kids] using hs
  exact contr_head P idl (by decide) h
theorem box_head (d : Nat) : ∀ n : Nat, Tr.Ok HeadQ (boxF idl P d n) := by
  have top : ∀ n : Nat, -1 ≤ (n : Int) := fun n => by omega
  have leaf : ∀ (n : Nat) (x : ByteArray), Tr.Ok HeadQ (.mk 4 n x []) := fun n x => .mk (headq (by decide) (top n)) fun s hs => by cases hs
  induction d with
  | zero => exact fun n => leaf _ _
  | succ d ih =>
    intro n
    have run : ∀ l : List Nat, ∀ t ∈ l.map (boxF idl P d), Tr.Ok HeadQ t := fun l t ht => by
      obtain ⟨j, hj, rfl⟩ := List.mem_map.1 ht
      exact ih j
    rw [boxF]
    split
    · exact leaf _ _
    · split
      · exact leaf _ _
      · split
        · exact .mk (headq (by decide) (top n)) (run _)
        · split
          · exact cell_head P idl ⟨by decide, by decide⟩ (top n) (run _)
          · split
            · exact .mk (headq (by decide) (top n)) (row_head P idl (run _))
            · split
              · have cells : ∀ l : List Nat, ∀ t ∈ cellsF idl P (boxF idl P d) l, Tr.Ok HeadQ t := fun l => by
                  refine split_all (R := Tr.Ok HeadQ) _ _ (fun x hx _ => ?_) fun r hr => ?_
                  · exact cell_head P idl ⟨by decide, by decide⟩ (top x) (run _)
                  · exact cell_head P idl ⟨by decide, by decide⟩ (by decide) (run _)
                refine .mk (headq (by decide) (top n)) fun s hs => ?_
                refine split_all (R := Tr.Ok HeadQ) _ _ (fun x hx _ => ?_) (fun r hr => ?_) s hs
                · exact .mk (headq (by decide) (top x)) (cells _)
                · refine .mk (headq (by decide) (by decide)) fun s hs => ?_
                  obtain rfl : s = cellF idl P (boxF idl P d) (-1) r := by simpa [Tr.kids, anonF] using hs
                  exact cell_head P idl ⟨by decide, by decide⟩ (by decide) (run _)
              · exact contr_head P idl (top n) (run _)
theorem root_head : Tr.Ok HeadQ (rootF idl P) := by
  refine contr_head P idl (by decide) fun t ht => ?_
  obtain ⟨j, hj, rfl⟩ := List.mem_map.1 ht
  exact box_head P idl 41 j
end
theorem sum_take (l : List Nat) (k : Nat) : (l.take k).sum ≤ l.sum := by
  conv => rhs; rw [← List.take_append_drop k l, List.sum_append]
  omega
theorem wsum_eq (L : List Bo) (hb : (L.map fun b => b.kids.length).sum ≤ 1000000) : ∀ k, k ≤ L.length → wsum L k = (((L.map fun b => b.kids.length).take k).sum : Nat)
  | 0, _ => rfl
  | k + 1, hk => by
    have h1 := wsum_eq L hb k (by omega)
    have h2 := sum_take (L.map fun b => b.kids.length) (k + 1)
    have e : ((L.map fun b => b.kids.length).take (k + 1)).sum = ((L.map fun b => b.kids.length).take k).sum + (boAt L k).kids.length := by
      rw [List.take_add_one, List.getElem?_map, List.getElem?_eq_getElem (by omega), List.sum_append, boAt_of L k (by omega)]
      simp
    show IntKind.i64.wrap (wsum L k + (boAt L k).kids.length) = _
    rw [h1]
    rw [e] at h2 ⊢
    rw [← Int.natCast_add]
    exact nat_wrap (by omega)
theorem bos_good (l : List Nd) (R : Nat → Nat → Int) : ∀ i, i < (bosOf l R).length → BoxGood (bosOf l R) i := fun i hi => by
  rw [bos_len] at hi
  obtain ⟨hf, _⟩ := flatT_ok (rootF idleT (pgOf l R)) 0 (-1)
  have hs : i < (preT (rootF idleT (pgOf l R))).length := by rw [← hf.len]; exact hi
  obtain ⟨e1, e2, _, _⟩ := hf.same i hi hs
  obtain ⟨⟨q1, q2⟩, q3⟩ := mem_pre _ (root_head (pgOf l R) idleT) _ (List.getElem_mem hs)
  have hb := bos_at l R hi
  have hk : (boAt (bosOf l R) i).kids = ((bxsOf l R)[i]).kids.map fun (k : Nat) => (k : Int) := by rw [hb]; rfl
  have hK : ∀ j, j < ((bxsOf l R)[i]).kids.length → kidAt (bosOf l R) i j = ((((bxsOf l R)[i]).kids.getD j 0 : Nat) : Int) := fun j hj => by
    unfold kidAt
    rw [hk]
    simp [List.getD, List.getElem?_eq_getElem hj]
  refine ⟨⟨?_, ?_, ?_, ?_⟩, fun j hj => ?_⟩
  · rw [hb]; show 1 ≤ (flatT (rootF idleT (pgOf l R)) 0 (-1))[i].kind; rw [e1]; exact q1
  · rw [hb]; show (flatT (rootF idleT (pgOf l R)) 0 (-1))[i].kind ≤ 9; rw [e1]; exact q2
  · rw [hb]; show -1 ≤ (flatT (rootF idleT (pgOf l R)) 0 (-1))[i].node; rw [e2]; exact q3
  · rintro rfl; exact (bos_first l R).2.2
  · have hj2 : j < ((bxsOf l R)[i]).kids.length := by rw [hk, List.length_map] at hj; exact hj
    have hg : ((bxsOf l R)[i]).kids.getD j 0 = ((bxsOf l R)[i]).kids[j] := by simp [List.getD, List.getElem?_eq_getElem hj2]
    obtain ⟨h1, h2, h3, _⟩ := hf.kid i hi _ (List.getElem_mem hj2 : ((bxsOf l R)[i]).kids[j] ∈ ((bxsOf l R)[i]).kids)
    simp only [Nat.zero_add, Nat.sub_zero] at h1 h2 h3
    refine ⟨?_, ?_, ?_⟩
    · cases j with
      | zero =>
        show (i : Int) < kidAt (bosOf l R) i 0
        rw [hK 0 hj2, hg]; omega
      | succ j =>
        show kidAt (bosOf l R) i j < kidAt (bosOf l R) i (j + 1)
        rw [hK _ hj2, hK j (by omega), hg, show ((bxsOf l R)[i]).kids.getD j 0 = ((bxsOf l R)[i]).kids[j] by simp [List.getD, List.getElem?_eq_getElem (show j < ((bxsOf l R)[i]).kids.length by omega)]]
        have hr : ((bxsOf l R)[i]).kids.Pairwise (· < ·) := hf.rise i hi
        have := List.pairwise_iff_getElem.1 hr j (j + 1) (by omega) hj2 (by omega)
        exact Int.ofNat_lt.2 this
    · rw [hK j hj2, hg, bos_len]
      exact Int.ofNat_lt.2 h2
    · rw [hK j hj2, hg, Int.toNat_natCast, bos_at l R h2]
      exact h3
theorem bos_chk {l : List Nd} (hda : DocAll l) (R : Nat → Nat → Int) : ChkOk (bosOf l R) := by
  have hlen : (bosOf l R).length ≤ 2010 := by
    rw [bos_len]
    have := hda.szR R
    rw [← flatT_len (rootF idleT (pgOf l R)) 0 (-1)] at this
    exact this
  have hk : ((bosOf l R).map fun b => b.kids.length).sum + 1 = (bosOf l R).length := by
    rw [bos_len]
    have := bxs_kids idleT (pgOf l R)
    have e : ((bosOf l R).map fun b => b.kids.length) = (bxsOf l R).map fun b => b.kids.length := by
      unfold bosOf
      rw [List.map_map]
      refine List.map_congr_left fun b _ => ?_
      simp [toBo]
    rw [e]
    exact this
  refine ⟨bos_good l R, .inr ?_⟩
  rw [wsum_eq _ (by omega) _ (Nat.le_refl _), List.take_of_length_le (by simp)]
  omega
end Go.Proofs.YtbpkffoooieejaaDoor
