/- Parts of the proof, joined: BoxAny, DocWalk, DocAll, DocOrd, DocPath, BoxMake, Boxed, BxMem. -/
import Derived.Test.YtbpkffoooieejaaDoorK4
import Derived.Test.YtbpkffoooieejaaDoorKBoxKinds
import Derived.Test.YtbpkffoooieejaaDoorKBoxAtom
import Derived.Test.YtbpkffoooieejaaDoorK3
import Derived.Test.YtbpkffoooieejaaDoorK1
set_option linter.unusedVariables false
set_option linter.unusedSimpArgs false
/- boxes.maker.box: any node of a document in order. -/
namespace Go.Proofs.YtbpkffoooieejaaDoor
open Go.RowKit
theorem contr_node (idl : ByteArray → Bool) (P : Pg) (nd : Int) (l : List Tr) : (contrF idl P nd l).node = nd ∧ (contrF idl P nd l).kind ≠ 4 := by
  unfold contrF
  split <;> exact ⟨rfl, by simp [Tr.kind]⟩
theorem boxF_node (idl : ByteArray → Bool) (P : Pg) (d n : Nat) : (boxF idl P d n).node = n := by
  cases d with
  | zero => rfl
  | succ d =>
    rw [boxF]
    split
    · rfl
    · split
      · rfl
      · split
        · rfl
        · split
          · rfl
          · split
            · rfl
            · split
              · rfl
              · exact (contr_node idl P _ _).1
theorem boxF_nod (idl : ByteArray → Bool) (P : Pg) (d : Nat) {n N : Nat} (hn : n < N) : NodOk N (boxF idl P d n) := by
  unfold NodOk
  rw [boxF_node]
  exact ⟨by omega, fun _ => by omega⟩
section
variable (l : List Nd) (R : Nat → Nat → Int) (An As : Option Addr) (cn cs : Nat) (lev : Nat → Nat)
theorem box_any (hT : DocT (pgOf l R) l.length lev) (hK : KidsOk l) (hlen : ∀ d n, n < l.length → (contF (pgOf l R) d n).length ≤ 1000) (hlev : ∀ n, n < l.length → lev n ≤ 40) :
    ∀ (d n : Nat) (_ : n < l.length) (_ : 41 ≤ d + lev n) (w : World) (_ : MkIn w w.heap.size An As l R),
    Calls Tryd.prog 44 #[.agg #[.slice An l.length cn, .slice As l.length cs], .int .i64 (n : Int)] w fun e w' => TreePost KNo w.heap.size (boxF idleT (pgOf l R) d n) w' e ∧ Below w.heap.size w w'
  | 0, n, hn, hd, _, _ => absurd (hlev n hn) (by omega)
  | d + 1, n, hn, hd, w, hM => by
    have hP : CeP l R lev (boxF idleT (pgOf l R) d) := ⟨hT, hK, hlen, fun k hk => boxF_nod _ _ _ hk⟩
    have hS : CeS w l R An As cn cs lev (lev n) (boxF idleT (pgOf l R) d) := ⟨hM, fun k hk hl w1 h1 => box_any hT hK hlen hlev d k hk (by omega) w1 (hM.later h1 (Nat.le_refl _))⟩
    rw [boxF]
    split
    · exact box_text l R An As cn cs lev _ n w hS hn (by assumption)
    · have h3 : (ndAt l n).kind ≠ 3 := by assumption
      split
      · have h : (pgOf l R).br n = true ∧ isF (pgOf l R) n = 1 := by assumption
        exact box_br l R An As cn cs lev _ n w hS hn h3 h.1 h.2
      · have hb : ¬ ((pgOf l R).br n = true ∧ isF (pgOf l R) n = 1) := by assumption
        split
        · have h : isF (pgOf l R) n = 1 ∧ ((contF (pgOf l R) 41 n).map (boxF idleT (pgOf l R) d)).any (blockyF (pgOf l R) 1) = false := by assumption
          exact box_inline l R An As cn cs lev _ n w hP hS hn h3 (by
            cases hq : (pgOf l R).br n
            · rfl
            · exact absurd ⟨hq, h.1⟩ hb) h.1 h.2
        · have hi : ¬ (isF (pgOf l R) n = 1 ∧ ((contF (pgOf l R) 41 n).map (boxF idleT (pgOf l R) d)).any (blockyF (pgOf l R) 1) = false) := by assumption
          split
          · exact box_atom l R An As cn cs lev _ n w hP hS hn h3 (by assumption)
          · split
            · exact box_flex l R An As cn cs lev _ n w hP hS hn h3 (by assumption)
            · split
              · exact box_table l R An As cn cs lev _ n w hP hS hn h3 (by assumption)
              · by_cases h1 : isF (pgOf l R) n = 1
                · exact box_mixed l R An As cn cs lev _ n w hP hS hn h3 (by
                    cases hq : (pgOf l R).br n
                    · rfl
                    · exact absurd ⟨hq, h1⟩ hb) h1 (by
                    cases hq : ((contF (pgOf l R) 41 n).map (boxF idleT (pgOf l R) d)).any (blockyF (pgOf l R) 1)
                    · exact absurd ⟨h1, hq⟩ hi
                    · rfl)
                · exact box_rest l R An As cn cs lev _ n w hP hS hn h3 h1 (by assumption) (by assumption) (by assumption)
end
end Go.Proofs.YtbpkffoooieejaaDoor
/- dom.walk: a node and all below it, laid behind a row. -/
namespace Go.Proofs.YtbpkffoooieejaaDoor
open Go.ChangeShapes Go.WideShapes Go.ChangeAt Go.RowKit Go.Instr
def dscP (P : Pg) (d n j : Nat) : List Nat := ((P.kd n).take j).flatMap fun k => k :: dscF P d k
theorem dscP_zero (P : Pg) (d n : Nat) : dscP P d n 0 = [] := rfl
theorem dscP_succ (P : Pg) (d n j k : Nat) (h : (P.kd n)[j]? = some k) : dscP P d n (j + 1) = dscP P d n j ++ k :: dscF P d k := by
  unfold dscP
  rw [List.take_add_one, h]
  simp
theorem dscP_all (P : Pg) (d n : Nat) : dscP P d n (P.kd n).length = dscF P (d + 1) n := by
  unfold dscP
  rw [List.take_length, dscF]
theorem dscP_le (P : Pg) (d n j : Nat) : (dscP P d n j).length ≤ (dscF P (d + 1) n).length := by
  unfold dscP
  rw [dscF]
  conv => rhs; rw [← List.take_append_drop j (P.kd n), List.flatMap_append, List.length_append]
  omega
theorem grown_via {a b c : World} {r s : Option Nat} (h : a.grownBy b r) (k : b.grownBy c s) (hs : s = r ∨ ∀ g, s = some g → a.heap.size ≤ g) : a.grownBy c r := by
  refine ⟨k.os.trans h.os, k.tape.trans h.tape, k.output.trans h.output, Nat.le_trans h.size k.size, fun i hi hne => (k.block i (Nat.lt_of_lt_of_le hi h.size) ?_).trans (h.block i hi hne)⟩
  rcases hs with rfl | hs
  · exact hne
  · exact fun e => by have := hs i e.symm; omega
def WalkPost (D : Nat) (w : World) (v : Value) (res : List Nat) (w' : World) (e : Ending) : Prop :=
  ∃ v', e = .returned v' ∧ w'.ownsRow D 3 1 v' res.length (natCells res) ∧ (v'.ownBlock = v.ownBlock ∨ ∀ b, v'.ownBlock = some b → w.heap.size ≤ b) ∧ w.grownBy w' v.ownBlock
set_option maxRecDepth 100000 in
set_option maxHeartbeats 40000000 in
theorem walk_any (l : List Nd) (R : Nat → Nat → Int) (A : Option Addr) (c : Nat) (q : Bool) (lev : Nat → Nat) (hT : DocT (pgOf l R) l.length lev) (hK : KidsOk l) (D : Nat) : ∀ (d n : Nat) (xs : List Nat) (v : Value) (w : World), n < l.length → 41 ≤ d + lev n → D ≤ w.heap.size → NdIn w D A l →
    w.ownsRow D 3 1 v xs.length (natCells xs) → xs.length + 1 + (dscF (pgOf l R) d n).length ≤ 1000000 →
    Calls Tryd.prog 25 #[.agg #[.slice A l.length c, .bool q], .int .i64 (n : Int), v] w fun e w' => WalkPost D w v (xs ++ n :: dscF (pgOf l R) d n) w' e := by
  intro d
  induction d with
  | zero => intro n xs v w hn hd; have := hT.top n hn; omega
  | succ d ih =>
    intro n xs v w hn hd hDw hI hO hlen
    have hpre := dscP_le (pgOf l R) d n
    have hIH := hide ih
    clear ih
    obtain ⟨g, off, Aa, ca, Ak, ck, rfl, hg, hnd, hns⟩ := hI n hn
    have HI := hide hI
    have hb1 := (Below.refl D w).alloc hDw (.cells #[.slice (some ⟨g, off, none⟩) l.length c, .bool q] 41)
    have hb2 := hb1.alloc (bsz hb1 hDw) (.cells #[.int .i64 (n : Int)] 3)
    have HOA := hide ((hO.alloc (.cells #[.slice (some ⟨g, off, none⟩) l.length c, .bool q] 41)).alloc (.cells #[.int .i64 (n : Int)] 3))
    have HNA := hide (blk_two w (.cells #[.slice (some ⟨g, off, none⟩) l.length c, .bool q] 41) #[.int .i64 (n : Int)] 3)
    have HDA := hide ((Blk.new w 41 #[.slice (some ⟨g, off, none⟩) l.length c, .bool q]).alloc (.cells #[.int .i64 (n : Int)] 3))
    have HBA := hide hb2
    have HGA := hide ((World.grownBy_alloc w (.cells #[.slice (some ⟨g, off, none⟩) l.length c, .bool q] 41) v.ownBlock).trans (World.grownBy_alloc _ (.cells #[.int .i64 (n : Int)] 3) v.ownBlock))
    have hnl : ¬ l.length ≤ n := by omega
    have HKD := hide (hK.kid n hn)
    have hkl : (pgOf l R).kd n = (ndAt l n).kids.map Int.toNat := rfl
    have HKN := hide hkl
    have h5 := hnd.c5
    have HKF := hide (fun h0 => kid_form hnd.kids h0)
    obtain ⟨ks, hks⟩ : ∃ ks, ks = (ndAt l n).kids := ⟨_, rfl⟩
    rw [← hks] at HKN HKD HKF h5
    have hkm : ks.length ≤ 9223372036854775807 := by
      have h1 := hns.kids
      have h2 := hns.kidc
      rw [← hks] at h1
      unfold maxLen at h2
      omega
    clear hks hnd hns hI hkl hb1 hb2 hO
    obtain ⟨nk, hnk⟩ : ∃ nk, nk = ks.length := ⟨_, rfl⟩
    rw [← hnk] at h5 HKF hkm
    have HNK := hide hnk
    clear hnk
    have H5 := hide h5
    have hL0 : xs.length ≤ 1000000 := by omega
    clear h5
    go_enter Tryd.func25, Tryd.ntmps25
    go_wp2_with (first
      | (at_builtin; refine wpList_app1L rfl (.tmp 9) (.tmp 11) _ rfl D 3 _ 1 8 Tryd.underlying35 int_inf rfl (Nat.succ_pos _) v _ _ rfl HOA.out _ 1 _ HNA.out rfl rfl rfl hL0 (Nat.le_of_ble_eq_true rfl) (bsz HBA.out hDw) ?_; intro v4 w4 hown4 hg4 hat4; have HO4 := hide hown4; have HG4 := hide (HGA.out.trans hg4); have HB4 := hide (own_below HOA.out HBA.out (Nat.le_refl _) hDw hg4); have HD4 := hide (HDA.out.grown hg4 (fun e => own_blk_ne HOA.out HDA.out (by decide) e.symm)); have HV4 := hide hat4; have x0 := HD4.out.cell 0; have x5 := (HB4.out.cell (p := ⟨g, off + n * 6 + 5, none⟩) hg).trans H5.out; simp only [List.getElem?_toArray, List.getElem?_cons_zero] at x0; clear hown4 hg4 hat4)
      | fail)
    have HVV := hide (show v4.ownBlock = v.ownBlock ∨ ∀ b, v4.ownBlock = some b → w.heap.size ≤ b from HV4.out.imp id fun e b h => by
      rw [e] at h; injection h with h; rw [← h]; simp; omega)
    have HOO := hide (show w4.ownsRow D 3 1 v4 (xs ++ n :: dscP (pgOf l R) d n 0).length (natCells (xs ++ n :: dscP (pgOf l R) d n 0)) by
      rw [dscP_zero, natCells_app, List.length_append]; exact HO4.out)
    clear x0 x5 HO4 HV4 HOA HNA HDA HBA HGA
    have hnk : nk = ((pgOf l R).kd n).length := by rw [HKN.out, List.length_map, HNK.out]
    have HNK2 := hide hnk
    clear hnk
    go_loopw [2, 20] (fun v' i wr => ∃ j : Nat, j ≤ nk ∧ i = .int .i64 j ∧ wr.ownsRow D 3 1 v' (xs ++ n :: dscP (pgOf l R) d n j).length (natCells (xs ++ n :: dscP (pgOf l R) d n j)) ∧ (v'.ownBlock = v.ownBlock ∨ ∀ b, v'.ownBlock = some b → w.heap.size ≤ b) ∧ w.grownBy wr v.ownBlock ∧ Below D w wr ∧ Blk wr w.heap.size 41 #[.slice (some ⟨g, off, none⟩) l.length c, .bool q]) (fun _ i _ => nk - (intOf i).toNat)
    case atStart => exact ⟨0, Nat.zero_le _, rfl, HOO.out, HVV.out, HG4.out, HB4.out, HD4.out⟩
    case round =>
      clear HOO HVV HG4 HB4 HD4
      obtain ⟨j, hj, rfl, hown, hvv, hgr, hbel, hblk⟩ := hrel
      have HOC := hide hown
      have HVC := hide hvv
      have HGC := hide hgr
      have HBC := hide hbel
      have HDC := hide hblk
      clear hown hvv hgr hbel hblk
      obtain ⟨v5, hv5⟩ : ∃ v5, v5 = u2 := ⟨_, rfl⟩
      rw [← hv5] at HOC HVC ⊢
      clear hv5
      by_cases hjl : j < nk
      · obtain ⟨gk, ok, rfl, hgk, hkc⟩ := HKF.out (by omega)
        have hjks : j < ks.length := by rw [← HNK.out]; exact hjl
        obtain ⟨kk, hkk⟩ : ∃ kk : Nat, ks.getD j 0 = (kk : Int) := ⟨(ks.getD j 0).toNat, by
          have := HKD.out (ks.getD j 0) (by rw [List.getD, List.getElem?_eq_getElem hjks]; simp)
          omega⟩
        have q0 := (HBC.out.cell (p := ⟨gk, ok + j, none⟩) hgk).trans ((hkc j hjl).trans (by rw [hkk]))
        have hmem : (kk : Int) ∈ ks := by rw [← hkk, List.getD, List.getElem?_eq_getElem hjks]; simp
        have hkn : kk < l.length := by have := HKD.out _ hmem; omega
        have hkd : ((pgOf l R).kd n)[j]? = some kk := by
          rw [HKN.out, List.getElem?_map]
          have : ks[j]? = some (kk : Int) := by rw [List.getElem?_eq_getElem hjks]; rw [List.getD, List.getElem?_eq_getElem hjks] at hkk; simpa using hkk
          rw [this]; simp
        have hs1 := dscP_succ (pgOf l R) d n j kk hkd
        have hlk := (hT.kid n hn kk (List.mem_of_getElem? hkd)).2
        have hl1 := hpre (j + 1)
        have hl2 : (xs ++ n :: dscP (pgOf l R) d n j).length + 1 + (dscF (pgOf l R) d kk).length ≤ 1000000 := by
          rw [hs1] at hl1
          simp only [List.length_append, List.length_cons] at hl1 ⊢
          omega
        have HREC := hide (hIH.out kk (xs ++ n :: dscP (pgOf l R) d n j) v5 wr hkn (by omega) (bsz HBC.out hDw) (HI.out.below HBC.out) HOC.out hl2)
        have HSUC := hide (show (xs ++ n :: dscP (pgOf l R) d n j) ++ kk :: dscF (pgOf l R) d kk = xs ++ n :: dscP (pgOf l R) d n (j + 1) by rw [hs1]; simp)
        clear hkc hkk hmem hs1 hkd hlk hl1 hl2
        go_wp2_with (first
          | (refine wpList_load_row rfl 41 (.tmp 3) rfl w.heap.size rfl _ _ (0, 0) _ HDC.out doc_u2 rfl (doc_i2 _ _) ?_)
          | (go_at_call 25; refine HREC.out.mono ?_; rintro e w6 ⟨v6, rfl, ho6, hv6, hg6⟩; have HO6 := hide ho6; have HG6 := hide (grown_via HGC.out hg6 HVC.out); have HV6 := hide (show v6.ownBlock = v.ownBlock ∨ ∀ b, v6.ownBlock = some b → w.heap.size ≤ b from hv6.elim (fun e => e ▸ HVC.out) fun h => .inr fun b hb => Nat.le_trans HGC.out.size (h b hb)); have HB6 := hide (own_below HOC.out HBC.out (Nat.le_refl _) hDw hg6); have HD6 := hide (HDC.out.grown hg6 (fun e => own_blk_ne HOC.out HDC.out (by decide) e.symm)); clear ho6 hv6 hg6)
          | fail)
        go_roundw
        case rel => exact ⟨j + 1, by omega, by go_num, by rw [← HSUC.out]; exact HO6.out, HV6.out, HG6.out, HB6.out, HD6.out⟩
        case measure => simp only [intOf]; omega
      · obtain rfl : j = nk := by omega
        have HZ := hide (show dscP (pgOf l R) d n j = dscF (pgOf l R) (d + 1) n by rw [HNK2.out]; exact dscP_all _ _ _)
        go_wp2_with fail
        go_ret
        exact ⟨_, rfl, by rw [← HZ.out]; exact HOC.out, HVC.out, HGC.out⟩
end Go.Proofs.YtbpkffoooieejaaDoor
/- A document in order is a tree. No program in sight. -/
namespace Go.Proofs.YtbpkffoooieejaaDoor
open Go.RowKit
def levN (l : List Nd) (i : Nat) : Nat := upF (parN l) (l.length + 1) i
section
variable {l : List Nd} (h : DocAll l) (R : Nat → Nat → Int)
include h
theorem DocAll.kid : ∀ n, n < l.length → ∀ k ∈ (pgOf l R).kd n, k < l.length ∧ parN l k = (n : Int) := fun n hn k hk => by
  obtain ⟨z, hz, rfl⟩ := List.mem_map.1 hk
  obtain ⟨h0, h1, h2⟩ := h.kids.ok.kid n hn z hz
  exact ⟨by omega, h2⟩
theorem DocAll.tree : DocT (pgOf l R) l.length (levN l) where
  top n hn := (h.up n hn).2
  kid n hn k hk := by
    obtain ⟨h1, h2⟩ := h.kid R n hn k hk
    exact ⟨h1, lev_kid (parN l) (h.up k h1).1 h2⟩
theorem DocAll.nd : ∀ n, n < l.length → ((pgOf l R).kd n).Nodup := fun n hn => by
  show ((ndAt l n).kids.map Int.toNat).Nodup
  have h1 := h.kids.ok.nodup n hn
  unfold List.Nodup at h1 ⊢
  rw [List.pairwise_map]
  refine List.Pairwise.imp_of_mem (fun {a b} ha hb hab e => ?_) h1
  have h2 := (h.kids.ok.kid n hn a ha).1
  have h3 := (h.kids.ok.kid n hn b hb).1
  exact hab (by omega)
theorem DocAll.dsc (d n : Nat) (hn : n < l.length) : (dscF (pgOf l R) d n).length ≤ l.length := dsc_len _ (parN l) (h.tree R) (fun n hn k hk => (h.kid R n hn k hk).2) (h.nd R) d n hn
theorem DocAll.cont (d n : Nat) (hn : n < l.length) : (contF (pgOf l R) d n).length ≤ 1000 := by
  have := cont_len _ (parN l) (h.tree R) (fun n hn k hk => (h.kid R n hn k hk).2) (h.nd R) d n hn
  have := h.most
  omega
theorem DocAll.szR : szT (rootF idleT (pgOf l R)) ≤ 2010 := by
  have := root_sz _ (parN l) (h.tree R) (fun n hn k hk => (h.kid R n hn k hk).2) (h.nd R) idleT h.some_
  have := h.most
  omega
end
end Go.Proofs.YtbpkffoooieejaaDoor
/- dom.Order, dom.ask. -/
namespace Go.Proofs.YtbpkffoooieejaaDoor
open Go.ChangeShapes Go.WideShapes Go.ChangeAt Go.RowKit Go.Instr
def OrdPost (l : List Nd) (R : Nat → Nat → Int) (B : Nat) (w' : World) (e : Ending) : Prop :=
  ∃ v z, e = .returned (.tuple #[v, .int .i64 z]) ∧ (z = 0 ↔ DocAll l) ∧ (z = 0 → w'.ownsRow B 3 1 v (0 :: dscF (pgOf l R) 41 0).length (natCells (0 :: dscF (pgOf l R) 41 0)))
set_option maxRecDepth 100000 in
set_option maxHeartbeats 40000000 in
theorem Order_any (l : List Nd) (R : Nat → Nat → Int) (A : Option Addr) (c : Nat) (q : Bool) (w : World) (hI : NdIn w w.heap.size A l) (hl : l.length ≤ maxLen) :
    Calls Tryd.prog 12 #[.agg #[.slice A l.length c, .bool q]] w fun e w' => OrdPost l R w.heap.size w' e ∧ Below w.heap.size w w' := by
  have hb0 := (Below.refl w.heap.size w).alloc (Nat.le_refl _) (.cells #[.slice A l.length c, .bool q] 41)
  have HC := hide (DocCheck_any l A c q (w.alloc (.cells #[.slice A l.length c, .bool q] 41)) ((hI.below hb0).more hb0.size) hl)
  have HD := hide (Blk.new w 41 #[.slice A l.length c, .bool q])
  have HB := hide hb0
  have HW := hide (fun (hda : DocAll l) (Z : World) (hz : Below w.heap.size w Z) => walk_any l R A c q (levN l) (hda.tree R) hda.kids.ok w.heap.size 41 0 [] (.slice none 0 0) Z hda.some_ (by omega) hz.size (hI.below hz) (own_none _ _ _ _) (by
    have h1 := hda.dsc R 41 0 hda.some_
    have h2 := hda.most
    simp; omega))
  clear hb0 hI
  go_enter Tryd.func12, Tryd.ntmps12
  go_wp2_with (first
    | (refine wpList_load_row rfl 41 (.tmp 1) rfl w.heap.size rfl _ _ (0, 0) _ HD.out doc_u2 rfl (doc_i2 _ _) ?_)
    | fail)
  refine HC.out.mono ?_
  rintro e w2 ⟨⟨z, rfl, hz⟩, hx⟩
  have HD2 := hide (HD.out.below hx HD.out.lt)
  have HB2 := hide (HB.out.trans (hx.mono HB.out.size))
  have HZ := hide hz
  clear hx hz HC HD HB
  generalize w.alloc _ = w1 at *
  by_cases hz0 : z = 0
  · have t1 : (z == 0) = true := by simp [hz0]
    have HDA := hide (HZ.out.1 hz0)
    have HWA := hide (HW.out HDA.out _ HB2.out)
    clear HW hz0
    go_wp2_with (first
      | (refine wpList_load_row rfl 41 (.tmp 1) rfl w.heap.size rfl _ _ (0, 0) _ HD2.out doc_u2 rfl (doc_i2 _ _) ?_)
      | (go_at_call 25; refine HWA.out.mono ?_; rintro e w6 ⟨v6, rfl, ho6, _, hg6⟩; have HO6 := hide ho6; have HB6 := hide (own_below (own_none w2 w.heap.size 1 3) HB2.out (Nat.le_refl _) (Nat.le_refl _) hg6); clear ho6 hg6)
      | fail)
    go_ret2
    exact ⟨⟨_, _, rfl, ⟨fun _ => HDA.out, fun _ => rfl⟩, fun _ => HO6.out⟩, HB6.out⟩
  · have t1 : (z == 0) = false := by simpa using hz0
    have HZ0 := hide hz0
    clear hz0 HW
    go_wp2_with fail
    go_ret2
    exact ⟨⟨_, _, rfl, HZ.out, fun h => absurd h HZ0.out⟩, HB2.out⟩
def AskPost (l : List Nd) (n : Int) (e : Ending) : Prop := ∃ z, e = .returned (.int .i64 z) ∧ (z = 0 → DocAll l ∧ 0 ≤ n ∧ n < l.length)
set_option maxRecDepth 100000 in
set_option maxHeartbeats 40000000 in
theorem ask_any (l : List Nd) (A : Option Addr) (c : Nat) (q : Bool) (n : Int) (w : World) (hI : NdIn w w.heap.size A l) (hl : l.length ≤ maxLen) :
    Calls Tryd.prog 26 #[.agg #[.slice A l.length c, .bool q], .int .i64 n] w fun e w' => AskPost l n e ∧ Below w.heap.size w w' := by
  have hb0 := (Below.refl w.heap.size w).alloc (Nat.le_refl _) (.cells #[.slice A l.length c, .bool q] 41)
  have HC := hide (DocCheck_any l A c q (w.alloc (.cells #[.slice A l.length c, .bool q] 41)) ((hI.below hb0).more hb0.size) hl)
  have HD := hide (Blk.new w 41 #[.slice A l.length c, .bool q])
  have HB := hide hb0
  clear hb0 hI
  unfold maxLen at hl
  go_enter Tryd.func26, Tryd.ntmps26
  go_wp2_with (first
    | (refine wpList_load_row rfl 41 (.tmp 2) rfl w.heap.size rfl _ _ (0, 0) _ HD.out doc_u2 rfl (doc_i2 _ _) ?_)
    | fail)
  refine HC.out.mono ?_
  rintro e w2 ⟨⟨z, rfl, hz⟩, hx⟩
  have x0 : w2.cell? ⟨w.heap.size, 0, none⟩ = some (.slice A l.length c) := (hx.cell (p := ⟨w.heap.size, 0, none⟩) HD.out.lt).trans (HD.out.cell 0)
  have HB2 := hide (HB.out.trans (hx.mono HB.out.size))
  have HZ := hide hz
  clear hx hz HC HD HB
  generalize w.alloc _ = w1 at *
  by_cases hz0 : z = 0
  · have HDA := hide (HZ.out.1 hz0)
    subst hz0
    by_cases hn0 : n < 0
    · go_wp2_with fail
      go_ret
      exact ⟨⟨_, rfl, fun h => absurd h (by decide)⟩, HB2.out⟩
    · by_cases hn1 : (l.length : Int) ≤ n
      · go_wp2_with fail
        go_ret
        exact ⟨⟨_, rfl, fun h => absurd h (by decide)⟩, HB2.out⟩
      · have HN := hide (show 0 ≤ n ∧ n < (l.length : Int) by omega)
        go_wp2_with fail
        go_ret
        exact ⟨⟨_, rfl, fun _ => ⟨HDA.out, HN.out⟩⟩, HB2.out⟩
  · have t1 : (z == 0) = false := by simpa using hz0
    have HZ0 := hide hz0
    clear hz0
    go_wp2_with fail
    go_ret
    exact ⟨⟨_, rfl, fun h => absurd h HZ0.out⟩, HB2.out⟩
end Go.Proofs.YtbpkffoooieejaaDoor
/- dom.Path. -/
namespace Go.Proofs.YtbpkffoooieejaaDoor
open Go.ChangeShapes Go.WideShapes Go.ChangeAt Go.RowKit Go.Instr
def lenV : Value → Nat
  | .slice _ n _ => n
  | _ => 0
/-- From a node up. -/
def pathN (l : List Nd) (n : Nat) : List Nat := upL (parN l) (l.length + 1) n
def PathPost (l : List Nd) (n : Int) (B : Nat) (w' : World) (e : Ending) : Prop :=
  ∃ v z, e = .returned (.tuple #[v, .int .i64 z]) ∧ (z = 0 → DocAll l ∧ 0 ≤ n ∧ n < l.length ∧ w'.ownsRow B 3 1 v (pathN l n.toNat).reverse.length (natCells (pathN l n.toNat).reverse))
/-- The state of the way up. -/
def WayUp (l : List Nd) (n : Nat) (i : Value) (xs : List Nat) : Prop :=
  (∃ x : Nat, i = .int .i64 x ∧ x < l.length ∧ xs.length ≤ l.length ∧ pathN l n = xs ++ upL (parN l) (l.length + 1 - xs.length) x) ∨ (i = .int .i64 (-1) ∧ pathN l n = xs)
theorem path_len {l : List Nd} (h : DocAll l) {n : Nat} (hn : n < l.length) : 0 < (pathN l n).length ∧ (pathN l n).length ≤ l.length + 1 := by
  unfold pathN
  rw [upL_len]
  have := (h.up n hn).1
  omega
theorem way_step {l : List Nd} (h : DocAll l) {n x : Nat} {xs : List Nat} (hn : n < l.length) (hx : x < l.length) (hl : xs.length ≤ l.length) (hp : pathN l n = xs ++ upL (parN l) (l.length + 1 - xs.length) x) : WayUp l n (.int .i64 (ndAt l x).par) (xs ++ [x]) := by
  obtain ⟨f, hf⟩ : ∃ f, l.length + 1 - xs.length = f + 1 := ⟨l.length - xs.length, by omega⟩
  have hl2 := (path_len h hn).2
  rw [hf, upL] at hp
  rcases h.kids.ok.par x hx with hq | ⟨h0, h1⟩
  · right
    refine ⟨by rw [hq], ?_⟩
    rw [hp, if_neg (by unfold parN; omega)]
  · left
    rw [if_pos (by unfold parN; exact h0)] at hp
    refine ⟨(ndAt l x).par.toNat, by rw [Int.toNat_of_nonneg h0], by omega, ?_, ?_⟩
    · have h2 : (pathN l n).length = xs.length + (1 + (upL (parN l) f (parN l x).toNat).length) := by rw [hp]; simp; omega
      rw [upL_len] at h2
      simp; omega
    · rw [hp, List.length_append, List.length_singleton, show l.length + 1 - (xs.length + 1) = f by omega]
      simp [parN]
theorem own_setCells {base e g n cap : Nat} : ∀ (us : List Value) (j : Nat) (w : World) (xs : List Value), w.ownsRow base e 1 (.slice (some ⟨g, 0, none⟩) n cap) n xs → j + us.length ≤ xs.length → (w.setCells g j us).ownsRow base e 1 (.slice (some ⟨g, 0, none⟩) n cap) n (xs.take j ++ us ++ xs.drop (j + us.length))
  | [], j, w, xs, h, _ => by simpa [World.setCells] using h
  | u :: us, j, w, xs, h, hl => by
    rw [List.length_cons] at hl
    have h1 := own_setCells us (j + 1) _ (xs.set j u) (h.stored j u).1 (by rw [List.length_set]; omega)
    have e1 : (xs.set j u).take (j + 1) = xs.take j ++ [u] := by
      rw [List.take_add_one, List.take_set_of_le (Nat.le_refl _), List.getElem?_set_self (by omega)]
      rfl
    have e2 : (xs.set j u).drop (j + 1 + us.length) = xs.drop (j + (us.length + 1)) := by
      rw [List.drop_set_of_lt (by omega)]
      congr 1
      omega
    rw [e1, e2] at h1
    rw [List.length_cons]
    simpa [World.setCells] using h1
set_option maxRecDepth 100000 in
set_option maxHeartbeats 40000000 in
theorem Path_any (l : List Nd) (A : Option Addr) (c : Nat) (q : Bool) (n : Int) (w : World) (hI : NdIn w w.heap.size A l) (hl : l.length ≤ maxLen) :
    Calls Tryd.prog 14 #[.agg #[.slice A l.length c, .bool q], .int .i64 n] w fun e w' => PathPost l n w.heap.size w' e ∧ Below w.heap.size w w' := by
  have hb0 := (Below.refl w.heap.size w).alloc (Nat.le_refl _) (.cells #[.slice A l.length c, .bool q] 41)
  have HC := hide (ask_any l A c q n (w.alloc (.cells #[.slice A l.length c, .bool q] 41)) ((hI.below hb0).more hb0.size) hl)
  have HD := hide (Blk.new w 41 #[.slice A l.length c, .bool q])
  have HB := hide hb0
  have HI := hide hI
  clear hb0 hI
  unfold maxLen at hl
  go_enter Tryd.func14, Tryd.ntmps14
  go_wp2_with (first
    | (refine wpList_load_row rfl 41 (.tmp 2) rfl w.heap.size rfl _ _ (0, 0) _ HD.out doc_u2 rfl (doc_i2 _ _) ?_)
    | fail)
  refine HC.out.mono ?_
  rintro e w2 ⟨⟨z, rfl, hz⟩, hx⟩
  have HD2 := hide (HD.out.below hx HD.out.lt)
  have HB2 := hide (HB.out.trans (hx.mono HB.out.size))
  have HZ := hide hz
  clear hx hz HC HD HB
  generalize w.alloc _ = w1 at *
  by_cases hz0 : z = 0
  · obtain ⟨hda, hn0, hn1⟩ := HZ.out hz0
    have HDA := hide hda
    subst hz0
    obtain ⟨n0, rfl⟩ : ∃ n0 : Nat, n = n0 := ⟨n.toNat, by omega⟩
    have hn2 : n0 < l.length := by omega
    have HPL := hide (path_len hda hn2)
    have hmost := hda.most
    clear hda HZ hn0 hn1
    go_wp2_with fail
    obtain ⟨D, hDD⟩ : ∃ D, D = w.heap.size := ⟨_, rfl⟩
    have hDw : D ≤ w.heap.size := by omega
    rw [← hDD] at HB2 HD2 HI ⊢
    have HDE := hide hDD
    clear hDD
    go_loopw [1, 7] (fun i v wr => ∃ xs : List Nat, WayUp l n0 i xs ∧ wr.ownsRow D 3 1 v xs.length (natCells xs) ∧ Blk wr D 41 #[.slice A l.length c, .bool q] ∧ Below D w wr) (fun i v _ => l.length + 2 - lenV v)
    case atStart => exact ⟨[], .inl ⟨n0, rfl, hn2, Nat.zero_le _, rfl⟩, own_none _ _ _ _, HD2.out, HB2.out⟩
    case round =>
      clear HD2 HB2
      obtain ⟨xs, hway, hown, hblk, hbel⟩ := hrel
      have HOC := hide hown
      have HDC := hide hblk
      have HBC := hide hbel
      clear hown hblk hbel
      obtain ⟨v, hv⟩ : ∃ v, v = u7 := ⟨_, rfl⟩
      rw [← hv] at HOC ⊢
      clear hv
      rcases hway with ⟨x, rfl, hx, hxl, hp⟩ | ⟨rfl, hp⟩
      · have HW := hide (way_step HDA.out hn2 hx hxl hp)
        obtain ⟨g, off, Aa, ca, Ak, ck, rfl, hg, hnd, hns⟩ := HI.out x hx
        have H4 := hide (hnd.c4)
        have HX := hide (HOC.out.alloc (.cells #[.int .i64 (x : Int)] 3))
        have HNA := hide (Blk.new wr 3 #[.int .i64 (x : Int)])
        have HDA2 := hide (HDC.out.alloc (.cells #[.int .i64 (x : Int)] 3))
        have HBA := hide (HBC.out.alloc (bsz HBC.out hDw) (.cells #[.int .i64 (x : Int)] 3))
        have hL0 : xs.length ≤ 1000000 := by omega
        have hnl : ¬ l.length ≤ x := by omega
        obtain ⟨Av, cv, rfl, hcv, hmv, _⟩ := own_reads2 HOC.out
        clear hnd hns hp
        go_wp2_with (first
          | (at_builtin; refine wpList_app1 rfl (.tmp 22) (.tmp 24) _ rfl D 3 _ 1 8 Tryd.underlying35 int_inf rfl (Nat.succ_pos _) _ _ _ rfl HX.out _ 1 _ HNA.out rfl rfl rfl hL0 (Nat.le_of_ble_eq_true rfl) (bsz HBA.out hDw) ?_; intro v4 w4 hown4 hg4; have HO4 := hide hown4; have HB4 := hide (own_below HX.out HBA.out (Nat.le_refl _) hDw hg4); have HD4 := hide (HDA2.out.grown hg4 (fun e => own_blk_ne HX.out HDA2.out (by decide) e.symm)); have x0 := HD4.out.cell 0; have x4 := (HB4.out.cell (p := ⟨g, off + x * 6 + 4, none⟩) hg).trans H4.out; simp only [List.getElem?_toArray, List.getElem?_cons_zero] at x0; clear hown4 hg4)
          | fail)
        obtain ⟨A4, c4, rfl, _, _, _⟩ := own_reads2 HO4.out
        exact ⟨⟨xs ++ [x], HW.out, by rw [natCells_app, List.length_append]; exact HO4.out, HD4.out, HB4.out⟩, by
          have := HPL.out.2
          simp only [lenV]; omega⟩
      · have HPP := hide hp
        obtain ⟨hl0, hl1⟩ := HPL.out
        rw [hp] at hl0 hl1
        obtain ⟨k, hk⟩ : ∃ k, xs.length = k + 1 := ⟨xs.length - 1, by omega⟩
        have HKK := hide hk
        have HO := hide (hk ▸ HOC.out)
        obtain ⟨y, hy⟩ : ∃ y, xs[k]? = some y := ⟨xs[k]'(by omega), List.getElem?_eq_getElem _⟩
        obtain ⟨g, cap, rfl, hg0, hgl⟩ := HO.out.form (by omega)
        have q0 : wr.cell? ⟨g, k, none⟩ = some (.int .i64 (y : Int)) := (HO.out.cellAt k (by omega)).trans (by rw [natCells_at, hy]; rfl)
        have HRV := hide (Tryd.slices_Reverse_int_cells g 0 (k + 1) cap (xs.map fun (k : Nat) => (k : Int)) wr (by rw [List.length_map]; omega) (by omega) (fun j hj => by
          rw [List.length_map] at hj
          rw [Nat.zero_add, HO.out.cellAt j (by omega), natCells_at, List.getD, List.getElem?_map, List.getElem?_eq_getElem hj]
          rfl) (fun j _ => by rw [Nat.zero_add]; exact HO.out.frozenAt j))
        have hkl : k + 1 ≤ 1000 := by omega
        clear hk hl0 hl1 hp HOC HPL
        by_cases hy0 : y = 0
        · subst hy0
          go_wp2_with fail
          refine HRV.out.mono ?_
          rintro e w9 ⟨rfl, q9, hw9⟩
          have hrev : (List.map (Value.int .i64) (List.take (k + 1) (xs.map fun (k : Nat) => (k : Int))).reverse) = natCells xs.reverse := by
            rw [List.take_of_length_le (by rw [List.length_map, HKK.out]; exact Nat.le_refl _)]
            unfold natCells
            rw [List.map_reverse, List.map_map, ← List.map_reverse]
            rfl
          rw [hrev] at hw9
          have hod : (wr.drewN q9).ownsRow D 3 1 (.slice (some ⟨g, 0, none⟩) (k + 1) cap) (k + 1) (natCells xs) := own_keep HO.out (below_drewN (Below.refl wr.heap.size wr) q9) (own_lt HO.out)
          have hos := own_setCells (natCells xs.reverse) 0 _ _ hod (by rw [natCells_len, natCells_len, List.length_reverse]; omega)
          rw [List.take_zero, List.nil_append, Nat.zero_add, List.drop_of_length_le (by rw [natCells_len, natCells_len, List.length_reverse]; exact Nat.le_refl _), List.append_nil, ← hw9] at hos
          have HO9 := hide hos
          have HB9 := hide (show Below D w w9 by rw [hw9]; exact below_grown (below_drewN HBC.out q9) hDw (grown_setCells g (natCells xs.reverse) 0 _) hg0)
          clear hrev hw9 hod hos HRV HO
          go_wp2_with fail
          go_ret2
          exact ⟨⟨_, _, rfl, fun _ => ⟨HDA.out, by omega, by omega, by
            rw [Int.toNat_natCast, HPP.out, List.length_reverse, HKK.out, ← HDE.out]
            exact HO9.out⟩⟩, HDE.out ▸ HB9.out⟩
        · have ty : ((y : Int) == 0) = false := by rw [beq_eq_false_iff_ne]; omega
          go_wp2_with fail
          go_ret2
          exact ⟨⟨_, _, rfl, fun h => absurd h (by decide)⟩, HDE.out ▸ HBC.out⟩
  · have t1 : (z == 0) = false := by simpa using hz0
    have HZ0 := hide hz0
    clear hz0
    go_wp2_with fail
    go_ret2
    exact ⟨⟨_, _, rfl, fun h => absurd h HZ0.out⟩, HB2.out⟩
end Go.Proofs.YtbpkffoooieejaaDoor
/- boxes.Make. -/
namespace Go.Proofs.YtbpkffoooieejaaDoor
open Go.ChangeShapes Go.WideShapes Go.ChangeAt Go.RowKit Go.Instr
theorem mkr_i (a b : Value) : (Tryd.prog.info? 75).map (·.size) = some (#[a, b] : Array Value).size := by kernel_rfl
/-- The boxes of a document. -/
def bxsOf (l : List Nd) (R : Nat → Nat → Int) : List Bx := flatT (rootF idleT (pgOf l R)) 0 (-1)
def MakePost (l : List Nd) (R : Nat → Nat → Int) (nS : Nat) (B : Nat) (w' : World) (e : Ending) : Prop :=
  ∃ v z, e = .returned (.tuple #[v, .int .i64 z]) ∧ (z ≠ 0 → v = .slice none 0 0) ∧ (z = 0 → DocAll l ∧ nS = l.length ∧ ∃ D, B ≤ D ∧ FlS w' D v (bxsOf l R))
set_option maxRecDepth 100000 in
set_option maxHeartbeats 40000000 in
theorem Make_any (l : List Nd) (An : Option Addr) (cn : Nat) (q : Bool) (R : Nat → Nat → Int) (As : Option Addr) (nS cs : Nat) (mv : Int) (w : World) (hI : NdIn w w.heap.size An l) (hl : l.length ≤ maxLen) (hS : SyIn w w.heap.size As nS R) (hs : nS ≤ maxLen)
    (hmv : w.cell? ⟨1, 0, none⟩ = some (.int .i64 mv)) (h1 : 1 < w.heap.size) :
    Calls Tryd.prog 9 #[.agg #[.slice An l.length cn, .bool q], .slice As nS cs] w fun e w' => MakePost l R nS w.heap.size w' e ∧ Below w.heap.size w w' := by
  have hb0 := (Below.refl w.heap.size w).alloc (Nat.le_refl _) (.cells #[.slice An l.length cn, .bool q] 41)
  have HC := hide (DocCheck_any l An cn q (w.alloc (.cells #[.slice An l.length cn, .bool q] 41)) ((hI.below hb0).more hb0.size) hl)
  have HF := hide (fun (Z : World) (h : Below w.heap.size w Z) => styFits_any l An cn q R As nS cs mv Z ((hI.below h).more h.size) hl ((hS.below h).up h.size) hs ((h.cell (p := ⟨1, 0, none⟩) h1).trans hmv) (Nat.lt_of_lt_of_le h1 h.size))
  have HMK := hide (fun (Z : World) (h : Below w.heap.size w Z) => And.intro ((hI.below h).more h.size) ((hS.below h).up h.size))
  have HD := hide (Blk.new w 41 #[.slice An l.length cn, .bool q])
  have HB := hide hb0
  clear hb0 hI hS hmv
  unfold maxLen at hl hs
  go_enter Tryd.func9, Tryd.ntmps9
  go_wp2_with (first
    | (refine wpList_load_row rfl 41 (.tmp 2) rfl w.heap.size rfl _ _ (0, 0) _ HD.out doc_u2 rfl (doc_i2 _ _) ?_)
    | fail)
  refine HC.out.mono ?_
  rintro e w2 ⟨⟨z, rfl, hz⟩, hx⟩
  have HD2 := hide (HD.out.below hx HD.out.lt)
  have HB2 := hide (HB.out.trans (hx.mono HB.out.size))
  have HZ := hide hz
  have HFT := hide (HF.out _ HB2.out)
  clear hx hz HC HD HB HF
  generalize w.alloc _ = w1 at *
  by_cases hz0 : z = 0
  · subst hz0
    go_wp2_with (first
      | (refine wpList_load_row rfl 41 (.tmp 2) rfl w.heap.size rfl _ _ (0, 0) _ HD2.out doc_u2 rfl (doc_i2 _ _) ?_)
      | fail)
    refine HFT.out.mono ?_
    rintro e w3 ⟨⟨z3, rfl, hz3⟩, hx⟩
    have HD3 := hide (HD2.out.below hx HD2.out.lt)
    have HB3 := hide (HB2.out.trans (hx.mono HB2.out.size))
    have HZ3 := hide hz3
    clear hx hz3 HD2 HB2 HFT HZ
    by_cases hz0 : z3 = 0
    · obtain ⟨hda, hns⟩ := HZ3.out hz0
      subst hns hz0
      have HDA := hide hda
      clear HZ3
      have x0 : w3.cell? ⟨w.heap.size, 0, none⟩ = some (.slice An l.length cn) := HD3.out.cell 0
      have HM3 := hide (Blk.new w3 75 #[.slice An l.length cn, .slice As l.length cs])
      have hba := HB3.out.alloc HB3.out.size (.cells #[.slice An l.length cn, .slice As l.length cs] 75)
      have HBA := hide hba
      clear hba
      go_wp2_with fail
      clear x0 HD3 HB3
      generalize hDM : w3.heap.size = DM at *
      generalize w3.alloc _ = w4 at *
      clear hDM
      obtain ⟨D, hDD⟩ : ∃ D, D = w.heap.size := ⟨_, rfl⟩
      have hDw : D ≤ w.heap.size := by omega
      rw [← hDD] at HBA HMK ⊢
      have HDE := hide hDD
      clear hDD
      have HMI := hide (fun (Z : World) (h : Below D w Z) => show MkIn Z Z.heap.size An As l R from by
        have h2 := HMK.out Z h
        exact ⟨h2.1, h2.2⟩)
      have hb0 := Below.drew (Below.refl w4.heap.size w4)
      have HB0 := hide (HBA.out.trans (hb0.mono (bsz HBA.out hDw)))
      have HD0 := hide HM3.out.drew
      refine wp_region_HL 9 #[false, false, false, false, false, false, false, false, false] (by kernel_rfl) (by kernel_rfl) (S := fun Z => Blk Z DM 75 #[.slice An l.length cn, .slice As l.length cs]) (by kernel_rfl) HD0.out (fun hHeld => ?_)
      generalize w4.drew = wv0 at *
      clear hHeld hb0
      refine take_at (i := 0) (v := (Value.agg #[.slice An l.length cn, .slice As l.length cs])) (some 24) rfl rfl (by kernel_rfl) (by kernel_rfl) (by kernel_rfl) (fun _ _ _ h => h) (yieldsIf_load_blk (by rfl) 75 _ rfl DM rfl 75 _ _ (fun _ h => h) mk_u2 rfl (by kernel_rfl)) HD0.out ?_
      simp only [Act.put, List.setIfInBounds_toArray, List.set_cons_zero, List.set_cons_succ]
      refine take_at (i := 1) (v := (Value.agg #[.slice An l.length cn, .slice As l.length cs])) (some 25) rfl rfl (by kernel_rfl) (by kernel_rfl) (by kernel_rfl) (fun _ _ _ h => h) (yieldsIf_load_blk (by rfl) 75 _ rfl DM rfl 75 _ _ (fun _ h => h) mk_u2 rfl (by kernel_rfl)) HD0.out ?_
      simp only [Act.put, List.setIfInBounds_toArray, List.set_cons_zero, List.set_cons_succ]
      refine take_at (i := 2) (v := (Value.agg #[.slice An l.length cn, .slice As l.length cs])) (some 26) rfl rfl (by kernel_rfl) (by kernel_rfl) (by kernel_rfl) (fun _ _ _ h => h) (yieldsIf_load_blk (by rfl) 75 _ rfl DM rfl 75 _ _ (fun _ h => h) mk_u2 rfl (by kernel_rfl)) HD0.out ?_
      simp only [Act.put, List.setIfInBounds_toArray, List.set_cons_zero, List.set_cons_succ]
      have HCN := hide (content_any l R An As cn cs (levN l) (hda.tree R) hda.kids.ok (fun d n hn => hda.cont R d n hn) 41 0 wv0 hda.some_ (Nat.le_add_right _ _) (HMI.out _ HB0.out))
      obtain ⟨L, hL⟩ : ∃ L, L = contF (pgOf l R) 41 0 := ⟨_, rfl⟩
      rw [← hL] at HCN
      have hl3 : L.length ≤ 1000000 := by rw [hL]; exact Nat.le_trans (hda.cont R 41 0 hda.some_) (by decide)
      have hLN : ∀ k ∈ L, k < l.length := fun k hk => by
        rw [hL] at hk
        exact (cont_lt (pgOf l R) (hda.tree R) 41 0 hda.some_ k hk).1
      refine callH (j := 3) (by kernel_rfl) rfl rfl (some 27) rfl 24 #[.agg #[.slice An l.length cn, .slice As l.length cs], .int .i64 0] (run_enter Tryd.func24 (by kernel_rfl) (by kernel_rfl) _ _ rfl #[.agg #[.slice An l.length cn, .slice As l.length cs], .int .i64 0] (by kernel_rfl) _) HCN.out ?_
      rintro e wv1 ⟨⟨v6, rfl, ho6⟩, hx⟩
      obtain ⟨A6, c6, rfl, hc6, hm6, hr6⟩ := own_reads2 ho6
      have HB1 := hide (HB0.out.trans (hx.mono (bsz HB0.out hDw)))
      have HD1 := hide (HD0.out.below hx HD0.out.lt)
      clear hx ho6 HCN
      refine ⟨_, rfl, HD1.out, ?_⟩
      simp only [Act.put, List.setIfInBounds_toArray, List.set_cons_zero, List.set_cons_succ]
      have HBX := hide (boxes_any l An As cn cs (boxF idleT (pgOf l R) 41) L A6 c6 wv1 hr6 hl3 (fun k hk w1 h1 => box_any l R An As cn cs (levN l) (hda.tree R) hda.kids.ok (fun d n hn => hda.cont R d n hn) (fun n hn => (hda.up n hn).2) 41 k (hLN k hk) (Nat.le_add_right _ _) w1 (HMI.out _ (HB1.out.trans (h1.mono (bsz HB1.out hDw))))))
      have hl4 : (L.map (boxF idleT (pgOf l R) 41)).length ≤ 1000000 := by rw [List.length_map]; exact hl3
      have hno : ∀ t ∈ L.map (boxF idleT (pgOf l R) 41), NodOk l.length t := fun t ht => by
        obtain ⟨k, hk, rfl⟩ := List.mem_map.1 ht
        exact boxF_nod _ _ _ (hLN k hk)
      obtain ⟨ts, hts⟩ : ∃ ts, ts = L.map (boxF idleT (pgOf l R) 41) := ⟨_, rfl⟩
      rw [← hts] at HBX hl4 hno
      refine callH (j := 4) (by kernel_rfl) rfl rfl (some 28) rfl 23 #[.agg #[.slice An l.length cn, .slice As l.length cs], .slice A6 L.length c6] (run_enter Tryd.func23 (by kernel_rfl) (by kernel_rfl) _ _ rfl #[.agg #[.slice An l.length cn, .slice As l.length cs], .slice A6 L.length c6] (by kernel_rfl) _) HBX.out ?_
      rintro e wv2 ⟨⟨A1, c1, rfl, hc1, hm1, hr1⟩, hx⟩
      have HB2 := hide (HB1.out.trans (hx.mono (bsz HB1.out hDw)))
      have HD2 := hide (HD1.out.below hx HD1.out.lt)
      clear hx HBX
      refine ⟨_, rfl, HD2.out, ?_⟩
      simp only [Act.put, List.setIfInBounds_toArray, List.set_cons_zero, List.set_cons_succ]
      have HCO := hide (container_any l R An As cn cs 0 ts A1 c1 (KNew KNo wv1.heap.size wv2.heap.size) wv2 (HMI.out _ HB2.out) hr1 (fun g hg => hg.elim False.elim fun h => h.2) hc1 hm1 hl4 hno)
      have hct : contrF idleT (pgOf l R) 0 ts = rootF idleT (pgOf l R) := by rw [hts, hL]; rfl
      rw [hct] at HCO
      have HSZ := hide (hda.szR R)
      have HPO := hide (show bxsOf l R = flatT (rootF idleT (pgOf l R)) 0 (-1) from rfl)
      generalize rootF idleT (pgOf l R) = ct at *
      refine callH (j := 5) (by kernel_rfl) rfl rfl (some 29) rfl 22 #[.agg #[.slice An l.length cn, .slice As l.length cs], .int .i64 0, .slice A1 ts.length c1] (run_enter Tryd.func22 (by kernel_rfl) (by kernel_rfl) _ _ rfl #[.agg #[.slice An l.length cn, .slice As l.length cs], .int .i64 0, .slice A1 ts.length c1] (by kernel_rfl) _) HCO.out ?_
      rintro e wv3 ⟨⟨A2, c2, rfl, hv2⟩, hx⟩
      have HB3 := hide (HB2.out.trans (hx.mono (bsz HB2.out hDw)))
      have HD3 := hide (HD2.out.below hx HD2.out.lt)
      have h23 := hx.size
      clear hx HCO
      refine ⟨_, rfl, HD3.out, ?_⟩
      simp only [Act.put, List.setIfInBounds_toArray, List.set_cons_zero, List.set_cons_succ]
      have HFL := hide (flat_any wv3.heap.size (szT ct) ct (Nat.le_refl _) [] (.slice none 0 0) A2 c2 (-1) wv3 (Nat.le_refl _) ⟨fun _ => .slice none 0 0, own_none _ _ _ _, fun i hi => absurd hi (Nat.not_lt_zero _), fun i j hi => absurd hi (Nat.not_lt_zero _)⟩ (hv2.mono fun g hg => by
        rcases hg with (hg | hg) | hg
        · exact hg.elim
        · exact Nat.lt_of_lt_of_le hg.2 h23
        · exact hg.2) (by have := HSZ.out; simp; omega))
      refine callH (j := 6) (by kernel_rfl) rfl rfl (some 30) rfl 21 #[.slice none 0 0, .agg #[.int .i64 ct.kind, .int .i64 ct.node, .int .i64 0, .slice none 0 0, .string ct.text, .slice A2 ct.kids.length c2], .int .i64 (-1)] (run_enter Tryd.func21 (by kernel_rfl) (by kernel_rfl) _ _ rfl #[.slice none 0 0, .agg #[.int .i64 ct.kind, .int .i64 ct.node, .int .i64 0, .slice none 0 0, .string ct.text, .slice A2 ct.kids.length c2], .int .i64 (-1)] (by kernel_rfl) _) HFL.out ?_
      rintro e wv5 ⟨⟨v5, rfl, hv5⟩, hx⟩
      have HB5 := hide (HB3.out.trans (hx.mono (bsz HB3.out hDw)))
      have HD5 := hide (HD3.out.below hx HD3.out.lt)
      have HV5 := hide (show ∃ D', D ≤ D' ∧ FlS wv5 D' v5 (bxsOf l R) from ⟨_, bsz HB3.out hDw, by rw [HPO.out]; exact hv5⟩)
      clear hx HFL hv5
      refine ⟨_, rfl, HD5.out, ?_⟩
      simp only [Act.put, List.setIfInBounds_toArray, List.set_cons_zero, List.set_cons_succ]
      refine take_at (i := 7) (v := v5) (some 4) rfl rfl (by kernel_rfl) (by kernel_rfl) (by kernel_rfl) (fun _ _ _ h => h) (Or.inl ⟨by rfl, fun W hW => ?_⟩) HD5.out ?_
      · go_simp
      simp only [Act.put, List.setIfInBounds_toArray, List.set_cons_zero, List.set_cons_succ]
      refine take_at (i := 8) (v := (.int .i64 0)) (some 5) rfl rfl (by kernel_rfl) (by kernel_rfl) (by kernel_rfl) (fun _ _ _ h => h) (Or.inl ⟨by rfl, fun W hW => ?_⟩) HD5.out ?_
      · go_simp
      simp only [Act.put, List.setIfInBounds_toArray, List.set_cons_zero, List.set_cons_succ]
      refine wpAnyH_done (by kernel_rfl) ?_ _
      go_wp2_with fail
      go_ret2
      exact ⟨⟨_, _, rfl, fun h => absurd rfl h, fun _ => ⟨HDA.out, rfl, HDE.out ▸ HV5.out⟩⟩, HDE.out ▸ HB5.out⟩
    · have t1 : (z3 == 0) = false := by simpa using hz0
      have HZ0 := hide hz0
      clear hz0
      go_wp2_with fail
      go_ret2
      exact ⟨⟨_, _, rfl, fun _ => rfl, fun h => absurd h HZ0.out⟩, HB3.out⟩
  · have t1 : (z == 0) = false := by simpa using hz0
    have HZ0 := hide hz0
    clear hz0
    go_wp2_with fail
    go_ret2
    exact ⟨⟨_, _, rfl, fun _ => rfl, fun h => absurd h HZ0.out⟩, HB2.out⟩
end Go.Proofs.YtbpkffoooieejaaDoor
/- clerestorykeep3.boxed: a closed fact. -/
namespace Go.Proofs.YtbpkffoooieejaaDoor
open Go.ChangeShapes Go.WideShapes Go.ChangeAt Go.RowKit Go.Instr
def boxedL : List Bo := [⟨4, 0, -1, [0], ⟨#[]⟩⟩]
def boxedR (j : Nat) : Int := if j == 4 || j == 5 then 1 else 0
theorem boxed_sty : (Tryd.zeroCells50.setIfInBounds 4 (Value.int .i64 1)).setIfInBounds 5 (.int .i64 1) = styA boxedR := by kernel_rfl
theorem boxed_out : outF boxedR = 1 := by decide
theorem boxed_no : ¬ BoxGood boxedL 0 := fun h => by
  have h1 := (h.2 0 (by decide)).1
  exact absurd h1 (by decide)
set_option maxRecDepth 100000 in
set_option maxHeartbeats 40000000 in
theorem boxed_any (w : World) : Calls Tryd.prog 10 #[] w fun e w' => e = .returned (.bool true) ∧ Below w.heap.size w w' := by
  have hb1 := (Below.refl w.heap.size w).alloc (Nat.le_refl _) (.cells #[.int .i64 0] 3)
  have hb2 := hb1.alloc hb1.size (.cells #[.int .i64 4, .int .i64 0, .int .i64 (-1), .slice (some ⟨w.heap.size, 0, none⟩) 1 1, .string ⟨#[]⟩] 45)
  have hk := (Blk.new w 3 #[.int .i64 0]).alloc (.cells #[.int .i64 4, .int .i64 0, .int .i64 (-1), .slice (some ⟨w.heap.size, 0, none⟩) 1 1, .string ⟨#[]⟩] 45)
  have hx := blk_two w (.cells #[.int .i64 0] 3) #[.int .i64 4, .int .i64 0, .int .i64 (-1), .slice (some ⟨w.heap.size, 0, none⟩) 1 1, .string ⟨#[]⟩] 45
  have HC := hide (Check_any boxedL (some ⟨w.heap.size + 1, 0, none⟩) 1 _ (show BoxIn ((w.alloc (.cells #[.int .i64 0] 3)).alloc (.cells #[.int .i64 4, .int .i64 0, .int .i64 (-1), .slice (some ⟨w.heap.size, 0, none⟩) 1 1, .string ⟨#[]⟩] 45)) _ (some ⟨w.heap.size + 1, 0, none⟩) boxedL from fun k hkl => by
    obtain rfl : k = 0 := by have : k < 1 := hkl; omega
    refine ⟨_, _, some ⟨w.heap.size, 0, none⟩, 1, rfl, hx.lt, ⟨hx.cell 0, hx.cell 1, hx.cell 2, hx.cell 3, hx.cell 4, (reads_blk hk 1 rfl).more hk.lt⟩, by decide⟩) (by decide))
  have HB := hide hb2
  clear hb1 hb2 hk hx
  go_enter Tryd.func10, Tryd.ntmps10
  go_wp2_with fail
  refine HC.out.mono ?_
  rintro e w2 ⟨⟨z, rfl, hz1, hz2, hz3⟩, hb⟩
  obtain rfl : z = 3 := hz1.elim (fun h => absurd (hz2 h 0 (by decide)) boxed_no) id
  have HB2 := hide (HB.out.trans (hb.mono HB.out.size))
  clear hz1 hz2 hz3 hb HB HC
  go_wp2_with fail
  rw [boxed_sty]
  refine (Out_any boxedR w2).mono ?_
  rintro e w3 ⟨rfl, rfl⟩
  rw [boxed_out]
  go_wp2_with fail
  go_ret
  exact ⟨rfl, HB2.out.alloc HB2.out.size _⟩
end Go.Proofs.YtbpkffoooieejaaDoor
/- The boxes of a document, as boxes in memory; what the laws say of them. -/
namespace Go.Proofs.YtbpkffoooieejaaDoor
open Go.RowKit
def toBo (b : Bx) : Bo := ⟨b.kind, b.node, b.par, b.kids.map fun (k : Nat) => (k : Int), b.text⟩
/-- The boxes that Make gives. -/
def bosOf (l : List Nd) (R : Nat → Nat → Int) : List Bo := (bxsOf l R).map toBo
theorem bos_len (l : List Nd) (R : Nat → Nat → Int) : (bosOf l R).length = (bxsOf l R).length := by unfold bosOf; rw [List.length_map]
theorem bos_at (l : List Nd) (R : Nat → Nat → Int) {i : Nat} (h : i < (bxsOf l R).length) : boAt (bosOf l R) i = toBo (bxsOf l R)[i] := by
  rw [boAt_of _ _ (by rw [bos_len]; exact h)]
  simp [bosOf]
theorem bxAt_of (l : List Bx) {i : Nat} (h : i < l.length) : bxAt l i = l[i] := by simp [bxAt, List.getD, List.getElem?_eq_getElem h]
theorem FlS.boxIn {w : World} {D : Nat} {v : Value} {l : List Nd} {R : Nat → Nat → Int} (h : FlS w D v (bxsOf l R)) : ∃ A c, v = .slice A (bosOf l R).length c ∧ (bosOf l R).length ≤ maxLen ∧ BoxIn w w.heap.size A (bosOf l R) := by
  obtain ⟨F, h⟩ := h
  obtain ⟨A, c, rfl, h1, h2, _⟩ := own_reads2 h.own
  rw [bos_len]
  refine ⟨A, c, rfl, by omega, fun k hk => ?_⟩
  rw [bos_len] at hk
  obtain ⟨g, cap, hv, _, hgl⟩ := h.own.form (by omega)
  injection hv with hA _ hc
  subst hA hc
  have hc0 : ∀ j, j < 5 → w.cell? ⟨g, 0 + k * 5 + j, none⟩ = (bxC (bxAt (bxsOf l R) k) (F k))[j]? := fun j hj => by
    rw [Nat.zero_add, h.own.cellAt (k * 5 + j) (by omega), fcells_at F _ k j hk hj]
  obtain ⟨Ak, ck, hF, h3, h4, h5⟩ := own_reads2 (h.kid k hk)
  rw [hF, bxAt_of _ hk] at hc0
  rw [bxAt_of _ hk] at h3 h5
  have e : (boAt (bosOf l R) k).kids.length = (bxsOf l R)[k].kids.length := by rw [bos_at l R hk]; simp [toBo]
  refine ⟨g, 0, Ak, ck, rfl, hgl, ?_, by rw [e]; omega⟩
  rw [bos_at l R hk]
  refine ⟨hc0 0 (by omega), hc0 1 (by omega), hc0 2 (by omega), ?_, hc0 4 (by omega), ?_⟩
  · have := hc0 3 (by omega)
    rw [this]
    simp [bxC, toBo]
  · have e2 : (toBo (bxsOf l R)[k]).kids.length = (bxsOf l R)[k].kids.length := by simp [toBo]
    have e3 : (toBo (bxsOf l R)[k]).kids.map (Value.int .i64) = natCells (bxsOf l R)[k].kids := by simp [toBo, natCells]
    rw [e2, e3]
    exact h5
theorem ou_nonneg (l : List Nd) (R : Nat → Nat → Int) (n : Nat) : 0 ≤ (pgOf l R).ou n := by
  show 0 ≤ outF (R n)
  unfold outF
  split
  · decide
  · split <;> decide
theorem bos_pair (l : List Nd) (R : Nat → Nat → Int) {i : Nat} (h : i < (bosOf l R).length) (h0 : 0 < i) : ∃ j, j < (bosOf l R).length ∧ (boAt (bosOf l R) i).par = (j : Int) ∧ PairOk (pgOf l R) (boAt (bosOf l R) j).kind (boAt (bosOf l R) i).kind (boAt (bosOf l R) i).node (boAt (bosOf l R) j).kids.length := by
  rw [bos_len] at h ⊢
  obtain ⟨j, hj, h1, h2⟩ := kinds_law idleT (pgOf l R) (ou_nonneg l R) i h h0
  refine ⟨j, hj, ?_, ?_⟩
  · rw [bos_at l R h]; exact h1
  · rw [bos_at l R h, bos_at l R hj]
    have e : (toBo (bxsOf l R)[j]).kids.length = (bxsOf l R)[j].kids.length := by simp [toBo]
    rw [e]
    exact h2
theorem bos_nodes {l : List Nd} (hda : DocAll l) (R : Nat → Nat → Int) : ((bosOf l R).flatMap fun b => nodeL b.node).Sublist (0 :: dscF (pgOf l R) 41 0) := by
  have h := once_law idleT (pgOf l R) (hda.tree R) hda.some_
  unfold bosOf
  rw [List.flatMap_map]
  exact h
theorem bos_node {l : List Nd} (hda : DocAll l) (R : Nat → Nat → Int) {i : Nat} (h : i < (bosOf l R).length) (h0 : 0 ≤ (boAt (bosOf l R) i).node) : (boAt (bosOf l R) i).node.toNat < l.length := by
  have h1 : (boAt (bosOf l R) i).node.toNat ∈ (0 :: dscF (pgOf l R) 41 0) := (bos_nodes hda R).subset (List.mem_flatMap.2 ⟨boAt (bosOf l R) i, by rw [boAt_of _ _ h]; exact List.getElem_mem h, by unfold nodeL; rw [if_pos h0]; simp⟩)
  rcases List.mem_cons.1 h1 with e | e
  · rw [e]; exact hda.some_
  · exact (dsc_lt (pgOf l R) (hda.tree R) 41 0 hda.some_ _ e).1
theorem bos_first (l : List Nd) (R : Nat → Nat → Int) : 0 < (bosOf l R).length ∧ (boAt (bosOf l R) 0).node = 0 ∧ (boAt (bosOf l R) 0).par = -1 := by
  obtain ⟨h, h1, h2⟩ := bxs_first idleT (pgOf l R)
  refine ⟨by rw [bos_len]; exact h, ?_, ?_⟩
  · rw [bos_at l R h]; exact h1
  · rw [bos_at l R h]; exact h2
end Go.Proofs.YtbpkffoooieejaaDoor
