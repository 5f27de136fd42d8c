/- dom.kids. -/
import Derived.BigQuiet
import Derived.Handy
import Derived.IntWalk
import Derived.RegionTactic
import Derived.Deep.MidRow
import Derived.Deep.CutBlock
import Derived.Test.YtbpkffoooieejaaDoorK1
import Derived.Test.YtbpkffoooieejaaDoorK2
set_option linter.unusedVariables false
set_option linter.unusedSimpArgs false
namespace Go.Proofs.YtbpkffoooieejaaDoor
open Go.ChangeShapes Go.WideShapes Go.ChangeAt Go.RowKit
theorem bool_info : (Tryd.prog.info? 4).map (fun i => (i.zero, i.size, i.bytes)) = some (some (.bool false), 1, 1) := by kernel_rfl
theorem below_alloc2 {B : Nat} {w : World} (h : Below B w w) (a b : Obj) (hB : B ≤ w.heap.size := by exact Nat.le_refl _) : Below B w ((w.alloc a).alloc b) := by
  have h1 := h.alloc hB a
  exact h1.alloc (Nat.le_trans hB h1.size) b
def KidAll1 (l : List Nd) (i m : Nat) : Prop := KidOne l i m ∧ ¬ (i = 0 ∧ (ndAt l (kdAt l i m).toNat).kind = 3)
structure KidsAll (l : List Nd) : Prop where
  one : ∀ i, i < l.length → ∀ m, m < (ndAt l i).kids.length → KidAll1 l i m
  seen : ∀ i, i < l.length → (ndAt l i).par ≠ -1 → snF l l.length 0 i = true
  root : (ndAt l 0).par = -1
theorem KidsAll.ok {l : List Nd} (h : KidsAll l) : KidsOk l := kids_law l (fun i hi m hm => (h.one i hi m hm).1) h.seen h.root
def KidsPost (l : List Nd) (e : Ending) : Prop := ∃ z, e = .returned (.int .i64 z) ∧ (z = 0 ↔ KidsAll l)
theorem kids_bad {l : List Nd} {z : Int} (o : ¬ KidsAll l) (h : z ≠ 0) : KidsPost l (.returned (.int .i64 z)) := ⟨z, rfl, fun e => absurd e h, fun e => absurd e o⟩
theorem boolBytes : (Tryd.prog.info? 4).map (·.size) = some 1 := by kernel_rfl
set_option maxRecDepth 100000 in
set_option maxHeartbeats 40000000 in
theorem kids_any (l : List Nd) (A : Option Addr) (c : Nat) (q : Bool) (w : World) (hI : NdIn w w.heap.size A l) (hN : l.length ≤ 200) (hN0 : 0 < l.length) :
    Calls Tryd.prog 37 #[.agg #[.slice A l.length c, .bool q]] w fun e w' => KidsPost l e ∧ Below w.heap.size w w' := by
  have HI := hide hI
  clear hI
  have hmk : ∀ Wo : World, (Instr.makeSlice 34 (.int .i64 (l.length : Int)) (.int .i64 (l.length : Int))).run Tryd.prog Wo = .ok (.slice (some ⟨Wo.heap.size, 0, none⟩) l.length l.length) (Wo.alloc (.cells (kvA (fun f => .bool (snF l 0 0 f)) l.length) 4)) := fun Wo => by
    obtain ⟨i, hi, hz, h1, h3⟩ := info_parts bool_info
    have := run_make_rowN 34 4 i (.bool false) Tryd.underlying34 hi hz .i64 .i64 l.length l.length (Nat.le_refl _) (by rw [h3]; omega) (by omega) Wo
    rw [h1, Nat.mul_one] at this
    rw [sn_zero, ← kvA_const]
    exact this
  have HD1 := hide (Blk.new w 41 #[.slice A l.length c, .bool q])
  have HD := hide (HD1.out.alloc (.cells (kvA (fun f => .bool (snF l 0 0 f)) l.length) 4))
  have HS := hide (blk_two w (.cells #[.slice A l.length c, .bool q] 41) (kvA (fun f => .bool (snF l 0 0 f)) l.length) 4)
  have HB := hide (show Below w.heap.size w ((w.alloc (.cells #[.slice A l.length c, .bool q] 41)).alloc (.cells (kvA (fun f => .bool (snF l 0 0 f)) l.length) 4)) from below_alloc2 (Below.refl _ _) _ _)
  have x0 : (w.alloc (.cells #[.slice A l.length c, .bool q] 41)).cell? ⟨w.heap.size, 0, none⟩ = some (.slice A l.length c) := HD1.out.cell 0
  have y0 : ((w.alloc (.cells #[.slice A l.length c, .bool q] 41)).alloc (.cells (kvA (fun f => .bool (snF l 0 0 f)) l.length) 4)).cell? ⟨w.heap.size, 0, none⟩ = some (.slice A l.length c) := HD.out.cell 0
  go_enter Tryd.func37, Tryd.ntmps37
  go_wp2_with fail
  clear x0 y0 hmk HD1
  generalize (w.alloc (.cells #[.slice A l.length c, .bool q] 41)).alloc (.cells (kvA (fun f => .bool (snF l 0 0 f)) l.length) 4) = wd at *
  obtain ⟨D, hD⟩ : ∃ D, D = w.heap.size := ⟨_, rfl⟩
  obtain ⟨S, hS⟩ : ∃ S, S = w.heap.size + 1 := ⟨_, rfl⟩
  rw [← hS] at HS ⊢
  rw [← hD] at HD HI HB ⊢
  have hDS : D ≤ S := by omega
  have hDw : D ≤ w.heap.size := by omega
  have HDE := hide hD
  clear hS hD
  go_loopw [17] (fun i wr => ∃ j : Nat, j ≤ l.length ∧ i = .int .i64 j ∧ (∀ i', i' < j → ∀ m, m < (ndAt l i').kids.length → KidAll1 l i' m) ∧ Blk wr D 41 #[.slice A l.length c, .bool q] ∧ Blk wr S 4 (kvA (fun f => .bool (snF l j 0 f)) l.length) ∧ Below D w wr) (fun i _ => l.length - (intOf i).toNat)
  case atStart => exact ⟨0, Nat.zero_le _, rfl, fun i' h => absurd h (Nat.not_lt_zero _), HD.out, HS.out, HB.out⟩
  case round =>
    clear HD HS HB
    obtain ⟨j, hj, rfl, hgood, hDB, hSB, hbel⟩ := hrel
    have HG := hide hgood
    have HDB := hide hDB
    have HSB := hide hSB
    have HBL := hide hbel
    clear hgood hDB hSB hbel
    by_cases hjl : j < l.length
    · obtain ⟨g, off, Aa, ca, Ak, ck, rfl, hg, hn, hsz⟩ := HI.out j hjl
      have HK := hide hn.kids
      obtain ⟨d0, d1, d2, d3, d4, d5, _, _⟩ := hn.below HBL.out hg
      clear hn
      have hkm : (ndAt l j).kids.length ≤ maxLen := Nat.le_trans hsz.kids hsz.kidc
      unfold maxLen at hkm
      clear hsz
      have HKA := hide (fun m => show kdAt l j m = (ndAt l j).kids.getD m 0 from rfl)
      obtain ⟨n, hn⟩ : ∃ n, n = (ndAt l j).kids.length := ⟨_, rfl⟩
      rw [← hn] at d5 hkm
      have HNK := hide hn
      clear hn
      have HBA := hide (HBL.out.alloc (bsz HBL.out hDw) (.cells #[.int .i64 (ndAt l j).kind, .string (ndAt l j).name, .slice Aa (ndAt l j).attrs.length ca, .string (ndAt l j).text, .int .i64 (ndAt l j).par, .slice Ak n ck] 58))
      have HDA := hide (HDB.out.alloc (.cells #[.int .i64 (ndAt l j).kind, .string (ndAt l j).name, .slice Aa (ndAt l j).attrs.length ca, .string (ndAt l j).text, .int .i64 (ndAt l j).par, .slice Ak n ck] 58))
      have HSA := hide (HSB.out.alloc (.cells #[.int .i64 (ndAt l j).kind, .string (ndAt l j).name, .slice Aa (ndAt l j).attrs.length ca, .string (ndAt l j).text, .int .i64 (ndAt l j).par, .slice Ak n ck] 58))
      have HXA := hide (Blk.new wr 58 #[.int .i64 (ndAt l j).kind, .string (ndAt l j).name, .slice Aa (ndAt l j).attrs.length ca, .string (ndAt l j).text, .int .i64 (ndAt l j).par, .slice Ak n ck])
      generalize (ndAt l j).kind = kk at *
      generalize (ndAt l j).name = nm at *
      generalize (ndAt l j).attrs.length = na at *
      generalize (ndAt l j).text = tx at *
      generalize (ndAt l j).par = pr at *
      have x5 : (wr.alloc (.cells #[.int .i64 kk, .string nm, .slice Aa na ca, .string tx, .int .i64 pr, .slice Ak n ck] 58)).cell? ⟨wr.heap.size, 5, none⟩ = some (.slice Ak n ck) := HXA.out.cell 5
      go_wp2_with fail
      clear d0 d1 d2 d3 d4 d5 x5
      generalize wr.alloc (.cells #[.int .i64 kk, .string nm, .slice Aa na ca, .string tx, .int .i64 pr, .slice Ak n ck] 58) = wf at *
      go_loopw [25] (fun i wq => ∃ m : Nat, m ≤ n ∧ i = .int .i64 m ∧ (∀ m', m' < m → KidAll1 l j m') ∧ Blk wq D 41 #[.slice (some ⟨g, off, none⟩) l.length c, .bool q] ∧ Blk wq S 4 (kvA (fun f => .bool (snF l j m f)) l.length) ∧ Below D w wq) (fun i _ => n - (intOf i).toNat)
      case atStart => exact ⟨0, Nat.zero_le _, rfl, fun m' h => absurd h (Nat.not_lt_zero _), HDA.out, HSA.out, HBA.out⟩
      case round =>
        clear HDA HSA HBA HXA HDB HSB HBL
        obtain ⟨m, hm, rfl, hones, hDB, hSB, hbel⟩ := hrel
        have HON := hide hones
        have HDB := hide hDB
        have HSB := hide hSB
        have HBL := hide hbel
        clear hones hDB hSB hbel
        by_cases hmn : m < n
        · obtain ⟨gk, ok_, rfl, hgk, hkc⟩ := kid_form HK.out (by rw [← HNK.out]; omega)
          have k0 : wr.cell? ⟨gk, ok_ + m, none⟩ = some (.int .i64 (kdAt l j m)) := (HBL.out.cell (p := ⟨gk, ok_ + m, none⟩) (by omega)).trans ((hkc m (by rw [← HNK.out]; exact hmn)).trans (by rw [HKA.out m]))
          clear hkc
          have HK1 := hide (fun h1 h2 h3 h4 => (⟨h1, h2, h3, h4⟩ : KidOne l j m))
          have HKA1 := hide (fun (h : KidOne l j m) (o : ¬ (j = 0 ∧ (ndAt l (kdAt l j m).toNat).kind = 3)) => show KidAll1 l j m from ⟨h, o⟩)
          have HKB := hide (fun (h : KidsAll l) => show 0 ≤ kdAt l j m ∧ kdAt l j m < l.length ∧ (ndAt l (kdAt l j m).toNat).par = j ∧ snF l j m (kdAt l j m).toNat = false ∧ ¬ (j = 0 ∧ (ndAt l (kdAt l j m).toNat).kind = 3) from by
            obtain ⟨⟨h1, h2, h3, h4⟩, h5⟩ := h.one j hjl m (by rw [← HNK.out]; exact hmn)
            exact ⟨h1, h2, h3, h4, h5⟩)
          have HST := hide (fun h => sn_step l j m (by rw [← HNK.out]; exact hmn) h l.length)
          generalize kdAt l j m = z at *
          have e0 : wr.cell? ⟨D, 0, none⟩ = some (.slice (some ⟨g, off, none⟩) l.length c) := HDB.out.cell 0
          by_cases hz0 : z < 0
          · have e1 : decide (z < 0) = true := decide_eq_true hz0
            go_wp2_with fail
            go_ret
            exact ⟨kids_bad (fun h => by have := (HKB.out h).1; omega) (by decide), by rw [← HDE.out]; exact HBL.out⟩
          · have e1 : decide (z < 0) = false := decide_eq_false hz0
            obtain ⟨k, rfl⟩ : ∃ k : Nat, z = k := ⟨z.toNat, by omega⟩
            by_cases hkl : k < l.length
            · have e2 : ¬ l.length ≤ k := by omega
              obtain ⟨g2, off2, _, _, _, _, hAe, hg2, hn2, _⟩ := HI.out k hkl
              injection hAe with hAe
              injection hAe with hg' hoff'
              subst hg' hoff'
              obtain ⟨q0, _, _, _, q4, _, _, _⟩ := hn2.below HBL.out hg2
              have HPK := hide (show (ndAt l k).par = (ndAt l ((k : Int).toNat)).par by rw [Int.toNat_natCast])
              clear hn2
              have s0 : wr.cell? ⟨S, k, none⟩ = some (.bool (snF l j m k)) := by rw [HSB.out.cell k, kvA_at _ _ _ hkl]
              obtain ⟨kq, hkq⟩ : ∃ kq, kq = (ndAt l k).kind := ⟨_, rfl⟩
              rw [← hkq] at q0
              have HQK := hide (show kq = (ndAt l ((k : Int).toNat)).kind by rw [Int.toNat_natCast]; exact hkq)
              clear hkq
              obtain ⟨pq, hpq⟩ : ∃ pq, pq = (ndAt l k).par := ⟨_, rfl⟩
              rw [← hpq] at q4 HPK
              clear hpq
              by_cases hp : pq = (j : Int)
              · subst hp
                cases hsn : snF l j m k
                · rw [hsn] at s0
                  have hone := HK1.out (by omega) (by omega) HPK.out.symm (by rw [Int.toNat_natCast]; exact hsn)
                  have hset := HST.out hone
                  rw [Int.toNat_natCast] at hset
                  have HSET := hide hset
                  have HONE := hide hone
                  have HZ1 := hide (show k < (kvA (fun f => .bool (snF l j m f)) l.length).size by rw [kvA_size]; exact hkl)
                  have HI1 := hide boolBytes
                  have HNE := hide (HDB.out.ne_ HSB.out (by decide))
                  clear hset hone
                  by_cases hj0 : j = 0
                  · have t0 : ((j : Int) == 0) = true := by simp [hj0]
                    have t1 : (j == 0) = true := by simp [hj0]
                    have t2 : decide (j = 0) = true := by simp [hj0]
                    have HJ0 := hide hj0
                    clear hj0
                    by_cases hq3 : kq = 3
                    · subst hq3
                      go_wp2_with fail
                      go_ret
                      exact ⟨kids_bad (fun h => (HKB.out h).2.2.2.2 ⟨HJ0.out, HQK.out.symm⟩) (by decide), by rw [← HDE.out]; exact HBL.out⟩
                    · have t3 : (kq == 3) = false := by simpa using hq3
                      have HON2 := hide (HKA1.out HONE.out fun o => hq3 (HQK.out.trans o.2))
                      clear hq3
                      go_wp2_with (first
                        | (refine wpList_store_fld rfl 4 (.tmp 68) (.const (.bool true)) rfl S k 4 _ (.bool true) rfl rfl HSB.out HZ1.out HI1.out rfl rfl ?_; intro w2 hB2 hG2)
                        | fail)
                      have HDB2 := hide (HDB.out.grown hG2 (fun e => HNE.out (by injection e)))
                      have HBL2 := hide (below_grown HBL.out hDw hG2 hDS)
                      have HSB2 := hide (show Blk w2 S 4 (kvA (fun f => .bool (snF l j (m + 1) f)) l.length) by rw [← HSET.out]; exact hB2)
                      clear hB2 hG2
                      go_roundw
                      case rel => exact ⟨m + 1, by omega, by go_num, fun m' hm' => by
                        by_cases e : m' = m
                        · subst e; exact HON2.out
                        · exact HON.out m' (by omega), HDB2.out, HSB2.out, HBL2.out⟩
                      case measure => simp only [intOf]; omega
                  · have t0 : ((j : Int) == 0) = false := by simp; omega
                    have t1 : (j == 0) = false := by simpa using hj0
                    have t2 : decide (j = 0) = false := by simpa using hj0
                    have HON2 := hide (HKA1.out HONE.out fun o => hj0 o.1)
                    clear hj0
                    go_wp2_with (first
                      | (refine wpList_store_fld rfl 4 (.tmp 68) (.const (.bool true)) rfl S k 4 _ (.bool true) rfl rfl HSB.out HZ1.out HI1.out rfl rfl ?_; intro w2 hB2 hG2)
                      | fail)
                    have HDB2 := hide (HDB.out.grown hG2 (fun e => HNE.out (by injection e)))
                    have HBL2 := hide (below_grown HBL.out hDw hG2 hDS)
                    have HSB2 := hide (show Blk w2 S 4 (kvA (fun f => .bool (snF l j (m + 1) f)) l.length) by rw [← HSET.out]; exact hB2)
                    clear hB2 hG2
                    go_roundw
                    case rel => exact ⟨m + 1, by omega, by go_num, fun m' hm' => by
                      by_cases e : m' = m
                      · subst e; exact HON2.out
                      · exact HON.out m' (by omega), HDB2.out, HSB2.out, HBL2.out⟩
                    case measure => simp only [intOf]; omega
                · rw [hsn] at s0
                  have HSN1 := hide hsn
                  clear hsn
                  go_wp2_with fail
                  go_ret
                  exact ⟨kids_bad (fun h => by have h4 := (HKB.out h).2.2.2.1; rw [Int.toNat_natCast, HSN1.out] at h4; cases h4) (by decide), by rw [← HDE.out]; exact HBL.out⟩
              · have tp : (pq != (j : Int)) = true := by simpa using hp
                have tq : (pq == (j : Int)) = false := by simpa using hp
                go_wp2_with fail
                go_ret
                exact ⟨kids_bad (fun h => hp (HPK.out.trans (HKB.out h).2.2.1)) (by decide), by rw [← HDE.out]; exact HBL.out⟩
            · have e2 : l.length ≤ k := by omega
              go_wp2_with fail
              go_ret
              exact ⟨kids_bad (fun h => by have := (HKB.out h).2.1; omega) (by decide), by rw [← HDE.out]; exact HBL.out⟩
        · obtain rfl : m = n := by omega
          go_wp2_with fail
          go_roundw
          case rel => exact ⟨j + 1, by omega, by go_num, fun i' hi' m' hm' => by
            by_cases e : i' = j
            · subst e
              exact HON.out m' (by rw [HNK.out]; exact hm')
            · exact HG.out i' (by omega) m' hm', HDB.out, by rw [sn_next, ← HNK.out]; exact HSB.out, HBL.out⟩
          case measure => simp only [intOf]; omega
    · obtain rfl : j = l.length := by omega
      have HS9 := hide (show Blk wr S 4 (kvA (fun f => .bool (snF l l.length 0 f)) l.length) from HSB.out)
      have e0 : wr.cell? ⟨D, 0, none⟩ = some (.slice A l.length c) := HDB.out.cell 0
      go_wp2_with fail
      clear e0
      generalize wr = wd at *
      go_loopw [74] (fun i wq => ∃ p : Nat, p ≤ l.length ∧ i = .int .i64 p ∧ (∀ i', i' < p → (ndAt l i').par ≠ -1 → snF l l.length 0 i' = true) ∧ Below wd.heap.size wd wq) (fun i _ => l.length - (intOf i).toNat)
      case atStart => exact ⟨0, Nat.zero_le _, rfl, fun i' h => absurd h (Nat.not_lt_zero _), Below.refl _ _⟩
      case round =>
        obtain ⟨p, hp, rfl, hseen, hbel⟩ := hrel
        have HSN := hide hseen
        have HBW := hide hbel
        have HB2 := hide (show Below D w wr from HBL.out.trans (hbel.mono (bsz HBL.out hDw)))
        clear hseen hbel
        by_cases hpl : p < l.length
        · obtain ⟨g, off, Aa, ca, Ak, ck, rfl, hg, hn, hsz⟩ := HI.out p hpl
          obtain ⟨d0, d1, d2, d3, d4, d5, _, _⟩ := hn.below HB2.out hg
          clear hn hsz
          have s0 : wr.cell? ⟨S, p, none⟩ = some (.bool (snF l l.length 0 p)) := by rw [HBW.out.cell (p := ⟨S, p, none⟩) HS9.out.lt, HS9.out.cell p, kvA_at _ _ _ hpl]
          obtain ⟨pr, hpr⟩ : ∃ pr, pr = (ndAt l p).par := ⟨_, rfl⟩
          obtain ⟨n, hn⟩ : ∃ n, n = (ndAt l p).kids.length := ⟨_, rfl⟩
          rw [← hpr] at d4
          rw [← hn] at d5
          have HPP := hide hpr
          clear hpr hn
          generalize (ndAt l p).kind = kk at *
          generalize (ndAt l p).name = nm at *
          generalize (ndAt l p).attrs.length = na at *
          generalize (ndAt l p).text = tx at *
          have hbr := (Below.refl wr.heap.size wr).alloc (Nat.le_refl _) (.cells #[.int .i64 kk, .string nm, .slice Aa na ca, .string tx, .int .i64 pr, .slice Ak n ck] 58)
          have HBA := hide (HBW.out.alloc HBW.out.size (.cells #[.int .i64 kk, .string nm, .slice Aa na ca, .string tx, .int .i64 pr, .slice Ak n ck] 58))
          have HBD := hide (HB2.out.alloc (bsz HB2.out hDw) (.cells #[.int .i64 kk, .string nm, .slice Aa na ca, .string tx, .int .i64 pr, .slice Ak n ck] 58))
          have x4 : (wr.alloc (.cells #[.int .i64 kk, .string nm, .slice Aa na ca, .string tx, .int .i64 pr, .slice Ak n ck] 58)).cell? ⟨wr.heap.size, 4, none⟩ = some (.int .i64 pr) := (Blk.new wr 58 #[.int .i64 kk, .string nm, .slice Aa na ca, .string tx, .int .i64 pr, .slice Ak n ck]).cell 4
          have s1 := (hbr.cell (p := ⟨S, p, none⟩) (cell_lt s0)).trans s0
          clear hbr s0
          by_cases hp1 : pr = -1
          · have t1 : (pr != -1) = false := by simp [hp1]
            have HP1 := hide hp1
            clear hp1
            go_wp2_with fail
            go_roundw
            case rel => exact ⟨p + 1, by omega, by go_num, fun i' hi' hne => by
              by_cases e : i' = p
              · subst e
                exact absurd (HPP.out.symm.trans HP1.out) hne
              · exact HSN.out i' (by omega) hne, HBA.out⟩
            case measure => simp only [intOf]; omega
          · have t1 : (pr != -1) = true := by simpa using hp1
            have HP2 := hide (show pr ≠ -1 from hp1)
            clear hp1
            cases hsn : snF l l.length 0 p
            · rw [hsn] at s1
              have HSF := hide hsn
              clear hsn
              go_wp2_with fail
              go_ret
              exact ⟨kids_bad (fun h => by have h4 := h.seen p hpl (by rw [← HPP.out]; exact HP2.out); rw [HSF.out] at h4; cases h4) (by decide), by rw [← HDE.out]; exact HBD.out⟩
            · rw [hsn] at s1
              have HSP := hide hsn
              clear hsn
              go_wp2_with fail
              go_roundw
              case rel => exact ⟨p + 1, by omega, by go_num, fun i' hi' hne => by
                by_cases e : i' = p
                · subst e
                  exact HSP.out
                · exact HSN.out i' (by omega) hne, HBA.out⟩
              case measure => simp only [intOf]; omega
        · obtain rfl : p = l.length := by omega
          obtain ⟨g, off, Aa, ca, Ak, ck, rfl, hg, hn, hsz⟩ := HI.out 0 hN0
          have d4 := (hn.below HB2.out hg).c4
          clear hn hsz
          rw [Nat.zero_mul, Nat.add_zero] at d4
          have e0 : wr.cell? ⟨D, 0, none⟩ = some (.slice (some ⟨g, off, none⟩) l.length c) := (HBW.out.cell (p := ⟨D, 0, none⟩) HDB.out.lt).trans (HDB.out.cell 0)
          have HLW := hide (fun h => (⟨HG.out, HSN.out, h⟩ : KidsAll l))
          have HLR := hide (fun (h : KidsAll l) => h.root)
          have hn1 : ¬ l.length = 0 := by omega
          have hn2 : ¬ l.length ≤ 0 := by omega
          generalize (ndAt l 0).par = pr at *
          by_cases hp1 : pr = -1
          · subst hp1
            have HLW2 := hide (HLW.out rfl)
            go_wp2_with fail
            go_ret
            exact ⟨⟨0, rfl, fun _ => HLW2.out, fun _ => rfl⟩, by rw [← HDE.out]; exact HB2.out⟩
          · have t1 : (pr != -1) = true := by simpa using hp1
            have HP2 := hide (show pr ≠ -1 from hp1)
            clear hp1
            go_wp2_with fail
            go_ret
            exact ⟨kids_bad (fun h => HP2.out (HLR.out h)) (by decide), by rw [← HDE.out]; exact HB2.out⟩
end Go.Proofs.YtbpkffoooieejaaDoor
