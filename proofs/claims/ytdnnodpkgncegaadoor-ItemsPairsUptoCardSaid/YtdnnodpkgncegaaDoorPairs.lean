/- The walk of the statement ItemsPairs. -/
import Derived.BigQuiet
import Derived.Handy
import Derived.IntWalk
import Derived.RegionTactic
import Derived.Deep.MidRow
import Derived.Deep.CutBlock
import Derived.Test.YtdnnodpkgncegaaDoorItMake
namespace Go.Proofs.YtdnnodpkgncegaaDoor
open Go.ChangeShapes Go.WideShapes Go.ChangeAt Go.RowKit
theorem wpList_app7 {P : Program} {w : World} {ops : Array Oper} {rest : List Oper} {o : Oper} {a : Act} {Q : Exit → Act → World → Prop} (hgd : o.guard = none) (s x : Operand) (t : TypeId)
    (ho : o.op = .call { callee := .builtin .append, args := #[s, x], argTypes := #[t, t] }) (base : Nat) (e : TypeId) (z : Value) (size bytes : Nat) (ht : P.underlying t = some (.slice e))
    (hinfo : (P.info? e).map (fun i => (i.zero, i.size, i.bytes)) = some (some z, size, bytes)) (hzs : z.cells.size = size) (hsz : 0 < size)
    (v : Value) (n : Nat) (xs : List Value) (hs : a.eval s = v) (hown : w.ownsRow base e size v n xs) (g c : Nat) (cs : Array Value) (hb : Blk w g e cs) (hcs : cs.size = size) (hx : a.eval x = .slice (some ⟨g, 0, none⟩) 1 c)
    (h1 : cs.toList.all (·.oneCell') = true) (hn : n ≤ 10000000) (hby : bytes ≤ 1000) (hbase : base ≤ w.heap.size)
    (h : ∀ v' w', w'.ownsRow base e size v' (n + 1) (xs ++ cs.toList) → w.grownBy w' v.ownBlock → wpList P ops Q rest (a.put o.dst v') w') : wpList P ops Q (o :: rest) a w := by
  obtain ⟨i, hi, hz, hsize, hbytes⟩ := info_parts hinfo
  refine wpList_append_any w hgd s x t ho base e i z size bytes ht hi hz hsize hbytes hzs hsz v n xs hs hown (g + 1) (some ⟨g, 0, none⟩) 1 c cs.toList hx (reads_blk hb size hcs) (List.all_eq_true.1 h1) (by simp only [maxLen]; omega) ?_ hbase fun v' w' h2 h3 _ => h v' w' h2 h3
  have := Nat.mul_le_mul (show n + 1 ≤ 10000001 by omega) hby
  omega
/-- A row of the call's own, cut. -/
theorem own_pop {w : World} {base size n m c : Nat} {e : TypeId} {A : Option Addr} {xs : List Value} (h : w.ownsRow base e size (.slice A n c) n xs) (hm : m ≤ n) (hn : 0 < n) : w.ownsRow base e size (.slice A m c) m (xs.take (m * size)) := by
  obtain ⟨hl, h1 | ⟨g, cap, cur, hv, hg, hh, hc, hcm, hcs, ht⟩⟩ := h
  · omega
  · injection hv with hA hn2 hc2
    subst hA
    subst hc2
    refine ⟨?_, .inr ⟨g, c, cur, rfl, hg, hh, by omega, hcm, hcs, ?_⟩⟩
    · rw [List.length_take, hl]; exact Nat.min_eq_left (Nat.mul_le_mul_right _ hm)
    · rw [← ht, List.take_take, Nat.min_eq_left (Nat.mul_le_mul_right _ hm)]
theorem stp_len {st st' : List Int} {x : Ik} (h : stp st x = some st') : st'.length ≤ st.length + 1 := by
  unfold stp at h
  split at h
  · injection h with h; subst h; simp
  · split at h
    · unfold popI at h
      split at h
      · split at h
        · injection h with h; subst h; simp only [List.length_cons]; omega
        · cases h
      · cases h
    · split at h
      · split at h
        · cases h
        · injection h with h; subst h; omega
      · injection h with h; subst h; omega
def R9 (j : Nat) : Int := if j = 74 then 2 else if j = 75 then 800 else if j = 76 then 4 else if j = 77 then 1500 else 0
theorem high_nine : highN R9 = 1200 := by decide
set_option maxRecDepth 100000 in
set_option maxHeartbeats 4000000 in
theorem itemed_any (w : World) : Calls Tryd.prog 5 #[] w fun e w' => e = .returned (.bool true) ∧ Below w.heap.size w w' := by
  have hz := zero_sty
  have hsz : (styA fun _ => 0).size = 118 := styA_size _
  have HH := hide (high_any R9)
  rw [high_nine] at HH
  go_enter Tryd.func5, Tryd.ntmps5
  go_wp2_with (first | (go_at_call 8; refine (HH.out _).mono ?_; rintro e w9 ⟨rfl, hb9⟩) | fail)
  go_ret
  exact ⟨rfl, hb9⟩
theorem li_explicit (k b : Int) (t : ByteArray) (o : Nat → Int) : liA ⟨k, b, t, o⟩ = #[.int .i64 k, .int .i64 b, .string t, .int .i64 (o 3), .int .i64 (o 4), .int .i64 (o 5), .int .i64 (o 6), .int .i64 (o 7), .int .i64 (o 8), .int .i64 (o 9), .int .i64 (o 10)] := rfl
theorem int_inf : (Tryd.prog.info? 3).map (fun i => (i.zero, i.size, i.bytes)) = some (some (.int .i64 0), 1, 8) := by kernel_rfl
def opCells (st : List Int) : List Value := st.reverse.map (Value.int .i64)
theorem op_cons (c : Int) (st : List Int) : opCells (c :: st) = opCells st ++ [.int .i64 c] := by simp [opCells]
theorem op_len (st : List Int) : (opCells st).length = st.length := by simp [opCells]
set_option maxRecDepth 100000 in
set_option maxHeartbeats 40000000 in
theorem pairs_any (l : List Bo) (A As : Option Addr) (cB ns cs : Nat) (R : Nat → Nat → Int) (at_ room mv : Int) (w : World) (hB : BoxIn w w.heap.size A l) (hS : StyIn w w.heap.size As ns R) (hmv : w.cell? ⟨0, 0, none⟩ = some (.int .i64 mv)) (hl : l.length ≤ 1000000) (hT : ∀ k, k < l.length → (boAt l k).text.size ≤ 1048576) (htot : tot (ownN l) l.length ≤ 10000000) :
    Calls Tryd.prog 3 #[.slice A l.length cB, .slice As ns cs, .int .i64 at_, .int .i64 room] w fun e w' => e = .returned (.bool true) ∧ Below w.heap.size w w' := by
  have HM := hide (make_any l A As cB ns cs R at_ room mv w hB hS hmv hl hT htot)
  clear hB hS hmv
  go_enter Tryd.func3, Tryd.ntmps3
  go_wp2_with fail
  refine HM.out.mono ?_
  rintro e w1 ⟨⟨v, r, rfl, hv, hr⟩, hb1⟩
  clear HM
  by_cases h0 : r = 0
  · subst h0
    obtain ⟨s, hrow, hBal, hsl⟩ := hr rfl
    obtain ⟨AI, cI, rfl, hsc, _⟩ := own_reads hrow
    clear hv hr
    have HRW := hide hrow
    have Bi := Below.refl w1.heap.size w1
    clear hrow
    go_wp2_with fail
    go_loopw [11, 32] (fun op i wr => ∃ (j : Nat) (st : List Int), j ≤ s.length ∧ i = .int .i64 j ∧ chk [] ((s.map liKey).take j) = some st ∧ st.length ≤ j ∧ wr.ownsRow w1.heap.size 3 1 op st.length (opCells st) ∧ Below w1.heap.size w1 wr) (fun _ i _ => s.length - (intOf i).toNat)
    case atStart => exact ⟨0, [], Nat.zero_le _, rfl, rfl, Nat.le_refl _, own_none _ _ _ _, Bi⟩
    case round =>
      clear Bi
      obtain ⟨j, st, hj, rfl, hchk, hstl, hown, hbel⟩ := hrel
      by_cases hjl : j < s.length
      · obtain ⟨x, hx⟩ : ∃ x, s[j]? = some x := ⟨_, List.getElem?_eq_getElem hjl⟩
        obtain ⟨st0, st', hq1, hq2, hq3⟩ := hBal.step j (by simpa using hjl)
        have hst : st0 = st := by
          rw [hchk] at hq1
          injection hq1 with hq1
          exact hq1.symm
        subst hst
        have hkx : (s.map liKey)[j]'(by simpa using hjl) = liKey x := by
          obtain ⟨_, hx2⟩ := List.getElem?_eq_some_iff.1 hx
          simp [hx2]
        rw [hkx] at hq2
        obtain ⟨gI, cap, hvI, _, hgI⟩ := HRW.out.form (by omega)
        injection hvI with hvI _ hvc
        subst hvI hvc
        have cc : ∀ i, i < 11 → wr.cell? ⟨gI, j * 11 + i, none⟩ = (liA x)[i]? := fun i hi => by
          rw [hbel.cell (p := ⟨gI, j * 11 + i, none⟩) hgI, HRW.out.cellAt (j * 11 + i) (by omega)]
          exact liCells_at s j x hx i hi
        have hstl2 := stp_len hq2
        have HQ3 := hide hq3
        have HOW := hide hown
        obtain ⟨k, b, t, o⟩ := x
        rw [li_explicit] at cc
        have d0 : wr.cell? ⟨gI, j * 11, none⟩ = some (.int .i64 k) := cc 0 (by omega)
        have d1 : wr.cell? ⟨gI, j * 11 + 1, none⟩ = some (.int .i64 b) := cc 1 (by omega)
        have d2 : wr.cell? ⟨gI, j * 11 + 2, none⟩ = some (.string t) := cc 2 (by omega)
        have d3 : wr.cell? ⟨gI, j * 11 + 3, none⟩ = some (.int .i64 (o 3)) := cc 3 (by omega)
        have d4 : wr.cell? ⟨gI, j * 11 + 4, none⟩ = some (.int .i64 (o 4)) := cc 4 (by omega)
        have d5 : wr.cell? ⟨gI, j * 11 + 5, none⟩ = some (.int .i64 (o 5)) := cc 5 (by omega)
        have d6 : wr.cell? ⟨gI, j * 11 + 6, none⟩ = some (.int .i64 (o 6)) := cc 6 (by omega)
        have d7 : wr.cell? ⟨gI, j * 11 + 7, none⟩ = some (.int .i64 (o 7)) := cc 7 (by omega)
        have d8 : wr.cell? ⟨gI, j * 11 + 8, none⟩ = some (.int .i64 (o 8)) := cc 8 (by omega)
        have d9 : wr.cell? ⟨gI, j * 11 + 9, none⟩ = some (.int .i64 (o 9)) := cc 9 (by omega)
        have d10 : wr.cell? ⟨gI, j * 11 + 10, none⟩ = some (.int .i64 (o 10)) := cc 10 (by omega)
        clear cc hx hkx hq1 hchk hown hq3
        generalize o 3 = o3 at *
        generalize o 4 = o4 at *
        generalize o 5 = o5 at *
        generalize o 6 = o6 at *
        generalize o 7 = o7 at *
        generalize o 8 = o8 at *
        generalize o 9 = o9 at *
        generalize o 10 = o10 at *
        have hbA := hbel.alloc hbel.size (.cells #[.int .i64 k, .int .i64 b, .string t, .int .i64 o3, .int .i64 o4, .int .i64 o5, .int .i64 o6, .int .i64 o7, .int .i64 o8, .int .i64 o9, .int .i64 o10] 31)
        have HBA := hide hbA
        have HOA := hide (HOW.out.alloc (.cells #[.int .i64 k, .int .i64 b, .string t, .int .i64 o3, .int .i64 o4, .int .i64 o5, .int .i64 o6, .int .i64 o7, .int .i64 o8, .int .i64 o9, .int .i64 o10] 31))
        have HXB := hide (Blk.new wr 31 #[.int .i64 k, .int .i64 b, .string t, .int .i64 o3, .int .i64 o4, .int .i64 o5, .int .i64 o6, .int .i64 o7, .int .i64 o8, .int .i64 o9, .int .i64 o10])
        have x0 : (wr.alloc (.cells #[.int .i64 k, .int .i64 b, .string t, .int .i64 o3, .int .i64 o4, .int .i64 o5, .int .i64 o6, .int .i64 o7, .int .i64 o8, .int .i64 o9, .int .i64 o10] 31)).cell? ⟨wr.heap.size, 0, none⟩ = some (.int .i64 k) := HXB.out.cell 0
        have x1 : (wr.alloc (.cells #[.int .i64 k, .int .i64 b, .string t, .int .i64 o3, .int .i64 o4, .int .i64 o5, .int .i64 o6, .int .i64 o7, .int .i64 o8, .int .i64 o9, .int .i64 o10] 31)).cell? ⟨wr.heap.size, 1, none⟩ = some (.int .i64 b) := HXB.out.cell 1
        have x2 : (wr.alloc (.cells #[.int .i64 k, .int .i64 b, .string t, .int .i64 o3, .int .i64 o4, .int .i64 o5, .int .i64 o6, .int .i64 o7, .int .i64 o8, .int .i64 o9, .int .i64 o10] 31)).cell? ⟨wr.heap.size, 2, none⟩ = some (.string t) := HXB.out.cell 2
        clear hbA hbel
        have hq2 : stp st0 ⟨k, b, t.toList.isEmpty⟩ = some st' := hq2
        unfold stp at hq2
        simp only at hq2
        obtain ⟨vo, hvo⟩ : ∃ vo, vo = u11 := ⟨_, rfl⟩
        rw [← hvo] at HOW HOA ⊢
        clear hvo
        by_cases k2 : k = 2
        · subst k2
          rw [if_pos rfl] at hq2
          injection hq2 with hq2
          subst hq2
          have hba2 := HBA.out.alloc HBA.out.size (.cells #[.int .i64 b] 3)
          have HB2 := hide hba2
          have HO2 := hide (HOA.out.alloc (.cells #[.int .i64 b] 3))
          have HN2 := hide (blk_two wr (.cells #[.int .i64 2, .int .i64 b, .string t, .int .i64 o3, .int .i64 o4, .int .i64 o5, .int .i64 o6, .int .i64 o7, .int .i64 o8, .int .i64 o9, .int .i64 o10] 31) #[.int .i64 b] 3)
          have hn9 : st0.length ≤ 10000000 := by omega
          clear hba2
          go_wp2_with (first
            | (at_builtin; refine wpList_app7 rfl (.tmp 40) (.tmp 43) _ rfl w1.heap.size 3 _ 1 8 Tryd.underlying29 int_inf rfl (Nat.succ_pos _) vo _ _ rfl HO2.out (wr.heap.size + 1) 1 _ HN2.out rfl rfl rfl hn9 (Nat.le_of_ble_eq_true rfl) HB2.out.size ?_; intro v4 w4 hown4 hg4; have hb4 := own_below HO2.out HB2.out (Nat.le_refl _) (Nat.le_refl _) hg4)
            | fail)
          go_roundw
          case rel => exact ⟨j + 1, b :: st0, by omega, by go_num, HQ3.out, by rw [List.length_cons]; omega, by rw [op_cons]; exact hown4, hb4⟩
          case measure => simp only [intOf]; omega
        · have t2 : (k == 2) = false := by simpa using k2
          rw [if_neg k2] at hq2
          by_cases k3 : k = 3
          · subst k3
            rw [if_pos rfl] at hq2
            obtain ⟨c, rest, rfl⟩ : ∃ c rest, st0 = c :: rest := by
              cases st0 with
              | nil => cases hq2
              | cons c rest => exact ⟨c, rest, rfl⟩
            unfold popI at hq2
            simp only at hq2
            split at hq2
            · rename_i hcb
              injection hq2 with hq2
              subst hq2 hcb
              obtain ⟨go, cpo, hvo2, _, _⟩ := HOA.out.form (Nat.succ_pos _)
              subst hvo2
              have hcap : (c :: rest).length ≤ cpo := by
                obtain ⟨A9, c9, h9, h10, _⟩ := own_reads HOA.out
                injection h9 with _ _ hc9
                omega
              obtain ⟨n1, hn1⟩ : ∃ n1 : Nat, n1 = (c :: rest).length := ⟨_, rfl⟩
              have hnr : n1 = rest.length + 1 := by rw [hn1]; simp
              have y0 : (wr.alloc (.cells #[.int .i64 3, .int .i64 c, .string t, .int .i64 o3, .int .i64 o4, .int .i64 o5, .int .i64 o6, .int .i64 o7, .int .i64 o8, .int .i64 o9, .int .i64 o10] 31)).cell? ⟨go, rest.length, none⟩ = some (.int .i64 c) := by
                rw [HOA.out.cellAt rest.length (by simp), op_cons, List.getElem?_append_right (by rw [op_len]; exact Nat.le_refl _), op_len, Nat.sub_self]
                rfl
              have hpop := own_pop (m := rest.length) HOA.out (by simp) (Nat.succ_pos _)
              rw [Nat.mul_one, op_cons, List.take_append_of_le_length (by rw [op_len]; exact Nat.le_refl _), List.take_of_length_le (by rw [op_len]; exact Nat.le_refl _)] at hpop
              have HPO := hide hpop
              rw [← hn1]
              have hml : rest.length ≤ j := by rw [List.length_cons] at hstl; omega
              obtain ⟨m, hm⟩ : ∃ m, m = rest.length := ⟨_, rfl⟩
              rw [← hm] at y0 hnr hml
              have HMM := hide hm
              have tz : (n1 == 0) = false := by simp; omega
              have tz2 : ((n1 : Int) == 0) = false := by simp; omega
              have tz3 : decide (n1 = 0) = false := by simp; omega
              have tz4 : ¬ n1 = 0 := by omega
              have hs1 : (n1 : Int) - 1 = (m : Int) := by omega
              have hw : IntKind.i64.wrap (m : Int) = (m : Int) := IntWalk.i64_in _ (by omega)
              have hmn : ¬ n1 ≤ m := by omega
              have hm1 : m ≤ n1 := by omega
              have hmc : m ≤ cpo := by rw [List.length_cons] at hcap; omega
              have hmd : ¬ cpo < m := by omega
              clear hcap
              clear hpop hn1 hnr hm
              go_wp2_with fail
              go_quiet (fail)
              go_wp2_with fail
              go_roundw
              case rel => exact ⟨j + 1, rest, by omega, by go_num, HQ3.out, by have := HMM.out; omega, by rw [HMM.out]; exact HPO.out, below_drewN HBA.out _⟩
              case measure => simp only [intOf]; omega
            · cases hq2
          · have t3 : (k == 3) = false := by simpa using k3
            rw [if_neg k3] at hq2
            by_cases k1 : k = 1
            · subst k1
              rw [if_pos rfl] at hq2
              cases hte : t.toList.isEmpty
              · rw [hte] at hq2
                injection hq2 with hq2
                subst hq2
                have te : (t.toList.isEmpty) = false := hte
                go_wp2_with fail
                go_roundw
                case rel => exact ⟨j + 1, _, by omega, by go_num, HQ3.out, by omega, HOA.out, HBA.out⟩
                case measure => simp only [intOf]; omega
              · rw [hte] at hq2
                cases hq2
            · have t1 : (k == 1) = false := by simpa using k1
              rw [if_neg k1] at hq2
              injection hq2 with hq2
              subst hq2
              go_wp2_with fail
              go_roundw
              case rel => exact ⟨j + 1, _, by omega, by go_num, HQ3.out, by omega, HOA.out, HBA.out⟩
              case measure => simp only [intOf]; omega
      · obtain rfl : j = s.length := by omega
        have hfin := hBal.fin
        rw [List.length_map] at hfin
        rw [hchk] at hfin
        injection hfin with hfin
        subst hfin
        obtain ⟨Ao, co, rfl, _, _⟩ := own_reads hown
        go_wp2_with (first | (go_at_call 5; refine (itemed_any _).mono ?_; rintro e w9 ⟨rfl, hb9⟩) | fail)
        go_ret
        exact ⟨rfl, below_then (hb1.trans (hbel.mono hb1.size)) (Nat.le_refl _) hb9⟩
  · have t1 : (r != 0) = true := by simpa using h0
    obtain rfl := hv h0
    clear hr hv
    go_wp2_with (first | (go_at_call 5; refine (itemed_any _).mono ?_; rintro e w9 ⟨rfl, hb9⟩) | fail)
    go_ret
    exact ⟨rfl, below_then hb1 (Nat.le_refl _) hb9⟩
end Go.Proofs.YtdnnodpkgncegaaDoor
