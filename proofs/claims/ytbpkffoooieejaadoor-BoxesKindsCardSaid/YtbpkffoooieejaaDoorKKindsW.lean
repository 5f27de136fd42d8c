/- The walk of the statement BoxesKinds: it returns true. -/
import Derived.Test.YtbpkffoooieejaaDoorK5
set_option linter.unusedVariables false
set_option linter.unusedSimpArgs false
namespace Go.Proofs.YtbpkffoooieejaaDoor
open Go.ChangeShapes Go.WideShapes Go.ChangeAt Go.RowKit Go.Instr
theorem bo_u : Tryd.prog.underlying 45 = some (.struct (Tryd.prog.fieldsOf 45)) := by kernel_rfl
theorem bo_i (a b c : Int) (A : Option Addr) (m k : Nat) (x : ByteArray) : (Tryd.prog.info? 45).map (·.size) = some (#[Value.int .i64 a, .int .i64 b, .int .i64 c, .slice A m k, .string x] : Array Value).size := by kernel_rfl
set_option maxRecDepth 100000 in
set_option maxHeartbeats 40000000 in
theorem boxesKinds_any (l : List Nd) (An : Option Addr) (cn : Nat) (q : Bool) (R : Nat → Nat → Int) (As : Option Addr) (nS cs : Nat) (mv : Int) (w : World) (hI : NdIn w w.heap.size An l) (hl : l.length ≤ maxLen) (hS : SyIn w w.heap.size As nS R) (hs : nS ≤ maxLen)
    (hmv : w.cell? ⟨1, 0, none⟩ = some (.int .i64 mv)) (h1 : 1 < w.heap.size) :
    Calls Tryd.prog 4 #[.agg #[.slice An l.length cn, .bool q], .slice As nS cs] w fun e w' => e = .returned (.bool true) ∧ Below w.heap.size w w' := by
  have hb0 := (Below.refl w.heap.size w).alloc (Nat.le_refl _) (.cells #[.slice An l.length cn, .bool q] 41)
  have HC := hide (Make_any l An cn q R As nS cs mv (w.alloc (.cells #[.slice An l.length cn, .bool q] 41)) ((hI.below hb0).more hb0.size) hl ((hS.below hb0).up hb0.size) hs ((hb0.cell (p := ⟨1, 0, none⟩) h1).trans hmv) (Nat.lt_of_lt_of_le h1 hb0.size))
  have HD := hide (Blk.new w 41 #[.slice An l.length cn, .bool q])
  have HB := hide hb0
  have HS := hide hS
  clear hb0 hI hS hmv h1
  unfold maxLen at hl hs
  go_enter Tryd.func4, Tryd.ntmps4
  go_wp2_with (first
    | (refine wpList_load_row rfl 41 (.tmp 2) rfl w.heap.size rfl _ _ (0, 0) _ HD.out doc_u2 rfl (doc_i2 _ _) ?_)
    | fail)
  refine HC.out.mono ?_
  rintro e w2 ⟨⟨v, z, rfl, hz, hz0⟩, hx⟩
  have HB2 := hide (HB.out.trans (hx.mono HB.out.size))
  have HZ := hide hz
  have HZ0 := hide hz0
  clear hx hz hz0 HC HD HB
  generalize w.alloc _ = w1 at *
  by_cases hz : z = 0
  · subst hz
    obtain ⟨hda, hns, D2, _, hfl⟩ := HZ0.out rfl
    subst hns
    obtain ⟨Ab, cb, rfl, hbl, hbi⟩ := hfl.boxIn
    have HBI := hide hbi
    have HPR := hide (fun (i : Nat) (h : i < (bosOf l R).length) (h0 : 0 < i) => bos_pair l R h h0)
    have HND := hide (fun (i : Nat) (h : i < (bosOf l R).length) (h0 : 0 ≤ (boAt (bosOf l R) i).node) => bos_node hda R h h0)
    clear hda hfl hbi HZ HZ0
    generalize bosOf l R = L at *
    obtain ⟨nb, hnb⟩ : ∃ nb, nb = L.length := ⟨_, rfl⟩
    rw [← hnb] at hbl HPR HND ⊢
    have HNB := hide hnb
    clear hnb
    unfold maxLen at hbl
    go_wp2_with fail
    obtain ⟨D, hDD⟩ : ∃ D, D = w.heap.size := ⟨_, rfl⟩
    have hDw : D ≤ w.heap.size := by omega
    rw [← hDD] at HB2 HS ⊢
    have HDE := hide hDD
    clear hDD
    go_loopw [28] (fun i wr => ∃ j : Nat, j ≤ nb ∧ i = .int .i64 j ∧ Below w2.heap.size w2 wr) (fun i _ => nb - (intOf i).toNat)
    case atStart => exact ⟨0, Nat.zero_le _, rfl, Below.refl _ _⟩
    case round =>
      obtain ⟨j, hj, rfl, hbel⟩ := hrel
      have HBW := hide hbel
      have HBD := hide (HB2.out.trans (hbel.mono (bsz HB2.out hDw)))
      clear hbel
      by_cases hjl : j < nb
      · obtain ⟨g, off, Ak, ck, rfl, hg, hbx, hkl⟩ := HBI.out j (by rw [← HNB.out]; exact hjl)
        have hbx2 := hbx.below HBW.out hg
        have HLD := hide (show ∀ m u, (#[.int .i64 (boAt L j).kind, .int .i64 (boAt L j).node, .int .i64 (boAt L j).par, .slice Ak (boAt L j).kids.length ck, .string (boAt L j).text] : Array Value)[m]? = some u → wr.cell? ⟨g, off + j * 5 + m, none⟩ = some u from fun m u hu => by
          match m, hu with
          | 0, hu => rw [← hu]; exact hbx2.c0
          | 1, hu => rw [← hu]; exact hbx2.c1
          | 2, hu => rw [← hu]; exact hbx2.c2
          | 3, hu => rw [← hu]; exact hbx2.c3
          | 4, hu => rw [← hu]; exact hbx2.c4
          | m + 5, hu => simp at hu)
        clear hbx hbx2
        obtain ⟨k, hk⟩ : ∃ k, k = (boAt L j).kind := ⟨_, rfl⟩
        obtain ⟨n, hn⟩ : ∃ n, n = (boAt L j).node := ⟨_, rfl⟩
        obtain ⟨pr, hpr⟩ : ∃ pr, pr = (boAt L j).par := ⟨_, rfl⟩
        obtain ⟨nk, hnk⟩ : ∃ nk, nk = (boAt L j).kids.length := ⟨_, rfl⟩
        obtain ⟨tx, htx⟩ : ∃ tx, tx = (boAt L j).text := ⟨_, rfl⟩
        have HPJ := hide (HPR.out j hjl)
        have HNJ := hide (HND.out j hjl)
        rw [← hk, ← hn, ← hpr] at HPJ
        rw [← hn] at HNJ
        rw [← hk, ← hn, ← hpr, ← hnk, ← htx] at HLD
        clear hk hn hpr hnk htx hkl
        have HX := hide (Blk.new wr 45 #[.int .i64 k, .int .i64 n, .int .i64 pr, .slice Ak nk ck, .string tx])
        have HBX := hide (HBW.out.alloc HBW.out.size (.cells #[.int .i64 k, .int .i64 n, .int .i64 pr, .slice Ak nk ck, .string tx] 45))
        have HBY := hide (HBD.out.alloc (bsz HBD.out hDw) (.cells #[.int .i64 k, .int .i64 n, .int .i64 pr, .slice Ak nk ck, .string tx] 45))
        by_cases hj0 : j = 0
        · subst hj0
          go_wp2_with (first
            | (refine wpList_load_mid rfl 45 (.tmp 31) rfl g (off + 0 * 5) rfl #[.int .i64 k, .int .i64 n, .int .i64 pr, .slice Ak nk ck, .string tx] _ HLD.out bo_u rfl (bo_i _ _ _ _ _ _ _) ?_)
            | fail)
          go_roundw
          case rel => exact ⟨1, by omega, by go_num, HBX.out⟩
          case measure => simp only [intOf]; omega
        · have tj : ((j : Int) == 0) = false := by rw [beq_eq_false_iff_ne]; omega
          obtain ⟨jp, hjp, hpp, hpo⟩ := HPJ.out (by omega)
          subst hpp
          have HPO := hide hpo
          have x1 := HX.out.cell 1
          simp only [List.getElem?_toArray, List.getElem?_cons_zero, List.getElem?_cons_succ] at x1
          clear hpo HPJ
          go_upto_if 37 with (first
            | (refine wpList_load_mid rfl 45 (.tmp 31) rfl g (off + j * 5) rfl #[.int .i64 k, .int .i64 n, .int .i64 (jp : Int), .slice Ak nk ck, .string tx] _ HLD.out bo_u rfl (bo_i _ _ _ _ _ _ _) ?_)
            | fail)
          clear x1
          generalize wr.alloc (.cells #[.int .i64 k, .int .i64 n, .int .i64 (jp : Int), .slice Ak nk ck, .string tx] 45) = wb at *
          obtain ⟨xb, hxb⟩ : ∃ xb, xb = wr.heap.size := ⟨_, rfl⟩
          rw [← hxb] at HX ⊢
          clear hxb HLD
          obtain ⟨o, ho⟩ : ∃ o, o = outOf (pgOf l R) n := ⟨_, rfl⟩
          have HOO := hide ho
          go_cut [9] from 38 to 125 (fun s wx => s = .int .i64 o ∧ Below wb.heap.size wb wx)
          case first =>
            have x1 := HX.out.cell 1
            simp only [List.getElem?_toArray, List.getElem?_cons_zero, List.getElem?_cons_succ] at x1
            by_cases hn0 : 0 ≤ n
            · obtain ⟨m, rfl⟩ : ∃ m : Nat, n = m := ⟨n.toNat, by omega⟩
              have hml : m < l.length := by have := HNJ.out hn0; omega
              have hml2 : ¬ l.length ≤ m := by omega
              obtain ⟨gs, os, rfl, hgs, hcs⟩ := HS.out.mid hml
              have HSL := hide (fun j' u (hu : (styA (R m))[j']? = some u) => (HBY.out.cell (p := ⟨gs, os + m * 118 + j', none⟩) hgs).trans (hcs j' u hu))
              have HOE := hide (show outF (R m) = o by rw [ho]; unfold outOf; rw [if_pos hn0]; rfl)
              clear hcs ho
              go_wp2_with (first
                | (refine wpList_load_mid rfl 50 (.tmp 41) rfl gs (os + m * 118) rfl (styA (R m)) _ HSL.out sty_u rfl (sty_i _) ?_)
                | (go_at_call 11; refine (Out_any (R m) _).mono ?_; rintro e w9 ⟨rfl, rfl⟩)
                | fail)
              go_meet
              exact ⟨by rw [← HOE.out], (Below.refl wb.heap.size wb).alloc (Nat.le_refl _) _⟩
            · have HOE := hide (show (0 : Int) = o by rw [ho]; unfold outOf; rw [if_neg hn0])
              clear ho
              go_wp2_with fail
              go_meet
              exact ⟨by rw [← HOE.out], Below.refl _ _⟩
          case rest =>
            obtain ⟨rfl, hbc⟩ := hcut
            clear ho
            have HXC := hide (HX.out.below hbc HX.out.lt)
            have HBC := hide (HBX.out.trans (hbc.mono HBX.out.size))
            have HBE := hide (HBY.out.trans (hbc.mono (bsz HBY.out hDw)))
            clear hbc HX HBX HBY HNJ
            have x0 := HXC.out.cell 0
            simp only [List.getElem?_toArray, List.getElem?_cons_zero] at x0
            obtain ⟨b, hb⟩ : ∃ b, b = isBlk k := ⟨_, rfl⟩
            go_upto_region 11 with fail
            go_cut [10] from 44 to 125 (fun s wx => s = .bool b ∧ wx = wc)
            case first =>
              unfold isBlk at hb
              cases t1 : k == 1
              · cases t2 : k == 2
                · cases t6 : k == 6
                  · cases t7 : k == 7
                    · go_wp2_with fail
                      go_meet
                      exact ⟨by rw [hb, t1, t2, t6, t7]; rfl, rfl⟩
                    · go_wp2_with fail
                      go_meet
                      exact ⟨by rw [hb, t1, t2, t6, t7]; rfl, rfl⟩
                  · go_wp2_with fail
                    go_meet
                    exact ⟨by rw [hb, t1, t2, t6]; rfl, rfl⟩
                · go_wp2_with fail
                  go_meet
                  exact ⟨by rw [hb, t1, t2]; rfl, rfl⟩
              · go_wp2_with fail
                go_meet
                exact ⟨by rw [hb, t1]; rfl, rfl⟩
            case rest =>
              obtain ⟨rfl, hwc⟩ := hcut
              subst hwc
              obtain ⟨g2, off2, Ak2, ck2, hg2, hgl2, hbx2, hkl2⟩ := HBI.out jp (by rw [← HNB.out]; exact hjp)
              injection hg2 with hg2
              injection hg2 with hg3 hg4 hg5
              subst hg3 hg4
              have hbx3 := hbx2.below HBC.out hg
              have p0 := hbx3.c0
              have p3 := hbx3.c3
              have x1 := HXC.out.cell 1
              have x2 := HXC.out.cell 2
              simp only [List.getElem?_toArray, List.getElem?_cons_zero, List.getElem?_cons_succ] at x1 x2
              clear hbx2 hbx3 hkl2
              have hjq : ¬ nb ≤ jp := by omega
              have hpo := HPO.out
              unfold PairOk at hpo
              rw [← HOO.out, ← hb] at hpo
              clear HPO hb HOO
              generalize (boAt L jp).kind = pk at *
              generalize (boAt L jp).kids.length = kn at *
              clear HBI HND HPR HNB HS HB2 HBW HBD HBE HXC hDw hg hgl2 hg5 hj0 hl hs hjp
              by_cases e1 : pk = 1
              · rw [if_pos e1] at hpo
                obtain ⟨rfl, rfl⟩ := hpo
                subst e1
                go_wp2_with fail
                all_goals
                  go_roundw
                  case rel => exact ⟨j + 1, by omega, by go_num, HBC.out⟩
                  case measure => simp only [intOf]; omega
              · rw [if_neg e1] at hpo
                by_cases e2 : pk = 2 ∨ pk = 3
                · rw [if_pos e2] at hpo
                  have hq : (b = false ∧ ¬ k = 8 ∧ ¬ k = 9) ∨ 0 < o := hpo
                  clear hpo
                  rcases hq with ⟨rfl, t8, t9⟩ | hop
                  · rcases e2 with rfl | rfl
                    · skip
                      go_wp2_with fail
                      all_goals
                        go_roundw
                        case rel => exact ⟨j + 1, by omega, by go_num, HBC.out⟩
                        case measure => simp only [intOf]; omega
                    · skip
                      go_wp2_with fail
                      all_goals
                        go_roundw
                        case rel => exact ⟨j + 1, by omega, by go_num, HBC.out⟩
                        case measure => simp only [intOf]; omega
                  · rcases e2 with rfl | rfl
                    · cases b
                      · cases t8 : k == 8
                        · cases t9 : k == 9
                          · skip
                            go_wp2_with fail
                            all_goals
                              go_roundw
                              case rel => exact ⟨j + 1, by omega, by go_num, HBC.out⟩
                              case measure => simp only [intOf]; omega
                          · skip
                            go_wp2_with fail
                            all_goals
                              go_roundw
                              case rel => exact ⟨j + 1, by omega, by go_num, HBC.out⟩
                              case measure => simp only [intOf]; omega
                        · skip
                          go_wp2_with fail
                          all_goals
                            go_roundw
                            case rel => exact ⟨j + 1, by omega, by go_num, HBC.out⟩
                            case measure => simp only [intOf]; omega
                      · skip
                        go_wp2_with fail
                        all_goals
                          go_roundw
                          case rel => exact ⟨j + 1, by omega, by go_num, HBC.out⟩
                          case measure => simp only [intOf]; omega
                    · cases b
                      · cases t8 : k == 8
                        · cases t9 : k == 9
                          · skip
                            go_wp2_with fail
                            all_goals
                              go_roundw
                              case rel => exact ⟨j + 1, by omega, by go_num, HBC.out⟩
                              case measure => simp only [intOf]; omega
                          · skip
                            go_wp2_with fail
                            all_goals
                              go_roundw
                              case rel => exact ⟨j + 1, by omega, by go_num, HBC.out⟩
                              case measure => simp only [intOf]; omega
                        · skip
                          go_wp2_with fail
                          all_goals
                            go_roundw
                            case rel => exact ⟨j + 1, by omega, by go_num, HBC.out⟩
                            case measure => simp only [intOf]; omega
                      · skip
                        go_wp2_with fail
                        all_goals
                          go_roundw
                          case rel => exact ⟨j + 1, by omega, by go_num, HBC.out⟩
                          case measure => simp only [intOf]; omega
                · rw [if_neg e2] at hpo
                  have e3 : pk ≠ 2 := fun h => e2 (.inl h)
                  have e4 : pk ≠ 3 := fun h => e2 (.inr h)
                  clear e2
                  by_cases e6 : pk = 6
                  · rw [if_pos e6] at hpo
                    subst hpo e6
                    go_wp2_with fail
                    all_goals
                      go_roundw
                      case rel => exact ⟨j + 1, by omega, by go_num, HBC.out⟩
                      case measure => simp only [intOf]; omega
                  · rw [if_neg e6] at hpo
                    by_cases e7 : pk = 7
                    · rw [if_pos e7] at hpo
                      subst hpo e7
                      go_wp2_with fail
                      all_goals
                        go_roundw
                        case rel => exact ⟨j + 1, by omega, by go_num, HBC.out⟩
                        case measure => simp only [intOf]; omega
                    · rw [if_neg e7] at hpo
                      by_cases e8 : pk = 8
                      · rw [if_pos e8] at hpo
                        subst hpo e8
                        go_wp2_with fail
                        all_goals
                          go_roundw
                          case rel => exact ⟨j + 1, by omega, by go_num, HBC.out⟩
                          case measure => simp only [intOf]; omega
                      · rw [if_neg e8] at hpo
                        by_cases e5 : pk = 5 ∨ pk = 9
                        · rw [if_pos e5] at hpo
                          obtain ⟨hn0, rfl⟩ := hpo
                          rcases e5 with rfl | rfl
                          · skip
                            go_wp2_with fail
                            all_goals
                              go_roundw
                              case rel => exact ⟨j + 1, by omega, by go_num, HBC.out⟩
                              case measure => simp only [intOf]; omega
                          · skip
                            go_wp2_with fail
                            all_goals
                              go_roundw
                              case rel => exact ⟨j + 1, by omega, by go_num, HBC.out⟩
                              case measure => simp only [intOf]; omega
                        · rw [if_neg e5] at hpo
                          exact hpo.elim
      · go_wp2_with (first
          | (go_at_call 10; refine (boxed_any _).mono ?_; rintro e w9 ⟨rfl, hx⟩; have HB9 := hide (HBD.out.trans (hx.mono (bsz HBD.out hDw))); clear hx)
          | fail)
        go_ret
        exact ⟨rfl, HDE.out ▸ HB9.out⟩
  · obtain rfl := HZ.out hz
    have t1 : (z == 0) = false := by simpa using hz
    clear HZ HZ0 hz
    go_wp2_with (first
      | (go_at_call 10; refine (boxed_any _).mono ?_; rintro e w9 ⟨rfl, hx⟩; have HB9 := hide (HB2.out.trans (hx.mono HB2.out.size)); clear hx)
      | fail)
    go_ret
    exact ⟨rfl, HB9.out⟩
end Go.Proofs.YtbpkffoooieejaaDoor
