/- The walk of boxes.Looks: some look for each box. -/
import Derived.BigQuiet
import Derived.Handy
import Derived.IntWalk
import Derived.RegionTactic
import Derived.Deep.MidRow
import Derived.Deep.CutBlock
import Derived.Test.YtbpkffoooieejaaDoorK1
import Derived.Test.YtbpkffoooieejaaDoorK2
set_option linter.unusedVariables false
set_option linter.unusedSimpArgs false
namespace Go.Proofs.YtbpkffoooieejaaDoor
open Go.ChangeShapes Go.WideShapes Go.ChangeAt Go.RowKit
/-- Styles that came in. -/
def StyIn (w : World) (B : Nat) (A : Option Addr) (n : Nat) (R : Nat → Nat → Int) : Prop := ∀ k, k < n → ∃ g off, A = some ⟨g, off, none⟩ ∧ g < B ∧ ∀ j, j < 118 → w.cell? ⟨g, off + k * 118 + j, none⟩ = some (.int .i64 (R k j))
theorem StyIn.below {w w' : World} {B n : Nat} {A : Option Addr} {R : Nat → Nat → Int} (h : StyIn w B A n R) (hb : Below B w w') : StyIn w' B A n R := fun k hk => by
  obtain ⟨g, off, h1, h2, h3⟩ := h k hk
  exact ⟨g, off, h1, h2, fun j hj => (hb.cell (p := ⟨g, off + k * 118 + j, none⟩) h2).trans (h3 j hj)⟩
def styCells (Rs : List (Nat → Int)) : List Value := Rs.flatMap fun R => (styA R).toList
theorem styCells_snoc (Rs : List (Nat → Int)) (R : Nat → Int) : styCells (Rs ++ [R]) = styCells Rs ++ (styA R).toList := by simp [styCells]
theorem sty_info : (Tryd.prog.info? 50).map (fun i => (i.zero, i.size, i.bytes)) = some (some (.agg (styA fun _ => 0)), 118, 944) := by kernel_rfl
theorem sty_lay (R : Nat → Int) : sliceCells Tryd.prog 22 1 [(0, .agg (styA R))] = some (styA R, 50) := by kernel_rfl
theorem sty_one (R : Nat → Int) : (styA R).toList.all (·.oneCell') = true := by simp [styA, Value.oneCell']
theorem sty_zero : Tryd.zeroCells50 = styA fun _ => 0 := by kernel_rfl
theorem sty_set (T : Nat → Int) (i : Nat) (a b : Int) (h : i + 2 ≤ 118) : ((styA T).toList.take i ++ (#[Value.int .i64 a, .int .i64 b] : Array Value).toList ++ (styA T).toList.drop (i + (#[Value.int .i64 a, .int .i64 b] : Array Value).toList.length)).toArray = styA (fun j => if j = i then a else if j = i + 1 then b else T j) := by
  have hs : (styA T).toList.length = 118 := by simpa using styA_size T
  apply Array.ext
  · rw [styA_size]
    simp [hs]
    omega
  · intro j h1 h2
    rw [styA_size] at h2
    apply Option.some.inj
    rw [← Array.getElem?_eq_getElem, ← Array.getElem?_eq_getElem, styA_at _ h2, List.getElem?_toArray]
    have hl : ((styA T).toList.take i).length = i := by rw [List.length_take]; omega
    by_cases c1 : j < i
    · rw [List.append_assoc, List.getElem?_append_left (by omega), List.getElem?_take_of_lt c1, Array.getElem?_toList, styA_at _ h2]
      simp [show j ≠ i by omega, show j ≠ i + 1 by omega]
    · by_cases c2 : j = i
      · subst c2
        rw [List.append_assoc, List.getElem?_append_right (by omega), hl]
        simp
      · by_cases c3 : j = i + 1
        · subst c3
          rw [List.append_assoc, List.getElem?_append_right (by omega), hl]
          simp
        · rw [List.append_assoc, List.getElem?_append_right (by omega), hl, List.getElem?_append_right (by simp; omega), List.getElem?_drop, Array.getElem?_toList]
          simp only [List.length_cons, List.length_nil, Nat.zero_add]
          rw [show i + (1 + 1) + (j - i - (1 + 1)) = j by omega, styA_at _ h2]
          simp [c2, c3]
theorem styCells_at (Rs : List (Nat → Int)) (q j : Nat) (hq : q < Rs.length) (hj : j < 118) : ∃ x, (styCells Rs)[q * 118 + j]? = some (.int .i64 x) := by
  induction Rs generalizing q with
  | nil => simp at hq
  | cons R Rs ih =>
    have hl : (styA R).toList.length = 118 := by simpa using styA_size R
    have he : styCells (R :: Rs) = (styA R).toList ++ styCells Rs := by simp [styCells]
    rw [he]
    cases q with
    | zero => exact ⟨R j, by rw [List.getElem?_append_left (by omega), Array.getElem?_toList, Nat.zero_mul, Nat.zero_add, styA_at _ hj]⟩
    | succ q =>
      obtain ⟨x, hx⟩ := ih q (by simpa using hq)
      exact ⟨x, by rw [List.getElem?_append_right (by omega), hl, show (q + 1) * 118 + j - 118 = q * 118 + j by omega]; exact hx⟩
theorem val_1 (a b : Int) : (#[Value.int .i64 a, .int .i64 b] : Array Value).toList.all (·.oneCell') = true := by simp [Value.oneCell']
def LookPost (l : List Bo) (base : Nat) (w' : World) (e : Ending) : Prop := ∃ v r, e = .returned (.tuple #[v, .int .i64 r]) ∧ (r = 0 → ∃ Rs : List (Nat → Int), Rs.length = l.length ∧ w'.ownsRow base 50 118 v l.length (styCells Rs))
theorem lk_bad {l : List Bo} {base : Nat} {w' : World} : LookPost l base w' (.returned (.tuple #[.slice none 0 0, .int .i64 3])) := ⟨_, 3, rfl, fun e => absurd e (by decide)⟩
set_option maxRecDepth 100000 in
set_option maxHeartbeats 40000000 in
theorem looks_any (l : List Bo) (A As : Option Addr) (c ns cs : Nat) (R : Nat → Nat → Int) (G : Nat → Int) (w : World) (hI : BoxIn w w.heap.size A l) (hlen : l.length ≤ 300000) (hS : StyIn w w.heap.size As ns R) (hns : ns ≤ maxLen) (hG : IniAt w G) :
    Calls Tryd.prog 16 #[.slice A l.length c, .slice As ns cs] w fun e w' => LookPost l w.heap.size w' e ∧ Below w.heap.size w w' := by
  unfold maxLen at hns
  have HI := hide hI
  have HS := hide hS
  have HGI := hide hG
  clear hI hS hG
  go_enter Tryd.func16, Tryd.ntmps16
  have Bi := Below.refl w.heap.size w
  go_wp2_with fail
  go_loopw [6, 13] (fun v i wr => ∃ (k : Nat) (Rs : List (Nat → Int)), k ≤ l.length ∧ i = .int .i64 k ∧ Rs.length = k ∧ wr.ownsRow w.heap.size 50 118 v k (styCells Rs) ∧ Below w.heap.size w wr) (fun _ i _ => l.length - (intOf i).toNat)
  case atStart => exact ⟨0, [], Nat.zero_le _, rfl, rfl, own_none _ _ _ _, Bi⟩
  case round =>
    clear Bi
    obtain ⟨k, Rs, hk, rfl, hRs, hown, hbel⟩ := hrel
    have HW := hide hown
    clear hown
    obtain ⟨v, hv⟩ : ∃ v, v = u6 := ⟨_, rfl⟩
    rw [← hv] at HW ⊢
    clear hv
    by_cases hlt : k < l.length
    · obtain ⟨g, off, Ak, ck, rfl, hg, hbc, hml⟩ := HI.out k hlt
      obtain ⟨d0, d1, d2, d3, d4, _⟩ := hbc.below hbel hg
      clear hbc
      generalize boAt l k = x at *
      obtain ⟨kd, nd, pr, kids, tx⟩ := x
      simp only at d0 d1 d2 d3 d4 hml
      generalize kids.length = nk at *
      have hbA := hbel.alloc hbel.size (.cells #[.int .i64 kd, .int .i64 nd, .int .i64 pr, .slice Ak nk ck, .string tx] 45)
      have HWA := hide (HW.out.alloc (.cells #[.int .i64 kd, .int .i64 nd, .int .i64 pr, .slice Ak nk ck, .string tx] 45))
      have hX := Blk.new wr 45 #[.int .i64 kd, .int .i64 nd, .int .i64 pr, .slice Ak nk ck, .string tx]
      by_cases n1 : nd < -1
      · have t1 : decide (nd < -1) = true := decide_eq_true n1
        go_wp2_with fail
        go_ret2
        exact ⟨lk_bad, hbA⟩
      · by_cases n2 : (ns : Int) ≤ nd
        · go_wp2_with fail
          go_ret2
          exact ⟨lk_bad, hbA⟩
        · by_cases hk0 : k = 0
          · subst hk0
            simp only [Nat.zero_mul, Nat.add_zero] at d0 d1 d2 d3 d4
            by_cases n3 : pr = -1
            · subst n3
              by_cases n6 : 0 ≤ nd
              · obtain ⟨m, rfl⟩ : ∃ m : Nat, nd = (m : Int) := ⟨nd.toNat, by omega⟩
                have hmn : m < ns := by omega
                obtain ⟨gS, oS, rfl, hgS, hcS⟩ := HS.out m hmn
                have n2' : ¬ ns ≤ m := by omega
                have HLD := hide (show ∀ j u, (styA (R m))[j]? = some u → (wr.alloc (.cells #[.int .i64 kd, .int .i64 (m : Nat), .int .i64 (-1), .slice Ak nk ck, .string tx] 45)).cell? ⟨gS, oS + m * 118 + j, none⟩ = some u from fun j u hu => by
                  have hj : j < 118 := by
                    have := (Array.getElem?_eq_some_iff.1 hu).1
                    rwa [styA_size] at this
                  rw [styA_at _ hj] at hu
                  injection hu with hu
                  subst hu
                  exact (hbA.cell (p := ⟨gS, oS + m * 118 + j, none⟩) hgS).trans (hcS j hj))
                have hsA : (wr.alloc (.cells #[.int .i64 kd, .int .i64 (m : Nat), .int .i64 (-1), .slice Ak nk ck, .string tx] 45)).heap.size = wr.heap.size + 1 := by simp
                have HWB := hide (HWA.out.alloc (.cells (styA (R m)) 50))
                have hB2 := Blk.new (wr.alloc (.cells #[.int .i64 kd, .int .i64 (m : Nat), .int .i64 (-1), .slice Ak nk ck, .string tx] 45)) 50 (styA (R m))
                rw [hsA] at hB2
                have HB2 := hide hB2
                have HBL := hide (hbA.alloc (by rw [hsA]; have := hbel.size; omega) (.cells (styA (R m)) 50))
                have HSA := hide hsA
                clear hB2 hsA hcS hX
                go_wp2_with (first
                  | (refine wpList_load_mid rfl 50 (.tmp 63) rfl gS (oS + m * 118) rfl (styA (R m)) _ HLD.out sty_u rfl (sty_i _) ?_)
                  | (refine wpList_layN (wr.heap.size + 1) HSA.out rfl 65 rfl 22 1 _ rfl [(0, .agg (styA (R m)))] rfl (styA (R m)) 50 (sty_lay _) ?_)
                  | (at_builtin; refine wpList_app1 rfl (.tmp 59) (.tmp 65) _ rfl w.heap.size 50 _ 118 944 Tryd.underlying22 sty_info (styA_size _) (Nat.succ_pos _) v 0 _ rfl HWB.out (wr.heap.size + 1) 1 _ HB2.out (styA_size _) rfl (sty_one _) (by omega) (Nat.le_of_ble_eq_true rfl) HBL.out.size ?_; intro v4 w4 hown4 hg4; have hb9 := own_below HWB.out HBL.out (Nat.le_refl _) (Nat.le_refl _) hg4)
                  | fail)
                go_roundw
                case rel => exact ⟨0 + 1, Rs ++ [R m], by omega, by go_num, by simp [hRs], by rw [styCells_snoc]; exact hown4, hb9⟩
                case measure => simp only [intOf]; omega
              · have t6 : decide (nd < 0) = true := decide_eq_true (by omega)
                go_wp2_with fail
                go_ret2
                exact ⟨lk_bad, hbA⟩
            · have hp1 : (pr == -1) = false := by simpa using n3
              go_wp2_with fail
              go_ret2
              exact ⟨lk_bad, hbA⟩
          · have hk1 : ((k : Int) == 0) = false := by simpa using hk0
            by_cases n3 : pr = -1
            · subst n3
              go_wp2_with fail
              go_ret2
              exact ⟨lk_bad, hbA⟩
            · have hp1 : (pr == -1) = false := by simpa using n3
              by_cases n4 : pr < -1
              · go_wp2_with fail
                go_ret2
                exact ⟨lk_bad, hbA⟩
              · by_cases n5 : (k : Int) ≤ pr
                · go_wp2_with fail
                  go_ret2
                  exact ⟨lk_bad, hbA⟩
                · by_cases n6 : 0 ≤ nd
                  · obtain ⟨m, rfl⟩ : ∃ m : Nat, nd = (m : Int) := ⟨nd.toNat, by omega⟩
                    have hmn : m < ns := by omega
                    obtain ⟨gS, oS, rfl, hgS, hcS⟩ := HS.out m hmn
                    have n2' : ¬ ns ≤ m := by omega
                    have HLD := hide (show ∀ j u, (styA (R m))[j]? = some u → (wr.alloc (.cells #[.int .i64 kd, .int .i64 (m : Nat), .int .i64 pr, .slice Ak nk ck, .string tx] 45)).cell? ⟨gS, oS + m * 118 + j, none⟩ = some u from fun j u hu => by
                      have hj : j < 118 := by
                        have := (Array.getElem?_eq_some_iff.1 hu).1
                        rwa [styA_size] at this
                      rw [styA_at _ hj] at hu
                      injection hu with hu
                      subst hu
                      exact (hbA.cell (p := ⟨gS, oS + m * 118 + j, none⟩) hgS).trans (hcS j hj))
                    have hsA : (wr.alloc (.cells #[.int .i64 kd, .int .i64 (m : Nat), .int .i64 pr, .slice Ak nk ck, .string tx] 45)).heap.size = wr.heap.size + 1 := by simp
                    have HWB := hide (HWA.out.alloc (.cells (styA (R m)) 50))
                    have hB2 := Blk.new (wr.alloc (.cells #[.int .i64 kd, .int .i64 (m : Nat), .int .i64 pr, .slice Ak nk ck, .string tx] 45)) 50 (styA (R m))
                    rw [hsA] at hB2
                    have HB2 := hide hB2
                    have HBL := hide (hbA.alloc (by rw [hsA]; have := hbel.size; omega) (.cells (styA (R m)) 50))
                    have HSA := hide hsA
                    clear hB2 hsA hcS hX
                    go_wp2_with (first
                      | (refine wpList_load_mid rfl 50 (.tmp 63) rfl gS (oS + m * 118) rfl (styA (R m)) _ HLD.out sty_u rfl (sty_i _) ?_)
                      | (refine wpList_layN (wr.heap.size + 1) HSA.out rfl 65 rfl 22 1 _ rfl [(0, .agg (styA (R m)))] rfl (styA (R m)) 50 (sty_lay _) ?_)
                      | (at_builtin; refine wpList_app1 rfl (.tmp 59) (.tmp 65) _ rfl w.heap.size 50 _ 118 944 Tryd.underlying22 sty_info (styA_size _) (Nat.succ_pos _) v k _ rfl HWB.out (wr.heap.size + 1) 1 _ HB2.out (styA_size _) rfl (sty_one _) (by omega) (Nat.le_of_ble_eq_true rfl) HBL.out.size ?_; intro v4 w4 hown4 hg4; have hb9 := own_below HWB.out HBL.out (Nat.le_refl _) (Nat.le_refl _) hg4)
                      | fail)
                    go_roundw
                    case rel => exact ⟨k + 1, Rs ++ [R m], by omega, by go_num, by simp [hRs], by rw [styCells_snoc]; exact hown4, hb9⟩
                    case measure => simp only [intOf]; omega
                  · obtain rfl : nd = -1 := by omega
                    clear n1 n2 n6
                    obtain ⟨q, rfl⟩ : ∃ q : Nat, pr = (q : Int) := ⟨pr.toNat, by omega⟩
                    have hqk : q < k := by omega
                    have hsA : (wr.alloc (.cells #[.int .i64 kd, .int .i64 (-1), .int .i64 (q : Nat), .slice Ak nk ck, .string tx] 45)).heap.size = wr.heap.size + 1 := by simp
                    have hbB := hbA.alloc hbA.size (.cells Tryd.zeroCells50 50)
                    have hWB := HWA.out.alloc (.cells Tryd.zeroCells50 50)
                    have hX2 := hX.alloc (.cells Tryd.zeroCells50 50)
                    have hZ := Blk.new (wr.alloc (.cells #[.int .i64 kd, .int .i64 (-1), .int .i64 (q : Nat), .slice Ak nk ck, .string tx] 45)) 50 Tryd.zeroCells50
                    rw [hsA] at hZ
                    have hlA := own_lt HW.out
                    have hsB : ((wr.alloc (.cells #[.int .i64 kd, .int .i64 (-1), .int .i64 (q : Nat), .slice Ak nk ck, .string tx] 45)).alloc (.cells Tryd.zeroCells50 50)).heap.size = wr.heap.size + 2 := by simp
                    have hBB := hide hbB
                    have HWB := hide hWB
                    have HX2 := hide hX2
                    have HZ := hide hZ
                    have HSB := hide hsB
                    have HLA := hide hlA
                    clear hbB hWB hX2 hZ hsB hlA hsA HWA
                    go_wp2_with fail
                    clear d0 d1 d2 d3 d4 hX hbA
                    generalize (wr.alloc (.cells #[.int .i64 kd, .int .i64 (-1), .int .i64 (q : Nat), .slice Ak nk ck, .string tx] 45)).alloc (.cells Tryd.zeroCells50 50) = wz at *
                    obtain ⟨n0, hn0⟩ : ∃ n0, n0 = wr.heap.size := ⟨_, rfl⟩
                    have hwr := hbel.size
                    simp only [← hn0] at HZ HSB HLA HX2 hwr ⊢
                    clear hn0
                    rw [sty_zero] at HZ
                    have hbz := Below.refl (n0 + 1) wz
                    obtain ⟨gv, cv, rfl, hgv, _⟩ := HW.out.form (by omega : 0 < k)
                    have hgn : gv < n0 := HLA.out gv rfl
                    have hd : decide ((ns : Int) ≤ -1) = false := decide_eq_false (by omega)
                    rw [hd]
                    go_loopw [67] (fun i wx => ∃ (p : Nat) (T : Nat → Int), p ≤ 59 ∧ i = .int .i64 p ∧ Blk wx (n0 + 1) 50 (styA T) ∧ Below (n0 + 1) wz wx) (fun i _ => 59 - (intOf i).toNat)
                    case atStart => exact ⟨0, _, Nat.zero_le _, rfl, HZ.out, hbz⟩
                    case round =>
                      clear hbz
                      obtain ⟨p, T, hp, rfl, hT, hbz⟩ := hrel
                      have hszx := hbz.size
                      rw [HSB.out] at hszx
                      by_cases hp9 : p < 59
                      · obtain ⟨x0, hx0⟩ := styCells_at Rs q (p * 2) (by omega) (by omega)
                        obtain ⟨x1, hx1⟩ := styCells_at Rs q (p * 2 + 1) (by omega) (by omega)
                        have e0 : wr.cell? ⟨gv, q * 118 + p * 2, none⟩ = some (.int .i64 x0) := ((hbz.cell (p := ⟨gv, q * 118 + p * 2, none⟩) (by show gv < n0 + 1; omega)).trans (HWB.out.cellAt (q * 118 + p * 2) (by omega))).trans hx0
                        have e1 : wr.cell? ⟨gv, q * 118 + p * 2 + 1, none⟩ = some (.int .i64 x1) := ((hbz.cell (p := ⟨gv, q * 118 + p * 2 + 1, none⟩) (by show gv < n0 + 1; omega)).trans (HWB.out.cellAt (q * 118 + (p * 2 + 1)) (by omega))).trans hx1
                        have b2 : wr.cell? ⟨n0, 2, none⟩ = some (.int .i64 q) := (hbz.cell (p := ⟨n0, 2, none⟩) (Nat.lt_succ_self n0)).trans (HX2.out.cell 2)
                        have HT := hide hT
                        have HBZ := hide hbz
                        have hTL : Blk wr (n0 + 1) 50 (styA T).toList.toArray := by rw [Array.toArray_toList]; exact hT
                        have HTL := hide hTL
                        have HS1 := hide (show p * 2 + 2 ≤ (styA T).toList.length by rw [Array.length_toList, styA_size]; omega)
                        clear hT hbz hx0 hx1 hTL
                        go_wp2_with (first
                          | (go_at_call 28; refine (inherits_any _ _).mono ?_; rintro e w9 ⟨⟨b, rfl⟩, rfl⟩; cases b)
                          | (refine wpList_store_rec rfl 48 _ _ rfl (n0 + 1) (p * 2) 50 _ #[.int .i64 x0, .int .i64 x1] rfl rfl HTL.out HS1.out (val_i _ _) (val_1 _ _) ?_; intro w4 hb4 hg4)
                          | fail)
                        · refine (initial_any p hp9 G _ (HGI.out.below ((hBB.out.trans (HBZ.out.mono (by omega))).mono (Nat.le_refl _)))).mono ?_
                          rintro e w9 ⟨⟨y0, y1, rfl⟩, hb9⟩
                          have HTL9 := hide (HTL.out.below hb9 (by omega))
                          have hbz9 := HBZ.out.trans (hb9.mono (by omega))
                          clear HTL HBZ e0 e1 b2
                          go_wp2_with (first
                            | (refine wpList_store_rec rfl 48 _ _ rfl (n0 + 1) (p * 2) 50 _ #[.int .i64 y0, .int .i64 y1] rfl rfl HTL9.out HS1.out (val_i _ _) (val_1 _ _) ?_; intro w4 hb4 hg4)
                            | fail)
                          have hb5 := hb4
                          rw [sty_set T (p * 2) y0 y1 (by omega)] at hb5
                          clear hb4
                          go_roundw
                          case rel => exact ⟨p + 1, _, by omega, by go_num, hb5, below_grown hbz9 (by rw [HSB.out]; omega) hg4 (Nat.le_refl _)⟩
                          case measure => simp only [intOf]; omega
                        · have hb5 := hb4
                          rw [sty_set T (p * 2) x0 x1 (by omega)] at hb5
                          clear hb4
                          go_roundw
                          case rel => exact ⟨p + 1, _, by omega, by go_num, hb5, below_grown HBZ.out (by rw [HSB.out]; omega) hg4 (Nat.le_refl _)⟩
                          case measure => simp only [intOf]; omega
                      · obtain rfl : p = 59 := by omega
                        have hbzf := hbz.mono (show w.heap.size ≤ n0 + 1 by omega)
                        have hownz := own_keep HWB.out hbz (fun i hi => Nat.lt_succ_of_lt (HLA.out i hi))
                        have hbzb := hBB.out.trans hbzf
                        have HT2 := hide hT
                        have HWf := hide (hownz.alloc (.cells (styA T) 50))
                        have HBL := hide (hbzb.alloc hbzb.size (.cells (styA T) 50))
                        have HB2 := hide (Blk.new wr 50 (styA T))
                        clear hT hbz hbzf hownz hbzb hszx
                        go_wp2_with (first
                          | (refine wpList_load_sty rfl _ rfl (n0 + 1) rfl T HT2.out ?_)
                          | (refine wpList_layN wr.heap.size rfl rfl 88 rfl 22 1 _ rfl [(0, .agg (styA T))] rfl (styA T) 50 (sty_lay _) ?_)
                          | (at_builtin; refine wpList_app1 rfl (.tmp 86) (.tmp 88) _ rfl w.heap.size 50 _ 118 944 Tryd.underlying22 sty_info (styA_size _) (Nat.succ_pos _) _ k _ rfl HWf.out wr.heap.size 1 _ HB2.out (styA_size _) rfl (sty_one _) (by omega) (Nat.le_of_ble_eq_true rfl) HBL.out.size ?_; intro v4 w4 hown4 hg4; have hb9 := own_below HWf.out HBL.out (Nat.le_refl _) (Nat.le_refl _) hg4)
                          | fail)
                        go_roundw
                        case rel => exact ⟨k + 1, Rs ++ [T], by omega, by go_num, by simp [hRs], by rw [styCells_snoc]; exact hown4, hb9⟩
                        case measure => simp only [intOf]; omega
    · obtain rfl : k = l.length := by omega
      go_wp2_with fail
      go_ret2
      exact ⟨⟨v, 0, rfl, fun _ => ⟨Rs, hRs, HW.out⟩⟩, hbel⟩
end Go.Proofs.YtbpkffoooieejaaDoor
