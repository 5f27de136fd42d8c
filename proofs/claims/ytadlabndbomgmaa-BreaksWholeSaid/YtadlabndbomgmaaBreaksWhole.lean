/- The walk of the statement BreaksWhole: it returns true. -/
import Derived.BigQuiet
import Derived.Handy
import Derived.Test.YtadlabndbomgmaaBreaksMust
namespace Go.Proofs.Ytadlabndbomgmaa
open Go.ChangeShapes Go.WideShapes Go.ChangeAt Go.RowKit
theorem join_empty : ∀ (l : List (List UInt8)), Lib.join l [] = l.flatten := by
  intro l
  cases l with
  | nil => rfl
  | cons x r => rw [Lib.join_cons]; simp [Lib.joinTail]
theorem rises_at {n : Nat} : ∀ {l : List (Nat × Bool)} {lo : Nat}, rises n lo l → ∀ k (h : k < l.length), (if k = 0 then lo else (l.getD (k - 1) (0, false)).1) < l[k].1 ∧ l[k].1 ≤ n
  | [], _, _, k, hk => by simp at hk
  | (a, b) :: r, lo, h, k, hk => by
    cases k with
    | zero => exact ⟨h.1, h.2.1⟩
    | succ k =>
      have ih := rises_at h.2.2 k (by simpa using hk)
      simp only [List.getElem_cons_succ]
      refine ⟨?_, ih.2⟩
      cases k with
      | zero => simpa using ih.1
      | succ k => simpa using ih.1
/-- The place ahead. -/
def prevAt (l : List (Nat × Bool)) (k : Nat) : Nat := if k = 0 then 0 else (l.getD (k - 1) (0, false)).1
theorem prevAt_succ (l : List (Nat × Bool)) (k : Nat) (h : k < l.length) : prevAt l (k + 1) = l[k].1 := by
  simp [prevAt, List.getD, List.getElem?_eq_getElem h]
set_option maxRecDepth 100000 in
set_option maxHeartbeats 2000000 in
theorem breaksWhole_any (s : ByteArray) (mode : Int) (w : World) (hs : s.size ≤ maxLen) :
    Calls Try.prog 11 #[.string s, .int .i64 mode] w fun e w' => e = .returned (.bool true) ∧ Below w.heap.size w w' := by
  unfold maxLen at hs
  go_enter Try.func11, Try.ntmps11
  go_wp2_with fail
  have hs1 : (s.extract 0 (min (s.size : Int) 400).toNat).size ≤ 400 := by rw [ByteArray.size_extract]; omega
  generalize s.extract 0 (min (s.size : Int) 400).toNat = s1 at *
  have hl0 := brk_len s1 (modeW mode) (modeK mode) (s1.size + 1) 0 0 (Nat.zero_le _)
  have hl1 : (brkAll s1 (modeW mode) (modeK mode)).length ≤ 401 := by unfold brkAll; omega
  have hp1 : (piecesF s1 (modeW mode) (modeK mode)).length ≤ 402 := by
    have := pcs_len s1 (brkEnds s1 (modeW mode) (modeK mode)) 0
    unfold piecesF
    unfold brkEnds at *
    simp only [List.length_append, List.length_map, List.length_singleton] at *
    omega
  have HR := hide (fun k h => rises_at (brkAll_rises s1 (modeW mode) (modeK mode)) k h)
  have HJ := hide (pieces_join s1 (modeW mode) (modeK mode))
  have HN := hide (pieces_some s1 (modeW mode) (modeK mode))
  clear hl0
  refine (Pieces_any s1 mode w hs1).mono ?_
  rintro e w1 ⟨v, rfl, hown, hb1⟩
  obtain ⟨X, cx, rfl, hcx, hrd⟩ := own_reads hown
  have HX := hide hrd
  clear hown hrd
  go_wp2_with fail
  refine (All_any s1 mode w1 hs1).mono ?_
  rintro e w2 ⟨v, rfl, hown, hb2⟩
  generalize brkAll s1 (modeW mode) (modeK mode) = L at *
  generalize piecesF s1 (modeW mode) (modeK mode) = P at *
  obtain ⟨Y, cy, rfl, hcy, _⟩ := own_reads hown
  have HO := hide hown
  have HX2 := hide (HX.out.below hb2)
  have hb3 := below_on hb1 hb2
  clear hown HX
  go_wp2_with fail
  go_loopw [6, 23] (fun n i wr => ∃ (k : Nat), k ≤ L.length ∧ i = .int .i64 k ∧ n = .int .i64 (prevAt L k) ∧ Below w2.heap.size w2 wr) (fun _ i _ => L.length - (intOf i).toNat)
  case atStart => exact ⟨0, Nat.zero_le _, rfl, rfl, Below.refl _ _⟩
  case round =>
    obtain ⟨k, hk, rfl, rfl, hbel⟩ := hrel
    have hszr := hbel.size
    by_cases hlt : k < L.length
    · obtain ⟨g, rfl, hg1, hg2, c0, c1⟩ := brkCell HO.out hlt
      have d0 := (hbel.cell (p := ⟨g, k * 2, none⟩) hg2).trans c0
      have d1 := (hbel.cell (p := ⟨g, k * 2 + 1, none⟩) hg2).trans c1
      have hr := HR.out k hlt
      have P1 := hide (prevAt_succ L k hlt)
      have hr2 : prevAt L k < L[k].1 ∧ L[k].1 ≤ s1.size := hr
      clear hr
      generalize L[k] = bk at *
      obtain ⟨at_, mu⟩ := bk
      dsimp only at d0 d1 P1 hr2
      generalize prevAt L k = pv at *
      obtain ⟨r1, r2⟩ := hr2
      have t1 : ¬ at_ ≤ pv := by omega
      clear c0 c1
      go_wp2_with fail
      go_roundw
      case rel => exact ⟨k + 1, by omega, by go_num, by rw [P1.out], hbel.alloc hszr _⟩
      case measure => simp [intOf]; omega
    · obtain rfl : k = L.length := by omega
      have HX3 := hide (HX2.out.below (hbel.mono hb2.size))
      have hb4 := below_then hb3 (Nat.le_refl _) hbel
      clear HX2
      go_wp2_with fail
      obtain ⟨wo, rfl⟩ : ∃ wo : World, wo = wr := ⟨_, rfl⟩
      go_loop [52] (fun i => ∃ j : Nat, j ≤ P.length ∧ i = .int .i64 j) (fun i => P.length - (intOf i).toNat)
      case atStart => exact ⟨0, Nat.zero_le _, rfl⟩
      case round =>
        obtain ⟨j, hj, rfl⟩ := hrel
        by_cases hlj : j < P.length
        · obtain ⟨ad, u, rfl, hadb, hu, hc⟩ := HX3.out.at_ hlj
          have hn := HN.out _ (List.getElem_mem hlj)
          have hu' : u = .string P[j] := by simpa [List.getElem?_eq_getElem hlj] using hu.symm
          subst hu'
          clear hu
          generalize P[j] = p at *
          have hne : p.toList.isEmpty = false := by
            rw [← decide_eq_emptyBytes]
            exact decide_eq_false (fun e => by rw [e] at hn; exact absurd hn (by decide))
          go_wp2_with fail
          refine ⟨⟨j + 1, by omega, by go_num⟩, ?_⟩
          simp only [intOf]
          omega
        · obtain rfl : j = P.length := by omega
          go_wp2_with (first | (go_at_call 49; refine (broken_any _).mono ?_; rintro e w4 ⟨rfl, hb9⟩) | fail)
          have hb5 := below_then hb4 (Nat.le_refl _) (hb9.mono (Nat.le_refl _))
          have hb6 : Below w.heap.size w w4 := hb4.trans (hb9.mono hb4.size)
          have hX4 := HX3.out.below (hb9.mono (Nat.le_trans hb2.size hszr))
          have hj1 : Lib.join (P.map (·.data.toList)) ([] : List UInt8) = s1.data.toList := by rw [join_empty]; exact HJ.out
          have hw4 : w1.heap.size ≤ w4.heap.size := Nat.le_trans hb2.size (Nat.le_trans hszr hb9.size)
          have HJ1 := hide hj1
          have HX4 := hide hX4
          clear HX3 hX4 hj1 hb5
          by_cases hP0 : P.length = 0
          · obtain rfl : P = [] := List.eq_nil_of_length_eq_zero hP0
            have hs0 : s1 = ⟨#[]⟩ := by
              have : s1.data.toList = [] := by rw [← HJ1.out]; rfl
              have h2 := bytesStr_toList s1
              rw [this] at h2
              exact h2.symm
            subst hs0
            refine (Try.strings_Join_none X cx ⟨#[]⟩ w4).mono ?_
            rintro e w5 ⟨rfl, rfl⟩
            go_wp2_with fail
            go_ret
            exact ⟨rfl, hb6⟩
          · obtain ⟨ad, u, rfl, hadb, _, hc0⟩ := HX4.out.at_ (show 0 < P.length by omega)
            obtain ⟨g, o, sp⟩ := ad
            have hsp : sp = none := by
              simp [Addr.add] at hc0
              simpa using World.cell?_spot hc0
            subst hsp
            have hcells : ∀ (j : Nat) x, P[j]? = some x → w4.cell? ⟨g, o + j, none⟩ = some (.string x) := fun j x hx => by
              obtain ⟨ad2, e2, _, hcc⟩ := HX4.out.2 (by omega)
              injection e2 with e2
              subst e2
              have := hcc j (.string x) (by rw [List.getElem?_map, hx]; rfl)
              rwa [show (⟨g, o, none⟩ : Addr).add j = ⟨g, o + j, none⟩ by unfold Addr.add; split <;> simp_all] at this
            refine (Try.strings_Join g o cx P ⟨#[]⟩ w4 hcells (Nat.lt_of_lt_of_le hadb hw4) (by omega) hcx (by rw [show (ByteArray.mk #[]).data.toList = [] from rfl, HJ1.out, size_eq]; omega)).mono ?_
            rintro e w5 ⟨rfl, hb7⟩
            have e3 : (ByteArray.mk (Lib.join (P.map (·.data.toList)) (ByteArray.mk #[]).data.toList).toArray) = s1 := by
              rw [show (ByteArray.mk #[]).data.toList = [] from rfl, HJ1.out]
            rw [e3]
            clear e3
            go_wp2_with fail
            go_ret
            exact ⟨rfl, hb6.trans (hb7.mono hb6.size)⟩
end Go.Proofs.Ytadlabndbomgmaa
