/- The walk of the statement BreaksMust: it returns true. -/
import Derived.BigQuiet
import Derived.Handy
import Derived.Test.YtadlabndbomgmaaPieces
import Derived.Test.YtadlabndbomgmaaWhite
import Derived.Test.YtadlabndbomgmaaShelfD
namespace Go.Proofs.Ytadlabndbomgmaa
open Go.ChangeShapes Go.WideShapes Go.ChangeAt Go.RowKit
theorem broken_two : (piecesF ⟨#[97, 32, 98]⟩ (modeW 0) (modeK 0)).length = 2 := by kernel_rfl
theorem broken_any (w : World) : Calls Try.prog 49 #[] w fun e w' => e = .returned (.bool true) ∧ Below w.heap.size w w' := by
  have H2 := hide broken_two
  go_enter Try.func49, Try.ntmps49
  go_wp2_with fail
  refine (Pieces_any ⟨#[97, 32, 98]⟩ 0 w (by decide)).mono ?_
  rintro e w1 ⟨v, rfl, hown, hb⟩
  rw [H2.out] at hown
  obtain ⟨X, cx, rfl, _, _⟩ := own_reads hown
  clear hown
  go_wp2
  go_ret
  exact ⟨rfl, hb⟩
theorem musts_take (l : List (Nat × Bool)) (k : Nat) (h : k < l.length) : musts (l.take (k + 1)) = musts (l.take k) + if l[k].2 then 1 else 0 := by
  unfold musts
  rw [List.take_succ_eq_append_getElem h, List.filter_append, List.length_append]
  cases hb : l[k].2 <;> simp [hb]
theorem musts_le (l : List (Nat × Bool)) : musts l ≤ l.length := by unfold musts; exact List.length_filter_le _ _
theorem modeK_is (m : Int) : modeK m = keepsM m := rfl
theorem rises_pos {n : Nat} : ∀ {l : List (Nat × Bool)} {lo : Nat}, rises n lo l → ∀ b ∈ l, lo < b.1 ∧ b.1 ≤ n
  | [], _, _, b, hb => by cases hb
  | (a, _) :: _, _, h, b, hb => by
    rcases List.mem_cons.1 hb with rfl | hb
    · exact ⟨h.1, h.2.1⟩
    · have := rises_pos h.2.2 b hb
      have := h.1
      omega
set_option maxRecDepth 100000 in
set_option maxHeartbeats 1000000 in
theorem breaksMust_any (s : ByteArray) (mode : Int) (w : World) (hs : s.size ≤ maxLen) :
    Calls Try.prog 15 #[.string s, .int .i64 mode] w fun e w' => e = .returned (.bool true) ∧ Below w.heap.size w w' := by
  unfold maxLen at hs
  go_enter Try.func15, Try.ntmps15
  go_wp2_with fail
  have hs1 : (s.extract 0 (min (s.size : Int) 400).toNat).size ≤ 400 := by rw [ByteArray.size_extract]; omega
  generalize s.extract 0 (min (s.size : Int) 400).toNat = s1 at *
  have hl0 := brk_len s1 (modeW mode) (modeK mode) (s1.size + 1) 0 0 (Nat.zero_le _)
  have hl1 : (brkAll s1 (modeW mode) (modeK mode)).length ≤ 401 := by unfold brkAll; omega
  have HM := hide (brkAll_musts s1 (modeW mode) (modeK mode))
  have HT := hide (brkAll_ten s1 (modeW mode) (modeK mode))
  have HR := hide (rises_pos (brkAll_rises s1 (modeW mode) (modeK mode)))
  clear hl0
  refine (All_any s1 mode w hs1).mono ?_
  rintro e w1 ⟨v, rfl, hown, hb1⟩
  generalize brkAll s1 (modeW mode) (modeK mode) = L at *
  obtain ⟨X, cx, rfl, hcx, _⟩ := own_reads hown
  have HO := hide hown
  clear hown
  go_wp2_with fail
  go_loopw [5, 17] (fun n i wr => ∃ (k : Nat), k ≤ L.length ∧ i = .int .i64 k ∧ n = .int .i64 (musts (L.take k)) ∧ Below w1.heap.size w1 wr) (fun _ i _ => L.length - (intOf i).toNat)
  case atStart => exact ⟨0, Nat.zero_le _, rfl, rfl, Below.refl _ _⟩
  case round =>
    obtain ⟨k, hk, rfl, rfl, hbel⟩ := hrel
    have hszr := hbel.size
    by_cases hlt : k < L.length
    · obtain ⟨g, rfl, hg1, hg2, c0, c1⟩ := brkCell HO.out hlt
      have d0 := (hbel.cell (p := ⟨g, k * 2, none⟩) hg2).trans c0
      have d1 := (hbel.cell (p := ⟨g, k * 2 + 1, none⟩) hg2).trans c1
      have hr := HR.out _ (List.getElem_mem hlt)
      have ht := HT.out _ (List.getElem_mem hlt)
      have P1 := hide (musts_take L k hlt)
      have hml := musts_le (L.take k)
      simp only [List.length_take] at hml
      generalize L[k] = bk at *
      obtain ⟨at_, mu⟩ := bk
      dsimp only at d0 d1 P1 hr ht
      generalize hmk : musts (L.take k) = mk at *
      have TK := hide hmk
      clear hmk c0 c1
      cases mu
      · clear ht
        go_wp2_with fail
        go_roundw
        case rel => exact ⟨k + 1, by omega, by go_num, by rw [P1.out]; rfl, hbel.alloc hszr _⟩
        case measure => simp [intOf]; omega
      · obtain ⟨hi, h10⟩ := ht rfl
        clear ht
        have hx : ((s1[at_ - 1].toNat : Int) != 10) = false := by rw [h10]; rfl
        have hxa : (0 : Int) ≤ (at_ : Int) - 1 := by omega
        have hxb : (at_ : Int) - 1 < (s1.size : Int) := by omega
        clear h10
        go_wp2_with fail
        go_roundw
        case rel => exact ⟨k + 1, by omega, by go_num, by rw [P1.out, if_pos (by trivial)]; go_num, hbel.alloc hszr _⟩
        case measure => simp [intOf]; omega
    · obtain rfl : k = L.length := by omega
      have hmm : musts (L.take L.length) = if modeK mode then Lib.countByte s1.data.toList 10 else 0 := by rw [List.take_length]; exact HM.out
      rw [modeK_is] at hmm
      rw [hmm]
      clear hmm
      cases hkm : keepsM mode
      · go_wp2_with (first
          | (go_at_call 49; refine (broken_any _).mono ?_; rintro e w4 ⟨rfl, hb4⟩; have hbel4 := below_on hbel hb4)
          | (go_at_call 31; refine (refKeeps_any _ _).mono ?_; rintro e w' ⟨rfl, rfl⟩; rw [hkm])
          | (go_at_call 56; refine (Try.strings_Count_one _ 10 _).mono ?_; rintro e w' ⟨rfl, rfl⟩))
        go_ret
        exact ⟨rfl, below_then hb1 (Nat.le_refl _) hbel4⟩
      · have heq : (((Lib.countByte s1.data.toList 10 : Nat) : Int) == ((Lib.countByte s1.data.toList 10 : Nat) : Int)) = true := by simp
        go_wp2_with (first
          | (go_at_call 49; refine (broken_any _).mono ?_; rintro e w4 ⟨rfl, hb4⟩; have hbel4 := below_on hbel hb4)
          | (go_at_call 31; refine (refKeeps_any _ _).mono ?_; rintro e w' ⟨rfl, rfl⟩; rw [hkm])
          | (go_at_call 56; refine (Try.strings_Count_one _ 10 _).mono ?_; rintro e w' ⟨rfl, rfl⟩))
        go_ret
        exact ⟨rfl, below_then hb1 (Nat.le_refl _) hbel4⟩
end Go.Proofs.Ytadlabndbomgmaa
