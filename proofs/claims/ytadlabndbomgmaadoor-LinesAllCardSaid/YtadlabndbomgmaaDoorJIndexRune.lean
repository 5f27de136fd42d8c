/- The walk of strings.ContainsRune at a rune that is not ASCII, in a text that is. -/
import Derived.BigQuiet
import Derived.Handy
import Derived.IntWalk
import Derived.Deep.QuietTactic
import Derived.Deep.RegionHeld3
import Derived.Test.YtadlabndbomgmaaDoorJ1
import Derived.Test.YtadlabndbomgmaaDoorJ2
set_option linter.unusedVariables false
set_option linter.unusedSimpArgs false
namespace Go.Proofs.YtadlabndbomgmaaDoor
open Go.ChangeShapes Go.WideShapes Go.ChangeAt Go.RowKit
theorem enc_is (r : Int) (h1 : 128 ≤ r) (h2 : r < 4352) : ∃ m : Nat, (Utf8.encode r).size = m + 1 ∧ 1 ≤ m ∧ m ≤ 2 ∧ ∀ h : m < (Utf8.encode r).size, 128 ≤ ((Utf8.encode r)[m]'h).toNat := by
  have hv : Utf8.valid r = true := by unfold Utf8.valid; simp; omega
  by_cases h : r.toNat < 0x800
  · have e : Utf8.encode r = ⟨#[UInt8.ofNat (0xC0 + r.toNat / 64), UInt8.ofNat (0x80 + r.toNat % 64)]⟩ := by
      unfold Utf8.encode
      simp only [hv, if_true]
      rw [if_neg (by omega), if_pos h]
    rw [e]
    refine ⟨1, rfl, by omega, by omega, fun _ => ?_⟩
    show 128 ≤ (UInt8.ofNat (0x80 + r.toNat % 64)).toNat
    rw [UInt8.toNat_ofNat']; omega
  · have e : Utf8.encode r = ⟨#[UInt8.ofNat (0xE0 + r.toNat / 4096), UInt8.ofNat (0x80 + r.toNat / 64 % 64), UInt8.ofNat (0x80 + r.toNat % 64)]⟩ := by
      unfold Utf8.encode
      simp only [hv, if_true]
      rw [if_neg (by omega), if_neg h, if_pos (by omega)]
    rw [e]
    refine ⟨2, rfl, by omega, by omega, fun _ => ?_⟩
    show 128 ≤ (UInt8.ofNat (0x80 + r.toNat % 64)).toNat
    rw [UInt8.toNat_ofNat']; omega
theorem indexByte_missing (c : UInt8) : ∀ l : List UInt8, (∀ b ∈ l, b ≠ c) → Lib.indexByte l c = -1
  | [], _ => rfl
  | b :: l, h => by
    have h1 := indexByte_missing c l fun x hx => h x (by simp [hx])
    have h2 : (b == c) = false := by simpa using h b (by simp)
    simp [Lib.indexByte, h1, h2]
set_option maxRecDepth 100000 in
set_option maxHeartbeats 1000000 in
theorem IndexRune_none (s : ByteArray) (r : Int) (w : World) (h1 : 128 ≤ r) (h2 : r < 4352) (hs : 3 ≤ s.size ∧ s.size ≤ 100) (hl : ∀ b ∈ s.data.toList, b.toNat < 128) :
    Calls Tryd.prog 82 #[.string s, .int .i32 r] w fun e w' => e = .returned (.int .i64 (-1)) ∧ ∃ k, w' = w.drewN k := by
  have hv : Lib.validRune r = true := by unfold Lib.validRune; simp; omega
  have HA := hide (show ∀ i, (h : i < s.size) → s[i].toNat < 128 from fun i h => hl _ (by rw [Array.mem_toList_iff]; exact Array.getElem_mem h))
  have HL := hide hl
  clear hl
  have z1 : (r == 65533) = false := beq_eq_false_iff_ne.2 (by omega)
  go_enter Tryd.func82, Tryd.ntmps82
  go_wp2_with (first | (go_at_call 105; refine (Tryd.utf8_ValidRune _ _).mono ?_; rintro e w' ⟨rfl, rfl⟩; rw [hv]) | fail)
  go_step3
  obtain ⟨m, hm, hm1, hm2, hmb⟩ := enc_is r h1 h2
  have HB := hide hmb
  clear hmb
  go_wp2_with fail
  generalize Utf8.encode r = rs at *
  have hsm : m < s.size := by omega
  have hrm : m < rs.size := by omega
  have hb1 := HA.out m hsm
  have hb2 := HB.out hrm
  have hne : ((s[m].toNat : Int) != (rs[m].toNat : Int)) = true := by rw [bne_iff_ne]; omega
  have hm0 : (0 : Int) ≤ (m : Int) := by omega
  have hms : (m : Int) < (s.size : Int) := by omega
  have hmr : (m : Int) < (rs.size : Int) := by omega
  have HM := hide hm
  clear hm
  refine wp_loop_rounds 1 ?_
  rw [rounds_succ]
  go_wp2_with fail
  go_step3
  go_wp2_with fail
  go_quiet (fail)
  go_wp2_with fail
  go_quiet ((go_at_call 104; exact quiet_add_same (Tryd.strings_IndexByte _ _ _)))
  have hib : Lib.indexByte (s.extract (m + 1) s.size).data.toList ((rs[m].toNat : Int)).toNat.toUInt8 = -1 := indexByte_missing _ _ fun b hb => by
    have h7 : b.toNat < 128 := HL.out b (by
      rw [Lib.extract_data] at hb
      exact List.mem_of_mem_drop (List.mem_of_mem_take hb))
    intro e
    have h8 : b.toNat = rs[m].toNat := by rw [e]; simp
    omega
  rw [hib]
  clear hib hne
  go_wp2_with fail
  rw [Exit.noGoto_ret]
  go_wp2_with fail
  repeat rw [Exit.noGoto_ret]
  go_ret
  exact ⟨rfl, _, rfl⟩
/-- Is a rune, that is no control, one of a text of ASCII? -/
def asIn (s : ByteArray) (r : Int) : Bool := (s.data.toList.map fun b => (b.toNat : Int)).contains r
theorem asIn_low (s : ByteArray) (r : Int) (h0 : 0 ≤ r) (h1 : r < 128) : decide (0 ≤ Lib.indexByte s.data.toList r.toNat.toUInt8) = asIn s r := by
  have hc : (r.toNat.toUInt8).toNat = r.toNat := by simp; omega
  have hm : asIn s r = true ↔ r.toNat.toUInt8 ∈ s.data.toList := by
    unfold asIn
    rw [List.contains_iff_mem, List.mem_map]
    constructor
    · rintro ⟨b, hb, e⟩
      have : b = r.toNat.toUInt8 := by apply UInt8.toNat_inj.1; rw [hc]; omega
      rw [← this]; exact hb
    · intro h
      exact ⟨_, h, by rw [hc]; omega⟩
  by_cases hin : r.toNat.toUInt8 ∈ s.data.toList
  · rw [hm.2 hin]
    refine decide_eq_true ?_
    have h2 := Lib.indexByte_ge s.data.toList r.toNat.toUInt8
    by_cases hn : Lib.indexByte s.data.toList r.toNat.toUInt8 = -1
    · obtain ⟨k, hk, e⟩ := List.getElem_of_mem hin
      exact absurd (by rw [List.getElem?_eq_getElem hk, e]) (Lib.indexByte_none hn k)
    · omega
  · rw [show asIn s r = false by cases h : asIn s r; rfl; exact absurd (hm.1 h) hin]
    rw [indexByte_missing _ _ fun b hb e => hin (by rw [← e]; exact hb)]
    rfl
theorem asIn_high (s : ByteArray) (r : Int) (h1 : 128 ≤ r) (hl : ∀ b ∈ s.data.toList, b.toNat < 128) : asIn s r = false := by
  cases h : asIn s r
  · rfl
  · unfold asIn at h
    rw [List.contains_iff_mem, List.mem_map] at h
    obtain ⟨b, hb, e⟩ := h
    have := hl b hb
    omega
theorem ContainsRune_any (s : ByteArray) (r : Int) (w : World) (h1 : 0 ≤ r) (h2 : r < 4352) (hs : 3 ≤ s.size ∧ s.size ≤ 100) (hl : ∀ b ∈ s.data.toList, b.toNat < 128) :
    Calls Tryd.prog 57 #[.string s, .int .i32 r] w fun e w' => e = .returned (.bool (asIn s r)) ∧ ∃ k, w' = w.drewN k := by
  by_cases h : r < 128
  · refine (Tryd.strings_ContainsRune_ascii s r w h1 h).mono ?_
    rintro e w' ⟨rfl, rfl⟩
    exact ⟨ret_bool (asIn_low s r h1 h), 0, rfl⟩
  · have hf := hide (asIn_high s r (by omega) hl)
    have HL := hide hl
    clear hl
    go_enter Tryd.func57, Tryd.ntmps57
    go_wp2_with fail
    refine (IndexRune_none s r w (by omega) h2 hs HL.out).mono ?_
    rintro e w' ⟨rfl, k, rfl⟩
    go_wp2_with fail
    go_ret
    exact ⟨ret_bool hf.out.symm, k, rfl⟩
def narrowS : ByteArray := ⟨#[32, 105, 108, 106, 46, 44, 39, 33, 124, 58]⟩
def wideS' : ByteArray := ⟨#[109, 119, 77, 87, 64]⟩
theorem narrow_ascii : ∀ b ∈ narrowS.data.toList, b.toNat < 128 := by decide
theorem wide_ascii : ∀ b ∈ wideS'.data.toList, b.toNat < 128 := by decide
theorem narrow_in (r : Int) : asIn narrowS r = decide (r ∈ narrowL) := by rw [Bool.eq_iff_iff, decide_eq_true_eq]; unfold asIn; rw [List.contains_iff_mem]; exact Iff.rfl
theorem wide_in (r : Int) : asIn wideS' r = decide (r ∈ wideL) := by rw [Bool.eq_iff_iff, decide_eq_true_eq]; unfold asIn; rw [List.contains_iff_mem]; exact Iff.rfl
end Go.Proofs.YtadlabndbomgmaaDoor
