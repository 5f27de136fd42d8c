/- Walks of the package breaks: may, All. -/
import Derived.BigQuiet
import Derived.Handy
import Derived.Lib.OthersKept
import Derived.Test.YtadlabndbomgmaaDoorJ1
import Derived.Test.YtadlabndbomgmaaDoorJ2
set_option linter.unusedVariables false
set_option linter.unusedSimpArgs false
namespace Go.Proofs.YtadlabndbomgmaaDoor
open Go.ChangeShapes Go.WideShapes Go.ChangeAt Go.RowKit
theorem isLetter_any (r : Int) (w : World) : Calls Tryd.prog 110 #[.int .i32 r] w fun e w' => e = .returned (.bool (isLetterF r)) ∧ w = w' := by
  have hk := Lib.hid (show isLetterF r = ((decide (97 ≤ r) && decide (r ≤ 122)) || (decide (65 ≤ r) && decide (r ≤ 90))) from rfl)
  cases h1 : decide (97 ≤ r) <;> cases h2 : decide (r ≤ 122) <;> cases h3 : decide (65 ≤ r)
  all_goals
    have hr := hide (hk.out.trans (by rw [h1, h2, h3]))
    clear hk
    go_enter Tryd.func110, Tryd.ntmps110
    go_wp2
    go_ret
    exact ⟨ret_bool (by rw [hr.out]; first | rfl | simp), rfl⟩
theorem other_any (r : Int) (w : World) : Calls Tryd.prog 115 #[.int .i32 r] w fun e w' => e = .returned (.bool (otherF r)) ∧ w = w' := by
  have hk := Lib.hid (show otherF r = ((r != 32 && r != 45) && r != 10) from rfl)
  cases h1 : (r != 32) <;> cases h2 : (r != 45)
  all_goals
    have hr := hide (hk.out.trans (by rw [h1, h2]))
    clear hk
    go_enter Tryd.func115, Tryd.ntmps115
    go_wp2
    go_ret
    exact ⟨ret_bool (by rw [hr.out]; first | rfl | simp), rfl⟩
set_option maxHeartbeats 2000000 in
theorem wide2_any (a b : Int) (w : World) : Calls Tryd.prog 111 #[.int .i32 a, .int .i32 b] w fun e w' => e = .returned (.bool (wideF a b)) ∧ w = w' := by
  have hk := Lib.hid (show wideF a b = ((decide (4352 ≤ a) && otherF b) || (decide (4352 ≤ b) && otherF a)) from rfl)
  cases h1 : decide (4352 ≤ a) <;> cases h2 : decide (4352 ≤ b) <;> cases h3 : otherF a <;> cases h4 : otherF b
  all_goals
    have hr := hide (hk.out.trans (by rw [h1, h2, h3, h4]))
    clear hk
    go_enter Tryd.func111, Tryd.ntmps111
    go_wp2_with (go_at_call 115; refine (other_any _ _).mono ?_; rintro e w' ⟨rfl, rfl⟩; first | rw [h3] | rw [h4])
    go_ret
    exact ⟨ret_bool (by rw [hr.out]; first | rfl | simp), rfl⟩
theorem may_any (a b : Int) (w : World) : Calls Tryd.prog 93 #[.int .i32 a, .int .i32 b] w fun e w' => e = .returned (.bool (mayF a b)) ∧ w = w' := by
  have hk := Lib.hid (show mayF a b = if a = 32 then b != 32 else if a = 45 then isLetterF b else wideF a b from rfl)
  cases h1 : (a == 32)
  · cases h2 : (a == 45)
    · have hr := hide (show mayF a b = wideF a b from by rw [hk.out, if_neg (by simpa using h1), if_neg (by simpa using h2)])
      clear hk
      go_enter Tryd.func93, Tryd.ntmps93
      go_wp2_with (go_at_call 111; refine (wide2_any _ _ _).mono ?_; rintro e w' ⟨rfl, rfl⟩)
      go_ret
      exact ⟨ret_bool (by rw [hr.out]), rfl⟩
    · have hr := hide (show mayF a b = isLetterF b from by rw [hk.out, if_neg (by simpa using h1), if_pos (by simpa using h2)])
      clear hk
      go_enter Tryd.func93, Tryd.ntmps93
      go_wp2_with (go_at_call 110; refine (isLetter_any _ _).mono ?_; rintro e w' ⟨rfl, rfl⟩)
      go_ret
      exact ⟨ret_bool (by rw [hr.out]), rfl⟩
  · have hr := hide (show mayF a b = (b != 32) from by rw [hk.out, if_pos (by simpa using h1)])
    clear hk
    go_enter Tryd.func93, Tryd.ntmps93
    go_wp2
    go_ret
    exact ⟨ret_bool (by rw [hr.out]), rfl⟩
/-- The cells of a list of breaks. -/
def brkCells (l : List (Nat × Bool)) : List Value := l.flatMap fun p => [.int .i64 p.1, .bool p.2]
theorem brkCells_snoc (l : List (Nat × Bool)) (p : Nat × Bool) : brkCells (l ++ [p]) = brkCells l ++ [.int .i64 p.1, .bool p.2] := by simp [brkCells]
theorem brkCells_length (l : List (Nat × Bool)) : (brkCells l).length = l.length * 2 := by induction l with
  | nil => rfl
  | cons p l ih => have : brkCells (p :: l) = [.int .i64 p.1, .bool p.2] ++ brkCells l := rfl
                   rw [this, List.length_append, ih]; simp; omega
theorem brkCells_at : ∀ (l : List (Nat × Bool)) (k : Nat) (h : k < l.length), (brkCells l)[k * 2]? = some (.int .i64 l[k].1) ∧ (brkCells l)[k * 2 + 1]? = some (.bool l[k].2)
  | p :: l, 0, _ => ⟨rfl, rfl⟩
  | p :: l, k + 1, h => by
    have ih := brkCells_at l k (by simpa using h)
    have e : brkCells (p :: l) = [.int .i64 p.1, .bool p.2] ++ brkCells l := rfl
    rw [e, List.getElem?_append_right (by simp; omega), List.getElem?_append_right (by simp; omega)]
    have e1 : (k + 1) * 2 - [Value.int .i64 p.1, .bool p.2].length = k * 2 := by simp; omega
    have e2 : (k + 1) * 2 + 1 - [Value.int .i64 p.1, .bool p.2].length = k * 2 + 1 := by simp; omega
    rw [e1, e2]
    exact ih
theorem lbreak_info : (Tryd.prog.info? 127).map (fun i => (i.zero, i.size, i.bytes)) = some (some (.agg #[.int .i64 0, .bool false]), 2, 16) := by kernel_rfl
theorem grown_iterAt {w : World} {k : Nat} {s : ByteArray} {p : Nat} : w.grownBy (w.iterAt k s p) (some k) :=
  ⟨rfl, rfl, rfl, by rw [Lib.iterAt_size]; exact Nat.le_refl _, fun i _ hne => Lib.iterAt_other w k i s p (fun e => hne (by rw [e]))⟩
theorem brk_len (s : ByteArray) (wr ke : Bool) : ∀ (f pos : Nat) (last : Int), pos ≤ s.size → (brk s wr ke f pos last).length ≤ s.size - pos + 1
  | 0, _, _, _ => by simp [brk]
  | f + 1, pos, last, hp => by
    by_cases h : pos < s.size
    · rw [brk_step s wr ke f pos last h]
      obtain ⟨h1, h2, _⟩ := dec_facts s pos h
      have ih := brk_len s wr ke f (pos + (Utf8.decode s pos).2) (Utf8.decode s pos).1 h2
      have hs : (brkStep wr ke pos last (Utf8.decode s pos).1).length ≤ 1 := by unfold brkStep; split <;> simp
      rw [List.length_append]; omega
    · rw [brk_end s wr ke f pos last h]
      unfold brkEnd; split <;> simp
theorem news2_one (a : Int) (b : Bool) : ∀ u ∈ ([.int .i64 a, .bool b] : List Value), u.oneCell' = true := by
  intro u hu; simp at hu; rcases hu with rfl | rfl <;> rfl
set_option maxRecDepth 100000 in
set_option maxHeartbeats 4000000 in
theorem All_any (s : ByteArray) (mode : Int) (w : World) (hs : s.size ≤ 400) :
    Calls Tryd.prog 66 #[.string s, .int .i64 mode] w fun e w' => ∃ v, e = .returned v ∧ w'.ownsRow w.heap.size 127 2 v (brkAll s (modeW mode) (modeK mode)).length (brkCells (brkAll s (modeW mode) (modeK mode))) ∧ Below w.heap.size w w' := by
  obtain ⟨i0, hi0, hz0, hz1, hz2⟩ := info_parts lbreak_info
  have HI := hide (⟨hi0, hz0, hz1, hz2⟩ : Tryd.prog.info? 127 = some i0 ∧ i0.zero = some (.agg #[.int .i64 0, .bool false]) ∧ i0.size = 2 ∧ i0.bytes = 16)
  clear hi0 hz0 hz1 hz2
  have hw := Lib.hid (show modeW mode = (mode == 0 || mode == 3) from rfl)
  have hk := Lib.hid (show modeK mode = (mode == 1 || mode == 3) from rfl)
  obtain ⟨wr0, hwr⟩ : ∃ b, b = modeW mode := ⟨_, rfl⟩
  obtain ⟨ke0, hke⟩ : ∃ b, b = modeK mode := ⟨_, rfl⟩
  rw [← hwr, ← hke]
  rw [hw.out] at hwr
  rw [hk.out] at hke
  clear hw hk
  have hcs : ((mode == 0) = true ∧ (mode == 1) = false ∧ (mode == 3) = false) ∨ ((mode == 0) = false ∧ (mode == 1) = true ∧ (mode == 3) = false) ∨ ((mode == 0) = false ∧ (mode == 1) = false ∧ (mode == 3) = true) ∨ ((mode == 0) = false ∧ (mode == 1) = false ∧ (mode == 3) = false) := by
    simp only [beq_iff_eq, beq_eq_false_iff_ne, ne_eq]; omega
  have hlen := brk_len s wr0 ke0 (s.size + 1) 0 0 (Nat.zero_le _)
  have hlen2 : (brkAll s wr0 ke0).length ≤ 401 := by unfold brkAll; omega
  clear hlen
  rcases hcs with ⟨h0, h1, h3⟩ | ⟨h0, h1, h3⟩ | ⟨h0, h1, h3⟩ | ⟨h0, h1, h3⟩
  all_goals
    rw [h0, h3] at hwr
    rw [h1, h3] at hke
    have HWR := hide hwr
    have HKE := hide hke
    clear hwr hke
    go_enter Tryd.func66, Tryd.ntmps66
    go_wp2_with fail
    go_loopw [7, 8] (fun v l W => ∃ (pos f : Nat) (last : Int) (acc : List (Nat × Bool)), l = .int .i32 last ∧ W.ownsRow (w.heap.size + 1) 127 2 v acc.length (brkCells acc) ∧ W.heap[w.heap.size]? = some (.stringIter s pos) ∧ Below w.heap.size w W ∧ acc ++ brk s wr0 ke0 f pos last = brkAll s wr0 ke0 ∧ s.size < pos + f ∧ pos ≤ s.size ∧ (pos = 0 → last = 0)) (fun _ _ W => s.size - W.iterPos w.heap.size)
    case atStart => exact ⟨0, s.size + 1, 0, [], rfl, own_none _ _ _ _, World.iter_heap w s 0, (Below.refl _ w).alloc (Nat.le_refl _) _, rfl, by omega, Nat.zero_le _, fun _ => rfl⟩
    case round =>
      obtain ⟨pos, f, last, acc, rfl, hown, hit, hbw, hacc, hfu, hps, hl0⟩ := hrel
      have hsz : w.heap.size < wr.heap.size := (Array.getElem?_eq_some_iff.1 hit).1
      obtain ⟨f, rfl⟩ : ∃ g, f = g + 1 := ⟨f - 1, by omega⟩
      by_cases hp : pos < s.size
      · have hnx : ∀ ty, (Instr.next (.pointer (some ⟨w.heap.size, 0, none⟩)) true ty).run Tryd.prog wr = _ := fun ty => Lib.run_next_any_at wr w.heap.size s pos ty hit hp
        obtain ⟨d1, d2, _⟩ := dec_facts s pos hp
        rw [brk_step s wr0 ke0 f pos last hp] at hacc
        have hit2 := Lib.iterAt_heap wr w.heap.size s pos (pos + (Utf8.decode s pos).2) hit
        have hbw2 := Lib.below_iterAt hbw (Nat.le_refl _) s (pos + (Utf8.decode s pos).2)
        have hown2 := hown.kept (grown_iterAt (w := wr) (k := w.heap.size) (s := s) (p := pos + (Utf8.decode s pos).2)) (by
          cases hv : u7.ownBlock with
          | none => exact .inl rfl
          | some k => right; intro e; have := own_ge hown k hv; injection e with e; omega)
        have hsz2 : (wr.iterAt w.heap.size s (pos + (Utf8.decode s pos).2)).heap.size = wr.heap.size := Lib.iterAt_size _ _ _ _
        have hpos2 : wr.iterPos w.heap.size = pos := by simp [World.iterPos, hit]
        have HP2 := hide hpos2
        have HA := hide hacc
        have HI2 := hide hit2
        have HO2 := hide hown2
        clear hown hit hacc hown2 hit2 hpos2
        generalize wr.iterAt w.heap.size s (pos + (Utf8.decode s pos).2) = W1 at *
        have hszw : w.heap.size < W1.heap.size := by omega
        clear hsz2
        generalize Utf8.decode s pos = d at *
        obtain ⟨dr, dw⟩ := d
        dsimp only at *
        have hal : acc.length ≤ 401 := by have := congrArg List.length HA.out; simp only [List.length_append] at this; omega
        by_cases hp0 : pos = 0
        · have HS := hide (show brkStep wr0 ke0 pos last dr = [] from by unfold brkStep; rw [hp0]; rfl)
          have hp1 : ¬ 0 < pos := by omega
          have HP0 := hide hp0
          clear hp0
          go_wp2_with fail
          go_roundw
          case rel => exact ⟨pos + dw, f, _, acc, rfl, HO2.out, HI2.out, hbw2, by rw [← HA.out, HS.out]; rfl, by omega, by omega, fun h => by omega⟩
          case measure =>
            rw [HP2.out]
            simp only [World.iterPos, HI2.out]
            omega
        · have hp1 : 0 < pos := by omega
          have hpd : decide (0 < pos) = true := decide_eq_true hp1
          cases hl : (last == 10) <;> cases hm : mayF last dr
          all_goals
            have HS := hide (show brkStep wr0 ke0 pos last dr = (if (ke0 && last == 10) || (wr0 && mayF last dr) then [(pos, ke0 && last == 10)] else []) from by unfold brkStep; rw [hpd]; rfl)
            rw [hl, hm] at HS
            clear hpd
            go_wp2_with (first
              | (go_at_call 93; refine (may_any _ _ _).mono ?_; rintro e w' ⟨rfl, rfl⟩; rw [hm])
              | (at_builtin; (refine wpList_app rfl (.tmp 46) (.tmp 50) _ rfl (w.heap.size + 1) 127 i0 _ 2 16 Tryd.underlying124 HI.out.1 HI.out.2.1 HI.out.2.2.1 HI.out.2.2.2 rfl (by omega) _ _ _ rfl (HO2.out.alloc _) (W1.heap.size + 1) _ 1 1 _ rfl (Reads.lit W1 _ _ 2 1 rfl) (by intro u hu; simp at hu; rcases hu with rfl | rfl <;> rfl) (by simp only [maxLen]; omega) (by omega) W1 ((Below.refl _ _).alloc (by omega) _) (by omega) ?_); intro v2 w2 hown3 hb3; have hit3 := hide ((hb3.block w.heap.size (by omega)).trans HI2.out); have hbw3 := hbw2.trans (hb3.mono (Nat.le_succ _))) | fail)
            go_roundw
            case rel => first
              | exact ⟨pos + dw, f, _, acc ++ [(pos, true)], rfl, by rw [brkCells_snoc, List.length_append]; exact hown3, hit3.out, hbw3, by rw [← HA.out, HS.out, HWR.out, HKE.out, List.append_assoc]; rfl, by omega, by omega, fun h => by omega⟩
              | exact ⟨pos + dw, f, _, acc ++ [(pos, false)], rfl, by rw [brkCells_snoc, List.length_append]; exact hown3, hit3.out, hbw3, by rw [← HA.out, HS.out, HWR.out, HKE.out, List.append_assoc]; rfl, by omega, by omega, fun h => by omega⟩
              | exact ⟨pos + dw, f, _, acc, rfl, HO2.out, HI2.out, hbw2, by rw [← HA.out, HS.out, HWR.out, HKE.out]; rfl, by omega, by omega, fun h => by omega⟩
            case measure =>
              rw [HP2.out]
              first
              | (simp only [World.iterPos, hit3.out]; omega)
              | (simp only [World.iterPos, HI2.out]; omega)
      · have hnx : ∀ ty, (Instr.next (.pointer (some ⟨w.heap.size, 0, none⟩)) true ty).run Tryd.prog wr = _ := fun ty => Lib.run_next_end_at wr w.heap.size s pos ty hit hp
        rw [brk_end s wr0 ke0 f pos last hp] at hacc
        have HA := hide hacc
        have HO2 := hide hown
        have hszr := hbw.size
        clear hown hacc hit
        have hal : acc.length ≤ 401 := by have := congrArg List.length HA.out; simp only [List.length_append] at this; omega
        cases hl : (last == 10)
        all_goals
          have HS := hide (show brkEnd ke0 s.size last = (if ke0 && last == 10 then [(s.size, true)] else []) from rfl)
          rw [hl] at HS
          go_wp2_with (first
            | (at_builtin; refine wpList_app rfl (.tmp 58) (.tmp 62) _ rfl (w.heap.size + 1) 127 i0 _ 2 16 Tryd.underlying124 HI.out.1 HI.out.2.1 HI.out.2.2.1 HI.out.2.2.2 rfl (by omega) _ _ _ rfl (HO2.out.alloc _) (wr.heap.size + 1) _ 1 1 _ rfl (Reads.lit wr _ _ 2 1 rfl) (by intro u hu; simp at hu; rcases hu with rfl | rfl <;> rfl) (by simp only [maxLen]; omega) (by omega) wr ((Below.refl _ _).alloc (by omega) _) (by omega) ?_; intro v2 w2 hown3 hb3; have hbw3 := hbw.trans (hb3.mono (Nat.le_succ _))) | fail)
          go_ret
          first
          | exact ⟨_, rfl, by rw [show brkAll s wr0 ke0 = acc ++ [(s.size, true)] from by rw [← HA.out, HS.out, HKE.out]; rfl, List.length_append, brkCells_snoc]; exact own_mono hown3 (Nat.le_succ _), hbw3⟩
          | exact ⟨_, rfl, by rw [show brkAll s wr0 ke0 = acc from by rw [← HA.out, HS.out, HKE.out]; simp]; exact own_mono HO2.out (Nat.le_succ _), hbw⟩
end Go.Proofs.YtadlabndbomgmaaDoor
