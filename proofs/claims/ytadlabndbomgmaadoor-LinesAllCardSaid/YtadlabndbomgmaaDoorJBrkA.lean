/- Walks: is a part solid, is it told; is there such a part in a group. -/
import Derived.BigQuiet
import Derived.Handy
import Derived.IntWalk
import Derived.RegionTactic
import Derived.Deep.MidRow
import Derived.Test.YtadlabndbomgmaaDoorJPartB
import Derived.Test.YtadlabndbomgmaaDoorJ1
set_option linter.unusedVariables false
set_option linter.unusedSimpArgs false
namespace Go.Proofs.YtadlabndbomgmaaDoor
open Go.ChangeShapes Go.WideShapes Go.ChangeAt Go.RowKit
theorem solid_any (xs : List It) (g : Nat) (p : Pt) (w : World) (hI : ItsAt w g xs) (hi : p.i < xs.length) :
    Calls Tryd.prog 68 #[.agg #[.pointer (some ⟨g, p.i * 11, none⟩), .int .i64 p.i, .string p.t, .int .i64 p.w, .bool p.last]] w fun e w' => e = .returned (.bool (solidF xs p)) ∧ Below w.heap.size w w' := by
  have hg := hI.lt (by omega)
  have HK := hide (show solidF xs p = ((itAt xs p.i).kind == 1 || (itAt xs p.i).kind == 4) from rfl)
  have hI2 := hI.alloc (.cells #[.pointer (some ⟨g, p.i * 11, none⟩), .int .i64 p.i, .string p.t, .int .i64 p.w, .bool p.last] 96) hg
  have c0 := hI2.c0 hi
  generalize (itAt xs p.i).kind = kd at *
  clear hI hI2
  cases hk : (kd == 1) <;> cases hm : (kd == 4)
  all_goals
    have hr := hide (HK.out.trans (by rw [hk, hm]))
    clear HK
    go_enter Tryd.func68, Tryd.ntmps68
    go_wp2_with fail
    go_ret
    exact ⟨ret_bool (by rw [hr.out]; first | rfl | simp), by go_grown⟩
theorem told_any (xs : List It) (g : Nat) (p : Pt) (w : World) (hI : ItsAt w g xs) (hi : p.i < xs.length) :
    Calls Tryd.prog 50 #[.agg #[.pointer (some ⟨g, p.i * 11, none⟩), .int .i64 p.i, .string p.t, .int .i64 p.w, .bool p.last]] w fun e w' => e = .returned (.bool (toldF xs p)) ∧ Below w.heap.size w w' := by
  have hg := hI.lt (by omega)
  have HK := hide (show toldF xs p = if (itAt xs p.i).kind == 1 || (itAt xs p.i).kind == 4 || (itAt xs p.i).kind == 6 then true else if (itAt xs p.i).kind == 2 || (itAt xs p.i).kind == 3 then p.w != 0 else false from rfl)
  have hI2 := hI.alloc (.cells #[.pointer (some ⟨g, p.i * 11, none⟩), .int .i64 p.i, .string p.t, .int .i64 p.w, .bool p.last] 96) hg
  have c0 := hI2.c0 hi
  generalize (itAt xs p.i).kind = kd at *
  clear hI hI2
  cases h1 : (kd == 1)
  · cases h4 : (kd == 4)
    · cases h6 : (kd == 6)
      · cases h2 : (kd == 2)
        · cases h3 : (kd == 3)
          all_goals
            have hr := hide (HK.out.trans (by rw [h1, h4, h6, h2, h3]))
            clear HK
            go_enter Tryd.func50, Tryd.ntmps50
            go_wp2_with fail
            go_ret
            exact ⟨ret_bool (by rw [hr.out]; first | rfl | simp), by go_grown⟩
        · have hr := hide (HK.out.trans (by rw [h1, h4, h6, h2]))
          clear HK
          go_enter Tryd.func50, Tryd.ntmps50
          go_wp2_with fail
          go_ret
          exact ⟨ret_bool (by rw [hr.out]; first | rfl | simp), by go_grown⟩
      · have hr := hide (HK.out.trans (by rw [h1, h4, h6]))
        clear HK
        go_enter Tryd.func50, Tryd.ntmps50
        go_wp2_with fail
        go_ret
        exact ⟨ret_bool (by rw [hr.out]; rfl), by go_grown⟩
    · have hr := hide (HK.out.trans (by rw [h1, h4]))
      clear HK
      go_enter Tryd.func50, Tryd.ntmps50
      go_wp2_with fail
      go_ret
      exact ⟨ret_bool (by rw [hr.out]; rfl), by go_grown⟩
  · have hr := hide (HK.out.trans (by rw [h1]))
    clear HK
    go_enter Tryd.func50, Tryd.ntmps50
    go_wp2_with fail
    go_ret
    exact ⟨ret_bool (by rw [hr.out]; rfl), by go_grown⟩
/-- Parts as a slice reads them, from wherever it begins. -/
def PtsR (w : World) (g : Nat) (A : Option Addr) (ps : List Pt) : Prop := 0 < ps.length → ∃ h off, A = some ⟨h, off, none⟩ ∧ h < w.heap.size ∧ PtsAt w g h off ps
theorem PtsR.below {w w' : World} {g : Nat} {A : Option Addr} {ps : List Pt} (h : PtsR w g A ps) (hb : Below w.heap.size w w') : PtsR w' g A ps := fun hl => by
  obtain ⟨q, off, h1, h2, h3⟩ := h hl
  exact ⟨q, off, h1, Nat.lt_of_lt_of_le h2 hb.size, h3.below hb h2⟩
theorem PtsR.own {w : World} {base g : Nat} {t : TypeId} {A : Option Addr} {n c : Nat} {ps : List Pt} (h : w.ownsRow base t 5 (.slice A n c) n (ptCells g ps)) (hl : ps.length = n) : PtsR w g A ps := fun h0 => by
  obtain ⟨q, h1, _, h2, h3⟩ := pts_of_own h hl (by omega)
  exact ⟨q, 0, h1, h2, h3⟩
def ItsR (w : World) (g : Nat) (xs : List It) : Prop := ItsAt w g xs ∧ (0 < xs.length → g < w.heap.size)
theorem ItsR.below {w w' : World} {g : Nat} {xs : List It} (h : ItsR w g xs) (hb : Below w.heap.size w w') : ItsR w' g xs :=
  ⟨fun k hk => h.1.below hb (h.2 (by omega)) k hk, fun hl => Nat.lt_of_lt_of_le (h.2 hl) hb.size⟩
def PsOk (xs : List It) (ps : List Pt) : Prop := ∀ p ∈ ps, p.i < xs.length ∧ PtOk xs p
set_option maxRecDepth 100000 in
set_option maxHeartbeats 2000000 in
theorem index_solid (xs : List It) (g : Nat) (ps : List Pt) (A : Option Addr) (c : Nat) (w : World) (hI : ItsR w g xs) (hp : PtsR w g A ps) (hl : ps.length ≤ 100000) (hok : PsOk xs ps) :
    Calls Tryd.prog 73 #[.slice A ps.length c, .func (.func 68) #[] #[]] w fun e w' => ∃ k : Int, e = .returned (.int .i64 k) ∧ decide (0 ≤ k) = ps.any (solidF xs) ∧ -1 ≤ k ∧ k ≤ 100000 ∧ Below w.heap.size w w' := by
  have HI := hide hI
  have HP := hide hp
  have HO := hide hok
  clear hI hp hok
  go_enter Tryd.func73, Tryd.ntmps73
  go_wp2_with fail
  go_loopw [8] (fun i wr => ∃ k : Nat, k ≤ ps.length ∧ i = .int .i64 k ∧ Hid ((ps.take k).any (solidF xs) = false) ∧ Below w.heap.size w wr) (fun i _ => ps.length - (intOf i).toNat)
  case atStart => exact ⟨0, Nat.zero_le _, rfl, hide rfl, Below.refl _ _⟩
  case round =>
    obtain ⟨k, hk, rfl, hn, hbel⟩ := hrel
    by_cases hlt : k < ps.length
    · obtain ⟨h, off, rfl, hh, hps0⟩ := HP.out (by omega)
      have hps := hps0.below hbel hh
      have d0 : wr.cell? ⟨h, off + k * 5, none⟩ = some (.pointer (some ⟨g, (ptAt ps k).i * 11, none⟩)) := hps k hlt 0 (by omega)
      have d1 : wr.cell? ⟨h, off + k * 5 + 1, none⟩ = some (.int .i64 (ptAt ps k).i) := hps k hlt 1 (by omega)
      have d2 : wr.cell? ⟨h, off + k * 5 + 2, none⟩ = some (.string (ptAt ps k).t) := hps k hlt 2 (by omega)
      have d3 : wr.cell? ⟨h, off + k * 5 + 3, none⟩ = some (.int .i64 (ptAt ps k).w) := hps k hlt 3 (by omega)
      have d4 : wr.cell? ⟨h, off + k * 5 + 4, none⟩ = some (.bool (ptAt ps k).last) := hps k hlt 4 (by omega)
      have hpo := HO.out _ (List.getElem_mem hlt)
      rw [← ptAt_of ps k hlt] at hpo
      have HS := hide (solid_any xs g (ptAt ps k) wr (HI.out.below hbel).1 hpo.1)
      have HN := hide (show (ps.take (k + 1)).any (solidF xs) = ((ps.take k).any (solidF xs) || solidF xs (ptAt ps k)) from by rw [List.take_succ_eq_append_getElem hlt, List.any_append, ptAt_of ps k hlt]; simp)
      have HA := hide (show solidF xs (ptAt ps k) = true → ps.any (solidF xs) = true from fun h => List.any_eq_true.2 ⟨_, List.getElem_mem hlt, by rw [← ptAt_of ps k hlt]; exact h⟩)
      clear hps hps0 hpo
      generalize ptAt ps k = p at *
      cases hs : solidF xs p
      · rw [hs] at HS
        have HN2 := hide (show (ps.take (k + 1)).any (solidF xs) = false from by rw [HN.out, hn.out, hs]; rfl)
        clear HN HA hs
        go_wp2_with (go_at_call 68; refine HS.out.mono ?_; rintro e w5 ⟨rfl, hb5⟩)
        go_roundw
        case rel => exact ⟨k + 1, by omega, by go_num, HN2, below_on hbel hb5⟩
        case measure => simp only [intOf]; omega
      · rw [hs] at HS
        have HA2 := hide (HA.out hs)
        clear HN HA hs
        go_wp2_with (go_at_call 68; refine HS.out.mono ?_; rintro e w5 ⟨rfl, hb5⟩)
        go_ret
        exact ⟨(k : Int), rfl, by rw [HA2.out, decide_eq_true (by omega)], by omega, by omega, below_on hbel hb5⟩
    · obtain rfl : k = ps.length := by omega
      have HN2 := hide (show ps.any (solidF xs) = false from by have := hn.out; rwa [List.take_length] at this)
      go_wp2_with fail
      go_ret
      exact ⟨-1, rfl, by rw [HN2.out]; rfl, by omega, by omega, hbel⟩
theorem contains_solid (xs : List It) (g : Nat) (ps : List Pt) (A : Option Addr) (c : Nat) (w : World) (hI : ItsR w g xs) (hp : PtsR w g A ps) (hl : ps.length ≤ 100000) (hok : PsOk xs ps) :
    Calls Tryd.prog 49 #[.slice A ps.length c, .func (.func 68) #[] #[]] w fun e w' => e = .returned (.bool (ps.any (solidF xs))) ∧ Below w.heap.size w w' := by
  have H := hide (index_solid xs g ps A c w hI hp hl hok)
  clear hI hp hok
  generalize ps.any (solidF xs) = b at *
  go_enter Tryd.func49, Tryd.ntmps49
  go_wp2_with fail
  refine H.out.mono ?_
  rintro e w1 ⟨k, rfl, hk, h1, h2, hb1⟩
  have HK := hide hk
  clear hk
  go_wp2_with fail
  go_ret
  exact ⟨ret_bool (by rw [← HK.out]), hb1⟩
set_option maxRecDepth 100000 in
set_option maxHeartbeats 2000000 in
theorem index_told (xs : List It) (g : Nat) (ps : List Pt) (A : Option Addr) (c : Nat) (w : World) (hI : ItsR w g xs) (hp : PtsR w g A ps) (hl : ps.length ≤ 100000) (hok : PsOk xs ps) :
    Calls Tryd.prog 73 #[.slice A ps.length c, .func (.func 50) #[] #[]] w fun e w' => ∃ k : Int, e = .returned (.int .i64 k) ∧ decide (0 ≤ k) = ps.any (toldF xs) ∧ -1 ≤ k ∧ k ≤ 100000 ∧ Below w.heap.size w w' := by
  have HI := hide hI
  have HP := hide hp
  have HO := hide hok
  clear hI hp hok
  go_enter Tryd.func73, Tryd.ntmps73
  go_wp2_with fail
  go_loopw [8] (fun i wr => ∃ k : Nat, k ≤ ps.length ∧ i = .int .i64 k ∧ Hid ((ps.take k).any (toldF xs) = false) ∧ Below w.heap.size w wr) (fun i _ => ps.length - (intOf i).toNat)
  case atStart => exact ⟨0, Nat.zero_le _, rfl, hide rfl, Below.refl _ _⟩
  case round =>
    obtain ⟨k, hk, rfl, hn, hbel⟩ := hrel
    by_cases hlt : k < ps.length
    · obtain ⟨h, off, rfl, hh, hps0⟩ := HP.out (by omega)
      have hps := hps0.below hbel hh
      have d0 : wr.cell? ⟨h, off + k * 5, none⟩ = some (.pointer (some ⟨g, (ptAt ps k).i * 11, none⟩)) := hps k hlt 0 (by omega)
      have d1 : wr.cell? ⟨h, off + k * 5 + 1, none⟩ = some (.int .i64 (ptAt ps k).i) := hps k hlt 1 (by omega)
      have d2 : wr.cell? ⟨h, off + k * 5 + 2, none⟩ = some (.string (ptAt ps k).t) := hps k hlt 2 (by omega)
      have d3 : wr.cell? ⟨h, off + k * 5 + 3, none⟩ = some (.int .i64 (ptAt ps k).w) := hps k hlt 3 (by omega)
      have d4 : wr.cell? ⟨h, off + k * 5 + 4, none⟩ = some (.bool (ptAt ps k).last) := hps k hlt 4 (by omega)
      have hpo := HO.out _ (List.getElem_mem hlt)
      rw [← ptAt_of ps k hlt] at hpo
      have HS := hide (told_any xs g (ptAt ps k) wr (HI.out.below hbel).1 hpo.1)
      have HN := hide (show (ps.take (k + 1)).any (toldF xs) = ((ps.take k).any (toldF xs) || toldF xs (ptAt ps k)) from by rw [List.take_succ_eq_append_getElem hlt, List.any_append, ptAt_of ps k hlt]; simp)
      have HA := hide (show toldF xs (ptAt ps k) = true → ps.any (toldF xs) = true from fun h => List.any_eq_true.2 ⟨_, List.getElem_mem hlt, by rw [← ptAt_of ps k hlt]; exact h⟩)
      clear hps hps0 hpo
      generalize ptAt ps k = p at *
      cases hs : toldF xs p
      · rw [hs] at HS
        have HN2 := hide (show (ps.take (k + 1)).any (toldF xs) = false from by rw [HN.out, hn.out, hs]; rfl)
        clear HN HA hs
        go_wp2_with (go_at_call 50; refine HS.out.mono ?_; rintro e w5 ⟨rfl, hb5⟩)
        go_roundw
        case rel => exact ⟨k + 1, by omega, by go_num, HN2, below_on hbel hb5⟩
        case measure => simp only [intOf]; omega
      · rw [hs] at HS
        have HA2 := hide (HA.out hs)
        clear HN HA hs
        go_wp2_with (go_at_call 50; refine HS.out.mono ?_; rintro e w5 ⟨rfl, hb5⟩)
        go_ret
        exact ⟨(k : Int), rfl, by rw [HA2.out, decide_eq_true (by omega)], by omega, by omega, below_on hbel hb5⟩
    · obtain rfl : k = ps.length := by omega
      have HN2 := hide (show ps.any (toldF xs) = false from by have := hn.out; rwa [List.take_length] at this)
      go_wp2_with fail
      go_ret
      exact ⟨-1, rfl, by rw [HN2.out]; rfl, by omega, by omega, hbel⟩
theorem contains_told (xs : List It) (g : Nat) (ps : List Pt) (A : Option Addr) (c : Nat) (w : World) (hI : ItsR w g xs) (hp : PtsR w g A ps) (hl : ps.length ≤ 100000) (hok : PsOk xs ps) :
    Calls Tryd.prog 49 #[.slice A ps.length c, .func (.func 50) #[] #[]] w fun e w' => e = .returned (.bool (ps.any (toldF xs))) ∧ Below w.heap.size w w' := by
  have H := hide (index_told xs g ps A c w hI hp hl hok)
  clear hI hp hok
  generalize ps.any (toldF xs) = b at *
  go_enter Tryd.func49, Tryd.ntmps49
  go_wp2_with fail
  refine H.out.mono ?_
  rintro e w1 ⟨k, rfl, hk, h1, h2, hb1⟩
  have HK := hide hk
  clear hk
  go_wp2_with fail
  go_ret
  exact ⟨ret_bool (by rw [← HK.out]), hb1⟩
theorem full_any (xs : List It) (g : Nat) (ps : List Pt) (A : Option Addr) (c : Nat) (w : World) (hI : ItsR w g xs) (hp : PtsR w g A ps) (hl : ps.length ≤ 100000) (hok : PsOk xs ps) :
    Calls Tryd.prog 47 #[.slice A ps.length c] w fun e w' => e = .returned (.bool (ps.any (solidF xs))) ∧ Below w.heap.size w w' := by
  have H := hide (contains_solid xs g ps A c w hI hp hl hok)
  clear hI hp hok
  generalize ps.any (solidF xs) = b at *
  go_enter Tryd.func47, Tryd.ntmps47
  go_wp2_with fail
  refine H.out.mono ?_
  rintro e w1 ⟨rfl, hb1⟩
  go_wp2_with fail
  go_ret
  exact ⟨rfl, hb1⟩
end Go.Proofs.YtadlabndbomgmaaDoor
