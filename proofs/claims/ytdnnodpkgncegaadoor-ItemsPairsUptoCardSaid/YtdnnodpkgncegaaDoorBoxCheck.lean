/- The walk of boxes.Check. -/
import Derived.BigQuiet
import Derived.Handy
import Derived.IntWalk
import Derived.RegionTactic
import Derived.Deep.MidRow
import Derived.Deep.CutBlock
import Derived.Test.YtdnnodpkgncegaaDoorBoxMem
import Derived.Test.YtdnnodpkgncegaaDoorChecked
namespace Go.Proofs.YtdnnodpkgncegaaDoor
open Go.ChangeShapes Go.WideShapes Go.ChangeAt Go.RowKit
theorem wsum_i64 (l : List Bo) (k : Nat) : -9223372036854775808 ≤ wsum l k ∧ wsum l k ≤ 9223372036854775807 := by
  cases k with
  | zero => exact (show (-9223372036854775808 : Int) ≤ 0 ∧ (0 : Int) ≤ 9223372036854775807 by decide)
  | succ k =>
    simp only [wsum, IntKind.wrap, IntKind.bits, IntKind.signed]
    simp
    omega
def ChkPost (l : List Bo) (e : Ending) : Prop := ∃ r, e = .returned (.int .i64 r) ∧ (r = 0 ∨ r = 3) ∧ (r = 0 → ∀ i, i < l.length → BoxGood l i) ∧ (ChkOk l → r = 0)
theorem wrap_eq64 (x : Int) : IntKind.i64.wrap x = wrap64 x := by rw [IntKind.wrap_i64]; unfold wrap64; rfl
theorem chk_bad {l : List Bo} (h : ¬ ChkOk l) : ChkPost l (.returned (.int .i64 3)) := ⟨3, rfl, .inr rfl, fun h => absurd h (by decide), fun h2 => absurd h2 h⟩
theorem chk_good {l : List Bo} (h : ∀ i, i < l.length → BoxGood l i) : ChkPost l (.returned (.int .i64 0)) := ⟨0, rfl, .inl rfl, fun _ => h, fun _ => rfl⟩
set_option maxRecDepth 100000 in
set_option maxHeartbeats 40000000 in
theorem Check_any (l : List Bo) (A : Option Addr) (c : Nat) (w : World) (hI : BoxIn w w.heap.size A l) (hlen : l.length ≤ maxLen) :
    Calls Tryd.prog 6 #[.slice A l.length c] w fun e w' => ChkPost l e ∧ Below w.heap.size w w' := by
  unfold maxLen at hlen
  have HI := hide hI
  clear hI
  go_enter Tryd.func6, Tryd.ntmps6
  have Bi := Below.refl w.heap.size w
  go_wp2_with fail
  go_loopw [3, 11] (fun s i wr => ∃ k : Nat, k ≤ l.length ∧ i = .int .i64 k ∧ s = .int .i64 (wsum l k) ∧ (∀ m, m < k → BoxGood l m) ∧ Below w.heap.size w wr) (fun _ i _ => l.length - (intOf i).toNat)
  case atStart => exact ⟨0, Nat.zero_le _, rfl, rfl, fun m hm => absurd hm (Nat.not_lt_zero _), Bi⟩
  case round =>
    clear Bi
    obtain ⟨k, hk, rfl, rfl, hgood, hbel⟩ := hrel
    have HG := hide hgood
    clear hgood
    by_cases hlt : k < l.length
    · obtain ⟨g, off, Ak, ck, rfl, hg, hbc, hml⟩ := HI.out k hlt
      obtain ⟨d0, d1, d2, d3, d4, _⟩ := hbc.below hbel hg
      have HKD := hide hbc.kids
      have HHD := hide (show HeadGood l k ↔ 1 ≤ (boAt l k).kind ∧ (boAt l k).kind ≤ 9 ∧ -1 ≤ (boAt l k).node ∧ (k = 0 → (boAt l k).par = -1) from Iff.rfl)
      have HBG := hide (show BoxGood l k ↔ HeadGood l k ∧ ∀ j, j < (boAt l k).kids.length → KidGood l k j from Iff.rfl)
      have HKA := hide (fun j => show kidAt l k j = (boAt l k).kids.getD j 0 from rfl)
      have HWS := hide (show wsum l (k + 1) = IntKind.i64.wrap (wsum l k + (boAt l k).kids.length) from rfl)
      have hws := wsum_i64 l k
      clear hbc
      generalize hx : boAt l k = x at *
      obtain ⟨kd, nd, pr, kids, tx⟩ := x
      simp only at d0 d1 d2 d3 d4 hml
      obtain ⟨nk, hnk⟩ : ∃ nk, kids.length = nk := ⟨_, rfl⟩
      rw [hnk] at d3 hml
      have HNK := hide hnk
      clear hnk
      have hbA := hbel.alloc hbel.size (.cells #[.int .i64 kd, .int .i64 nd, .int .i64 pr, .slice Ak nk ck, .string tx] 35)
      unfold maxLen at hml
      by_cases hh : HeadGood l k
      · have hh2 := HHD.out.1 hh
        simp only at hh2
        obtain ⟨f1, f2, f3, f4⟩ := hh2
        have n1 : ¬ kd < 1 := by omega
        have n2 : ¬ 9 < kd := by omega
        have n3 : ¬ nd < -1 := by omega
        by_cases hk0 : k = 0
        · subst hk0
          obtain rfl : pr = -1 := f4 rfl
          simp only [Nat.zero_mul, Nat.add_zero] at d0 d1 d2 d3 d4
          generalize wr = wo at *
          go_wp2_with fail
          go_loopw [6, 42] (fun la i Wd => ∃ j : Nat, j ≤ nk ∧ i = .int .i64 j ∧ la = .int .i64 (prevKid l 0 j) ∧ (∀ m, m < j → KidGood l 0 m) ∧ Below w.heap.size w Wd ∧ Wd.cell? ⟨wo.heap.size, 3, none⟩ = some (.slice Ak nk ck)) (fun _ i _ => nk - (intOf i).toNat)
          case atStart => exact ⟨0, Nat.zero_le _, rfl, rfl, fun m hm => absurd hm (Nat.not_lt_zero _), hbA, (Blk.new wo _ _).cell 3⟩
          case round =>
            clear hbA d0 d1 d2 d3 d4 hbel
            obtain ⟨j, hj, rfl, rfl, hkg, hbi, hbox⟩ := hrel
            have HKG := hide hkg
            clear hkg
            by_cases hjl : j < nk
            · obtain ⟨gk, ok, rfl, hgk, hck⟩ := kid_form HKD.out (by have := HNK.out; show 0 < kids.length; omega)
              have q0 := (hbi.cell (p := ⟨gk, ok + j, none⟩) hgk).trans (hck j (by have := HNK.out; show j < kids.length; omega))
              clear hck
              change wr.cell? ⟨gk, ok + j, none⟩ = some (.int .i64 (kids.getD j 0)) at q0
              have e0 : kids.getD j 0 = kidAt l 0 j := (HKA.out j).symm
              rw [e0] at q0
              have hbadk := fun h : ¬ KidGood l 0 j => (fun hc : ChkOk l => h ((HBG.out.1 (hc.1 0 hlt)).2 j (by have := HNK.out; show j < kids.length; omega)))
              have hpn := kidAt_nonneg (l := l) (i := 0) j (by rw [hx]; have := HNK.out; show j ≤ kids.length; omega) HKG.out
              have HKK := hide (show KidGood l 0 j ↔ prevKid l 0 j < kidAt l 0 j ∧ kidAt l 0 j < l.length ∧ (boAt l (kidAt l 0 j).toNat).par = ((0 : Nat) : Int) from Iff.rfl)
              have HPK := hide (show prevKid l 0 (j + 1) = kidAt l 0 j from rfl)
              generalize kidAt l 0 j = kj at *
              generalize prevKid l 0 j = pj at *
              by_cases t1 : kj ≤ pj
              · have hbad := hbadk fun h => by have := (HKK.out.1 h).1; omega
                go_wp2_with fail
                go_ret
                exact ⟨chk_bad hbad, hbi⟩
              · by_cases t2 : (l.length : Int) ≤ kj
                · have hbad := hbadk fun h => by have := (HKK.out.1 h).2.1; omega
                  go_wp2_with fail
                  go_ret
                  exact ⟨chk_bad hbad, hbi⟩
                · obtain ⟨m, rfl⟩ : ∃ m : Nat, kj = (m : Int) := ⟨kj.toNat, by omega⟩
                  have hml2 : m < l.length := by omega
                  have t3 : ¬ l.length ≤ m := by omega
                  obtain ⟨g2, off2, Ak2, ck2, hA2, hg2, hbc2, _⟩ := HI.out m hml2
                  injection hA2 with hA2
                  injection hA2 with e1 e2 _
                  subst e1 e2
                  have p2 := (hbc2.below hbi hg2).c2
                  have HPA := hide (show (boAt l ((m : Int)).toNat).par = (boAt l m).par from by rw [Int.toNat_natCast])
                  clear hbc2
                  generalize hpm : (boAt l m).par = pm at *
                  by_cases t4 : pm = 0
                  · have hgd : KidGood l 0 j := HKK.out.2 ⟨by omega, by omega, by rw [HPA.out, t4]; rfl⟩
                    have hbeq : (pm != (0 : Int)) = false := by simpa using t4
                    go_wp2_with fail
                    go_roundw
                    case rel => exact ⟨j + 1, by omega, by go_num, by rw [HPK.out], fun q hq => by
                      rcases Nat.lt_or_ge q j with h | h
                      · exact HKG.out q h
                      · obtain rfl : q = j := by omega
                        exact hgd, hbi, hbox⟩
                    case measure => simp only [intOf]; omega
                  · have hbad := hbadk fun h => t4 (by rw [← HPA.out]; exact (HKK.out.1 h).2.2.trans rfl)
                    have hbeq : (pm != (0 : Int)) = true := by simpa using t4
                    go_wp2_with fail
                    go_ret
                    exact ⟨chk_bad hbad, hbi⟩
            · obtain rfl : j = nk := by omega
              have hall : BoxGood l 0 := HBG.out.2 ⟨hh, fun m hm => HKG.out m (by have := HNK.out; change m < kids.length at hm; omega)⟩
              have hw2 : wsum l (0 + 1) = IntKind.i64.wrap (wsum l 0 + (j : Int)) := by rw [HWS.out]; show IntKind.i64.wrap (wsum l 0 + (kids.length : Int)) = _; rw [HNK.out]
              have HW2 := hide hw2
              clear hw2
              go_wp2_with fail
              go_roundw
              case rel => exact ⟨0 + 1, by omega, by go_num, by rw [HW2.out, wrap_eq64], fun q hq => by
                rcases Nat.lt_or_ge q 0 with h | h
                · exact HG.out q h
                · obtain rfl : q = 0 := by omega
                  exact hall, hbi⟩
              case measure => simp only [intOf]; omega
        · have hk1 : ((k : Int) == 0) = false := by simpa using hk0
          generalize wr = wo at *
          go_wp2_with fail
          go_loopw [6, 42] (fun la i Wd => ∃ j : Nat, j ≤ nk ∧ i = .int .i64 j ∧ la = .int .i64 (prevKid l k j) ∧ (∀ m, m < j → KidGood l k m) ∧ Below w.heap.size w Wd ∧ Wd.cell? ⟨wo.heap.size, 3, none⟩ = some (.slice Ak nk ck)) (fun _ i _ => nk - (intOf i).toNat)
          case atStart => exact ⟨0, Nat.zero_le _, rfl, rfl, fun m hm => absurd hm (Nat.not_lt_zero _), hbA, (Blk.new wo _ _).cell 3⟩
          case round =>
            clear hbA d0 d1 d2 d3 d4 hbel
            obtain ⟨j, hj, rfl, rfl, hkg, hbi, hbox⟩ := hrel
            have HKG := hide hkg
            clear hkg
            by_cases hjl : j < nk
            · obtain ⟨gk, ok, rfl, hgk, hck⟩ := kid_form HKD.out (by have := HNK.out; show 0 < kids.length; omega)
              have q0 := (hbi.cell (p := ⟨gk, ok + j, none⟩) hgk).trans (hck j (by have := HNK.out; show j < kids.length; omega))
              clear hck
              change wr.cell? ⟨gk, ok + j, none⟩ = some (.int .i64 (kids.getD j 0)) at q0
              have e0 : kids.getD j 0 = kidAt l k j := (HKA.out j).symm
              rw [e0] at q0
              have hbadk := fun h : ¬ KidGood l k j => (fun hc : ChkOk l => h ((HBG.out.1 (hc.1 k hlt)).2 j (by have := HNK.out; show j < kids.length; omega)))
              have hpn := kidAt_nonneg (l := l) (i := k) j (by rw [hx]; have := HNK.out; show j ≤ kids.length; omega) HKG.out
              have HKK := hide (show KidGood l k j ↔ prevKid l k j < kidAt l k j ∧ kidAt l k j < l.length ∧ (boAt l (kidAt l k j).toNat).par = k from Iff.rfl)
              have HPK := hide (show prevKid l k (j + 1) = kidAt l k j from rfl)
              generalize kidAt l k j = kj at *
              generalize prevKid l k j = pj at *
              by_cases t1 : kj ≤ pj
              · have hbad := hbadk fun h => by have := (HKK.out.1 h).1; omega
                go_wp2_with fail
                go_ret
                exact ⟨chk_bad hbad, hbi⟩
              · by_cases t2 : (l.length : Int) ≤ kj
                · have hbad := hbadk fun h => by have := (HKK.out.1 h).2.1; omega
                  go_wp2_with fail
                  go_ret
                  exact ⟨chk_bad hbad, hbi⟩
                · obtain ⟨m, rfl⟩ : ∃ m : Nat, kj = (m : Int) := ⟨kj.toNat, by omega⟩
                  have hml2 : m < l.length := by omega
                  have t3 : ¬ l.length ≤ m := by omega
                  obtain ⟨g2, off2, Ak2, ck2, hA2, hg2, hbc2, _⟩ := HI.out m hml2
                  injection hA2 with hA2
                  injection hA2 with e1 e2 _
                  subst e1 e2
                  have p2 := (hbc2.below hbi hg2).c2
                  have HPA := hide (show (boAt l ((m : Int)).toNat).par = (boAt l m).par from by rw [Int.toNat_natCast])
                  clear hbc2
                  generalize hpm : (boAt l m).par = pm at *
                  by_cases t4 : pm = k
                  · have hgd : KidGood l k j := HKK.out.2 ⟨by omega, by omega, by rw [HPA.out]; exact t4⟩
                    have hbeq : (pm != (k : Int)) = false := by simpa using t4
                    go_wp2_with fail
                    go_roundw
                    case rel => exact ⟨j + 1, by omega, by go_num, by rw [HPK.out], fun q hq => by
                      rcases Nat.lt_or_ge q j with h | h
                      · exact HKG.out q h
                      · obtain rfl : q = j := by omega
                        exact hgd, hbi, hbox⟩
                    case measure => simp only [intOf]; omega
                  · have hbad := hbadk fun h => t4 (by rw [← HPA.out]; exact (HKK.out.1 h).2.2)
                    have hbeq : (pm != (k : Int)) = true := by simpa using t4
                    go_wp2_with fail
                    go_ret
                    exact ⟨chk_bad hbad, hbi⟩
            · obtain rfl : j = nk := by omega
              have hall : BoxGood l k := HBG.out.2 ⟨hh, fun m hm => HKG.out m (by have := HNK.out; change m < kids.length at hm; omega)⟩
              have hw2 : wsum l (k + 1) = IntKind.i64.wrap (wsum l k + (j : Int)) := by rw [HWS.out]; show IntKind.i64.wrap (wsum l k + (kids.length : Int)) = _; rw [HNK.out]
              have HW2 := hide hw2
              clear hw2
              go_wp2_with fail
              go_roundw
              case rel => exact ⟨k + 1, by omega, by go_num, by rw [HW2.out, wrap_eq64], fun q hq => by
                rcases Nat.lt_or_ge q k with h | h
                · exact HG.out q h
                · obtain rfl : q = k := by omega
                  exact hall, hbi⟩
              case measure => simp only [intOf]; omega
      · have hbad : ¬ ChkOk l := fun h => hh ((HBG.out.1 (h.1 k hlt)).1)
        have hh2 := fun h => hh (HHD.out.2 h)
        simp only at hh2
        by_cases k1 : kd < 1
        · go_wp2_with fail
          go_ret
          exact ⟨chk_bad hbad, hbA⟩
        · by_cases k2 : 9 < kd
          · go_wp2_with fail
            go_ret
            exact ⟨chk_bad hbad, hbA⟩
          · by_cases k3 : nd < -1
            · go_wp2_with fail
              go_ret
              exact ⟨chk_bad hbad, hbA⟩
            · by_cases k4 : k = 0 ∧ pr ≠ -1
              · obtain ⟨rfl, k5⟩ := k4
                have k6 : (pr != -1) = true := by simpa using k5
                simp only [Nat.zero_mul, Nat.add_zero] at d0 d1 d2 d3 d4
                go_wp2_with fail
                go_ret
                exact ⟨chk_bad hbad, hbA⟩
              · exact absurd ⟨by omega, by omega, by omega, fun h => by
                  rcases Classical.em (pr = -1) with e | e
                  · exact e
                  · exact absurd ⟨h, e⟩ k4⟩ hh2
    · obtain rfl : k = l.length := by omega
      have hws := wsum_i64 l l.length
      by_cases hz : l.length = 0
      · have hz2 : ¬ 0 < l.length := by omega
        go_wp2_with fail
        go_ret
        exact ⟨chk_good HG.out, hbel⟩
      · have hz2 : 0 < l.length := by omega
        by_cases hs : wsum l l.length = (l.length : Int) - 1
        · have hs2 : (wsum l l.length != (l.length : Int) - 1) = false := by simpa using hs
          go_wp2_with fail
          go_ret
          exact ⟨chk_good HG.out, hbel⟩
        · have hs2 : (wsum l l.length != (l.length : Int) - 1) = true := by simpa using hs
          have hbad : ¬ ChkOk l := fun h => h.2.elim hz hs
          go_wp2_with fail
          go_ret
          exact ⟨chk_bad hbad, hbel⟩
end Go.Proofs.YtdnnodpkgncegaaDoor
