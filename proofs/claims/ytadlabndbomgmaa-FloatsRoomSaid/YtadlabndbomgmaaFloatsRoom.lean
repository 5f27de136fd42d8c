/- The walk of the statement FloatsRoom: it returns true. -/
import Derived.BigQuiet
import Derived.Handy
import Derived.Test.YtadlabndbomgmaaOpen
import Derived.Test.YtadlabndbomgmaaFloatsApart
namespace Go.Proofs.Ytadlabndbomgmaa
open Go.ChangeShapes Go.WideShapes Go.ChangeAt Go.RowKit
set_option maxRecDepth 100000 in
set_option maxHeartbeats 4000000 in
theorem floatsRoom_any (width : Int) (A : Option Addr) (n c : Nat) (R : Nat → Nat → Int) (sy sh : Int) (w : World) (hr : Recs w w.heap.size 4 A n R) (hn : n ≤ c) (hc : c ≤ maxLen) :
    Calls Try.prog 8 #[.int .i64 width, .slice A n c, .int .i64 sy, .int .i64 sh] w fun e w' => e = .returned (.bool true) ∧ Below w.heap.size w w' := by
  unfold maxLen at hc
  have Hr := hide hr
  clear hr
  go_enter Try.func8, Try.ntmps8
  go_wp2_with fail
  refine (New_any width w).mono ?_
  rintro e w1 ⟨rfl, hf, hb1⟩
  have hwd : 0 ≤ max 0 (cut width) ∧ max 0 (cut width) ≤ 16777216 := by have := cut_hi width; omega
  generalize max 0 (cut width) = wd at *
  have Hf := hide hf
  clear hf
  go_wp2_with fail
  refine (floated_any w1).mono ?_
  rintro e w2 ⟨rfl, hb2⟩
  have hf2 := hide (Hf.out.below hb2)
  have hbel0 := below_on hb1 hb2
  clear hb1 hb2 Hf
  go_wp2_with fail
  have En : (min (n : Int) 30).toNat = min n 30 := by omega
  have En2 : min (n : Int) 30 = ((min n 30 : Nat) : Int) := by omega
  have En3 : max (min (n : Int) 30) 0 = ((min n 30 : Nat) : Int) := by omega
  rw [En, En3]
  clear En En3
  have hn1 : min n 30 ≤ n := by omega
  have hn2 : min n 30 ≤ 30 := by omega
  have EN2 := hide En2
  clear En2
  generalize hm : min n 30 = m at *
  have HM := hide hm
  clear hm
  go_loopw [10, 11, 33] (fun iv p i wr => ∃ (k : Nat) (fs : List Fl), k ≤ m ∧ i = .int .i64 k ∧ fs.length = k ∧ GoodFl wd fs ∧ FloatsAt wr w.heap.size w.heap.size wd fs ∧ Below w.heap.size w wr) (fun _ _ i _ => m - (intOf i).toNat)
  case atStart => exact ⟨0, [], Nat.zero_le _, rfl, rfl, GoodFl.nil wd, hf2.out, hbel0⟩
  case round =>
    obtain ⟨k, fs, hk, rfl, hfl, hg, hfr, hbel⟩ := hrel
    have HG := hide hg
    have HF := hide hfr
    have HL := hide hfl
    clear hg hfr hfl
    by_cases hlt : k < m
    · obtain ⟨g, off, rfl, hgl, hcell⟩ := Hr.out k (by omega)
      have d0 := (hbel.cell (p := ⟨g, off + k * 4 + 0, none⟩) hgl).trans (hcell 0 (by omega))
      have d1 := (hbel.cell (p := ⟨g, off + k * 4 + 1, none⟩) hgl).trans (hcell 1 (by omega))
      have d2 := (hbel.cell (p := ⟨g, off + k * 4 + 2, none⟩) hgl).trans (hcell 2 (by omega))
      have d3 := (hbel.cell (p := ⟨g, off + k * 4 + 3, none⟩) hgl).trans (hcell 3 (by omega))
      clear hcell
      rw [Nat.add_zero] at d0
      have b1 := i16_bd (R k 1)
      have b2 := i16_bd (R k 2)
      have b3 := i16_bd (R k 3)
      have hok : ∀ f ∈ fs, FlBd f ∧ f.y + f.h ≤ 65536 * (k : Int) + 32767 := fun f hf => by
        have := HG.out.bd f hf; rw [HL.out] at this; exact this
      have Hok := hide hok
      clear hok
      go_wp2_with fail
      refine (Place_any w.heap.size w.heap.size _ _ _ _ wd (65536 * (k : Int) + 32767) fs _ (HF.out.below ((Below.refl _ _).alloc (Nat.le_refl _) _)) (by simp; exact Nat.le_succ_of_le hbel.size) (by have := HL.out; omega) (by omega) (by omega) (by omega) (by unfold cut; omega) (by omega) Hok.out).mono ?_
      rintro e w3 ⟨x, y', rfl, hf3, hb3, hp⟩
      have hp2 : Placed wd fs (1 + (k : Int) % 2) (cut (IntKind.i16.wrap (R k 1))) (max 0 (cut (IntKind.i16.wrap (R k 2)))) (max 0 (cut (IntKind.i16.wrap (R k 3)))) (65536 * (fs.length : Int) + 32767) x y' := by rw [HL.out]; exact hp
      have hg3 := hide (HG.out.step hwd (by have := HL.out; omega) (by omega) (by unfold cut; omega) (by unfold cut; omega) (by unfold cut; omega) hp2)
      clear hp2
      have Hf3 := hide hf3
      have hbel3 := (hbel.alloc hbel.size (.cells #[.int .i64 (R k 0), .int .i64 (R k 1), .int .i64 (R k 2), .int .i64 (R k 3)] 39)).trans hb3
      clear hf3 hp hb3 b1 b2 b3 d0 d1 d2 d3
      go_wp2_with fail
      go_roundw
      case rel => exact ⟨k + 1, _, by omega, by go_num, by simp; exact HL.out, hg3.out, Hf3.out, hbel3⟩
      case measure => simp [intOf]; omega
    · have hkm : k = m := by omega
      obtain ⟨wo, rfl⟩ : ∃ wo : World, wo = wr := ⟨_, rfl⟩
      subst hkm
      have y1 := i16_bd sy
      have h1 : 0 ≤ sh % 256 ∧ sh % 256 ≤ 255 := by omega
      have HokB := hide (fun f (hf : f ∈ fs) => show FlBd f from (HG.out.bd f hf).1)
      have hlen : fs.length ≤ 200 := by have := HL.out; omega
      go_wp2_with fail
      have hH : 1 ≤ sh % 256 + 1 ∧ sh % 256 + 1 ≤ 256 := by omega
      generalize sh % 256 + 1 = H at *
      generalize IntKind.i16.wrap sy = Y at *
      have cY := hide (cut_of (n := Y) (by omega) (by omega))
      have cH := hide (cut_of (n := H) (by omega) (by omega))
      refine (Edges_any w.heap.size w.heap.size Y H wd fs wo HF.out hlen HokB.out).mono ?_
      rintro e w3 ⟨rfl, hb3⟩
      rw [cY.out, cH.out]
      have hmet := hide (fun (f : Fl) (hf : f ∈ fs) (hm : metF Y H f = true) => (edgesF_met (width := wd) hf hm).2)
      generalize hE : edgesF wd Y H fs = s at *
      obtain ⟨left, right, mt⟩ := s
      clear hE
      dsimp only at hmet
      have hf3 := hide (HF.out.below hb3)
      have hbel3 := below_on hbel hb3
      clear hb3 hbel HF h1
      go_wp2_with fail
      refine (All_any w.heap.size w.heap.size wd fs w3 hf3.out hlen).mono ?_
      rintro e w4 ⟨v, rfl, hown, hb4⟩
      have hf4 := hide (hf3.out.below hb4)
      have hbel4 := below_on hbel3 hb4
      obtain ⟨X, cx, hv, hcx, _⟩ := own_reads hown
      have hown2 := own_mono hown hbel3.size
      rw [hv, HL.out] at hown2
      have HO := hide hown2
      rw [hv, HL.out]
      clear hv hown hown2 hb4 hbel3 hf3
      have hcx2 : k ≤ cx := by have := HL.out; omega
      clear hcx
      go_wp2_with fail
      go_loopw [8, 15, 73] (fun rv p i wr => ∃ j : Nat, j ≤ k ∧ i = .int .i64 j ∧ Below w4.heap.size w4 wr) (fun _ _ i _ => k - (intOf i).toNat)
      case atStart => exact ⟨0, Nat.zero_le _, rfl, Below.refl _ _⟩
      case round =>
        obtain ⟨j, hj, rfl, hbel5⟩ := hrel
        obtain ⟨w5, rfl⟩ : ∃ w5 : World, w5 = wr := ⟨_, rfl⟩
        have hf5 := hide (hf4.out.below hbel5)
        by_cases hjk : j < k
        · obtain ⟨g, rfl, _, hg, f0, f1, f2, f3⟩ := rectCell HO.out hjk HL.out
          have d0 := (hbel5.cell (p := ⟨g, j * 4, none⟩) hg).trans f0
          have d1 := (hbel5.cell (p := ⟨g, j * 4 + 1, none⟩) hg).trans f1
          have d2 := (hbel5.cell (p := ⟨g, j * 4 + 2, none⟩) hg).trans f2
          have d3 := (hbel5.cell (p := ⟨g, j * 4 + 3, none⟩) hg).trans f3
          have hjl : j < fs.length := by rw [HL.out]; exact hjk
          obtain ⟨⟨⟨o1, o2, o3, o4⟩, ⟨o5, o6⟩, o7, o8⟩, o9⟩ := HG.out.bd fs[j] (List.getElem_mem hjl)
          have hsd := HG.out.sides fs[j] (List.getElem_mem hjl)
          have hmj := hmet.out fs[j] (List.getElem_mem hjl)
          generalize fs[j] = f at *
          obtain ⟨rx, ry, rw', rh, rsd⟩ := f
          clear f0 f1 f2 f3
          dsimp only at d0 d1 d2 d3 o1 o2 o3 o4 o5 o6 o7 o8 o9 hsd hmj
          have x2 : ¬ (decide (0 < rh) = true ∧ decide (0 < rw') = true ∧ decide (ry < Y + H) = true ∧ decide (Y < ry + rh) = true ∧ decide (rx < right) = true ∧ decide (left < rx + rw') = true) := by
            simp only [decide_eq_true_eq]
            rintro ⟨h1, h2, h3, h4, h5, h6⟩
            obtain ⟨m1, m2⟩ := hmj (metF_mk (f := ⟨rx, ry, rw', rh, rsd⟩) h1 (by show ry < Y + max 1 H; omega) h4)
            rcases hsd with hs | hs
            · have := m1 hs; omega
            · have := m2 (by omega); omega
          clear hmj hsd
          rcases not6 x2 with y1 | ⟨y1, y2⟩ | ⟨y1, y2, y3⟩ | ⟨y1, y2, y3, y4⟩ | ⟨y1, y2, y3, y4, y5⟩ | ⟨y1, y2, y3, y4, y5, y6⟩
          all_goals
            clear x2
            go_wp2_with fail
            go_roundw
            case rel => exact ⟨j + 1, by omega, by go_num, hbel5.alloc hbel5.size _⟩
            case measure => simp [intOf]; omega
        · have hends : ∀ f ∈ fs, f.y + f.h ≤ 65536 * (k : Int) + 32767 := fun f hf => by have := (HG.out.bd f hf).2; rw [HL.out] at this; exact this
          have hends2 := hide (show ∀ f ∈ fs, -16777216 ≤ f.y + f.h ∧ f.y + f.h ≤ 1000000000000 from fun f hf => by
            have h1 := (HG.out.bd f hf).1; have h2 := hends f hf; omega)
          obtain ⟨q1, q2, q3⟩ := endY_spec fs Y
          have q4 := q3 2100000 (by omega) (fun f hf => by have := hends f hf; omega)
          have hno := hide (edgesF_none (width := wd) (y := endY Y fs) (h := H) (fs := fs) fun f hf => by
            cases hm : metF (endY Y fs) H f
            · rfl
            · have := (metF_true hm).2.2; have := q2 f hf; omega)
          clear hends q2 q3
          go_wp2_with fail
          refine (Clear_any w.heap.size w.heap.size Y wd fs w5 hf5.out hlen hends2.out).mono ?_
          rintro e w6 ⟨rfl, hb6⟩
          rw [cY.out]
          have hf6 := hide (hf5.out.below hb6)
          have hbel6 := below_on (below_on hbel4 hbel5) hb6
          have cB := hide (cut_of (n := endY Y fs) (by omega) (by omega))
          clear hb6 hf5 hbel5 hbel4
          generalize endY Y fs = bot at *
          go_wp2_with fail
          refine (Edges_any w.heap.size w.heap.size bot H wd fs w6 hf6.out hlen HokB.out).mono ?_
          rintro e w7 ⟨rfl, hb7⟩
          rw [cB.out, cH.out, hno.out]
          have hf7 := hide (hf6.out.below hb7)
          have hbel7 := below_on hbel6 hb7
          clear hb7 hf6 hbel6
          go_wp2_with (go_at_call 38; refine (Width_any _ _ _ _ _ hf7.out).mono ?_; rintro e w' ⟨rfl, rfl⟩)
          go_ret
          exact ⟨rfl, hbel7⟩
end Go.Proofs.Ytadlabndbomgmaa
