/- The walks of items.Size, High, shift. -/
import Derived.BigQuiet
import Derived.Handy
import Derived.IntWalk
import Derived.RegionTactic
import Derived.Test.YtdnnodpkgncegaaDoorOutI
import Derived.Test.YtdnnodpkgncegaaDoorItPut
import Derived.Test.YtdnnodpkgncegaaDoorFrame
namespace Go.Proofs.YtdnnodpkgncegaaDoor
open Go.ChangeShapes Go.WideShapes Go.ChangeAt Go.RowKit
theorem blk_two (w : World) (o : Obj) (cs : Array Value) (t : TypeId) : Blk ((w.alloc o).alloc (.cells cs t)) (w.heap.size + 1) t cs := by
  have h := Blk.new (w.alloc o) t cs
  rwa [show (w.alloc o).heap.size = w.heap.size + 1 by simp] at h
def sizeN (R : Nat → Int) : Int := max 0 (cut (R 75))
def highN (R : Nat → Int) : Int := max 0 (if R 76 = 2 then cut (R 77) else if R 76 = 4 then partOf (sizeN R) (R 77) 1000 else partOf (sizeN R) 5 4)
theorem size_any (R : Nat → Int) (w : World) : Calls Tryd.prog 12 #[.agg (styA R)] w fun e w' => e = .returned (.int .i64 (sizeN R)) ∧ w' = w.alloc (.cells (styA R) 44) := by
  have hB := Blk.new w 44 (styA R)
  have q75 := sty_cell hB (j := 75) (by omega)
  unfold sizeN
  clear hB
  generalize R 75 = a at *
  go_enter Tryd.func12, Tryd.ntmps12
  go_wp2_with (go_at_call 10; refine (cut_any _ _).mono ?_; rintro e w9 ⟨rfl, rfl⟩)
  go_ret
  exact ⟨rfl, rfl⟩
theorem shift_any (R : Nat → Int) (w : World) : Calls Tryd.prog 17 #[.agg (styA R)] w fun e w' => (∃ n, e = .returned (.int .i64 n)) ∧ Below w.heap.size w w' := by
  have hB := Blk.new w 44 (styA R)
  have q84 := sty_cell hB (j := 84) (by omega)
  have q85 := sty_cell hB (j := 85) (by omega)
  have hb0 := below_alloc2 (Below.refl w.heap.size w) (.cells (styA R) 44) (.cells #[.int .i64 (R 84), .int .i64 (R 85)] 42)
  clear hB
  generalize R 84 = a at *
  generalize R 85 = b at *
  go_enter Tryd.func17, Tryd.ntmps17
  by_cases h : a = 2
  · subst h
    go_wp2_with (go_at_call 10; refine (cut_any _ _).mono ?_; rintro e w9 ⟨rfl, rfl⟩)
    go_ret
    exact ⟨⟨_, rfl⟩, hb0⟩
  · have t : (a == 2) = false := by simpa using h
    go_wp2_with fail
    go_ret
    exact ⟨⟨_, rfl⟩, hb0⟩
theorem high_any (R : Nat → Int) (w : World) : Calls Tryd.prog 8 #[.agg (styA R)] w fun e w' => e = .returned (.int .i64 (highN R)) ∧ Below w.heap.size w w' := by
  have hB := Blk.new w 44 (styA R)
  have q76 := sty_cell hB (j := 76) (by omega)
  have q77 := sty_cell hB (j := 77) (by omega)
  have hb0 := below_alloc2 (Below.refl w.heap.size w) (.cells (styA R) 44) (.cells #[.int .i64 (R 76), .int .i64 (R 77)] 42)
  have HB2 := hide (hB.alloc (.cells #[.int .i64 (R 76), .int .i64 (R 77)] 42))
  have hs := size_any R
  have HH := hide (show highN R = max 0 (if R 76 = 2 then cut (R 77) else if R 76 = 4 then partOf (sizeN R) (R 77) 1000 else partOf (sizeN R) 5 4) from rfl)
  clear hB
  generalize highN R = hn at *
  generalize sizeN R = z at *
  generalize R 76 = a at *
  generalize R 77 = b at *
  have HSZ := hide hs
  clear hs
  by_cases h2 : a = 2
  · subst h2
    have e : hn = max 0 (cut b) := HH.out
    go_enter Tryd.func8, Tryd.ntmps8
    go_wp2_with (go_at_call 10; refine (cut_any _ _).mono ?_; rintro e w9 ⟨rfl, rfl⟩)
    go_ret
    exact ⟨by rw [e]; rfl, hb0⟩
  · have t2 : (a == 2) = false := by simpa using h2
    by_cases h4 : a = 4
    · subst h4
      have e : hn = max 0 (partOf z b 1000) := HH.out
      go_enter Tryd.func8, Tryd.ntmps8
      go_wp2_with fail
      have HBW := HB2
      have v1 : ((w.alloc (.cells (styA R) 44)).alloc (.cells #[.int .i64 4, .int .i64 b] 42)).cell? ⟨w.heap.size + 1, 1, none⟩ = some (.int .i64 b) := (blk_two w _ _ _).cell 1
      clear HB2 q76 q77
      obtain ⟨vb, hvb⟩ : ∃ vb, vb = w.heap.size + 1 := ⟨_, rfl⟩
      obtain ⟨sb, hsb⟩ : ∃ sb, sb = w.heap.size := ⟨_, rfl⟩
      rw [← hvb] at v1 ⊢
      rw [← hsb] at HBW ⊢
      clear hvb hsb
      generalize (w.alloc (.cells (styA R) 44)).alloc (.cells #[.int .i64 4, .int .i64 b] 42) = wv at *
      refine wp_region_HL 6 #[false, false, false, false, false, false] (by kernel_rfl) (by kernel_rfl) (S := fun Z => Blk Z sb 44 (styA R) ∧ Z.cell? ⟨vb, 1, none⟩ = some (.int .i64 b)) (by kernel_rfl) ⟨HBW.out.drew, v1⟩ (fun hHeld => ?_)
      have hbw := hb0.drew
      generalize wv.drew = wD at *
      refine take_at (i := 0) (v := (Value.agg (styA R))) (some 19) rfl rfl (by kernel_rfl) (by kernel_rfl) (by kernel_rfl) (fun _ _ _ h => h) (yieldsIf_load_blk (by rfl) 44 _ rfl sb rfl 44 _ _ (fun _ h => h.1) sty_u rfl (sty_i R)) hHeld ?_
      simp only [Act.put, List.setIfInBounds_toArray, List.set_cons_zero, List.set_cons_succ]
      refine take_at (i := 2) (v := (Value.pointer (some ⟨vb, 1, none⟩))) (some 21) rfl rfl (by kernel_rfl) (by kernel_rfl) (by kernel_rfl) (fun _ _ _ h => h) (yieldsIf_faddr (by rfl) 42 _ 1 rfl _ _ 1 rfl (by kernel_rfl)) hHeld ?_
      simp only [Act.put, List.setIfInBounds_toArray, List.set_cons_zero, List.set_cons_succ]
      refine take_at (i := 3) (v := (.int .i64 b)) (some 22) rfl rfl (by kernel_rfl) (by kernel_rfl) (by kernel_rfl) (fun _ _ _ h => h) (yieldsIf_load1 (by rfl) 3 _ rfl _ _ _ rfl (by kernel_rfl) (fun _ h => h.2)) hHeld ?_
      simp only [Act.put, List.setIfInBounds_toArray, List.set_cons_zero, List.set_cons_succ]
      refine callH (j := 1) (by kernel_rfl) rfl rfl (some 20) rfl 12 #[.agg (styA R)] (run_enter Tryd.func12 (by kernel_rfl) (by kernel_rfl) _ _ rfl #[.agg (styA R)] (by kernel_rfl) _) (HSZ.out _) ?_
      rintro e w9 ⟨rfl, rfl⟩
      have hHeld2 := And.intro (hHeld.1.alloc (.cells (styA R) 44)) (((Below.refl wD.heap.size wD).alloc (Nat.le_refl _) (.cells (styA R) 44)).cell (p := ⟨vb, 1, none⟩) (cell_lt hHeld.2) |>.trans hHeld.2)
      refine ⟨_, rfl, hHeld2, ?_⟩
      simp only [Act.put, List.setIfInBounds_toArray, List.set_cons_zero, List.set_cons_succ]
      refine call_at (i := 4) (v := .int .i64 (partOf z b 1000)) (some 23) rfl rfl (by kernel_rfl) (by kernel_rfl) (by kernel_rfl) (fun _ _ _ h => h) (by rfl) 11 #[.int .i64 z, .int .i64 b, .int .i64 1000] (fun _ _ => run_enter Tryd.func11 (by kernel_rfl) (by kernel_rfl) _ _ rfl #[.int .i64 z, .int .i64 b, .int .i64 1000] (by kernel_rfl) _) (fun W _ => part_any _ _ _ _ (by decide)) hHeld2 ?_
      simp only [Act.put, List.setIfInBounds_toArray, List.set_cons_zero, List.set_cons_succ]
      refine take_at (i := 5) (v := (.int .i64 (partOf z b 1000))) (some 3) rfl rfl (by kernel_rfl) (by kernel_rfl) (by kernel_rfl) (fun _ _ _ h => h) (Or.inl ⟨by rfl, fun W hW => ?_⟩) hHeld2 ?_
      · go_simp
      simp only [Act.put, List.setIfInBounds_toArray, List.set_cons_zero, List.set_cons_succ]
      refine wpAnyH_done (by kernel_rfl) ?_ _
      go_wp2_with fail
      go_ret
      exact ⟨by rw [e]; rfl, hbw.alloc hbw.size _⟩
    · have t4 : (a == 4) = false := by simpa using h4
      have e : hn = max 0 (partOf z 5 4) := by rw [HH.out, if_neg h2, if_neg h4]
      go_enter Tryd.func8, Tryd.ntmps8
      go_wp2_with (first | (refine wpList_load_sty rfl _ rfl w.heap.size rfl R HB2.out ?_) | (go_at_call 12; refine (HSZ.out _).mono ?_; rintro e w9 ⟨rfl, rfl⟩) | (go_at_call 11; refine (part_any _ _ _ _ (by decide)).mono ?_; rintro e w9 ⟨rfl, rfl⟩) | fail)
      go_ret
      exact ⟨by rw [e]; rfl, hb0.alloc hb0.size _⟩
end Go.Proofs.YtdnnodpkgncegaaDoor
