/- Styles by value: an array of 59 values of two cells. The walks of fix.Of and of margins' edges. -/
import Derived.BigQuiet
import Derived.Handy
import Derived.Deep.MidRow
import Derived.Test.YtdnnodpkgncegaaDoorFix
import Derived.Test.YtdnnodpkgncegaaDoorKitS
namespace Go.Proofs.YtdnnodpkgncegaaDoor
open Go.ChangeShapes Go.WideShapes Go.ChangeAt Go.RowKit
/-- The cells of a style. -/
def styA (R : Nat → Int) : Array Value := ((List.range 118).map fun j => Value.int .i64 (R j)).toArray
theorem styA_size (R : Nat → Int) : (styA R).size = 118 := by simp [styA]
theorem styA_at (R : Nat → Int) {j : Nat} (h : j < 118) : (styA R)[j]? = some (.int .i64 (R j)) := by simp [styA, h]
/-- What a value is, of what it is a part of. -/
def ofN (k n base : Int) : Int := if k = 2 then cut n else if k = 3 then partOf base n 10000 else 0
def ofB (k : Int) : Bool := k == 2 || k == 3
theorem ofN_bd (k n base : Int) : -16777216 ≤ ofN k n base ∧ ofN k n base ≤ 16777216 := by
  unfold ofN partOf
  have h1 := cut_lo n
  have h2 := cut_hi n
  have h3 := cut_lo (cut base * cut n / cut 10000)
  have h4 := cut_hi (cut base * cut n / cut 10000)
  split
  · omega
  · split <;> omega
theorem Of_any (k n base : Int) (w : World) :
    Calls Tryd.prog 19 #[.agg #[.int .i64 k, .int .i64 n], .int .i64 base] w fun e w' => e = .returned (.tuple #[.int .i64 (ofN k n base), .bool (ofB k)]) ∧ Below w.heap.size w w' := by
  have e0 := hide (show ofN k n base = if k = 2 then cut n else if k = 3 then partOf base n 10000 else 0 from rfl)
  have e1 := hide (show ofB k = (k == 2 || k == 3) from rfl)
  cases h2 : (k == 2)
  · cases h3 : (k == 3)
    · have f0 := hide (show ofN k n base = 0 from by rw [e0.out, if_neg (by simpa using h2), if_neg (by simpa using h3)])
      have f1 := hide (show ofB k = false from by rw [e1.out, h2, h3]; rfl)
      go_enter Tryd.func19, Tryd.ntmps19
      go_wp2
      go_ret2
      rw [f0.out, f1.out]
      exact ⟨rfl, (Below.refl _ _).alloc (Nat.le_refl _) _⟩
    · have f0 := hide (show ofN k n base = partOf base n 10000 from by rw [e0.out, if_neg (by simpa using h2), if_pos (by simpa using h3)])
      have f1 := hide (show ofB k = true from by rw [e1.out, h2, h3]; rfl)
      go_enter Tryd.func19, Tryd.ntmps19
      go_wp2_with (go_at_call 11; refine (part_any _ _ _ _ (by omega)).mono ?_; rintro e w' ⟨rfl, rfl⟩)
      go_ret2
      rw [f0.out, f1.out]
      exact ⟨rfl, (Below.refl _ _).alloc (Nat.le_refl _) _⟩
  · have f0 := hide (show ofN k n base = cut n from by rw [e0.out, if_pos (by simpa using h2)])
    have f1 := hide (show ofB k = true from by rw [e1.out, h2]; rfl)
    go_enter Tryd.func19, Tryd.ntmps19
    go_wp2_with (go_at_call 10; refine (cut_any _ _).mono ?_; rintro e w' ⟨rfl, rfl⟩)
    go_ret2
    rw [f0.out, f1.out]
    exact ⟨rfl, (Below.refl _ _).alloc (Nat.le_refl _) _⟩
/-- Edge j of four, from property p on. -/
def edge (R : Nat → Int) (room : Int) (p j : Nat) : Int := ofN (R ((p + j) * 2)) (R ((p + j) * 2 + 1)) room
def edgesA (R : Nat → Int) (room : Int) (p : Nat) : Array Value := #[.int .i64 (edge R room p 0), .int .i64 (edge R room p 1), .int .i64 (edge R room p 2), .int .i64 (edge R room p 3)]
/-- The first k edges. -/
def edgesTo (R : Nat → Int) (room : Int) (p k : Nat) : Array Value := #[.int .i64 (if 0 < k then edge R room p 0 else 0), .int .i64 (if 1 < k then edge R room p 1 else 0), .int .i64 (if 2 < k then edge R room p 2 else 0), .int .i64 (if 3 < k then edge R room p 3 else 0)]
set_option maxRecDepth 100000 in
set_option maxHeartbeats 1000000 in
theorem Edges_any' (R : Nat → Int) (room : Int) (p : Nat) (hp : p + 3 < 59) (w : World) :
    Calls Tryd.prog 24 #[.agg (styA R), .agg #[.int .i64 p, .int .i64 (p + 1), .int .i64 (p + 2), .int .i64 (p + 3)], .int .i64 room] w fun e w' =>
      e = .returned (.agg (edgesA R room p)) ∧ Below w.heap.size w w' := by
  have i0 : ∀ (w : World), (Instr.index 61 (.agg #[.int .i64 p, .int .i64 (p + 1), .int .i64 (p + 2), .int .i64 (p + 3)]) (.int .i64 0)).run Tryd.prog w = .ok (.int .i64 p) w := fun _ => by kernel_rfl
  have i1 : ∀ (w : World), (Instr.index 61 (.agg #[.int .i64 p, .int .i64 (p + 1), .int .i64 (p + 2), .int .i64 (p + 3)]) (.int .i64 1)).run Tryd.prog w = .ok (.int .i64 (p + 1)) w := fun _ => by kernel_rfl
  have i2 : ∀ (w : World), (Instr.index 61 (.agg #[.int .i64 p, .int .i64 (p + 1), .int .i64 (p + 2), .int .i64 (p + 3)]) (.int .i64 2)).run Tryd.prog w = .ok (.int .i64 (p + 2)) w := fun _ => by kernel_rfl
  have i3 : ∀ (w : World), (Instr.index 61 (.agg #[.int .i64 p, .int .i64 (p + 1), .int .i64 (p + 2), .int .i64 (p + 3)]) (.int .i64 3)).run Tryd.prog w = .ok (.int .i64 (p + 3)) w := fun _ => by kernel_rfl
  go_enter Tryd.func24, Tryd.ntmps24
  go_wp2_with fail
  have f1 : Blk ((((w.alloc (.cells (styA R) 44)).alloc (.cells #[.int .i64 p, .int .i64 (p + 1), .int .i64 (p + 2), .int .i64 (p + 3)] 61)).alloc (.cells #[.int .i64 0, .int .i64 0, .int .i64 0, .int .i64 0] 48)).alloc (.cells #[.int .i64 0, .int .i64 0, .int .i64 0, .int .i64 0] 61)) w.heap.size 44 (styA R) := (((Blk.new w _ _).alloc _).alloc _).alloc _
  have f2 : Blk ((((w.alloc (.cells (styA R) 44)).alloc (.cells #[.int .i64 p, .int .i64 (p + 1), .int .i64 (p + 2), .int .i64 (p + 3)] 61)).alloc (.cells #[.int .i64 0, .int .i64 0, .int .i64 0, .int .i64 0] 48)).alloc (.cells #[.int .i64 0, .int .i64 0, .int .i64 0, .int .i64 0] 61)) (w.heap.size + 1 + 1) 48 #[.int .i64 0, .int .i64 0, .int .i64 0, .int .i64 0] := by
    have := (Blk.new ((w.alloc (.cells (styA R) 44)).alloc (.cells #[.int .i64 p, .int .i64 (p + 1), .int .i64 (p + 2), .int .i64 (p + 3)] 61)) 48 #[.int .i64 0, .int .i64 0, .int .i64 0, .int .i64 0]).alloc (.cells #[.int .i64 0, .int .i64 0, .int .i64 0, .int .i64 0] 61)
    simpa using this
  have f3 : Blk ((((w.alloc (.cells (styA R) 44)).alloc (.cells #[.int .i64 p, .int .i64 (p + 1), .int .i64 (p + 2), .int .i64 (p + 3)] 61)).alloc (.cells #[.int .i64 0, .int .i64 0, .int .i64 0, .int .i64 0] 48)).alloc (.cells #[.int .i64 0, .int .i64 0, .int .i64 0, .int .i64 0] 61)) (w.heap.size + 1 + 1 + 1) 61 (edgesTo R room p 0) := by
    have := Blk.new (((w.alloc (.cells (styA R) 44)).alloc (.cells #[.int .i64 p, .int .i64 (p + 1), .int .i64 (p + 2), .int .i64 (p + 3)] 61)).alloc (.cells #[.int .i64 0, .int .i64 0, .int .i64 0, .int .i64 0] 48)) 61 #[.int .i64 0, .int .i64 0, .int .i64 0, .int .i64 0]
    simpa [edgesTo] using this
  have f4 : Below w.heap.size w ((((w.alloc (.cells (styA R) 44)).alloc (.cells #[.int .i64 p, .int .i64 (p + 1), .int .i64 (p + 2), .int .i64 (p + 3)] 61)).alloc (.cells #[.int .i64 0, .int .i64 0, .int .i64 0, .int .i64 0] 48)).alloc (.cells #[.int .i64 0, .int .i64 0, .int .i64 0, .int .i64 0] 61)) := by go_grown
  generalize (((w.alloc (.cells (styA R) 44)).alloc (.cells #[.int .i64 p, .int .i64 (p + 1), .int .i64 (p + 2), .int .i64 (p + 3)] 61)).alloc (.cells #[.int .i64 0, .int .i64 0, .int .i64 0, .int .i64 0] 48)).alloc (.cells #[.int .i64 0, .int .i64 0, .int .i64 0, .int .i64 0] 61) = w2 at *
  have F1 := hide f1
  have F2 := hide f2
  have F3 := hide f3
  clear f1 f2 f3
  go_loopw [8, 9, 11] (fun a c i wr => ∃ k : Nat, k ≤ 4 ∧ i = .int .i64 k ∧ Blk wr w.heap.size 44 (styA R) ∧ Blk wr (w.heap.size + 1 + 1) 48 #[.int .i64 0, .int .i64 0, .int .i64 0, .int .i64 0] ∧ Blk wr (w.heap.size + 1 + 1 + 1) 61 (edgesTo R room p k) ∧ Below w.heap.size w wr) (fun _ _ i _ => 4 - (intOf i).toNat)
  case atStart => exact ⟨0, by omega, rfl, F1.out, F2.out, F3.out, f4⟩
  case round =>
    obtain ⟨k, hk, rfl, g1, g2, g3, g4⟩ := hrel
    have G1 := hide g1
    have G2 := hide g2
    have G3 := hide g3
    have hfz : ∀ j, wr.frozen? ⟨w.heap.size + 1 + 1 + 1, j, none⟩ = false := fun j => g3.frozen j
    clear g1 g2 g3
    by_cases hlt : k < 4
    · have hk4 : k = 0 ∨ k = 1 ∨ k = 2 ∨ k = 3 := by omega
      rcases hk4 with rfl | rfl | rfl | rfl
      · have c1 : wr.cell? ⟨w.heap.size, p * 2, none⟩ = some (.int .i64 (R (p * 2))) := (G1.out.cell _).trans (styA_at R (by omega))
        have c2 : wr.cell? ⟨w.heap.size, p * 2 + 1, none⟩ = some (.int .i64 (R (p * 2 + 1))) := (G1.out.cell _).trans (styA_at R (by omega))
        have e1 := hide (show edge R room p 0 = ofN (R (p * 2)) (R (p * 2 + 1)) room from rfl)
        go_wp2_with fail
        refine (Of_any _ _ _ _).mono ?_
        rintro e w3 ⟨rfl, hb3⟩
        have k1 := hide (G1.out.below hb3 G1.out.lt)
        have k2 := hide (G2.out.below hb3 G2.out.lt)
        have k3 := hide (G3.out.below hb3 G3.out.lt)
        have c3 : w3.cell? ⟨w.heap.size + 1 + 1 + 1, 0, none⟩ = some (.int .i64 0) := k3.out.cell 0
        have z3 : w3.frozen? ⟨w.heap.size + 1 + 1 + 1, 0, none⟩ = false := k3.out.frozen 0
        have k4 := below_on g4 hb3
        clear hb3 G1 G2 G3 hfz g4
        rw [← e1.out]
        go_wp2_with fail
        go_roundw
        case rel => exact ⟨1, by omega, by rfl, k1.out.far (by simp; omega) _, k2.out.far (by simp) _, k3.out.set_ 0 _, k4.setCell (by simp; omega) _⟩
        case measure => simp [intOf]
      · have c1 : wr.cell? ⟨w.heap.size, (p + 1) * 2, none⟩ = some (.int .i64 (R ((p + 1) * 2))) := (G1.out.cell _).trans (styA_at R (by omega))
        have c2 : wr.cell? ⟨w.heap.size, (p + 1) * 2 + 1, none⟩ = some (.int .i64 (R ((p + 1) * 2 + 1))) := (G1.out.cell _).trans (styA_at R (by omega))
        have e1 := hide (show edge R room p 1 = ofN (R ((p + 1) * 2)) (R ((p + 1) * 2 + 1)) room from rfl)
        go_wp2_with fail
        refine (Of_any _ _ _ _).mono ?_
        rintro e w3 ⟨rfl, hb3⟩
        have k1 := hide (G1.out.below hb3 G1.out.lt)
        have k2 := hide (G2.out.below hb3 G2.out.lt)
        have k3 := hide (G3.out.below hb3 G3.out.lt)
        have c3 : w3.cell? ⟨w.heap.size + 1 + 1 + 1, 1, none⟩ = some (.int .i64 0) := k3.out.cell 1
        have z3 : w3.frozen? ⟨w.heap.size + 1 + 1 + 1, 1, none⟩ = false := k3.out.frozen 1
        have k4 := below_on g4 hb3
        clear hb3 G1 G2 G3 hfz g4
        rw [← e1.out]
        go_wp2_with fail
        go_roundw
        case rel => exact ⟨2, by omega, by rfl, k1.out.far (by simp; omega) _, k2.out.far (by simp) _, k3.out.set_ 1 _, k4.setCell (by simp; omega) _⟩
        case measure => simp [intOf]
      · have c1 : wr.cell? ⟨w.heap.size, (p + 2) * 2, none⟩ = some (.int .i64 (R ((p + 2) * 2))) := (G1.out.cell _).trans (styA_at R (by omega))
        have c2 : wr.cell? ⟨w.heap.size, (p + 2) * 2 + 1, none⟩ = some (.int .i64 (R ((p + 2) * 2 + 1))) := (G1.out.cell _).trans (styA_at R (by omega))
        have e1 := hide (show edge R room p 2 = ofN (R ((p + 2) * 2)) (R ((p + 2) * 2 + 1)) room from rfl)
        go_wp2_with fail
        refine (Of_any _ _ _ _).mono ?_
        rintro e w3 ⟨rfl, hb3⟩
        have k1 := hide (G1.out.below hb3 G1.out.lt)
        have k2 := hide (G2.out.below hb3 G2.out.lt)
        have k3 := hide (G3.out.below hb3 G3.out.lt)
        have c3 : w3.cell? ⟨w.heap.size + 1 + 1 + 1, 2, none⟩ = some (.int .i64 0) := k3.out.cell 2
        have z3 : w3.frozen? ⟨w.heap.size + 1 + 1 + 1, 2, none⟩ = false := k3.out.frozen 2
        have k4 := below_on g4 hb3
        clear hb3 G1 G2 G3 hfz g4
        rw [← e1.out]
        go_wp2_with fail
        go_roundw
        case rel => exact ⟨3, by omega, by rfl, k1.out.far (by simp; omega) _, k2.out.far (by simp) _, k3.out.set_ 2 _, k4.setCell (by simp; omega) _⟩
        case measure => simp [intOf]
      · have c1 : wr.cell? ⟨w.heap.size, (p + 3) * 2, none⟩ = some (.int .i64 (R ((p + 3) * 2))) := (G1.out.cell _).trans (styA_at R (by omega))
        have c2 : wr.cell? ⟨w.heap.size, (p + 3) * 2 + 1, none⟩ = some (.int .i64 (R ((p + 3) * 2 + 1))) := (G1.out.cell _).trans (styA_at R (by omega))
        have e1 := hide (show edge R room p 3 = ofN (R ((p + 3) * 2)) (R ((p + 3) * 2 + 1)) room from rfl)
        go_wp2_with fail
        refine (Of_any _ _ _ _).mono ?_
        rintro e w3 ⟨rfl, hb3⟩
        have k1 := hide (G1.out.below hb3 G1.out.lt)
        have k2 := hide (G2.out.below hb3 G2.out.lt)
        have k3 := hide (G3.out.below hb3 G3.out.lt)
        have c3 : w3.cell? ⟨w.heap.size + 1 + 1 + 1, 3, none⟩ = some (.int .i64 0) := k3.out.cell 3
        have z3 : w3.frozen? ⟨w.heap.size + 1 + 1 + 1, 3, none⟩ = false := k3.out.frozen 3
        have k4 := below_on g4 hb3
        clear hb3 G1 G2 G3 hfz g4
        rw [← e1.out]
        go_wp2_with fail
        go_roundw
        case rel => exact ⟨4, by omega, by rfl, k1.out.far (by simp; omega) _, k2.out.far (by simp) _, k3.out.set_ 3 _, k4.setCell (by simp; omega) _⟩
        case measure => simp [intOf]
    · have hk4 : k = 4 := by omega
      subst hk4
      have q0 : wr.cell? ⟨w.heap.size + 1 + 1 + 1, 0, none⟩ = some (.int .i64 (edge R room p 0)) := G3.out.cell 0
      have q1 : wr.cell? ⟨w.heap.size + 1 + 1 + 1, 1, none⟩ = some (.int .i64 (edge R room p 1)) := G3.out.cell 1
      have q2 : wr.cell? ⟨w.heap.size + 1 + 1 + 1, 2, none⟩ = some (.int .i64 (edge R room p 2)) := G3.out.cell 2
      have q3 : wr.cell? ⟨w.heap.size + 1 + 1 + 1, 3, none⟩ = some (.int .i64 (edge R room p 3)) := G3.out.cell 3
      have y0 : wr.cell? ⟨w.heap.size + 1 + 1, 0, none⟩ = some (.int .i64 0) := G2.out.cell 0
      have y1 : wr.cell? ⟨w.heap.size + 1 + 1, 1, none⟩ = some (.int .i64 0) := G2.out.cell 1
      have y2 : wr.cell? ⟨w.heap.size + 1 + 1, 2, none⟩ = some (.int .i64 0) := G2.out.cell 2
      have y3 : wr.cell? ⟨w.heap.size + 1 + 1, 3, none⟩ = some (.int .i64 0) := G2.out.cell 3
      have x2 : ∀ j, wr.frozen? ⟨w.heap.size + 1 + 1, j, none⟩ = false := fun j => G2.out.frozen j
      go_wp2_with fail
      have B := (((G2.out.set_ 0 (.int .i64 (edge R room p 0))).set_ 1 (.int .i64 (edge R room p 1))).set_ 2 (.int .i64 (edge R room p 2))).set_ 3 (.int .i64 (edge R room p 3))
      obtain ⟨fr, hB⟩ : ∃ fr, (((((wr.setCell ⟨w.heap.size + 1 + 1, 0, none⟩ (.int .i64 (edge R room p 0))).setCell ⟨w.heap.size + 1 + 1, 1, none⟩ (.int .i64 (edge R room p 1))).setCell ⟨w.heap.size + 1 + 1, 2, none⟩ (.int .i64 (edge R room p 2))).setCell ⟨w.heap.size + 1 + 1, 3, none⟩ (.int .i64 (edge R room p 3)))).heap[w.heap.size + 1 + 1]? = some (.cells (edgesA R room p) 48 fr) := ⟨_, B⟩
      refine bodyPost_ret (results_cell_row rfl _ _ (w.heap.size + 1 + 1) _ (edgesA R room p) fr (.struct (Tryd.prog.fieldsOf 48)) rfl hB (by kernel_rfl) rfl (by kernel_rfl)) rfl ?_
      exact ⟨rfl, (((g4.setCell (by simp; omega) _).setCell (by simp; omega) _).setCell (by simp; omega) _).setCell (by simp; omega) _⟩
end Go.Proofs.YtdnnodpkgncegaaDoor
