/- Walks: the fact on flexible items that is held against every answer; items of bounded numbers. -/
import Derived.BigQuiet
import Derived.Handy
import Derived.IntWalk
import Derived.Deep.MidRow
import Derived.Test.YtadlabndbomgmaaFlexM
import Derived.Test.YtadlabndbomgmaaEq
namespace Go.Proofs.Ytadlabndbomgmaa
open Go.ChangeShapes Go.WideShapes Go.ChangeAt Go.RowKit
theorem flexed_ok : ∀ x ∈ flexedXs, x.ok := by
  intro x hx
  simp [flexedXs] at hx
  rcases hx with rfl | rfl <;> simp [Fx.ok]
theorem flexed_cells : fxCells flexedXs = [.int .i64 20, .int .i64 0, .int .i64 (-1), .int .i64 1000, .int .i64 0, .int .i64 0, .int .i64 20, .int .i64 0, .int .i64 (-1), .int .i64 2000, .int .i64 0, .int .i64 0] := rfl
theorem flexed_any (w : World) : Calls Try.prog 55 #[] w fun e w' => e = .returned (.bool true) ∧ Below w.heap.size w w' := by
  have HX := hide flexed_ok
  have HC := hide flexed_cells
  have HI := hide flexed_is
  go_enter Try.func55, Try.ntmps55
  go_wp2_with fail
  have hB := Blk.new w 81 (fxCells flexedXs).toArray
  have hown := own_of_blk (base := w.heap.size) (size := 6) (n := 2) hB (Nat.le_refl _) (by simp only [maxLen]; omega) (by rw [HC.out]; rfl)
  have hm := Mains_any 100 10 flexedXs HX.out (by rw [show flexedXs.length = 2 from rfl]; omega) w.heap.size 2 (some ⟨w.heap.size, 0, none⟩) _ hown
  rw [show flexedXs.length = 2 from rfl, HI.out, HC.out] at hm
  refine hm.mono ?_
  clear hm hown hB HC HI HX
  rintro e w1 ⟨v, rfl, hown, hb1⟩
  obtain ⟨X, cx, rfl, _, hx⟩ := own_reads hown
  have HR := hide (hx.alloc (Nat.le_refl _) (.cells #[.int .i64 36, .int .i64 54] 3))
  have HL := hide (Reads.lit w1 3 #[.int .i64 36, .int .i64 54] 1 2 rfl)
  have hb2 : Below w.heap.size w (w1.alloc (.cells #[.int .i64 36, .int .i64 54] 3)) := ((Below.refl _ _).alloc (Nat.le_refl _) _).trans ((hb1.mono (by simp)).alloc (by have := hb1.size; simp at this; omega) _)
  clear hown hx hb1
  go_wp2_with (go_at_call 96; refine (Eq_any X _ 2 2 cx 2 _ _ [36, 54] [36, 54] _ HR.out HL.out (by omega) (by omega)).mono ?_; rintro e w' ⟨rfl, rfl⟩)
  go_ret
  exact ⟨rfl, hb2⟩
/-- What mild makes of an item that came in. -/
def mildX (R : Nat → Int) : Fx := ⟨IntKind.u16.wrap (R 0), IntKind.u16.wrap (R 1) / 8, IntKind.i16.wrap (R 2), IntKind.u16.wrap (R 3), IntKind.u16.wrap (R 4), IntKind.i8.wrap (R 5)⟩
def mildF (R : Nat → Nat → Int) (n : Nat) : List Fx := (List.range n).map fun i => mildX (R i)
theorem wu16 (n : Int) : 0 ≤ IntKind.u16.wrap n ∧ IntKind.u16.wrap n ≤ 65535 := by rw [IntKind.wrap_u16]; omega
theorem wi16 (n : Int) : -32768 ≤ IntKind.i16.wrap n ∧ IntKind.i16.wrap n ≤ 32767 := by simp only [IntKind.wrap, IntKind.bits, IntKind.signed]; simp; omega
theorem wi8 (n : Int) : -128 ≤ IntKind.i8.wrap n ∧ IntKind.i8.wrap n ≤ 127 := by simp only [IntKind.wrap, IntKind.bits, IntKind.signed]; simp; omega
theorem mild_ok (R : Nat → Nat → Int) (n : Nat) : ∀ x ∈ mildF R n, x.ok := by
  intro x hx
  simp only [mildF, List.mem_map] at hx
  obtain ⟨i, _, rfl⟩ := hx
  have h0 := wu16 (R i 0)
  have h1 := wu16 (R i 1)
  have h2 := wi16 (R i 2)
  have h3 := wu16 (R i 3)
  have h4 := wu16 (R i 4)
  have h5 := wi8 (R i 5)
  simp only [Fx.ok, mildX]
  omega
theorem mild_length (R : Nat → Nat → Int) (n : Nat) : (mildF R n).length = n := by simp [mildF]
theorem mild_snoc (R : Nat → Nat → Int) (n : Nat) : mildF R (n + 1) = mildF R n ++ [mildX (R n)] := by
  unfold mildF; rw [List.range_succ, List.map_append]; rfl
set_option maxRecDepth 100000 in
set_option maxHeartbeats 1000000 in
theorem mild_any (A : Option Addr) (n c : Nat) (R : Nat → Nat → Int) (w : World) (hr : Recs w w.heap.size 6 A n R) (hn : n ≤ c) (hc : c ≤ maxLen) :
    Calls Try.prog 53 #[.slice A n c] w fun e w' => ∃ v, e = .returned v ∧ w'.ownsRow w.heap.size 81 6 v (min n 12) (fxCells (mildF R (min n 12))) ∧ Below w.heap.size w w' := by
  unfold maxLen at hc
  have Hr := hide hr
  clear hr
  go_enter Try.func53, Try.ntmps53
  go_wp2_with fail
  have En : (min (n : Int) 12).toNat = min n 12 := by omega
  have En3 : max (min (n : Int) 12) 0 = ((min n 12 : Nat) : Int) := by omega
  have En2 : min (n : Int) 12 = ((min n 12 : Nat) : Int) := by omega
  rw [En, En3, En2]
  clear En En3 En2
  have hn1 : min n 12 ≤ n := by omega
  have hn2 : min n 12 ≤ 12 := by omega
  generalize hm : min n 12 = m at *
  have HM := hide hm
  clear hm
  obtain ⟨i0, hi0, hz0, hz1, hz2⟩ := info_parts fx_info
  have HI := hide (⟨hi0, hz0, hz1, hz2⟩ : Try.prog.info? 81 = some i0 ∧ i0.zero = some (.agg #[.int .i64 0, .int .i64 0, .int .i64 0, .int .i64 0, .int .i64 0, .int .i64 0]) ∧ i0.size = 6 ∧ i0.bytes = 48)
  clear hi0 hz0 hz1 hz2
  go_loopw [3, 12] (fun v i wr => ∃ k : Nat, k ≤ m ∧ i = .int .i64 k ∧ wr.ownsRow w.heap.size 81 6 v k (fxCells (mildF R k)) ∧ Below w.heap.size w wr) (fun _ i _ => m - (intOf i).toNat)
  case atStart => exact ⟨0, Nat.zero_le _, rfl, own_none _ _ _ _, Below.refl _ _⟩
  case round =>
    obtain ⟨k, hk, rfl, hown, hbel⟩ := hrel
    have HW := hide hown
    have hszr := hbel.size
    clear hown
    by_cases hlt : k < m
    · obtain ⟨g, off, rfl, hgl, hcell⟩ := Hr.out k (by omega)
      have d0 := (hbel.cell (p := ⟨g, off + k * 6 + 0, none⟩) hgl).trans (hcell 0 (by omega))
      have d1 := (hbel.cell (p := ⟨g, off + k * 6 + 1, none⟩) hgl).trans (hcell 1 (by omega))
      have d2 := (hbel.cell (p := ⟨g, off + k * 6 + 2, none⟩) hgl).trans (hcell 2 (by omega))
      have d3 := (hbel.cell (p := ⟨g, off + k * 6 + 3, none⟩) hgl).trans (hcell 3 (by omega))
      have d4 := (hbel.cell (p := ⟨g, off + k * 6 + 4, none⟩) hgl).trans (hcell 4 (by omega))
      have d5 := (hbel.cell (p := ⟨g, off + k * 6 + 5, none⟩) hgl).trans (hcell 5 (by omega))
      clear hcell
      rw [Nat.add_zero] at d0
      have hb0 := wu16 (R k 0)
      have hb1 := wu16 (R k 1)
      have hb2 := wi16 (R k 2)
      have hb3 := wu16 (R k 3)
      have hb4 := wu16 (R k 4)
      have hb5 := wi8 (R k 5)
      have MS := hide (show fxCells (mildF R (k + 1)) = fxCells (mildF R k) ++ [.int .i64 (IntKind.u16.wrap (R k 0)), .int .i64 (IntKind.u16.wrap (R k 1) / 8), .int .i64 (IntKind.i16.wrap (R k 2)), .int .i64 (IntKind.u16.wrap (R k 3)), .int .i64 (IntKind.u16.wrap (R k 4)), .int .i64 (IntKind.i8.wrap (R k 5))] from by rw [mild_snoc, fxCells_snoc]; rfl)
      have hsA : (wr.alloc (.cells #[.int .i64 (R k 0), .int .i64 (R k 1), .int .i64 (R k 2), .int .i64 (R k 3), .int .i64 (R k 4), .int .i64 (R k 5)] 81)).heap.size = wr.heap.size + 1 := by simp
      have HBX := Blk.new (wr.alloc (.cells #[.int .i64 (R k 0), .int .i64 (R k 1), .int .i64 (R k 2), .int .i64 (R k 3), .int .i64 (R k 4), .int .i64 (R k 5)] 81)) 81 #[.int .i64 (IntKind.u16.wrap (R k 0)), .int .i64 (IntKind.u16.wrap (R k 1) / 8), .int .i64 (IntKind.i16.wrap (R k 2)), .int .i64 (IntKind.u16.wrap (R k 3)), .int .i64 (IntKind.u16.wrap (R k 4)), .int .i64 (IntKind.i8.wrap (R k 5))]
      rw [hsA] at HBX
      have HBX2 := hide HBX
      have HVA := hide ((HW.out.alloc (.cells #[.int .i64 (R k 0), .int .i64 (R k 1), .int .i64 (R k 2), .int .i64 (R k 3), .int .i64 (R k 4), .int .i64 (R k 5)] 81)).alloc (.cells #[.int .i64 (IntKind.u16.wrap (R k 0)), .int .i64 (IntKind.u16.wrap (R k 1) / 8), .int .i64 (IntKind.i16.wrap (R k 2)), .int .i64 (IntKind.u16.wrap (R k 3)), .int .i64 (IntKind.u16.wrap (R k 4)), .int .i64 (IntKind.i8.wrap (R k 5))] 81))
      have HBL := hide ((hbel.alloc hszr (.cells #[.int .i64 (R k 0), .int .i64 (R k 1), .int .i64 (R k 2), .int .i64 (R k 3), .int .i64 (R k 4), .int .i64 (R k 5)] 81)).alloc (by rw [hsA]; omega) (.cells #[.int .i64 (IntKind.u16.wrap (R k 0)), .int .i64 (IntKind.u16.wrap (R k 1) / 8), .int .i64 (IntKind.i16.wrap (R k 2)), .int .i64 (IntKind.u16.wrap (R k 3)), .int .i64 (IntKind.u16.wrap (R k 4)), .int .i64 (IntKind.i8.wrap (R k 5))] 81))
      clear HBX hsA
      go_wp2_with (first | (at_builtin; refine wpList_app1 rfl (.tmp 16) (.tmp 43) _ rfl w.heap.size 81 _ 6 48 Try.underlying77 fx_info rfl (Nat.succ_pos _) _ k _ rfl HVA.out (wr.heap.size + 1) 1 _ HBX2.out rfl rfl rfl (by omega) (Nat.le_of_ble_eq_true rfl) HBL.out.size ?_; intro v4 w4 hown4 hg4; have hb9 := own_below HVA.out HBL.out (Nat.le_refl _) (Nat.le_refl _) hg4) | fail)
      go_roundw
      case rel => exact ⟨k + 1, by omega, by go_num, by rw [MS.out]; exact hown4, hb9⟩
      case measure => simp [intOf]; omega
    · obtain rfl : k = m := by omega
      obtain ⟨v, hv⟩ : ∃ v, v = u3 := ⟨_, rfl⟩
      rw [← hv] at HW ⊢
      clear hv
      go_wp2_with fail
      go_ret
      rw [HM.out]
      exact ⟨v, rfl, HW.out, hbel⟩
end Go.Proofs.Ytadlabndbomgmaa
