/- The walk of small: at most twenty commands, long texts struck. -/
import Derived.BigQuiet
import Derived.Handy
import Derived.IntWalk
import Derived.Deep.MidRow
import Derived.Test.YtbpkffoooieejaaOpenC
namespace Go.Proofs.Ytbpkffoooieejaa
open Go.ChangeShapes Go.WideShapes Go.ChangeAt Go.RowKit
def smallC (c : Cm) : Cm := if 10 < c.t.size then { c with t := ByteArray.empty } else c
def smallF (l : List Cm) : List Cm := (l.take 20).map smallC
def smallTo (l : List Cm) (k : Nat) : List Cm := (l.take k).map smallC
theorem smallTo_len (l : List Cm) (k : Nat) (h : k ≤ l.length) : (smallTo l k).length = k := by simp [smallTo, h]
theorem smallTo_next (l : List Cm) (k : Nat) (h : k < l.length) : smallTo l (k + 1) = smallTo l k ++ [smallC (cmAt l k)] := by
  unfold smallTo; rw [List.take_succ_eq_append_getElem h, List.map_append, cmAt_of l k h]; rfl
theorem smallF_is (l : List Cm) : smallF l = smallTo l (min l.length 20) := by
  unfold smallF smallTo
  congr 1
  by_cases h : l.length ≤ 20
  · rw [Nat.min_eq_left h, List.take_of_length_le h, List.take_length]
  · rw [Nat.min_eq_right (by omega)]
theorem smallF_len (l : List Cm) : (smallF l).length = min l.length 20 := by rw [smallF_is, smallTo_len _ _ (by omega)]
theorem smallF_txt (l : List Cm) : ∀ x ∈ smallF l, x.t.size ≤ 10 := by
  intro x hx
  obtain ⟨y, _, rfl⟩ := List.mem_map.1 hx
  unfold smallC
  split
  · exact Nat.zero_le _
  · omega
theorem cmCells_snoc (l : List Cm) (c : Cm) : cmCells (l ++ [c]) = cmCells l ++ (cmA c).toList := by simp [cmCells]
theorem reads_at {w : World} {B n : Nat} {A : Option Addr} {l : List Cm} (h : Reads w B 9 A n (cmCells l)) (hl : l.length = n) {k : Nat} (hk : k < n) :
    ∃ g off, A = some ⟨g, off, none⟩ ∧ g < B ∧ ∀ j, j < 9 → w.cell? ⟨g, off + k * 9 + j, none⟩ = (cmA (cmAt l k))[j]? := by
  obtain ⟨ad, rfl, hb, hc⟩ := h.2 (by omega)
  obtain ⟨g, off, spot⟩ := ad
  have h0 : ∃ u, (cmCells l)[0]? = some u := ⟨_, List.getElem?_eq_getElem (by rw [h.1]; omega)⟩
  obtain ⟨u, hu⟩ := h0
  have hspot : spot = none := by
    have h1 := hc 0 u hu
    simp [Addr.add] at h1
    simpa using World.cell?_spot h1
  subst hspot
  refine ⟨g, off, rfl, hb, fun j hj => ?_⟩
  have hadd : ∀ i, (⟨g, off, none⟩ : Addr).add i = ⟨g, off + i, none⟩ := fun i => by unfold Addr.add; split <;> simp_all
  have h2 : j < (cmA (cmAt l k)).size := by simpa [cmA] using hj
  have h3 := cmCells_at l k j (by omega) hj
  rw [Array.getElem?_eq_getElem h2] at h3 ⊢
  have h4 := hc _ _ h3
  rwa [hadd, ← Nat.add_assoc] at h4
set_option maxRecDepth 100000 in
set_option maxHeartbeats 4000000 in
theorem small_any (l : List Cm) (A : Option Addr) (n c : Nat) (w : World) (hr : Reads w w.heap.size 9 A n (cmCells l)) (hl : l.length = n) (hn : n ≤ c) (hc : c ≤ maxLen) :
    Calls Try.prog 13 #[.slice A n c] w fun e w' => ∃ v, e = .returned v ∧ w'.ownsRow w.heap.size 43 9 v (smallF l).length (cmCells (smallF l)) ∧ Below w.heap.size w w' := by
  unfold maxLen at hc
  have Hr := hide hr
  have HL := hide hl
  clear hr hl
  go_enter Try.func13, Try.ntmps13
  go_wp2_with fail
  have En : (min (n : Int) 20).toNat = min n 20 := by omega
  have En3 : max (min (n : Int) 20) 0 = ((min n 20 : Nat) : Int) := by omega
  have En2 : min (n : Int) 20 = ((min n 20 : Nat) : Int) := by omega
  rw [En, En3, En2]
  clear En En3 En2
  have hn1 : min n 20 ≤ n := by omega
  have hn2 : min n 20 ≤ 20 := by omega
  generalize hm : min n 20 = m at *
  have HM := hide hm
  clear hm
  go_loopw [3, 12] (fun v i wr => ∃ k : Nat, k ≤ m ∧ i = .int .i64 k ∧ wr.ownsRow w.heap.size 43 9 v k (cmCells (smallTo l k)) ∧ Below w.heap.size w wr) (fun _ i _ => m - (intOf i).toNat)
  case atStart => exact ⟨0, Nat.zero_le _, rfl, own_none _ _ _ _, Below.refl _ _⟩
  case round =>
    obtain ⟨k, hk, rfl, hown, hbel⟩ := hrel
    have HW := hide hown
    have hszr := hbel.size
    clear hown
    by_cases hlt : k < m
    · obtain ⟨g, off, rfl, hgl, hcell⟩ := reads_at Hr.out HL.out (k := k) (by omega)
      have cc : ∀ j, j < 9 → wr.cell? ⟨g, off + k * 9 + j, none⟩ = (cmA (cmAt l k))[j]? := fun j hj => (hbel.cell (p := ⟨g, off + k * 9 + j, none⟩) hgl).trans (hcell j hj)
      have HNX := smallTo_next l k (by rw [HL.out]; omega)
      clear hcell
      generalize cmAt l k = x at *
      obtain ⟨m1, m2, m3, m4, m5, m6, m7, m8, m9⟩ := x
      have d0 : wr.cell? ⟨g, off + k * 9, none⟩ = some (.int .i64 m1) := cc 0 (by omega)
      have d1 : wr.cell? ⟨g, off + k * 9 + 1, none⟩ = some (.int .i64 m2) := cc 1 (by omega)
      have d2 : wr.cell? ⟨g, off + k * 9 + 2, none⟩ = some (.int .i64 m3) := cc 2 (by omega)
      have d3 : wr.cell? ⟨g, off + k * 9 + 3, none⟩ = some (.int .i64 m4) := cc 3 (by omega)
      have d4 : wr.cell? ⟨g, off + k * 9 + 4, none⟩ = some (.int .i64 m5) := cc 4 (by omega)
      have d5 : wr.cell? ⟨g, off + k * 9 + 5, none⟩ = some (.int .i64 m6) := cc 5 (by omega)
      have d6 : wr.cell? ⟨g, off + k * 9 + 6, none⟩ = some (.int .i64 m7) := cc 6 (by omega)
      have d7 : wr.cell? ⟨g, off + k * 9 + 7, none⟩ = some (.int .i64 m8) := cc 7 (by omega)
      have d8 : wr.cell? ⟨g, off + k * 9 + 8, none⟩ = some (.string m9) := cc 8 (by omega)
      clear cc
      by_cases hlg : 10 < m9.size
      · have hsA : (wr.alloc (.cells #[.int .i64 m1, .int .i64 m2, .int .i64 m3, .int .i64 m4, .int .i64 m5, .int .i64 m6, .int .i64 m7, .int .i64 m8, .string ByteArray.empty] 43)).heap.size = wr.heap.size + 1 := by simp
        have MS := hide (show cmCells (smallTo l (k + 1)) = cmCells (smallTo l k) ++ (#[.int .i64 m1, .int .i64 m2, .int .i64 m3, .int .i64 m4, .int .i64 m5, .int .i64 m6, .int .i64 m7, .int .i64 m8, .string ByteArray.empty] : Array Value).toList from by rw [HNX, cmCells_snoc]; unfold smallC; rw [if_pos hlg]; rfl)
        have HBX := Blk.new (wr.alloc (.cells #[.int .i64 m1, .int .i64 m2, .int .i64 m3, .int .i64 m4, .int .i64 m5, .int .i64 m6, .int .i64 m7, .int .i64 m8, .string ByteArray.empty] 43)) 43 #[.int .i64 m1, .int .i64 m2, .int .i64 m3, .int .i64 m4, .int .i64 m5, .int .i64 m6, .int .i64 m7, .int .i64 m8, .string ByteArray.empty]
        rw [hsA] at HBX
        have HBX2 := hide HBX
        have HVA := hide ((HW.out.alloc (.cells #[.int .i64 m1, .int .i64 m2, .int .i64 m3, .int .i64 m4, .int .i64 m5, .int .i64 m6, .int .i64 m7, .int .i64 m8, .string ByteArray.empty] 43)).alloc (.cells #[.int .i64 m1, .int .i64 m2, .int .i64 m3, .int .i64 m4, .int .i64 m5, .int .i64 m6, .int .i64 m7, .int .i64 m8, .string ByteArray.empty] 43))
        have HBL := hide ((hbel.alloc hszr (.cells #[.int .i64 m1, .int .i64 m2, .int .i64 m3, .int .i64 m4, .int .i64 m5, .int .i64 m6, .int .i64 m7, .int .i64 m8, .string ByteArray.empty] 43)).alloc (by rw [hsA]; omega) (.cells #[.int .i64 m1, .int .i64 m2, .int .i64 m3, .int .i64 m4, .int .i64 m5, .int .i64 m6, .int .i64 m7, .int .i64 m8, .string ByteArray.empty] 43))
        clear HBX hsA HNX
        go_wp2_with (first | (at_builtin; refine wpList_app1 rfl (.tmp 21) (.tmp 23) _ rfl w.heap.size 43 _ 9 80 Try.underlying28 cmd_info rfl (Nat.succ_pos _) _ k _ rfl HVA.out (wr.heap.size + 1) 1 _ HBX2.out rfl rfl rfl (by omega) (Nat.le_of_ble_eq_true rfl) HBL.out.size ?_; intro v4 w4 hown4 hg4; have hb9 := own_below HVA.out HBL.out (Nat.le_refl _) (Nat.le_refl _) hg4) | fail)
        go_roundw
        case rel => exact ⟨k + 1, by omega, by go_num, by rw [MS.out]; exact hown4, hb9⟩
        case measure => simp [intOf]; omega
      · have hsA : (wr.alloc (.cells #[.int .i64 m1, .int .i64 m2, .int .i64 m3, .int .i64 m4, .int .i64 m5, .int .i64 m6, .int .i64 m7, .int .i64 m8, .string m9] 43)).heap.size = wr.heap.size + 1 := by simp
        have MS := hide (show cmCells (smallTo l (k + 1)) = cmCells (smallTo l k) ++ (#[.int .i64 m1, .int .i64 m2, .int .i64 m3, .int .i64 m4, .int .i64 m5, .int .i64 m6, .int .i64 m7, .int .i64 m8, .string m9] : Array Value).toList from by rw [HNX, cmCells_snoc]; unfold smallC; rw [if_neg hlg]; rfl)
        have HBX := Blk.new (wr.alloc (.cells #[.int .i64 m1, .int .i64 m2, .int .i64 m3, .int .i64 m4, .int .i64 m5, .int .i64 m6, .int .i64 m7, .int .i64 m8, .string m9] 43)) 43 #[.int .i64 m1, .int .i64 m2, .int .i64 m3, .int .i64 m4, .int .i64 m5, .int .i64 m6, .int .i64 m7, .int .i64 m8, .string m9]
        rw [hsA] at HBX
        have HBX2 := hide HBX
        have HVA := hide ((HW.out.alloc (.cells #[.int .i64 m1, .int .i64 m2, .int .i64 m3, .int .i64 m4, .int .i64 m5, .int .i64 m6, .int .i64 m7, .int .i64 m8, .string m9] 43)).alloc (.cells #[.int .i64 m1, .int .i64 m2, .int .i64 m3, .int .i64 m4, .int .i64 m5, .int .i64 m6, .int .i64 m7, .int .i64 m8, .string m9] 43))
        have HBL := hide ((hbel.alloc hszr (.cells #[.int .i64 m1, .int .i64 m2, .int .i64 m3, .int .i64 m4, .int .i64 m5, .int .i64 m6, .int .i64 m7, .int .i64 m8, .string m9] 43)).alloc (by rw [hsA]; omega) (.cells #[.int .i64 m1, .int .i64 m2, .int .i64 m3, .int .i64 m4, .int .i64 m5, .int .i64 m6, .int .i64 m7, .int .i64 m8, .string m9] 43))
        clear HBX hsA HNX
        go_wp2_with (first | (at_builtin; refine wpList_app1 rfl (.tmp 21) (.tmp 23) _ rfl w.heap.size 43 _ 9 80 Try.underlying28 cmd_info rfl (Nat.succ_pos _) _ k _ rfl HVA.out (wr.heap.size + 1) 1 _ HBX2.out rfl rfl rfl (by omega) (Nat.le_of_ble_eq_true rfl) HBL.out.size ?_; intro v4 w4 hown4 hg4; have hb9 := own_below HVA.out HBL.out (Nat.le_refl _) (Nat.le_refl _) hg4) | fail)
        go_roundw
        case rel => exact ⟨k + 1, by omega, by go_num, by rw [MS.out]; exact hown4, hb9⟩
        case measure => simp [intOf]; omega
    · obtain rfl : k = m := by omega
      have HE := hide (show smallF l = smallTo l k from by rw [smallF_is, HL.out, HM.out])
      have HLE := hide (show (smallF l).length = k from by rw [smallF_len, HL.out, HM.out])
      obtain ⟨v, hv⟩ : ∃ v, v = u3 := ⟨_, rfl⟩
      rw [← hv] at HW ⊢
      clear hv
      go_wp2_with fail
      go_ret
      refine ⟨v, rfl, ?_, hbel⟩
      rw [HLE.out, HE.out]
      exact HW.out
end Go.Proofs.Ytbpkffoooieejaa
