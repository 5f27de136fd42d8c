/- The walk of slices.Repeat at a slice of one integer. -/
import Derived.BigQuiet
import Derived.Handy
import Derived.RegionTactic
import Derived.Deep.RegionLaw
import Derived.IntWalk
import Derived.Test.YtadlabndbomgmaaKitT
import Derived.Test.YtadlabndbomgmaaFix
import Derived.Test.YtadlabndbomgmaaOpen
import Derived.Test.YtadlabndbomgmaaShelfC
namespace Go.Proofs.Ytadlabndbomgmaa
open Go.ChangeShapes Go.WideShapes Go.ChangeAt Go.RowKit
theorem mul_any (n : Nat) (hn : n ≤ 1000) (w : World) :
    Calls Try.prog 130 #[.int .u64 1, .int .u64 n] w fun e w' => e = .returned (.tuple #[.int .u64 0, .int .u64 n]) ∧ w = w' :=
  (Try.bits_Mul 1 n (by omega) (by omega) w).mono fun e w' ⟨he, hw⟩ => ⟨by
    rw [he, Nat.one_mul, Nat.div_eq_of_lt (by omega), Nat.mod_eq_of_lt (by omega)]; rfl, hw.symm⟩
/-- j ones, then nothing yet. -/
def repV (m j : Nat) : List Value := List.replicate j (.int .i64 1) ++ List.replicate (m - j) (.int .i64 0)
def oneV (k : Nat) : List Value := List.replicate k (.int .i64 1)
theorem oneV_length (k : Nat) : (oneV k).length = k := by simp [oneV]
theorem repV_length (m j : Nat) (h : j ≤ m) : (repV m j).length = m := by simp [repV]; omega
theorem repV_zero (m : Nat) : intsA (List.replicate m 0) = (repV m 0).toArray := by simp [intsA, repV]
theorem repV_all (m : Nat) : repV m m = (List.replicate m 1).map (Value.int .i64) := by simp [repV]
theorem repV_next (m j k : Nat) : splice (repV m j) j (oneV k) = repV m (j + k) := by
  unfold repV splice oneV
  rw [List.take_left' (by simp)]
  have e : (List.replicate j (Value.int .i64 1) ++ List.replicate (m - j) (Value.int .i64 0)).drop (j + (List.replicate k (Value.int .i64 1)).length) = List.replicate (m - (j + k)) (.int .i64 0) := by
    rw [List.length_replicate, ← List.drop_drop, List.drop_left' (by simp), List.drop_replicate]
    congr 1; omega
  rw [e, ← List.append_assoc, List.replicate_append_replicate]
theorem oneV_at {k j : Nat} {v : Value} (h : (oneV k)[j]? = some v) : j < k ∧ v = .int .i64 1 := by
  unfold oneV at h
  rw [List.getElem?_replicate] at h
  split at h
  · injection h with h; exact ⟨by assumption, h.symm⟩
  · cases h
theorem oneV_one (k : Nat) : ∀ u ∈ oneV k, u.oneCell' = true := by
  intro u hu
  obtain ⟨_, rfl⟩ := List.mem_replicate.1 hu
  rfl
theorem repV_at (m j k : Nat) (h : k < j) : (repV m j)[k]? = some (.int .i64 1) := by
  unfold repV
  rw [List.getElem?_append_left (by simpa using h), List.getElem?_replicate, if_pos h]
theorem copyOne {w' : World} {g n : Nat} (h : w'.cell? ⟨g, 0, none⟩ = some (.int .i64 1)) : ∀ j v, (oneV (min 1 n))[j]? = some v → w'.cell? ((⟨g, 0, none⟩ : Addr).add j) = some v := fun j v hj => by
  obtain ⟨h1, rfl⟩ := oneV_at hj
  obtain rfl : j = 0 := by omega
  exact h
theorem repCells {w : World} {G m j k : Nat} {t : TypeId} (hb : Blk w G t (repV m j).toArray) (hk : k ≤ j) : ∀ i v, (oneV k)[i]? = some v → w.cell? ((⟨G, 0, none⟩ : Addr).add i) = some v := fun i v hi => by
  obtain ⟨h1, rfl⟩ := oneV_at hi
  rw [show (⟨G, 0, none⟩ : Addr).add i = ⟨G, i, none⟩ by unfold Addr.add; split <;> simp_all]
  rw [hb.cell i]
  simpa using repV_at m j i (by omega)
set_option maxRecDepth 100000 in
theorem Repeat_any (g c n : Nat) (w : World) (hg : w.cell? ⟨g, 0, none⟩ = some (.int .i64 1)) (hn : n ≤ 1000) :
    Calls Try.prog 100 #[.slice (some ⟨g, 0, none⟩) 1 c, .int .i64 n] w fun e w' => ∃ v, e = .returned v ∧ w'.ownsRow w.heap.size 3 1 v n ((List.replicate n 1).map (Value.int .i64)) ∧ Below w.heap.size w w' := by
  obtain ⟨i0, hi0, hz0, hz1, hz2⟩ := info_parts int_info
  have hmk := fun W => run_make_rowN (P := Try.prog) 22 3 i0 _ Try.underlying22 hi0 hz0 .i64 .i64 n n (Nat.le_refl _) (by rw [hz2]; omega) (by omega) W
  rw [hz1, Nat.mul_one, show (Value.int .i64 0).cells = #[.int .i64 0] from rfl, made_ints, repV_zero] at hmk
  have hsz : (Try.prog.info? 3).map (·.size) = some 1 := by kernel_rfl
  have HS := hide hsz
  have glt := cell_lt hg
  have HP := hide (copyOne (n := n) ((World.cell?_alloc_lt w (.cells (repV n 0).toArray 3) _ glt).trans hg))
  clear hsz hz0 hz1 hz2 hi0 hg
  go_enter Try.func100, Try.ntmps100
  go_wp2_with fail
  refine (mul_any n hn w).mono ?_
  rintro e w1 ⟨rfl, rfl⟩
  go_wp2_with (first | (refine wpList_copy_splice rfl _ _ _ _ rfl 3 Try.underlying22 HS.out (some ⟨w.heap.size, 0, none⟩) (some ⟨g, 0, none⟩) n n 1 c rfl rfl w.heap.size 0 (repV n 0) 3 (heap_alloc_new w _) (oneV (min 1 n)) (oneV_length _) (fun _ => ⟨rfl, _, rfl, HP.out⟩) (by rw [oneV_length, repV_length _ _ (Nat.zero_le _)]; omega) (oneV_one _) w.heap.size w ((Below.refl _ _).alloc (Nat.le_refl _) _) (Nat.le_refl _) ?_; intro w2 HB hbel) | fail)
  rw [repV_next, Nat.zero_add] at HB
  rw [oneV_length]
  generalize hj0 : min 1 n = j0 at *
  have hj1 : j0 ≤ n ∧ (j0 = 0 → n = 0) := by omega
  clear hj0 HP hmk
  go_wp2_with fail
  go_loopw [8] (fun i wr => ∃ j : Nat, j ≤ n ∧ (j = 0 → n = 0) ∧ i = .int .i64 j ∧ Blk wr w.heap.size 3 (repV n j).toArray ∧ Below w.heap.size w wr) (fun i _ => n - (intOf i).toNat)
  case atStart => exact ⟨j0, hj1.1, hj1.2, rfl, HB.out, hbel⟩
  case round =>
    obtain ⟨j, hj, hjz, rfl, hblk, hb⟩ := hrel
    have HBk := hide hblk
    clear hblk HB hbel hj1
    by_cases hlt : j < n
    · have h0 : 0 < j := by omega
      go_wp2_with fail
      have hk0 : ((min j (n - j) : Nat) : Int) + j ≤ 1000 := by omega
      have hjI : (0 : Int) ≤ (j : Int) := by omega
      have hjn : (j : Int) ≤ (n : Int) := by omega
      obtain ⟨w3, hrun, hB3, hb3⟩ := copy_run (P := Try.prog) wr.drew 22 3 3 Try.underlying22 HS.out w.heap.size j (n - j) (n - j) ⟨w.heap.size, 0, none⟩ j n 3 (repV n j) (oneV (min j (n - j))) HBk.out (oneV_length _) (repCells HBk.out (Nat.min_le_left _ _)) (by rw [oneV_length, repV_length _ _ hj]; omega) (oneV_one _)
      have hb4 := hb3 w.heap.size w (below_drewN hb 1) (Nat.le_refl _)
      rw [repV_next] at hB3
      rw [oneV_length] at hrun
      have HB3 := hide hB3
      clear hB3 hb3
      generalize hk : min j (n - j) = k at *
      have hk1 : j + k ≤ n ∧ 0 < k := by omega
      clear hk
      have hwr : IntKind.i64.wrap ((j : Int) + (k : Int)) = ((j + k : Nat) : Int) := by rw [IntWalk.i64_in _ (by omega)]; omega
      go_region_held3 (fun _ => True) (first | trivial | exact True.intro) (fail)
      clear hwr
      go_wp2_with fail
      go_roundw
      case rel => exact ⟨j + k, hk1.1, by omega, by go_num, HB3.out, hb4⟩
      case measure => simp [intOf]; omega
    · obtain rfl : j = n := by omega
      go_wp2_with fail
      go_ret
      refine ⟨_, rfl, ?_, hb⟩
      have := own_of_blk (size := 1) (n := j) HBk.out (Nat.le_refl _) (by unfold maxLen; omega) (by simp [repV_length])
      rw [List.toList_toArray, repV_all] at this
      exact this
end Go.Proofs.Ytadlabndbomgmaa
