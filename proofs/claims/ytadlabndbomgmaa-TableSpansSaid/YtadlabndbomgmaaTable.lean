/- The walks of the package table: sums; the widths of columns. -/
import Derived.BigQuiet
import Derived.Handy
import Derived.IntWalk
import Derived.RegionTactic
import Derived.Deep.QuietTactic
import Derived.Deep.MidRow
import Derived.Deep.RegionHeld3
import Derived.Test.YtadlabndbomgmaaRepeat
import Derived.Test.YtadlabndbomgmaaFixWhole
import Derived.Test.YtadlabndbomgmaaTablePlain
namespace Go.Proofs.Ytadlabndbomgmaa
open Go.ChangeShapes Go.WideShapes Go.ChangeAt Go.RowKit
theorem tsum_any (A : Option Addr) (n c : Nat) (xs : List Int) (B : Nat) (w : World) (hr : Reads w B 1 A n (xs.map (Value.int .i64))) (hn : n ≤ 1000000)
    (hb : ∀ k, k ≤ n → -1000000000000000000 ≤ psum xs k ∧ psum xs k ≤ 1000000000000000000) :
    Calls Try.prog 107 #[.slice A n c] w fun e w' => e = .returned (.int .i64 xs.sum) ∧ w = w' := by
  have hl : xs.length = n := by have := hr.1; simpa using this
  have HL := hide hl
  have HR := hide hr
  have HB := hide hb
  clear hr hl hb
  go_enter Try.func107, Try.ntmps107
  go_wp2_with fail
  go_loop [2, 4, 7] (fun s x i => ∃ k : Nat, k ≤ n ∧ i = .int .i64 k ∧ s = .int .i64 (psum xs k)) (fun _ _ i => n - (intOf i).toNat)
  case atStart => exact ⟨0, Nat.zero_le _, rfl, rfl⟩
  case round =>
    obtain ⟨k, hk, rfl, rfl⟩ := hrel
    by_cases hlt : k < n
    · obtain ⟨ad, rfl, _, hc⟩ := HR.out.int_at hlt
      have h1 := Lib.hid (psum_succ xs k (by have := HL.out; omega))
      have h2 := HB.out (k + 1) (by omega)
      rw [h1.out] at h2
      go_wp2
      go_round
      case rel => exact ⟨k + 1, by omega, by go_num, by rw [h1.out]⟩
      case measure => simp [intOf]; omega
    · have hk2 : k = n := by omega
      subst hk2
      have ht := Lib.hid (show psum xs k = xs.sum from by have := psum_all xs; rw [HL.out] at this; exact this)
      go_wp2
      go_ret
      exact ⟨ret_int ht.out, rfl⟩
def lowT (lt : List Int) : List Int := (List.range lt.length).map fun i => max 0 (cut (at0 lt i))
def moreT (lt mt : List Int) : List Int := (List.range lt.length).map fun i => max 0 (cut (at0 mt i) - max 0 (cut (at0 lt i)))
def lowK (lt : List Int) (k : Nat) : List Int := (List.range lt.length).map fun i => if i < k then max 0 (cut (at0 lt i)) else 0
def moreK (lt mt : List Int) (k : Nat) : List Int := (List.range lt.length).map fun i => if i < k then max 0 (cut (at0 mt i) - max 0 (cut (at0 lt i))) else 0
theorem lowK_zero (lt : List Int) : List.replicate lt.length 0 = lowK lt 0 := by apply List.ext_getElem <;> simp [lowK]
theorem moreK_zero (lt mt : List Int) : List.replicate lt.length 0 = moreK lt mt 0 := by apply List.ext_getElem <;> simp [moreK]
theorem set_row (f : Nat → Int) (n k : Nat) : (((List.range n).map fun i => if i < k then f i else 0).set k (f k)) = (List.range n).map fun i => if i < k + 1 then f i else 0 := by
  apply List.ext_getElem
  · simp
  · intro i h1 h2
    simp only [List.getElem_set, List.getElem_map, List.getElem_range]
    by_cases h : k = i
    · subst h; simp
    · rw [if_neg h]
      by_cases h3 : i < k
      · rw [if_pos h3, if_pos (by omega)]
      · rw [if_neg h3, if_neg (by omega)]
theorem lowK_next (lt : List Int) (k : Nat) : (lowK lt k).set k (max 0 (cut (at0 lt k))) = lowK lt (k + 1) := set_row _ _ k
theorem moreK_next (lt mt : List Int) (k : Nat) : (moreK lt mt k).set k (max 0 (cut (at0 mt k) - max 0 (cut (at0 lt k)))) = moreK lt mt (k + 1) := set_row _ _ k
theorem lowK_all (lt : List Int) : lowK lt lt.length = lowT lt := by
  unfold lowK lowT
  exact List.map_congr_left fun i hi => by rw [if_pos (List.mem_range.1 hi)]
theorem moreK_all (lt mt : List Int) : moreK lt mt lt.length = moreT lt mt := by
  unfold moreK moreT
  exact List.map_congr_left fun i hi => by rw [if_pos (List.mem_range.1 hi)]
/-- A row, k of its numbers turned. -/
def rowK (f g : Nat → Int) (n k : Nat) : List Int := (List.range n).map fun i => if i < k then f i else g i
theorem rowK_len (f g : Nat → Int) (n k : Nat) : (rowK f g n k).length = n := by simp [rowK]
theorem rowK_next (f g : Nat → Int) (n k : Nat) : (rowK f g n k).set k (f k) = rowK f g n (k + 1) := by
  apply List.ext_getElem
  · simp [rowK]
  · intro i h1 h2
    simp only [rowK, List.getElem_set, List.getElem_map, List.getElem_range]
    by_cases h : k = i
    · subst h; simp
    · rw [if_neg h]
      by_cases h3 : i < k
      · rw [if_pos h3, if_pos (by omega)]
      · rw [if_neg h3, if_neg (by omega)]
theorem rowK_at (f g : Nat → Int) (n k i : Nat) (h : i < n) : at0 (rowK f g n k) i = if i < k then f i else g i := by
  rw [at0_of _ i (by simpa [rowK] using h)]; simp [rowK]
theorem rowK_zero (f : Nat → Int) (l : List Int) (n : Nat) (h : l.length = n) : rowK f (at0 l) n 0 = l := by
  apply List.ext_getElem
  · simp [rowK, h]
  · intro i h1 h2; simp [rowK, at0_of l i h2]
theorem rowK_max (l m : List Int) (n : Nat) (h : l.length = n) : rowK (fun i => max (at0 l i) (at0 m i)) (at0 l) n n = maxL l m := by
  unfold rowK maxL
  rw [h]
  exact List.map_congr_left fun i hi => by rw [if_pos (List.mem_range.1 hi)]
theorem rowK_add (l m : List Int) (n : Nat) (h : l.length = n) : rowK (fun i => at0 l i + at0 m i) (at0 l) n n = addL l m := by
  unfold rowK addL
  rw [h]
  exact List.map_congr_left fun i hi => by rw [if_pos (List.mem_range.1 hi)]
theorem lowT_len (lt : List Int) : (lowT lt).length = lt.length := by simp [lowT]
theorem moreT_len (lt mt : List Int) : (moreT lt mt).length = lt.length := by simp [moreT]
theorem at0_end (l : List Int) (k : Nat) (h : l.length ≤ k) : at0 l k = 0 := by simp [at0, List.getD, List.getElem?_eq_none h]
theorem lowT_bd (lt : List Int) (k : Nat) : 0 ≤ at0 (lowT lt) k ∧ at0 (lowT lt) k ≤ 16777216 := by
  by_cases h : k < (lowT lt).length
  · rw [at0_of _ k h]
    have := cut_hi (at0 lt k)
    simp [lowT]; omega
  · rw [at0_end _ k (by omega)]; omega
theorem moreT_bd (lt mt : List Int) (k : Nat) : 0 ≤ at0 (moreT lt mt) k ∧ at0 (moreT lt mt) k ≤ 16777216 := by
  by_cases h : k < (moreT lt mt).length
  · rw [at0_of _ k h]
    have := cut_hi (at0 mt k)
    simp [moreT]; omega
  · rw [at0_end _ k (by omega)]; omega
theorem psum_bd {l : List Int} (h : ∀ k, 0 ≤ at0 l k ∧ at0 l k ≤ 16777216) (n : Nat) (hn : n ≤ 1000) (hl : l.length = n) : ∀ k, k ≤ n → 0 ≤ psum l k ∧ psum l k ≤ 16777216000
  | k, hk => by
    rw [psum_fsum l k (by omega)]
    have := fsum_bd (f := at0 l) (lo := 0) (hi := 16777216) (k := k) fun i _ => h i
    omega
theorem reads_ints {w : World} {g n : Nat} {t : TypeId} {xs : List Int} (h : Blk w g t (intsA xs)) (hn : xs.length = n) (hm : n ≤ 1000000) : Reads w w.heap.size 1 (some ⟨g, 0, none⟩) n (xs.map (Value.int .i64)) := by
  have := own_of_blk (base := 0) (size := 1) (n := n) h (Nat.zero_le _) (by simp only [maxLen]; omega) (by rw [intsA_size, hn, Nat.mul_one])
  rw [intsA_list] at this
  exact Reads.of_own this
def freeT (room spacing : Int) (n : Nat) : Int := max 0 (cut room - max 0 (cut spacing) * ((n : Int) + 1))
set_option maxRecDepth 100000 in
set_option maxHeartbeats 4000000 in
theorem Widths_any (room spacing : Int) (lt mt : List Int) (fixed : Bool) (n c c2 B : Nat) (A A2 : Option Addr) (w : World) (hr : Reads w B 1 A n (lt.map (Value.int .i64))) (hr2 : Reads w B 1 A2 n (mt.map (Value.int .i64))) (hB : B ≤ w.heap.size) (hn : n ≤ 1000) :
    Calls Try.prog 64 #[.int .i64 room, .int .i64 spacing, .slice A n c, .slice A2 n c2, .bool fixed] w fun e w' => ∃ v, e = .returned v ∧ w'.ownsRow w.heap.size 3 1 v n ((tableF (freeT room spacing n) (lowT lt) (moreT lt mt) fixed).map (Value.int .i64)) ∧ Below w.heap.size w w' := by
  have hl : lt.length = n := by have := hr.1; simpa using this
  have hl2 : mt.length = n := by have := hr2.1; simpa using this
  have HR := hide hr
  have HR2 := hide hr2
  obtain ⟨i0, hi0, hz0, hz1, hz2⟩ := info_parts int_info
  have hmk := fun Wo => run_make_rowN (P := Try.prog) 22 3 i0 _ Try.underlying22 hi0 hz0 .i64 .i64 n n (Nat.le_refl _) (by rw [hz2]; omega) (by omega) Wo
  rw [hz1, Nat.mul_one, show (Value.int .i64 0).cells = #[.int .i64 0] from rfl, made_ints] at hmk
  clear hz0 hz1 hz2 hi0 hr hr2
  have HL := hide hl
  have HL2 := hide hl2
  clear hl hl2
  go_enter Try.func64, Try.ntmps64
  go_wp2_with fail
  have hK1 := hide ((Blk.new w 3 (intsA (List.replicate n 0))).alloc (.cells (intsA (List.replicate n 0)) 3))
  have hk2 := Blk.new (w.alloc (.cells (intsA (List.replicate n 0)) 3)) 3 (intsA (List.replicate n 0))
  rw [show (w.alloc (.cells (intsA (List.replicate n 0)) 3)).heap.size = w.heap.size + 1 by simp] at hk2
  have hK2 := hide hk2
  have hL : Below w.heap.size w ((w.alloc (.cells (intsA (List.replicate n 0)) 3)).alloc (.cells (intsA (List.replicate n 0)) 3)) := by go_grown
  clear hk2
  go_region
  obtain ⟨p, hp⟩ : ∃ p, p = w.heap.size := ⟨_, rfl⟩
  obtain ⟨q, hq⟩ : ∃ q, q = w.heap.size + 1 := ⟨_, rfl⟩
  have hpq : p ≠ q := by omega
  have hpw : w.heap.size ≤ p ∧ w.heap.size ≤ q := by omega
  have K1 := hide (show Blk ((w.alloc (.cells (intsA (List.replicate n 0)) 3)).alloc (.cells (intsA (List.replicate n 0)) 3)).drew p 3 (intsA (List.replicate n 0)) from by rw [hp]; exact hK1.out.drew)
  have K2 := hide (show Blk ((w.alloc (.cells (intsA (List.replicate n 0)) 3)).alloc (.cells (intsA (List.replicate n 0)) 3)).drew q 3 (intsA (List.replicate n 0)) from by rw [hq]; exact hK2.out.drew)
  have hL' := hL.drew
  rw [← hq, ← hp]
  clear hp hq hK1 hK2 hL hmk
  rotate_left
  obtain ⟨p, hp⟩ : ∃ p, p = w.heap.size + 1 := ⟨_, rfl⟩
  obtain ⟨q, hq⟩ : ∃ q, q = w.heap.size := ⟨_, rfl⟩
  have hpq : p ≠ q := by omega
  have hpw : w.heap.size ≤ p ∧ w.heap.size ≤ q := by omega
  have K1 := hide (show Blk ((w.alloc (.cells (intsA (List.replicate n 0)) 3)).alloc (.cells (intsA (List.replicate n 0)) 3)).drew p 3 (intsA (List.replicate n 0)) from by rw [hp]; exact hK2.out.drew)
  have K2 := hide (show Blk ((w.alloc (.cells (intsA (List.replicate n 0)) 3)).alloc (.cells (intsA (List.replicate n 0)) 3)).drew q 3 (intsA (List.replicate n 0)) from by rw [hq]; exact hK1.out.drew)
  have hL' := hL.drew
  rw [← hp, ← hq]
  clear hp hq hK1 hK2 hL hmk
  all_goals
    generalize ((w.alloc (.cells (intsA (List.replicate n 0)) 3)).alloc (.cells (intsA (List.replicate n 0)) 3)).drew = wA at *
    have HN := hide (show List.replicate n 0 = lowK lt 0 ∧ List.replicate n 0 = moreK lt mt 0 from by rw [← HL.out]; exact ⟨lowK_zero lt, moreK_zero lt mt⟩)
    go_wp2_with fail
    go_loopw [30] (fun i wr => ∃ k : Nat, k ≤ n ∧ i = .int .i64 k ∧ Blk wr p 3 (intsA (lowK lt k)) ∧ Blk wr q 3 (intsA (moreK lt mt k)) ∧ Below w.heap.size w wr) (fun i _ => n - (intOf i).toNat)
    case atStart => exact ⟨0, Nat.zero_le _, rfl, by rw [← HN.out.1]; exact K1.out, by rw [← HN.out.2]; exact K2.out, hL'⟩
    case round =>
      obtain ⟨k, hk, rfl, hk1, hk2, hbel⟩ := hrel
      have P1 := hide hk1
      have P2 := hide hk2
      clear hk1 hk2 K1 K2 HN hL'
      by_cases hlt : k < n
      · obtain ⟨ad, rfl, _, c1⟩ := ((HR.out.more hB).below hbel).int_at hlt
        obtain ⟨ad2, rfl, hlt2, c2w⟩ := (HR2.out.more hB).int_at hlt
        have C2 := hide c2w
        clear c2w
        have hk1 : (0 : Int) ≤ (k : Int) := by omega
        have hk2 : (k : Int) < (n : Int) := by omega
        obtain ⟨u1, s1⟩ : ∃ u, wr.cell? ⟨p, k, none⟩ = some u := ⟨_, (P1.out.cell k).trans (Array.getElem?_eq_getElem (by rw [intsA_size]; simp [lowK, HL.out]; exact hlt))⟩
        obtain ⟨u2, s2⟩ : ∃ u, wr.cell? ⟨q, k, none⟩ = some u := ⟨_, (P2.out.cell k).trans (Array.getElem?_eq_getElem (by rw [intsA_size]; simp [moreK, HL.out]; exact hlt))⟩
        have z1 : wr.frozen? ⟨p, k, none⟩ = false := P1.out.frozen k
        have z2 : wr.frozen? ⟨q, k, none⟩ = false := P2.out.frozen k
        have N1 := hide (lowK_next lt k)
        have N2 := hide (moreK_next lt mt k)
        generalize at0 lt k = x at *
        generalize at0 mt k = y at *
        go_wp2_with (first | (go_at_call 28; refine (cut_any _ _).mono ?_; rintro e w' ⟨rfl, rfl⟩) | fail)
        have q1 := P1.out.set_ k (.int .i64 (max 0 (cut x)))
        rw [intsA_set, N1.out] at q1
        have Q1 := hide q1
        have Q2 := hide (P2.out.far (p := ⟨p, k, none⟩) (fun h => hpq h.symm) (.int .i64 (max 0 (cut x))))
        have L1 := hbel.setCell (p := ⟨p, k, none⟩) hpw.1 (.int .i64 (max 0 (cut x)))
        have s3 : (wr.setCell ⟨p, k, none⟩ (.int .i64 (max 0 (cut x)))).cell? ⟨p, k, none⟩ = some (.int .i64 (max 0 (cut x))) := (q1.cell k).trans (by rw [intsA_at _ _ (by simp [lowK, HL.out]; exact hlt), ← N1.out, at0_of _ k (by simp [lowK, HL.out]; exact hlt), List.getElem_set_self])
        have s4 : (wr.setCell ⟨p, k, none⟩ (.int .i64 (max 0 (cut x)))).cell? ⟨q, k, none⟩ = some u2 := (Q2.out.cell k).trans ((P2.out.cell k).symm.trans s2)
        have s5 : (wr.setCell ⟨p, k, none⟩ (.int .i64 (max 0 (cut x)))).frozen? ⟨q, k, none⟩ = false := Q2.out.frozen k
        have s6 : (wr.setCell ⟨p, k, none⟩ (.int .i64 (max 0 (cut x)))).cell? (ad2.add k) = some (.int .i64 y) := (L1.cell (p := ad2.add k) (by rw [block_of_add]; exact hlt2)).trans C2.out
        have hw : IntKind.i64.wrap (cut y - max 0 (cut x)) = cut y - max 0 (cut x) := IntWalk.i64_in _ (by have := cut_lo y; have := cut_hi y; have := cut_lo x; have := cut_hi x; omega)
        have hqa : ad2.block ≠ q := by omega
        have hqb : q ≠ ad2.block := by omega
        have hqp : q ≠ p := fun h => hpq h.symm
        clear q1 s1 s2 z1 z2 c1 P1 P2 N1 hbel
        generalize wr.setCell ⟨p, k, none⟩ (.int .i64 (max 0 (cut x))) = w1 at *
        have SA := hide (show (w1.setCell ⟨q, k, none⟩ (.int .i64 (max 0 (cut y - max 0 (cut x))))).drew.cell? ⟨p, k, none⟩ = some (.int .i64 (max 0 (cut x))) from (World.cell?_setCell_other w1 ⟨q, k, none⟩ ⟨p, k, none⟩ _ (fun e => by have h9 := congrArg Addr.block e; first | exact hqp h9 | exact hqp h9.symm)).trans s3)
        have SB := hide (show (w1.setCell ⟨q, k, none⟩ (.int .i64 (max 0 (cut y - max 0 (cut x))))).drew.cell? (ad2.add k) = some (.int .i64 y) from (World.cell?_setCell_other w1 ⟨q, k, none⟩ (ad2.add k) _ (fun e => by have h9 := congrArg Addr.block e; rw [block_of_add] at h9; first | exact hqb h9 | exact hqb h9.symm)).trans s6)
        go_region_held3 (fun W => W.cell? ⟨p, k, none⟩ = some (.int .i64 (max 0 (cut x))) ∧ W.cell? (ad2.add k) = some (.int .i64 y)) (first | exact ⟨s3, s6⟩ | exact ⟨SA.out, SB.out⟩) (first | (go_at_call 28; refine (cut_any _ _).mono ?_; rintro e w' ⟨rfl, rfl⟩) | fail)
        all_goals
          have q5 := (Q2.out.set_ k (.int .i64 (max 0 (cut y - max 0 (cut x))))).drew
          rw [intsA_set, N2.out] at q5
          have Q5 := hide q5
          have Q4 := hide ((Q1.out.far (p := ⟨q, k, none⟩) hpq (.int .i64 (max 0 (cut y - max 0 (cut x))))).drew)
          have L5 := (L1.setCell (p := ⟨q, k, none⟩) hpw.2 (.int .i64 (max 0 (cut y - max 0 (cut x))))).drew
          clear q5 Q1 Q2 L1 s3 s4 s5 s6 hw SA SB
          generalize (w1.setCell ⟨q, k, none⟩ (.int .i64 (max 0 (cut y - max 0 (cut x))))).drew = w5 at *
          go_wp2_with fail
          go_roundw
          case rel => exact ⟨k + 1, by omega, by go_num, Q4.out, Q5.out, L5⟩
          case measure => simp [intOf]; omega
      · obtain rfl : k = n := by omega
        have p1 := P1.out
        have p2 := P2.out
        rw [show lowK lt k = lowT lt from by rw [← HL.out]; exact lowK_all lt] at p1
        rw [show moreK lt mt k = moreT lt mt from by rw [← HL.out]; exact moreK_all lt mt] at p2
        have hll : (lowT lt).length = k := by rw [lowT_len]; exact HL.out
        have hml : (moreT lt mt).length = k := by rw [moreT_len]; exact HL.out
        have hlb := lowT_bd lt
        have hmb := moreT_bd lt mt
        have hc1 := cut_lo spacing
        have hc2 := cut_hi spacing
        have hc3 := cut_lo room
        have hc4 := cut_hi room
        have hm1 : 0 ≤ max 0 (cut spacing) * ((k : Int) + 1) := Int.mul_nonneg (by omega) (by omega)
        have hm2 : max 0 (cut spacing) * ((k : Int) + 1) ≤ 16777216 * 1001 := Int.mul_le_mul (by omega) (by omega) (by omega) (by omega)
        have hfr : 0 ≤ freeT room spacing k ∧ freeT room spacing k ≤ 16777216 := by unfold freeT; omega
        have HFR := hide (show max 0 (cut room - max 0 (cut spacing) * ((k : Int) + 1)) = freeT room spacing k from rfl)
        have P3 := hide p1
        have P4 := hide p2
        have HLB := hide hlb
        have HMB := hide hmb
        have HLL := hide hll
        have HML := hide hml
        clear p1 p2 P1 P2 hlb hmb hll hml
        cases fixed
        · have hsm := psum_bd HLB.out k hn HLL.out
          have hsq := psum_bd HMB.out k hn HML.out
          have hs1 : 0 ≤ (lowT lt).sum ∧ (lowT lt).sum ≤ 16777216000 := by have h9 := hsm k (Nat.le_refl _); have h8 := psum_all (lowT lt); rw [HLL.out] at h8; rw [h8] at h9; exact h9
          have hs2 : 0 ≤ (moreT lt mt).sum ∧ (moreT lt mt).sum ≤ 16777216000 := by have h9 := hsq k (Nat.le_refl _); have h8 := psum_all (moreT lt mt); rw [HML.out] at h8; rw [h8] at h9; exact h9
          have RL := hide (reads_ints P3.out HLL.out (by omega))
          have RM := hide (reads_ints P4.out HML.out (by omega))
          have TB := hide (show tableF (freeT room spacing k) (lowT lt) (moreT lt mt) false = if freeT room spacing k ≤ (lowT lt).sum then lowT lt else addL (lowT lt) (shared (min (freeT room spacing k - (lowT lt).sum) (moreT lt mt).sum) (moreT lt mt)) from rfl)
          have SL := hide (fun wq (h : Reads wq wr.heap.size 1 (some ⟨p, 0, none⟩) k ((lowT lt).map (Value.int .i64))) => tsum_any (some ⟨p, 0, none⟩) k k (lowT lt) wr.heap.size wq h (by omega) (fun j hj => by have := hsm j hj; omega))
          have SM := hide (fun wq (h : Reads wq wr.heap.size 1 (some ⟨q, 0, none⟩) k ((moreT lt mt).map (Value.int .i64))) => tsum_any (some ⟨q, 0, none⟩) k k (moreT lt mt) wr.heap.size wq h (by omega) (fun j hj => by have := hsq j hj; omega))
          clear hsm hsq
          go_wp2_with (first | (go_at_call 28; refine (cut_any _ _).mono ?_; rintro e w' ⟨rfl, rfl⟩) | fail)
          rw [HFR.out]
          generalize hfree : freeT room spacing k = free at *
          have HFREE := hide hfree
          clear hfree HFR hm1 hm2 hc1 hc2 hc3 hc4
          refine (SL.out wr RL.out).mono ?_
          rintro e w' ⟨rfl, rfl⟩
          generalize hsl : (lowT lt).sum = sl at *
          have HSL := hide hsl
          clear hsl
          by_cases hc : free ≤ sl
          · have z1 : decide (free ≤ sl) = true := decide_eq_true hc
            have HT := hide (show tableF free (lowT lt) (moreT lt mt) false = lowT lt from by rw [TB.out, if_pos hc])
            clear hc TB
            have hrow := own_of_blk (base := w.heap.size) (size := 1) (n := k) P3.out hpw.1 (by simp only [maxLen]; omega) (by rw [intsA_size, HLL.out, Nat.mul_one])
            rw [intsA_list] at hrow
            have HR9 := hide hrow
            clear hrow
            go_wp2_with fail
            go_ret
            exact ⟨_, rfl, by rw [HFREE.out, HT.out]; exact HR9.out, hbel⟩
          · have z1 : decide (free ≤ sl) = false := decide_eq_false hc
            have HMS0 := hide (shared_nonneg (n := min (free - sl) (moreT lt mt).sum) (moreT lt mt) (by omega))
            have HMS1 := hide (shared_le (n := min (free - sl) (moreT lt mt).sum) (moreT lt mt) (by omega))
            have HMS := hide (fun j => (⟨HMS0.out j, HMS1.out j⟩ : 0 ≤ at0 (shared (min (free - sl) (moreT lt mt).sum) (moreT lt mt)) j ∧ at0 (shared (min (free - sl) (moreT lt mt).sum) (moreT lt mt)) j ≤ 16777216))
            have HTA := hide (show tableF free (lowT lt) (moreT lt mt) false = addL (lowT lt) (shared (min (free - sl) (moreT lt mt).sum) (moreT lt mt)) from by rw [TB.out, if_neg hc])
            clear hc TB HMS0 HMS1
            go_wp2_with fail
            refine (SL.out wr RL.out).mono ?_
            rintro e w' ⟨rfl, rfl⟩
            go_wp2_with fail
            refine (SM.out wr RM.out).mono ?_
            rintro e w' ⟨rfl, rfl⟩
            generalize (moreT lt mt).sum = sm at *
            have hd1 : -16777216000 ≤ free - sl ∧ free - sl ≤ 16777216 := by omega
            go_wp2_with fail
            refine (Share_any (min (free - sl) sm) (some ⟨q, 0, none⟩) k k (moreT lt mt) wr RM.out (by omega)).mono ?_
            rintro e w3 ⟨v3, rfl, own3, hb3⟩
            generalize shared (min (free - sl) sm) (moreT lt mt) = ms at *
            have hpr := P3.out.lt
            obtain ⟨Y, cy, rfl, _, _⟩ := own_reads own3
            have P6 := hide (P3.out.below hb3 hpr)
            have NP := hide (show ∀ g, (Value.slice Y k cy).ownBlock = some g → g ≠ p from fun g hg => by have := own_ge own3 g hg; omega)
            have S3 := hide own3
            have L3 := below_then hbel (Nat.le_refl _) hb3
            have HTB := hide (show tableF (freeT room spacing k) (lowT lt) (moreT lt mt) false = addL (lowT lt) ms ∧ (addL (lowT lt) ms).length = k from ⟨by rw [HFREE.out]; exact HTA.out, by rw [addL_length]; exact HLL.out⟩)
            clear own3 hb3 SL SM HTA
            go_wp2_with fail
            go_loopw [77] (fun i wq => ∃ j : Nat, j ≤ k ∧ i = .int .i64 j ∧ Hid (Blk wq p 3 (intsA (rowK (fun i => at0 (lowT lt) i + at0 ms i) (at0 (lowT lt)) k j))) ∧ Hid (wq.ownsRow wr.heap.size 3 1 (.slice Y k cy) k (ms.map (Value.int .i64))) ∧ Below w.heap.size w wq) (fun i _ => k - (intOf i).toNat)
            case atStart => exact ⟨0, Nat.zero_le _, rfl, hide (by rw [rowK_zero _ _ _ HLL.out]; exact P6.out), S3, L3⟩
            case round =>
              obtain ⟨j, hj, rfl, HP, HS, hbq⟩ := hrel
              by_cases hjk : j < k
              · obtain ⟨ady, rfl, _, cy1⟩ := (Reads.of_own HS.out).int_at hjk
                have hp1 : wr.cell? ⟨p, j, none⟩ = some (.int .i64 (at0 (lowT lt) j)) := (HP.out.cell j).trans (by rw [intsA_at _ _ (by rw [rowK_len]; exact hjk), rowK_at _ _ _ _ _ hjk, if_neg (Nat.lt_irrefl _)])
                have hz1 : wr.frozen? ⟨p, j, none⟩ = false := HP.out.frozen j
                have hj1 : (0 : Int) ≤ (j : Int) := by omega
                have hj2 : (j : Int) < (k : Int) := by omega
                have hb1 := HLB.out j
                have hb2 := HMS.out j
                have NX := hide (rowK_next (fun i => at0 (lowT lt) i + at0 ms i) (at0 (lowT lt)) k j)
                generalize hx : at0 (lowT lt) j = x at *
                generalize hy : at0 ms j = y at *
                have q1 := HP.out.set_ j (.int .i64 (x + y))
                rw [intsA_set, show rowK (fun i => at0 (lowT lt) i + at0 ms i) (at0 (lowT lt)) k j = rowK (fun i => at0 (lowT lt) i + at0 ms i) (at0 (lowT lt)) k j from rfl] at q1
                have NX2 := hide (show (rowK (fun i => at0 (lowT lt) i + at0 ms i) (at0 (lowT lt)) k j).set j (x + y) = rowK (fun i => at0 (lowT lt) i + at0 ms i) (at0 (lowT lt)) k (j + 1) from by rw [← NX.out, ← hx, ← hy])
                rw [NX2.out] at q1
                have Q1 := hide q1
                have S1 := hide (own_far HS.out (p := ⟨p, j, none⟩) (fun h => NP.out _ h rfl) (.int .i64 (x + y)))
                have Lq := hbq.setCell (p := ⟨p, j, none⟩) hpw.1 (.int .i64 (x + y))
                clear q1 hx hy HP HS NX NX2
                go_wp2_with fail
                go_roundw
                case rel => exact ⟨j + 1, by omega, by go_num, Q1, S1, Lq⟩
                case measure => simp [intOf]; omega
              · obtain rfl : j = k := by omega
                have hpf := HP.out
                rw [rowK_add _ _ _ HLL.out] at hpf
                have hrow := own_of_blk (base := w.heap.size) (size := 1) (n := j) hpf hpw.1 (by simp only [maxLen]; omega) (by rw [intsA_size, HTB.out.2, Nat.mul_one])
                rw [intsA_list] at hrow
                have HR9 := hide hrow
                clear hrow hpf
                go_wp2_with fail
                go_ret
                exact ⟨_, rfl, by rw [HTB.out.1]; exact HR9.out, hbq⟩
        · have HMS := hide (fun j => ones_bd hfr.1 k j hn)
          rw [show onesF (freeT room spacing k) k = shared (freeT room spacing k) (List.replicate k 1) from rfl] at HMS
          have HTA := hide (show tableF (freeT room spacing k) (lowT lt) (moreT lt mt) true = maxL (lowT lt) (shared (freeT room spacing k) (List.replicate k 1)) from by show maxL (lowT lt) (onesF (freeT room spacing k) (lowT lt).length) = _; rw [HLL.out]; rfl)
          go_wp2_with (first | (go_at_call 28; refine (cut_any _ _).mono ?_; rintro e w' ⟨rfl, rfl⟩) | fail)
          rw [HFR.out]
          clear HFR hm1 hm2 hc1 hc2 hc3 hc4
          refine (Repeat_any wr.heap.size 1 k _ ((Blk.new wr 3 #[.int .i64 1]).cell 0) hn).mono ?_
          rintro e w2 ⟨v2, rfl, own2, hb2⟩
          obtain ⟨X, cx, rfl, _, rx⟩ := own_reads own2
          have hpr := P3.out.lt
          have P5 := hide ((P3.out.alloc (.cells #[.int .i64 1] 3)).below hb2 (by simp; omega))
          have L2 := below_then (hbel.alloc hbel.size (.cells #[.int .i64 1] 3)) (Nat.le_refl _) hb2
          have RX := hide rx
          clear own2 hb2 rx
          go_wp2_with fail
          refine (Share_any (freeT room spacing k) X k cx (List.replicate k 1) w2 RX.out (by omega)).mono ?_
          rintro e w3 ⟨v3, rfl, own3, hb3⟩
          generalize shared (freeT room spacing k) (List.replicate k 1) = ms at *
          obtain ⟨Y, cy, rfl, _, _⟩ := own_reads own3
          have hp5 := P5.out.lt
          have P6 := hide (P5.out.below hb3 hp5)
          have NP := hide (show ∀ g, (Value.slice Y k cy).ownBlock = some g → g ≠ p from fun g hg => by have := own_ge own3 g hg; omega)
          have S3 := hide own3
          have L3 := below_then L2 (Nat.le_refl _) hb3
          have HTB := hide (show tableF (freeT room spacing k) (lowT lt) (moreT lt mt) true = maxL (lowT lt) ms ∧ (maxL (lowT lt) ms).length = k from ⟨HTA.out, by rw [maxL_length]; exact HLL.out⟩)
          clear own3 hb3 HTA RX P5 L2
          go_wp2_with fail
          go_loopw [98] (fun i wq => ∃ j : Nat, j ≤ k ∧ i = .int .i64 j ∧ Hid (Blk wq p 3 (intsA (rowK (fun i => max (at0 (lowT lt) i) (at0 ms i)) (at0 (lowT lt)) k j))) ∧ Hid (wq.ownsRow w2.heap.size 3 1 (.slice Y k cy) k (ms.map (Value.int .i64))) ∧ Below w.heap.size w wq) (fun i _ => k - (intOf i).toNat)
          case atStart => exact ⟨0, Nat.zero_le _, rfl, hide (by rw [rowK_zero _ _ _ HLL.out]; exact P6.out), S3, L3⟩
          case round =>
            obtain ⟨j, hj, rfl, HP, HS, hbq⟩ := hrel
            by_cases hjk : j < k
            · obtain ⟨ady, rfl, _, cy1⟩ := (Reads.of_own HS.out).int_at hjk
              have hp1 : wr.cell? ⟨p, j, none⟩ = some (.int .i64 (at0 (lowT lt) j)) := (HP.out.cell j).trans (by rw [intsA_at _ _ (by rw [rowK_len]; exact hjk), rowK_at _ _ _ _ _ hjk, if_neg (Nat.lt_irrefl _)])
              have hz1 : wr.frozen? ⟨p, j, none⟩ = false := HP.out.frozen j
              have hj1 : (0 : Int) ≤ (j : Int) := by omega
              have hj2 : (j : Int) < (k : Int) := by omega
              have hb1 := HLB.out j
              have hb2 := HMS.out j
              have NX := hide (rowK_next (fun i => max (at0 (lowT lt) i) (at0 ms i)) (at0 (lowT lt)) k j)
              generalize hx : at0 (lowT lt) j = x at *
              generalize hy : at0 ms j = y at *
              have q1 := HP.out.set_ j (.int .i64 (max x y))
              rw [intsA_set, show rowK (fun i => max (at0 (lowT lt) i) (at0 ms i)) (at0 (lowT lt)) k j = rowK (fun i => max (at0 (lowT lt) i) (at0 ms i)) (at0 (lowT lt)) k j from rfl] at q1
              have NX2 := hide (show (rowK (fun i => max (at0 (lowT lt) i) (at0 ms i)) (at0 (lowT lt)) k j).set j (max x y) = rowK (fun i => max (at0 (lowT lt) i) (at0 ms i)) (at0 (lowT lt)) k (j + 1) from by rw [← NX.out, ← hx, ← hy])
              rw [NX2.out] at q1
              have Q1 := hide q1
              have S1 := hide (own_far HS.out (p := ⟨p, j, none⟩) (fun h => NP.out _ h rfl) (.int .i64 (max x y)))
              have Lq := hbq.setCell (p := ⟨p, j, none⟩) hpw.1 (.int .i64 (max x y))
              clear q1 hx hy HP HS NX NX2
              go_wp2_with fail
              go_roundw
              case rel => exact ⟨j + 1, by omega, by go_num, Q1, S1, Lq⟩
              case measure => simp [intOf]; omega
            · obtain rfl : j = k := by omega
              have hpf := HP.out
              rw [rowK_max _ _ _ HLL.out] at hpf
              have hrow := own_of_blk (base := w.heap.size) (size := 1) (n := j) hpf hpw.1 (by simp only [maxLen]; omega) (by rw [intsA_size, HTB.out.2, Nat.mul_one])
              rw [intsA_list] at hrow
              have HR9 := hide hrow
              clear hrow hpf
              go_wp2_with fail
              go_ret
              exact ⟨_, rfl, by rw [HTB.out.1]; exact HR9.out, hbq⟩
end Go.Proofs.Ytadlabndbomgmaa
