/- Walks: flex.Spread and its closure. -/
import Derived.BigQuiet
import Derived.Handy
import Derived.IntWalk
import Derived.Deep.RegionHeld3
import Derived.Test.YtadlabndbomgmaaRepeat
import Derived.Test.YtadlabndbomgmaaShareWalk
import Derived.Test.YtadlabndbomgmaaSpreadPlain
namespace Go.Proofs.Ytadlabndbomgmaa
open Go.ChangeShapes Go.WideShapes Go.ChangeAt Go.RowKit
set_option maxRecDepth 100000 in
theorem Spread1_any (p : Addr) (free : Int) (n : Nat) (w : World) (hp : w.cell? p = some (.int .i64 free)) (hn : n ≤ 1000) :
    Calls Try.prog 99 #[.int .i64 n, .pointer (some p)] w fun e w' => ∃ v, e = .returned v ∧ w'.ownsRow w.heap.size 3 1 v n ((onesF free n).map (Value.int .i64)) ∧ Below w.heap.size w w' := by
  have hlt := cell_lt hp
  go_enter Try.func99, Try.ntmps99
  go_wp2_with fail
  go_region_held3 (fun w' => w'.cell? p = some (.int .i64 free)) (first | go_keep | assumption)
    (first | (go_at_call 100; refine (Repeat_any w.heap.size 1 n _ ((Blk.new w.drew 3 #[.int .i64 1]).cell 0) hn).mono ?_; rintro e w2 ⟨v, rfl, hown, hb⟩; obtain ⟨X, cx, rfl, hcx, hx⟩ := own_reads hown; have hc2 : w2.cell? p = some (.int .i64 free) := (hb.cell (p := p) (by simp; omega)).trans ((World.cell?_alloc_lt w.drew _ p hlt).trans hp))
           | (go_at_call 32; refine (Share_any free _ n _ (List.replicate n 1) _ hx (by omega)).mono ?_; rintro e w3 ⟨v3, rfl, hown3, hb3⟩; have hc3 : w3.cell? p = some (.int .i64 free) := (hb3.cell (cell_lt hc2)).trans hc2))
  have b0 : Below w.heap.size w (w.drew.alloc (.cells #[.int .i64 1] 3)) := by go_grown
  have b2 := below_then b0 (Nat.le_refl _) hb
  have b3 := below_then b2 (Nat.le_refl _) hb3
  have s2 := b2.size
  clear b0 b2 hb hb3 hx hown
  go_wp2_with fail
  go_ret
  exact ⟨v3, rfl, own_mono hown3 s2, b3⟩
theorem betw_list (free : Int) (n : Nat) (h : 1 ≤ n) : (List.replicate n (0 : Int)).take 1 ++ onesF free (n - 1) ++ (List.replicate n 0).drop (1 + (onesF free (n - 1)).length) = 0 :: onesF free (n - 1) := by
  obtain ⟨m, rfl⟩ : ∃ m, n = m + 1 := ⟨n - 1, by omega⟩
  rw [onesF_length, List.drop_of_length_le (by simp; omega)]
  simp [List.replicate_succ]
theorem spread_end2 {w w3 : World} {n : Nat} {xs : List Int} (hn : n ≤ 50) (hl : xs.length = n) (hB : Blk w3 (w.heap.size + 1) 3 (intsA xs)) : w3.ownsRow w.heap.size 3 1 (.slice (some ⟨w.heap.size + 1, 0, none⟩) n n) n (xs.map (Value.int .i64)) := by
  have h1 := own_of_blk (base := w.heap.size) (size := 1) (n := n) hB (by omega) (by unfold maxLen; omega) (by rw [intsA_size]; omega)
  rwa [intsA_list] at h1
theorem spread_fin (w : World) (F : Value) (n : Nat) (xs : List Int) (C : Array Value) (hn : n ≤ 50) (hC : C = intsA xs) (hl : xs.length = n) :
    ((w.alloc (.cells #[F] 3)).alloc (.cells C 3)).ownsRow w.heap.size 3 1 (.slice (some ⟨w.heap.size + 1, 0, none⟩) n n) n (xs.map (Value.int .i64)) ∧ Below w.heap.size w ((w.alloc (.cells #[F] 3)).alloc (.cells C 3)) := by
  subst hC
  have hb := Blk.new (w.alloc (.cells #[F] 3)) 3 (intsA xs)
  have hs : (w.alloc (.cells #[F] 3)).heap.size = w.heap.size + 1 := by simp
  rw [hs] at hb
  have h1 := own_of_blk (base := w.heap.size) (size := 1) (n := n) hb (by omega) (by unfold maxLen; omega) (by rw [intsA_size]; omega)
  rw [intsA_list] at h1
  exact ⟨h1, by go_grown⟩
set_option maxRecDepth 100000 in
set_option maxHeartbeats 1000000 in
theorem Spread_any (mode free : Int) (n : Nat) (w : World) (hf : 0 ≤ free ∧ free ≤ 65535) (hn : n ≤ 50) :
    Calls Try.prog 59 #[.int .i64 mode, .int .i64 free, .int .i64 n] w fun e w' => ∃ v, e = .returned v ∧ w'.ownsRow w.heap.size 3 1 v n ((spreadF mode free n).map (Value.int .i64)) ∧ Below w.heap.size w w' := by
  obtain ⟨i0, hi0, hz0, hz1, hz2⟩ := info_parts int_info
  have hmk := fun W => run_make_rowN (P := Try.prog) 22 3 i0 _ Try.underlying22 hi0 hz0 .i64 .i64 n n (Nat.le_refl _) (by rw [hz2]; omega) (by omega) W
  rw [hz1, Nat.mul_one, show (Value.int .i64 0).cells = #[.int .i64 0] from rfl, made_ints] at hmk
  have hsz : (Try.prog.info? 3).map (·.size) = some 1 := by kernel_rfl
  have HS := hide hsz
  have hcut : cut free = free := cut_of (by omega) (by omega)
  have HC := hide hcut
  clear hsz hz0 hz1 hz2 hi0 hcut
  by_cases hn0 : n = 0
  · have hz : ((n : Int) == 0) = true := by simpa using hn0
    have hsp := hide (show spreadF mode free n = List.replicate n 0 from by rw [hn0, sp_zero]; rfl)
    clear hn0
    go_enter Try.func59, Try.ntmps59
    go_wp2_with (first | (go_at_call 28; refine (cut_any _ _).mono ?_; rintro e w' ⟨rfl, rfl⟩; rw [HC.out]) | fail)
    all_goals go_ret
    all_goals exact ⟨_, rfl, by rw [hsp.out]; exact (spread_fin w _ n _ _ hn rfl (by simp)).1, (spread_fin w _ n _ _ hn rfl (by simp)).2⟩
  · have hz : ((n : Int) == 0) = false := by simpa using hn0
    have hc0 : (intsA (List.replicate n 0))[0]? = some (.int .i64 0) := by rw [intsA_at _ _ (by simp; omega)]; simp [at0, show 0 < n by omega]
    have hl0 : 0 < n := by omega
    go_enter Try.func59, Try.ntmps59
    go_wp2_with (first | (go_at_call 28; refine (cut_any _ _).mono ?_; rintro e w' ⟨rfl, rfl⟩; rw [HC.out]) | (go_at_call 27; refine (part_any _ _ _ _ (by omega)).mono ?_; rintro e w' ⟨rfl, rfl⟩) | fail)
    · have hsp := hide (sp_rest n (mode := mode) (free := free) (by rw [modeF_4 (by assumption) (by assumption)]; omega) (by rw [modeF_4 (by assumption) (by assumption)]; omega) (by rw [modeF_4 (by assumption) (by assumption)]; omega) (by rw [modeF_4 (by assumption) (by assumption)]; omega))
      go_ret
      exact ⟨_, rfl, by rw [hsp.out]; exact (spread_fin w _ n _ _ hn rfl (by simp)).1, (spread_fin w _ n _ _ hn rfl (by simp)).2⟩
    · have hsp := hide (sp_mid hn0 (modeF_5 (mode := mode) (free := free) (by assumption) (by assumption)))
      go_ret
      exact ⟨_, rfl, by rw [hsp.out]; exact (spread_fin w _ n _ _ hn (intsA_set _ _ _) (by simp)).1, (spread_fin w _ n _ _ hn (intsA_set _ _ _) (by simp)).2⟩
    · have hm := modeF_else (mode := mode) (free := free) (by assumption) (by assumption) (by assumption)
      have h1 : (mode == 1) = true := by assumption
      have hsp := hide (sp_end (mode := mode) (free := free) hn0 (by rw [hm]; simpa using h1))
      clear hm
      go_ret
      exact ⟨_, rfl, by rw [hsp.out]; exact (spread_fin w _ n _ _ hn (intsA_set _ _ _) (by simp)).1, (spread_fin w _ n _ _ hn (intsA_set _ _ _) (by simp)).2⟩
    · have hm := modeF_else (mode := mode) (free := free) (by assumption) (by assumption) (by assumption)
      have h1 : (mode == 2) = true := by assumption
      have hsp := hide (sp_mid (mode := mode) (free := free) hn0 (by rw [hm]; simpa using h1))
      clear hm
      go_ret
      exact ⟨_, rfl, by rw [hsp.out]; exact (spread_fin w _ n _ _ hn (intsA_set _ _ _) (by simp)).1, (spread_fin w _ n _ _ hn (intsA_set _ _ _) (by simp)).2⟩
    · have hm := modeF_else (mode := mode) (free := free) (by assumption) (by assumption) (by assumption)
      have h1 : (mode == 1) = false := by assumption
      have h2 : (mode == 2) = false := by assumption
      have h4 : (mode == 4) = false := by assumption
      have h5 : (mode == 5) = false := by assumption
      have hsp := hide (sp_rest n (mode := mode) (free := free) (by rw [hm]; simpa using h1) (by rw [hm]; simpa using h2) (by rw [hm]; simpa using h4) (by rw [hm]; simpa using h5))
      clear hm
      go_ret
      exact ⟨_, rfl, by rw [hsp.out]; exact (spread_fin w _ n _ _ hn rfl (by simp)).1, (spread_fin w _ n _ _ hn rfl (by simp)).2⟩
    · have hm := modeF_pos (mode := mode) (free := free) (by assumption)
      have h1 : (mode == 1) = true := by assumption
      have hsp := hide (sp_end (mode := mode) (free := free) hn0 (by rw [hm]; simpa using h1))
      clear hm
      go_ret
      exact ⟨_, rfl, by rw [hsp.out]; exact (spread_fin w _ n _ _ hn (intsA_set _ _ _) (by simp)).1, (spread_fin w _ n _ _ hn (intsA_set _ _ _) (by simp)).2⟩
    · have hm := modeF_pos (mode := mode) (free := free) (by assumption)
      have h1 : (mode == 2) = true := by assumption
      have hsp := hide (sp_mid (mode := mode) (free := free) hn0 (by rw [hm]; simpa using h1))
      clear hm
      go_ret
      exact ⟨_, rfl, by rw [hsp.out]; exact (spread_fin w _ n _ _ hn (intsA_set _ _ _) (by simp)).1, (spread_fin w _ n _ _ hn (intsA_set _ _ _) (by simp)).2⟩
    · have hm := modeF_pos (mode := mode) (free := free) (by assumption)
      have h4 : (mode == 4) = true := by assumption
      have hsp := hide (sp_betw (mode := mode) (free := free) hn0 (by rw [hm]; simpa using h4))
      clear hm
      have hF : ((w.alloc (.cells #[.int .i64 free] 3)).alloc (.cells (intsA (List.replicate n 0)) 3)).cell? ⟨w.heap.size, 0, none⟩ = some (.int .i64 free) := ((Blk.new w 3 #[.int .i64 free]).alloc _).cell 0
      have hO := Blk.new (w.alloc (.cells #[.int .i64 free] 3)) 3 (intsA (List.replicate n 0))
      rw [show (w.alloc (.cells #[.int .i64 free] 3)).heap.size = w.heap.size + 1 by simp] at hO
      have hB : Below w.heap.size w ((w.alloc (.cells #[.int .i64 free] 3)).alloc (.cells (intsA (List.replicate n 0)) 3)) := by go_grown
      have HO := hide hO
      clear hO hc0 hmk
      generalize (w.alloc (.cells #[.int .i64 free] 3)).alloc (.cells (intsA (List.replicate n 0)) 3) = wA at *
      have hltF := cell_lt hF
      have hltO := HO.out.lt
      have hwr : IntKind.i64.wrap ((n : Int) - 1) = ((n - 1 : Nat) : Int) := by rw [IntWalk.i64_in _ (by omega)]; omega
      by_cases hn1 : n = 1
      · subst hn1
        have hcn : ∀ (W : World) (d : Option Addr) (X : Option Addr) (cx : Nat), (Builtin.copy_ #[22, 22] 3 #[.slice d 0 0, .slice X 0 cx]).run Try.prog W = .ok (.int .i64 0) W := fun W d X cx => run_copy_none (P := Try.prog) W 22 22 3 3 d X 0 0 0 cx Try.underlying22 HS.out rfl
        clear hwr
        have hwr1 : IntKind.i64.wrap (((1 : Nat) : Int) - 1) = 0 := rfl
        have hwr2 : IntKind.i64.wrap ((1 : Int) - 1) = 0 := rfl
        go_region_held3 (fun _ => True) (first | trivial | exact True.intro)
          (first | (go_at_call 99; refine (Spread1_any ⟨w.heap.size, 0, none⟩ free 0 wA.drew hF (by omega)).mono ?_; rintro e w2 ⟨v, rfl, hown, hb⟩; obtain ⟨X, cx, rfl, hcx, hx⟩ := own_reads hown))
        have b2 := below_then (below_drewN hB 1) (Nat.le_refl _) hb
        have hB2 := (HO.out.drew).below hb hltO
        clear hwr1 hwr2 hcn
        go_wp2_with fail
        go_ret
        refine ⟨_, rfl, ?_, b2⟩
        rw [hsp.out]
        have hl1 : onesF free (1 - 1) = [] := List.eq_nil_of_length_eq_zero (onesF_length _ _)
        rw [hl1]
        exact spread_end2 (n := 1) (xs := [0]) (by omega) rfl hB2
      · have hi1 : (0 : Int) ≤ (1 : Int) := by omega
        have hi2 : (1 : Int) ≤ (n : Int) := by omega
        have hi3 : ¬ n = 1 := hn1
        go_region_held3 (fun _ => True) (first | trivial | exact True.intro)
          (first | (go_at_call 99; refine (Spread1_any ⟨w.heap.size, 0, none⟩ free (n - 1) wA.drew hF (by omega)).mono ?_; rintro e w2 ⟨v, rfl, hown, hb⟩; obtain ⟨X, cx, rfl, hcx, hx⟩ := own_reads hown; obtain ⟨w3, hrun, hB3, hb3⟩ := copy_reads (P := Try.prog) w2 22 3 3 Try.underlying22 HS.out (w.heap.size + 1) 1 (n - 1) (n - 1) X cx w2.heap.size 3 ((List.replicate n 0).map (Value.int .i64)) ((onesF free (n - 1)).map (Value.int .i64)) ((HO.out.drew).below hb hltO) hx (by simp; omega) (ints_one _ _)))
        have b3 := hb3 w.heap.size w (below_then (below_drewN hB 1) (Nat.le_refl _) hb) (by omega)
        have hl1 := hide (onesF_length free (n - 1))
        rw [splice_ints, betw_list free n (by omega)] at hB3
        have HB3 := hide hB3
        clear hB3 hb3 hrun hx hwr hown
        go_wp2_with fail
        go_ret
        refine ⟨_, rfl, ?_, b3⟩
        rw [hsp.out]
        exact spread_end2 hn (by rw [List.length_cons, hl1.out]; omega) HB3.out
    · have hm := modeF_pos (mode := mode) (free := free) (by assumption)
      have h5 : (mode == 5) = true := by assumption
      have hsp := hide (sp_around (mode := mode) (free := free) hn0 (by rw [hm]; simpa using h5))
      clear hm
      have hF : ((w.alloc (.cells #[.int .i64 free] 3)).alloc (.cells (intsA (List.replicate n 0)) 3)).cell? ⟨w.heap.size, 0, none⟩ = some (.int .i64 free) := ((Blk.new w 3 #[.int .i64 free]).alloc _).cell 0
      have hO := Blk.new (w.alloc (.cells #[.int .i64 free] 3)) 3 (intsA (List.replicate n 0))
      rw [show (w.alloc (.cells #[.int .i64 free] 3)).heap.size = w.heap.size + 1 by simp] at hO
      have hB : Below w.heap.size w ((w.alloc (.cells #[.int .i64 free] 3)).alloc (.cells (intsA (List.replicate n 0)) 3)) := by go_grown
      have HO := hide hO
      clear hO hc0 hmk
      generalize (w.alloc (.cells #[.int .i64 free] 3)).alloc (.cells (intsA (List.replicate n 0)) 3) = wA at *
      have hltF := cell_lt hF
      have hltO := HO.out.lt
      have e2 : (2 * (n : Int)) = ((2 * n : Nat) : Int) := by omega
      rw [e2]
      clear e2
      refine (Spread1_any ⟨w.heap.size, 0, none⟩ free (2 * n) wA hF (by omega)).mono ?_
      rintro e w2 ⟨v, rfl, hown, hb⟩
      obtain ⟨X, cx, rfl, hcx, hx⟩ := own_reads hown
      obtain ⟨ad, rfl, hadb, _⟩ := hx.2 (by omega)
      have HX := hide hx
      have hge : ad.block ≠ w.heap.size + 1 := by
        have := own_ge hown ad.block rfl
        omega
      have b2 := below_then hB (Nat.le_refl _) hb
      have HO2 := hide (HO.out.below hb hltO)
      have hn2 : 2 * n - 1 ≤ 2 * n := by omega
      clear hx hown hb HO hB
      go_wp2_with fail
      go_loopw [67] (fun i wr => ∃ k : Nat, k ≤ 2 * n - 1 ∧ i = .int .i64 k ∧ Blk wr (w.heap.size + 1) 3 (intsA (aroundTo n (onesF free (2 * n)) k)) ∧ w2.grownBy wr (some (w.heap.size + 1))) (fun i _ => 2 * n - 1 - (intOf i).toNat)
      case atStart => exact ⟨0, Nat.zero_le _, rfl, HO2.out, World.grownBy.refl _ _⟩
      case round =>
        obtain ⟨k, hk, rfl, hblk, hgr⟩ := hrel
        have HBk := hide hblk
        clear hblk
        by_cases hlt : k < 2 * n - 1
        · obtain ⟨ad', e', _, hc'⟩ := HX.out.int_at (show k < 2 * n by omega)
          injection e' with e'
          subst e'
          have hcx : wr.cell? (ad.add k) = some (.int .i64 (at0 (onesF free (2 * n)) k)) := (World.cell?_of_block (hgr.block (ad.add k).block (by rw [block_of_add]; exact hadb) (by rw [block_of_add]; intro e; exact hge (Option.some.inj e)))).trans hc'
          have hix : (k + 1) / 2 < n := by omega
          have hco : wr.cell? ⟨w.heap.size + 1, (k + 1) / 2, none⟩ = some (.int .i64 (at0 (aroundTo n (onesF free (2 * n)) k) ((k + 1) / 2))) := (HBk.out.cell _).trans (intsA_at _ _ (by rw [aroundTo_length]; exact hix))
          have hb1 := ones_bd hf.1 (2 * n) k (by omega)
          have hb2 := around_bd hf.1 n k ((k + 1) / 2) hk
          have hE := hide (show (aroundTo n (onesF free (2 * n)) k).set ((k + 1) / 2) (at0 (aroundTo n (onesF free (2 * n)) k) ((k + 1) / 2) + at0 (onesF free (2 * n)) k) = aroundTo n (onesF free (2 * n)) (k + 1) from rfl)
          have hsz := hide (show (k + 1) / 2 < (intsA (aroundTo n (onesF free (2 * n)) k)).size from by rw [intsA_size, aroundTo_length]; exact hix)
          have hidx : (0 : Int) ≤ ((k : Int) + 1) / 2 := by omega
          have hidx2 : ((k : Int) + 1) / 2 < (n : Int) := by omega
          clear hc'
          generalize at0 (onesF free (2 * n)) k = x at *
          generalize at0 (aroundTo n (onesF free (2 * n)) k) ((k + 1) / 2) = y at *
          go_wp2_with (first | (refine wpList_store_fld rfl 3 _ _ rfl (w.heap.size + 1) ((k + 1) / 2) 3 (intsA (aroundTo n (onesF free (2 * n)) k)) (.int .i64 (y + x)) rfl rfl HBk.out hsz.out HS.out rfl rfl ?_; intro wn hBn hgn; rw [intsA_set, hE.out] at hBn; have HBn := hide hBn; clear hBn) | fail)
          go_roundw
          case rel => exact ⟨k + 1, by omega, by go_num, HBn.out, hgr.trans hgn⟩
          case measure => simp [intOf]; omega
        · obtain rfl : k = 2 * n - 1 := by omega
          have b3 := below_grown b2 (Nat.le_refl _) hgr (by omega)
          go_wp2_with fail
          go_ret
          refine ⟨_, rfl, ?_, b3⟩
          rw [hsp.out]
          exact spread_end2 hn (aroundTo_length _ _ _) HBk.out
    · have hm := modeF_pos (mode := mode) (free := free) (by assumption)
      have h1 : (mode == 1) = false := by assumption
      have h2 : (mode == 2) = false := by assumption
      have h4 : (mode == 4) = false := by assumption
      have h5 : (mode == 5) = false := by assumption
      have hsp := hide (sp_rest n (mode := mode) (free := free) (by rw [hm]; simpa using h1) (by rw [hm]; simpa using h2) (by rw [hm]; simpa using h4) (by rw [hm]; simpa using h5))
      clear hm
      go_ret
      exact ⟨_, rfl, by rw [hsp.out]; exact (spread_fin w _ n _ _ hn rfl (by simp)).1, (spread_fin w _ n _ _ hn rfl (by simp)).2⟩
end Go.Proofs.Ytadlabndbomgmaa
