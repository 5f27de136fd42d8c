/- The walk of Mains: how long the items of a row are. -/
import Derived.BigQuiet
import Derived.Handy
import Derived.IntWalk
import Derived.Deep.MidRow
import Derived.Deep.RegionHeld3
import Derived.Deep.LoopGhost
import Derived.Test.YtadlabndbomgmaaFlexT
import Derived.Test.YtadlabndbomgmaaFlexI
import Derived.Test.YtadlabndbomgmaaMainsLaw
namespace Go.Proofs.Ytadlabndbomgmaa
open Go.ChangeShapes Go.WideShapes Go.ChangeAt Go.RowKit
/-- The state behind k rounds of the first loop. -/
def itsM (grows : Bool) (xs : List Fx) (k : Nat) : Its := ⟨fun i => decide (i < k) && setO grows (fxAt xs i), fun i => if i < k ∧ setO grows (fxAt xs i) = true then (fxAt xs i).lng else 0⟩
theorem itsM_zero (grows : Bool) (xs : List Fx) : itV xs (itsM grows xs 0) = itV xs its0 := flat_congr fun i _ => by simp [itsM, its0]
theorem itsM_all (grows : Bool) (xs : List Fx) : itV xs (itsM grows xs xs.length) = itV xs (its1 grows xs) := flat_congr fun i hi => by simp [itsM, its1, hi]
theorem itsM_same (grows : Bool) (xs : List Fx) (k : Nat) (hs : setO grows (fxAt xs k) = false) : itV xs (itsM grows xs (k + 1)) = itV xs (itsM grows xs k) := flat_congr fun i _ => by
  simp only [itsM]
  by_cases e : i = k
  · subst e; simp [hs]
  · by_cases h : i < k
    · simp [h, show i < k + 1 by omega]
    · simp [h, show ¬ i < k + 1 by omega]
theorem itsM_next (grows : Bool) (xs : List Fx) (k : Nat) (hk : k < xs.length) (hs : setO grows (fxAt xs k) = true) : ((itV xs (itsM grows xs k)).set (k * 9 + 7) (.bool true)).set (k * 9 + 8) (.int .i64 (fxAt xs k).lng) = itV xs (itsM grows xs (k + 1)) := by
  rw [itV_setCell xs (itsM grows xs k) ⟨fun i => if i = k then true else (itsM grows xs k).set i, (itsM grows xs k).is⟩ k 7 _ hk (by omega) (by simp [itsM, itC]) (fun i hne => by simp [hne])]
  exact itV_setCell xs _ _ k 8 _ hk (by omega) (by simp [itsM, itC, hs]) (fun i hne => by
    simp only [itsM, hne, if_false]
    by_cases h : i < k
    · simp [h, show i < k + 1 by omega]
    · simp [h, show ¬ i < k + 1 by omega])
set_option maxRecDepth 100000 in
set_option maxHeartbeats 4000000 in
theorem Mains_any (room gap : Int) (xs : List Fx) (hok : ∀ x ∈ xs, x.ok) (hn : xs.length ≤ 20) (B c : Nat) (A : Option Addr) (w : World) (ho : w.ownsRow B 81 6 (.slice A xs.length c) xs.length (fxCells xs)) :
    Calls Try.prog 54 #[.int .i64 room, .int .i64 gap, .slice A xs.length c] w fun e w' => ∃ v, e = .returned v ∧ w'.ownsRow w.heap.size 3 1 v xs.length ((mainsO room gap xs).map (Value.int .i64)) ∧ Below w.heap.size w w' := by
  have HO := hide ho
  have HK := hide hok
  clear ho hok
  have hR := roomO_bd room gap xs.length hn
  have HR := hide (show roomO room gap xs.length = cut room - max 0 (cut gap) * max 0 ((xs.length : Int) - 1) from rfl)
  have HE := hide (show mainsO room gap xs = mainsTo (endR (roomO room gap xs.length) (growsO (roomO room gap xs.length) xs) xs) xs.length from rfl)
  have hc1 := cut_lo room
  have hc2 := cut_hi room
  have hm1 : 0 ≤ max 0 (cut gap) * max 0 ((xs.length : Int) - 1) := Int.mul_nonneg (by omega) (by omega)
  have hm2 : max 0 (cut gap) * max 0 ((xs.length : Int) - 1) ≤ 16777216 * 20 := Int.mul_le_mul (by have := cut_hi gap; omega) (by omega) (by omega) (by omega)
  go_enter Try.func54, Try.ntmps54
  go_wp2_with (first | (go_at_call 28; refine (cut_any _ _).mono ?_; rintro e w' ⟨rfl, rfl⟩) | (go_at_call 88; refine (items_any xs HK.out (by omega) B c A w HO.out).mono ?_; rintro e w1 ⟨g, rfl, hg1, hblk, hb1⟩; have HB := hide hblk; clear hblk) | fail)
  rw [← HR.out]
  generalize roomO room gap xs.length = R at *
  clear HR hm1 hm2 hc1 hc2
  have HRow := hide (show RowAt (w1.alloc (.cells #[.int .i64 R, .slice (some ⟨g, 0, none⟩) xs.length xs.length, .bool false] 146)) w1.heap.size g R false xs its0 from ⟨Blk.new _ _ _, HB.out.alloc _⟩)
  have hB1 := hb1.alloc hb1.size (.cells #[.int .i64 R, .slice (some ⟨g, 0, none⟩) xs.length xs.length, .bool false] 146)
  have hrb := hb1.size
  clear HB hb1
  generalize w1.alloc (.cells #[.int .i64 R, .slice (some ⟨g, 0, none⟩) xs.length xs.length, .bool false] 146) = wA at *
  generalize w1.heap.size = rb at *
  refine (freeLong_any rb g R false xs its0 wA hR HK.out (by omega) HRow.out).mono ?_
  rintro e w2 ⟨rfl, hb2⟩
  have HRow2 := hide (HRow.out.below hb2)
  have hB2 := below_then hB1 (Nat.le_refl _) hb2
  have HG := hide (show growsO R xs = decide (0 < nowTo R xs (fun i => (fxAt xs i).lng) xs.length) from rfl)
  generalize nowTo R xs (fun i => (fxAt xs i).lng) xs.length = fl at *
  clear HRow hB1 hb2
  have s2 : w2.cell? ⟨rb, 2, none⟩ = some (.bool false) := HRow2.out.1.cell 2
  have s1 : w2.cell? ⟨rb, 1, none⟩ = some (.slice (some ⟨g, 0, none⟩) xs.length xs.length) := HRow2.out.1.cell 1
  have z2 : w2.frozen? ⟨rb, 2, none⟩ = false := HRow2.out.1.frozen _
  have hrg : rb ≠ g := by
    rintro rfl
    have h5 := HRow2.out.1.symm.trans HRow2.out.2
    simp at h5
  have hgr : g ≠ rb := fun e => hrg e.symm
  go_wp2_with fail
  rw [← HG.out]
  have HRow3 := hide (show RowAt (w2.setCell ⟨rb, 2, none⟩ (.bool (growsO R xs))) rb g R (growsO R xs) xs (itsM (growsO R xs) xs 0) from ⟨HRow2.out.1.set_ 2 _, by rw [itsM_zero]; exact HRow2.out.2.far hgr _⟩)
  have hB3 := hB2.setCell (p := ⟨rb, 2, none⟩) (by show w.heap.size ≤ rb; omega) (.bool (growsO R xs))
  clear HG HRow2 hB2 s1 s2 z2
  generalize growsO R xs = gr at *
  generalize w2.setCell ⟨rb, 2, none⟩ (.bool gr) = wB at *
  go_loopw [40] (fun i wr => ∃ k : Nat, k ≤ xs.length ∧ i = .int .i64 k ∧ RowAt wr rb g R gr xs (itsM gr xs k) ∧ Below w.heap.size w wr) (fun i _ => xs.length - (intOf i).toNat)
  case atStart => exact ⟨0, Nat.zero_le _, rfl, HRow3.out, hB3⟩
  case round =>
    obtain ⟨k, hk, rfl, hrow, hbel⟩ := hrel
    have HRr := hide hrow
    have hszr := hbel.size
    have hltg := hrow.2.lt
    have hltr := hrow.1.lt
    clear hrow
    have e1 : wr.cell? ⟨rb, 1, none⟩ = some (.slice (some ⟨g, 0, none⟩) xs.length xs.length) := HRr.out.1.cell 1
    have e2 : wr.cell? ⟨rb, 2, none⟩ = some (.bool gr) := HRr.out.1.cell 2
    by_cases hlt : k < xs.length
    · have cc := itCell HRr.out.2 hlt
      have hcs : (itsM gr xs k).set k = false := by simp [itsM]
      have hci : (itsM gr xs k).is k = 0 := by simp [itsM]
      rw [hcs, hci] at cc
      have hk1 : (0 : Int) ≤ (k : Int) := by omega
      have hk2 : (k : Int) < (xs.length : Int) := by omega
      have SA := hide (itsM_same gr xs k)
      have SN := hide (itsM_next gr xs k hlt)
      have SD := hide (show setO gr (fxAt xs k) = (((facO gr (fxAt xs k) == 0) || (gr && decide ((fxAt xs k).lng < (fxAt xs k).b))) || (!gr && decide ((fxAt xs k).b < (fxAt xs k).lng))) from rfl)
      clear hcs hci
      generalize fxAt xs k = x at *
      have d0 : wr.cell? ⟨g, k * 9, none⟩ = some (.int .i64 x.b) := cc 0 (by omega)
      have d1 : wr.cell? ⟨g, k * 9 + 1, none⟩ = some (.int .i64 x.le) := cc 1 (by omega)
      have d2 : wr.cell? ⟨g, k * 9 + 2, none⟩ = some (.int .i64 x.mo) := cc 2 (by omega)
      have d3 : wr.cell? ⟨g, k * 9 + 3, none⟩ = some (.int .i64 x.g) := cc 3 (by omega)
      have d4 : wr.cell? ⟨g, k * 9 + 4, none⟩ = some (.int .i64 x.s) := cc 4 (by omega)
      have d5 : wr.cell? ⟨g, k * 9 + 5, none⟩ = some (.int .i64 x.e) := cc 5 (by omega)
      have d6 : wr.cell? ⟨g, k * 9 + 6, none⟩ = some (.int .i64 x.lng) := cc 6 (by omega)
      have d7 : wr.cell? ⟨g, k * 9 + 7, none⟩ = some (.bool false) := cc 7 (by omega)
      have d8 : wr.cell? ⟨g, k * 9 + 8, none⟩ = some (.int .i64 0) := cc 8 (by omega)
      have e2a : (wr.alloc (.cells #[.int .i64 x.b, .int .i64 x.le, .int .i64 x.mo, .int .i64 x.g, .int .i64 x.s, .int .i64 x.e, .int .i64 x.lng, .bool false, .int .i64 0] 149)).cell? ⟨rb, 2, none⟩ = some (.bool gr) := (World.cell?_alloc_lt wr _ _ (cell_lt e2)).trans e2
      have q := Blk.new wr 149 #[.int .i64 x.b, .int .i64 x.le, .int .i64 x.mo, .int .i64 x.g, .int .i64 x.s, .int .i64 x.e, .int .i64 x.lng, .bool false, .int .i64 0]
      have HQ := hide q
      have HRA := hide (show RowAt (wr.alloc (.cells #[.int .i64 x.b, .int .i64 x.le, .int .i64 x.mo, .int .i64 x.g, .int .i64 x.s, .int .i64 x.e, .int .i64 x.lng, .bool false, .int .i64 0] 149)) rb g R gr xs (itsM gr xs k) from ⟨HRr.out.1.alloc _, HRr.out.2.alloc _⟩)
      have hbA := hbel.alloc hszr (.cells #[.int .i64 x.b, .int .i64 x.le, .int .i64 x.mo, .int .i64 x.g, .int .i64 x.s, .int .i64 x.e, .int .i64 x.lng, .bool false, .int .i64 0] 149)
      clear cc q
      go_wp2_with fail
      clear d0 d1 d2 d3 d4 d5 d6 d7 d8 e1 e2
      generalize wr.alloc (.cells #[.int .i64 x.b, .int .i64 x.le, .int .i64 x.mo, .int .i64 x.g, .int .i64 x.s, .int .i64 x.e, .int .i64 x.lng, .bool false, .int .i64 0] 149) = wC at *
      refine (factor_any x false 0 rb gr _ e2a).mono ?_
      rintro e w5 ⟨rfl, hb5⟩
      have HRD := hide (HRA.out.below hb5)
      have HQD := hide (HQ.out.below hb5 HQ.out.lt)
      have hbD := below_then hbA (Nat.le_refl _) hb5
      clear HRA HQ hbA hb5 e2a
      have five : (setO gr x = true ∧ (facO gr x = 0 ∨ (¬ facO gr x = 0 ∧ gr = true ∧ x.lng < x.b) ∨ (¬ facO gr x = 0 ∧ gr = false ∧ x.b < x.lng))) ∨ (setO gr x = false ∧ ((¬ facO gr x = 0 ∧ gr = true ∧ ¬ x.lng < x.b) ∨ (¬ facO gr x = 0 ∧ gr = false ∧ ¬ x.b < x.lng))) := by
        rw [SD.out]
        by_cases h0 : facO gr x = 0
        · exact .inl ⟨by simp [h0], .inl h0⟩
        · cases gr
          · by_cases h1 : x.b < x.lng
            · exact .inl ⟨by simp [h1], .inr (.inr ⟨h0, rfl, h1⟩)⟩
            · exact .inr ⟨by simp [h0]; omega, .inr ⟨h0, rfl, h1⟩⟩
          · by_cases h1 : x.lng < x.b
            · exact .inl ⟨by simp [h1], .inr (.inl ⟨h0, rfl, h1⟩)⟩
            · exact .inr ⟨by simp [h0]; omega, .inl ⟨h0, rfl, h1⟩⟩
      have hk7 : k * 9 + 8 < (itV xs (itsM gr xs k)).length := by rw [itV_len]; omega
      clear SD
      generalize facO gr x = fo at *
      have e1 : w5.cell? ⟨rb, 1, none⟩ = some (.slice (some ⟨g, 0, none⟩) xs.length xs.length) := HRD.out.1.cell 1
      have e2 : w5.cell? ⟨rb, 2, none⟩ = some (.bool gr) := HRD.out.1.cell 2
      have a0 : w5.cell? ⟨wr.heap.size, 0, none⟩ = some (.int .i64 x.b) := HQD.out.cell 0
      have a1 : w5.cell? ⟨wr.heap.size, 1, none⟩ = some (.int .i64 x.le) := HQD.out.cell 1
      have a6 : w5.cell? ⟨wr.heap.size, 6, none⟩ = some (.int .i64 x.lng) := HQD.out.cell 6
      have hxg : wr.heap.size ≠ g := by omega
      have hgx : g ≠ wr.heap.size := by omega
      rcases five with ⟨hT, hc⟩ | ⟨hF, hc⟩
      · have SNT := hide (SN.out hT)
        clear hT SN SA
        obtain ⟨v7, s7⟩ : ∃ v7, w5.cell? ⟨g, k * 9 + 7, none⟩ = some v7 := ⟨_, (HRD.out.2.cell (k * 9 + 7)).trans (by rw [List.getElem?_toArray]; exact List.getElem?_eq_getElem (by omega))⟩
        obtain ⟨v8, s8⟩ : ∃ v8, w5.cell? ⟨g, k * 9 + 8, none⟩ = some v8 := ⟨_, (HRD.out.2.cell (k * 9 + 8)).trans (by rw [List.getElem?_toArray]; exact List.getElem?_eq_getElem (by omega))⟩
        have z7 : w5.frozen? ⟨g, k * 9 + 7, none⟩ = false := HRD.out.2.frozen _
        have z8 : w5.frozen? ⟨g, k * 9 + 8, none⟩ = false := HRD.out.2.frozen _
        clear hk7
        rcases hc with hc | ⟨hc, hg, hb⟩ | ⟨hc, hg, hb⟩
        case' inl =>
          subst hc
        case' inr.inl =>
          subst hg
          have z1 : (fo == 0) = false := beq_eq_false_iff_ne.2 hc
        case' inr.inr =>
          subst hg
          have z1 : (fo == 0) = false := beq_eq_false_iff_ne.2 hc
        all_goals
          go_wp2_with fail
          go_region_held3 (fun W => W.cell? ⟨rb, 1, none⟩ = some (.slice (some ⟨g, 0, none⟩) xs.length xs.length) ∧ W.cell? ⟨wr.heap.size, 6, none⟩ = some (.int .i64 x.lng)) (first | exact ⟨e1, a6⟩ | go_keep) (fail)
          have hrow5 := HRD.out
          have hbE := below_drewN ((hbD.setCell (p := ⟨g, k * 9 + 7, none⟩) hg1 (.bool true)).setCell (p := ⟨g, k * 9 + 8, none⟩) hg1 (.int .i64 x.lng)) 1
          go_wp2_with fail
          go_roundw
          case rel => exact ⟨k + 1, by omega, by go_num, ⟨((hrow5.1.far (p := ⟨g, k * 9 + 7, none⟩) hrg _).far (p := ⟨g, k * 9 + 8, none⟩) hrg _).drew, by have h6 := ((hrow5.2.set_ (k * 9 + 7) (.bool true)).set_ (k * 9 + 8) (.int .i64 x.lng)).drew; rw [List.setIfInBounds_toArray, List.setIfInBounds_toArray, SNT.out] at h6; exact h6⟩, hbE⟩
          case measure => simp [intOf]; omega
      · have SAF := hide (SA.out hF)
        clear hF SN SA hk7
        rcases hc with ⟨hc, hg, hb⟩ | ⟨hc, hg, hb⟩
        all_goals
          subst hg
          have z1 : (fo == 0) = false := beq_eq_false_iff_ne.2 hc
          go_wp2_with fail
          go_roundw
          case rel => exact ⟨k + 1, by omega, by go_num, ⟨HRD.out.1, by rw [SAF.out]; exact HRD.out.2⟩, hbD⟩
          case measure => simp [intOf]; omega
    · obtain rfl : k = xs.length := by omega
      have HRs := hide (show RowAt wr rb g R gr xs (its1 gr xs) from ⟨HRr.out.1, by rw [← itsM_all]; exact HRr.out.2⟩)
      have hio := its1_ok HK.out gr
      have HF := hide (show endR R gr xs = runO R gr xs (firstO R gr xs) xs.length (its1 gr xs) from rfl)
      have HFI := hide (show nowTo R xs (valO xs (its1 gr xs)) xs.length = firstO R gr xs from rfl)
      have HIO := hide hio
      clear HRr hio e1 e2
      go_wp2_with (first | (go_at_call 92; refine (now_any rb g R gr xs (its1 gr xs) wr hR HK.out (by omega) (val_bd HK.out HIO.out) HRs.out).mono ?_; rintro e w6 ⟨rfl, hb6⟩; rw [HFI.out]; have HRt := hide (HRs.out.below hb6); have hbt := below_then hbel (Nat.le_refl _) hb6; have c6 : w6.cell? ⟨rb, 1, none⟩ = some (.slice (some ⟨g, 0, none⟩) xs.length xs.length) := HRt.out.1.cell 1) | fail)
      generalize firstO R gr xs = first at *
      have HFF := hide (show xs.length = xs.length ∧ openC (its1 gr xs).set xs.length ≤ xs.length from ⟨rfl, openC_len _ _⟩)
      go_loopg [] xs.length (fun gk wx => ∃ st : Its, Hid (openC st.set xs.length ≤ gk) ∧ Hid (runO R gr xs first gk st = endR R gr xs) ∧ Hid (itsOk xs st) ∧ RowAt wx rb g R gr xs st ∧ Below w.heap.size w wx)
      case atStart => exact ⟨its1 gr xs, hide HFF.out.2, hide HF.out.symm, HIO, HRt.out, hbt⟩
      case round =>
        obtain ⟨st, hle, hrun, hio, hrow, hbx⟩ := hrel
        obtain ⟨wy, rfl⟩ : ∃ wy : World, wy = wr := ⟨_, rfl⟩
        have HRx := hide hrow
        clear hrow
        have c7 : wy.cell? ⟨rb, 1, none⟩ = some (.slice (some ⟨g, 0, none⟩) xs.length xs.length) := HRx.out.1.cell 1
        by_cases hp : 0 < openC st.set xs.length
        · have HP := hide hp
          clear hp
          cases gk with
          | zero => exact absurd hle.out (by have := HP.out; omega)
          | succ gk =>
            go_wp2_with (first | (go_at_call 93; refine (contains_any g xs st _ HRx.out.2 (by omega)).mono ?_; rintro e w7 ⟨rfl, hb7⟩; rw [decide_eq_true HP.out]; have HR7 := hide (HRx.out.below hb7); have hbx7 := below_then hbx (Nat.le_refl _) hb7) | (go_at_call 95; refine (turn_any rb g R first gr xs st w7 hR HK.out (by omega) (val_bd HK.out hio.out) HR7.out).mono ?_; rintro e w8 ⟨rfl, hrow8, hg8⟩; have HR8 := hide hrow8; clear hrow8) | fail)
            go_roundg gk
            case measure => omega
            case rel => exact ⟨turnO R gr xs first st, hide (by have := turnO_less R first gr xs st HP.out; have := hle.out; omega), hide (by have h1 := hrun.out; simp only [runO] at h1; rw [if_pos HP.out] at h1; exact h1), hide (turn_ok HK.out hio.out _), HR8.out, below_grown hbx7 (Nat.le_refl _) hg8 hg1⟩
        · have HP := hide hp
          clear hp
          have HST := hide (show endR R gr xs = st from by rw [← hrun.out]; exact run_stop R first gr xs st (by have := HP.out; omega) gk)
          go_wp2_with (first | (go_at_call 93; refine (contains_any g xs st _ HRx.out.2 (by omega)).mono ?_; rintro e w7 ⟨rfl, hb7⟩; rw [decide_eq_false HP.out]; have HR7 := hide (HRx.out.below hb7); have hbx7 := below_then hbx (Nat.le_refl _) hb7; have c8 : w7.cell? ⟨rb, 1, none⟩ = some (.slice (some ⟨g, 0, none⟩) xs.length xs.length) := HR7.out.1.cell 1) | fail)
          have HE2 := hide (show mainsO room gap xs = mainsTo st xs.length from by rw [HE.out, HST.out])
          clear HST HFF HF hle hrun HRs HRt hb6
          obtain ⟨i0, hi0, hz0, hz1, hz2⟩ := info_parts int_info
          have HI := hide (⟨hi0, hz0, hz1, hz2⟩ : Try.prog.info? 3 = some i0 ∧ i0.zero = some (.int .i64 0) ∧ i0.size = 1 ∧ i0.bytes = 8)
          clear hi0 hz0 hz1 hz2
          go_loopw [11, 110] (fun v i wx => ∃ k : Nat, k ≤ xs.length ∧ i = .int .i64 k ∧ wx.ownsRow w7.heap.size 3 1 v k ((mainsTo st k).map (Value.int .i64)) ∧ Below w7.heap.size w7 wx) (fun _ i _ => xs.length - (intOf i).toNat)
          case atStart => exact ⟨0, Nat.zero_le _, rfl, own_none _ _ _ _, Below.refl _ _⟩
          case round =>
            obtain ⟨k, hk9, rfl, hown, hbz⟩ := hrel
            have HW := hide hown
            have hszz := hbz.size
            clear hown
            have HR9 := hide (HR7.out.below hbz)
            by_cases hlt9 : k < xs.length
            · have cc := itCell HR9.out.2 hlt9
              have MS := hide (show (mainsTo st (k + 1)).map (Value.int .i64) = (mainsTo st k).map (Value.int .i64) ++ [.int .i64 (max 0 (st.is k))] from by rw [mainsTo_succ, List.map_append]; rfl)
              generalize st.set k = sk at *
              generalize st.is k = ik at *
              generalize fxAt xs k = x at *
              have d0 : wr.cell? ⟨g, k * 9, none⟩ = some (.int .i64 x.b) := cc 0 (by omega)
              have d1 : wr.cell? ⟨g, k * 9 + 1, none⟩ = some (.int .i64 x.le) := cc 1 (by omega)
              have d2 : wr.cell? ⟨g, k * 9 + 2, none⟩ = some (.int .i64 x.mo) := cc 2 (by omega)
              have d3 : wr.cell? ⟨g, k * 9 + 3, none⟩ = some (.int .i64 x.g) := cc 3 (by omega)
              have d4 : wr.cell? ⟨g, k * 9 + 4, none⟩ = some (.int .i64 x.s) := cc 4 (by omega)
              have d5 : wr.cell? ⟨g, k * 9 + 5, none⟩ = some (.int .i64 x.e) := cc 5 (by omega)
              have d6 : wr.cell? ⟨g, k * 9 + 6, none⟩ = some (.int .i64 x.lng) := cc 6 (by omega)
              have d7 : wr.cell? ⟨g, k * 9 + 7, none⟩ = some (.bool sk) := cc 7 (by omega)
              have d8 : wr.cell? ⟨g, k * 9 + 8, none⟩ = some (.int .i64 ik) := cc 8 (by omega)
              have hb10 := (hbz.alloc hszz (.cells #[.int .i64 x.b, .int .i64 x.le, .int .i64 x.mo, .int .i64 x.g, .int .i64 x.s, .int .i64 x.e, .int .i64 x.lng, .bool sk, .int .i64 ik] 149)).alloc (by simp; omega) (.cells #[.int .i64 (max 0 ik)] 3)
              have HW10 := hide ((HW.out.alloc (.cells #[.int .i64 x.b, .int .i64 x.le, .int .i64 x.mo, .int .i64 x.g, .int .i64 x.s, .int .i64 x.e, .int .i64 x.lng, .bool sk, .int .i64 ik] 149)).alloc (.cells #[.int .i64 (max 0 ik)] 3))
              have HL10 := hide (Reads.lit1 (wr.alloc (.cells #[.int .i64 x.b, .int .i64 x.le, .int .i64 x.mo, .int .i64 x.g, .int .i64 x.s, .int .i64 x.e, .int .i64 x.lng, .bool sk, .int .i64 ik] 149)) 3 (.int .i64 (max 0 ik)))
              have hsz10 : (wr.alloc (.cells #[.int .i64 x.b, .int .i64 x.le, .int .i64 x.mo, .int .i64 x.g, .int .i64 x.s, .int .i64 x.e, .int .i64 x.lng, .bool sk, .int .i64 ik] 149)).heap.size = wr.heap.size + 1 := by simp
              rw [hsz10] at HL10
              clear cc hsz10
              go_wp2_with (first | (at_builtin; refine wpList_app rfl (.tmp 114) (.tmp 118) _ rfl w7.heap.size 3 i0 _ 1 8 Try.underlying22 HI.out.1 HI.out.2.1 HI.out.2.2.1 HI.out.2.2.2 rfl (by omega) _ k _ rfl HW10.out (wr.heap.size + 1 + 1) _ 1 1 _ rfl HL10.out (by intro u hu; simp at hu; rw [hu]; rfl) (by simp only [maxLen]; omega) (by omega) w7 hb10 (Nat.le_refl _) ?_; intro v2 w9 hown9 hb9) | fail)
              go_roundw
              case rel => exact ⟨k + 1, by omega, by go_num, by rw [MS.out]; exact hown9, hb9⟩
              case measure => simp [intOf]; omega
            · obtain rfl : k = xs.length := by omega
              go_wp2_with fail
              go_ret
              exact ⟨_, rfl, by rw [HE2.out]; exact own_mono HW.out hbx7.size, hbx7.trans (hbz.mono hbx7.size)⟩
end Go.Proofs.Ytadlabndbomgmaa
