/- Walks: white.Keeps, white.isBlank, white.Collapse: what they return. -/
import Derived.BigQuiet
import Derived.Handy
import Derived.Test.YtdnnodpkgncegaaDoorShelfA
import Derived.Test.YtdnnodpkgncegaaDoorWhitePlain
import Derived.Test.YtdnnodpkgncegaaDoorKit
namespace Go.Proofs.YtdnnodpkgncegaaDoor
open Go.ChangeShapes Go.WideShapes Go.ChangeAt Go.RowKit
theorem keeps_any (m : Int) (w : World) : Calls Tryd.prog 21 #[.int .i64 m] w fun e w' => e = .returned (.bool (keepsM m)) ∧ w = w' := by
  have hk := Lib.hid (show keepsM m = (m == 1 || m == 3) from rfl)
  cases h1 : (m == 1) <;> cases h3 : (m == 3)
  all_goals
    go_enter Tryd.func21, Tryd.ntmps21
    go_wp2
    go_ret
    exact ⟨ret_bool (by rw [hk.out, h1, h3]; rfl), rfl⟩
theorem isBlank_any (x : Int) (w : World) : Calls Tryd.prog 26 #[.int .u8 x] w fun e w' => e = .returned (.bool (isBl x)) ∧ w = w' := by
  have hk := Lib.hid (show isBl x = decide (0 ≤ Lib.indexByte [32, 9, 10, 12, 13] x.toNat.toUInt8) from rfl)
  go_enter Tryd.func26, Tryd.ntmps26
  go_wp2_with (go_at_call 28; refine (Tryd.strings_IndexByte _ _ _).mono ?_; rintro e w' ⟨rfl, rfl⟩)
  go_ret
  exact ⟨ret_bool (by rw [hk.out]), rfl⟩
theorem byte_info : (Tryd.prog.info? 5).map (fun i => (i.zero, i.size, i.bytes)) = some (some (.int .u8 0), 1, 1) := by kernel_rfl
set_option maxRecDepth 100000 in
theorem collapse_any (s : ByteArray) (m : Int) (b : Bool) (w : World) (hs : s.size ≤ 140737488355328) :
    Calls Tryd.prog 20 #[.string s, .int .i64 m, .bool b] w fun e w' =>
      e = .returned (.tuple #[.string (bytesStr (colS m s.data.toList b)), .bool (colB m s.data.toList b)]) ∧ Below w.heap.size w w' := by
  obtain ⟨i0, hi0, hz0, hz1, hz2⟩ := info_parts byte_info
  cases hkm : keepsM m
  · have e1 := hide (show colS m s.data.toList b = (wfold b s.data.toList).1 from by unfold colS; rw [hkm]; rfl)
    have e2 := hide (show colB m s.data.toList b = (wfold b s.data.toList).2 from by unfold colB; rw [hkm]; rfl)
    go_enter Tryd.func20, Tryd.ntmps20
    go_wp2_with (go_at_call 21; refine (keeps_any _ _).mono ?_; rintro e w' ⟨rfl, rfl⟩; rw [hkm])
    clear hkm
    go_loopw [2, 8, 9, 10, 16] (fun bl v x c i wr => ∃ k : Nat, k ≤ s.size ∧ i = .int .i64 k ∧ bl = .bool (wfold b (s.data.toList.take k)).2 ∧
      wr.ownsRow w.heap.size 5 1 v (wfold b (s.data.toList.take k)).1.length ((byteNums (wfold b (s.data.toList.take k)).1).map (Value.int .u8)) ∧ Below w.heap.size w wr) (fun _ _ _ _ i _ => s.size - (intOf i).toNat)
    case atStart => exact ⟨0, Nat.zero_le _, rfl, rfl, own_none _ _ _ _, Below.refl _ _⟩
    case round =>
      obtain ⟨k, hk, rfl, rfl, hown, hbel⟩ := hrel
      have hlen := foldl_wstep_len (s.data.toList.take k) ([], b)
      have hlen2 : (wfold b (s.data.toList.take k)).1.length ≤ s.size := by
        rw [List.length_take] at hlen; unfold wfold; simp at hlen; omega
      clear hlen
      by_cases hlt : k < s.size
      · have ht : wfold b (s.data.toList.take (k + 1)) = wstep (wfold b (s.data.toList.take k)) s[k] := wfold_take b s.data.toList k (by rw [size_eq]; exact hlt)
        have hle : (wfold b (s.data.toList.take k)).1.length ≤ k := by
          have h := foldl_wstep_len (s.data.toList.take k) ([], b)
          rw [List.length_take] at h; unfold wfold; simp at h; omega
        have Ht := hide ht
        clear ht hlen2
        generalize wfold b (s.data.toList.take k) = p at *
        obtain ⟨o, bl⟩ := p
        have Hown := hide hown
        clear hown
        cases hbl : isBl s[k].toNat
        · have hn := hide (show wfold b (s.data.toList.take (k + 1)) = (o ++ [s[k]], false) from by rw [Ht.out]; unfold wstep; rw [hbl]; rfl)
          clear Ht
          go_wp2_with (first
            | (go_at_call 26; refine (isBlank_any _ _).mono ?_; rintro e w' ⟨rfl, rfl⟩; rw [hbl])
            | (at_builtin
               refine wpList_app rfl (.tmp 26) (.tmp 28) _ rfl w.heap.size 5 i0 _ 1 1 Tryd.underlying64 hi0 hz0 hz1 hz2 rfl (by omega) _ _ _ rfl
                 (Hown.out.alloc _) (wr.heap.size + 1) _ 1 1 _ rfl (Reads.lit1 wr _ _) (by intro u hu; simp at hu; subst hu; rfl) (by simp only [maxLen]; omega) (by omega) w (hbel.alloc hbel.size _) (Nat.le_refl _) ?_
               intro v1 w1 hown1 hb1))
          go_roundw
          case rel => exact ⟨k + 1, by omega, by go_num, by rw [hn.out], by rw [hn.out]; simpa [byteNums] using hown1, hb1⟩
          case measure => simp [intOf]; omega
        · cases bl
          · have hn := hide (show wfold b (s.data.toList.take (k + 1)) = (o ++ [32], true) from by rw [Ht.out]; unfold wstep; rw [hbl]; rfl)
            clear Ht
            go_wp2_with (first
              | (go_at_call 26; refine (isBlank_any _ _).mono ?_; rintro e w' ⟨rfl, rfl⟩; rw [hbl])
              | (at_builtin
                 refine wpList_app rfl (.tmp 33) (.tmp 34) _ rfl w.heap.size 5 i0 _ 1 1 Tryd.underlying64 hi0 hz0 hz1 hz2 rfl (by omega) _ _ _ rfl
                   (Hown.out.alloc _) (wr.heap.size + 1) _ 1 1 _ rfl (Reads.lit1 wr _ _) (by intro u hu; simp at hu; subst hu; rfl) (by simp only [maxLen]; omega) (by omega) w (hbel.alloc hbel.size _) (Nat.le_refl _) ?_
                 intro v1 w1 hown1 hb1))
            go_roundw
            case rel => exact ⟨k + 1, by omega, by go_num, by rw [hn.out], by rw [hn.out]; simpa [byteNums] using hown1, hb1⟩
            case measure => simp [intOf]; omega
          · have hn := hide (show wfold b (s.data.toList.take (k + 1)) = (o, true) from by rw [Ht.out]; unfold wstep; rw [hbl]; rfl)
            clear Ht
            go_wp2_with (go_at_call 26; refine (isBlank_any _ _).mono ?_; rintro e w' ⟨rfl, rfl⟩; rw [hbl])
            go_roundw
            case rel => exact ⟨k + 1, by omega, by go_num, by rw [hn.out], by rw [hn.out]; exact Hown.out, hbel⟩
            case measure => simp [intOf]; omega
      · have hk2 : k = s.size := by omega
        subst hk2
        have ht : s.data.toList.take s.size = s.data.toList := List.take_of_length_le (by rw [size_eq]; exact Nat.le_refl _)
        rw [ht] at hown ⊢
        obtain ⟨X, cx, hv, _, hx⟩ := own_reads hown
        have hcv := run_convert_reads (P := Tryd.prog) 64 9 5 Tryd.underlying64 Tryd.underlying5 Tryd.underlying9 (c := cx) hx
        rw [hv]
        clear hv hown hx ht hlen2
        go_wp2
        go_ret2
        exact ⟨ret_sb (by rw [e1.out]) e2.out.symm, hbel⟩
  · have e1 := hide (show bytesStr (colS m s.data.toList b) = s from by unfold colS; rw [hkm]; exact bytesStr_toList s)
    have e2 := hide (show colB m s.data.toList b = false from by unfold colB; rw [hkm]; rfl)
    go_enter Tryd.func20, Tryd.ntmps20
    go_wp2_with (go_at_call 21; refine (keeps_any _ _).mono ?_; rintro e w' ⟨rfl, rfl⟩; rw [hkm])
    go_ret2
    exact ⟨ret_sb e1.out.symm e2.out.symm, Below.refl _ _⟩
end Go.Proofs.YtdnnodpkgncegaaDoor
