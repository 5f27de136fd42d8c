/- The walk of maker.kids, where boxes are told. -/
import Derived.BigQuiet
import Derived.Handy
import Derived.IntWalk
import Derived.RegionTactic
import Derived.Deep.MidRow
import Derived.Deep.CutBlock
import Derived.Test.YtdnnodpkgncegaaDoorItGuard
namespace Go.Proofs.YtdnnodpkgncegaaDoor
open Go.ChangeShapes Go.WideShapes Go.ChangeAt Go.RowKit
set_option maxRecDepth 100000 in
set_option maxHeartbeats 40000000 in
theorem kids_any (B mb g off cB gl ol cl : Nat) (l : List Bo) (R : Nat → Nat → Int) (mv room : Int) (d : Nat) (hl : l.length ≤ 1000000) (hG : ∀ i, i < l.length → BoxGood l i) (hbx : BoxAt B mb g off cB gl ol cl l R mv room d)
    (at_ : Nat) (V : Value) (bl : Bool) (s : List Li) (w : World) (hat : at_ < l.length) (hd : ∀ k ∈ kidN l at_, l.length ≤ d + k) (hBB : B ≤ w.heap.size) (hD : ItD w B g off gl ol l R mv) (hI : ItV w B mb (.slice (some ⟨g, off, none⟩) l.length cB) (.slice (some ⟨gl, ol, none⟩) l.length cl) room bl V s)
    (hlim : s.length + ((kidN l at_).map (costF (kidN l) (ownN l) d)).sum ≤ 10000000) :
    Calls Tryd.prog 7 #[.pointer (some ⟨mb, 0, none⟩), .int .i64 (at_ : Int)] w fun e w' => KidPost w B mb (.slice (some ⟨g, off, none⟩) l.length cB) (.slice (some ⟨gl, ol, none⟩) l.length cl) V room s (((kidN l at_).map (costF (kidN l) (ownN l) d)).sum) e w' := by
  obtain ⟨Ak, ck, hbc⟩ := hD.box at_ hat
  have c0 : w.cell? ⟨mb, 0, none⟩ = some (.slice (some ⟨g, off, none⟩) l.length cB) := hI.blk.cell 0
  have c3 := hbc.c3
  have HK := hide (fun (h0 : 0 < (boAt l at_).kids.length) => kid_form hbc.kids h0)
  have hn : ¬ l.length ≤ at_ := by omega
  have hkn : (kidN l at_).length = (boAt l at_).kids.length := by simp [kidN]
  have hkl : (boAt l at_).kids.length ≤ l.length := by
    rw [← hkn]
    have h1 := kidN_nodup (hG at_ hat)
    have h2 := sum_le (fun _ => 1) l.length (kidN l at_) h1 fun k hk => (kidN_good (hG at_ hat) hk).2.1
    have h3 : ∀ L : List Nat, (L.map fun _ => 1).sum = L.length := fun L => by
      induction L with
      | nil => rfl
      | cons a L ih => rw [List.map_cons, List.sum_cons, ih, List.length_cons]; omega
    have h4 : ∀ m, tot (fun _ => 1) m = m := fun m => by
      induction m with
      | zero => rfl
      | succ m ih => rw [tot, ih]
    rw [h3, h4] at h2
    exact h2
  have HD := hide hD
  have HI := hide hI
  have HKG := hide (fun k (hk : k ∈ kidN l at_) => kidN_good (hG at_ hat) hk)
  have HKM := hide (fun j (hj : j < (boAt l at_).kids.length) => show ∃ k : Nat, (boAt l at_).kids.getD j 0 = (k : Int) ∧ (kidN l at_)[j]? = some k from by
    have h1 := kid_above (hG at_ hat).2 j hj
    refine ⟨(kidAt l at_ j).toNat, ?_, ?_⟩
    · show kidAt l at_ j = _
      omega
    · unfold kidN
      rw [List.getElem?_map, List.getElem?_eq_getElem hj, kidAt_mem hj]
      rfl)
  clear hbc hD hI hkn
  generalize hKL : (boAt l at_).kids.length = kl at *
  go_enter Tryd.func7, Tryd.ntmps7
  go_wp2_with fail
  go_loopw [15] (fun i wr => ∃ (j : Nat) (V9 : Value) (b9 : Bool) (s' : List Li), j ≤ kl ∧ i = .int .i64 j ∧ ItV wr B mb (.slice (some ⟨g, off, none⟩) l.length cB) (.slice (some ⟨gl, ol, none⟩) l.length cl) room b9 V9 (s ++ s') ∧ Stp mb w V wr V9 ∧ Bal (s'.map liKey) ∧ s'.length ≤ (((kidN l at_).take j).map (costF (kidN l) (ownN l) d)).sum) (fun i _ => kl - (intOf i).toNat)
  case atStart => exact ⟨0, V, bl, [], Nat.zero_le _, rfl, by rw [List.append_nil]; exact HI.out, Stp.refl _ _ _, Bal.nil, Nat.zero_le _⟩
  case round =>
    clear c0 c3
    obtain ⟨j, V8, b9, s', hj, rfl, hI, hS, hBal, hsl⟩ := hrel
    by_cases hjl : j < kl
    · obtain ⟨gk, ok, rfl, hgk, hck⟩ := HK.out (by omega)
      obtain ⟨k, hk1, hk2⟩ := HKM.out j hjl
      obtain ⟨hk3, hk4, _⟩ := HKG.out k (List.mem_of_getElem? hk2)
      have hbw := HI.out.below hS hBB
      have q0 : wr.cell? ⟨gk, ok + j, none⟩ = some (.int .i64 (k : Int)) := by
        rw [← hk1, hbw.cell (p := ⟨gk, ok + j, none⟩) hgk]
        exact hck j (by omega)
      have e1 := sum_take (costF (kidN l) (ownN l) d) (kidN l at_) j k hk2
      have e2 := sum_take_le (costF (kidN l) (ownN l) d) (kidN l at_) (j + 1)
      have HB := hide (hbx k V8 b9 (s ++ s') wr hk4 (hd k (List.mem_of_getElem? hk2)) (bsz hbw hBB) (HD.out.below hbw) hI (by rw [List.length_append]; omega))
      have HS := hide hS
      clear hI hS hck hk1
      go_wp2_with fail
      refine HB.out.mono ?_
      rintro e w8 ⟨rfl, V7, b7, s7, hI7, hS7, hB7, hl7⟩
      have HI7 := hide hI7
      have HS7 := hide (HS.out.trans hS7)
      clear HB hI7 hS7 HS hbw q0
      go_wp2_with fail
      go_roundw
      case rel => exact ⟨j + 1, V7, b7, s' ++ s7, by omega, by go_num, by rw [← List.append_assoc]; exact HI7.out, HS7.out, by rw [List.map_append]; exact hBal.append hB7, by rw [List.length_append]; omega⟩
      case measure => simp only [intOf]; omega
    · obtain rfl : j = kl := by omega
      have e3 : (kidN l at_).take j = kidN l at_ := List.take_of_length_le (by simp [kidN, hKL])
      rw [e3] at hsl
      go_wp2_with fail
      go_end0
      exact ⟨rfl, V8, b9, s', hI, hS, hBal, hsl⟩
end Go.Proofs.YtdnnodpkgncegaaDoor
