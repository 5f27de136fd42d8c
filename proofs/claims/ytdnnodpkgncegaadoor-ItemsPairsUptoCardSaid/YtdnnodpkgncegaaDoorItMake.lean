/- The walk of items.Make. -/
import Derived.BigQuiet
import Derived.Handy
import Derived.IntWalk
import Derived.RegionTactic
import Derived.Deep.MidRow
import Derived.Deep.CutBlock
import Derived.Test.YtdnnodpkgncegaaDoorItBox
namespace Go.Proofs.YtdnnodpkgncegaaDoor
open Go.ChangeShapes Go.WideShapes Go.ChangeAt Go.RowKit
def MakePost (w' : World) (e : Ending) : Prop := ∃ (v : Value) (r : Int), e = .returned (.tuple #[v, .int .i64 r]) ∧ (r ≠ 0 → v = .slice none 0 0) ∧ (r = 0 → ∃ s : List Li, w'.ownsRow 0 31 11 v s.length (liCells s) ∧ Bal (s.map liKey) ∧ s.length ≤ 10000000)
theorem make_bad {w' : World} (r : Int) (h : r ≠ 0) : MakePost w' (.returned (.tuple #[.slice none 0 0, .int .i64 r])) := ⟨_, r, rfl, fun _ => rfl, fun e => absurd e h⟩
set_option maxRecDepth 100000 in
set_option maxHeartbeats 40000000 in
theorem make_any (l : List Bo) (A As : Option Addr) (cB ns cs : Nat) (R : Nat → Nat → Int) (at_ room mv : Int) (w : World) (hB : BoxIn w w.heap.size A l) (hS : StyIn w w.heap.size As ns R) (hmv : w.cell? ⟨0, 0, none⟩ = some (.int .i64 mv)) (hl : l.length ≤ 1000000) (hT : ∀ k, k < l.length → (boAt l k).text.size ≤ 1048576) (htot : tot (ownN l) l.length ≤ 10000000) :
    Calls Tryd.prog 4 #[.slice A l.length cB, .slice As ns cs, .int .i64 at_, .int .i64 room] w fun e w' => MakePost w' e ∧ Below w.heap.size w w' := by
  have hml : l.length ≤ maxLen := by unfold maxLen; omega
  have HC := hide (Check_any l A cB w hB hml)
  have HB := hide hB
  have HS := hide hS
  have h0 := cell_lt hmv
  have HM := hide hmv
  clear hB hS hmv hml
  go_enter Tryd.func4, Tryd.ntmps4
  go_wp2_with fail
  refine HC.out.mono ?_
  rintro e w1 ⟨⟨r, rfl, hr3, hgood, _⟩, hb1⟩
  clear HC
  rcases hr3 with rfl | rfl
  · have hG := hgood rfl
    clear hgood
    by_cases hns : ns = l.length
    · subst hns
      have t1 : (l.length != l.length) = false := by simp
      by_cases ha : at_ < 0
      · have t2 : decide (at_ < 0) = true := decide_eq_true ha
        go_wp2_with fail
        go_ret2
        exact ⟨make_bad 5 (by decide), hb1⟩
      · have t2 : decide (at_ < 0) = false := decide_eq_false ha
        by_cases hb : (l.length : Int) ≤ at_
        · have t3 : decide ((l.length : Int) ≤ at_) = true := decide_eq_true hb
          go_wp2_with fail
          go_ret2
          exact ⟨make_bad 5 (by decide), hb1⟩
        · have t3 : decide ((l.length : Int) ≤ at_) = false := decide_eq_false hb
          obtain ⟨n, rfl⟩ : ∃ n : Nat, at_ = (n : Int) := ⟨at_.toNat, by omega⟩
          have hn : n < l.length := by omega
          have hn2 : ¬ l.length ≤ n := by omega
          obtain ⟨g, off, Ak, ck, rfl, hg, hbc, _⟩ := HB.out n hn
          obtain ⟨gl, ol, rfl, hgl, _⟩ := HS.out n hn
          have q0 := (hb1.cell (p := ⟨g, off + n * 5, none⟩) hg).trans hbc.c0
          have HD := hide (show ItD w1 w.heap.size g off gl ol l R mv from ⟨fun k hk => by
              obtain ⟨g2, off2, Ak2, ck2, e2, _, hbc2, _⟩ := HB.out k hk
              injection e2 with e2
              injection e2 with e2 e3
              subst e2 e3
              exact ⟨Ak2, ck2, hbc2.below hb1 hg⟩, fun k hk j hj => by
              obtain ⟨g2, off2, e2, _, hc2⟩ := HS.out k hk
              injection e2 with e2
              injection e2 with e2 e3
              subst e2 e3
              exact (hb1.cell (p := ⟨gl, ol + k * 118 + j, none⟩) hgl).trans (hc2 j hj), (hb1.cell (p := ⟨0, 0, none⟩) h0).trans HM.out, hg, hgl, h0⟩)
          clear hbc
          generalize (boAt l n).kind = K at *
          by_cases hk : K = 2
          · subst hk
            have hba := hb1.alloc hb1.size (.cells #[.slice (some ⟨g, off, none⟩) l.length cB, .slice (some ⟨gl, ol, none⟩) l.length cs, .int .i64 room, .bool true, .slice none 0 0] 38)
            have HI := hide (show ItV (w1.alloc (.cells #[.slice (some ⟨g, off, none⟩) l.length cB, .slice (some ⟨gl, ol, none⟩) l.length cs, .int .i64 room, .bool true, .slice none 0 0] 38)) w.heap.size w1.heap.size (.slice (some ⟨g, off, none⟩) l.length cB) (.slice (some ⟨gl, ol, none⟩) l.length cs) room true (.slice none 0 0) [] from ⟨Blk.new w1 _ _, hb1.size, own_none _ _ _ _⟩)
            have HD2 := hide (HD.out.below ((Below.refl w1.heap.size w1).alloc (Nat.le_refl _) (.cells #[.slice (some ⟨g, off, none⟩) l.length cB, .slice (some ⟨gl, ol, none⟩) l.length cs, .int .i64 room, .bool true, .slice none 0 0] 38) |>.mono hb1.size))
            have hcost := box_cost hG (l.length + 1) n hn
            have hce : costF (kidN l) (ownN l) (l.length + 1) n = ownN l n + ((kidN l n).map (costF (kidN l) (ownN l) l.length)).sum := rfl
            have HK := hide (kids_any w.heap.size w1.heap.size g off cB gl ol cs l R mv room l.length hl hG (box_any w.heap.size w1.heap.size g off cB gl ol cs l R mv room hl hG hT l.length) n (.slice none 0 0) true [] _ hn (fun k _ => by omega) hba.size HD2.out HI.out (by rw [List.length_nil]; omega))
            clear HB HS HM HD HD2 hcost
            go_wp2_with fail
            refine HK.out.mono ?_
            rintro e w5 ⟨rfl, V5, b5, s5, hI5, hS5, hB5, hl5⟩
            have hbw := hba.trans (HI.out.below hS5 hba.size)
            have c4 : w5.cell? ⟨w1.heap.size, 4, none⟩ = some V5 := hI5.blk.cell 4
            have hrow := own_mono hI5.row (Nat.zero_le _)
            rw [List.nil_append] at hrow
            have hcost := box_cost hG (l.length + 1) n hn
            clear HK HI hI5 hS5 hba
            go_wp2_with fail
            go_ret2
            exact ⟨⟨V5, 0, rfl, fun h => absurd rfl h, fun _ => ⟨s5, hrow, hB5, by omega⟩⟩, hbw⟩
          · have t4 : (K != 2) = true := by simpa using hk
            go_wp2_with fail
            go_ret2
            exact ⟨make_bad 7 (by decide), hb1⟩
    · have t1 : (ns != l.length) = true := by simpa using hns
      go_wp2_with fail
      go_ret2
      exact ⟨make_bad 3 (by decide), hb1⟩
  · clear hgood
    go_wp2_with fail
    go_ret2
    exact ⟨make_bad 3 (by decide), hb1⟩
end Go.Proofs.YtdnnodpkgncegaaDoor
