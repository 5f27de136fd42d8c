/- The walk of raster.glyph: has a text a dot at a place? -/
import Derived.BigQuiet
import Derived.Handy
import Derived.IntWalk
import Derived.Lib.OthersKept
import Derived.Deep.QuietTactic
import Derived.Deep.RegionHeld3
import Derived.Test.YtbpkffoooieejaaDots
import Derived.Test.YtbpkffoooieejaaRaster
namespace Go.Proofs.Ytbpkffoooieejaa
open Go.ChangeShapes Go.WideShapes Go.ChangeAt Go.RowKit
def cmA (c : Cm) : Array Value := #[.int .i64 c.do_, .int .i64 c.node, .int .i64 c.x, .int .i64 c.y, .int .i64 c.w, .int .i64 c.h, .int .i64 c.c, .int .i64 c.n, .string c.t]
theorem glyph_step (size sp top x y left : Int) (s : ByteArray) (pos : Nat) (h : pos < s.size) : glyphS size sp top x y left (runesAt s pos) =
    if hereF size top x y left (Utf8.decode s pos).1 then true else glyphS size sp top x y (left + (advF (Utf8.decode s pos).1 size + sp)) (runesAt s (pos + (Utf8.decode s pos).2)) := by
  rw [runesAt_step s pos h]; rfl
theorem grown_iterAt {w : World} {k : Nat} {s : ByteArray} {p : Nat} : w.grownBy (w.iterAt k s p) (some k) :=
  ⟨rfl, rfl, rfl, by rw [Lib.iterAt_size]; exact Nat.le_refl _, fun i _ hne => Lib.iterAt_other w k i s p (fun e => hne (by rw [e]))⟩
theorem index_dots (r pk : Int) (h : 0 ≤ pk ∧ pk ≤ 7) (w : World) : (Instr.index 99 (.agg (intsA (dotsL r 8))) (.int .i64 pk)).run Try.prog w = .ok (.int .i64 (rowD r pk)) w := by
  rcases (show pk = 0 ∨ pk = 1 ∨ pk = 2 ∨ pk = 3 ∨ pk = 4 ∨ pk = 5 ∨ pk = 6 ∨ pk = 7 by omega) with rfl | rfl | rfl | rfl | rfl | rfl | rfl | rfl <;> kernel_rfl
section
variable {P : Program} {ops : Array Oper} {Q : Exit → Act → World → Prop} {md : Region.Mode} {S : World → Prop}
/-- An operation that may be taken first, its slot named. -/
theorem take_at {i : Nat} {oi : Oper} {v : Value} {fuel : Nat} {listed : Array Bool} {a : Act} {w : World} (d : Option Tmp) (hi : ops[i]? = some oi) (hd : oi.dst = d)
    (hs : Region.noSelect ops = true) (hf : Region.free md ops listed i = true) (hr : (Region.ready md ops listed).contains i = true)
    (hQ : ∀ c a w, Q (.panic c) (a.put oi.dst v) w → Q (.panic c) a w) (hy : YieldsIf P ops S oi v a) (hS : S w)
    (h : wpAnyH P md ops Q S fuel (listed.setIfInBounds i true) (a.put d v) w) : wpAnyH P md ops Q S (fuel + 1) listed a w := by
  subst hd; exact wpAnyH_take hi hs hf hr hQ hy hS h
theorem skip_at {i : Nat} {oi : Oper} {fuel : Nat} {listed : Array Bool} {a : Act} {w : World} (d : Option Tmp) (hi : ops[i]? = some oi) (hd : oi.dst = d)
    (hs : Region.noSelect ops = true) (hf : Region.free md ops listed i = true) (hr : (Region.ready md ops listed).contains i = true)
    (hQ : ∀ c a w, Q (.panic c) (a.put oi.dst undef) w → Q (.panic c) a w) (hw : Region.wanted oi (yielded ops a.tmps) = false) (hS : S w)
    (h : wpAnyH P md ops Q S fuel (listed.setIfInBounds i true) (a.put d undef) w) : wpAnyH P md ops Q S (fuel + 1) listed a w :=
  take_at d hi hd hs hf hr hQ (Or.inr ⟨hw, rfl⟩) hS h
end
set_option maxRecDepth 100000 in
set_option maxHeartbeats 8000000 in
theorem glyph_any (c : Cm) (x y : Int) (w : World) (hx : -1000000 ≤ x ∧ x ≤ 1000000) (hy : -1000000 ≤ y ∧ y ≤ 1000000) (hs : c.t.size ≤ 400) :
    Calls Try.prog 52 #[.agg #[.int .i64 c.do_, .int .i64 c.node, .int .i64 c.x, .int .i64 c.y, .int .i64 c.w, .int .i64 c.h, .int .i64 c.c, .int .i64 c.n, .string c.t], .int .i64 x, .int .i64 y] w fun e w' => e = .returned (.bool (glyphF c x y)) ∧ Below w.heap.size w w' := by
  have HG := hide (show glyphF c x y = glyphS (sizeF c.n) (cut c.h) (cut c.y - ascF (sizeF c.n)) x y (cut c.x) (runesAt c.t 0) from rfl)
  have hsz := sizeF_bd c.n
  have HSZ := hide (show max 0 (cut c.n) = sizeF c.n from rfl)
  have hx1 := cut_lo c.x
  have hx2 := cut_hi c.x
  have hy1 := cut_lo c.y
  have hy2 := cut_hi c.y
  have hh1 := cut_lo c.h
  have hh2 := cut_hi c.h
  have has := asc_bd (sizeF c.n)
  rw [size_size] at has
  go_enter Try.func52, Try.ntmps52
  go_wp2_with (first | (go_at_call 36; refine (cut_any _ _).mono ?_; rintro e w' ⟨rfl, rfl⟩) | fail)
  rw [HSZ.out]
  have HSS := hide (size_size c.n)
  have htop0 : -33554432 ≤ cut c.y - ascF (sizeF c.n) ∧ cut c.y - ascF (sizeF c.n) ≤ 16777216 := by omega
  clear HSZ
  generalize sizeF c.n = size at *
  generalize hag : glyphF c x y = ans at *
  have HAG := hide hag
  clear hag
  have hB := Blk.new w 43 #[.int .i64 c.do_, .int .i64 c.node, .int .i64 c.x, .int .i64 c.y, .int .i64 c.w, .int .i64 c.h, .int .i64 c.c, .int .i64 c.n, .string c.t]
  have hb : Below w.heap.size w (w.alloc (.cells #[.int .i64 c.do_, .int .i64 c.node, .int .i64 c.x, .int .i64 c.y, .int .i64 c.w, .int .i64 c.h, .int .i64 c.c, .int .i64 c.n, .string c.t] 43)) := by go_grown
  have HB := hide hB
  clear hB
  generalize w.alloc (.cells #[.int .i64 c.do_, .int .i64 c.node, .int .i64 c.x, .int .i64 c.y, .int .i64 c.w, .int .i64 c.h, .int .i64 c.c, .int .i64 c.n, .string c.t] 43) = wA at *
  have c2 : wA.cell? ⟨w.heap.size, 2, none⟩ = some (.int .i64 c.x) := HB.out.cell 2
  have c3 : wA.cell? ⟨w.heap.size, 3, none⟩ = some (.int .i64 c.y) := HB.out.cell 3
  have c8 : wA.cell? ⟨w.heap.size, 8, none⟩ = some (.string c.t) := HB.out.cell 8
  go_quiet ((first | (go_at_call 36; exact quiet_left (cut_any _ _)) | (go_at_call 23; exact quiet_left (Ascent_any _ _))))
  have HB2 := hide (HB.out.drewN nq)
  have hb2 := below_drewN hb nq
  rename Nat => n1
  go_wp2_with fail
  have hkI := hb.size
  have hlA := HB.out.lt
  have hit0 : ((wA.drewN n1).iter c.t 0).heap[wA.heap.size]? = some (.stringIter c.t 0) := World.iter_heap (wA.drewN n1) c.t 0
  have hb3 : Below w.heap.size w ((wA.drewN n1).iter c.t 0) := hb2.alloc hb2.size _
  have HB3 := hide (show Blk ((wA.drewN n1).iter c.t 0) w.heap.size 43 #[.int .i64 c.do_, .int .i64 c.node, .int .i64 c.x, .int .i64 c.y, .int .i64 c.w, .int .i64 c.h, .int .i64 c.c, .int .i64 c.n, .string c.t] from HB2.out.alloc _)
  have HIT0 := hide hit0
  clear hit0 HB HB2 hb2 c2 c3 c8
  generalize cut c.x = left0 at *
  generalize hsp : cut c.h = sp at *
  generalize cut c.y - ascF size = top at *
  have HSP := hide hsp
  clear hsp
  have htop : -33554432 ≤ top ∧ top ≤ 16777216 := htop0
  go_loopw [8] (fun v W => ∃ (pos : Nat) (left : Int), v = .int .i64 left ∧ pos ≤ c.t.size ∧ W.heap[wA.heap.size]? = some (.stringIter c.t pos) ∧ Blk W w.heap.size 43 #[.int .i64 c.do_, .int .i64 c.node, .int .i64 c.x, .int .i64 c.y, .int .i64 c.w, .int .i64 c.h, .int .i64 c.c, .int .i64 c.n, .string c.t] ∧ Below w.heap.size w W ∧ Hid (glyphS size sp top x y left (runesAt c.t pos) = ans) ∧ -16777216 - 33554432 * (pos : Int) ≤ left ∧ left ≤ 16777216 + 33554432 * (pos : Int)) (fun _ W => c.t.size - W.iterPos wA.heap.size)
  case atStart => exact ⟨0, left0, rfl, Nat.zero_le _, HIT0.out, HB3.out, hb3, hide HG.out.symm, by omega, by omega⟩
  case round =>
    obtain ⟨pos, left, rfl, hps, hit, hblk, hbw, hgs, hl1, hl2⟩ := hrel
    have hszw : wA.heap.size < wr.heap.size := (Array.getElem?_eq_some_iff.1 hit).1
    have HBr := hide hblk
    clear hblk
    by_cases hp : pos < c.t.size
    · have hnx : ∀ ty, (Instr.next (.pointer (some ⟨wA.heap.size, 0, none⟩)) true ty).run Try.prog wr = _ := fun ty => Lib.run_next_any_at wr wA.heap.size c.t pos ty hit hp
      obtain ⟨d1, d2, d3⟩ := decode_wd c.t pos hp
      have HGS := hide (show (if hereF size top x y left (Utf8.decode c.t pos).1 then true else glyphS size sp top x y (left + (advF (Utf8.decode c.t pos).1 size + sp)) (runesAt c.t (pos + (Utf8.decode c.t pos).2))) = ans from by rw [← glyph_step size sp top x y left c.t pos hp]; exact hgs.out)
      have hit2 := Lib.iterAt_heap wr wA.heap.size c.t pos (pos + (Utf8.decode c.t pos).2) hit
      have hbw2 := Lib.below_iterAt hbw hkI c.t (pos + (Utf8.decode c.t pos).2)
      have hblk2 := HBr.out.grown (grown_iterAt (w := wr) (k := wA.heap.size) (s := c.t) (p := pos + (Utf8.decode c.t pos).2)) (by intro e; injection e with e; omega)
      have hsz2 : (wr.iterAt wA.heap.size c.t (pos + (Utf8.decode c.t pos).2)).heap.size = wr.heap.size := Lib.iterAt_size _ _ _ _
      have hpos2 : wr.iterPos wA.heap.size = pos := by simp [World.iterPos, hit]
      have HP2 := hide hpos2
      have HI2 := hide hit2
      have HB2 := hide hblk2
      clear hit hit2 hpos2 hgs HBr hblk2
      generalize wr.iterAt wA.heap.size c.t (pos + (Utf8.decode c.t pos).2) = W1 at *
      have hszw1 : wA.heap.size < W1.heap.size := by omega
      clear hsz2
      generalize Utf8.decode c.t pos = d at *
      obtain ⟨dr, dw⟩ := d
      dsimp only at *
      have had := adv_bd dr size
      have hadz : sizeF size = size := HSS.out
      rw [hadz] at had
      clear hadz
      go_wp2_with (first | (go_at_call 49; refine (Advance_any _ _ _).mono ?_; rintro e w' ⟨rfl, k1, rfl⟩) | fail)
      have HB4 := hide (HB2.out.drewN k1)
      have hbw4 := below_drewN hbw2 k1
      have HI4 := hide (show (W1.drewN k1).heap[wA.heap.size]? = some (.stringIter c.t (pos + dw)) from HI2.out)
      have hszw4 : wA.heap.size < (W1.drewN k1).heap.size := hszw1
      clear hnx HB2 hbw2 HI2 hszw1
      generalize W1.drewN k1 = wF at *
      have HH := hide (show hereF size top x y left dr = (inR ⟨left, top, advF dr size, size⟩ x y && dotF dr (partOf (y - top) 8 size) (partOf (x - left) 8 (advF dr size))) from rfl)
      have hin := inR_iff ⟨left, top, advF dr size, size⟩ x y
      dsimp only at hin
      generalize advF (dr : Int) size = adv at *
      have t1 : Tame x := by unfold Tame; omega
      have t2 : Tame y := by unfold Tame; omega
      have t3 : Tame left := by unfold Tame; omega
      have t4 : Tame top := by unfold Tame; omega
      cases hi : inR ⟨left, top, adv, size⟩ x y
      · have HIN := hide hi
        have HH2 := hide (show hereF size top x y left dr = false from by rw [HH.out, hi]; rfl)
        clear hin hi HH
        refine wp_region_held_drew (S := fun _ => True) (by kernel_rfl) trivial (fun hHeld => ?_)
        refine take_at (i := 0) (v := .int .i64 left) (some 35) rfl rfl (by kernel_rfl) (by kernel_rfl) (by kernel_rfl) (fun _ _ _ h => h) (yieldsIf_move (by rfl) _ rfl _ rfl) trivial ?_
        simp only [Act.put, List.setIfInBounds_toArray, List.set_cons_zero, List.set_cons_succ]
        refine take_at (i := 1) (v := .int .i64 top) (some 36) rfl rfl (by kernel_rfl) (by kernel_rfl) (by kernel_rfl) (fun _ _ _ h => h) (yieldsIf_move (by rfl) _ rfl _ rfl) trivial ?_
        simp only [Act.put, List.setIfInBounds_toArray, List.set_cons_zero, List.set_cons_succ]
        refine take_at (i := 2) (v := .int .i64 adv) (some 37) rfl rfl (by kernel_rfl) (by kernel_rfl) (by kernel_rfl) (fun _ _ _ h => h) (yieldsIf_move (by rfl) _ rfl _ rfl) trivial ?_
        simp only [Act.put, List.setIfInBounds_toArray, List.set_cons_zero, List.set_cons_succ]
        refine take_at (i := 3) (v := .int .i64 size) (some 38) rfl rfl (by kernel_rfl) (by kernel_rfl) (by kernel_rfl) (fun _ _ _ h => h) (yieldsIf_move (by rfl) _ rfl _ rfl) trivial ?_
        simp only [Act.put, List.setIfInBounds_toArray, List.set_cons_zero, List.set_cons_succ]
        refine take_at (i := 4) (v := .agg #[.int .i64 left, .int .i64 top, .int .i64 adv, .int .i64 size]) (some 39) rfl rfl (by kernel_rfl) (by kernel_rfl) (by kernel_rfl) (fun _ _ _ h => h) (Or.inl ⟨by rfl, fun w _ => ?_⟩) trivial ?_
        · go_simp
        simp only [Act.put, List.setIfInBounds_toArray, List.set_cons_zero, List.set_cons_succ]
        refine take_at (i := 5) (v := .int .i64 x) (some 40) rfl rfl (by kernel_rfl) (by kernel_rfl) (by kernel_rfl) (fun _ _ _ h => h) (yieldsIf_move (by rfl) _ rfl _ rfl) trivial ?_
        simp only [Act.put, List.setIfInBounds_toArray, List.set_cons_zero, List.set_cons_succ]
        refine take_at (i := 6) (v := .int .i64 y) (some 41) rfl rfl (by kernel_rfl) (by kernel_rfl) (by kernel_rfl) (fun _ _ _ h => h) (yieldsIf_move (by rfl) _ rfl _ rfl) trivial ?_
        simp only [Act.put, List.setIfInBounds_toArray, List.set_cons_zero, List.set_cons_succ]
        refine wpAnyH_ready (rs := [7]) (by kernel_rfl) (by simp) ?_
        refine AllReadyH.cons rfl (fun K hK => ?_) AllReadyH.nil
        go_simp
        go_at_call 51
        refine (within_any ⟨left, top, adv, size⟩ x y _ t1 t2 t3 t4).mono ?_
        rintro e w5 ⟨rfl, hb5⟩
        rw [HIN.out]
        go_wp2_with fail
        refine hK.out _ _ trivial (fun _ => ?_)
        clear hK K
        refine take_at (i := 8) (v := .bool false) (some 43) rfl rfl (by kernel_rfl) (by kernel_rfl) (by kernel_rfl) (fun _ _ _ h => h) (yieldsIf_move (by rfl) _ rfl _ rfl) trivial ?_
        simp only [Act.put, List.setIfInBounds_toArray, List.set_cons_zero, List.set_cons_succ]
        refine skip_at (i := 9) (some 44) rfl rfl (by kernel_rfl) (by kernel_rfl) (by kernel_rfl) (fun _ _ _ h => h) (by kernel_rfl) trivial ?_
        simp only [Act.put, List.setIfInBounds_toArray, List.set_cons_zero, List.set_cons_succ]
        refine skip_at (i := 10) (some 45) rfl rfl (by kernel_rfl) (by kernel_rfl) (by kernel_rfl) (fun _ _ _ h => h) (by kernel_rfl) trivial ?_
        simp only [Act.put, List.setIfInBounds_toArray, List.set_cons_zero, List.set_cons_succ]
        refine skip_at (i := 11) (some 46) rfl rfl (by kernel_rfl) (by kernel_rfl) (by kernel_rfl) (fun _ _ _ h => h) (by kernel_rfl) trivial ?_
        simp only [Act.put, List.setIfInBounds_toArray, List.set_cons_zero, List.set_cons_succ]
        refine skip_at (i := 12) (some 47) rfl rfl (by kernel_rfl) (by kernel_rfl) (by kernel_rfl) (fun _ _ _ h => h) (by kernel_rfl) trivial ?_
        simp only [Act.put, List.setIfInBounds_toArray, List.set_cons_zero, List.set_cons_succ]
        refine skip_at (i := 13) (some 48) rfl rfl (by kernel_rfl) (by kernel_rfl) (by kernel_rfl) (fun _ _ _ h => h) (by kernel_rfl) trivial ?_
        simp only [Act.put, List.setIfInBounds_toArray, List.set_cons_zero, List.set_cons_succ]
        refine skip_at (i := 14) (some 49) rfl rfl (by kernel_rfl) (by kernel_rfl) (by kernel_rfl) (fun _ _ _ h => h) (by kernel_rfl) trivial ?_
        simp only [Act.put, List.setIfInBounds_toArray, List.set_cons_zero, List.set_cons_succ]
        refine skip_at (i := 15) (some 50) rfl rfl (by kernel_rfl) (by kernel_rfl) (by kernel_rfl) (fun _ _ _ h => h) (by kernel_rfl) trivial ?_
        simp only [Act.put, List.setIfInBounds_toArray, List.set_cons_zero, List.set_cons_succ]
        refine skip_at (i := 16) (some 51) rfl rfl (by kernel_rfl) (by kernel_rfl) (by kernel_rfl) (fun _ _ _ h => h) (by kernel_rfl) trivial ?_
        simp only [Act.put, List.setIfInBounds_toArray, List.set_cons_zero, List.set_cons_succ]
        refine skip_at (i := 17) (some 52) rfl rfl (by kernel_rfl) (by kernel_rfl) (by kernel_rfl) (fun _ _ _ h => h) (by kernel_rfl) trivial ?_
        simp only [Act.put, List.setIfInBounds_toArray, List.set_cons_zero, List.set_cons_succ]
        refine skip_at (i := 18) (some 53) rfl rfl (by kernel_rfl) (by kernel_rfl) (by kernel_rfl) (fun _ _ _ h => h) (by kernel_rfl) trivial ?_
        simp only [Act.put, List.setIfInBounds_toArray, List.set_cons_zero, List.set_cons_succ]
        refine skip_at (i := 19) (some 54) rfl rfl (by kernel_rfl) (by kernel_rfl) (by kernel_rfl) (fun _ _ _ h => h) (by kernel_rfl) trivial ?_
        simp only [Act.put, List.setIfInBounds_toArray, List.set_cons_zero, List.set_cons_succ]
        refine skip_at (i := 20) (some 55) rfl rfl (by kernel_rfl) (by kernel_rfl) (by kernel_rfl) (fun _ _ _ h => h) (by kernel_rfl) trivial ?_
        simp only [Act.put, List.setIfInBounds_toArray, List.set_cons_zero, List.set_cons_succ]
        refine skip_at (i := 21) (some 56) rfl rfl (by kernel_rfl) (by kernel_rfl) (by kernel_rfl) (fun _ _ _ h => h) (by kernel_rfl) trivial ?_
        simp only [Act.put, List.setIfInBounds_toArray, List.set_cons_zero, List.set_cons_succ]
        refine skip_at (i := 22) (some 57) rfl rfl (by kernel_rfl) (by kernel_rfl) (by kernel_rfl) (fun _ _ _ h => h) (by kernel_rfl) trivial ?_
        simp only [Act.put, List.setIfInBounds_toArray, List.set_cons_zero, List.set_cons_succ]
        refine skip_at (i := 23) (some 58) rfl rfl (by kernel_rfl) (by kernel_rfl) (by kernel_rfl) (fun _ _ _ h => h) (by kernel_rfl) trivial ?_
        simp only [Act.put, List.setIfInBounds_toArray, List.set_cons_zero, List.set_cons_succ]
        refine skip_at (i := 24) (some 59) rfl rfl (by kernel_rfl) (by kernel_rfl) (by kernel_rfl) (fun _ _ _ h => h) (by kernel_rfl) trivial ?_
        simp only [Act.put, List.setIfInBounds_toArray, List.set_cons_zero, List.set_cons_succ]
        refine skip_at (i := 25) (some 60) rfl rfl (by kernel_rfl) (by kernel_rfl) (by kernel_rfl) (fun _ _ _ h => h) (by kernel_rfl) trivial ?_
        simp only [Act.put, List.setIfInBounds_toArray, List.set_cons_zero, List.set_cons_succ]
        refine take_at (i := 26) (v := .bool false) (some 61) rfl rfl (by kernel_rfl) (by kernel_rfl) (by kernel_rfl) (fun _ _ _ h => h) (Or.inl ⟨by rfl, fun w _ => ?_⟩) trivial ?_
        · go_simp
        simp only [Act.put, List.setIfInBounds_toArray, List.set_cons_zero, List.set_cons_succ]
        refine wpAnyH_done (by kernel_rfl) ?_ _
        have HB6 := hide (HB4.out.drew.below hb5 HB4.out.drew.lt)
        have HI6 := hide ((hb5.block wA.heap.size hszw4).trans HI4.out)
        have hbw6 := below_then (below_drewN hbw4 1) (Nat.le_refl _) hb5
        have HG2 := hide (show glyphS size sp top x y (left + (adv + sp)) (runesAt c.t (pos + dw)) = ans from by have h9 := HGS.out; rw [HH2.out] at h9; exact h9)
        have q5 : w5.cell? ⟨w.heap.size, 5, none⟩ = some (.int .i64 c.h) := HB6.out.cell 5
        clear HGS HH2
        go_wp2_with (first | (go_at_call 36; refine (cut_any _ _).mono ?_; rintro e w' ⟨rfl, rfl⟩; rw [HSP.out]) | fail)
        go_roundw
        case rel => exact ⟨pos + dw, left + (adv + sp), by go_num, by omega, HI6.out, HB6.out, hbw6, HG2, by omega, by omega⟩
        case measure =>
          rw [HP2.out]
          simp only [World.iterPos, HI6.out]
          omega
      · have HIN := hide hi
        rw [hi] at hin
        obtain ⟨⟨i1, i2⟩, i3, i4⟩ := hin.1 rfl
        clear hin hi
        have hs1 : 1 ≤ size := by omega
        have ha1 : 1 ≤ adv := by omega
        have hpk := part8 (a := y - top) (w := size) (by omega) (by omega) (by omega)
        have hpj := part8 (a := x - left) (w := adv) (by omega) (by omega) (by omega)
        have hdr : -2147483648 ≤ (dr : Int) ∧ (dr : Int) ≤ 1114111 := by omega
        have hix := index_dots dr (partOf (y - top) 8 size) hpk
        have hrw := rowD_bd dr (partOf (y - top) 8 size)
        have hdv := and1 (rowD dr (partOf (y - top) 8 size) / 2 ^ (7 - partOf (x - left) 8 adv).toNat)
        have hwr1 : IntKind.i64.wrap (y - top) = y - top := by rw [IntWalk.i64_in _ (by omega)]
        have hwr2 : IntKind.i64.wrap (x - left) = x - left := by rw [IntWalk.i64_in _ (by omega)]
        have hwr3 : IntKind.i64.wrap (7 - partOf (x - left) 8 adv) = 7 - partOf (x - left) 8 adv := by rw [IntWalk.i64_in _ (by omega)]
        have hj0 : 0 ≤ 7 - partOf (x - left) 8 adv := by omega
        have hj1 : 7 - partOf (x - left) 8 adv ≤ 64 := by omega
        have HDT := hide (show dotF dr (partOf (y - top) 8 size) (partOf (x - left) 8 adv) = (rowD dr (partOf (y - top) 8 size) / 2 ^ (7 - partOf (x - left) 8 adv).toNat % 2 == 1) from rfl)
        cases hd : dotF dr (partOf (y - top) 8 size) (partOf (x - left) 8 adv)
        · have HH2 := hide (show hereF size top x y left dr = _ from by rw [HH.out, HIN.out, hd, Bool.true_and])
          have hdd := HDT.out
          rw [hd] at hdd
          have hdq := hdd.symm
          clear hd hdd HDT
          go_region_held3 (fun _ => True) (trivial) (first | (go_at_call 51; refine (within_any ⟨left, top, adv, size⟩ x y _ t1 t2 t3 t4).mono ?_; rintro e w5 ⟨rfl, hb5⟩; rw [HIN.out]) | (go_at_call 55; refine (Dots_any _ _ hdr).mono ?_; rintro e w6 ⟨rfl, hb6⟩) | (go_at_call 37; refine (part_any _ _ _ _ (by omega)).mono ?_; rintro e w' ⟨rfl, rfl⟩))
          all_goals
            have HB5 := HB4.out.drew.below hb5 HB4.out.drew.lt
            have HB6 := hide (HB5.below hb6 HB5.lt)
            have HI6 := hide ((hb6.block wA.heap.size (Nat.lt_of_lt_of_le hszw4 hb5.size)).trans ((hb5.block wA.heap.size hszw4).trans HI4.out))
            have hbw6 := below_then (below_then (below_drewN hbw4 1) (Nat.le_refl _) hb5) (Nat.le_refl _) hb6
            clear HB5 hix hdv hdq hwr1 hwr2 hwr3
            have HG2 := hide (show glyphS size sp top x y (left + (adv + sp)) (runesAt c.t (pos + dw)) = ans from by have h9 := HGS.out; rw [HH2.out] at h9; exact h9)
            have q5 : w6.cell? ⟨w.heap.size, 5, none⟩ = some (.int .i64 c.h) := HB6.out.cell 5
            clear HGS HH2
            go_wp2_with (first | (go_at_call 36; refine (cut_any _ _).mono ?_; rintro e w' ⟨rfl, rfl⟩; rw [HSP.out]) | fail)
            go_roundw
            case rel => exact ⟨pos + dw, left + (adv + sp), by go_num, by omega, HI6.out, HB6.out, hbw6, HG2, by omega, by omega⟩
            case measure =>
              rw [HP2.out]
              simp only [World.iterPos, HI6.out]
              omega
        · have HH2 := hide (show hereF size top x y left dr = _ from by rw [HH.out, HIN.out, hd, Bool.true_and])
          have hdd := HDT.out
          rw [hd] at hdd
          have hdq := hdd.symm
          clear hd hdd HDT
          go_region_held3 (fun _ => True) (trivial) (first | (go_at_call 51; refine (within_any ⟨left, top, adv, size⟩ x y _ t1 t2 t3 t4).mono ?_; rintro e w5 ⟨rfl, hb5⟩; rw [HIN.out]) | (go_at_call 55; refine (Dots_any _ _ hdr).mono ?_; rintro e w6 ⟨rfl, hb6⟩) | (go_at_call 37; refine (part_any _ _ _ _ (by omega)).mono ?_; rintro e w' ⟨rfl, rfl⟩))
          all_goals
            have HB5 := HB4.out.drew.below hb5 HB4.out.drew.lt
            have HB6 := hide (HB5.below hb6 HB5.lt)
            have HI6 := hide ((hb6.block wA.heap.size (Nat.lt_of_lt_of_le hszw4 hb5.size)).trans ((hb5.block wA.heap.size hszw4).trans HI4.out))
            have hbw6 := below_then (below_then (below_drewN hbw4 1) (Nat.le_refl _) hb5) (Nat.le_refl _) hb6
            clear HB5 hix hdv hdq hwr1 hwr2 hwr3
            have HG2 := hide (show true = ans from by have h9 := HGS.out; rw [HH2.out] at h9; exact h9)
            clear HGS HH2
            go_wp2_with fail
            go_ret
            exact ⟨ret_bool (by rw [HAG.out]; exact HG2.out), hbw6⟩
    · have hnx : ∀ ty, (Instr.next (.pointer (some ⟨wA.heap.size, 0, none⟩)) true ty).run Try.prog wr = _ := fun ty => Lib.run_next_end_at wr wA.heap.size c.t pos ty hit hp
      have HE := hide (show false = ans from by have h8 := hgs.out; rw [runesAt_end c.t pos (by omega)] at h8; exact h8)
      go_wp2_with fail
      go_ret
      exact ⟨ret_bool (by rw [HAG.out]; exact HE.out), hbw⟩
end Go.Proofs.Ytbpkffoooieejaa
