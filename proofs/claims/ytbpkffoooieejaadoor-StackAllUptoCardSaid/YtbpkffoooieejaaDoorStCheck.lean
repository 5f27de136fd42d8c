/- Frags that came in; the walk of stack.Check. -/
import Derived.BigQuiet
import Derived.Handy
import Derived.IntWalk
import Derived.RegionTactic
import Derived.Deep.MidRow
import Derived.Deep.CutBlock
import Derived.Test.YtbpkffoooieejaaDoorBoxCheck
namespace Go.Proofs.YtbpkffoooieejaaDoor
open Go.ChangeShapes Go.WideShapes Go.ChangeAt Go.RowKit
structure Fr where
  box : Int
  node : Int
  par : Int
  x : Int
  y : Int
  w : Int
  h : Int
  text : ByteArray
def frA (x : Fr) : Array Value := #[.int .i64 x.box, .int .i64 x.node, .int .i64 x.par, .int .i64 x.x, .int .i64 x.y, .int .i64 x.w, .int .i64 x.h, .string x.text]
def fr0 : Fr := ⟨0, 0, 0, 0, 0, 0, 0, ByteArray.empty⟩
def frAt (l : List Fr) (k : Nat) : Fr := l.getD k fr0
def FragIn (w : World) (B : Nat) (A : Option Addr) (l : List Fr) : Prop := ∀ k, k < l.length → ∃ g off, A = some ⟨g, off, none⟩ ∧ g < B ∧ ∀ j, j < 8 → w.cell? ⟨g, off + k * 8 + j, none⟩ = (frA (frAt l k))[j]?
theorem FragIn.below {w w' : World} {B : Nat} {A : Option Addr} {l : List Fr} (h : FragIn w B A l) (hb : Below B w w') : FragIn w' B A l := fun k hk => by
  obtain ⟨g, off, h1, h2, h3⟩ := h k hk
  exact ⟨g, off, h1, h2, fun j hj => (hb.cell (p := ⟨g, off + k * 8 + j, none⟩) h2).trans (h3 j hj)⟩
def FragGood (l : List Bo) (fs : List Fr) (i : Nat) : Prop := 0 ≤ (frAt fs i).box ∧ (frAt fs i).box < l.length ∧ (i = 0 → (frAt fs i).par = -1) ∧ (0 < i → 0 ≤ (frAt fs i).par ∧ (frAt fs i).par < i)
def FragsOk (l : List Bo) (fs : List Fr) : Prop := (∀ i, i < fs.length → FragGood l fs i) ∧ 0 < fs.length
def StPost (l : List Bo) (fs : List Fr) (e : Ending) : Prop := ∃ r, e = .returned (.int .i64 r) ∧ (r = 0 ∨ r = 3) ∧ (r = 0 → FragsOk l fs)
theorem st_bad {l : List Bo} {fs : List Fr} (r : Int) (h : r ≠ 0) (h3 : r = 0 ∨ r = 3 := by decide) : StPost l fs (.returned (.int .i64 r)) := ⟨r, rfl, h3, fun e => absurd e h⟩
theorem BoxIn.mono {w : World} {B B' : Nat} {A : Option Addr} {l : List Bo} (h : BoxIn w B A l) (hB : B ≤ B') : BoxIn w B' A l := fun k hk => by
  obtain ⟨g, off, Ak, ck, h1, h2, h3, h4⟩ := h k hk
  refine ⟨g, off, Ak, ck, h1, Nat.lt_of_lt_of_le h2 hB, ⟨h3.c0, h3.c1, h3.c2, h3.c3, h3.c4, h3.kids.1, fun hn => ?_⟩, h4⟩
  obtain ⟨ad, e1, e2, e3⟩ := h3.kids.2 hn
  exact ⟨ad, e1, Nat.lt_of_lt_of_le e2 hB, e3⟩
set_option maxRecDepth 100000 in
set_option maxHeartbeats 40000000 in
theorem stCheck_any (l : List Bo) (fs : List Fr) (AB AF : Option Addr) (cB cF : Nat) (lw lh : Int) (w : World) (hB : BoxIn w w.heap.size AB l) (hF : FragIn w w.heap.size AF fs) (hlB : l.length ≤ maxLen) (hlF : fs.length ≤ maxLen) :
    Calls Tryd.prog 15 #[.agg #[.slice AB l.length cB, .slice AF fs.length cF, .int .i64 lw, .int .i64 lh]] w fun e w' => StPost l fs e ∧ Below w.heap.size w w' := by
  have hb0 := (Below.refl w.heap.size w).alloc (Nat.le_refl _) (.cells #[.slice AB l.length cB, .slice AF fs.length cF, .int .i64 lw, .int .i64 lh] 26)
  have hX := Blk.new w 26 #[.slice AB l.length cB, .slice AF fs.length cF, .int .i64 lw, .int .i64 lh]
  have HC := hide (Check_any l AB cB (w.alloc (.cells #[.slice AB l.length cB, .slice AF fs.length cF, .int .i64 lw, .int .i64 lh] 26)) ((hB.below hb0).mono hb0.size) hlB)
  unfold maxLen at hlB hlF
  have x0 : (w.alloc (.cells #[.slice AB l.length cB, .slice AF fs.length cF, .int .i64 lw, .int .i64 lh] 26)).cell? ⟨w.heap.size, 0, none⟩ = some (.slice AB l.length cB) := hX.cell 0
  have x1 : (w.alloc (.cells #[.slice AB l.length cB, .slice AF fs.length cF, .int .i64 lw, .int .i64 lh] 26)).cell? ⟨w.heap.size, 1, none⟩ = some (.slice AF fs.length cF) := hX.cell 1
  have hlt := hX.lt
  have HB := hide hB
  have HF := hide hF
  clear hX hB hF
  go_enter Tryd.func15, Tryd.ntmps15
  go_wp2_with fail
  refine HC.out.mono ?_
  clear HC
  rintro e w1 ⟨⟨r, rfl, hr, _, _⟩, hb1⟩
  have b1 := below_then hb0 (Nat.le_refl _) hb1
  have y0 := (hb1.cell (p := ⟨w.heap.size, 0, none⟩) hlt).trans x0
  have y1 := (hb1.cell (p := ⟨w.heap.size, 1, none⟩) hlt).trans x1
  have hlt1 := Nat.lt_of_lt_of_le hlt hb1.size
  clear x0 x1 hb1 hb0 hlt
  by_cases hr0 : r = 0
  · subst hr0
    go_wp2_with fail
    go_loopw [15] (fun i wr => ∃ k : Nat, k ≤ fs.length ∧ i = .int .i64 k ∧ (∀ m, m < k → FragGood l fs m) ∧ Below w.heap.size w wr ∧ wr.cell? ⟨w.heap.size, 0, none⟩ = some (.slice AB l.length cB) ∧ wr.cell? ⟨w.heap.size, 1, none⟩ = some (.slice AF fs.length cF)) (fun i _ => fs.length - (intOf i).toNat)
    case atStart => exact ⟨0, Nat.zero_le _, rfl, fun m hm => absurd hm (Nat.not_lt_zero _), b1, y0, y1⟩
    case round =>
      clear y0 y1
      obtain ⟨k, hk, rfl, hgood, hbel, y0, y1⟩ := hrel
      have HG := hide hgood
      clear hgood
      have hwz := cell_lt y0
      by_cases hlt : k < fs.length
      · obtain ⟨g, off, rfl, hg, hc⟩ := HF.out k hlt
        have cc : ∀ j, j < 8 → wr.cell? ⟨g, off + k * 8 + j, none⟩ = (frA (frAt fs k))[j]? := fun j hj => (hbel.cell (p := ⟨g, off + k * 8 + j, none⟩) hg).trans (hc j hj)
        have HFG := hide (show FragGood l fs k ↔ 0 ≤ (frAt fs k).box ∧ (frAt fs k).box < l.length ∧ (k = 0 → (frAt fs k).par = -1) ∧ (0 < k → 0 ≤ (frAt fs k).par ∧ (frAt fs k).par < k) from Iff.rfl)
        clear hc
        generalize frAt fs k = x at *
        obtain ⟨fb, fn, fp, fx, fy, fw, fh, ft⟩ := x
        have d0 : wr.cell? ⟨g, off + k * 8, none⟩ = some (.int .i64 fb) := cc 0 (by omega)
        have d1 : wr.cell? ⟨g, off + k * 8 + 1, none⟩ = some (.int .i64 fn) := cc 1 (by omega)
        have d2 : wr.cell? ⟨g, off + k * 8 + 2, none⟩ = some (.int .i64 fp) := cc 2 (by omega)
        have d3 : wr.cell? ⟨g, off + k * 8 + 3, none⟩ = some (.int .i64 fx) := cc 3 (by omega)
        have d4 : wr.cell? ⟨g, off + k * 8 + 4, none⟩ = some (.int .i64 fy) := cc 4 (by omega)
        have d5 : wr.cell? ⟨g, off + k * 8 + 5, none⟩ = some (.int .i64 fw) := cc 5 (by omega)
        have d6 : wr.cell? ⟨g, off + k * 8 + 6, none⟩ = some (.int .i64 fh) := cc 6 (by omega)
        have d7 : wr.cell? ⟨g, off + k * 8 + 7, none⟩ = some (.string ft) := cc 7 (by omega)
        clear cc
        have HFG2 := hide (show FragGood l fs k ↔ 0 ≤ fb ∧ fb < l.length ∧ (k = 0 → fp = -1) ∧ (0 < k → 0 ≤ fp ∧ fp < k) from HFG.out)
        clear HFG
        have HFG := HFG2
        clear HFG2
        have hbF := hbel.alloc hbel.size (.cells #[.int .i64 fb, .int .i64 fn, .int .i64 fp, .int .i64 fx, .int .i64 fy, .int .i64 fw, .int .i64 fh, .string ft] 37)
        have hbR := (Below.refl wr.heap.size wr).alloc (Nat.le_refl _) (.cells #[.int .i64 fb, .int .i64 fn, .int .i64 fp, .int .i64 fx, .int .i64 fy, .int .i64 fw, .int .i64 fh, .string ft] 37)
        have hY := Blk.new wr 37 #[.int .i64 fb, .int .i64 fn, .int .i64 fp, .int .i64 fx, .int .i64 fy, .int .i64 fw, .int .i64 fh, .string ft]
        have u0 : (wr.alloc (.cells #[.int .i64 fb, .int .i64 fn, .int .i64 fp, .int .i64 fx, .int .i64 fy, .int .i64 fw, .int .i64 fh, .string ft] 37)).cell? ⟨wr.heap.size, 0, none⟩ = some (.int .i64 fb) := hY.cell 0
        have u1 : (wr.alloc (.cells #[.int .i64 fb, .int .i64 fn, .int .i64 fp, .int .i64 fx, .int .i64 fy, .int .i64 fw, .int .i64 fh, .string ft] 37)).cell? ⟨wr.heap.size, 1, none⟩ = some (.int .i64 fn) := hY.cell 1
        have u2 : (wr.alloc (.cells #[.int .i64 fb, .int .i64 fn, .int .i64 fp, .int .i64 fx, .int .i64 fy, .int .i64 fw, .int .i64 fh, .string ft] 37)).cell? ⟨wr.heap.size, 2, none⟩ = some (.int .i64 fp) := hY.cell 2
        have v0 := (hbR.cell (p := ⟨w.heap.size, 0, none⟩) hwz).trans y0
        have v1 := (hbR.cell (p := ⟨w.heap.size, 1, none⟩) hwz).trans y1
        clear hY
        go_wp2_with fail
        generalize hwd : wr.alloc (.cells #[.int .i64 fb, .int .i64 fn, .int .i64 fp, .int .i64 fx, .int .i64 fy, .int .i64 fw, .int .i64 fh, .string ft] 37) = wf at *
        clear hwd d0 d1 d2 d3 d4 d5 d6 d7 hbR
        by_cases t1 : fb < 0
        · have e1 : decide (fb < 0) = true := decide_eq_true t1
          go_quiet (fail)
          go_wp2_with fail
          go_ret
          exact ⟨st_bad 3 (by decide), below_drewN hbF nq⟩
        · have e1 : decide (fb < 0) = false := decide_eq_false t1
          by_cases t2 : (l.length : Int) ≤ fb
          · have e2 : decide ((l.length : Int) ≤ fb) = true := decide_eq_true t2
            go_quiet (fail)
            go_wp2_with fail
            go_ret
            exact ⟨st_bad 3 (by decide), below_drewN hbF nq⟩
          · have e2 : decide ((l.length : Int) ≤ fb) = false := decide_eq_false t2
            obtain ⟨m, rfl⟩ : ∃ m : Nat, fb = (m : Int) := ⟨fb.toNat, by omega⟩
            have hml : m < l.length := by omega
            have e3 : decide (l.length ≤ m) = false := decide_eq_false (by omega)
            obtain ⟨g2, off2, Ak, ck, rfl, hg2, hbc, _⟩ := HB.out m hml
            have p1 := (hbc.below hbF hg2).c1
            clear hbc
            generalize (boAt l m).node = nd at *
            by_cases t3 : fn = nd
            · subst t3
              by_cases t4 : k = 0
              · subst t4
                by_cases t5 : fp = -1
                · subst t5
                  go_quiet (fail)
                  go_wp2_with fail
                  go_roundw
                  case rel => exact ⟨0 + 1, by omega, by go_num, fun q hq => by
                    rcases Nat.lt_or_ge q 0 with h | h
                    · exact HG.out q h
                    · obtain rfl : q = 0 := by omega
                      exact HFG.out.2 ⟨by omega, by omega, fun _ => rfl, fun h => absurd h (Nat.lt_irrefl _)⟩, below_drewN hbF nq, v0, v1⟩
                  case measure => simp only [intOf]; omega
                · have e5 : (fp != -1) = true := by simpa using t5
                  go_quiet (fail)
                  go_wp2_with fail
                  go_ret
                  exact ⟨st_bad 3 (by decide), below_drewN hbF nq⟩
              · have e4 : ((k : Int) == 0) = false := by simpa using t4
                have e6 : decide ((0 : Int) < (k : Int)) = true := decide_eq_true (by omega)
                have e7 : decide (0 < k) = true := decide_eq_true (by omega)
                by_cases t6 : fp < 0
                · have e8 : decide (fp < 0) = true := decide_eq_true t6
                  go_quiet (fail)
                  go_wp2_with fail
                  go_ret
                  exact ⟨st_bad 3 (by decide), below_drewN hbF nq⟩
                · have e8 : decide (fp < 0) = false := decide_eq_false t6
                  by_cases t7 : (k : Int) ≤ fp
                  · have e9 : decide ((k : Int) ≤ fp) = true := decide_eq_true t7
                    go_quiet (fail)
                    go_wp2_with fail
                    go_ret
                    exact ⟨st_bad 3 (by decide), below_drewN hbF nq⟩
                  · have e9 : decide ((k : Int) ≤ fp) = false := decide_eq_false t7
                    go_quiet (fail)
                    go_wp2_with fail
                    go_roundw
                    case rel => exact ⟨k + 1, by omega, by go_num, fun q hq => by
                      rcases Nat.lt_or_ge q k with h | h
                      · exact HG.out q h
                      · obtain rfl : q = k := by omega
                        exact HFG.out.2 ⟨by omega, by omega, fun h => absurd h t4, fun _ => ⟨by omega, by omega⟩⟩, below_drewN hbF nq, v0, v1⟩
                    case measure => simp only [intOf]; omega
            · have e3' : (fn != nd) = true := by simpa using t3
              go_quiet (fail)
              go_wp2_with fail
              go_ret
              exact ⟨st_bad 3 (by decide), below_drewN hbF nq⟩
      · obtain rfl : k = fs.length := by omega
        by_cases hz : fs.length = 0
        · have hz1 : (fs.length == 0) = true := by simpa using hz
          go_wp2_with fail
          go_ret
          exact ⟨st_bad 3 (by decide), hbel⟩
        · have hz1 : (fs.length == 0) = false := by simpa using hz
          have hz2 : 0 < fs.length := by omega
          obtain ⟨g, off, rfl, hg, hc⟩ := HF.out 0 hz2
          have c0 := (hbel.cell (p := ⟨g, off + 0 * 8 + 0, none⟩) hg).trans (hc 0 (by omega))
          have c1 : wr.cell? ⟨g, off, none⟩ = some (.int .i64 (frAt fs 0).box) := c0
          clear c0 hc
          generalize (frAt fs 0).box = bx at *
          by_cases hb : bx = 0
          · have hb2 : (bx != 0) = false := by simpa using hb
            go_wp2_with fail
            go_ret
            exact ⟨⟨0, rfl, .inl rfl, fun _ => ⟨HG.out, hz2⟩⟩, hbel⟩
          · have hb2 : (bx != 0) = true := by simpa using hb
            go_wp2_with fail
            go_ret
            exact ⟨st_bad 3 (by decide), hbel⟩
  · go_wp2_with fail
    go_ret
    exact ⟨st_bad r hr0 hr, b1⟩
end Go.Proofs.YtbpkffoooieejaaDoor
