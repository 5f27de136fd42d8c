/- The walk of breaker.ends. -/
import Derived.BigQuiet
import Derived.Handy
import Derived.IntWalk
import Derived.RegionTactic
import Derived.Deep.MidRow
import Derived.Deep.RegionHeld3
import Derived.Test.YtadlabndbomgmaaDoorJFloatsPlace
import Derived.Test.YtadlabndbomgmaaDoorJ2
set_option linter.unusedVariables false
set_option linter.unusedSimpArgs false
namespace Go.Proofs.YtadlabndbomgmaaDoor
open Go.ChangeShapes Go.WideShapes Go.ChangeAt Go.RowKit
/-- The breaker's cells. -/
def brA (fp : Nat) (y sz ht al ind lf rt : Int) (line : Value) (full : Bool) (late out : Value) : Array Value := #[.pointer (some ⟨fp, 0, none⟩), .int .i64 y, .int .i64 sz, .int .i64 ht, .int .i64 al, .int .i64 ind, .int .i64 lf, .int .i64 rt, line, .bool full, late, out]
theorem own_stays {w w' : World} {base size n : Nat} {e : TypeId} {v : Value} {xs : List Value} {row : Option Nat} (h : w.ownsRow base e size v n xs) (hg : w.grownBy w' row) (hne : v.ownBlock ≠ row) : w'.ownsRow base e size v n xs :=
  h.kept hg (.inr hne)
theorem grownBy_trans {a b c : World} {row : Option Nat} (h : a.grownBy b row) (k : b.grownBy c row) : a.grownBy c row :=
  ⟨k.os.trans h.os, k.tape.trans h.tape, k.output.trans h.output, Nat.le_trans h.size k.size, fun i hi hr => (k.block i (Nat.lt_of_lt_of_le hi h.size) hr).trans (h.block i hi hr)⟩
theorem FloatsAt.grown {w w' : World} {B fp b : Nat} {W : Int} {fs : List Fl} {cs : Array Value} (h : FloatsAt w B fp W fs) (hb : Blk w b 81 cs) (g : w.grownBy w' (some b)) : FloatsAt w' B fp W fs := by
  obtain ⟨A, c, h1, h2, h3⟩ := h
  have ne1 : fp ≠ b := h1.ne_ hb (by decide)
  refine ⟨A, c, h1.grown g (fun e => ne1 (by injection e)), h2, ?_⟩
  exact own_stays h3 g (own_blk_ne h3 hb (by decide))
set_option maxRecDepth 100000 in
set_option maxHeartbeats 4000000 in
theorem bends_any (fp BF b : Nat) (W y sz ht al ind lf rt : Int) (line : Value) (full : Bool) (late out : Value) (fs : List Fl) (w : World) (hf : FloatsAt w BF fp W fs) (hb : Blk w b 81 (brA fp y sz ht al ind lf rt line full late out)) (hW : -16777216 ≤ W ∧ W ≤ 16777216)
    (hn : fs.length ≤ 200) (hok : ∀ f ∈ fs, FlBd f) (hi : -16777216 ≤ ind ∧ ind ≤ 16777216) :
    Calls Tryd.prog 41 #[.pointer (some ⟨b, 0, none⟩)] w fun e w' => e = .returned (.tuple #[]) ∧ Blk w' b 81 (brA fp y sz ht al ind ((edgesF W (cut y) (cut ht) fs).1 + ind) (edgesF W (cut y) (cut ht) fs).2.1 line full late out) ∧ w.grownBy w' (some b) := by
  have HE := hide (Edges_any fp BF y ht W fs w.drew hf hn hok)
  have HR := hide (edgesF_range (y := cut y) (h := cut ht) hW.1 (fun f hf => by have := hok f hf; unfold FlBd at this; omega))
  have HL := hide (edgesF_bd W (cut y) (cut ht) fs)
  have HB := hide hb.drew
  have HG := hide (only_drew (World.grownBy.refl w (some b)))
  have c0 : w.cell? ⟨b, 0, none⟩ = some (.pointer (some ⟨fp, 0, none⟩)) := hb.cell 0
  have c1 : w.cell? ⟨b, 1, none⟩ = some (.int .i64 y) := hb.cell 1
  have c3 : w.cell? ⟨b, 3, none⟩ = some (.int .i64 ht) := hb.cell 3
  clear hf hok hb
  generalize edgesF W (cut y) (cut ht) fs = E at *
  obtain ⟨el, er, em⟩ := E
  have hR := HR.out
  have hL := HL.out
  simp only at hR hL
  go_enter Tryd.func41, Tryd.ntmps41
  go_wp2_with fail
  go_region_held3 (fun X => X.cell? ⟨b, 0, none⟩ = some (.pointer (some ⟨fp, 0, none⟩)) ∧ X.cell? ⟨b, 1, none⟩ = some (.int .i64 y) ∧ X.cell? ⟨b, 3, none⟩ = some (.int .i64 ht)) (first | exact ⟨c0, c1, c3⟩ | exact ⟨r0, r1, r3⟩ | exact ⟨(HB5.out.set_ 6 _).cell 0, (HB5.out.set_ 6 _).cell 1, (HB5.out.set_ 6 _).cell 3⟩ | exact ⟨(HB5.out.set_ 7 _).cell 0, (HB5.out.set_ 7 _).cell 1, (HB5.out.set_ 7 _).cell 3⟩ | exact ⟨((HB5.out.set_ 6 _).set_ 7 _).cell 0, ((HB5.out.set_ 6 _).set_ 7 _).cell 1, ((HB5.out.set_ 6 _).set_ 7 _).cell 3⟩ | exact ⟨((HB5.out.set_ 7 _).set_ 6 _).cell 0, ((HB5.out.set_ 7 _).set_ 6 _).cell 1, ((HB5.out.set_ 7 _).set_ 6 _).cell 3⟩ | go_keep) ((go_at_call 64; refine HE.out.mono ?_; rintro e w5 ⟨rfl, hb5⟩; have HB5 := hide (HB.out.below hb5 HB.out.lt); have r0 : w5.cell? ⟨b, 0, none⟩ = some (.pointer (some ⟨fp, 0, none⟩)) := HB5.out.cell 0; have r1 : w5.cell? ⟨b, 1, none⟩ = some (.int .i64 y) := HB5.out.cell 1; have r3 : w5.cell? ⟨b, 3, none⟩ = some (.int .i64 ht) := HB5.out.cell 3; have r6 : w5.cell? ⟨b, 6, none⟩ = some (.int .i64 lf) := HB5.out.cell 6; have r7 : w5.cell? ⟨b, 7, none⟩ = some (.int .i64 rt) := HB5.out.cell 7; have fz6 : w5.frozen? ⟨b, 6, none⟩ = false := HB5.out.frozen 6; have fz7 : w5.frozen? ⟨b, 7, none⟩ = false := HB5.out.frozen 7))
  have HB7 := hide (show Blk ((w5.setCell ⟨b, 6, none⟩ (.int .i64 el)).setCell ⟨b, 7, none⟩ (.int .i64 er)) b 81 (brA fp y sz ht al ind el er line full late out) from (HB5.out.set_ 6 _).set_ 7 _)
  have g7 := hide (only_setCell (p := ⟨b, 7, none⟩) (only_setCell (p := ⟨b, 6, none⟩) (only_of_below hb5 (some b)) (.inl rfl) (.int .i64 el)) (.inl rfl) (.int .i64 er))
  generalize (w5.setCell ⟨b, 6, none⟩ (.int .i64 el)).setCell ⟨b, 7, none⟩ (.int .i64 er) = w7 at *
  clear r0 r1 r3 r6 r7 fz6 fz7 c0 c1 c3 hb5 HB HB5 HE
  have q5 : w7.cell? ⟨b, 5, none⟩ = some (.int .i64 ind) := HB7.out.cell 5
  have q6 : w7.cell? ⟨b, 6, none⟩ = some (.int .i64 el) := HB7.out.cell 6
  have fq6 : w7.frozen? ⟨b, 6, none⟩ = false := HB7.out.frozen 6
  have hwr : IntKind.i64.wrap (el + ind) = el + ind := IntWalk.i64_in _ (by omega)
  go_wp2_with fail
  go_region
  go_end0
  exact ⟨rfl, (HB7.out.set_ 6 _).drew, only_drew (grownBy_trans HG.out (only_setCell (p := ⟨b, 6, none⟩) g7.out (.inl rfl) _))⟩
end Go.Proofs.YtadlabndbomgmaaDoor
