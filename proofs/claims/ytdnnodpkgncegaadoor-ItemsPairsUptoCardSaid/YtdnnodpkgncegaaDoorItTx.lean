/- The state of the maker of items in the midst of a walk. No program in sight. -/
import Derived.Test.YtdnnodpkgncegaaDoorItSmall
import Derived.Test.YtdnnodpkgncegaaDoorWhiteI
import Derived.Test.YtdnnodpkgncegaaDoorBoxMem
namespace Go.Proofs.YtdnnodpkgncegaaDoor
open Go.RowKit Go.Instr
/-- Styles that came in. -/
def StyIn (w : World) (B : Nat) (A : Option Addr) (n : Nat) (R : Nat → Nat → Int) : Prop := ∀ k, k < n → ∃ g off, A = some ⟨g, off, none⟩ ∧ g < B ∧ ∀ j, j < 118 → w.cell? ⟨g, off + k * 118 + j, none⟩ = some (.int .i64 (R k j))
theorem StyIn.below {w w' : World} {B n : Nat} {A : Option Addr} {R : Nat → Nat → Int} (h : StyIn w B A n R) (hb : Below B w w') : StyIn w' B A n R := fun k hk => by
  obtain ⟨g, off, h1, h2, h3⟩ := h k hk
  exact ⟨g, off, h1, h2, fun j hj => (hb.cell (p := ⟨g, off + k * 118 + j, none⟩) h2).trans (h3 j hj)⟩
structure TxS (w0 w : World) (B mb sb : Nat) (Sb Sl : Value) (room : Int) (bl : Bool) (V0 V : Value) (s : List Li) (R : Nat → Int) : Prop where
  it : ItV w B mb Sb Sl room bl V s
  st : Stp mb w0 V0 w V
  sty : Blk w sb 44 (styA R)
  sz : B ≤ w.heap.size
  bw : Below B w0 w
section
variable {w0 w w' : World} {B mb sb : Nat} {Sb Sl V0 V V' : Value} {room : Int} {bl bl' : Bool} {s s' : List Li} {R : Nat → Int}
theorem TxS.old (h : TxS w0 w B mb sb Sb Sl room bl V0 V s R) (k : Below w.heap.size w w') : TxS w0 w' B mb sb Sb Sl room bl V0 V s R :=
  ⟨h.it.old k, h.st.trans (Stp.of_below k V), h.sty.below k h.sty.lt, bsz (k.mono h.sz) h.sz, h.bw.trans (k.mono h.sz)⟩
theorem TxS.next (h : TxS w0 w B mb sb Sb Sl room bl V0 V s R) (hi : ItV w' B mb Sb Sl room bl' V' s') (k : Stp mb w V w' V') : TxS w0 w' B mb sb Sb Sl room bl' V0 V' s' R :=
  ⟨hi, h.st.trans k, h.it.keep k h.sty (by decide) (by decide), bsz (h.it.below k h.sz) h.sz, h.bw.trans (h.it.below k h.sz)⟩
theorem TxS.blank (h : TxS w0 w B mb sb Sb Sl room bl V0 V s R) (bl' : Bool) (hb : Blk w' mb 38 #[Sb, Sl, .int .i64 room, .bool bl', V]) (hG : w.grownBy w' (some mb)) : TxS w0 w' B mb sb Sb Sl room bl' V0 V s R ∧ Stp mb w V w' V := by
  obtain ⟨h1, h2⟩ := h.it.blank bl' hb hG
  exact ⟨h.next h1 h2, h2⟩
end
theorem yieldsIf_loadMidA {P : Program} {ops : Array Oper} {S : World → Prop} {a : Act} {op : Oper} (hw : Region.wanted op (yielded ops a.tmps) = true) (ty : TypeId) (x : Operand) (ho : op.op = .load ty x) (g off : Nat) (hx : a.eval x = .pointer (some ⟨g, off, none⟩)) (cs : Array Value) (d : TypeDesc)
    (hS : ∀ w, S w → ∀ j u, cs[j]? = some u → w.cell? ⟨g, off + j, none⟩ = some u) (hu : P.underlying ty = some d) (hd : (match d with | .struct _ | .array _ _ => true | _ => false) = true) (hi : (P.info? ty).map (·.size) = some cs.size) : YieldsIf P ops S op (.agg cs) a := by
  have := yieldsIf_loadMid (S := S) hw ty x ho g off hx cs.toList d (fun w h j u hj => hS w h j u (by rw [← Array.getElem?_toList]; exact hj)) hu hd (by rw [hi]; simp)
  rwa [Array.toArray_toList] at this
theorem val_u : Tryd.prog.underlying 42 = some (.struct (Tryd.prog.fieldsOf 42)) := by kernel_rfl
theorem val_i (a b : Int) : (Tryd.prog.info? 42).map (·.size) = some (#[Value.int .i64 a, .int .i64 b] : Array Value).size := by kernel_rfl
theorem two_cells {w : World} {g o : Nat} {a b : Value} (h0 : w.cell? ⟨g, o, none⟩ = some a) (h1 : w.cell? ⟨g, o + 1, none⟩ = some b) : ∀ j u, (#[a, b] : Array Value)[j]? = some u → w.cell? ⟨g, o + j, none⟩ = some u := by
  intro j u hu
  match j, hu with
  | 0, hu => rw [← hu]; exact h0
  | 1, hu => rw [← hu]; exact h1
theorem zero_sty (w : World) : (zeroValue 44).run Tryd.prog w = .ok (.agg (styA fun _ => 0)) w := by kernel_rfl
theorem size_b (R : Nat → Int) (w : World) : Calls Tryd.prog 12 #[.agg (styA R)] w fun e w' => (∃ n, e = .returned (.int .i64 n)) ∧ Below w.heap.size w w' := (size_any R w).mono fun _ _ h => ⟨⟨_, h.1⟩, by rw [h.2]; exact (Below.refl w.heap.size w).alloc (Nat.le_refl _) _⟩
theorem high_b (R : Nat → Int) (w : World) : Calls Tryd.prog 8 #[.agg (styA R)] w fun e w' => (∃ n, e = .returned (.int .i64 n)) ∧ Below w.heap.size w w' := (high_any R w).mono fun _ _ h => ⟨⟨_, h.1⟩, h.2⟩
theorem bal_text {b : Int} {t : ByteArray} {o : Nat → Int} (h : t.toList.isEmpty = false) : Bal [liKey ⟨1, b, t, o⟩] := Bal.one (by show (1 : Int) ≠ 2; decide) (by show (1 : Int) ≠ 3; decide) fun _ => h
theorem bal_must {b : Int} {t : ByteArray} {o : Nat → Int} : Bal [liKey ⟨6, b, t, o⟩] := Bal.one (by show (6 : Int) ≠ 2; decide) (by show (6 : Int) ≠ 3; decide) fun h => absurd h (by show ¬ (6 : Int) = 1; decide)
theorem bal_float {b : Int} {t : ByteArray} {o : Nat → Int} : Bal [liKey ⟨5, b, t, o⟩] := Bal.one (by show (5 : Int) ≠ 2; decide) (by show (5 : Int) ≠ 3; decide) fun h => absurd h (by show ¬ (5 : Int) = 1; decide)
theorem bal_absent {b : Int} {t : ByteArray} {o : Nat → Int} : Bal [liKey ⟨7, b, t, o⟩] := Bal.one (by show (7 : Int) ≠ 2; decide) (by show (7 : Int) ≠ 3; decide) fun h => absurd h (by show ¬ (7 : Int) = 1; decide)
theorem bal_atom {b : Int} {t : ByteArray} {o : Nat → Int} : Bal [liKey ⟨4, b, t, o⟩] := Bal.one (by show (4 : Int) ≠ 2; decide) (by show (4 : Int) ≠ 3; decide) fun h => absurd h (by show ¬ (4 : Int) = 1; decide)
theorem bal_snoc {l : List Li} {x : Li} (h : Bal (l.map liKey)) (hx : Bal [liKey x]) : Bal ((l ++ [x]).map liKey) := by
  rw [List.map_append]
  exact h.append hx
theorem maker_i : (Tryd.prog.info? 4).map (·.size) = some 1 := by kernel_rfl
theorem sty_all (R : Nat → Int) : (styA R).all (·.oneCell') = true := by
  rw [← Array.all_toList]
  simp [styA, Value.oneCell']
theorem sty_zs (R : Nat → Int) : (styA R).size = (styA fun _ => 0).size := by rw [styA_size, styA_size]
end Go.Proofs.YtdnnodpkgncegaaDoor
