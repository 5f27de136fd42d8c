/- What a step leaves alone but for some blocks; what a sorted row leaves alone. No program in sight. -/
import Derived.Shelf.SlSortCmp.NoneTotal
import Derived.Test.YtdnnodpkgncegaaDoorKitT
namespace Go.Proofs.YtdnnodpkgncegaaDoor
open Go.RowKit Go.Sort
/-- But for the blocks C, and new ones, the world is as it was. -/
structure Only (C : Nat → Prop) (w w' : World) : Prop where
  os : w'.os = w.os
  tape : w'.tape = w.tape
  output : w'.output = w.output
  size : w.heap.size ≤ w'.heap.size
  block : ∀ k, k < w.heap.size → ¬ C k → w'.heap[k]? = w.heap[k]?
theorem Only.refl (C : Nat → Prop) (w : World) : Only C w w := ⟨rfl, rfl, rfl, Nat.le_refl _, fun _ _ _ => rfl⟩
theorem Only.trans {C : Nat → Prop} {a b c : World} (h : Only C a b) (k : Only C b c) : Only C a c :=
  ⟨k.os.trans h.os, k.tape.trans h.tape, k.output.trans h.output, Nat.le_trans h.size k.size, fun i hi hc => (k.block i (Nat.lt_of_lt_of_le hi h.size) hc).trans (h.block i hi hc)⟩
theorem Only.mono {C D : Nat → Prop} {a b : World} (h : Only C a b) (hd : ∀ k, k < a.heap.size → C k → D k) : Only D a b := ⟨h.os, h.tape, h.output, h.size, fun i hi hc => h.block i hi fun hi2 => hc (hd i hi hi2)⟩
/-- One step behind another; the second may write what is new to the first. -/
theorem Only.then_ {C D : Nat → Prop} {a b c : World} (h : Only C a b) (k : Only D b c) (hd : ∀ i, i < a.heap.size → D i → C i) : Only C a c :=
  ⟨k.os.trans h.os, k.tape.trans h.tape, k.output.trans h.output, Nat.le_trans h.size k.size, fun i hi hc => (k.block i (Nat.lt_of_lt_of_le hi h.size) fun h2 => hc (hd i hi h2)).trans (h.block i hi hc)⟩
theorem Only.of_below {C : Nat → Prop} {w w' : World} (h : Below w.heap.size w w') : Only C w w' := ⟨h.os, h.tape, h.output, h.size, fun k hk _ => h.block k hk⟩
theorem Only.of_grown {C : Nat → Prop} {w w' : World} {row : Option Nat} (h : w.grownBy w' row) (hr : ∀ k, row = some k → C k) : Only C w w' := ⟨h.os, h.tape, h.output, h.size, fun k hk hc => h.block k hk fun e => hc (hr k e.symm)⟩
theorem Only.below {C : Nat → Prop} {B : Nat} {w w' : World} (h : Only C w w') (hB : B ≤ w.heap.size) (hC : ∀ k, C k → B ≤ k) : Below B w w' :=
  ⟨h.os, h.tape, h.output, h.size, fun k hk => h.block k (by omega) fun hc => by have := hC k hc; omega⟩
theorem Only.drew {C : Nat → Prop} {w w' : World} (h : Only C w w') : Only C w w'.drew := ⟨h.os, h.tape, h.output, h.size, h.block⟩
theorem own_only {C : Nat → Prop} {w w' : World} {base size n : Nat} {e : TypeId} {v : Value} {xs : List Value} (h : w.ownsRow base e size v n xs) (k : Only C w w') (hc : ∀ i, v.ownBlock = some i → ¬ C i) : w'.ownsRow base e size v n xs := by
  refine ⟨h.1, ?_⟩
  rcases h.2 with hn | ⟨g, cap, cur, rfl, hb, hgg, rest⟩
  · exact .inl hn
  · refine .inr ⟨g, cap, cur, rfl, hb, ?_, rest⟩
    rw [k.block g (Array.getElem?_eq_some_iff.1 hgg).1 (hc g rfl)]
    exact hgg
theorem own_stays {w w' : World} {base size n : Nat} {e : TypeId} {v : Value} {xs : List Value} {row : Option Nat} (h : w.ownsRow base e size v n xs) (hg : w.grownBy w' row) (hne : v.ownBlock ≠ row) : w'.ownsRow base e size v n xs :=
  h.kept hg (.inr hne)
theorem blk_only {C : Nat → Prop} {w w' : World} {g : Nat} {t : TypeId} {cs : Array Value} (h : Blk w g t cs) (k : Only C w w') (hc : ¬ C g) : Blk w' g t cs := (k.block g h.lt hc).trans h
theorem cell_only {C : Nat → Prop} {w w' : World} (k : Only C w w') {p : Addr} (hp : p.block < w.heap.size) (hc : ¬ C p.block) : w'.cell? p = w.cell? p := World.cell?_of_block (k.block p.block hp hc)
/-- A row of one cell each behind a sort. -/
theorem sort_grown {α : Type} [Inhabited α] (enc : α → Value) (w : World) (blk off n : Nat) (dk : Array α) (os : Array Obj) : w.grownBy (sortWorld enc w blk off n dk os) (some blk) := by
  unfold sortWorld
  refine ⟨rfl, rfl, rfl, ?_, fun k hk hne => ?_⟩
  · rw [size_grow]; simp [putRow, mapBlock]
  · rw [heap_grow_old _ _ (by simpa [putRow, mapBlock] using hk)]
    simp only [putRow, mapBlock, Array.getElem?_modify]
    rw [if_neg (fun e => hne (by rw [e]))]
    rfl
end Go.Proofs.YtdnnodpkgncegaaDoor
