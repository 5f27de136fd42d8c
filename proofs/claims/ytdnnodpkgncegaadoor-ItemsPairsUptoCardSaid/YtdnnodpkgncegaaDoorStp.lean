/- A step of a builder that lies in a block of its own and has a row of its own. No program in sight. -/
import Derived.Test.YtdnnodpkgncegaaDoorOnly
namespace Go.Proofs.YtdnnodpkgncegaaDoor
open Go.RowKit
/-- But for the builder's own block, its row, and new blocks, the world is as it was. -/
structure Stp (bo : Nat) (w : World) (V : Value) (w' : World) (V' : Value) : Prop where
  only : Only (fun k => k = bo ∨ V.ownBlock = some k) w w'
  new : ∀ k, V'.ownBlock = some k → V.ownBlock = some k ∨ w.heap.size ≤ k
theorem Stp.refl (bo : Nat) (w : World) (V : Value) : Stp bo w V w V := ⟨Only.refl _ _, fun _ h => .inl h⟩
theorem Stp.trans {bo : Nat} {a b c : World} {Va Vb Vc : Value} (h : Stp bo a Va b Vb) (k : Stp bo b Vb c Vc) : Stp bo a Va c Vc :=
  ⟨h.only.then_ k.only fun i hi hd => by
    rcases hd with rfl | hd
    · exact .inl rfl
    · rcases h.new i hd with h1 | h1
      · exact .inr h1
      · omega, fun i hi => by
    rcases k.new i hi with h1 | h1
    · exact h.new i h1
    · exact .inr (Nat.le_trans h.only.size h1)⟩
theorem Stp.of_below {bo : Nat} {w w' : World} (h : Below w.heap.size w w') (V : Value) : Stp bo w V w' V := ⟨Only.of_below h, fun _ h => .inl h⟩
end Go.Proofs.YtdnnodpkgncegaaDoor
