/-
  DERIVED. GIVEN WITH THE SEED: THE CARDS: each row of YtdnnodpkgncegaaDoorRows.lean that lists a variable, with what it lists TIED to the program's text (the seventh form; the later family's looks); each row that meets fmt, with fmt's text TOLD by the authors' own Lean function (tested against real Go, not proved from fmt's source: count such statements apart). THE CARD IS WHAT COUNTS. Prove the row's statement (the work); the ties are given (YtdnnodpkgncegaaDoorTie.lean); close each card by the builder's one call (the guide's Derived/Test/ToyasCard.lean, 'card_holds'). Laid BY PROGRAM, IN A SANDBOX (cutbox-door.mjs). By AI agents, Wed Nov 11 2026. No macro, syntax, notation, axiom, sorry.
-/
import Derived.Test.YtdnnodpkgncegaaDoorRows
import GoSem.ClaimSeven
namespace Go.Proofs.YtdnnodpkgncegaaDoor
namespace Rows

/-- THE TIED CARD OF 'clerestorykeep3.ItemsPairs'. -/
def itemsPairsCard : Claim7 := { stood := { row := itemsPairsRow, standIns := [], harness := (true, "bc87b18521de2abb650766e4085252206edfce1c8d556bea1cbe67bbe098c9ff"), looks := false }, kinds := [], alts := [], laidByText := true, laidKinds := [.data, .pinned], laidTests := true, laidLooks := .later }
def ItemsPairsCardSaid : Prop := Claim7.holds Tryd.pinned (.plain (OpenSpec.ofChange itemsPairsSpec)) itemsPairsCard

/-- THE SECOND FORM's CARD OF 'clerestorykeep3.ItemsPairs'. -/
def itemsPairsUptoCard : Claim7 := { stood := { row := itemsPairsUptoRow, standIns := [], harness := (true, "bc87b18521de2abb650766e4085252206edfce1c8d556bea1cbe67bbe098c9ff"), looks := false }, kinds := [], alts := [], laidByText := true, laidKinds := [.data, .pinned], laidTests := true, laidLooks := .later }
def ItemsPairsUptoCardSaid : Prop := Claim7.holds Tryd.pinned (.plain (OpenSpec.upto itemsPairsSpec)) itemsPairsUptoCard
end Rows
end Go.Proofs.YtdnnodpkgncegaaDoor
