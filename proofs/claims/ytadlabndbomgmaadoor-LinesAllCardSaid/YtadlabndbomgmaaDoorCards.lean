/-
  DERIVED. GIVEN WITH THE SEED: THE CARDS: each row of YtadlabndbomgmaaDoorRows.lean that lists a variable, with what it lists TIED to the program's text (the seventh form; the later family's looks); each row that meets fmt, with fmt's text TOLD by the authors' own Lean function (tested against real Go, not proved from fmt's source: count such statements apart). THE CARD IS WHAT COUNTS. Prove the row's statement (the work); the ties are given (YtadlabndbomgmaaDoorTie.lean); close each card by the builder's one call (the guide's Derived/Test/ToyasCard.lean, 'card_holds'). Laid BY PROGRAM, IN A SANDBOX (cutbox-door.mjs). By AI agents, Wed Nov 11 2026. No macro, syntax, notation, axiom, sorry.
-/
import Derived.Test.YtadlabndbomgmaaDoorRows
import GoSem.ClaimSeven
namespace Go.Proofs.YtadlabndbomgmaaDoor
namespace Rows

/-- THE TIED CARD OF 'clerestorykeep3.FontJoined'. -/
def fontJoinedCard : Claim7 := { stood := { row := fontJoinedRow, standIns := [], harness := (true, "4b57c2f57baa8ef32eba068872f2f5552ac055699b90e08835b5c1f1cd146c5b"), looks := false }, kinds := [], alts := [], laidByText := true, laidKinds := [.data, .pinned], laidTests := true, laidLooks := .later }
def FontJoinedCardSaid : Prop := Claim7.holds Tryd.pinned (.plain (OpenSpec.ofChange fontJoinedSpec)) fontJoinedCard

/-- THE TIED CARD OF 'clerestorykeep3.FontFitMost'. -/
def fontFitMostCard : Claim7 := { stood := { row := fontFitMostRow, standIns := [], harness := (true, "4b57c2f57baa8ef32eba068872f2f5552ac055699b90e08835b5c1f1cd146c5b"), looks := false }, kinds := [], alts := [], laidByText := true, laidKinds := [.data, .pinned], laidTests := true, laidLooks := .later }
def FontFitMostCardSaid : Prop := Claim7.holds Tryd.pinned (.plain (OpenSpec.ofChange fontFitMostSpec)) fontFitMostCard

/-- THE TIED CARD OF 'clerestorykeep3.ItemsPairs'. -/
def itemsPairsCard : Claim7 := { stood := { row := itemsPairsRow, standIns := [], harness := (true, "4b57c2f57baa8ef32eba068872f2f5552ac055699b90e08835b5c1f1cd146c5b"), looks := false }, kinds := [], alts := [], laidByText := true, laidKinds := [.data, .pinned], laidTests := true, laidLooks := .later }
def ItemsPairsCardSaid : Prop := Claim7.holds Tryd.pinned (.plain (OpenSpec.ofChange itemsPairsSpec)) itemsPairsCard

/-- THE TIED CARD OF 'clerestorykeep3.LinesAll'. -/
def linesAllCard : Claim7 := { stood := { row := linesAllRow, standIns := [], harness := (true, "4b57c2f57baa8ef32eba068872f2f5552ac055699b90e08835b5c1f1cd146c5b"), looks := false }, kinds := [], alts := [], laidByText := true, laidKinds := [.data, .pinned], laidTests := true, laidLooks := .later }
def LinesAllCardSaid : Prop := Claim7.holds Tryd.pinned (.plain (OpenSpec.ofChange linesAllSpec)) linesAllCard

/-- THE SECOND FORM's CARD OF 'clerestorykeep3.FontJoined'. -/
def fontJoinedUptoCard : Claim7 := { stood := { row := fontJoinedUptoRow, standIns := [], harness := (true, "4b57c2f57baa8ef32eba068872f2f5552ac055699b90e08835b5c1f1cd146c5b"), looks := false }, kinds := [], alts := [], laidByText := true, laidKinds := [.data, .pinned], laidTests := true, laidLooks := .later }
def FontJoinedUptoCardSaid : Prop := Claim7.holds Tryd.pinned (.plain (OpenSpec.upto fontJoinedSpec)) fontJoinedUptoCard

/-- THE SECOND FORM's CARD OF 'clerestorykeep3.FontFitMost'. -/
def fontFitMostUptoCard : Claim7 := { stood := { row := fontFitMostUptoRow, standIns := [], harness := (true, "4b57c2f57baa8ef32eba068872f2f5552ac055699b90e08835b5c1f1cd146c5b"), looks := false }, kinds := [], alts := [], laidByText := true, laidKinds := [.data, .pinned], laidTests := true, laidLooks := .later }
def FontFitMostUptoCardSaid : Prop := Claim7.holds Tryd.pinned (.plain (OpenSpec.upto fontFitMostSpec)) fontFitMostUptoCard

/-- THE SECOND FORM's CARD OF 'clerestorykeep3.ItemsPairs'. -/
def itemsPairsUptoCard : Claim7 := { stood := { row := itemsPairsUptoRow, standIns := [], harness := (true, "4b57c2f57baa8ef32eba068872f2f5552ac055699b90e08835b5c1f1cd146c5b"), looks := false }, kinds := [], alts := [], laidByText := true, laidKinds := [.data, .pinned], laidTests := true, laidLooks := .later }
def ItemsPairsUptoCardSaid : Prop := Claim7.holds Tryd.pinned (.plain (OpenSpec.upto itemsPairsSpec)) itemsPairsUptoCard

/-- THE SECOND FORM's CARD OF 'clerestorykeep3.LinesAll'. -/
def linesAllUptoCard : Claim7 := { stood := { row := linesAllUptoRow, standIns := [], harness := (true, "4b57c2f57baa8ef32eba068872f2f5552ac055699b90e08835b5c1f1cd146c5b"), looks := false }, kinds := [], alts := [], laidByText := true, laidKinds := [.data, .pinned], laidTests := true, laidLooks := .later }
def LinesAllUptoCardSaid : Prop := Claim7.holds Tryd.pinned (.plain (OpenSpec.upto linesAllSpec)) linesAllUptoCard
end Rows
end Go.Proofs.YtadlabndbomgmaaDoor
