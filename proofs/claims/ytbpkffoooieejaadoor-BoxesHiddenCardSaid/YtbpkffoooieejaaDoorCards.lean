/-
  DERIVED. GIVEN WITH THE SEED: THE CARDS: each row of YtbpkffoooieejaaDoorRows.lean that lists a variable, with what it lists TIED to the program's text (the seventh form; the later family's looks); each row that meets fmt, with fmt's text TOLD by the authors' own Lean function (tested against real Go, not proved from fmt's source: count such statements apart). THE CARD IS WHAT COUNTS. Prove the row's statement (the work); the ties are given (YtbpkffoooieejaaDoorTie.lean); close each card by the builder's one call (the guide's Derived/Test/ToyasCard.lean, 'card_holds'). Laid BY PROGRAM, IN A SANDBOX (cutbox-door.mjs). By AI agents, Wed Nov 11 2026. No macro, syntax, notation, axiom, sorry.
-/
import Derived.Test.YtbpkffoooieejaaDoorRows
import GoSem.ClaimSeven
namespace Go.Proofs.YtbpkffoooieejaaDoor
namespace Rows

/-- THE TIED CARD OF 'clerestorykeep3.StackAll'. -/
def stackAllCard : Claim7 := { stood := { row := stackAllRow, standIns := [], harness := (true, "767b305360b68b2cb7853f4a250076183f803fa44e9bab1c29fc0cef7e0c2d18"), looks := false }, kinds := [], alts := [], laidByText := true, laidKinds := [.data], laidTests := true, laidLooks := .later }
def StackAllCardSaid : Prop := Claim7.holds Tryd.pinned (.plain (OpenSpec.ofChange stackAllSpec)) stackAllCard

/-- THE TIED CARD OF 'clerestorykeep3.BoxesKinds'. -/
def boxesKindsCard : Claim7 := { stood := { row := boxesKindsRow, standIns := [], harness := (true, "767b305360b68b2cb7853f4a250076183f803fa44e9bab1c29fc0cef7e0c2d18"), looks := false }, kinds := [], alts := [], laidByText := true, laidKinds := [.data, .pinned], laidTests := true, laidLooks := .later }
def BoxesKindsCardSaid : Prop := Claim7.holds Tryd.pinned (.plain (OpenSpec.ofChange boxesKindsSpec)) boxesKindsCard

/-- THE TIED CARD OF 'clerestorykeep3.BoxesOnce'. -/
def boxesOnceCard : Claim7 := { stood := { row := boxesOnceRow, standIns := [], harness := (true, "767b305360b68b2cb7853f4a250076183f803fa44e9bab1c29fc0cef7e0c2d18"), looks := false }, kinds := [], alts := [], laidByText := true, laidKinds := [.data, .pinned], laidTests := true, laidLooks := .later }
def BoxesOnceCardSaid : Prop := Claim7.holds Tryd.pinned (.plain (OpenSpec.ofChange boxesOnceSpec)) boxesOnceCard

/-- THE TIED CARD OF 'clerestorykeep3.BoxesHidden'. -/
def boxesHiddenCard : Claim7 := { stood := { row := boxesHiddenRow, standIns := [], harness := (true, "767b305360b68b2cb7853f4a250076183f803fa44e9bab1c29fc0cef7e0c2d18"), looks := false }, kinds := [], alts := [], laidByText := true, laidKinds := [.data, .pinned], laidTests := true, laidLooks := .later }
def BoxesHiddenCardSaid : Prop := Claim7.holds Tryd.pinned (.plain (OpenSpec.ofChange boxesHiddenSpec)) boxesHiddenCard

/-- THE SECOND FORM's CARD OF 'clerestorykeep3.StackAll'. -/
def stackAllUptoCard : Claim7 := { stood := { row := stackAllUptoRow, standIns := [], harness := (true, "767b305360b68b2cb7853f4a250076183f803fa44e9bab1c29fc0cef7e0c2d18"), looks := false }, kinds := [], alts := [], laidByText := true, laidKinds := [.data], laidTests := true, laidLooks := .later }
def StackAllUptoCardSaid : Prop := Claim7.holds Tryd.pinned (.plain (OpenSpec.upto stackAllSpec)) stackAllUptoCard

/-- THE SECOND FORM's CARD OF 'clerestorykeep3.BoxesKinds'. -/
def boxesKindsUptoCard : Claim7 := { stood := { row := boxesKindsUptoRow, standIns := [], harness := (true, "767b305360b68b2cb7853f4a250076183f803fa44e9bab1c29fc0cef7e0c2d18"), looks := false }, kinds := [], alts := [], laidByText := true, laidKinds := [.data, .pinned], laidTests := true, laidLooks := .later }
def BoxesKindsUptoCardSaid : Prop := Claim7.holds Tryd.pinned (.plain (OpenSpec.upto boxesKindsSpec)) boxesKindsUptoCard

/-- THE SECOND FORM's CARD OF 'clerestorykeep3.BoxesOnce'. -/
def boxesOnceUptoCard : Claim7 := { stood := { row := boxesOnceUptoRow, standIns := [], harness := (true, "767b305360b68b2cb7853f4a250076183f803fa44e9bab1c29fc0cef7e0c2d18"), looks := false }, kinds := [], alts := [], laidByText := true, laidKinds := [.data, .pinned], laidTests := true, laidLooks := .later }
def BoxesOnceUptoCardSaid : Prop := Claim7.holds Tryd.pinned (.plain (OpenSpec.upto boxesOnceSpec)) boxesOnceUptoCard

/-- THE SECOND FORM's CARD OF 'clerestorykeep3.BoxesHidden'. -/
def boxesHiddenUptoCard : Claim7 := { stood := { row := boxesHiddenUptoRow, standIns := [], harness := (true, "767b305360b68b2cb7853f4a250076183f803fa44e9bab1c29fc0cef7e0c2d18"), looks := false }, kinds := [], alts := [], laidByText := true, laidKinds := [.data, .pinned], laidTests := true, laidLooks := .later }
def BoxesHiddenUptoCardSaid : Prop := Claim7.holds Tryd.pinned (.plain (OpenSpec.upto boxesHiddenSpec)) boxesHiddenUptoCard
end Rows
end Go.Proofs.YtbpkffoooieejaaDoor
