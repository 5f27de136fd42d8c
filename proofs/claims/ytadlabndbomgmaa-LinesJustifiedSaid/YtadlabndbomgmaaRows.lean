/-
  No cell of these rows narrows 'for every input' (looked for: loops, veiled, ifaces, maps, wideKeys, modest, calm, conditions, laid).
  DERIVED. THE GIVEN ROWS OF THIS SEAT. 21 by the template 'for every input the law returns true; each argument reads behind the call as it read before'; 0 by the template 'total and deterministic' (their statements: YtadlabndbomgmaaTotals.lean).
  GIVEN WITH THE SEED: the statements are not yours to turn. If you find one false, say at which input.
  Laid BY PROGRAM, IN A SANDBOX (cutbox-rows.mjs): the forced cells as the released guide's own fill.sh prints them over the translation ac707c27d29b57a3… (all of the seat's roots in one cut). By AI agents, Wed Nov 11 2026. No macro, syntax, notation, axiom, sorry.
-/
import Derived.Test.YtadlabndbomgmaaChecked
import GoSem.Claim
import GoSem.ClaimJoined
import GoSem.ClaimMapViews
import Derived.JoinedTies
import Derived.KernelRfl
namespace Go.Proofs.Ytadlabndbomgmaa
/- THE CELL 'sum', in the pinned program and in every row, IS THE sha256 OF THE DUMP (.gsa) THAT YtadlabndbomgmaaProg.lean LOADS. Nothing in Lean hashes anything: it is a label: what it is worth is what the hold of that sum in a sandbox is worth. -/
noncomputable def Try.pinned : Pinned := { name := "ytadlabndbomgmaa", sum := "ac707c27d29b57a3857041af81cbe79c4e1f62387916078778d2ef45b9928770", checked := Try.checked }
namespace Rows
def none {H : Type} : Left H := { results := [], args := [] }

/-- 'clerestorykeep3.MarginsOrder': WHATEVER THE INPUT: true; the input reads as it did. -/
def marginsOrderSpec : ChangeSpec := { name := "marginsOrder", fn := fun _ => fun
  | [d1, d2] => { results := [.lit (.bool true)], args := [d1, d2] }
  | _ => none }
def marginsOrderRow : OpenClaim := { program := "ytadlabndbomgmaa", sum := "ac707c27d29b57a3857041af81cbe79c4e1f62387916078778d2ef45b9928770", func := "clerestory/clerestorykeep3.MarginsOrder", spec := "marginsOrder", apart := false }
def MarginsOrderSaid : Prop := marginsOrderRow.holds Try.pinned (OpenSpec.ofChange marginsOrderSpec)

/-- ITS FALSE NEIGHBOUR: 'it returns false'. Refute it at one input. -/
def marginsOrderWrong : ChangeSpec := { name := "marginsOrder", fn := fun _ => fun
  | [d1, d2] => { results := [.lit (.bool false)], args := [d1, d2] }
  | _ => none }
def MarginsOrderWrongFalsely : Prop := marginsOrderRow.holds Try.pinned (OpenSpec.ofChange marginsOrderWrong)

/-- 'clerestorykeep3.FixMonotone': WHATEVER THE INPUT: true; the input reads as it did. -/
def fixMonotoneSpec : ChangeSpec := { name := "fixMonotone", fn := fun _ => fun
  | [d1, d2, d3, d4] => { results := [.lit (.bool true)], args := [d1, d2, d3, d4] }
  | _ => none }
def fixMonotoneRow : OpenClaim := { program := "ytadlabndbomgmaa", sum := "ac707c27d29b57a3857041af81cbe79c4e1f62387916078778d2ef45b9928770", func := "clerestory/clerestorykeep3.FixMonotone", spec := "fixMonotone", apart := false }
def FixMonotoneSaid : Prop := fixMonotoneRow.holds Try.pinned (OpenSpec.ofChange fixMonotoneSpec)

/-- ITS FALSE NEIGHBOUR: 'it returns false'. Refute it at one input. -/
def fixMonotoneWrong : ChangeSpec := { name := "fixMonotone", fn := fun _ => fun
  | [d1, d2, d3, d4] => { results := [.lit (.bool false)], args := [d1, d2, d3, d4] }
  | _ => none }
def FixMonotoneWrongFalsely : Prop := fixMonotoneRow.holds Try.pinned (OpenSpec.ofChange fixMonotoneWrong)

/-- 'clerestorykeep3.WhiteJoined': WHATEVER THE INPUT: true; the input reads as it did. -/
def whiteJoinedSpec : ChangeSpec := { name := "whiteJoined", fn := fun _ => fun
  | [d1, d2, d3, d4] => { results := [.lit (.bool true)], args := [d1, d2, d3, d4] }
  | _ => none }
def whiteJoinedRow : OpenClaim := { program := "ytadlabndbomgmaa", sum := "ac707c27d29b57a3857041af81cbe79c4e1f62387916078778d2ef45b9928770", func := "clerestory/clerestorykeep3.WhiteJoined", spec := "whiteJoined", inPlace := ["internal/bytealg.IndexByteString"], apart := false }
def WhiteJoinedSaid : Prop := whiteJoinedRow.holds Try.pinned (OpenSpec.ofChange whiteJoinedSpec)

/-- ITS FALSE NEIGHBOUR: 'it returns false'. Refute it at one input. -/
def whiteJoinedWrong : ChangeSpec := { name := "whiteJoined", fn := fun _ => fun
  | [d1, d2, d3, d4] => { results := [.lit (.bool false)], args := [d1, d2, d3, d4] }
  | _ => none }
def WhiteJoinedWrongFalsely : Prop := whiteJoinedRow.holds Try.pinned (OpenSpec.ofChange whiteJoinedWrong)

/-- 'clerestorykeep3.FixWhole': WHATEVER THE INPUT: true; the input reads as it did. -/
def fixWholeSpec : ChangeSpec := { name := "fixWhole", fn := fun _ => fun
  | [d1, d2] => { results := [.lit (.bool true)], args := [d1, d2] }
  | _ => none }
def fixWholeRow : OpenClaim := { program := "ytadlabndbomgmaa", sum := "ac707c27d29b57a3857041af81cbe79c4e1f62387916078778d2ef45b9928770", func := "clerestory/clerestorykeep3.FixWhole", spec := "fixWhole", unfollowed := true, recurses := true, apart := false }
def FixWholeSaid : Prop := fixWholeRow.holds Try.pinned (OpenSpec.ofChange fixWholeSpec)

/-- ITS FALSE NEIGHBOUR: 'it returns false'. Refute it at one input. -/
def fixWholeWrong : ChangeSpec := { name := "fixWhole", fn := fun _ => fun
  | [d1, d2] => { results := [.lit (.bool false)], args := [d1, d2] }
  | _ => none }
def FixWholeWrongFalsely : Prop := fixWholeRow.holds Try.pinned (OpenSpec.ofChange fixWholeWrong)

/-- 'clerestorykeep3.FloatsApart': WHATEVER THE INPUT: true; the input reads as it did. -/
def floatsApartSpec : ChangeSpec := { name := "floatsApart", fn := fun _ => fun
  | [d1, d2] => { results := [.lit (.bool true)], args := [d1, d2] }
  | _ => none }
def floatsApartRow : OpenClaim := { program := "ytadlabndbomgmaa", sum := "ac707c27d29b57a3857041af81cbe79c4e1f62387916078778d2ef45b9928770", func := "clerestory/clerestorykeep3.FloatsApart", spec := "floatsApart", apart := false }
def FloatsApartSaid : Prop := floatsApartRow.holds Try.pinned (OpenSpec.ofChange floatsApartSpec)

/-- ITS FALSE NEIGHBOUR: 'it returns false'. Refute it at one input. -/
def floatsApartWrong : ChangeSpec := { name := "floatsApart", fn := fun _ => fun
  | [d1, d2] => { results := [.lit (.bool false)], args := [d1, d2] }
  | _ => none }
def FloatsApartWrongFalsely : Prop := floatsApartRow.holds Try.pinned (OpenSpec.ofChange floatsApartWrong)

/-- 'clerestorykeep3.FloatsRoom': WHATEVER THE INPUT: true; the input reads as it did. -/
def floatsRoomSpec : ChangeSpec := { name := "floatsRoom", fn := fun _ => fun
  | [d1, d2, d3, d4] => { results := [.lit (.bool true)], args := [d1, d2, d3, d4] }
  | _ => none }
def floatsRoomRow : OpenClaim := { program := "ytadlabndbomgmaa", sum := "ac707c27d29b57a3857041af81cbe79c4e1f62387916078778d2ef45b9928770", func := "clerestory/clerestorykeep3.FloatsRoom", spec := "floatsRoom", apart := false }
def FloatsRoomSaid : Prop := floatsRoomRow.holds Try.pinned (OpenSpec.ofChange floatsRoomSpec)

/-- ITS FALSE NEIGHBOUR: 'it returns false'. Refute it at one input. -/
def floatsRoomWrong : ChangeSpec := { name := "floatsRoom", fn := fun _ => fun
  | [d1, d2, d3, d4] => { results := [.lit (.bool false)], args := [d1, d2, d3, d4] }
  | _ => none }
def FloatsRoomWrongFalsely : Prop := floatsRoomRow.holds Try.pinned (OpenSpec.ofChange floatsRoomWrong)

/-- 'clerestorykeep3.WidthsAdd': WHATEVER THE INPUT: true; the input reads as it did. -/
def widthsAddSpec : ChangeSpec := { name := "widthsAdd", fn := fun _ => fun
  | [d1, d2] => { results := [.lit (.bool true)], args := [d1, d2] }
  | _ => none }
def widthsAddRow : OpenClaim := { program := "ytadlabndbomgmaa", sum := "ac707c27d29b57a3857041af81cbe79c4e1f62387916078778d2ef45b9928770", func := "clerestory/clerestorykeep3.WidthsAdd", spec := "widthsAdd", unfollowed := true, recurses := true, apart := false }
def WidthsAddSaid : Prop := widthsAddRow.holds Try.pinned (OpenSpec.ofChange widthsAddSpec)

/-- ITS FALSE NEIGHBOUR: 'it returns false'. Refute it at one input. -/
def widthsAddWrong : ChangeSpec := { name := "widthsAdd", fn := fun _ => fun
  | [d1, d2] => { results := [.lit (.bool false)], args := [d1, d2] }
  | _ => none }
def WidthsAddWrongFalsely : Prop := widthsAddRow.holds Try.pinned (OpenSpec.ofChange widthsAddWrong)

/-- 'clerestorykeep3.WidthsBound': WHATEVER THE INPUT: true; the input reads as it did. -/
def widthsBoundSpec : ChangeSpec := { name := "widthsBound", fn := fun _ => fun
  | [d1, d2, d3, d4] => { results := [.lit (.bool true)], args := [d1, d2, d3, d4] }
  | _ => none }
def widthsBoundRow : OpenClaim := { program := "ytadlabndbomgmaa", sum := "ac707c27d29b57a3857041af81cbe79c4e1f62387916078778d2ef45b9928770", func := "clerestory/clerestorykeep3.WidthsBound", spec := "widthsBound", unfollowed := true, recurses := true, apart := false }
def WidthsBoundSaid : Prop := widthsBoundRow.holds Try.pinned (OpenSpec.ofChange widthsBoundSpec)

/-- ITS FALSE NEIGHBOUR: 'it returns false'. Refute it at one input. -/
def widthsBoundWrong : ChangeSpec := { name := "widthsBound", fn := fun _ => fun
  | [d1, d2, d3, d4] => { results := [.lit (.bool false)], args := [d1, d2, d3, d4] }
  | _ => none }
def WidthsBoundWrongFalsely : Prop := widthsBoundRow.holds Try.pinned (OpenSpec.ofChange widthsBoundWrong)

/-- 'clerestorykeep3.BreaksWhole': WHATEVER THE INPUT: true; the input reads as it did. -/
def breaksWholeSpec : ChangeSpec := { name := "breaksWhole", fn := fun _ => fun
  | [d1, d2] => { results := [.lit (.bool true)], args := [d1, d2] }
  | _ => none }
def breaksWholeRow : OpenClaim := { program := "ytadlabndbomgmaa", sum := "ac707c27d29b57a3857041af81cbe79c4e1f62387916078778d2ef45b9928770", func := "clerestory/clerestorykeep3.BreaksWhole", spec := "breaksWhole", inPlace := ["internal/abi.NoEscape", "internal/bytealg.MakeNoZero"], unfollowed := true, recurses := true, apart := false }
def BreaksWholeSaid : Prop := breaksWholeRow.holds Try.pinned (OpenSpec.ofChange breaksWholeSpec)

/-- ITS FALSE NEIGHBOUR: 'it returns false'. Refute it at one input. -/
def breaksWholeWrong : ChangeSpec := { name := "breaksWhole", fn := fun _ => fun
  | [d1, d2] => { results := [.lit (.bool false)], args := [d1, d2] }
  | _ => none }
def BreaksWholeWrongFalsely : Prop := breaksWholeRow.holds Try.pinned (OpenSpec.ofChange breaksWholeWrong)

/-- 'clerestorykeep3.WhiteTwice': WHATEVER THE INPUT: true; the input reads as it did. -/
def whiteTwiceSpec : ChangeSpec := { name := "whiteTwice", fn := fun _ => fun
  | [d1, d2, d3] => { results := [.lit (.bool true)], args := [d1, d2, d3] }
  | _ => none }
def whiteTwiceRow : OpenClaim := { program := "ytadlabndbomgmaa", sum := "ac707c27d29b57a3857041af81cbe79c4e1f62387916078778d2ef45b9928770", func := "clerestory/clerestorykeep3.WhiteTwice", spec := "whiteTwice", inPlace := ["internal/bytealg.IndexByteString", "internal/bytealg.IndexString"], named := ["internal/bytealg.MaxLen"], apart := false }
def WhiteTwiceSaid : Prop := whiteTwiceRow.holds Try.pinned (OpenSpec.ofChange whiteTwiceSpec)

/-- ITS FALSE NEIGHBOUR: 'it returns false'. Refute it at one input. -/
def whiteTwiceWrong : ChangeSpec := { name := "whiteTwice", fn := fun _ => fun
  | [d1, d2, d3] => { results := [.lit (.bool false)], args := [d1, d2, d3] }
  | _ => none }
def WhiteTwiceWrongFalsely : Prop := whiteTwiceRow.holds Try.pinned (OpenSpec.ofChange whiteTwiceWrong)

/-- 'clerestorykeep3.FlexBounds': WHATEVER THE INPUT: true; the input reads as it did. -/
def flexBoundsSpec : ChangeSpec := { name := "flexBounds", fn := fun _ => fun
  | [d1, d2, d3] => { results := [.lit (.bool true)], args := [d1, d2, d3] }
  | _ => none }
def flexBoundsRow : OpenClaim := { program := "ytadlabndbomgmaa", sum := "ac707c27d29b57a3857041af81cbe79c4e1f62387916078778d2ef45b9928770", func := "clerestory/clerestorykeep3.FlexBounds", spec := "flexBounds", unfollowed := true, recurses := true, apart := false }
def FlexBoundsSaid : Prop := flexBoundsRow.holds Try.pinned (OpenSpec.ofChange flexBoundsSpec)

/-- ITS FALSE NEIGHBOUR: 'it returns false'. Refute it at one input. -/
def flexBoundsWrong : ChangeSpec := { name := "flexBounds", fn := fun _ => fun
  | [d1, d2, d3] => { results := [.lit (.bool false)], args := [d1, d2, d3] }
  | _ => none }
def FlexBoundsWrongFalsely : Prop := flexBoundsRow.holds Try.pinned (OpenSpec.ofChange flexBoundsWrong)

/-- 'clerestorykeep3.FlexFilled': WHATEVER THE INPUT: true; the input reads as it did. -/
def flexFilledSpec : ChangeSpec := { name := "flexFilled", fn := fun _ => fun
  | [d1, d2, d3] => { results := [.lit (.bool true)], args := [d1, d2, d3] }
  | _ => none }
def flexFilledRow : OpenClaim := { program := "ytadlabndbomgmaa", sum := "ac707c27d29b57a3857041af81cbe79c4e1f62387916078778d2ef45b9928770", func := "clerestory/clerestorykeep3.FlexFilled", spec := "flexFilled", unfollowed := true, recurses := true, apart := false }
def FlexFilledSaid : Prop := flexFilledRow.holds Try.pinned (OpenSpec.ofChange flexFilledSpec)

/-- ITS FALSE NEIGHBOUR: 'it returns false'. Refute it at one input. -/
def flexFilledWrong : ChangeSpec := { name := "flexFilled", fn := fun _ => fun
  | [d1, d2, d3] => { results := [.lit (.bool false)], args := [d1, d2, d3] }
  | _ => none }
def FlexFilledWrongFalsely : Prop := flexFilledRow.holds Try.pinned (OpenSpec.ofChange flexFilledWrong)

/-- 'clerestorykeep3.BreaksMust': WHATEVER THE INPUT: true; the input reads as it did. -/
def breaksMustSpec : ChangeSpec := { name := "breaksMust", fn := fun _ => fun
  | [d1, d2] => { results := [.lit (.bool true)], args := [d1, d2] }
  | _ => none }
def breaksMustRow : OpenClaim := { program := "ytadlabndbomgmaa", sum := "ac707c27d29b57a3857041af81cbe79c4e1f62387916078778d2ef45b9928770", func := "clerestory/clerestorykeep3.BreaksMust", spec := "breaksMust", inPlace := ["internal/bytealg.CountString", "internal/bytealg.IndexByteString", "internal/bytealg.IndexString"], unfollowed := true, recurses := true, named := ["internal/bytealg.MaxLen"], apart := false }
def BreaksMustSaid : Prop := breaksMustRow.holds Try.pinned (OpenSpec.ofChange breaksMustSpec)

/-- ITS FALSE NEIGHBOUR: 'it returns false'. Refute it at one input. -/
def breaksMustWrong : ChangeSpec := { name := "breaksMust", fn := fun _ => fun
  | [d1, d2] => { results := [.lit (.bool false)], args := [d1, d2] }
  | _ => none }
def BreaksMustWrongFalsely : Prop := breaksMustRow.holds Try.pinned (OpenSpec.ofChange breaksMustWrong)

/-- 'clerestorykeep3.FlexRowsAll': WHATEVER THE INPUT: true; the input reads as it did. -/
def flexRowsAllSpec : ChangeSpec := { name := "flexRowsAll", fn := fun _ => fun
  | [d1, d2, d3, d4] => { results := [.lit (.bool true)], args := [d1, d2, d3, d4] }
  | _ => none }
def flexRowsAllRow : OpenClaim := { program := "ytadlabndbomgmaa", sum := "ac707c27d29b57a3857041af81cbe79c4e1f62387916078778d2ef45b9928770", func := "clerestory/clerestorykeep3.FlexRowsAll", spec := "flexRowsAll", unfollowed := true, recurses := true, apart := false }
def FlexRowsAllSaid : Prop := flexRowsAllRow.holds Try.pinned (OpenSpec.ofChange flexRowsAllSpec)

/-- ITS FALSE NEIGHBOUR: 'it returns false'. Refute it at one input. -/
def flexRowsAllWrong : ChangeSpec := { name := "flexRowsAll", fn := fun _ => fun
  | [d1, d2, d3, d4] => { results := [.lit (.bool false)], args := [d1, d2, d3, d4] }
  | _ => none }
def FlexRowsAllWrongFalsely : Prop := flexRowsAllRow.holds Try.pinned (OpenSpec.ofChange flexRowsAllWrong)

/-- 'clerestorykeep3.FlexSpreadAll': WHATEVER THE INPUT: true; the input reads as it did. -/
def flexSpreadAllSpec : ChangeSpec := { name := "flexSpreadAll", fn := fun _ => fun
  | [d1, d2, d3] => { results := [.lit (.bool true)], args := [d1, d2, d3] }
  | _ => none }
def flexSpreadAllRow : OpenClaim := { program := "ytadlabndbomgmaa", sum := "ac707c27d29b57a3857041af81cbe79c4e1f62387916078778d2ef45b9928770", func := "clerestory/clerestorykeep3.FlexSpreadAll", spec := "flexSpreadAll", unfollowed := true, recurses := true, apart := false }
def FlexSpreadAllSaid : Prop := flexSpreadAllRow.holds Try.pinned (OpenSpec.ofChange flexSpreadAllSpec)

/-- ITS FALSE NEIGHBOUR: 'it returns false'. Refute it at one input. -/
def flexSpreadAllWrong : ChangeSpec := { name := "flexSpreadAll", fn := fun _ => fun
  | [d1, d2, d3] => { results := [.lit (.bool false)], args := [d1, d2, d3] }
  | _ => none }
def FlexSpreadAllWrongFalsely : Prop := flexSpreadAllRow.holds Try.pinned (OpenSpec.ofChange flexSpreadAllWrong)

/-- 'clerestorykeep3.TableSpans': WHATEVER THE INPUT: true; the input reads as it did. -/
def tableSpansSpec : ChangeSpec := { name := "tableSpans", fn := fun _ => fun
  | [d] => { results := [.lit (.bool true)], args := [d] }
  | _ => none }
def tableSpansRow : OpenClaim := { program := "ytadlabndbomgmaa", sum := "ac707c27d29b57a3857041af81cbe79c4e1f62387916078778d2ef45b9928770", func := "clerestory/clerestorykeep3.TableSpans", spec := "tableSpans", unfollowed := true, recurses := true, apart := false }
def TableSpansSaid : Prop := tableSpansRow.holds Try.pinned (OpenSpec.ofChange tableSpansSpec)

/-- ITS FALSE NEIGHBOUR: 'it returns false'. Refute it at one input. -/
def tableSpansWrong : ChangeSpec := { name := "tableSpans", fn := fun _ => fun
  | [d] => { results := [.lit (.bool false)], args := [d] }
  | _ => none }
def TableSpansWrongFalsely : Prop := tableSpansRow.holds Try.pinned (OpenSpec.ofChange tableSpansWrong)

/-- 'clerestorykeep3.SizesOrder': WHATEVER THE INPUT: true; the input reads as it did. -/
def sizesOrderSpec : ChangeSpec := { name := "sizesOrder", fn := fun _ => fun
  | [d] => { results := [.lit (.bool true)], args := [d] }
  | _ => none }
def sizesOrderRow : OpenClaim := { program := "ytadlabndbomgmaa", sum := "ac707c27d29b57a3857041af81cbe79c4e1f62387916078778d2ef45b9928770", func := "clerestory/clerestorykeep3.SizesOrder", spec := "sizesOrder", inPlace := ["internal/bytealg.IndexByteString", "internal/bytealg.IndexString"], unfollowed := true, recurses := true, named := ["internal/bytealg.MaxLen"], apart := false }
def SizesOrderSaid : Prop := sizesOrderRow.holds Try.pinned (OpenSpec.ofChange sizesOrderSpec)

/-- ITS FALSE NEIGHBOUR: 'it returns false'. Refute it at one input. -/
def sizesOrderWrong : ChangeSpec := { name := "sizesOrder", fn := fun _ => fun
  | [d] => { results := [.lit (.bool false)], args := [d] }
  | _ => none }
def SizesOrderWrongFalsely : Prop := sizesOrderRow.holds Try.pinned (OpenSpec.ofChange sizesOrderWrong)

/-- 'clerestorykeep3.TableFull': WHATEVER THE INPUT: true; the input reads as it did. -/
def tableFullSpec : ChangeSpec := { name := "tableFull", fn := fun _ => fun
  | [d1, d2, d3, d4, d5] => { results := [.lit (.bool true)], args := [d1, d2, d3, d4, d5] }
  | _ => none }
def tableFullRow : OpenClaim := { program := "ytadlabndbomgmaa", sum := "ac707c27d29b57a3857041af81cbe79c4e1f62387916078778d2ef45b9928770", func := "clerestory/clerestorykeep3.TableFull", spec := "tableFull", unfollowed := true, recurses := true, apart := false }
def TableFullSaid : Prop := tableFullRow.holds Try.pinned (OpenSpec.ofChange tableFullSpec)

/-- ITS FALSE NEIGHBOUR: 'it returns false'. Refute it at one input. -/
def tableFullWrong : ChangeSpec := { name := "tableFull", fn := fun _ => fun
  | [d1, d2, d3, d4, d5] => { results := [.lit (.bool false)], args := [d1, d2, d3, d4, d5] }
  | _ => none }
def TableFullWrongFalsely : Prop := tableFullRow.holds Try.pinned (OpenSpec.ofChange tableFullWrong)

/-- 'clerestorykeep3.LinesJustified': WHATEVER THE INPUT: true; the input reads as it did. -/
def linesJustifiedSpec : ChangeSpec := { name := "linesJustified", fn := fun _ => fun
  | [d1, d2, d3] => { results := [.lit (.bool true)], args := [d1, d2, d3] }
  | _ => none }
def linesJustifiedRow : OpenClaim := { program := "ytadlabndbomgmaa", sum := "ac707c27d29b57a3857041af81cbe79c4e1f62387916078778d2ef45b9928770", func := "clerestory/clerestorykeep3.LinesJustified", spec := "linesJustified", inPlace := ["internal/bytealg.IndexByteString", "internal/bytealg.IndexString"], unfollowed := true, recurses := true, named := ["internal/bytealg.MaxLen"], apart := false }
def LinesJustifiedSaid : Prop := linesJustifiedRow.holds Try.pinned (OpenSpec.ofChange linesJustifiedSpec)

/-- ITS FALSE NEIGHBOUR: 'it returns false'. Refute it at one input. -/
def linesJustifiedWrong : ChangeSpec := { name := "linesJustified", fn := fun _ => fun
  | [d1, d2, d3] => { results := [.lit (.bool false)], args := [d1, d2, d3] }
  | _ => none }
def LinesJustifiedWrongFalsely : Prop := linesJustifiedRow.holds Try.pinned (OpenSpec.ofChange linesJustifiedWrong)

/-- 'clerestorykeep3.LinesOne': WHATEVER THE INPUT: true; the input reads as it did. -/
def linesOneSpec : ChangeSpec := { name := "linesOne", fn := fun _ => fun
  | [d] => { results := [.lit (.bool true)], args := [d] }
  | _ => none }
def linesOneRow : OpenClaim := { program := "ytadlabndbomgmaa", sum := "ac707c27d29b57a3857041af81cbe79c4e1f62387916078778d2ef45b9928770", func := "clerestory/clerestorykeep3.LinesOne", spec := "linesOne", inPlace := ["internal/bytealg.IndexByteString", "internal/bytealg.IndexString"], unfollowed := true, recurses := true, named := ["internal/bytealg.MaxLen"], apart := false }
def LinesOneSaid : Prop := linesOneRow.holds Try.pinned (OpenSpec.ofChange linesOneSpec)

/-- ITS FALSE NEIGHBOUR: 'it returns false'. Refute it at one input. -/
def linesOneWrong : ChangeSpec := { name := "linesOne", fn := fun _ => fun
  | [d] => { results := [.lit (.bool false)], args := [d] }
  | _ => none }
def LinesOneWrongFalsely : Prop := linesOneRow.holds Try.pinned (OpenSpec.ofChange linesOneWrong)

/-- 'clerestorykeep3.LinesFit': WHATEVER THE INPUT: true; the input reads as it did. -/
def linesFitSpec : ChangeSpec := { name := "linesFit", fn := fun _ => fun
  | [d1, d2, d3] => { results := [.lit (.bool true)], args := [d1, d2, d3] }
  | _ => none }
def linesFitRow : OpenClaim := { program := "ytadlabndbomgmaa", sum := "ac707c27d29b57a3857041af81cbe79c4e1f62387916078778d2ef45b9928770", func := "clerestory/clerestorykeep3.LinesFit", spec := "linesFit", inPlace := ["internal/bytealg.IndexByteString", "internal/bytealg.IndexString"], unfollowed := true, recurses := true, named := ["internal/bytealg.MaxLen"], apart := false }
def LinesFitSaid : Prop := linesFitRow.holds Try.pinned (OpenSpec.ofChange linesFitSpec)

/-- ITS FALSE NEIGHBOUR: 'it returns false'. Refute it at one input. -/
def linesFitWrong : ChangeSpec := { name := "linesFit", fn := fun _ => fun
  | [d1, d2, d3] => { results := [.lit (.bool false)], args := [d1, d2, d3] }
  | _ => none }
def LinesFitWrongFalsely : Prop := linesFitRow.holds Try.pinned (OpenSpec.ofChange linesFitWrong)

/- THE SECOND FORM. 'bulk': how many values and letters a reading holds, each counted each time it is reached (what is shared counts as often as it is met; a slice's spare places count too). A statement '..UptoSaid' is the law's where the arguments, and the package variables that the reading takes, are together of bulk at most 1048576: NARROWER than '..Said'. Prove '..Said' where nothing that the law and all that it calls make is longer than what came in: it says more and counts as full. Else prove '..UptoSaid'. A law counts once. -/
mutual
def uptoBulk {H : Type} : DataW H → Nat
  | .lit (.string bytes) => bytes.length + 1
  | .lit _ => 1
  | .nil => 1
  | .ptr d => uptoBulk d + 1
  | .slice elems spare => uptoBulkAll elems + uptoBulkAll spare + 1
  | .agg parts => uptoBulkAll parts + 1
  | .iface _ d => uptoBulk d + 1
  | .map entries => uptoBulkEntries entries + 1
  | .held _ => 1
def uptoBulkAll {H : Type} : List (DataW H) → Nat
  | [] => 0
  | d :: r => uptoBulk d + uptoBulkAll r
def uptoBulkEntries {H : Type} : List (Lit × DataW H) → Nat
  | [] => 0
  | x :: r => uptoBulkEntry x + uptoBulkEntries r
def uptoBulkEntry {H : Type} : Lit × DataW H → Nat
  | (.string bytes, d) => bytes.length + uptoBulk d + 1
  | (_, d) => uptoBulk d + 1
 end
def uptoSmall : (H : Type) → List (DataW H) → Bool := fun _ ds => decide (uptoBulkAll ds ≤ 1048576)
def OpenSpec.upto (s : _root_.Go.ChangeSpec) : _root_.Go.OpenSpec := { _root_.Go.OpenSpec.ofChange s with cond := some uptoSmall }

/-- 'clerestorykeep3.MarginsOrder', WHERE WHAT IT READS IS OF BULK AT MOST 1048576: true; the input reads as it did. -/
def marginsOrderUptoRow : OpenClaim := { program := "ytadlabndbomgmaa", sum := "ac707c27d29b57a3857041af81cbe79c4e1f62387916078778d2ef45b9928770", func := "clerestory/clerestorykeep3.MarginsOrder", spec := "marginsOrder", apart := false, narrowed := true }
def MarginsOrderUptoSaid : Prop := marginsOrderUptoRow.holds Try.pinned (OpenSpec.upto marginsOrderSpec)

/-- 'clerestorykeep3.FixMonotone', WHERE WHAT IT READS IS OF BULK AT MOST 1048576: true; the input reads as it did. -/
def fixMonotoneUptoRow : OpenClaim := { program := "ytadlabndbomgmaa", sum := "ac707c27d29b57a3857041af81cbe79c4e1f62387916078778d2ef45b9928770", func := "clerestory/clerestorykeep3.FixMonotone", spec := "fixMonotone", apart := false, narrowed := true }
def FixMonotoneUptoSaid : Prop := fixMonotoneUptoRow.holds Try.pinned (OpenSpec.upto fixMonotoneSpec)

/-- 'clerestorykeep3.WhiteJoined', WHERE WHAT IT READS IS OF BULK AT MOST 1048576: true; the input reads as it did. -/
def whiteJoinedUptoRow : OpenClaim := { program := "ytadlabndbomgmaa", sum := "ac707c27d29b57a3857041af81cbe79c4e1f62387916078778d2ef45b9928770", func := "clerestory/clerestorykeep3.WhiteJoined", spec := "whiteJoined", inPlace := ["internal/bytealg.IndexByteString"], apart := false, narrowed := true }
def WhiteJoinedUptoSaid : Prop := whiteJoinedUptoRow.holds Try.pinned (OpenSpec.upto whiteJoinedSpec)

/-- 'clerestorykeep3.FixWhole', WHERE WHAT IT READS IS OF BULK AT MOST 1048576: true; the input reads as it did. -/
def fixWholeUptoRow : OpenClaim := { program := "ytadlabndbomgmaa", sum := "ac707c27d29b57a3857041af81cbe79c4e1f62387916078778d2ef45b9928770", func := "clerestory/clerestorykeep3.FixWhole", spec := "fixWhole", unfollowed := true, recurses := true, apart := false, narrowed := true }
def FixWholeUptoSaid : Prop := fixWholeUptoRow.holds Try.pinned (OpenSpec.upto fixWholeSpec)

/-- 'clerestorykeep3.FloatsApart', WHERE WHAT IT READS IS OF BULK AT MOST 1048576: true; the input reads as it did. -/
def floatsApartUptoRow : OpenClaim := { program := "ytadlabndbomgmaa", sum := "ac707c27d29b57a3857041af81cbe79c4e1f62387916078778d2ef45b9928770", func := "clerestory/clerestorykeep3.FloatsApart", spec := "floatsApart", apart := false, narrowed := true }
def FloatsApartUptoSaid : Prop := floatsApartUptoRow.holds Try.pinned (OpenSpec.upto floatsApartSpec)

/-- 'clerestorykeep3.FloatsRoom', WHERE WHAT IT READS IS OF BULK AT MOST 1048576: true; the input reads as it did. -/
def floatsRoomUptoRow : OpenClaim := { program := "ytadlabndbomgmaa", sum := "ac707c27d29b57a3857041af81cbe79c4e1f62387916078778d2ef45b9928770", func := "clerestory/clerestorykeep3.FloatsRoom", spec := "floatsRoom", apart := false, narrowed := true }
def FloatsRoomUptoSaid : Prop := floatsRoomUptoRow.holds Try.pinned (OpenSpec.upto floatsRoomSpec)

/-- 'clerestorykeep3.WidthsAdd', WHERE WHAT IT READS IS OF BULK AT MOST 1048576: true; the input reads as it did. -/
def widthsAddUptoRow : OpenClaim := { program := "ytadlabndbomgmaa", sum := "ac707c27d29b57a3857041af81cbe79c4e1f62387916078778d2ef45b9928770", func := "clerestory/clerestorykeep3.WidthsAdd", spec := "widthsAdd", unfollowed := true, recurses := true, apart := false, narrowed := true }
def WidthsAddUptoSaid : Prop := widthsAddUptoRow.holds Try.pinned (OpenSpec.upto widthsAddSpec)

/-- 'clerestorykeep3.WidthsBound', WHERE WHAT IT READS IS OF BULK AT MOST 1048576: true; the input reads as it did. -/
def widthsBoundUptoRow : OpenClaim := { program := "ytadlabndbomgmaa", sum := "ac707c27d29b57a3857041af81cbe79c4e1f62387916078778d2ef45b9928770", func := "clerestory/clerestorykeep3.WidthsBound", spec := "widthsBound", unfollowed := true, recurses := true, apart := false, narrowed := true }
def WidthsBoundUptoSaid : Prop := widthsBoundUptoRow.holds Try.pinned (OpenSpec.upto widthsBoundSpec)

/-- 'clerestorykeep3.BreaksWhole', WHERE WHAT IT READS IS OF BULK AT MOST 1048576: true; the input reads as it did. -/
def breaksWholeUptoRow : OpenClaim := { program := "ytadlabndbomgmaa", sum := "ac707c27d29b57a3857041af81cbe79c4e1f62387916078778d2ef45b9928770", func := "clerestory/clerestorykeep3.BreaksWhole", spec := "breaksWhole", inPlace := ["internal/abi.NoEscape", "internal/bytealg.MakeNoZero"], unfollowed := true, recurses := true, apart := false, narrowed := true }
def BreaksWholeUptoSaid : Prop := breaksWholeUptoRow.holds Try.pinned (OpenSpec.upto breaksWholeSpec)

/-- 'clerestorykeep3.WhiteTwice', WHERE WHAT IT READS IS OF BULK AT MOST 1048576: true; the input reads as it did. -/
def whiteTwiceUptoRow : OpenClaim := { program := "ytadlabndbomgmaa", sum := "ac707c27d29b57a3857041af81cbe79c4e1f62387916078778d2ef45b9928770", func := "clerestory/clerestorykeep3.WhiteTwice", spec := "whiteTwice", inPlace := ["internal/bytealg.IndexByteString", "internal/bytealg.IndexString"], named := ["internal/bytealg.MaxLen"], apart := false, narrowed := true }
def WhiteTwiceUptoSaid : Prop := whiteTwiceUptoRow.holds Try.pinned (OpenSpec.upto whiteTwiceSpec)

/-- 'clerestorykeep3.FlexBounds', WHERE WHAT IT READS IS OF BULK AT MOST 1048576: true; the input reads as it did. -/
def flexBoundsUptoRow : OpenClaim := { program := "ytadlabndbomgmaa", sum := "ac707c27d29b57a3857041af81cbe79c4e1f62387916078778d2ef45b9928770", func := "clerestory/clerestorykeep3.FlexBounds", spec := "flexBounds", unfollowed := true, recurses := true, apart := false, narrowed := true }
def FlexBoundsUptoSaid : Prop := flexBoundsUptoRow.holds Try.pinned (OpenSpec.upto flexBoundsSpec)

/-- 'clerestorykeep3.FlexFilled', WHERE WHAT IT READS IS OF BULK AT MOST 1048576: true; the input reads as it did. -/
def flexFilledUptoRow : OpenClaim := { program := "ytadlabndbomgmaa", sum := "ac707c27d29b57a3857041af81cbe79c4e1f62387916078778d2ef45b9928770", func := "clerestory/clerestorykeep3.FlexFilled", spec := "flexFilled", unfollowed := true, recurses := true, apart := false, narrowed := true }
def FlexFilledUptoSaid : Prop := flexFilledUptoRow.holds Try.pinned (OpenSpec.upto flexFilledSpec)

/-- 'clerestorykeep3.BreaksMust', WHERE WHAT IT READS IS OF BULK AT MOST 1048576: true; the input reads as it did. -/
def breaksMustUptoRow : OpenClaim := { program := "ytadlabndbomgmaa", sum := "ac707c27d29b57a3857041af81cbe79c4e1f62387916078778d2ef45b9928770", func := "clerestory/clerestorykeep3.BreaksMust", spec := "breaksMust", inPlace := ["internal/bytealg.CountString", "internal/bytealg.IndexByteString", "internal/bytealg.IndexString"], unfollowed := true, recurses := true, named := ["internal/bytealg.MaxLen"], apart := false, narrowed := true }
def BreaksMustUptoSaid : Prop := breaksMustUptoRow.holds Try.pinned (OpenSpec.upto breaksMustSpec)

/-- 'clerestorykeep3.FlexRowsAll', WHERE WHAT IT READS IS OF BULK AT MOST 1048576: true; the input reads as it did. -/
def flexRowsAllUptoRow : OpenClaim := { program := "ytadlabndbomgmaa", sum := "ac707c27d29b57a3857041af81cbe79c4e1f62387916078778d2ef45b9928770", func := "clerestory/clerestorykeep3.FlexRowsAll", spec := "flexRowsAll", unfollowed := true, recurses := true, apart := false, narrowed := true }
def FlexRowsAllUptoSaid : Prop := flexRowsAllUptoRow.holds Try.pinned (OpenSpec.upto flexRowsAllSpec)

/-- 'clerestorykeep3.FlexSpreadAll', WHERE WHAT IT READS IS OF BULK AT MOST 1048576: true; the input reads as it did. -/
def flexSpreadAllUptoRow : OpenClaim := { program := "ytadlabndbomgmaa", sum := "ac707c27d29b57a3857041af81cbe79c4e1f62387916078778d2ef45b9928770", func := "clerestory/clerestorykeep3.FlexSpreadAll", spec := "flexSpreadAll", unfollowed := true, recurses := true, apart := false, narrowed := true }
def FlexSpreadAllUptoSaid : Prop := flexSpreadAllUptoRow.holds Try.pinned (OpenSpec.upto flexSpreadAllSpec)

/-- 'clerestorykeep3.TableSpans', WHERE WHAT IT READS IS OF BULK AT MOST 1048576: true; the input reads as it did. -/
def tableSpansUptoRow : OpenClaim := { program := "ytadlabndbomgmaa", sum := "ac707c27d29b57a3857041af81cbe79c4e1f62387916078778d2ef45b9928770", func := "clerestory/clerestorykeep3.TableSpans", spec := "tableSpans", unfollowed := true, recurses := true, apart := false, narrowed := true }
def TableSpansUptoSaid : Prop := tableSpansUptoRow.holds Try.pinned (OpenSpec.upto tableSpansSpec)

/-- 'clerestorykeep3.SizesOrder', WHERE WHAT IT READS IS OF BULK AT MOST 1048576: true; the input reads as it did. -/
def sizesOrderUptoRow : OpenClaim := { program := "ytadlabndbomgmaa", sum := "ac707c27d29b57a3857041af81cbe79c4e1f62387916078778d2ef45b9928770", func := "clerestory/clerestorykeep3.SizesOrder", spec := "sizesOrder", inPlace := ["internal/bytealg.IndexByteString", "internal/bytealg.IndexString"], unfollowed := true, recurses := true, named := ["internal/bytealg.MaxLen"], apart := false, narrowed := true }
def SizesOrderUptoSaid : Prop := sizesOrderUptoRow.holds Try.pinned (OpenSpec.upto sizesOrderSpec)

/-- 'clerestorykeep3.TableFull', WHERE WHAT IT READS IS OF BULK AT MOST 1048576: true; the input reads as it did. -/
def tableFullUptoRow : OpenClaim := { program := "ytadlabndbomgmaa", sum := "ac707c27d29b57a3857041af81cbe79c4e1f62387916078778d2ef45b9928770", func := "clerestory/clerestorykeep3.TableFull", spec := "tableFull", unfollowed := true, recurses := true, apart := false, narrowed := true }
def TableFullUptoSaid : Prop := tableFullUptoRow.holds Try.pinned (OpenSpec.upto tableFullSpec)

/-- 'clerestorykeep3.LinesJustified', WHERE WHAT IT READS IS OF BULK AT MOST 1048576: true; the input reads as it did. -/
def linesJustifiedUptoRow : OpenClaim := { program := "ytadlabndbomgmaa", sum := "ac707c27d29b57a3857041af81cbe79c4e1f62387916078778d2ef45b9928770", func := "clerestory/clerestorykeep3.LinesJustified", spec := "linesJustified", inPlace := ["internal/bytealg.IndexByteString", "internal/bytealg.IndexString"], unfollowed := true, recurses := true, named := ["internal/bytealg.MaxLen"], apart := false, narrowed := true }
def LinesJustifiedUptoSaid : Prop := linesJustifiedUptoRow.holds Try.pinned (OpenSpec.upto linesJustifiedSpec)

/-- 'clerestorykeep3.LinesOne', WHERE WHAT IT READS IS OF BULK AT MOST 1048576: true; the input reads as it did. -/
def linesOneUptoRow : OpenClaim := { program := "ytadlabndbomgmaa", sum := "ac707c27d29b57a3857041af81cbe79c4e1f62387916078778d2ef45b9928770", func := "clerestory/clerestorykeep3.LinesOne", spec := "linesOne", inPlace := ["internal/bytealg.IndexByteString", "internal/bytealg.IndexString"], unfollowed := true, recurses := true, named := ["internal/bytealg.MaxLen"], apart := false, narrowed := true }
def LinesOneUptoSaid : Prop := linesOneUptoRow.holds Try.pinned (OpenSpec.upto linesOneSpec)

/-- 'clerestorykeep3.LinesFit', WHERE WHAT IT READS IS OF BULK AT MOST 1048576: true; the input reads as it did. -/
def linesFitUptoRow : OpenClaim := { program := "ytadlabndbomgmaa", sum := "ac707c27d29b57a3857041af81cbe79c4e1f62387916078778d2ef45b9928770", func := "clerestory/clerestorykeep3.LinesFit", spec := "linesFit", inPlace := ["internal/bytealg.IndexByteString", "internal/bytealg.IndexString"], unfollowed := true, recurses := true, named := ["internal/bytealg.MaxLen"], apart := false, narrowed := true }
def LinesFitUptoSaid : Prop := linesFitUptoRow.holds Try.pinned (OpenSpec.upto linesFitSpec)

end Rows
end Go.Proofs.Ytadlabndbomgmaa
