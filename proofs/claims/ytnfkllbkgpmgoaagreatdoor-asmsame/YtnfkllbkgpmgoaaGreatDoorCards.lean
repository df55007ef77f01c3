/-
  DERIVED. GIVEN WITH THE SEED: THE CARDS: each row of YtnfkllbkgpmgoaaGreatDoorRows.lean that lists a variable, with what it lists TIED to the program's text (the seventh form; the later family's looks); each row that meets fmt, with fmt's text TOLD by the authors' own Lean function (tested against real Go, not proved from fmt's source: count such statements apart). THE CARD IS WHAT COUNTS. Prove the row's statement (the work); the ties are given (YtnfkllbkgpmgoaaGreatDoorTie.lean); close each card by the builder's one call (the guide's Derived/Test/ToyasCard.lean, 'card_holds'). Laid BY PROGRAM, IN A SANDBOX (cutbox-door.mjs). By AI agents, Wed Nov 11 2026. No macro, syntax, notation, axiom, sorry.
-/
import Derived.Test.YtnfkllbkgpmgoaaGreatDoorRows
import GoSem.ClaimSeven
namespace Go.Proofs.YtnfkllbkgpmgoaaGreatDoor
namespace Rows

/-- THE TIED CARD OF 'counterprooflaw08.AsmBack'. -/
def asmBackCard : Claim7 := { stood := { row := asmBackRow, standIns := [], harness := (true, "7ae731cbb25cb0927082f02e1072de962aaffe3f7e74b67ab91750a8ef690aa5"), looks := true }, kinds := [], alts := [], laidByText := true, laidKinds := [.data, .data, .data, .data, .sentinel, .sentinel, .pinned], laidTests := true, laidLooks := .later }
def AsmBackCardSaid : Prop := Claim7.holds Tryz.pinned (.plain (OpenSpec.ofChange asmBackSpec)) asmBackCard

/-- THE TIED CARD OF 'counterprooflaw08.AsmLeads'. -/
def asmLeadsCard : Claim7 := { stood := { row := asmLeadsRow, standIns := [], harness := (true, "7ae731cbb25cb0927082f02e1072de962aaffe3f7e74b67ab91750a8ef690aa5"), looks := true }, kinds := [], alts := [], laidByText := true, laidKinds := [.data, .data, .data, .data, .sentinel, .sentinel, .pinned], laidTests := true, laidLooks := .later }
def AsmLeadsCardSaid : Prop := Claim7.holds Tryz.pinned (.plain (OpenSpec.ofChange asmLeadsSpec)) asmLeadsCard

/-- THE TIED CARD OF 'counterprooflaw08.AsmWrong'. -/
def asmWrongCard : Claim7 := { stood := { row := asmWrongRow, standIns := [], harness := (true, "7ae731cbb25cb0927082f02e1072de962aaffe3f7e74b67ab91750a8ef690aa5"), looks := true }, kinds := [], alts := [], laidByText := true, laidKinds := [.data, .data, .data, .data, .sentinel, .sentinel, .pinned], laidTests := true, laidLooks := .later }
def AsmWrongCardSaid : Prop := Claim7.holds Tryz.pinned (.plain (OpenSpec.ofChange asmWrongSpec)) asmWrongCard

/-- THE TIED CARD OF 'counterprooflaw08.AsmTwice'. -/
def asmTwiceCard : Claim7 := { stood := { row := asmTwiceRow, standIns := [], harness := (true, "7ae731cbb25cb0927082f02e1072de962aaffe3f7e74b67ab91750a8ef690aa5"), looks := true }, kinds := [], alts := [], laidByText := true, laidKinds := [.data, .data, .data, .data, .sentinel, .sentinel, .pinned], laidTests := true, laidLooks := .later }
def AsmTwiceCardSaid : Prop := Claim7.holds Tryz.pinned (.plain (OpenSpec.ofChange asmTwiceSpec)) asmTwiceCard

/-- THE TIED CARD OF 'counterprooflaw08.AsmJoin'. -/
def asmJoinCard : Claim7 := { stood := { row := asmJoinRow, standIns := [], harness := (true, "7ae731cbb25cb0927082f02e1072de962aaffe3f7e74b67ab91750a8ef690aa5"), looks := true }, kinds := [], alts := [], laidByText := true, laidKinds := [.data, .data, .data, .data, .sentinel, .sentinel, .pinned], laidTests := true, laidLooks := .later }
def AsmJoinCardSaid : Prop := Claim7.holds Tryz.pinned (.plain (OpenSpec.ofChange asmJoinSpec)) asmJoinCard

/-- THE TIED CARD OF 'counterprooflaw08.AsmSame'. -/
def asmSameCard : Claim7 := { stood := { row := asmSameRow, standIns := [], harness := (true, "7ae731cbb25cb0927082f02e1072de962aaffe3f7e74b67ab91750a8ef690aa5"), looks := true }, kinds := [], alts := [], laidByText := true, laidKinds := [.data, .data, .data, .data, .sentinel, .sentinel, .pinned], laidTests := true, laidLooks := .later }
def AsmSameCardSaid : Prop := Claim7.holds Tryz.pinned (.plain (OpenSpec.ofChange asmSameSpec)) asmSameCard

/-- THE SECOND FORM's CARD OF 'counterprooflaw08.AsmBack'. -/
def asmBackUptoCard : Claim7 := { stood := { row := asmBackUptoRow, standIns := [], harness := (true, "7ae731cbb25cb0927082f02e1072de962aaffe3f7e74b67ab91750a8ef690aa5"), looks := true }, kinds := [], alts := [], laidByText := true, laidKinds := [.data, .data, .data, .data, .sentinel, .sentinel, .pinned], laidTests := true, laidLooks := .later }
def AsmBackUptoCardSaid : Prop := Claim7.holds Tryz.pinned (.plain (OpenSpec.upto asmBackSpec)) asmBackUptoCard

/-- THE SECOND FORM's CARD OF 'counterprooflaw08.AsmLeads'. -/
def asmLeadsUptoCard : Claim7 := { stood := { row := asmLeadsUptoRow, standIns := [], harness := (true, "7ae731cbb25cb0927082f02e1072de962aaffe3f7e74b67ab91750a8ef690aa5"), looks := true }, kinds := [], alts := [], laidByText := true, laidKinds := [.data, .data, .data, .data, .sentinel, .sentinel, .pinned], laidTests := true, laidLooks := .later }
def AsmLeadsUptoCardSaid : Prop := Claim7.holds Tryz.pinned (.plain (OpenSpec.upto asmLeadsSpec)) asmLeadsUptoCard

/-- THE SECOND FORM's CARD OF 'counterprooflaw08.AsmWrong'. -/
def asmWrongUptoCard : Claim7 := { stood := { row := asmWrongUptoRow, standIns := [], harness := (true, "7ae731cbb25cb0927082f02e1072de962aaffe3f7e74b67ab91750a8ef690aa5"), looks := true }, kinds := [], alts := [], laidByText := true, laidKinds := [.data, .data, .data, .data, .sentinel, .sentinel, .pinned], laidTests := true, laidLooks := .later }
def AsmWrongUptoCardSaid : Prop := Claim7.holds Tryz.pinned (.plain (OpenSpec.upto asmWrongSpec)) asmWrongUptoCard

/-- THE SECOND FORM's CARD OF 'counterprooflaw08.AsmTwice'. -/
def asmTwiceUptoCard : Claim7 := { stood := { row := asmTwiceUptoRow, standIns := [], harness := (true, "7ae731cbb25cb0927082f02e1072de962aaffe3f7e74b67ab91750a8ef690aa5"), looks := true }, kinds := [], alts := [], laidByText := true, laidKinds := [.data, .data, .data, .data, .sentinel, .sentinel, .pinned], laidTests := true, laidLooks := .later }
def AsmTwiceUptoCardSaid : Prop := Claim7.holds Tryz.pinned (.plain (OpenSpec.upto asmTwiceSpec)) asmTwiceUptoCard

/-- THE SECOND FORM's CARD OF 'counterprooflaw08.AsmJoin'. -/
def asmJoinUptoCard : Claim7 := { stood := { row := asmJoinUptoRow, standIns := [], harness := (true, "7ae731cbb25cb0927082f02e1072de962aaffe3f7e74b67ab91750a8ef690aa5"), looks := true }, kinds := [], alts := [], laidByText := true, laidKinds := [.data, .data, .data, .data, .sentinel, .sentinel, .pinned], laidTests := true, laidLooks := .later }
def AsmJoinUptoCardSaid : Prop := Claim7.holds Tryz.pinned (.plain (OpenSpec.upto asmJoinSpec)) asmJoinUptoCard

/-- THE SECOND FORM's CARD OF 'counterprooflaw08.AsmSame'. -/
def asmSameUptoCard : Claim7 := { stood := { row := asmSameUptoRow, standIns := [], harness := (true, "7ae731cbb25cb0927082f02e1072de962aaffe3f7e74b67ab91750a8ef690aa5"), looks := true }, kinds := [], alts := [], laidByText := true, laidKinds := [.data, .data, .data, .data, .sentinel, .sentinel, .pinned], laidTests := true, laidLooks := .later }
def AsmSameUptoCardSaid : Prop := Claim7.holds Tryz.pinned (.plain (OpenSpec.upto asmSameSpec)) asmSameUptoCard
end Rows
end Go.Proofs.YtnfkllbkgpmgoaaGreatDoor
