/-
  DERIVED. GIVEN WITH THE SEED: THE CARDS: each row of YtpgjfpphigeliaaGreatDoorRows.lean that lists a variable, with what it lists TIED to the program's text (the seventh form; the later family's looks); each row that meets fmt, with fmt's text TOLD by the authors' own Lean function (tested against real Go, not proved from fmt's source: count such statements apart). THE CARD IS WHAT COUNTS. Prove the row's statement (the work); the ties are given (YtpgjfpphigeliaaGreatDoorTie.lean); close each card by the builder's one call (the guide's Derived/Test/ToyasCard.lean, 'card_holds'). Laid BY PROGRAM, IN A SANDBOX (cutbox-door.mjs). By AI agents, Wed Nov 11 2026. No macro, syntax, notation, axiom, sorry.
-/
import Derived.Test.YtpgjfpphigeliaaGreatDoorRows
import GoSem.ClaimSeven
namespace Go.Proofs.YtpgjfpphigeliaaGreatDoor
namespace Rows

/-- THE TIED CARD OF 'counterprooflaw09.MachSteps'. -/
def machStepsCard : Claim7 := { stood := { row := machStepsRow, standIns := [], harness := (true, "fa3c92d0aa297a5372e6e9f88ae1fe42882eb0bb283f73430e9755573c3c040d"), looks := true }, kinds := [], alts := [], laidByText := true, laidKinds := [.data, .data, .data, .data, .sentinel, .sentinel, .pinned], laidTests := true, laidLooks := .later }
def MachStepsCardSaid : Prop := Claim7.holds Tryz.pinned (.plain (OpenSpec.ofChange machStepsSpec)) machStepsCard

/-- THE TIED CARD OF 'counterprooflaw09.MachMoves'. -/
def machMovesCard : Claim7 := { stood := { row := machMovesRow, standIns := [], harness := (true, "fa3c92d0aa297a5372e6e9f88ae1fe42882eb0bb283f73430e9755573c3c040d"), looks := true }, kinds := [], alts := [], laidByText := true, laidKinds := [.data, .data, .data, .data, .sentinel, .sentinel, .pinned], laidTests := true, laidLooks := .later }
def MachMovesCardSaid : Prop := Claim7.holds Tryz.pinned (.plain (OpenSpec.ofChange machMovesSpec)) machMovesCard

/-- THE TIED CARD OF 'counterprooflaw09.MachCounts'. -/
def machCountsCard : Claim7 := { stood := { row := machCountsRow, standIns := [], harness := (true, "fa3c92d0aa297a5372e6e9f88ae1fe42882eb0bb283f73430e9755573c3c040d"), looks := true }, kinds := [], alts := [], laidByText := true, laidKinds := [.data, .data, .data, .data, .sentinel, .sentinel, .pinned], laidTests := true, laidLooks := .later }
def MachCountsCardSaid : Prop := Claim7.holds Tryz.pinned (.plain (OpenSpec.ofChange machCountsSpec)) machCountsCard

/-- THE TIED CARD OF 'counterprooflaw09.MachFaults'. -/
def machFaultsCard : Claim7 := { stood := { row := machFaultsRow, standIns := [], harness := (true, "fa3c92d0aa297a5372e6e9f88ae1fe42882eb0bb283f73430e9755573c3c040d"), looks := true }, kinds := [], alts := [], laidByText := true, laidKinds := [.data, .data, .data, .data, .sentinel, .sentinel, .pinned], laidTests := true, laidLooks := .later }
def MachFaultsCardSaid : Prop := Claim7.holds Tryz.pinned (.plain (OpenSpec.ofChange machFaultsSpec)) machFaultsCard

/-- THE TIED CARD OF 'counterprooflaw09.MachWords'. -/
def machWordsCard : Claim7 := { stood := { row := machWordsRow, standIns := [], harness := (true, "fa3c92d0aa297a5372e6e9f88ae1fe42882eb0bb283f73430e9755573c3c040d"), looks := true }, kinds := [], alts := [], laidByText := true, laidKinds := [.data, .data, .data, .data, .sentinel, .sentinel, .pinned], laidTests := true, laidLooks := .later }
def MachWordsCardSaid : Prop := Claim7.holds Tryz.pinned (.plain (OpenSpec.ofChange machWordsSpec)) machWordsCard

/-- THE TIED CARD OF 'counterprooflaw09.MachBranch'. -/
def machBranchCard : Claim7 := { stood := { row := machBranchRow, standIns := [], harness := (true, "fa3c92d0aa297a5372e6e9f88ae1fe42882eb0bb283f73430e9755573c3c040d"), looks := true }, kinds := [], alts := [], laidByText := true, laidKinds := [.data, .data, .data, .data, .sentinel, .sentinel, .pinned], laidTests := true, laidLooks := .later }
def MachBranchCardSaid : Prop := Claim7.holds Tryz.pinned (.plain (OpenSpec.ofChange machBranchSpec)) machBranchCard

/-- THE TIED CARD OF 'counterprooflaw09.MachZero'. -/
def machZeroCard : Claim7 := { stood := { row := machZeroRow, standIns := [], harness := (true, "fa3c92d0aa297a5372e6e9f88ae1fe42882eb0bb283f73430e9755573c3c040d"), looks := true }, kinds := [], alts := [], laidByText := true, laidKinds := [.data, .data, .data, .data, .sentinel, .sentinel, .pinned], laidTests := true, laidLooks := .later }
def MachZeroCardSaid : Prop := Claim7.holds Tryz.pinned (.plain (OpenSpec.ofChange machZeroSpec)) machZeroCard

/-- THE TIED CARD OF 'counterprooflaw09.MachOps'. -/
def machOpsCard : Claim7 := { stood := { row := machOpsRow, standIns := [], harness := (true, "fa3c92d0aa297a5372e6e9f88ae1fe42882eb0bb283f73430e9755573c3c040d"), looks := true }, kinds := [], alts := [], laidByText := true, laidKinds := [.data, .data, .data, .data, .sentinel, .sentinel, .pinned], laidTests := true, laidLooks := .later }
def MachOpsCardSaid : Prop := Claim7.holds Tryz.pinned (.plain (OpenSpec.ofChange machOpsSpec)) machOpsCard

/-- THE SECOND FORM's CARD OF 'counterprooflaw09.MachSteps'. -/
def machStepsUptoCard : Claim7 := { stood := { row := machStepsUptoRow, standIns := [], harness := (true, "fa3c92d0aa297a5372e6e9f88ae1fe42882eb0bb283f73430e9755573c3c040d"), looks := true }, kinds := [], alts := [], laidByText := true, laidKinds := [.data, .data, .data, .data, .sentinel, .sentinel, .pinned], laidTests := true, laidLooks := .later }
def MachStepsUptoCardSaid : Prop := Claim7.holds Tryz.pinned (.plain (OpenSpec.upto machStepsSpec)) machStepsUptoCard

/-- THE SECOND FORM's CARD OF 'counterprooflaw09.MachMoves'. -/
def machMovesUptoCard : Claim7 := { stood := { row := machMovesUptoRow, standIns := [], harness := (true, "fa3c92d0aa297a5372e6e9f88ae1fe42882eb0bb283f73430e9755573c3c040d"), looks := true }, kinds := [], alts := [], laidByText := true, laidKinds := [.data, .data, .data, .data, .sentinel, .sentinel, .pinned], laidTests := true, laidLooks := .later }
def MachMovesUptoCardSaid : Prop := Claim7.holds Tryz.pinned (.plain (OpenSpec.upto machMovesSpec)) machMovesUptoCard

/-- THE SECOND FORM's CARD OF 'counterprooflaw09.MachCounts'. -/
def machCountsUptoCard : Claim7 := { stood := { row := machCountsUptoRow, standIns := [], harness := (true, "fa3c92d0aa297a5372e6e9f88ae1fe42882eb0bb283f73430e9755573c3c040d"), looks := true }, kinds := [], alts := [], laidByText := true, laidKinds := [.data, .data, .data, .data, .sentinel, .sentinel, .pinned], laidTests := true, laidLooks := .later }
def MachCountsUptoCardSaid : Prop := Claim7.holds Tryz.pinned (.plain (OpenSpec.upto machCountsSpec)) machCountsUptoCard

/-- THE SECOND FORM's CARD OF 'counterprooflaw09.MachFaults'. -/
def machFaultsUptoCard : Claim7 := { stood := { row := machFaultsUptoRow, standIns := [], harness := (true, "fa3c92d0aa297a5372e6e9f88ae1fe42882eb0bb283f73430e9755573c3c040d"), looks := true }, kinds := [], alts := [], laidByText := true, laidKinds := [.data, .data, .data, .data, .sentinel, .sentinel, .pinned], laidTests := true, laidLooks := .later }
def MachFaultsUptoCardSaid : Prop := Claim7.holds Tryz.pinned (.plain (OpenSpec.upto machFaultsSpec)) machFaultsUptoCard

/-- THE SECOND FORM's CARD OF 'counterprooflaw09.MachWords'. -/
def machWordsUptoCard : Claim7 := { stood := { row := machWordsUptoRow, standIns := [], harness := (true, "fa3c92d0aa297a5372e6e9f88ae1fe42882eb0bb283f73430e9755573c3c040d"), looks := true }, kinds := [], alts := [], laidByText := true, laidKinds := [.data, .data, .data, .data, .sentinel, .sentinel, .pinned], laidTests := true, laidLooks := .later }
def MachWordsUptoCardSaid : Prop := Claim7.holds Tryz.pinned (.plain (OpenSpec.upto machWordsSpec)) machWordsUptoCard

/-- THE SECOND FORM's CARD OF 'counterprooflaw09.MachBranch'. -/
def machBranchUptoCard : Claim7 := { stood := { row := machBranchUptoRow, standIns := [], harness := (true, "fa3c92d0aa297a5372e6e9f88ae1fe42882eb0bb283f73430e9755573c3c040d"), looks := true }, kinds := [], alts := [], laidByText := true, laidKinds := [.data, .data, .data, .data, .sentinel, .sentinel, .pinned], laidTests := true, laidLooks := .later }
def MachBranchUptoCardSaid : Prop := Claim7.holds Tryz.pinned (.plain (OpenSpec.upto machBranchSpec)) machBranchUptoCard

/-- THE SECOND FORM's CARD OF 'counterprooflaw09.MachZero'. -/
def machZeroUptoCard : Claim7 := { stood := { row := machZeroUptoRow, standIns := [], harness := (true, "fa3c92d0aa297a5372e6e9f88ae1fe42882eb0bb283f73430e9755573c3c040d"), looks := true }, kinds := [], alts := [], laidByText := true, laidKinds := [.data, .data, .data, .data, .sentinel, .sentinel, .pinned], laidTests := true, laidLooks := .later }
def MachZeroUptoCardSaid : Prop := Claim7.holds Tryz.pinned (.plain (OpenSpec.upto machZeroSpec)) machZeroUptoCard

/-- THE SECOND FORM's CARD OF 'counterprooflaw09.MachOps'. -/
def machOpsUptoCard : Claim7 := { stood := { row := machOpsUptoRow, standIns := [], harness := (true, "fa3c92d0aa297a5372e6e9f88ae1fe42882eb0bb283f73430e9755573c3c040d"), looks := true }, kinds := [], alts := [], laidByText := true, laidKinds := [.data, .data, .data, .data, .sentinel, .sentinel, .pinned], laidTests := true, laidLooks := .later }
def MachOpsUptoCardSaid : Prop := Claim7.holds Tryz.pinned (.plain (OpenSpec.upto machOpsSpec)) machOpsUptoCard
end Rows
end Go.Proofs.YtpgjfpphigeliaaGreatDoor
