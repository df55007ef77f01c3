/-
  DERIVED. GIVEN WITH THE SEED: THE CARDS: each row of YtgmaeflfiooigaaGreatDoorRows.lean that lists a variable, with what it lists TIED to the program's text (the seventh form; the later family's looks); each row that meets fmt, with fmt's text TOLD by the authors' own Lean function (tested against real Go, not proved from fmt's source: count such statements apart). THE CARD IS WHAT COUNTS. Prove the row's statement (the work); the ties are given (YtgmaeflfiooigaaGreatDoorTie.lean); close each card by the builder's one call (the guide's Derived/Test/ToyasCard.lean, 'card_holds'). Laid BY PROGRAM, IN A SANDBOX (cutbox-door.mjs). By AI agents, Wed Nov 11 2026. No macro, syntax, notation, axiom, sorry.
-/
import Derived.Test.YtgmaeflfiooigaaGreatDoorRows
import GoSem.ClaimSeven
namespace Go.Proofs.YtgmaeflfiooigaaGreatDoor
namespace Rows

/-- THE TIED CARD OF 'counterprooflaw03.TreeTells'. -/
def treeTellsCard : Claim7 := { stood := { row := treeTellsRow, standIns := [], harness := (true, "dc62e4c3ca43a487e370f557781f36c894d2144be4f627e198b45cd126904352"), looks := true }, kinds := [], alts := [], laidByText := true, laidKinds := [.data, .data, .data], laidTests := true, laidLooks := .later }
def TreeTellsCardSaid : Prop := Claim7.holds Tryz.pinned (.plain (OpenSpec.ofChange treeTellsSpec)) treeTellsCard

/-- THE TIED CARD OF 'counterprooflaw03.TreeUnlike'. -/
def treeUnlikeCard : Claim7 := { stood := { row := treeUnlikeRow, standIns := [], harness := (true, "dc62e4c3ca43a487e370f557781f36c894d2144be4f627e198b45cd126904352"), looks := true }, kinds := [], alts := [], laidByText := true, laidKinds := [.data, .data, .data], laidTests := true, laidLooks := .later }
def TreeUnlikeCardSaid : Prop := Claim7.holds Tryz.pinned (.plain (OpenSpec.ofChange treeUnlikeSpec)) treeUnlikeCard

/-- THE TIED CARD OF 'counterprooflaw03.TreeWrong'. -/
def treeWrongCard : Claim7 := { stood := { row := treeWrongRow, standIns := [], harness := (true, "dc62e4c3ca43a487e370f557781f36c894d2144be4f627e198b45cd126904352"), looks := true }, kinds := [], alts := [], laidByText := true, laidKinds := [.data, .data, .data], laidTests := true, laidLooks := .later }
def TreeWrongCardSaid : Prop := Claim7.holds Tryz.pinned (.plain (OpenSpec.ofChange treeWrongSpec)) treeWrongCard

/-- THE TIED CARD OF 'counterprooflaw03.TreeSizes'. -/
def treeSizesCard : Claim7 := { stood := { row := treeSizesRow, standIns := [], harness := (true, "dc62e4c3ca43a487e370f557781f36c894d2144be4f627e198b45cd126904352"), looks := true }, kinds := [], alts := [], laidByText := true, laidKinds := [.data, .data, .data], laidTests := true, laidLooks := .later }
def TreeSizesCardSaid : Prop := Claim7.holds Tryz.pinned (.plain (OpenSpec.ofChange treeSizesSpec)) treeSizesCard

/-- THE TIED CARD OF 'counterprooflaw03.TreeSame'. -/
def treeSameCard : Claim7 := { stood := { row := treeSameRow, standIns := [], harness := (true, "dc62e4c3ca43a487e370f557781f36c894d2144be4f627e198b45cd126904352"), looks := true }, kinds := [], alts := [], laidByText := true, laidKinds := [.data, .data, .data], laidTests := true, laidLooks := .later }
def TreeSameCardSaid : Prop := Claim7.holds Tryz.pinned (.plain (OpenSpec.ofChange treeSameSpec)) treeSameCard

/-- THE TIED CARD OF 'counterprooflaw03.TreeBinds'. -/
def treeBindsCard : Claim7 := { stood := { row := treeBindsRow, standIns := [], harness := (true, "dc62e4c3ca43a487e370f557781f36c894d2144be4f627e198b45cd126904352"), looks := true }, kinds := [], alts := [], laidByText := true, laidKinds := [.data, .data, .data], laidTests := true, laidLooks := .later }
def TreeBindsCardSaid : Prop := Claim7.holds Tryz.pinned (.plain (OpenSpec.ofChange treeBindsSpec)) treeBindsCard

/-- THE TIED CARD OF 'counterprooflaw03.TreeScans'. -/
def treeScansCard : Claim7 := { stood := { row := treeScansRow, standIns := [], harness := (true, "dc62e4c3ca43a487e370f557781f36c894d2144be4f627e198b45cd126904352"), looks := true }, kinds := [], alts := [], laidByText := true, laidKinds := [.data, .data, .data, .data, .sentinel, .sentinel, .pinned], laidTests := true, laidLooks := .later }
def TreeScansCardSaid : Prop := Claim7.holds Tryz.pinned (.plain (OpenSpec.ofChange treeScansSpec)) treeScansCard

/-- THE SECOND FORM's CARD OF 'counterprooflaw03.TreeTells'. -/
def treeTellsUptoCard : Claim7 := { stood := { row := treeTellsUptoRow, standIns := [], harness := (true, "dc62e4c3ca43a487e370f557781f36c894d2144be4f627e198b45cd126904352"), looks := true }, kinds := [], alts := [], laidByText := true, laidKinds := [.data, .data, .data], laidTests := true, laidLooks := .later }
def TreeTellsUptoCardSaid : Prop := Claim7.holds Tryz.pinned (.plain (OpenSpec.upto treeTellsSpec)) treeTellsUptoCard

/-- THE SECOND FORM's CARD OF 'counterprooflaw03.TreeUnlike'. -/
def treeUnlikeUptoCard : Claim7 := { stood := { row := treeUnlikeUptoRow, standIns := [], harness := (true, "dc62e4c3ca43a487e370f557781f36c894d2144be4f627e198b45cd126904352"), looks := true }, kinds := [], alts := [], laidByText := true, laidKinds := [.data, .data, .data], laidTests := true, laidLooks := .later }
def TreeUnlikeUptoCardSaid : Prop := Claim7.holds Tryz.pinned (.plain (OpenSpec.upto treeUnlikeSpec)) treeUnlikeUptoCard

/-- THE SECOND FORM's CARD OF 'counterprooflaw03.TreeWrong'. -/
def treeWrongUptoCard : Claim7 := { stood := { row := treeWrongUptoRow, standIns := [], harness := (true, "dc62e4c3ca43a487e370f557781f36c894d2144be4f627e198b45cd126904352"), looks := true }, kinds := [], alts := [], laidByText := true, laidKinds := [.data, .data, .data], laidTests := true, laidLooks := .later }
def TreeWrongUptoCardSaid : Prop := Claim7.holds Tryz.pinned (.plain (OpenSpec.upto treeWrongSpec)) treeWrongUptoCard

/-- THE SECOND FORM's CARD OF 'counterprooflaw03.TreeSizes'. -/
def treeSizesUptoCard : Claim7 := { stood := { row := treeSizesUptoRow, standIns := [], harness := (true, "dc62e4c3ca43a487e370f557781f36c894d2144be4f627e198b45cd126904352"), looks := true }, kinds := [], alts := [], laidByText := true, laidKinds := [.data, .data, .data], laidTests := true, laidLooks := .later }
def TreeSizesUptoCardSaid : Prop := Claim7.holds Tryz.pinned (.plain (OpenSpec.upto treeSizesSpec)) treeSizesUptoCard

/-- THE SECOND FORM's CARD OF 'counterprooflaw03.TreeSame'. -/
def treeSameUptoCard : Claim7 := { stood := { row := treeSameUptoRow, standIns := [], harness := (true, "dc62e4c3ca43a487e370f557781f36c894d2144be4f627e198b45cd126904352"), looks := true }, kinds := [], alts := [], laidByText := true, laidKinds := [.data, .data, .data], laidTests := true, laidLooks := .later }
def TreeSameUptoCardSaid : Prop := Claim7.holds Tryz.pinned (.plain (OpenSpec.upto treeSameSpec)) treeSameUptoCard

/-- THE SECOND FORM's CARD OF 'counterprooflaw03.TreeBinds'. -/
def treeBindsUptoCard : Claim7 := { stood := { row := treeBindsUptoRow, standIns := [], harness := (true, "dc62e4c3ca43a487e370f557781f36c894d2144be4f627e198b45cd126904352"), looks := true }, kinds := [], alts := [], laidByText := true, laidKinds := [.data, .data, .data], laidTests := true, laidLooks := .later }
def TreeBindsUptoCardSaid : Prop := Claim7.holds Tryz.pinned (.plain (OpenSpec.upto treeBindsSpec)) treeBindsUptoCard

/-- THE SECOND FORM's CARD OF 'counterprooflaw03.TreeScans'. -/
def treeScansUptoCard : Claim7 := { stood := { row := treeScansUptoRow, standIns := [], harness := (true, "dc62e4c3ca43a487e370f557781f36c894d2144be4f627e198b45cd126904352"), looks := true }, kinds := [], alts := [], laidByText := true, laidKinds := [.data, .data, .data, .data, .sentinel, .sentinel, .pinned], laidTests := true, laidLooks := .later }
def TreeScansUptoCardSaid : Prop := Claim7.holds Tryz.pinned (.plain (OpenSpec.upto treeScansSpec)) treeScansUptoCard
end Rows
end Go.Proofs.YtgmaeflfiooigaaGreatDoor
