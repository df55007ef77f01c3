/-
  DERIVED. GIVEN WITH THE SEED: THE CARDS: each row of YtgjaaclbhakmpaaDoorRows.lean that lists a variable, with what it lists TIED to the program's text (the seventh form; the later family's looks); each row that meets fmt, with fmt's text TOLD by the authors' own Lean function (tested against real Go, not proved from fmt's source: count such statements apart). THE CARD IS WHAT COUNTS. Prove the row's statement (the work); the ties are given (YtgjaaclbhakmpaaDoorTie.lean); close each card by the builder's one call (the guide's Derived/Test/ToyasCard.lean, 'card_holds'). Laid BY PROGRAM, IN A SANDBOX (cutbox-door.mjs). By AI agents, Wed Nov 11 2026. No macro, syntax, notation, axiom, sorry.
-/
import Derived.Test.YtgjaaclbhakmpaaDoorRows
import GoSem.ClaimSeven
namespace Go.Proofs.YtgjaaclbhakmpaaDoor
namespace Rows

/-- THE TIED CARD OF 'counterprooflaw07.InstrTells'. -/
def instrTellsCard : Claim7 := { stood := { row := instrTellsRow, standIns := [], harness := (true, "f3d2dbb13ceec712bebf094ad45bd02f756b7febb2769b3d26ff7dfe79559b41"), looks := true }, kinds := [], alts := [], laidByText := true, laidKinds := [.data, .data, .data, .sentinel, .sentinel], laidTests := true, laidLooks := .later }
def InstrTellsCardSaid : Prop := Claim7.holds Tryd.pinned (.plain (OpenSpec.ofChange instrTellsSpec)) instrTellsCard

/-- THE TIED CARD OF 'counterprooflaw07.InstrBack'. -/
def instrBackCard : Claim7 := { stood := { row := instrBackRow, standIns := [], harness := (true, "f3d2dbb13ceec712bebf094ad45bd02f756b7febb2769b3d26ff7dfe79559b41"), looks := true }, kinds := [], alts := [], laidByText := true, laidKinds := [.data, .data, .data, .sentinel, .sentinel], laidTests := true, laidLooks := .later }
def InstrBackCardSaid : Prop := Claim7.holds Tryd.pinned (.plain (OpenSpec.ofChange instrBackSpec)) instrBackCard

/-- THE TIED CARD OF 'counterprooflaw07.InstrForth'. -/
def instrForthCard : Claim7 := { stood := { row := instrForthRow, standIns := [], harness := (true, "f3d2dbb13ceec712bebf094ad45bd02f756b7febb2769b3d26ff7dfe79559b41"), looks := true }, kinds := [], alts := [], laidByText := true, laidKinds := [.data, .data, .data, .sentinel, .sentinel], laidTests := true, laidLooks := .later }
def InstrForthCardSaid : Prop := Claim7.holds Tryd.pinned (.plain (OpenSpec.ofChange instrForthSpec)) instrForthCard

/-- THE TIED CARD OF 'counterprooflaw07.InstrRegisters'. -/
def instrRegistersCard : Claim7 := { stood := { row := instrRegistersRow, standIns := [], harness := (true, "f3d2dbb13ceec712bebf094ad45bd02f756b7febb2769b3d26ff7dfe79559b41"), looks := true }, kinds := [], alts := [], laidByText := true, laidKinds := [.data, .data, .data, .sentinel, .sentinel], laidTests := true, laidLooks := .later }
def InstrRegistersCardSaid : Prop := Claim7.holds Tryd.pinned (.plain (OpenSpec.ofChange instrRegistersSpec)) instrRegistersCard

/-- THE TIED CARD OF 'counterprooflaw07.InstrNumbers'. -/
def instrNumbersCard : Claim7 := { stood := { row := instrNumbersRow, standIns := [], harness := (true, "f3d2dbb13ceec712bebf094ad45bd02f756b7febb2769b3d26ff7dfe79559b41"), looks := true }, kinds := [], alts := [], laidByText := true, laidKinds := [.data, .data, .data, .sentinel, .sentinel], laidTests := true, laidLooks := .later }
def InstrNumbersCardSaid : Prop := Claim7.holds Tryd.pinned (.plain (OpenSpec.ofChange instrNumbersSpec)) instrNumbersCard

/-- THE TIED CARD OF 'counterprooflaw07.InstrCut'. -/
def instrCutCard : Claim7 := { stood := { row := instrCutRow, standIns := [], harness := (true, "f3d2dbb13ceec712bebf094ad45bd02f756b7febb2769b3d26ff7dfe79559b41"), looks := true }, kinds := [], alts := [], laidByText := true, laidKinds := [.data, .data, .data, .sentinel, .sentinel], laidTests := true, laidLooks := .later }
def InstrCutCardSaid : Prop := Claim7.holds Tryd.pinned (.plain (OpenSpec.ofChange instrCutSpec)) instrCutCard

/-- THE SECOND FORM's CARD OF 'counterprooflaw07.InstrTells'. -/
def instrTellsUptoCard : Claim7 := { stood := { row := instrTellsUptoRow, standIns := [], harness := (true, "f3d2dbb13ceec712bebf094ad45bd02f756b7febb2769b3d26ff7dfe79559b41"), looks := true }, kinds := [], alts := [], laidByText := true, laidKinds := [.data, .data, .data, .sentinel, .sentinel], laidTests := true, laidLooks := .later }
def InstrTellsUptoCardSaid : Prop := Claim7.holds Tryd.pinned (.plain (OpenSpec.upto instrTellsSpec)) instrTellsUptoCard

/-- THE SECOND FORM's CARD OF 'counterprooflaw07.InstrBack'. -/
def instrBackUptoCard : Claim7 := { stood := { row := instrBackUptoRow, standIns := [], harness := (true, "f3d2dbb13ceec712bebf094ad45bd02f756b7febb2769b3d26ff7dfe79559b41"), looks := true }, kinds := [], alts := [], laidByText := true, laidKinds := [.data, .data, .data, .sentinel, .sentinel], laidTests := true, laidLooks := .later }
def InstrBackUptoCardSaid : Prop := Claim7.holds Tryd.pinned (.plain (OpenSpec.upto instrBackSpec)) instrBackUptoCard

/-- THE SECOND FORM's CARD OF 'counterprooflaw07.InstrForth'. -/
def instrForthUptoCard : Claim7 := { stood := { row := instrForthUptoRow, standIns := [], harness := (true, "f3d2dbb13ceec712bebf094ad45bd02f756b7febb2769b3d26ff7dfe79559b41"), looks := true }, kinds := [], alts := [], laidByText := true, laidKinds := [.data, .data, .data, .sentinel, .sentinel], laidTests := true, laidLooks := .later }
def InstrForthUptoCardSaid : Prop := Claim7.holds Tryd.pinned (.plain (OpenSpec.upto instrForthSpec)) instrForthUptoCard

/-- THE SECOND FORM's CARD OF 'counterprooflaw07.InstrRegisters'. -/
def instrRegistersUptoCard : Claim7 := { stood := { row := instrRegistersUptoRow, standIns := [], harness := (true, "f3d2dbb13ceec712bebf094ad45bd02f756b7febb2769b3d26ff7dfe79559b41"), looks := true }, kinds := [], alts := [], laidByText := true, laidKinds := [.data, .data, .data, .sentinel, .sentinel], laidTests := true, laidLooks := .later }
def InstrRegistersUptoCardSaid : Prop := Claim7.holds Tryd.pinned (.plain (OpenSpec.upto instrRegistersSpec)) instrRegistersUptoCard

/-- THE SECOND FORM's CARD OF 'counterprooflaw07.InstrNumbers'. -/
def instrNumbersUptoCard : Claim7 := { stood := { row := instrNumbersUptoRow, standIns := [], harness := (true, "f3d2dbb13ceec712bebf094ad45bd02f756b7febb2769b3d26ff7dfe79559b41"), looks := true }, kinds := [], alts := [], laidByText := true, laidKinds := [.data, .data, .data, .sentinel, .sentinel], laidTests := true, laidLooks := .later }
def InstrNumbersUptoCardSaid : Prop := Claim7.holds Tryd.pinned (.plain (OpenSpec.upto instrNumbersSpec)) instrNumbersUptoCard

/-- THE SECOND FORM's CARD OF 'counterprooflaw07.InstrCut'. -/
def instrCutUptoCard : Claim7 := { stood := { row := instrCutUptoRow, standIns := [], harness := (true, "f3d2dbb13ceec712bebf094ad45bd02f756b7febb2769b3d26ff7dfe79559b41"), looks := true }, kinds := [], alts := [], laidByText := true, laidKinds := [.data, .data, .data, .sentinel, .sentinel], laidTests := true, laidLooks := .later }
def InstrCutUptoCardSaid : Prop := Claim7.holds Tryd.pinned (.plain (OpenSpec.upto instrCutSpec)) instrCutUptoCard
end Rows
end Go.Proofs.YtgjaaclbhakmpaaDoor
