/-
  DERIVED. GIVEN WITH THE SEED: THE CARDS: each row of YtcfpfnoldgnloaaGreatDoorRows.lean that lists a variable, with what it lists TIED to the program's text (the seventh form; the later family's looks); each row that meets fmt, with fmt's text TOLD by the authors' own Lean function (tested against real Go, not proved from fmt's source: count such statements apart). THE CARD IS WHAT COUNTS. Prove the row's statement (the work); the ties are given (YtcfpfnoldgnloaaGreatDoorTie.lean); close each card by the builder's one call (the guide's Derived/Test/ToyasCard.lean, 'card_holds'). Laid BY PROGRAM, IN A SANDBOX (cutbox-door.mjs). By AI agents, Wed Nov 11 2026. No macro, syntax, notation, axiom, sorry.
-/
import Derived.Test.YtcfpfnoldgnloaaGreatDoorRows
import GoSem.ClaimSeven
namespace Go.Proofs.YtcfpfnoldgnloaaGreatDoor
namespace Rows

/-- THE TIED CARD OF 'counterprooflaw04.ParseDeep'. -/
def parseDeepCard : Claim7 := { stood := { row := parseDeepRow, standIns := [], harness := (true, "78bfb9a2e29d02f8c851965bfd45e5cebcab513d7cd9cf25fa93ec3369538ac6"), looks := true }, kinds := [], alts := [], laidByText := true, laidKinds := [.data, .data, .data, .data, .sentinel, .sentinel, .pinned], laidTests := true, laidLooks := .later }
def ParseDeepCardSaid : Prop := Claim7.holds Tryz.pinned (.plain (OpenSpec.ofChange parseDeepSpec)) parseDeepCard

/-- THE TIED CARD OF 'counterprooflaw04.ParseParens'. -/
def parseParensCard : Claim7 := { stood := { row := parseParensRow, standIns := [], harness := (true, "78bfb9a2e29d02f8c851965bfd45e5cebcab513d7cd9cf25fa93ec3369538ac6"), looks := true }, kinds := [], alts := [], laidByText := true, laidKinds := [.data, .data, .data, .data, .sentinel, .sentinel, .pinned], laidTests := true, laidLooks := .later }
def ParseParensCardSaid : Prop := Claim7.holds Tryz.pinned (.plain (OpenSpec.ofChange parseParensSpec)) parseParensCard

/-- THE TIED CARD OF 'counterprooflaw04.ParseWhere'. -/
def parseWhereCard : Claim7 := { stood := { row := parseWhereRow, standIns := [], harness := (true, "78bfb9a2e29d02f8c851965bfd45e5cebcab513d7cd9cf25fa93ec3369538ac6"), looks := true }, kinds := [], alts := [], laidByText := true, laidKinds := [.data, .data, .data, .data, .sentinel, .sentinel, .pinned], laidTests := true, laidLooks := .later }
def ParseWhereCardSaid : Prop := Claim7.holds Tryz.pinned (.plain (OpenSpec.ofChange parseWhereSpec)) parseWhereCard

/-- THE TIED CARD OF 'counterprooflaw04.ParseTells'. -/
def parseTellsCard : Claim7 := { stood := { row := parseTellsRow, standIns := [], harness := (true, "78bfb9a2e29d02f8c851965bfd45e5cebcab513d7cd9cf25fa93ec3369538ac6"), looks := true }, kinds := [], alts := [], laidByText := true, laidKinds := [.data, .data, .data, .data, .sentinel, .sentinel, .pinned], laidTests := true, laidLooks := .later }
def ParseTellsCardSaid : Prop := Claim7.holds Tryz.pinned (.plain (OpenSpec.ofChange parseTellsSpec)) parseTellsCard

/-- THE TIED CARD OF 'counterprooflaw04.ParseForth'. -/
def parseForthCard : Claim7 := { stood := { row := parseForthRow, standIns := [], harness := (true, "78bfb9a2e29d02f8c851965bfd45e5cebcab513d7cd9cf25fa93ec3369538ac6"), looks := true }, kinds := [], alts := [], laidByText := true, laidKinds := [.data, .data, .data, .data, .sentinel, .sentinel, .pinned], laidTests := true, laidLooks := .later }
def ParseForthCardSaid : Prop := Claim7.holds Tryz.pinned (.plain (OpenSpec.ofChange parseForthSpec)) parseForthCard

/-- THE TIED CARD OF 'counterprooflaw04.ParseBlanks'. -/
def parseBlanksCard : Claim7 := { stood := { row := parseBlanksRow, standIns := [], harness := (true, "78bfb9a2e29d02f8c851965bfd45e5cebcab513d7cd9cf25fa93ec3369538ac6"), looks := true }, kinds := [], alts := [], laidByText := true, laidKinds := [.data, .data, .data, .data, .sentinel, .sentinel, .pinned], laidTests := true, laidLooks := .later }
def ParseBlanksCardSaid : Prop := Claim7.holds Tryz.pinned (.plain (OpenSpec.ofChange parseBlanksSpec)) parseBlanksCard

/-- THE TIED CARD OF 'counterprooflaw04.ParseJoin'. -/
def parseJoinCard : Claim7 := { stood := { row := parseJoinRow, standIns := [], harness := (true, "78bfb9a2e29d02f8c851965bfd45e5cebcab513d7cd9cf25fa93ec3369538ac6"), looks := true }, kinds := [], alts := [], laidByText := true, laidKinds := [.data, .data, .data, .data, .sentinel, .sentinel, .pinned], laidTests := true, laidLooks := .later }
def ParseJoinCardSaid : Prop := Claim7.holds Tryz.pinned (.plain (OpenSpec.ofChange parseJoinSpec)) parseJoinCard

/-- THE TIED CARD OF 'counterprooflaw04.ParseBack'. -/
def parseBackCard : Claim7 := { stood := { row := parseBackRow, standIns := [], harness := (true, "78bfb9a2e29d02f8c851965bfd45e5cebcab513d7cd9cf25fa93ec3369538ac6"), looks := true }, kinds := [], alts := [], laidByText := true, laidKinds := [.data, .data, .data, .data, .sentinel, .sentinel, .pinned], laidTests := true, laidLooks := .later }
def ParseBackCardSaid : Prop := Claim7.holds Tryz.pinned (.plain (OpenSpec.ofChange parseBackSpec)) parseBackCard

/-- THE SECOND FORM's CARD OF 'counterprooflaw04.ParseDeep'. -/
def parseDeepUptoCard : Claim7 := { stood := { row := parseDeepUptoRow, standIns := [], harness := (true, "78bfb9a2e29d02f8c851965bfd45e5cebcab513d7cd9cf25fa93ec3369538ac6"), looks := true }, kinds := [], alts := [], laidByText := true, laidKinds := [.data, .data, .data, .data, .sentinel, .sentinel, .pinned], laidTests := true, laidLooks := .later }
def ParseDeepUptoCardSaid : Prop := Claim7.holds Tryz.pinned (.plain (OpenSpec.upto parseDeepSpec)) parseDeepUptoCard

/-- THE SECOND FORM's CARD OF 'counterprooflaw04.ParseParens'. -/
def parseParensUptoCard : Claim7 := { stood := { row := parseParensUptoRow, standIns := [], harness := (true, "78bfb9a2e29d02f8c851965bfd45e5cebcab513d7cd9cf25fa93ec3369538ac6"), looks := true }, kinds := [], alts := [], laidByText := true, laidKinds := [.data, .data, .data, .data, .sentinel, .sentinel, .pinned], laidTests := true, laidLooks := .later }
def ParseParensUptoCardSaid : Prop := Claim7.holds Tryz.pinned (.plain (OpenSpec.upto parseParensSpec)) parseParensUptoCard

/-- THE SECOND FORM's CARD OF 'counterprooflaw04.ParseWhere'. -/
def parseWhereUptoCard : Claim7 := { stood := { row := parseWhereUptoRow, standIns := [], harness := (true, "78bfb9a2e29d02f8c851965bfd45e5cebcab513d7cd9cf25fa93ec3369538ac6"), looks := true }, kinds := [], alts := [], laidByText := true, laidKinds := [.data, .data, .data, .data, .sentinel, .sentinel, .pinned], laidTests := true, laidLooks := .later }
def ParseWhereUptoCardSaid : Prop := Claim7.holds Tryz.pinned (.plain (OpenSpec.upto parseWhereSpec)) parseWhereUptoCard

/-- THE SECOND FORM's CARD OF 'counterprooflaw04.ParseTells'. -/
def parseTellsUptoCard : Claim7 := { stood := { row := parseTellsUptoRow, standIns := [], harness := (true, "78bfb9a2e29d02f8c851965bfd45e5cebcab513d7cd9cf25fa93ec3369538ac6"), looks := true }, kinds := [], alts := [], laidByText := true, laidKinds := [.data, .data, .data, .data, .sentinel, .sentinel, .pinned], laidTests := true, laidLooks := .later }
def ParseTellsUptoCardSaid : Prop := Claim7.holds Tryz.pinned (.plain (OpenSpec.upto parseTellsSpec)) parseTellsUptoCard

/-- THE SECOND FORM's CARD OF 'counterprooflaw04.ParseForth'. -/
def parseForthUptoCard : Claim7 := { stood := { row := parseForthUptoRow, standIns := [], harness := (true, "78bfb9a2e29d02f8c851965bfd45e5cebcab513d7cd9cf25fa93ec3369538ac6"), looks := true }, kinds := [], alts := [], laidByText := true, laidKinds := [.data, .data, .data, .data, .sentinel, .sentinel, .pinned], laidTests := true, laidLooks := .later }
def ParseForthUptoCardSaid : Prop := Claim7.holds Tryz.pinned (.plain (OpenSpec.upto parseForthSpec)) parseForthUptoCard

/-- THE SECOND FORM's CARD OF 'counterprooflaw04.ParseBlanks'. -/
def parseBlanksUptoCard : Claim7 := { stood := { row := parseBlanksUptoRow, standIns := [], harness := (true, "78bfb9a2e29d02f8c851965bfd45e5cebcab513d7cd9cf25fa93ec3369538ac6"), looks := true }, kinds := [], alts := [], laidByText := true, laidKinds := [.data, .data, .data, .data, .sentinel, .sentinel, .pinned], laidTests := true, laidLooks := .later }
def ParseBlanksUptoCardSaid : Prop := Claim7.holds Tryz.pinned (.plain (OpenSpec.upto parseBlanksSpec)) parseBlanksUptoCard

/-- THE SECOND FORM's CARD OF 'counterprooflaw04.ParseJoin'. -/
def parseJoinUptoCard : Claim7 := { stood := { row := parseJoinUptoRow, standIns := [], harness := (true, "78bfb9a2e29d02f8c851965bfd45e5cebcab513d7cd9cf25fa93ec3369538ac6"), looks := true }, kinds := [], alts := [], laidByText := true, laidKinds := [.data, .data, .data, .data, .sentinel, .sentinel, .pinned], laidTests := true, laidLooks := .later }
def ParseJoinUptoCardSaid : Prop := Claim7.holds Tryz.pinned (.plain (OpenSpec.upto parseJoinSpec)) parseJoinUptoCard

/-- THE SECOND FORM's CARD OF 'counterprooflaw04.ParseBack'. -/
def parseBackUptoCard : Claim7 := { stood := { row := parseBackUptoRow, standIns := [], harness := (true, "78bfb9a2e29d02f8c851965bfd45e5cebcab513d7cd9cf25fa93ec3369538ac6"), looks := true }, kinds := [], alts := [], laidByText := true, laidKinds := [.data, .data, .data, .data, .sentinel, .sentinel, .pinned], laidTests := true, laidLooks := .later }
def ParseBackUptoCardSaid : Prop := Claim7.holds Tryz.pinned (.plain (OpenSpec.upto parseBackSpec)) parseBackUptoCard
end Rows
end Go.Proofs.YtcfpfnoldgnloaaGreatDoor
