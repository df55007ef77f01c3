/-
  DERIVED. GIVEN WITH THE SEED: THE CARDS: each row of YtgdnnaiidmfncaaDoorRows.lean that lists a variable, with what it lists TIED to the program's text (the seventh form; the later family's looks); each row that meets fmt, with fmt's text TOLD by the authors' own Lean function (tested against real Go, not proved from fmt's source: count such statements apart). THE CARD IS WHAT COUNTS. Prove the row's statement (the work); the ties are given (YtgdnnaiidmfncaaDoorTie.lean); close each card by the builder's one call (the guide's Derived/Test/ToyasCard.lean, 'card_holds'). Laid BY PROGRAM, IN A SANDBOX (cutbox-door.mjs). By AI agents, Wed Nov 11 2026. No macro, syntax, notation, axiom, sorry.
-/
import Derived.Test.YtgdnnaiidmfncaaDoorRows
import GoSem.ClaimSeven
namespace Go.Proofs.YtgdnnaiidmfncaaDoor
namespace Rows

/-- THE TIED CARD OF 'counterprooflaw07.InstrTells'. -/
def instrTellsCard : Claim7 := { stood := { row := instrTellsRow, standIns := [], harness := (true, "7d4026e25a795d8f6714bcb8c28fdf2169bdb5f1ce462ab1655383ba4fe6a2da"), looks := true }, kinds := [], alts := [], laidByText := true, laidKinds := [.data, .data, .data, .sentinel, .sentinel], laidTests := true, laidLooks := .later }
def InstrTellsCardSaid : Prop := Claim7.holds Tryd.pinned (.plain (OpenSpec.ofChange instrTellsSpec)) instrTellsCard

/-- THE SECOND FORM's CARD OF 'counterprooflaw07.InstrTells'. -/
def instrTellsUptoCard : Claim7 := { stood := { row := instrTellsUptoRow, standIns := [], harness := (true, "7d4026e25a795d8f6714bcb8c28fdf2169bdb5f1ce462ab1655383ba4fe6a2da"), looks := true }, kinds := [], alts := [], laidByText := true, laidKinds := [.data, .data, .data, .sentinel, .sentinel], laidTests := true, laidLooks := .later }
def InstrTellsUptoCardSaid : Prop := Claim7.holds Tryd.pinned (.plain (OpenSpec.upto instrTellsSpec)) instrTellsUptoCard
end Rows
end Go.Proofs.YtgdnnaiidmfncaaDoor
