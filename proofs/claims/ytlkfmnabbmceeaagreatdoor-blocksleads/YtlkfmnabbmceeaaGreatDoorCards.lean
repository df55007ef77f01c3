/-
  DERIVED. GIVEN WITH THE SEED: THE CARDS: each row of YtlkfmnabbmceeaaGreatDoorRows.lean that lists a variable, with what it lists TIED to the program's text (the seventh form; the later family's looks); each row that meets fmt, with fmt's text TOLD by the authors' own Lean function (tested against real Go, not proved from fmt's source: count such statements apart). THE CARD IS WHAT COUNTS. Prove the row's statement (the work); the ties are given (YtlkfmnabbmceeaaGreatDoorTie.lean); close each card by the builder's one call (the guide's Derived/Test/ToyasCard.lean, 'card_holds'). Laid BY PROGRAM, IN A SANDBOX (cutbox-door.mjs). By AI agents, Wed Nov 11 2026. No macro, syntax, notation, axiom, sorry.
-/
import Derived.Test.YtlkfmnabbmceeaaGreatDoorRows
import GoSem.ClaimSeven
namespace Go.Proofs.YtlkfmnabbmceeaaGreatDoor
namespace Rows

/-- THE TIED CARD OF 'counterprooflaw19.BlocksParts'. -/
def blocksPartsCard : Claim7 := { stood := { row := blocksPartsRow, standIns := [], harness := (true, "8ee3906403fa38a02d89f5d093b96539ab2be893fb83d7e148f769fb3e85e58e"), looks := true }, kinds := [], alts := [], laidByText := true, laidKinds := [.data, .data, .data, .data, .sentinel, .sentinel, .pinned], laidTests := true, laidLooks := .later }
def BlocksPartsCardSaid : Prop := Claim7.holds Tryz.pinned (.plain (OpenSpec.ofChange blocksPartsSpec)) blocksPartsCard

/-- THE TIED CARD OF 'counterprooflaw19.BlocksLeads'. -/
def blocksLeadsCard : Claim7 := { stood := { row := blocksLeadsRow, standIns := [], harness := (true, "8ee3906403fa38a02d89f5d093b96539ab2be893fb83d7e148f769fb3e85e58e"), looks := true }, kinds := [], alts := [], laidByText := true, laidKinds := [.data, .data, .data, .data, .sentinel, .sentinel, .pinned], laidTests := true, laidLooks := .later }
def BlocksLeadsCardSaid : Prop := Claim7.holds Tryz.pinned (.plain (OpenSpec.ofChange blocksLeadsSpec)) blocksLeadsCard

/-- THE TIED CARD OF 'counterprooflaw19.BlocksLandings'. -/
def blocksLandingsCard : Claim7 := { stood := { row := blocksLandingsRow, standIns := [], harness := (true, "8ee3906403fa38a02d89f5d093b96539ab2be893fb83d7e148f769fb3e85e58e"), looks := true }, kinds := [], alts := [], laidByText := true, laidKinds := [.data, .data, .data, .data, .sentinel, .sentinel, .pinned], laidTests := true, laidLooks := .later }
def BlocksLandingsCardSaid : Prop := Claim7.holds Tryz.pinned (.plain (OpenSpec.ofChange blocksLandingsSpec)) blocksLandingsCard

/-- THE SECOND FORM's CARD OF 'counterprooflaw19.BlocksParts'. -/
def blocksPartsUptoCard : Claim7 := { stood := { row := blocksPartsUptoRow, standIns := [], harness := (true, "8ee3906403fa38a02d89f5d093b96539ab2be893fb83d7e148f769fb3e85e58e"), looks := true }, kinds := [], alts := [], laidByText := true, laidKinds := [.data, .data, .data, .data, .sentinel, .sentinel, .pinned], laidTests := true, laidLooks := .later }
def BlocksPartsUptoCardSaid : Prop := Claim7.holds Tryz.pinned (.plain (OpenSpec.upto blocksPartsSpec)) blocksPartsUptoCard

/-- THE SECOND FORM's CARD OF 'counterprooflaw19.BlocksLeads'. -/
def blocksLeadsUptoCard : Claim7 := { stood := { row := blocksLeadsUptoRow, standIns := [], harness := (true, "8ee3906403fa38a02d89f5d093b96539ab2be893fb83d7e148f769fb3e85e58e"), looks := true }, kinds := [], alts := [], laidByText := true, laidKinds := [.data, .data, .data, .data, .sentinel, .sentinel, .pinned], laidTests := true, laidLooks := .later }
def BlocksLeadsUptoCardSaid : Prop := Claim7.holds Tryz.pinned (.plain (OpenSpec.upto blocksLeadsSpec)) blocksLeadsUptoCard

/-- THE SECOND FORM's CARD OF 'counterprooflaw19.BlocksLandings'. -/
def blocksLandingsUptoCard : Claim7 := { stood := { row := blocksLandingsUptoRow, standIns := [], harness := (true, "8ee3906403fa38a02d89f5d093b96539ab2be893fb83d7e148f769fb3e85e58e"), looks := true }, kinds := [], alts := [], laidByText := true, laidKinds := [.data, .data, .data, .data, .sentinel, .sentinel, .pinned], laidTests := true, laidLooks := .later }
def BlocksLandingsUptoCardSaid : Prop := Claim7.holds Tryz.pinned (.plain (OpenSpec.upto blocksLandingsSpec)) blocksLandingsUptoCard
end Rows
end Go.Proofs.YtlkfmnabbmceeaaGreatDoor
