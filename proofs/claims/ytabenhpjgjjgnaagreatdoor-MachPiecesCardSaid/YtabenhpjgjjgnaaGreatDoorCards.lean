/-
  DERIVED. GIVEN WITH THE SEED: THE CARDS: each row of YtabenhpjgjjgnaaGreatDoorRows.lean that lists a variable, with what it lists TIED to the program's text (the seventh form; the later family's looks); each row that meets fmt, with fmt's text TOLD by the authors' own Lean function (tested against real Go, not proved from fmt's source: count such statements apart). THE CARD IS WHAT COUNTS. Prove the row's statement (the work); the ties are given (YtabenhpjgjjgnaaGreatDoorTie.lean); close each card by the builder's one call (the guide's Derived/Test/ToyasCard.lean, 'card_holds'). Laid BY PROGRAM, IN A SANDBOX (cutbox-door.mjs). By AI agents, Wed Nov 11 2026. No macro, syntax, notation, axiom, sorry.
-/
import Derived.Test.YtabenhpjgjjgnaaGreatDoorRows
import GoSem.ClaimSeven
namespace Go.Proofs.YtabenhpjgjjgnaaGreatDoor
namespace Rows

/-- THE TIED CARD OF 'separatumlaw20.MachWords'. -/
def machWordsCard : Claim7 := { stood := { row := machWordsRow, standIns := [], harness := (true, "46e141fa331cbc0f075847a10af125bc3b05020a2cec11423648c0b81908bac4"), looks := false }, kinds := [], alts := [], laidByText := true, laidKinds := [.data, .data, .data, .listed, .data], laidTests := true, laidLooks := .later }
def MachWordsCardSaid : Prop := Claim7.holds Tryz.pinned (.plain (OpenSpec.ofChange machWordsSpec)) machWordsCard

/-- THE TIED CARD OF 'separatumlaw24.ImageRuns'. -/
def imageRunsCard : Claim7 := { stood := { row := imageRunsRow, standIns := [], harness := (true, "46e141fa331cbc0f075847a10af125bc3b05020a2cec11423648c0b81908bac4"), looks := false }, kinds := [], alts := [], laidByText := true, laidKinds := [.data, .data, .data, .listed, .data], laidTests := true, laidLooks := .later }
def ImageRunsCardSaid : Prop := Claim7.holds Tryz.pinned (.plain (OpenSpec.ofChange imageRunsSpec)) imageRunsCard

/-- THE TIED CARD OF 'separatumlaw20.MachPieces'. -/
def machPiecesCard : Claim7 := { stood := { row := machPiecesRow, standIns := [], harness := (true, "46e141fa331cbc0f075847a10af125bc3b05020a2cec11423648c0b81908bac4"), looks := false }, kinds := [], alts := [], laidByText := true, laidKinds := [.data, .data, .data, .listed, .data], laidTests := true, laidLooks := .later }
def MachPiecesCardSaid : Prop := Claim7.holds Tryz.pinned (.plain (OpenSpec.ofChange machPiecesSpec)) machPiecesCard

/-- THE SECOND FORM's CARD OF 'separatumlaw20.MachWords'. -/
def machWordsUptoCard : Claim7 := { stood := { row := machWordsUptoRow, standIns := [], harness := (true, "46e141fa331cbc0f075847a10af125bc3b05020a2cec11423648c0b81908bac4"), looks := false }, kinds := [], alts := [], laidByText := true, laidKinds := [.data, .data, .data, .listed, .data], laidTests := true, laidLooks := .later }
def MachWordsUptoCardSaid : Prop := Claim7.holds Tryz.pinned (.plain (OpenSpec.upto machWordsSpec)) machWordsUptoCard

/-- THE SECOND FORM's CARD OF 'separatumlaw24.ImageRuns'. -/
def imageRunsUptoCard : Claim7 := { stood := { row := imageRunsUptoRow, standIns := [], harness := (true, "46e141fa331cbc0f075847a10af125bc3b05020a2cec11423648c0b81908bac4"), looks := false }, kinds := [], alts := [], laidByText := true, laidKinds := [.data, .data, .data, .listed, .data], laidTests := true, laidLooks := .later }
def ImageRunsUptoCardSaid : Prop := Claim7.holds Tryz.pinned (.plain (OpenSpec.upto imageRunsSpec)) imageRunsUptoCard

/-- THE SECOND FORM's CARD OF 'separatumlaw20.MachPieces'. -/
def machPiecesUptoCard : Claim7 := { stood := { row := machPiecesUptoRow, standIns := [], harness := (true, "46e141fa331cbc0f075847a10af125bc3b05020a2cec11423648c0b81908bac4"), looks := false }, kinds := [], alts := [], laidByText := true, laidKinds := [.data, .data, .data, .listed, .data], laidTests := true, laidLooks := .later }
def MachPiecesUptoCardSaid : Prop := Claim7.holds Tryz.pinned (.plain (OpenSpec.upto machPiecesSpec)) machPiecesUptoCard
end Rows
end Go.Proofs.YtabenhpjgjjgnaaGreatDoor
