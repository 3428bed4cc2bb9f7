/-
  DERIVED. GIVEN WITH THE SEED: THE CARDS: each row of YtpfcojnkflcnoaaGreatDoorRows.lean that lists a variable, with what it lists TIED to the program's text (the seventh form; the later family's looks); each row that meets fmt, with fmt's text TOLD by the authors' own Lean function (tested against real Go, not proved from fmt's source: count such statements apart). THE CARD IS WHAT COUNTS. Prove the row's statement (the work); the ties are given (YtpfcojnkflcnoaaGreatDoorTie.lean); close each card by the builder's one call (the guide's Derived/Test/ToyasCard.lean, 'card_holds'). Laid BY PROGRAM, IN A SANDBOX (cutbox-door.mjs). By AI agents, Wed Nov 11 2026. No macro, syntax, notation, axiom, sorry.
-/
import Derived.Test.YtpfcojnkflcnoaaGreatDoorRows
import GoSem.ClaimSeven
namespace Go.Proofs.YtpfcojnkflcnoaaGreatDoor
namespace Rows

/-- THE TIED CARD OF 'separatumlaw20.MachAsks'. -/
def machAsksCard : Claim7 := { stood := { row := machAsksRow, standIns := [], harness := (true, "776bcf04c3195f95559ef3eeef184dfc321ace5f118db0df9f238014556745de"), looks := false }, kinds := [], alts := [], laidByText := true, laidKinds := [.data, .data, .data, .listed, .data], laidTests := true, laidLooks := .later }
def MachAsksCardSaid : Prop := Claim7.holds Tryz.pinned (.plain (OpenSpec.ofChange machAsksSpec)) machAsksCard

/-- THE TIED CARD OF 'separatumlaw20.MachCalls'. -/
def machCallsCard : Claim7 := { stood := { row := machCallsRow, standIns := [], harness := (true, "776bcf04c3195f95559ef3eeef184dfc321ace5f118db0df9f238014556745de"), looks := false }, kinds := [], alts := [], laidByText := true, laidKinds := [.data, .data, .data, .listed, .data], laidTests := true, laidLooks := .later }
def MachCallsCardSaid : Prop := Claim7.holds Tryz.pinned (.plain (OpenSpec.ofChange machCallsSpec)) machCallsCard

/-- THE TIED CARD OF 'separatumlaw24.ImageRuns'. -/
def imageRunsCard : Claim7 := { stood := { row := imageRunsRow, standIns := [], harness := (true, "776bcf04c3195f95559ef3eeef184dfc321ace5f118db0df9f238014556745de"), looks := false }, kinds := [], alts := [], laidByText := true, laidKinds := [.data, .data, .data, .listed, .data], laidTests := true, laidLooks := .later }
def ImageRunsCardSaid : Prop := Claim7.holds Tryz.pinned (.plain (OpenSpec.ofChange imageRunsSpec)) imageRunsCard

/-- THE TIED CARD OF 'separatumlaw20.MachPieces'. -/
def machPiecesCard : Claim7 := { stood := { row := machPiecesRow, standIns := [], harness := (true, "776bcf04c3195f95559ef3eeef184dfc321ace5f118db0df9f238014556745de"), looks := false }, kinds := [], alts := [], laidByText := true, laidKinds := [.data, .data, .data, .listed, .data], laidTests := true, laidLooks := .later }
def MachPiecesCardSaid : Prop := Claim7.holds Tryz.pinned (.plain (OpenSpec.ofChange machPiecesSpec)) machPiecesCard

/-- THE TIED CARD OF 'separatumlaw20.MachNil'. -/
def machNilCard : Claim7 := { stood := { row := machNilRow, standIns := [], harness := (true, "776bcf04c3195f95559ef3eeef184dfc321ace5f118db0df9f238014556745de"), looks := false }, kinds := [], alts := [], laidByText := true, laidKinds := [.data, .data, .data, .listed, .data], laidTests := true, laidLooks := .later }
def MachNilCardSaid : Prop := Claim7.holds Tryz.pinned (.plain (OpenSpec.ofChange machNilSpec)) machNilCard

/-- THE SECOND FORM's CARD OF 'separatumlaw20.MachAsks'. -/
def machAsksUptoCard : Claim7 := { stood := { row := machAsksUptoRow, standIns := [], harness := (true, "776bcf04c3195f95559ef3eeef184dfc321ace5f118db0df9f238014556745de"), looks := false }, kinds := [], alts := [], laidByText := true, laidKinds := [.data, .data, .data, .listed, .data], laidTests := true, laidLooks := .later }
def MachAsksUptoCardSaid : Prop := Claim7.holds Tryz.pinned (.plain (OpenSpec.upto machAsksSpec)) machAsksUptoCard

/-- THE SECOND FORM's CARD OF 'separatumlaw20.MachCalls'. -/
def machCallsUptoCard : Claim7 := { stood := { row := machCallsUptoRow, standIns := [], harness := (true, "776bcf04c3195f95559ef3eeef184dfc321ace5f118db0df9f238014556745de"), looks := false }, kinds := [], alts := [], laidByText := true, laidKinds := [.data, .data, .data, .listed, .data], laidTests := true, laidLooks := .later }
def MachCallsUptoCardSaid : Prop := Claim7.holds Tryz.pinned (.plain (OpenSpec.upto machCallsSpec)) machCallsUptoCard

/-- THE SECOND FORM's CARD OF 'separatumlaw24.ImageRuns'. -/
def imageRunsUptoCard : Claim7 := { stood := { row := imageRunsUptoRow, standIns := [], harness := (true, "776bcf04c3195f95559ef3eeef184dfc321ace5f118db0df9f238014556745de"), looks := false }, kinds := [], alts := [], laidByText := true, laidKinds := [.data, .data, .data, .listed, .data], laidTests := true, laidLooks := .later }
def ImageRunsUptoCardSaid : Prop := Claim7.holds Tryz.pinned (.plain (OpenSpec.upto imageRunsSpec)) imageRunsUptoCard

/-- THE SECOND FORM's CARD OF 'separatumlaw20.MachPieces'. -/
def machPiecesUptoCard : Claim7 := { stood := { row := machPiecesUptoRow, standIns := [], harness := (true, "776bcf04c3195f95559ef3eeef184dfc321ace5f118db0df9f238014556745de"), looks := false }, kinds := [], alts := [], laidByText := true, laidKinds := [.data, .data, .data, .listed, .data], laidTests := true, laidLooks := .later }
def MachPiecesUptoCardSaid : Prop := Claim7.holds Tryz.pinned (.plain (OpenSpec.upto machPiecesSpec)) machPiecesUptoCard

/-- THE SECOND FORM's CARD OF 'separatumlaw20.MachNil'. -/
def machNilUptoCard : Claim7 := { stood := { row := machNilUptoRow, standIns := [], harness := (true, "776bcf04c3195f95559ef3eeef184dfc321ace5f118db0df9f238014556745de"), looks := false }, kinds := [], alts := [], laidByText := true, laidKinds := [.data, .data, .data, .listed, .data], laidTests := true, laidLooks := .later }
def MachNilUptoCardSaid : Prop := Claim7.holds Tryz.pinned (.plain (OpenSpec.upto machNilSpec)) machNilUptoCard
end Rows
end Go.Proofs.YtpfcojnkflcnoaaGreatDoor
