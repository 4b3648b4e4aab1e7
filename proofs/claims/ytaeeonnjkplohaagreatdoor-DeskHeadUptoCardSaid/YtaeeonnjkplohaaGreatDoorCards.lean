/-
  DERIVED. GIVEN WITH THE SEED: THE CARDS: each row of YtaeeonnjkplohaaGreatDoorRows.lean that lists a variable, with what it lists TIED to the program's text (the seventh form; the later family's looks); each row that meets fmt, with fmt's text TOLD by the authors' own Lean function (tested against real Go, not proved from fmt's source: count such statements apart). THE CARD IS WHAT COUNTS. Prove the row's statement (the work); the ties are given (YtaeeonnjkplohaaGreatDoorTie.lean); close each card by the builder's one call (the guide's Derived/Test/ToyasCard.lean, 'card_holds'). Laid BY PROGRAM, IN A SANDBOX (cutbox-door.mjs). By AI agents, Wed Nov 11 2026. No macro, syntax, notation, axiom, sorry.
-/
import Derived.Test.YtaeeonnjkplohaaGreatDoorRows
import GoSem.ClaimSeven
namespace Go.Proofs.YtaeeonnjkplohaaGreatDoor
namespace Rows

/-- THE TIED CARD OF 'coachtop.TopResumes'. -/
def topResumesCard : Claim7 := { stood := { row := topResumesRow, standIns := [], harness := (true, "6bb7f3fd5d972b66c5c0db786b8f3420bb2ad40ba49a561d88d1709c529cf851"), looks := false }, kinds := [], alts := [], laidByText := true, laidKinds := [.data, .data, .data, .data, .pinned], laidTests := true, laidLooks := .later }
def TopResumesCardSaid : Prop := Claim7.holds Tryz.pinned (.plain (OpenSpec.ofChange topResumesSpec)) topResumesCard

/-- THE TIED CARD OF 'coachlaw.DeskSays'. -/
def deskSaysCard : Claim7 := { stood := { row := deskSaysRow, standIns := [], harness := (true, "6bb7f3fd5d972b66c5c0db786b8f3420bb2ad40ba49a561d88d1709c529cf851"), looks := false }, kinds := [], alts := [], laidByText := true, laidKinds := [.data, .data, .data, .data, .pinned], laidTests := true, laidLooks := .later }
def DeskSaysCardSaid : Prop := Claim7.holds Tryz.pinned (.plain (OpenSpec.ofChange deskSaysSpec)) deskSaysCard

/-- THE TIED CARD OF 'coachkeep.DeskCounts'. -/
def deskCountsCard : Claim7 := { stood := { row := deskCountsRow, standIns := [], harness := (true, "6bb7f3fd5d972b66c5c0db786b8f3420bb2ad40ba49a561d88d1709c529cf851"), looks := false }, kinds := [], alts := [], laidByText := true, laidKinds := [.data, .data, .data, .data, .pinned], laidTests := true, laidLooks := .later }
def DeskCountsCardSaid : Prop := Claim7.holds Tryz.pinned (.plain (OpenSpec.ofChange deskCountsSpec)) deskCountsCard

/-- THE TIED CARD OF 'coachkeep.DeskHead'. -/
def deskHeadCard : Claim7 := { stood := { row := deskHeadRow, standIns := [], harness := (true, "6bb7f3fd5d972b66c5c0db786b8f3420bb2ad40ba49a561d88d1709c529cf851"), looks := false }, kinds := [], alts := [], laidByText := true, laidKinds := [.data, .data, .data, .data, .pinned], laidTests := true, laidLooks := .later }
def DeskHeadCardSaid : Prop := Claim7.holds Tryz.pinned (.plain (OpenSpec.ofChange deskHeadSpec)) deskHeadCard

/-- THE SECOND FORM's CARD OF 'coachtop.TopResumes'. -/
def topResumesUptoCard : Claim7 := { stood := { row := topResumesUptoRow, standIns := [], harness := (true, "6bb7f3fd5d972b66c5c0db786b8f3420bb2ad40ba49a561d88d1709c529cf851"), looks := false }, kinds := [], alts := [], laidByText := true, laidKinds := [.data, .data, .data, .data, .pinned], laidTests := true, laidLooks := .later }
def TopResumesUptoCardSaid : Prop := Claim7.holds Tryz.pinned (.plain (OpenSpec.upto topResumesSpec)) topResumesUptoCard

/-- THE SECOND FORM's CARD OF 'coachlaw.DeskSays'. -/
def deskSaysUptoCard : Claim7 := { stood := { row := deskSaysUptoRow, standIns := [], harness := (true, "6bb7f3fd5d972b66c5c0db786b8f3420bb2ad40ba49a561d88d1709c529cf851"), looks := false }, kinds := [], alts := [], laidByText := true, laidKinds := [.data, .data, .data, .data, .pinned], laidTests := true, laidLooks := .later }
def DeskSaysUptoCardSaid : Prop := Claim7.holds Tryz.pinned (.plain (OpenSpec.upto deskSaysSpec)) deskSaysUptoCard

/-- THE SECOND FORM's CARD OF 'coachkeep.DeskCounts'. -/
def deskCountsUptoCard : Claim7 := { stood := { row := deskCountsUptoRow, standIns := [], harness := (true, "6bb7f3fd5d972b66c5c0db786b8f3420bb2ad40ba49a561d88d1709c529cf851"), looks := false }, kinds := [], alts := [], laidByText := true, laidKinds := [.data, .data, .data, .data, .pinned], laidTests := true, laidLooks := .later }
def DeskCountsUptoCardSaid : Prop := Claim7.holds Tryz.pinned (.plain (OpenSpec.upto deskCountsSpec)) deskCountsUptoCard

/-- THE SECOND FORM's CARD OF 'coachkeep.DeskHead'. -/
def deskHeadUptoCard : Claim7 := { stood := { row := deskHeadUptoRow, standIns := [], harness := (true, "6bb7f3fd5d972b66c5c0db786b8f3420bb2ad40ba49a561d88d1709c529cf851"), looks := false }, kinds := [], alts := [], laidByText := true, laidKinds := [.data, .data, .data, .data, .pinned], laidTests := true, laidLooks := .later }
def DeskHeadUptoCardSaid : Prop := Claim7.holds Tryz.pinned (.plain (OpenSpec.upto deskHeadSpec)) deskHeadUptoCard
end Rows
end Go.Proofs.YtaeeonnjkplohaaGreatDoor
