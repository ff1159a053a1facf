/-
  DERIVED. GIVEN WITH THE SEED: THE CARDS: each row of YtpkocnpamcchcaaGreatDoorRows.lean that lists a variable, with what it lists TIED to the program's text (the seventh form; the later family's looks); each row that meets fmt, with fmt's text TOLD by the authors' own Lean function (tested against real Go, not proved from fmt's source: count such statements apart). THE CARD IS WHAT COUNTS. Prove the row's statement (the work); the ties are given (YtpkocnpamcchcaaGreatDoorTie.lean); close each card by the builder's one call (the guide's Derived/Test/ToyasCard.lean, 'card_holds'). Laid BY PROGRAM, IN A SANDBOX (cutbox-door.mjs). By AI agents, Wed Nov 11 2026. No macro, syntax, notation, axiom, sorry.
-/
import Derived.Test.YtpkocnpamcchcaaGreatDoorRows
import GoSem.ClaimSeven
namespace Go.Proofs.YtpkocnpamcchcaaGreatDoor
namespace Rows

/-- THE TIED CARD OF 'isinglasslaw22.BuildMakes'. -/
def buildMakesCard : Claim7 := { stood := { row := buildMakesRow, standIns := [], harness := (true, "cc92e3d171896c4b94bd972b14ee496d56fdc6527919766092c01db823efb7a7"), looks := false }, kinds := [], alts := [], laidByText := true, laidKinds := [.data, .data, .data], laidTests := true, laidLooks := .later }
def BuildMakesCardSaid : Prop := Claim7.holds Tryz.pinned (.plain (OpenSpec.ofChange buildMakesSpec)) buildMakesCard

/-- THE TIED CARD OF 'isinglasslaw22.BuildOrder'. -/
def buildOrderCard : Claim7 := { stood := { row := buildOrderRow, standIns := [], harness := (true, "cc92e3d171896c4b94bd972b14ee496d56fdc6527919766092c01db823efb7a7"), looks := false }, kinds := [], alts := [], laidByText := true, laidKinds := [.data, .data, .data], laidTests := true, laidLooks := .later }
def BuildOrderCardSaid : Prop := Claim7.holds Tryz.pinned (.plain (OpenSpec.ofChange buildOrderSpec)) buildOrderCard

/-- THE TIED CARD OF 'isinglasslaw22.BuildFits'. -/
def buildFitsCard : Claim7 := { stood := { row := buildFitsRow, standIns := [], harness := (true, "cc92e3d171896c4b94bd972b14ee496d56fdc6527919766092c01db823efb7a7"), looks := false }, kinds := [], alts := [], laidByText := true, laidKinds := [.data, .data, .data], laidTests := true, laidLooks := .later }
def BuildFitsCardSaid : Prop := Claim7.holds Tryz.pinned (.plain (OpenSpec.ofChange buildFitsSpec)) buildFitsCard

/-- THE SECOND FORM's CARD OF 'isinglasslaw22.BuildMakes'. -/
def buildMakesUptoCard : Claim7 := { stood := { row := buildMakesUptoRow, standIns := [], harness := (true, "cc92e3d171896c4b94bd972b14ee496d56fdc6527919766092c01db823efb7a7"), looks := false }, kinds := [], alts := [], laidByText := true, laidKinds := [.data, .data, .data], laidTests := true, laidLooks := .later }
def BuildMakesUptoCardSaid : Prop := Claim7.holds Tryz.pinned (.plain (OpenSpec.upto buildMakesSpec)) buildMakesUptoCard

/-- THE SECOND FORM's CARD OF 'isinglasslaw22.BuildOrder'. -/
def buildOrderUptoCard : Claim7 := { stood := { row := buildOrderUptoRow, standIns := [], harness := (true, "cc92e3d171896c4b94bd972b14ee496d56fdc6527919766092c01db823efb7a7"), looks := false }, kinds := [], alts := [], laidByText := true, laidKinds := [.data, .data, .data], laidTests := true, laidLooks := .later }
def BuildOrderUptoCardSaid : Prop := Claim7.holds Tryz.pinned (.plain (OpenSpec.upto buildOrderSpec)) buildOrderUptoCard

/-- THE SECOND FORM's CARD OF 'isinglasslaw22.BuildFits'. -/
def buildFitsUptoCard : Claim7 := { stood := { row := buildFitsUptoRow, standIns := [], harness := (true, "cc92e3d171896c4b94bd972b14ee496d56fdc6527919766092c01db823efb7a7"), looks := false }, kinds := [], alts := [], laidByText := true, laidKinds := [.data, .data, .data], laidTests := true, laidLooks := .later }
def BuildFitsUptoCardSaid : Prop := Claim7.holds Tryz.pinned (.plain (OpenSpec.upto buildFitsSpec)) buildFitsUptoCard
end Rows
end Go.Proofs.YtpkocnpamcchcaaGreatDoor
