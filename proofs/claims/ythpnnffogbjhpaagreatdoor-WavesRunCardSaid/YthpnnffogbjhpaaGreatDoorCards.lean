/-
  DERIVED. GIVEN WITH THE SEED: THE CARDS: each row of YthpnnffogbjhpaaGreatDoorRows.lean that lists a variable, with what it lists TIED to the program's text (the seventh form; the later family's looks); each row that meets fmt, with fmt's text TOLD by the authors' own Lean function (tested against real Go, not proved from fmt's source: count such statements apart). THE CARD IS WHAT COUNTS. Prove the row's statement (the work); the ties are given (YthpnnffogbjhpaaGreatDoorTie.lean); close each card by the builder's one call (the guide's Derived/Test/ToyasCard.lean, 'card_holds'). Laid BY PROGRAM, IN A SANDBOX (cutbox-door.mjs). By AI agents, Wed Nov 11 2026. No macro, syntax, notation, axiom, sorry.
-/
import Derived.Test.YthpnnffogbjhpaaGreatDoorRows
import GoSem.ClaimSeven
namespace Go.Proofs.YthpnnffogbjhpaaGreatDoor
namespace Rows

/-- THE TIED CARD OF 'quoratelaw11.AppBytes'. -/
def appBytesCard : Claim7 := { stood := { row := appBytesRow, standIns := [], harness := (true, "62bec3393db626798695ec44a162f8a6d399324f953edaa4c8e00d7a39b10e8c"), looks := true }, kinds := [], alts := [], laidByText := true, laidKinds := [.data, .data, .data, .sentinel, .sentinel, .data], laidTests := true, laidLooks := .later }
def AppBytesCardSaid : Prop := Claim7.holds Tryz.pinned (.plain (OpenSpec.ofChange appBytesSpec)) appBytesCard

/-- THE TIED CARD OF 'quoratelaw11.AppPlays'. -/
def appPlaysCard : Claim7 := { stood := { row := appPlaysRow, standIns := [], harness := (true, "62bec3393db626798695ec44a162f8a6d399324f953edaa4c8e00d7a39b10e8c"), looks := true }, kinds := [], alts := [], laidByText := true, laidKinds := [.data, .data, .data, .sentinel, .sentinel, .data], laidTests := true, laidLooks := .later }
def AppPlaysCardSaid : Prop := Claim7.holds Tryz.pinned (.plain (OpenSpec.ofChange appPlaysSpec)) appPlaysCard

/-- THE TIED CARD OF 'quoratelaw13.WavesRun'. -/
def wavesRunCard : Claim7 := { stood := { row := wavesRunRow, standIns := [], harness := (true, "62bec3393db626798695ec44a162f8a6d399324f953edaa4c8e00d7a39b10e8c"), looks := true }, kinds := [], alts := [], laidByText := true, laidKinds := [.data, .data, .data, .sentinel, .sentinel, .data], laidTests := true, laidLooks := .later }
def WavesRunCardSaid : Prop := Claim7.holds Tryz.pinned (.plain (OpenSpec.ofChange wavesRunSpec)) wavesRunCard

/-- THE SECOND FORM's CARD OF 'quoratelaw11.AppBytes'. -/
def appBytesUptoCard : Claim7 := { stood := { row := appBytesUptoRow, standIns := [], harness := (true, "62bec3393db626798695ec44a162f8a6d399324f953edaa4c8e00d7a39b10e8c"), looks := true }, kinds := [], alts := [], laidByText := true, laidKinds := [.data, .data, .data, .sentinel, .sentinel, .data], laidTests := true, laidLooks := .later }
def AppBytesUptoCardSaid : Prop := Claim7.holds Tryz.pinned (.plain (OpenSpec.upto appBytesSpec)) appBytesUptoCard

/-- THE SECOND FORM's CARD OF 'quoratelaw11.AppPlays'. -/
def appPlaysUptoCard : Claim7 := { stood := { row := appPlaysUptoRow, standIns := [], harness := (true, "62bec3393db626798695ec44a162f8a6d399324f953edaa4c8e00d7a39b10e8c"), looks := true }, kinds := [], alts := [], laidByText := true, laidKinds := [.data, .data, .data, .sentinel, .sentinel, .data], laidTests := true, laidLooks := .later }
def AppPlaysUptoCardSaid : Prop := Claim7.holds Tryz.pinned (.plain (OpenSpec.upto appPlaysSpec)) appPlaysUptoCard

/-- THE SECOND FORM's CARD OF 'quoratelaw13.WavesRun'. -/
def wavesRunUptoCard : Claim7 := { stood := { row := wavesRunUptoRow, standIns := [], harness := (true, "62bec3393db626798695ec44a162f8a6d399324f953edaa4c8e00d7a39b10e8c"), looks := true }, kinds := [], alts := [], laidByText := true, laidKinds := [.data, .data, .data, .sentinel, .sentinel, .data], laidTests := true, laidLooks := .later }
def WavesRunUptoCardSaid : Prop := Claim7.holds Tryz.pinned (.plain (OpenSpec.upto wavesRunSpec)) wavesRunUptoCard
end Rows
end Go.Proofs.YthpnnffogbjhpaaGreatDoor
