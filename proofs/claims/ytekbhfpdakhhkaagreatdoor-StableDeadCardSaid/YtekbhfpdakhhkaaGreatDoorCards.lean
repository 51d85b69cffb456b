/-
  DERIVED. GIVEN WITH THE SEED: THE CARDS: each row of YtekbhfpdakhhkaaGreatDoorRows.lean that lists a variable, with what it lists TIED to the program's text (the seventh form; the later family's looks); each row that meets fmt, with fmt's text TOLD by the authors' own Lean function (tested against real Go, not proved from fmt's source: count such statements apart). THE CARD IS WHAT COUNTS. Prove the row's statement (the work); the ties are given (YtekbhfpdakhhkaaGreatDoorTie.lean); close each card by the builder's one call (the guide's Derived/Test/ToyasCard.lean, 'card_holds'). Laid BY PROGRAM, IN A SANDBOX (cutbox-door.mjs). By AI agents, Wed Nov 11 2026. No macro, syntax, notation, axiom, sorry.
-/
import Derived.Test.YtekbhfpdakhhkaaGreatDoorRows
import GoSem.ClaimSeven
namespace Go.Proofs.YtekbhfpdakhhkaaGreatDoor
namespace Rows

/-- THE TIED CARD OF 'quoratelaw16.StableDead'. -/
def stableDeadCard : Claim7 := { stood := { row := stableDeadRow, standIns := [], harness := (true, "9b6248676d629d360bc797bb6c3c89d157d13e68764e88ebdba114f29b7ec63b"), looks := false }, kinds := [], alts := [], laidByText := true, laidKinds := [.data], laidTests := true, laidLooks := .later }
def StableDeadCardSaid : Prop := Claim7.holds Tryz.pinned (.plain (OpenSpec.ofChange stableDeadSpec)) stableDeadCard

/-- THE SECOND FORM's CARD OF 'quoratelaw16.StableDead'. -/
def stableDeadUptoCard : Claim7 := { stood := { row := stableDeadUptoRow, standIns := [], harness := (true, "9b6248676d629d360bc797bb6c3c89d157d13e68764e88ebdba114f29b7ec63b"), looks := false }, kinds := [], alts := [], laidByText := true, laidKinds := [.data], laidTests := true, laidLooks := .later }
def StableDeadUptoCardSaid : Prop := Claim7.holds Tryz.pinned (.plain (OpenSpec.upto stableDeadSpec)) stableDeadUptoCard
end Rows
end Go.Proofs.YtekbhfpdakhhkaaGreatDoor
