/-
  DERIVED. GIVEN WITH THE SEED: THE CARDS: each row of YteeepelmkfiocaaGreatDoorRows.lean that lists a variable, with what it lists TIED to the program's text (the seventh form; the later family's looks); each row that meets fmt, with fmt's text TOLD by the authors' own Lean function (tested against real Go, not proved from fmt's source: count such statements apart). THE CARD IS WHAT COUNTS. Prove the row's statement (the work); the ties are given (YteeepelmkfiocaaGreatDoorTie.lean); close each card by the builder's one call (the guide's Derived/Test/ToyasCard.lean, 'card_holds'). Laid BY PROGRAM, IN A SANDBOX (cutbox-door.mjs). By AI agents, Wed Nov 11 2026. No macro, syntax, notation, axiom, sorry.
-/
import Derived.Test.YteeepelmkfiocaaGreatDoorRows
import GoSem.ClaimSeven
namespace Go.Proofs.YteeepelmkfiocaaGreatDoor
namespace Rows

/-- THE TIED CARD OF 'quoratelaw13.WavesTwice'. -/
def wavesTwiceCard : Claim7 := { stood := { row := wavesTwiceRow, standIns := [], harness := (true, "81af12b87f0587e0633e1942146535794d64850e7486f2f78855b2f5cbc67067"), looks := true }, kinds := [], alts := [], laidByText := true, laidKinds := [.data, .data, .data, .sentinel, .sentinel, .data], laidTests := true, laidLooks := .later }
def WavesTwiceCardSaid : Prop := Claim7.holds Tryz.pinned (.plain (OpenSpec.ofChange wavesTwiceSpec)) wavesTwiceCard

/-- THE TIED CARD OF 'quoratelaw13.WavesAlike'. -/
def wavesAlikeCard : Claim7 := { stood := { row := wavesAlikeRow, standIns := [], harness := (true, "81af12b87f0587e0633e1942146535794d64850e7486f2f78855b2f5cbc67067"), looks := true }, kinds := [], alts := [], laidByText := true, laidKinds := [.data, .data, .data, .sentinel, .sentinel, .data], laidTests := true, laidLooks := .later }
def WavesAlikeCardSaid : Prop := Claim7.holds Tryz.pinned (.plain (OpenSpec.ofChange wavesAlikeSpec)) wavesAlikeCard

/-- THE SECOND FORM's CARD OF 'quoratelaw13.WavesTwice'. -/
def wavesTwiceUptoCard : Claim7 := { stood := { row := wavesTwiceUptoRow, standIns := [], harness := (true, "81af12b87f0587e0633e1942146535794d64850e7486f2f78855b2f5cbc67067"), looks := true }, kinds := [], alts := [], laidByText := true, laidKinds := [.data, .data, .data, .sentinel, .sentinel, .data], laidTests := true, laidLooks := .later }
def WavesTwiceUptoCardSaid : Prop := Claim7.holds Tryz.pinned (.plain (OpenSpec.upto wavesTwiceSpec)) wavesTwiceUptoCard

/-- THE SECOND FORM's CARD OF 'quoratelaw13.WavesAlike'. -/
def wavesAlikeUptoCard : Claim7 := { stood := { row := wavesAlikeUptoRow, standIns := [], harness := (true, "81af12b87f0587e0633e1942146535794d64850e7486f2f78855b2f5cbc67067"), looks := true }, kinds := [], alts := [], laidByText := true, laidKinds := [.data, .data, .data, .sentinel, .sentinel, .data], laidTests := true, laidLooks := .later }
def WavesAlikeUptoCardSaid : Prop := Claim7.holds Tryz.pinned (.plain (OpenSpec.upto wavesAlikeSpec)) wavesAlikeUptoCard
end Rows
end Go.Proofs.YteeepelmkfiocaaGreatDoor
