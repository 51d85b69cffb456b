/-
  DERIVED. GIVEN WITH THE SEED: THE CARDS: each row of YtcjflnnjieolfaaGreatDoorRows.lean that lists a variable, with what it lists TIED to the program's text (the seventh form; the later family's looks); each row that meets fmt, with fmt's text TOLD by the authors' own Lean function (tested against real Go, not proved from fmt's source: count such statements apart). THE CARD IS WHAT COUNTS. Prove the row's statement (the work); the ties are given (YtcjflnnjieolfaaGreatDoorTie.lean); close each card by the builder's one call (the guide's Derived/Test/ToyasCard.lean, 'card_holds'). Laid BY PROGRAM, IN A SANDBOX (cutbox-door.mjs). By AI agents, Wed Nov 11 2026. No macro, syntax, notation, axiom, sorry.
-/
import Derived.Test.YtcjflnnjieolfaaGreatDoorRows
import GoSem.ClaimSeven
namespace Go.Proofs.YtcjflnnjieolfaaGreatDoor
namespace Rows

/-- THE TIED CARD OF 'quoratelaw09.KvPlays'. -/
def kvPlaysCard : Claim7 := { stood := { row := kvPlaysRow, standIns := [], harness := (true, "0e4afe76b8fe713d3523e2fc296e50c5380def5bc0801095b962184f5281307e"), looks := true }, kinds := [], alts := [], laidByText := true, laidKinds := [.data, .data, .data, .sentinel, .sentinel, .data], laidTests := true, laidLooks := .later }
def KvPlaysCardSaid : Prop := Claim7.holds Tryz.pinned (.plain (OpenSpec.ofChange kvPlaysSpec)) kvPlaysCard

/-- THE TIED CARD OF 'quoratelaw13.WavesTwice'. -/
def wavesTwiceCard : Claim7 := { stood := { row := wavesTwiceRow, standIns := [], harness := (true, "0e4afe76b8fe713d3523e2fc296e50c5380def5bc0801095b962184f5281307e"), looks := true }, kinds := [], alts := [], laidByText := true, laidKinds := [.data, .data, .data, .sentinel, .sentinel, .data], laidTests := true, laidLooks := .later }
def WavesTwiceCardSaid : Prop := Claim7.holds Tryz.pinned (.plain (OpenSpec.ofChange wavesTwiceSpec)) wavesTwiceCard

/-- THE TIED CARD OF 'quoratelaw13.WavesAlike'. -/
def wavesAlikeCard : Claim7 := { stood := { row := wavesAlikeRow, standIns := [], harness := (true, "0e4afe76b8fe713d3523e2fc296e50c5380def5bc0801095b962184f5281307e"), looks := true }, kinds := [], alts := [], laidByText := true, laidKinds := [.data, .data, .data, .sentinel, .sentinel, .data], laidTests := true, laidLooks := .later }
def WavesAlikeCardSaid : Prop := Claim7.holds Tryz.pinned (.plain (OpenSpec.ofChange wavesAlikeSpec)) wavesAlikeCard

/-- THE TIED CARD OF 'quoratelaw11.AppBytes'. -/
def appBytesCard : Claim7 := { stood := { row := appBytesRow, standIns := [], harness := (true, "0e4afe76b8fe713d3523e2fc296e50c5380def5bc0801095b962184f5281307e"), looks := true }, kinds := [], alts := [], laidByText := true, laidKinds := [.data, .data, .data, .sentinel, .sentinel, .data], laidTests := true, laidLooks := .later }
def AppBytesCardSaid : Prop := Claim7.holds Tryz.pinned (.plain (OpenSpec.ofChange appBytesSpec)) appBytesCard

/-- THE TIED CARD OF 'quoratelaw11.AppPlays'. -/
def appPlaysCard : Claim7 := { stood := { row := appPlaysRow, standIns := [], harness := (true, "0e4afe76b8fe713d3523e2fc296e50c5380def5bc0801095b962184f5281307e"), looks := true }, kinds := [], alts := [], laidByText := true, laidKinds := [.data, .data, .data, .sentinel, .sentinel, .data], laidTests := true, laidLooks := .later }
def AppPlaysCardSaid : Prop := Claim7.holds Tryz.pinned (.plain (OpenSpec.ofChange appPlaysSpec)) appPlaysCard

/-- THE TIED CARD OF 'quoratelaw13.WavesRun'. -/
def wavesRunCard : Claim7 := { stood := { row := wavesRunRow, standIns := [], harness := (true, "0e4afe76b8fe713d3523e2fc296e50c5380def5bc0801095b962184f5281307e"), looks := true }, kinds := [], alts := [], laidByText := true, laidKinds := [.data, .data, .data, .sentinel, .sentinel, .data], laidTests := true, laidLooks := .later }
def WavesRunCardSaid : Prop := Claim7.holds Tryz.pinned (.plain (OpenSpec.ofChange wavesRunSpec)) wavesRunCard

/-- THE SECOND FORM's CARD OF 'quoratelaw09.KvPlays'. -/
def kvPlaysUptoCard : Claim7 := { stood := { row := kvPlaysUptoRow, standIns := [], harness := (true, "0e4afe76b8fe713d3523e2fc296e50c5380def5bc0801095b962184f5281307e"), looks := true }, kinds := [], alts := [], laidByText := true, laidKinds := [.data, .data, .data, .sentinel, .sentinel, .data], laidTests := true, laidLooks := .later }
def KvPlaysUptoCardSaid : Prop := Claim7.holds Tryz.pinned (.plain (OpenSpec.upto kvPlaysSpec)) kvPlaysUptoCard

/-- THE SECOND FORM's CARD OF 'quoratelaw13.WavesTwice'. -/
def wavesTwiceUptoCard : Claim7 := { stood := { row := wavesTwiceUptoRow, standIns := [], harness := (true, "0e4afe76b8fe713d3523e2fc296e50c5380def5bc0801095b962184f5281307e"), looks := true }, kinds := [], alts := [], laidByText := true, laidKinds := [.data, .data, .data, .sentinel, .sentinel, .data], laidTests := true, laidLooks := .later }
def WavesTwiceUptoCardSaid : Prop := Claim7.holds Tryz.pinned (.plain (OpenSpec.upto wavesTwiceSpec)) wavesTwiceUptoCard

/-- THE SECOND FORM's CARD OF 'quoratelaw13.WavesAlike'. -/
def wavesAlikeUptoCard : Claim7 := { stood := { row := wavesAlikeUptoRow, standIns := [], harness := (true, "0e4afe76b8fe713d3523e2fc296e50c5380def5bc0801095b962184f5281307e"), looks := true }, kinds := [], alts := [], laidByText := true, laidKinds := [.data, .data, .data, .sentinel, .sentinel, .data], laidTests := true, laidLooks := .later }
def WavesAlikeUptoCardSaid : Prop := Claim7.holds Tryz.pinned (.plain (OpenSpec.upto wavesAlikeSpec)) wavesAlikeUptoCard

/-- THE SECOND FORM's CARD OF 'quoratelaw11.AppBytes'. -/
def appBytesUptoCard : Claim7 := { stood := { row := appBytesUptoRow, standIns := [], harness := (true, "0e4afe76b8fe713d3523e2fc296e50c5380def5bc0801095b962184f5281307e"), looks := true }, kinds := [], alts := [], laidByText := true, laidKinds := [.data, .data, .data, .sentinel, .sentinel, .data], laidTests := true, laidLooks := .later }
def AppBytesUptoCardSaid : Prop := Claim7.holds Tryz.pinned (.plain (OpenSpec.upto appBytesSpec)) appBytesUptoCard

/-- THE SECOND FORM's CARD OF 'quoratelaw11.AppPlays'. -/
def appPlaysUptoCard : Claim7 := { stood := { row := appPlaysUptoRow, standIns := [], harness := (true, "0e4afe76b8fe713d3523e2fc296e50c5380def5bc0801095b962184f5281307e"), looks := true }, kinds := [], alts := [], laidByText := true, laidKinds := [.data, .data, .data, .sentinel, .sentinel, .data], laidTests := true, laidLooks := .later }
def AppPlaysUptoCardSaid : Prop := Claim7.holds Tryz.pinned (.plain (OpenSpec.upto appPlaysSpec)) appPlaysUptoCard

/-- THE SECOND FORM's CARD OF 'quoratelaw13.WavesRun'. -/
def wavesRunUptoCard : Claim7 := { stood := { row := wavesRunUptoRow, standIns := [], harness := (true, "0e4afe76b8fe713d3523e2fc296e50c5380def5bc0801095b962184f5281307e"), looks := true }, kinds := [], alts := [], laidByText := true, laidKinds := [.data, .data, .data, .sentinel, .sentinel, .data], laidTests := true, laidLooks := .later }
def WavesRunUptoCardSaid : Prop := Claim7.holds Tryz.pinned (.plain (OpenSpec.upto wavesRunSpec)) wavesRunUptoCard
end Rows
end Go.Proofs.YtcjflnnjieolfaaGreatDoor
