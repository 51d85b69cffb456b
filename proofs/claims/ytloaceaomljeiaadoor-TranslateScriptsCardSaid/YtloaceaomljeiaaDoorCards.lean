/-
  DERIVED. GIVEN WITH THE SEED: THE CARDS: each row of YtloaceaomljeiaaDoorRows.lean that lists a variable, with what it lists TIED to the program's text (the seventh form; the later family's looks); each row that meets fmt, with fmt's text TOLD by the authors' own Lean function (tested against real Go, not proved from fmt's source: count such statements apart). THE CARD IS WHAT COUNTS. Prove the row's statement (the work); the ties are given (YtloaceaomljeiaaDoorTie.lean); close each card by the builder's one call (the guide's Derived/Test/ToyasCard.lean, 'card_holds'). Laid BY PROGRAM, IN A SANDBOX (cutbox-door.mjs). By AI agents, Wed Nov 11 2026. No macro, syntax, notation, axiom, sorry.
-/
import Derived.Test.YtloaceaomljeiaaDoorRows
import GoSem.ClaimSeven
namespace Go.Proofs.YtloaceaomljeiaaDoor
namespace Rows

/-- THE TIED CARD OF 'quoratelaw25.TranslateLogs'. -/
def translateLogsCard : Claim7 := { stood := { row := translateLogsRow, standIns := [], harness := (true, "1b27fff4af1c978517aaebd51b35dfd5de66bf95be1a349ce94aa43951c45175"), looks := false }, kinds := [], alts := [], laidByText := true, laidKinds := [.data], laidTests := true, laidLooks := .later }
def TranslateLogsCardSaid : Prop := Claim7.holds Tryd.pinned (.plain (OpenSpec.ofChange translateLogsSpec)) translateLogsCard

/-- THE TIED CARD OF 'quoratelaw25.TranslateScripts'. -/
def translateScriptsCard : Claim7 := { stood := { row := translateScriptsRow, standIns := [], harness := (true, "1b27fff4af1c978517aaebd51b35dfd5de66bf95be1a349ce94aa43951c45175"), looks := false }, kinds := [], alts := [], laidByText := true, laidKinds := [.data], laidTests := true, laidLooks := .later }
def TranslateScriptsCardSaid : Prop := Claim7.holds Tryd.pinned (.plain (OpenSpec.ofChange translateScriptsSpec)) translateScriptsCard

/-- THE SECOND FORM's CARD OF 'quoratelaw25.TranslateLogs'. -/
def translateLogsUptoCard : Claim7 := { stood := { row := translateLogsUptoRow, standIns := [], harness := (true, "1b27fff4af1c978517aaebd51b35dfd5de66bf95be1a349ce94aa43951c45175"), looks := false }, kinds := [], alts := [], laidByText := true, laidKinds := [.data], laidTests := true, laidLooks := .later }
def TranslateLogsUptoCardSaid : Prop := Claim7.holds Tryd.pinned (.plain (OpenSpec.upto translateLogsSpec)) translateLogsUptoCard

/-- THE SECOND FORM's CARD OF 'quoratelaw25.TranslateScripts'. -/
def translateScriptsUptoCard : Claim7 := { stood := { row := translateScriptsUptoRow, standIns := [], harness := (true, "1b27fff4af1c978517aaebd51b35dfd5de66bf95be1a349ce94aa43951c45175"), looks := false }, kinds := [], alts := [], laidByText := true, laidKinds := [.data], laidTests := true, laidLooks := .later }
def TranslateScriptsUptoCardSaid : Prop := Claim7.holds Tryd.pinned (.plain (OpenSpec.upto translateScriptsSpec)) translateScriptsUptoCard
end Rows
end Go.Proofs.YtloaceaomljeiaaDoor
