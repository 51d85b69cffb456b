/-
  NARROWER THAN 'FOR EVERY INPUT', by the rows' own cells (each row's printed sentence says how): TranslateLogs: laid · TranslateScripts: laid.
  DERIVED. THE GIVEN ROWS OF THIS SEAT. 2 by the template 'for every input the law returns true; each argument reads behind the call as it read before'; 0 by the template 'total and deterministic' (their statements: YtloaceaomljeiaaDoorTotals.lean).
  GIVEN WITH THE SEED: the statements are not yours to turn. If you find one false, say at which input.
  Laid BY PROGRAM, IN A SANDBOX (cutbox-rows.mjs): the forced cells as the released guide's own fill.sh prints them over the translation 1a51d9132da9217d… (all of the seat's roots in one cut). By AI agents, Wed Nov 11 2026. No macro, syntax, notation, axiom, sorry.
-/
import Derived.Test.YtloaceaomljeiaaDoorChecked
import GoSem.Claim
import GoSem.ClaimJoined
import GoSem.ClaimMapViews
import Derived.JoinedTies
import Derived.KernelRfl
namespace Go.Proofs.YtloaceaomljeiaaDoor
/- THE CELL 'sum', in the pinned program and in every row, IS THE sha256 OF THE DUMP (.gsa) THAT YtloaceaomljeiaaDoorProg.lean LOADS. Nothing in Lean hashes anything: it is a label: what it is worth is what the hold of that sum in a sandbox is worth. -/
noncomputable def Tryd.pinned : Pinned := { name := "ytloaceaomljeiaadoor", sum := "1a51d9132da9217df40ea4cf16148ad3c956fcdfe3b0aef18e42d8d7f3faaa18", checked := Tryd.checked }
namespace Rows
def none {H : Type} : Left H := { results := [], args := [] }

/- WHAT THE LISTED PACKAGE-LEVEL VARIABLES READ AS WHEN THE CALL BEGINS. Each datum BY PROGRAM (the guide's laid-datum.mjs) off the statement by which the dump's own 'gosem.cut.vars' lays the variable. In a bare row this is a premise. The card (YtloaceaomljeiaaDoorCards.lean) ties it to the program's text. -/
def laid_quorate_cmd_counts {H : Type} : DataW H := .agg [.agg [.lit (.int .i64 0), .lit (.int .i64 0)], .agg [.lit (.int .i64 1), .lit (.int .i64 1)], .agg [.lit (.int .i64 1), .lit (.int .i64 1)], .agg [.lit (.int .i64 1), .lit (.int .i64 1)], .agg [.lit (.int .i64 1), .lit (.int .i64 1)], .agg [.lit (.int .i64 1), .lit (.int .i64 1)], .agg [.lit (.int .i64 2), .lit (.int .i64 2)], .agg [.lit (.int .i64 1), .lit (.int .i64 16)], .agg [.lit (.int .i64 1), .lit (.int .i64 16)]]

/-- 'quoratelaw25.TranslateLogs': WHATEVER THE INPUT: true; the input reads as it did. -/
def translateLogsSpec : ChangeSpec := { name := "translateLogs", fn := fun _ => fun
  | [d] => { results := [.lit (.bool true)], args := [d] }
  | _ => none }
def translateLogsRow : OpenClaim := { program := "ytloaceaomljeiaadoor", sum := "1a51d9132da9217df40ea4cf16148ad3c956fcdfe3b0aef18e42d8d7f3faaa18", func := "quorate/quoratelaw25.TranslateLogs", spec := "translateLogs", unfollowed := true, recurses := true, named := ["quorate/cmd.counts"], apart := false, laid := [("quorate/cmd.counts", laid_quorate_cmd_counts)] }
def TranslateLogsSaid : Prop := translateLogsRow.holds Tryd.pinned (OpenSpec.ofChange translateLogsSpec)

/-- ITS FALSE NEIGHBOUR: 'it returns false'. Refute it at one input. -/
def translateLogsWrong : ChangeSpec := { name := "translateLogs", fn := fun _ => fun
  | [d] => { results := [.lit (.bool false)], args := [d] }
  | _ => none }
def TranslateLogsWrongFalsely : Prop := translateLogsRow.holds Tryd.pinned (OpenSpec.ofChange translateLogsWrong)

/-- 'quoratelaw25.TranslateScripts': WHATEVER THE INPUT: true; the input reads as it did. -/
def translateScriptsSpec : ChangeSpec := { name := "translateScripts", fn := fun _ => fun
  | [d1, d2, d3] => { results := [.lit (.bool true)], args := [d1, d2, d3] }
  | _ => none }
def translateScriptsRow : OpenClaim := { program := "ytloaceaomljeiaadoor", sum := "1a51d9132da9217df40ea4cf16148ad3c956fcdfe3b0aef18e42d8d7f3faaa18", func := "quorate/quoratelaw25.TranslateScripts", spec := "translateScripts", unfollowed := true, recurses := true, named := ["quorate/cmd.counts"], apart := false, laid := [("quorate/cmd.counts", laid_quorate_cmd_counts)] }
def TranslateScriptsSaid : Prop := translateScriptsRow.holds Tryd.pinned (OpenSpec.ofChange translateScriptsSpec)

/-- ITS FALSE NEIGHBOUR: 'it returns false'. Refute it at one input. -/
def translateScriptsWrong : ChangeSpec := { name := "translateScripts", fn := fun _ => fun
  | [d1, d2, d3] => { results := [.lit (.bool false)], args := [d1, d2, d3] }
  | _ => none }
def TranslateScriptsWrongFalsely : Prop := translateScriptsRow.holds Tryd.pinned (OpenSpec.ofChange translateScriptsWrong)

/- THE SECOND FORM. 'bulk': how many values and letters a reading holds, each counted each time it is reached (what is shared counts as often as it is met; a slice's spare places count too). A statement '..UptoSaid' is the law's where the arguments, and the package variables that the reading takes, are together of bulk at most 1048576: NARROWER than '..Said'. Prove '..Said' where nothing that the law and all that it calls make is longer than what came in: it says more and counts as full. Else prove '..UptoSaid'. A law counts once. -/
mutual
def uptoBulk {H : Type} : DataW H → Nat
  | .lit (.string bytes) => bytes.length + 1
  | .lit _ => 1
  | .nil => 1
  | .ptr d => uptoBulk d + 1
  | .slice elems spare => uptoBulkAll elems + uptoBulkAll spare + 1
  | .agg parts => uptoBulkAll parts + 1
  | .iface _ d => uptoBulk d + 1
  | .map entries => uptoBulkEntries entries + 1
  | .held _ => 1
def uptoBulkAll {H : Type} : List (DataW H) → Nat
  | [] => 0
  | d :: r => uptoBulk d + uptoBulkAll r
def uptoBulkEntries {H : Type} : List (Lit × DataW H) → Nat
  | [] => 0
  | x :: r => uptoBulkEntry x + uptoBulkEntries r
def uptoBulkEntry {H : Type} : Lit × DataW H → Nat
  | (.string bytes, d) => bytes.length + uptoBulk d + 1
  | (_, d) => uptoBulk d + 1
 end
def uptoSmall : (H : Type) → List (DataW H) → Bool := fun _ ds => decide (uptoBulkAll ds ≤ 1048576)
def OpenSpec.upto (s : _root_.Go.ChangeSpec) : _root_.Go.OpenSpec := { _root_.Go.OpenSpec.ofChange s with cond := some uptoSmall }

/-- 'quoratelaw25.TranslateLogs', WHERE WHAT IT READS IS OF BULK AT MOST 1048576: true; the input reads as it did. -/
def translateLogsUptoRow : OpenClaim := { program := "ytloaceaomljeiaadoor", sum := "1a51d9132da9217df40ea4cf16148ad3c956fcdfe3b0aef18e42d8d7f3faaa18", func := "quorate/quoratelaw25.TranslateLogs", spec := "translateLogs", unfollowed := true, recurses := true, named := ["quorate/cmd.counts"], apart := false, laid := [("quorate/cmd.counts", laid_quorate_cmd_counts)], narrowed := true }
def TranslateLogsUptoSaid : Prop := translateLogsUptoRow.holds Tryd.pinned (OpenSpec.upto translateLogsSpec)

/-- 'quoratelaw25.TranslateScripts', WHERE WHAT IT READS IS OF BULK AT MOST 1048576: true; the input reads as it did. -/
def translateScriptsUptoRow : OpenClaim := { program := "ytloaceaomljeiaadoor", sum := "1a51d9132da9217df40ea4cf16148ad3c956fcdfe3b0aef18e42d8d7f3faaa18", func := "quorate/quoratelaw25.TranslateScripts", spec := "translateScripts", unfollowed := true, recurses := true, named := ["quorate/cmd.counts"], apart := false, laid := [("quorate/cmd.counts", laid_quorate_cmd_counts)], narrowed := true }
def TranslateScriptsUptoSaid : Prop := translateScriptsUptoRow.holds Tryd.pinned (OpenSpec.upto translateScriptsSpec)

end Rows
end Go.Proofs.YtloaceaomljeiaaDoor
