/-
  DERIVED. GIVEN WITH THE SEED: THE CARDS: each row of YtmgdhloehkdffaaDoorRows.lean that lists a variable, with what it lists TIED to the program's text (the seventh form; the later family's looks); each row that meets fmt, with fmt's text TOLD by the authors' own Lean function (tested against real Go, not proved from fmt's source: count such statements apart). THE CARD IS WHAT COUNTS. Prove the row's statement (the work); the ties are given (YtmgdhloehkdffaaDoorTie.lean); close each card by the builder's one call (the guide's Derived/Test/ToyasCard.lean, 'card_holds'). Laid BY PROGRAM, IN A SANDBOX (cutbox-door.mjs). By AI agents, Wed Nov 11 2026. No macro, syntax, notation, axiom, sorry.
-/
import Derived.Test.YtmgdhloehkdffaaDoorRows
import GoSem.ClaimSeven
namespace Go.Proofs.YtmgdhloehkdffaaDoor
namespace Rows

/-- THE TIED CARD OF 'quoratelaw03.FrameLong'. -/
def frameLongCard : Claim7 := { stood := { row := frameLongRow, standIns := [], harness := (true, "e107c3e3420baea8068f9d4f9871ce53a702e917284f358f066d31b52c25806c"), looks := false }, kinds := [], alts := [], laidByText := true, laidKinds := [.data], laidTests := true, laidLooks := .later }
def FrameLongCardSaid : Prop := Claim7.holds Tryd.pinned (.plain (OpenSpec.ofChange frameLongSpec)) frameLongCard

/-- THE TIED CARD OF 'quoratelaw03.FrameTells'. -/
def frameTellsCard : Claim7 := { stood := { row := frameTellsRow, standIns := [], harness := (true, "e107c3e3420baea8068f9d4f9871ce53a702e917284f358f066d31b52c25806c"), looks := false }, kinds := [], alts := [], laidByText := true, laidKinds := [.data], laidTests := true, laidLooks := .later }
def FrameTellsCardSaid : Prop := Claim7.holds Tryd.pinned (.plain (OpenSpec.ofChange frameTellsSpec)) frameTellsCard

/-- THE TIED CARD OF 'quoratelaw03.FrameRows'. -/
def frameRowsCard : Claim7 := { stood := { row := frameRowsRow, standIns := [], harness := (true, "e107c3e3420baea8068f9d4f9871ce53a702e917284f358f066d31b52c25806c"), looks := false }, kinds := [], alts := [], laidByText := true, laidKinds := [.data], laidTests := true, laidLooks := .later }
def FrameRowsCardSaid : Prop := Claim7.holds Tryd.pinned (.plain (OpenSpec.ofChange frameRowsSpec)) frameRowsCard

/-- THE TIED CARD OF 'quoratelaw06.RecordKeeps'. -/
def recordKeepsCard : Claim7 := { stood := { row := recordKeepsRow, standIns := [], harness := (true, "e107c3e3420baea8068f9d4f9871ce53a702e917284f358f066d31b52c25806c"), looks := false }, kinds := [], alts := [], laidByText := true, laidKinds := [.data], laidTests := true, laidLooks := .later }
def RecordKeepsCardSaid : Prop := Claim7.holds Tryd.pinned (.plain (OpenSpec.ofChange recordKeepsSpec)) recordKeepsCard

/-- THE TIED CARD OF 'quoratelaw06.RecordOpens'. -/
def recordOpensCard : Claim7 := { stood := { row := recordOpensRow, standIns := [], harness := (true, "e107c3e3420baea8068f9d4f9871ce53a702e917284f358f066d31b52c25806c"), looks := false }, kinds := [], alts := [], laidByText := true, laidKinds := [.data], laidTests := true, laidLooks := .later }
def RecordOpensCardSaid : Prop := Claim7.holds Tryd.pinned (.plain (OpenSpec.ofChange recordOpensSpec)) recordOpensCard

/-- THE TIED CARD OF 'quoratelaw06.RecordAppends'. -/
def recordAppendsCard : Claim7 := { stood := { row := recordAppendsRow, standIns := [], harness := (true, "e107c3e3420baea8068f9d4f9871ce53a702e917284f358f066d31b52c25806c"), looks := false }, kinds := [], alts := [], laidByText := true, laidKinds := [.data], laidTests := true, laidLooks := .later }
def RecordAppendsCardSaid : Prop := Claim7.holds Tryd.pinned (.plain (OpenSpec.ofChange recordAppendsSpec)) recordAppendsCard

/-- THE SECOND FORM's CARD OF 'quoratelaw03.FrameLong'. -/
def frameLongUptoCard : Claim7 := { stood := { row := frameLongUptoRow, standIns := [], harness := (true, "e107c3e3420baea8068f9d4f9871ce53a702e917284f358f066d31b52c25806c"), looks := false }, kinds := [], alts := [], laidByText := true, laidKinds := [.data], laidTests := true, laidLooks := .later }
def FrameLongUptoCardSaid : Prop := Claim7.holds Tryd.pinned (.plain (OpenSpec.upto frameLongSpec)) frameLongUptoCard

/-- THE SECOND FORM's CARD OF 'quoratelaw03.FrameTells'. -/
def frameTellsUptoCard : Claim7 := { stood := { row := frameTellsUptoRow, standIns := [], harness := (true, "e107c3e3420baea8068f9d4f9871ce53a702e917284f358f066d31b52c25806c"), looks := false }, kinds := [], alts := [], laidByText := true, laidKinds := [.data], laidTests := true, laidLooks := .later }
def FrameTellsUptoCardSaid : Prop := Claim7.holds Tryd.pinned (.plain (OpenSpec.upto frameTellsSpec)) frameTellsUptoCard

/-- THE SECOND FORM's CARD OF 'quoratelaw03.FrameRows'. -/
def frameRowsUptoCard : Claim7 := { stood := { row := frameRowsUptoRow, standIns := [], harness := (true, "e107c3e3420baea8068f9d4f9871ce53a702e917284f358f066d31b52c25806c"), looks := false }, kinds := [], alts := [], laidByText := true, laidKinds := [.data], laidTests := true, laidLooks := .later }
def FrameRowsUptoCardSaid : Prop := Claim7.holds Tryd.pinned (.plain (OpenSpec.upto frameRowsSpec)) frameRowsUptoCard

/-- THE SECOND FORM's CARD OF 'quoratelaw06.RecordKeeps'. -/
def recordKeepsUptoCard : Claim7 := { stood := { row := recordKeepsUptoRow, standIns := [], harness := (true, "e107c3e3420baea8068f9d4f9871ce53a702e917284f358f066d31b52c25806c"), looks := false }, kinds := [], alts := [], laidByText := true, laidKinds := [.data], laidTests := true, laidLooks := .later }
def RecordKeepsUptoCardSaid : Prop := Claim7.holds Tryd.pinned (.plain (OpenSpec.upto recordKeepsSpec)) recordKeepsUptoCard

/-- THE SECOND FORM's CARD OF 'quoratelaw06.RecordOpens'. -/
def recordOpensUptoCard : Claim7 := { stood := { row := recordOpensUptoRow, standIns := [], harness := (true, "e107c3e3420baea8068f9d4f9871ce53a702e917284f358f066d31b52c25806c"), looks := false }, kinds := [], alts := [], laidByText := true, laidKinds := [.data], laidTests := true, laidLooks := .later }
def RecordOpensUptoCardSaid : Prop := Claim7.holds Tryd.pinned (.plain (OpenSpec.upto recordOpensSpec)) recordOpensUptoCard

/-- THE SECOND FORM's CARD OF 'quoratelaw06.RecordAppends'. -/
def recordAppendsUptoCard : Claim7 := { stood := { row := recordAppendsUptoRow, standIns := [], harness := (true, "e107c3e3420baea8068f9d4f9871ce53a702e917284f358f066d31b52c25806c"), looks := false }, kinds := [], alts := [], laidByText := true, laidKinds := [.data], laidTests := true, laidLooks := .later }
def RecordAppendsUptoCardSaid : Prop := Claim7.holds Tryd.pinned (.plain (OpenSpec.upto recordAppendsSpec)) recordAppendsUptoCard
end Rows
end Go.Proofs.YtmgdhloehkdffaaDoor
