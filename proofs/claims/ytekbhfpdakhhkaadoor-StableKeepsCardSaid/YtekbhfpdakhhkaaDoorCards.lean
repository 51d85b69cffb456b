/-
  DERIVED. GIVEN WITH THE SEED: THE CARDS: each row of YtekbhfpdakhhkaaDoorRows.lean that lists a variable, with what it lists TIED to the program's text (the seventh form; the later family's looks); each row that meets fmt, with fmt's text TOLD by the authors' own Lean function (tested against real Go, not proved from fmt's source: count such statements apart). THE CARD IS WHAT COUNTS. Prove the row's statement (the work); the ties are given (YtekbhfpdakhhkaaDoorTie.lean); close each card by the builder's one call (the guide's Derived/Test/ToyasCard.lean, 'card_holds'). Laid BY PROGRAM, IN A SANDBOX (cutbox-door.mjs). By AI agents, Wed Nov 11 2026. No macro, syntax, notation, axiom, sorry.
-/
import Derived.Test.YtekbhfpdakhhkaaDoorRows
import GoSem.ClaimSeven
namespace Go.Proofs.YtekbhfpdakhhkaaDoor
namespace Rows

/-- THE TIED CARD OF 'quoratelaw16.StableKeeps'. -/
def stableKeepsCard : Claim7 := { stood := { row := stableKeepsRow, standIns := [], harness := (true, "d762315c62e8c63d169eda41358b2a1763c584aac3081a16fb1e026ba3c27f1a"), looks := false }, kinds := [], alts := [], laidByText := true, laidKinds := [.data], laidTests := true, laidLooks := .later }
def StableKeepsCardSaid : Prop := Claim7.holds Tryd.pinned (.plain (OpenSpec.ofChange stableKeepsSpec)) stableKeepsCard

/-- THE TIED CARD OF 'quoratelaw16.StableRises'. -/
def stableRisesCard : Claim7 := { stood := { row := stableRisesRow, standIns := [], harness := (true, "d762315c62e8c63d169eda41358b2a1763c584aac3081a16fb1e026ba3c27f1a"), looks := false }, kinds := [], alts := [], laidByText := true, laidKinds := [.data], laidTests := true, laidLooks := .later }
def StableRisesCardSaid : Prop := Claim7.holds Tryd.pinned (.plain (OpenSpec.ofChange stableRisesSpec)) stableRisesCard

/-- THE TIED CARD OF 'quoratelaw16.StableOwn'. -/
def stableOwnCard : Claim7 := { stood := { row := stableOwnRow, standIns := [], harness := (true, "d762315c62e8c63d169eda41358b2a1763c584aac3081a16fb1e026ba3c27f1a"), looks := false }, kinds := [], alts := [], laidByText := true, laidKinds := [.data], laidTests := true, laidLooks := .later }
def StableOwnCardSaid : Prop := Claim7.holds Tryd.pinned (.plain (OpenSpec.ofChange stableOwnSpec)) stableOwnCard

/-- THE SECOND FORM's CARD OF 'quoratelaw16.StableKeeps'. -/
def stableKeepsUptoCard : Claim7 := { stood := { row := stableKeepsUptoRow, standIns := [], harness := (true, "d762315c62e8c63d169eda41358b2a1763c584aac3081a16fb1e026ba3c27f1a"), looks := false }, kinds := [], alts := [], laidByText := true, laidKinds := [.data], laidTests := true, laidLooks := .later }
def StableKeepsUptoCardSaid : Prop := Claim7.holds Tryd.pinned (.plain (OpenSpec.upto stableKeepsSpec)) stableKeepsUptoCard

/-- THE SECOND FORM's CARD OF 'quoratelaw16.StableRises'. -/
def stableRisesUptoCard : Claim7 := { stood := { row := stableRisesUptoRow, standIns := [], harness := (true, "d762315c62e8c63d169eda41358b2a1763c584aac3081a16fb1e026ba3c27f1a"), looks := false }, kinds := [], alts := [], laidByText := true, laidKinds := [.data], laidTests := true, laidLooks := .later }
def StableRisesUptoCardSaid : Prop := Claim7.holds Tryd.pinned (.plain (OpenSpec.upto stableRisesSpec)) stableRisesUptoCard

/-- THE SECOND FORM's CARD OF 'quoratelaw16.StableOwn'. -/
def stableOwnUptoCard : Claim7 := { stood := { row := stableOwnUptoRow, standIns := [], harness := (true, "d762315c62e8c63d169eda41358b2a1763c584aac3081a16fb1e026ba3c27f1a"), looks := false }, kinds := [], alts := [], laidByText := true, laidKinds := [.data], laidTests := true, laidLooks := .later }
def StableOwnUptoCardSaid : Prop := Claim7.holds Tryd.pinned (.plain (OpenSpec.upto stableOwnSpec)) stableOwnUptoCard
end Rows
end Go.Proofs.YtekbhfpdakhhkaaDoor
