/-
  DERIVED. GIVEN WITH THE SEED: THE CARDS: each row of YtanjnhohfcgapaaGreatDoorRows.lean that lists a variable, with what it lists TIED to the program's text (the seventh form; the later family's looks); each row that meets fmt, with fmt's text TOLD by the authors' own Lean function (tested against real Go, not proved from fmt's source: count such statements apart). THE CARD IS WHAT COUNTS. Prove the row's statement (the work); the ties are given (YtanjnhohfcgapaaGreatDoorTie.lean); close each card by the builder's one call (the guide's Derived/Test/ToyasCard.lean, 'card_holds'). Laid BY PROGRAM, IN A SANDBOX (cutbox-door.mjs). By AI agents, Wed Nov 11 2026. No macro, syntax, notation, axiom, sorry.
-/
import Derived.Test.YtanjnhohfcgapaaGreatDoorRows
import GoSem.ClaimSeven
namespace Go.Proofs.YtanjnhohfcgapaaGreatDoor
namespace Rows

/-- THE TIED CARD OF 'quoratelaw24.RefclusterSame'. -/
def refclusterSameCard : Claim7 := { stood := { row := refclusterSameRow, standIns := [], harness := (true, "75184632fb3ee454899d18eaaad942a78cd9c8fb6d8bb008f2709a1b98a0ca85"), looks := true }, kinds := [], alts := [], laidByText := true, laidKinds := [.data, .data, .data, .sentinel, .sentinel, .data], laidTests := true, laidLooks := .later }
def RefclusterSameCardSaid : Prop := Claim7.holds Tryz.pinned (.plain (OpenSpec.ofChange refclusterSameSpec)) refclusterSameCard

/-- THE TIED CARD OF 'quoratelaw23.SingleAlone'. -/
def singleAloneCard : Claim7 := { stood := { row := singleAloneRow, standIns := [], harness := (true, "75184632fb3ee454899d18eaaad942a78cd9c8fb6d8bb008f2709a1b98a0ca85"), looks := true }, kinds := [], alts := [], laidByText := true, laidKinds := [.data, .data, .data, .sentinel, .sentinel, .data], laidTests := true, laidLooks := .later }
def SingleAloneCardSaid : Prop := Claim7.holds Tryz.pinned (.plain (OpenSpec.ofChange singleAloneSpec)) singleAloneCard

/-- THE TIED CARD OF 'quoratelaw23.SinglePlays'. -/
def singlePlaysCard : Claim7 := { stood := { row := singlePlaysRow, standIns := [], harness := (true, "75184632fb3ee454899d18eaaad942a78cd9c8fb6d8bb008f2709a1b98a0ca85"), looks := true }, kinds := [], alts := [], laidByText := true, laidKinds := [.data, .data, .data, .sentinel, .sentinel, .data], laidTests := true, laidLooks := .later }
def SinglePlaysCardSaid : Prop := Claim7.holds Tryz.pinned (.plain (OpenSpec.ofChange singlePlaysSpec)) singlePlaysCard

/-- THE TIED CARD OF 'quoratelaw23.SingleTalks'. -/
def singleTalksCard : Claim7 := { stood := { row := singleTalksRow, standIns := [], harness := (true, "75184632fb3ee454899d18eaaad942a78cd9c8fb6d8bb008f2709a1b98a0ca85"), looks := true }, kinds := [], alts := [], laidByText := true, laidKinds := [.data, .data, .data, .sentinel, .sentinel, .data], laidTests := true, laidLooks := .later }
def SingleTalksCardSaid : Prop := Claim7.holds Tryz.pinned (.plain (OpenSpec.ofChange singleTalksSpec)) singleTalksCard

/-- THE TIED CARD OF 'quoratelaw23.SingleAgree'. -/
def singleAgreeCard : Claim7 := { stood := { row := singleAgreeRow, standIns := [], harness := (true, "75184632fb3ee454899d18eaaad942a78cd9c8fb6d8bb008f2709a1b98a0ca85"), looks := true }, kinds := [], alts := [], laidByText := true, laidKinds := [.data, .data, .data, .sentinel, .sentinel, .data], laidTests := true, laidLooks := .later }
def SingleAgreeCardSaid : Prop := Claim7.holds Tryz.pinned (.plain (OpenSpec.ofChange singleAgreeSpec)) singleAgreeCard

/-- THE TIED CARD OF 'quoratelaw24.RefclusterOne'. -/
def refclusterOneCard : Claim7 := { stood := { row := refclusterOneRow, standIns := [], harness := (true, "75184632fb3ee454899d18eaaad942a78cd9c8fb6d8bb008f2709a1b98a0ca85"), looks := true }, kinds := [], alts := [], laidByText := true, laidKinds := [.data, .data, .data, .sentinel, .sentinel, .data], laidTests := true, laidLooks := .later }
def RefclusterOneCardSaid : Prop := Claim7.holds Tryz.pinned (.plain (OpenSpec.ofChange refclusterOneSpec)) refclusterOneCard

/-- THE TIED CARD OF 'quoratelaw24.RefclusterPlays'. -/
def refclusterPlaysCard : Claim7 := { stood := { row := refclusterPlaysRow, standIns := [], harness := (true, "75184632fb3ee454899d18eaaad942a78cd9c8fb6d8bb008f2709a1b98a0ca85"), looks := true }, kinds := [], alts := [], laidByText := true, laidKinds := [.data, .data, .data, .sentinel, .sentinel, .data], laidTests := true, laidLooks := .later }
def RefclusterPlaysCardSaid : Prop := Claim7.holds Tryz.pinned (.plain (OpenSpec.ofChange refclusterPlaysSpec)) refclusterPlaysCard

/-- THE SECOND FORM's CARD OF 'quoratelaw24.RefclusterSame'. -/
def refclusterSameUptoCard : Claim7 := { stood := { row := refclusterSameUptoRow, standIns := [], harness := (true, "75184632fb3ee454899d18eaaad942a78cd9c8fb6d8bb008f2709a1b98a0ca85"), looks := true }, kinds := [], alts := [], laidByText := true, laidKinds := [.data, .data, .data, .sentinel, .sentinel, .data], laidTests := true, laidLooks := .later }
def RefclusterSameUptoCardSaid : Prop := Claim7.holds Tryz.pinned (.plain (OpenSpec.upto refclusterSameSpec)) refclusterSameUptoCard

/-- THE SECOND FORM's CARD OF 'quoratelaw23.SingleAlone'. -/
def singleAloneUptoCard : Claim7 := { stood := { row := singleAloneUptoRow, standIns := [], harness := (true, "75184632fb3ee454899d18eaaad942a78cd9c8fb6d8bb008f2709a1b98a0ca85"), looks := true }, kinds := [], alts := [], laidByText := true, laidKinds := [.data, .data, .data, .sentinel, .sentinel, .data], laidTests := true, laidLooks := .later }
def SingleAloneUptoCardSaid : Prop := Claim7.holds Tryz.pinned (.plain (OpenSpec.upto singleAloneSpec)) singleAloneUptoCard

/-- THE SECOND FORM's CARD OF 'quoratelaw23.SinglePlays'. -/
def singlePlaysUptoCard : Claim7 := { stood := { row := singlePlaysUptoRow, standIns := [], harness := (true, "75184632fb3ee454899d18eaaad942a78cd9c8fb6d8bb008f2709a1b98a0ca85"), looks := true }, kinds := [], alts := [], laidByText := true, laidKinds := [.data, .data, .data, .sentinel, .sentinel, .data], laidTests := true, laidLooks := .later }
def SinglePlaysUptoCardSaid : Prop := Claim7.holds Tryz.pinned (.plain (OpenSpec.upto singlePlaysSpec)) singlePlaysUptoCard

/-- THE SECOND FORM's CARD OF 'quoratelaw23.SingleTalks'. -/
def singleTalksUptoCard : Claim7 := { stood := { row := singleTalksUptoRow, standIns := [], harness := (true, "75184632fb3ee454899d18eaaad942a78cd9c8fb6d8bb008f2709a1b98a0ca85"), looks := true }, kinds := [], alts := [], laidByText := true, laidKinds := [.data, .data, .data, .sentinel, .sentinel, .data], laidTests := true, laidLooks := .later }
def SingleTalksUptoCardSaid : Prop := Claim7.holds Tryz.pinned (.plain (OpenSpec.upto singleTalksSpec)) singleTalksUptoCard

/-- THE SECOND FORM's CARD OF 'quoratelaw23.SingleAgree'. -/
def singleAgreeUptoCard : Claim7 := { stood := { row := singleAgreeUptoRow, standIns := [], harness := (true, "75184632fb3ee454899d18eaaad942a78cd9c8fb6d8bb008f2709a1b98a0ca85"), looks := true }, kinds := [], alts := [], laidByText := true, laidKinds := [.data, .data, .data, .sentinel, .sentinel, .data], laidTests := true, laidLooks := .later }
def SingleAgreeUptoCardSaid : Prop := Claim7.holds Tryz.pinned (.plain (OpenSpec.upto singleAgreeSpec)) singleAgreeUptoCard

/-- THE SECOND FORM's CARD OF 'quoratelaw24.RefclusterOne'. -/
def refclusterOneUptoCard : Claim7 := { stood := { row := refclusterOneUptoRow, standIns := [], harness := (true, "75184632fb3ee454899d18eaaad942a78cd9c8fb6d8bb008f2709a1b98a0ca85"), looks := true }, kinds := [], alts := [], laidByText := true, laidKinds := [.data, .data, .data, .sentinel, .sentinel, .data], laidTests := true, laidLooks := .later }
def RefclusterOneUptoCardSaid : Prop := Claim7.holds Tryz.pinned (.plain (OpenSpec.upto refclusterOneSpec)) refclusterOneUptoCard

/-- THE SECOND FORM's CARD OF 'quoratelaw24.RefclusterPlays'. -/
def refclusterPlaysUptoCard : Claim7 := { stood := { row := refclusterPlaysUptoRow, standIns := [], harness := (true, "75184632fb3ee454899d18eaaad942a78cd9c8fb6d8bb008f2709a1b98a0ca85"), looks := true }, kinds := [], alts := [], laidByText := true, laidKinds := [.data, .data, .data, .sentinel, .sentinel, .data], laidTests := true, laidLooks := .later }
def RefclusterPlaysUptoCardSaid : Prop := Claim7.holds Tryz.pinned (.plain (OpenSpec.upto refclusterPlaysSpec)) refclusterPlaysUptoCard
end Rows
end Go.Proofs.YtanjnhohfcgapaaGreatDoor
