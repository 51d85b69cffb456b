/-
  DERIVED. GIVEN WITH THE SEED: THE CARDS: each row of YtcjflnnjieolfaaDoorRows.lean that lists a variable, with what it lists TIED to the program's text (the seventh form; the later family's looks); each row that meets fmt, with fmt's text TOLD by the authors' own Lean function (tested against real Go, not proved from fmt's source: count such statements apart). THE CARD IS WHAT COUNTS. Prove the row's statement (the work); the ties are given (YtcjflnnjieolfaaDoorTie.lean); close each card by the builder's one call (the guide's Derived/Test/ToyasCard.lean, 'card_holds'). Laid BY PROGRAM, IN A SANDBOX (cutbox-door.mjs). By AI agents, Wed Nov 11 2026. No macro, syntax, notation, axiom, sorry.
-/
import Derived.Test.YtcjflnnjieolfaaDoorRows
import GoSem.ClaimSeven
namespace Go.Proofs.YtcjflnnjieolfaaDoor
namespace Rows

/-- THE TIED CARD OF 'quoratelaw11.AppOnce'. -/
def appOnceCard : Claim7 := { stood := { row := appOnceRow, standIns := [], harness := (true, "4227829eccff9c6255cb4a8d3c6538c7681c8f52fd4423f54752205b39cfcd14"), looks := true }, kinds := [], alts := [], laidByText := true, laidKinds := [.data, .data, .data, .sentinel, .sentinel, .data], laidTests := true, laidLooks := .later }
def AppOnceCardSaid : Prop := Claim7.holds Tryd.pinned (.plain (OpenSpec.ofChange appOnceSpec)) appOnceCard

/-- THE TIED CARD OF 'quoratelaw09.KvApart'. -/
def kvApartCard : Claim7 := { stood := { row := kvApartRow, standIns := [], harness := (true, "4227829eccff9c6255cb4a8d3c6538c7681c8f52fd4423f54752205b39cfcd14"), looks := true }, kinds := [], alts := [], laidByText := true, laidKinds := [.data, .data, .data, .sentinel, .sentinel, .data], laidTests := true, laidLooks := .later }
def KvApartCardSaid : Prop := Claim7.holds Tryd.pinned (.plain (OpenSpec.ofChange kvApartSpec)) kvApartCard

/-- THE TIED CARD OF 'quoratelaw09.KvTakes'. -/
def kvTakesCard : Claim7 := { stood := { row := kvTakesRow, standIns := [], harness := (true, "4227829eccff9c6255cb4a8d3c6538c7681c8f52fd4423f54752205b39cfcd14"), looks := true }, kinds := [], alts := [], laidByText := true, laidKinds := [.data, .data, .data, .sentinel, .sentinel, .data], laidTests := true, laidLooks := .later }
def KvTakesCardSaid : Prop := Claim7.holds Tryd.pinned (.plain (OpenSpec.ofChange kvTakesSpec)) kvTakesCard

/-- THE SECOND FORM's CARD OF 'quoratelaw11.AppOnce'. -/
def appOnceUptoCard : Claim7 := { stood := { row := appOnceUptoRow, standIns := [], harness := (true, "4227829eccff9c6255cb4a8d3c6538c7681c8f52fd4423f54752205b39cfcd14"), looks := true }, kinds := [], alts := [], laidByText := true, laidKinds := [.data, .data, .data, .sentinel, .sentinel, .data], laidTests := true, laidLooks := .later }
def AppOnceUptoCardSaid : Prop := Claim7.holds Tryd.pinned (.plain (OpenSpec.upto appOnceSpec)) appOnceUptoCard

/-- THE SECOND FORM's CARD OF 'quoratelaw09.KvApart'. -/
def kvApartUptoCard : Claim7 := { stood := { row := kvApartUptoRow, standIns := [], harness := (true, "4227829eccff9c6255cb4a8d3c6538c7681c8f52fd4423f54752205b39cfcd14"), looks := true }, kinds := [], alts := [], laidByText := true, laidKinds := [.data, .data, .data, .sentinel, .sentinel, .data], laidTests := true, laidLooks := .later }
def KvApartUptoCardSaid : Prop := Claim7.holds Tryd.pinned (.plain (OpenSpec.upto kvApartSpec)) kvApartUptoCard

/-- THE SECOND FORM's CARD OF 'quoratelaw09.KvTakes'. -/
def kvTakesUptoCard : Claim7 := { stood := { row := kvTakesUptoRow, standIns := [], harness := (true, "4227829eccff9c6255cb4a8d3c6538c7681c8f52fd4423f54752205b39cfcd14"), looks := true }, kinds := [], alts := [], laidByText := true, laidKinds := [.data, .data, .data, .sentinel, .sentinel, .data], laidTests := true, laidLooks := .later }
def KvTakesUptoCardSaid : Prop := Claim7.holds Tryd.pinned (.plain (OpenSpec.upto kvTakesSpec)) kvTakesUptoCard
end Rows
end Go.Proofs.YtcjflnnjieolfaaDoor
