/-
  DERIVED. GIVEN WITH THE SEED: THE CARDS: each row of YtfaofobhmmedmaaGreatDoorRows.lean that lists a variable, with what it lists TIED to the program's text (the seventh form; the later family's looks); each row that meets fmt, with fmt's text TOLD by the authors' own Lean function (tested against real Go, not proved from fmt's source: count such statements apart). THE CARD IS WHAT COUNTS. Prove the row's statement (the work); the ties are given (YtfaofobhmmedmaaGreatDoorTie.lean); close each card by the builder's one call (the guide's Derived/Test/ToyasCard.lean, 'card_holds'). Laid BY PROGRAM, IN A SANDBOX (cutbox-door.mjs). By AI agents, Wed Nov 11 2026. No macro, syntax, notation, axiom, sorry.
-/
import Derived.Test.YtfaofobhmmedmaaGreatDoorRows
import GoSem.ClaimSeven
namespace Go.Proofs.YtfaofobhmmedmaaGreatDoor
namespace Rows

/-- THE TIED CARD OF 'chargenetlaw35.StationNews'. -/
def stationNewsCard : Claim7 := { stood := { row := stationNewsRow, standIns := [], harness := (true, "a905ab9034eeed83ca51df9291551be8c2844bce0a8c8cde7951b6642cb66e7c"), looks := false }, kinds := [], alts := [], laidByText := true, laidKinds := [.data, .data, .data, .data], laidTests := true, laidLooks := .later }
def StationNewsCardSaid : Prop := Claim7.holds Tryz.pinned (.plain (OpenSpec.ofChange stationNewsSpec)) stationNewsCard

/-- THE TIED CARD OF 'chargenetlaw35.StationDenies'. -/
def stationDeniesCard : Claim7 := { stood := { row := stationDeniesRow, standIns := [], harness := (true, "a905ab9034eeed83ca51df9291551be8c2844bce0a8c8cde7951b6642cb66e7c"), looks := false }, kinds := [], alts := [], laidByText := true, laidKinds := [.data, .data, .data, .data], laidTests := true, laidLooks := .later }
def StationDeniesCardSaid : Prop := Claim7.holds Tryz.pinned (.plain (OpenSpec.ofChange stationDeniesSpec)) stationDeniesCard

/-- THE TIED CARD OF 'chargenetlaw35.StationOnce'. -/
def stationOnceCard : Claim7 := { stood := { row := stationOnceRow, standIns := [], harness := (true, "a905ab9034eeed83ca51df9291551be8c2844bce0a8c8cde7951b6642cb66e7c"), looks := false }, kinds := [], alts := [], laidByText := true, laidKinds := [.data, .data, .data, .data], laidTests := true, laidLooks := .later }
def StationOnceCardSaid : Prop := Claim7.holds Tryz.pinned (.plain (OpenSpec.ofChange stationOnceSpec)) stationOnceCard

/-- THE SECOND FORM's CARD OF 'chargenetlaw35.StationNews'. -/
def stationNewsUptoCard : Claim7 := { stood := { row := stationNewsUptoRow, standIns := [], harness := (true, "a905ab9034eeed83ca51df9291551be8c2844bce0a8c8cde7951b6642cb66e7c"), looks := false }, kinds := [], alts := [], laidByText := true, laidKinds := [.data, .data, .data, .data], laidTests := true, laidLooks := .later }
def StationNewsUptoCardSaid : Prop := Claim7.holds Tryz.pinned (.plain (OpenSpec.upto stationNewsSpec)) stationNewsUptoCard

/-- THE SECOND FORM's CARD OF 'chargenetlaw35.StationDenies'. -/
def stationDeniesUptoCard : Claim7 := { stood := { row := stationDeniesUptoRow, standIns := [], harness := (true, "a905ab9034eeed83ca51df9291551be8c2844bce0a8c8cde7951b6642cb66e7c"), looks := false }, kinds := [], alts := [], laidByText := true, laidKinds := [.data, .data, .data, .data], laidTests := true, laidLooks := .later }
def StationDeniesUptoCardSaid : Prop := Claim7.holds Tryz.pinned (.plain (OpenSpec.upto stationDeniesSpec)) stationDeniesUptoCard

/-- THE SECOND FORM's CARD OF 'chargenetlaw35.StationOnce'. -/
def stationOnceUptoCard : Claim7 := { stood := { row := stationOnceUptoRow, standIns := [], harness := (true, "a905ab9034eeed83ca51df9291551be8c2844bce0a8c8cde7951b6642cb66e7c"), looks := false }, kinds := [], alts := [], laidByText := true, laidKinds := [.data, .data, .data, .data], laidTests := true, laidLooks := .later }
def StationOnceUptoCardSaid : Prop := Claim7.holds Tryz.pinned (.plain (OpenSpec.upto stationOnceSpec)) stationOnceUptoCard
end Rows
end Go.Proofs.YtfaofobhmmedmaaGreatDoor
