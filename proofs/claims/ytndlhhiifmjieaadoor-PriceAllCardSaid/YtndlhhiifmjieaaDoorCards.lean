/-
  DERIVED. GIVEN WITH THE SEED: THE CARDS: each row of YtndlhhiifmjieaaDoorRows.lean that lists a variable, with what it lists TIED to the program's text (the seventh form; the later family's looks); each row that meets fmt, with fmt's text TOLD by the authors' own Lean function (tested against real Go, not proved from fmt's source: count such statements apart). THE CARD IS WHAT COUNTS. Prove the row's statement (the work); the ties are given (YtndlhhiifmjieaaDoorTie.lean); close each card by the builder's one call (the guide's Derived/Test/ToyasCard.lean, 'card_holds'). Laid BY PROGRAM, IN A SANDBOX (cutbox-door.mjs). By AI agents, Wed Nov 11 2026. No macro, syntax, notation, axiom, sorry.
-/
import Derived.Test.YtndlhhiifmjieaaDoorRows
import GoSem.ClaimSeven
namespace Go.Proofs.YtndlhhiifmjieaaDoor
namespace Rows

/-- THE TIED CARD OF 'chargenetlaw42.PriceRuns'. -/
def priceRunsCard : Claim7 := { stood := { row := priceRunsRow, standIns := [], harness := (true, "faa62dcce37801fccace093bcee871c071d84eecbf717bfcd333f72bc0693362"), looks := false }, kinds := [], alts := [], laidByText := true, laidKinds := [.data], laidTests := true, laidLooks := .later }
def PriceRunsCardSaid : Prop := Claim7.holds Tryd.pinned (.plain (OpenSpec.ofChange priceRunsSpec)) priceRunsCard

/-- THE TIED CARD OF 'chargenetlaw42.PriceNets'. -/
def priceNetsCard : Claim7 := { stood := { row := priceNetsRow, standIns := [], harness := (true, "faa62dcce37801fccace093bcee871c071d84eecbf717bfcd333f72bc0693362"), looks := false }, kinds := [], alts := [], laidByText := true, laidKinds := [.data], laidTests := true, laidLooks := .later }
def PriceNetsCardSaid : Prop := Claim7.holds Tryd.pinned (.plain (OpenSpec.ofChange priceNetsSpec)) priceNetsCard

/-- THE TIED CARD OF 'chargenetlaw42.PriceUnits'. -/
def priceUnitsCard : Claim7 := { stood := { row := priceUnitsRow, standIns := [], harness := (true, "faa62dcce37801fccace093bcee871c071d84eecbf717bfcd333f72bc0693362"), looks := false }, kinds := [], alts := [], laidByText := true, laidKinds := [.data], laidTests := true, laidLooks := .later }
def PriceUnitsCardSaid : Prop := Claim7.holds Tryd.pinned (.plain (OpenSpec.ofChange priceUnitsSpec)) priceUnitsCard

/-- THE TIED CARD OF 'chargenetlaw42.PriceAll'. -/
def priceAllCard : Claim7 := { stood := { row := priceAllRow, standIns := [], harness := (true, "faa62dcce37801fccace093bcee871c071d84eecbf717bfcd333f72bc0693362"), looks := false }, kinds := [], alts := [], laidByText := true, laidKinds := [.data], laidTests := true, laidLooks := .later }
def PriceAllCardSaid : Prop := Claim7.holds Tryd.pinned (.plain (OpenSpec.ofChange priceAllSpec)) priceAllCard

/-- THE TIED CARD OF 'chargenetlaw42.PriceAnytime'. -/
def priceAnytimeCard : Claim7 := { stood := { row := priceAnytimeRow, standIns := [], harness := (true, "faa62dcce37801fccace093bcee871c071d84eecbf717bfcd333f72bc0693362"), looks := false }, kinds := [], alts := [], laidByText := true, laidKinds := [.data], laidTests := true, laidLooks := .later }
def PriceAnytimeCardSaid : Prop := Claim7.holds Tryd.pinned (.plain (OpenSpec.ofChange priceAnytimeSpec)) priceAnytimeCard

/-- THE SECOND FORM's CARD OF 'chargenetlaw42.PriceRuns'. -/
def priceRunsUptoCard : Claim7 := { stood := { row := priceRunsUptoRow, standIns := [], harness := (true, "faa62dcce37801fccace093bcee871c071d84eecbf717bfcd333f72bc0693362"), looks := false }, kinds := [], alts := [], laidByText := true, laidKinds := [.data], laidTests := true, laidLooks := .later }
def PriceRunsUptoCardSaid : Prop := Claim7.holds Tryd.pinned (.plain (OpenSpec.upto priceRunsSpec)) priceRunsUptoCard

/-- THE SECOND FORM's CARD OF 'chargenetlaw42.PriceNets'. -/
def priceNetsUptoCard : Claim7 := { stood := { row := priceNetsUptoRow, standIns := [], harness := (true, "faa62dcce37801fccace093bcee871c071d84eecbf717bfcd333f72bc0693362"), looks := false }, kinds := [], alts := [], laidByText := true, laidKinds := [.data], laidTests := true, laidLooks := .later }
def PriceNetsUptoCardSaid : Prop := Claim7.holds Tryd.pinned (.plain (OpenSpec.upto priceNetsSpec)) priceNetsUptoCard

/-- THE SECOND FORM's CARD OF 'chargenetlaw42.PriceUnits'. -/
def priceUnitsUptoCard : Claim7 := { stood := { row := priceUnitsUptoRow, standIns := [], harness := (true, "faa62dcce37801fccace093bcee871c071d84eecbf717bfcd333f72bc0693362"), looks := false }, kinds := [], alts := [], laidByText := true, laidKinds := [.data], laidTests := true, laidLooks := .later }
def PriceUnitsUptoCardSaid : Prop := Claim7.holds Tryd.pinned (.plain (OpenSpec.upto priceUnitsSpec)) priceUnitsUptoCard

/-- THE SECOND FORM's CARD OF 'chargenetlaw42.PriceAll'. -/
def priceAllUptoCard : Claim7 := { stood := { row := priceAllUptoRow, standIns := [], harness := (true, "faa62dcce37801fccace093bcee871c071d84eecbf717bfcd333f72bc0693362"), looks := false }, kinds := [], alts := [], laidByText := true, laidKinds := [.data], laidTests := true, laidLooks := .later }
def PriceAllUptoCardSaid : Prop := Claim7.holds Tryd.pinned (.plain (OpenSpec.upto priceAllSpec)) priceAllUptoCard

/-- THE SECOND FORM's CARD OF 'chargenetlaw42.PriceAnytime'. -/
def priceAnytimeUptoCard : Claim7 := { stood := { row := priceAnytimeUptoRow, standIns := [], harness := (true, "faa62dcce37801fccace093bcee871c071d84eecbf717bfcd333f72bc0693362"), looks := false }, kinds := [], alts := [], laidByText := true, laidKinds := [.data], laidTests := true, laidLooks := .later }
def PriceAnytimeUptoCardSaid : Prop := Claim7.holds Tryd.pinned (.plain (OpenSpec.upto priceAnytimeSpec)) priceAnytimeUptoCard
end Rows
end Go.Proofs.YtndlhhiifmjieaaDoor
