/-
  DERIVED. GIVEN WITH THE SEED: THE CARDS: each row of YtkooekdcegfapaaDoorRows.lean that lists a variable, with what it lists TIED to the program's text (the seventh form; the later family's looks); each row that meets fmt, with fmt's text TOLD by the authors' own Lean function (tested against real Go, not proved from fmt's source: count such statements apart). THE CARD IS WHAT COUNTS. Prove the row's statement (the work); the ties are given (YtkooekdcegfapaaDoorTie.lean); close each card by the builder's one call (the guide's Derived/Test/ToyasCard.lean, 'card_holds'). Laid BY PROGRAM, IN A SANDBOX (cutbox-door.mjs). By AI agents, Wed Nov 11 2026. No macro, syntax, notation, axiom, sorry.
-/
import Derived.Test.YtkooekdcegfapaaDoorRows
import GoSem.ClaimSeven
namespace Go.Proofs.YtkooekdcegfapaaDoor
namespace Rows

/-- THE TIED CARD OF 'chargenetlaw41.TariffValid'. -/
def tariffValidCard : Claim7 := { stood := { row := tariffValidRow, standIns := [], harness := (true, "f3bb7c3fed167b77289362a9d62e0f35d6d19a937748d1a3bc35cfa4503427e5"), looks := false }, kinds := [], alts := [], laidByText := true, laidKinds := [.data], laidTests := true, laidLooks := .later }
def TariffValidCardSaid : Prop := Claim7.holds Tryd.pinned (.plain (OpenSpec.ofChange tariffValidSpec)) tariffValidCard

/-- THE TIED CARD OF 'chargenetlaw41.TariffHolds'. -/
def tariffHoldsCard : Claim7 := { stood := { row := tariffHoldsRow, standIns := [], harness := (true, "f3bb7c3fed167b77289362a9d62e0f35d6d19a937748d1a3bc35cfa4503427e5"), looks := false }, kinds := [], alts := [], laidByText := true, laidKinds := [.data], laidTests := true, laidLooks := .later }
def TariffHoldsCardSaid : Prop := Claim7.holds Tryd.pinned (.plain (OpenSpec.ofChange tariffHoldsSpec)) tariffHoldsCard

/-- THE TIED CARD OF 'chargenetlaw41.TariffFind'. -/
def tariffFindCard : Claim7 := { stood := { row := tariffFindRow, standIns := [], harness := (true, "f3bb7c3fed167b77289362a9d62e0f35d6d19a937748d1a3bc35cfa4503427e5"), looks := false }, kinds := [], alts := [], laidByText := true, laidKinds := [.data], laidTests := true, laidLooks := .later }
def TariffFindCardSaid : Prop := Claim7.holds Tryd.pinned (.plain (OpenSpec.ofChange tariffFindSpec)) tariffFindCard

/-- THE TIED CARD OF 'chargenetlaw41.TariffFree'. -/
def tariffFreeCard : Claim7 := { stood := { row := tariffFreeRow, standIns := [], harness := (true, "f3bb7c3fed167b77289362a9d62e0f35d6d19a937748d1a3bc35cfa4503427e5"), looks := false }, kinds := [], alts := [], laidByText := true, laidKinds := [.data], laidTests := true, laidLooks := .later }
def TariffFreeCardSaid : Prop := Claim7.holds Tryd.pinned (.plain (OpenSpec.ofChange tariffFreeSpec)) tariffFreeCard

/-- THE TIED CARD OF 'chargenetlaw41.TariffOrder'. -/
def tariffOrderCard : Claim7 := { stood := { row := tariffOrderRow, standIns := [], harness := (true, "f3bb7c3fed167b77289362a9d62e0f35d6d19a937748d1a3bc35cfa4503427e5"), looks := false }, kinds := [], alts := [], laidByText := true, laidKinds := [.data], laidTests := true, laidLooks := .later }
def TariffOrderCardSaid : Prop := Claim7.holds Tryd.pinned (.plain (OpenSpec.ofChange tariffOrderSpec)) tariffOrderCard

/-- THE TIED CARD OF 'chargenetlaw41.TariffLimits'. -/
def tariffLimitsCard : Claim7 := { stood := { row := tariffLimitsRow, standIns := [], harness := (true, "f3bb7c3fed167b77289362a9d62e0f35d6d19a937748d1a3bc35cfa4503427e5"), looks := false }, kinds := [], alts := [], laidByText := true, laidKinds := [.data], laidTests := true, laidLooks := .later }
def TariffLimitsCardSaid : Prop := Claim7.holds Tryd.pinned (.plain (OpenSpec.ofChange tariffLimitsSpec)) tariffLimitsCard

/-- THE TIED CARD OF 'chargenetlaw41.TariffPick'. -/
def tariffPickCard : Claim7 := { stood := { row := tariffPickRow, standIns := [], harness := (true, "f3bb7c3fed167b77289362a9d62e0f35d6d19a937748d1a3bc35cfa4503427e5"), looks := false }, kinds := [], alts := [], laidByText := true, laidKinds := [.data], laidTests := true, laidLooks := .later }
def TariffPickCardSaid : Prop := Claim7.holds Tryd.pinned (.plain (OpenSpec.ofChange tariffPickSpec)) tariffPickCard

/-- THE SECOND FORM's CARD OF 'chargenetlaw41.TariffValid'. -/
def tariffValidUptoCard : Claim7 := { stood := { row := tariffValidUptoRow, standIns := [], harness := (true, "f3bb7c3fed167b77289362a9d62e0f35d6d19a937748d1a3bc35cfa4503427e5"), looks := false }, kinds := [], alts := [], laidByText := true, laidKinds := [.data], laidTests := true, laidLooks := .later }
def TariffValidUptoCardSaid : Prop := Claim7.holds Tryd.pinned (.plain (OpenSpec.upto tariffValidSpec)) tariffValidUptoCard

/-- THE SECOND FORM's CARD OF 'chargenetlaw41.TariffHolds'. -/
def tariffHoldsUptoCard : Claim7 := { stood := { row := tariffHoldsUptoRow, standIns := [], harness := (true, "f3bb7c3fed167b77289362a9d62e0f35d6d19a937748d1a3bc35cfa4503427e5"), looks := false }, kinds := [], alts := [], laidByText := true, laidKinds := [.data], laidTests := true, laidLooks := .later }
def TariffHoldsUptoCardSaid : Prop := Claim7.holds Tryd.pinned (.plain (OpenSpec.upto tariffHoldsSpec)) tariffHoldsUptoCard

/-- THE SECOND FORM's CARD OF 'chargenetlaw41.TariffFind'. -/
def tariffFindUptoCard : Claim7 := { stood := { row := tariffFindUptoRow, standIns := [], harness := (true, "f3bb7c3fed167b77289362a9d62e0f35d6d19a937748d1a3bc35cfa4503427e5"), looks := false }, kinds := [], alts := [], laidByText := true, laidKinds := [.data], laidTests := true, laidLooks := .later }
def TariffFindUptoCardSaid : Prop := Claim7.holds Tryd.pinned (.plain (OpenSpec.upto tariffFindSpec)) tariffFindUptoCard

/-- THE SECOND FORM's CARD OF 'chargenetlaw41.TariffFree'. -/
def tariffFreeUptoCard : Claim7 := { stood := { row := tariffFreeUptoRow, standIns := [], harness := (true, "f3bb7c3fed167b77289362a9d62e0f35d6d19a937748d1a3bc35cfa4503427e5"), looks := false }, kinds := [], alts := [], laidByText := true, laidKinds := [.data], laidTests := true, laidLooks := .later }
def TariffFreeUptoCardSaid : Prop := Claim7.holds Tryd.pinned (.plain (OpenSpec.upto tariffFreeSpec)) tariffFreeUptoCard

/-- THE SECOND FORM's CARD OF 'chargenetlaw41.TariffOrder'. -/
def tariffOrderUptoCard : Claim7 := { stood := { row := tariffOrderUptoRow, standIns := [], harness := (true, "f3bb7c3fed167b77289362a9d62e0f35d6d19a937748d1a3bc35cfa4503427e5"), looks := false }, kinds := [], alts := [], laidByText := true, laidKinds := [.data], laidTests := true, laidLooks := .later }
def TariffOrderUptoCardSaid : Prop := Claim7.holds Tryd.pinned (.plain (OpenSpec.upto tariffOrderSpec)) tariffOrderUptoCard

/-- THE SECOND FORM's CARD OF 'chargenetlaw41.TariffLimits'. -/
def tariffLimitsUptoCard : Claim7 := { stood := { row := tariffLimitsUptoRow, standIns := [], harness := (true, "f3bb7c3fed167b77289362a9d62e0f35d6d19a937748d1a3bc35cfa4503427e5"), looks := false }, kinds := [], alts := [], laidByText := true, laidKinds := [.data], laidTests := true, laidLooks := .later }
def TariffLimitsUptoCardSaid : Prop := Claim7.holds Tryd.pinned (.plain (OpenSpec.upto tariffLimitsSpec)) tariffLimitsUptoCard

/-- THE SECOND FORM's CARD OF 'chargenetlaw41.TariffPick'. -/
def tariffPickUptoCard : Claim7 := { stood := { row := tariffPickUptoRow, standIns := [], harness := (true, "f3bb7c3fed167b77289362a9d62e0f35d6d19a937748d1a3bc35cfa4503427e5"), looks := false }, kinds := [], alts := [], laidByText := true, laidKinds := [.data], laidTests := true, laidLooks := .later }
def TariffPickUptoCardSaid : Prop := Claim7.holds Tryd.pinned (.plain (OpenSpec.upto tariffPickSpec)) tariffPickUptoCard
end Rows
end Go.Proofs.YtkooekdcegfapaaDoor
