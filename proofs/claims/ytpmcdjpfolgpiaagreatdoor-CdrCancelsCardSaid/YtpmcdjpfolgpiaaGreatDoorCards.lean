/-
  DERIVED. GIVEN WITH THE SEED: THE CARDS: each row of YtpmcdjpfolgpiaaGreatDoorRows.lean that lists a variable, with what it lists TIED to the program's text (the seventh form; the later family's looks); each row that meets fmt, with fmt's text TOLD by the authors' own Lean function (tested against real Go, not proved from fmt's source: count such statements apart). THE CARD IS WHAT COUNTS. Prove the row's statement (the work); the ties are given (YtpmcdjpfolgpiaaGreatDoorTie.lean); close each card by the builder's one call (the guide's Derived/Test/ToyasCard.lean, 'card_holds'). Laid BY PROGRAM, IN A SANDBOX (cutbox-door.mjs). By AI agents, Wed Nov 11 2026. No macro, syntax, notation, axiom, sorry.
-/
import Derived.Test.YtpmcdjpfolgpiaaGreatDoorRows
import GoSem.ClaimSeven
namespace Go.Proofs.YtpmcdjpfolgpiaaGreatDoor
namespace Rows

/-- THE TIED CARD OF 'chargenetlaw46.CdrValid'. -/
def cdrValidCard : Claim7 := { stood := { row := cdrValidRow, standIns := [], harness := (true, "ac42272062f07ff37cd0108ff8fb43902a4ff2b195f2b2c8b7d45aba1ba12f1a"), looks := true }, kinds := [], alts := [], laidByText := true, laidKinds := [.data], laidTests := true, laidLooks := .later }
def CdrValidCardSaid : Prop := Claim7.holds Tryz.pinned (.plain (OpenSpec.ofChange cdrValidSpec)) cdrValidCard

/-- THE TIED CARD OF 'chargenetlaw46.CdrMakes'. -/
def cdrMakesCard : Claim7 := { stood := { row := cdrMakesRow, standIns := [], harness := (true, "ac42272062f07ff37cd0108ff8fb43902a4ff2b195f2b2c8b7d45aba1ba12f1a"), looks := true }, kinds := [], alts := [], laidByText := true, laidKinds := [.data], laidTests := true, laidLooks := .later }
def CdrMakesCardSaid : Prop := Claim7.holds Tryz.pinned (.plain (OpenSpec.ofChange cdrMakesSpec)) cdrMakesCard

/-- THE TIED CARD OF 'chargenetlaw46.CdrCredits'. -/
def cdrCreditsCard : Claim7 := { stood := { row := cdrCreditsRow, standIns := [], harness := (true, "ac42272062f07ff37cd0108ff8fb43902a4ff2b195f2b2c8b7d45aba1ba12f1a"), looks := true }, kinds := [], alts := [], laidByText := true, laidKinds := [.data], laidTests := true, laidLooks := .later }
def CdrCreditsCardSaid : Prop := Claim7.holds Tryz.pinned (.plain (OpenSpec.ofChange cdrCreditsSpec)) cdrCreditsCard

/-- THE TIED CARD OF 'chargenetlaw46.CdrEncodes'. -/
def cdrEncodesCard : Claim7 := { stood := { row := cdrEncodesRow, standIns := [], harness := (true, "ac42272062f07ff37cd0108ff8fb43902a4ff2b195f2b2c8b7d45aba1ba12f1a"), looks := true }, kinds := [], alts := [], laidByText := true, laidKinds := [.data], laidTests := true, laidLooks := .later }
def CdrEncodesCardSaid : Prop := Claim7.holds Tryz.pinned (.plain (OpenSpec.ofChange cdrEncodesSpec)) cdrEncodesCard

/-- THE TIED CARD OF 'chargenetlaw46.CdrCancels'. -/
def cdrCancelsCard : Claim7 := { stood := { row := cdrCancelsRow, standIns := [], harness := (true, "ac42272062f07ff37cd0108ff8fb43902a4ff2b195f2b2c8b7d45aba1ba12f1a"), looks := true }, kinds := [], alts := [], laidByText := true, laidKinds := [.data], laidTests := true, laidLooks := .later }
def CdrCancelsCardSaid : Prop := Claim7.holds Tryz.pinned (.plain (OpenSpec.ofChange cdrCancelsSpec)) cdrCancelsCard

/-- THE SECOND FORM's CARD OF 'chargenetlaw46.CdrValid'. -/
def cdrValidUptoCard : Claim7 := { stood := { row := cdrValidUptoRow, standIns := [], harness := (true, "ac42272062f07ff37cd0108ff8fb43902a4ff2b195f2b2c8b7d45aba1ba12f1a"), looks := true }, kinds := [], alts := [], laidByText := true, laidKinds := [.data], laidTests := true, laidLooks := .later }
def CdrValidUptoCardSaid : Prop := Claim7.holds Tryz.pinned (.plain (OpenSpec.upto cdrValidSpec)) cdrValidUptoCard

/-- THE SECOND FORM's CARD OF 'chargenetlaw46.CdrMakes'. -/
def cdrMakesUptoCard : Claim7 := { stood := { row := cdrMakesUptoRow, standIns := [], harness := (true, "ac42272062f07ff37cd0108ff8fb43902a4ff2b195f2b2c8b7d45aba1ba12f1a"), looks := true }, kinds := [], alts := [], laidByText := true, laidKinds := [.data], laidTests := true, laidLooks := .later }
def CdrMakesUptoCardSaid : Prop := Claim7.holds Tryz.pinned (.plain (OpenSpec.upto cdrMakesSpec)) cdrMakesUptoCard

/-- THE SECOND FORM's CARD OF 'chargenetlaw46.CdrCredits'. -/
def cdrCreditsUptoCard : Claim7 := { stood := { row := cdrCreditsUptoRow, standIns := [], harness := (true, "ac42272062f07ff37cd0108ff8fb43902a4ff2b195f2b2c8b7d45aba1ba12f1a"), looks := true }, kinds := [], alts := [], laidByText := true, laidKinds := [.data], laidTests := true, laidLooks := .later }
def CdrCreditsUptoCardSaid : Prop := Claim7.holds Tryz.pinned (.plain (OpenSpec.upto cdrCreditsSpec)) cdrCreditsUptoCard

/-- THE SECOND FORM's CARD OF 'chargenetlaw46.CdrEncodes'. -/
def cdrEncodesUptoCard : Claim7 := { stood := { row := cdrEncodesUptoRow, standIns := [], harness := (true, "ac42272062f07ff37cd0108ff8fb43902a4ff2b195f2b2c8b7d45aba1ba12f1a"), looks := true }, kinds := [], alts := [], laidByText := true, laidKinds := [.data], laidTests := true, laidLooks := .later }
def CdrEncodesUptoCardSaid : Prop := Claim7.holds Tryz.pinned (.plain (OpenSpec.upto cdrEncodesSpec)) cdrEncodesUptoCard

/-- THE SECOND FORM's CARD OF 'chargenetlaw46.CdrCancels'. -/
def cdrCancelsUptoCard : Claim7 := { stood := { row := cdrCancelsUptoRow, standIns := [], harness := (true, "ac42272062f07ff37cd0108ff8fb43902a4ff2b195f2b2c8b7d45aba1ba12f1a"), looks := true }, kinds := [], alts := [], laidByText := true, laidKinds := [.data], laidTests := true, laidLooks := .later }
def CdrCancelsUptoCardSaid : Prop := Claim7.holds Tryz.pinned (.plain (OpenSpec.upto cdrCancelsSpec)) cdrCancelsUptoCard
end Rows
end Go.Proofs.YtpmcdjpfolgpiaaGreatDoor
