/-
  DERIVED. GIVEN WITH THE SEED: THE CARDS: each row of YtmadfhgiaonnlaaGreatDoorRows.lean that lists a variable, with what it lists TIED to the program's text (the seventh form; the later family's looks); each row that meets fmt, with fmt's text TOLD by the authors' own Lean function (tested against real Go, not proved from fmt's source: count such statements apart). THE CARD IS WHAT COUNTS. Prove the row's statement (the work); the ties are given (YtmadfhgiaonnlaaGreatDoorTie.lean); close each card by the builder's one call (the guide's Derived/Test/ToyasCard.lean, 'card_holds'). Laid BY PROGRAM, IN A SANDBOX (cutbox-door.mjs). By AI agents, Wed Nov 11 2026. No macro, syntax, notation, axiom, sorry.
-/
import Derived.Test.YtmadfhgiaonnlaaGreatDoorRows
import GoSem.ClaimSeven
namespace Go.Proofs.YtmadfhgiaonnlaaGreatDoor
namespace Rows

/-- THE TIED CARD OF 'chargenetlaw51.CentralOnce'. -/
def centralOnceCard : Claim7 := { stood := { row := centralOnceRow, standIns := [], harness := (true, "4b7c85f057ec7f7de26c9ac27a8c462982c67c600a541335e285478107950b51"), looks := false }, kinds := [], alts := [], laidByText := true, laidKinds := [.data, .data, .data], laidTests := true, laidLooks := .later }
def CentralOnceCardSaid : Prop := Claim7.holds Tryz.pinned (.plain (OpenSpec.ofChange centralOnceSpec)) centralOnceCard

/-- THE TIED CARD OF 'chargenetlaw51.CentralOrders'. -/
def centralOrdersCard : Claim7 := { stood := { row := centralOrdersRow, standIns := [], harness := (true, "4b7c85f057ec7f7de26c9ac27a8c462982c67c600a541335e285478107950b51"), looks := false }, kinds := [], alts := [], laidByText := true, laidKinds := [.data, .data, .data], laidTests := true, laidLooks := .later }
def CentralOrdersCardSaid : Prop := Claim7.holds Tryz.pinned (.plain (OpenSpec.ofChange centralOrdersSpec)) centralOrdersCard

/-- THE SECOND FORM's CARD OF 'chargenetlaw51.CentralOnce'. -/
def centralOnceUptoCard : Claim7 := { stood := { row := centralOnceUptoRow, standIns := [], harness := (true, "4b7c85f057ec7f7de26c9ac27a8c462982c67c600a541335e285478107950b51"), looks := false }, kinds := [], alts := [], laidByText := true, laidKinds := [.data, .data, .data], laidTests := true, laidLooks := .later }
def CentralOnceUptoCardSaid : Prop := Claim7.holds Tryz.pinned (.plain (OpenSpec.upto centralOnceSpec)) centralOnceUptoCard

/-- THE SECOND FORM's CARD OF 'chargenetlaw51.CentralOrders'. -/
def centralOrdersUptoCard : Claim7 := { stood := { row := centralOrdersUptoRow, standIns := [], harness := (true, "4b7c85f057ec7f7de26c9ac27a8c462982c67c600a541335e285478107950b51"), looks := false }, kinds := [], alts := [], laidByText := true, laidKinds := [.data, .data, .data], laidTests := true, laidLooks := .later }
def CentralOrdersUptoCardSaid : Prop := Claim7.holds Tryz.pinned (.plain (OpenSpec.upto centralOrdersSpec)) centralOrdersUptoCard
end Rows
end Go.Proofs.YtmadfhgiaonnlaaGreatDoor
