/-
  DERIVED. GIVEN WITH THE SEED: THE CARDS: each row of YtakpgoedijhpgaaDoorRows.lean that lists a variable, with what it lists TIED to the program's text (the seventh form; the later family's looks); each row that meets fmt, with fmt's text TOLD by the authors' own Lean function (tested against real Go, not proved from fmt's source: count such statements apart). THE CARD IS WHAT COUNTS. Prove the row's statement (the work); the ties are given (YtakpgoedijhpgaaDoorTie.lean); close each card by the builder's one call (the guide's Derived/Test/ToyasCard.lean, 'card_holds'). Laid BY PROGRAM, IN A SANDBOX (cutbox-door.mjs). By AI agents, Wed Nov 11 2026. No macro, syntax, notation, axiom, sorry.
-/
import Derived.Test.YtakpgoedijhpgaaDoorRows
import GoSem.ClaimSeven
namespace Go.Proofs.YtakpgoedijhpgaaDoor
namespace Rows

/-- THE TIED CARD OF 'chargenetlaw02.CalendarDates'. -/
def calendarDatesCard : Claim7 := { stood := { row := calendarDatesRow, standIns := [], harness := (true, "4ee218ef8ea70532f9c2da78cbfa5f16632c992b10c9320fc06c69bae379679e"), looks := false }, kinds := [], alts := [], laidByText := true, laidKinds := [.data], laidTests := true, laidLooks := .later }
def CalendarDatesCardSaid : Prop := Claim7.holds Tryd.pinned (.plain (OpenSpec.ofChange calendarDatesSpec)) calendarDatesCard

/-- THE TIED CARD OF 'chargenetlaw02.CalendarTimes'. -/
def calendarTimesCard : Claim7 := { stood := { row := calendarTimesRow, standIns := [], harness := (true, "4ee218ef8ea70532f9c2da78cbfa5f16632c992b10c9320fc06c69bae379679e"), looks := false }, kinds := [], alts := [], laidByText := true, laidKinds := [.data], laidTests := true, laidLooks := .later }
def CalendarTimesCardSaid : Prop := Claim7.holds Tryd.pinned (.plain (OpenSpec.ofChange calendarTimesSpec)) calendarTimesCard

/-- THE TIED CARD OF 'chargenetlaw02.CalendarLocal'. -/
def calendarLocalCard : Claim7 := { stood := { row := calendarLocalRow, standIns := [], harness := (true, "4ee218ef8ea70532f9c2da78cbfa5f16632c992b10c9320fc06c69bae379679e"), looks := false }, kinds := [], alts := [], laidByText := true, laidKinds := [.data], laidTests := true, laidLooks := .later }
def CalendarLocalCardSaid : Prop := Claim7.holds Tryd.pinned (.plain (OpenSpec.ofChange calendarLocalSpec)) calendarLocalCard

/-- THE TIED CARD OF 'chargenetlaw02.CalendarNext'. -/
def calendarNextCard : Claim7 := { stood := { row := calendarNextRow, standIns := [], harness := (true, "4ee218ef8ea70532f9c2da78cbfa5f16632c992b10c9320fc06c69bae379679e"), looks := false }, kinds := [], alts := [], laidByText := true, laidKinds := [.data], laidTests := true, laidLooks := .later }
def CalendarNextCardSaid : Prop := Claim7.holds Tryd.pinned (.plain (OpenSpec.ofChange calendarNextSpec)) calendarNextCard

/-- THE TIED CARD OF 'chargenetlaw02.CalendarBack'. -/
def calendarBackCard : Claim7 := { stood := { row := calendarBackRow, standIns := [], harness := (true, "4ee218ef8ea70532f9c2da78cbfa5f16632c992b10c9320fc06c69bae379679e"), looks := false }, kinds := [], alts := [], laidByText := true, laidKinds := [.data], laidTests := true, laidLooks := .later }
def CalendarBackCardSaid : Prop := Claim7.holds Tryd.pinned (.plain (OpenSpec.ofChange calendarBackSpec)) calendarBackCard

/-- THE TIED CARD OF 'chargenetlaw02.CalendarSteps'. -/
def calendarStepsCard : Claim7 := { stood := { row := calendarStepsRow, standIns := [], harness := (true, "4ee218ef8ea70532f9c2da78cbfa5f16632c992b10c9320fc06c69bae379679e"), looks := false }, kinds := [], alts := [], laidByText := true, laidKinds := [.data], laidTests := true, laidLooks := .later }
def CalendarStepsCardSaid : Prop := Claim7.holds Tryd.pinned (.plain (OpenSpec.ofChange calendarStepsSpec)) calendarStepsCard

/-- THE TIED CARD OF 'chargenetlaw02.CalendarLeast'. -/
def calendarLeastCard : Claim7 := { stood := { row := calendarLeastRow, standIns := [], harness := (true, "4ee218ef8ea70532f9c2da78cbfa5f16632c992b10c9320fc06c69bae379679e"), looks := false }, kinds := [], alts := [], laidByText := true, laidKinds := [.data], laidTests := true, laidLooks := .later }
def CalendarLeastCardSaid : Prop := Claim7.holds Tryd.pinned (.plain (OpenSpec.ofChange calendarLeastSpec)) calendarLeastCard

/-- THE TIED CARD OF 'chargenetlaw02.CalendarWeeks'. -/
def calendarWeeksCard : Claim7 := { stood := { row := calendarWeeksRow, standIns := [], harness := (true, "4ee218ef8ea70532f9c2da78cbfa5f16632c992b10c9320fc06c69bae379679e"), looks := false }, kinds := [], alts := [], laidByText := true, laidKinds := [.data], laidTests := true, laidLooks := .later }
def CalendarWeeksCardSaid : Prop := Claim7.holds Tryd.pinned (.plain (OpenSpec.ofChange calendarWeeksSpec)) calendarWeeksCard

/-- THE SECOND FORM's CARD OF 'chargenetlaw02.CalendarDates'. -/
def calendarDatesUptoCard : Claim7 := { stood := { row := calendarDatesUptoRow, standIns := [], harness := (true, "4ee218ef8ea70532f9c2da78cbfa5f16632c992b10c9320fc06c69bae379679e"), looks := false }, kinds := [], alts := [], laidByText := true, laidKinds := [.data], laidTests := true, laidLooks := .later }
def CalendarDatesUptoCardSaid : Prop := Claim7.holds Tryd.pinned (.plain (OpenSpec.upto calendarDatesSpec)) calendarDatesUptoCard

/-- THE SECOND FORM's CARD OF 'chargenetlaw02.CalendarTimes'. -/
def calendarTimesUptoCard : Claim7 := { stood := { row := calendarTimesUptoRow, standIns := [], harness := (true, "4ee218ef8ea70532f9c2da78cbfa5f16632c992b10c9320fc06c69bae379679e"), looks := false }, kinds := [], alts := [], laidByText := true, laidKinds := [.data], laidTests := true, laidLooks := .later }
def CalendarTimesUptoCardSaid : Prop := Claim7.holds Tryd.pinned (.plain (OpenSpec.upto calendarTimesSpec)) calendarTimesUptoCard

/-- THE SECOND FORM's CARD OF 'chargenetlaw02.CalendarLocal'. -/
def calendarLocalUptoCard : Claim7 := { stood := { row := calendarLocalUptoRow, standIns := [], harness := (true, "4ee218ef8ea70532f9c2da78cbfa5f16632c992b10c9320fc06c69bae379679e"), looks := false }, kinds := [], alts := [], laidByText := true, laidKinds := [.data], laidTests := true, laidLooks := .later }
def CalendarLocalUptoCardSaid : Prop := Claim7.holds Tryd.pinned (.plain (OpenSpec.upto calendarLocalSpec)) calendarLocalUptoCard

/-- THE SECOND FORM's CARD OF 'chargenetlaw02.CalendarNext'. -/
def calendarNextUptoCard : Claim7 := { stood := { row := calendarNextUptoRow, standIns := [], harness := (true, "4ee218ef8ea70532f9c2da78cbfa5f16632c992b10c9320fc06c69bae379679e"), looks := false }, kinds := [], alts := [], laidByText := true, laidKinds := [.data], laidTests := true, laidLooks := .later }
def CalendarNextUptoCardSaid : Prop := Claim7.holds Tryd.pinned (.plain (OpenSpec.upto calendarNextSpec)) calendarNextUptoCard

/-- THE SECOND FORM's CARD OF 'chargenetlaw02.CalendarBack'. -/
def calendarBackUptoCard : Claim7 := { stood := { row := calendarBackUptoRow, standIns := [], harness := (true, "4ee218ef8ea70532f9c2da78cbfa5f16632c992b10c9320fc06c69bae379679e"), looks := false }, kinds := [], alts := [], laidByText := true, laidKinds := [.data], laidTests := true, laidLooks := .later }
def CalendarBackUptoCardSaid : Prop := Claim7.holds Tryd.pinned (.plain (OpenSpec.upto calendarBackSpec)) calendarBackUptoCard

/-- THE SECOND FORM's CARD OF 'chargenetlaw02.CalendarSteps'. -/
def calendarStepsUptoCard : Claim7 := { stood := { row := calendarStepsUptoRow, standIns := [], harness := (true, "4ee218ef8ea70532f9c2da78cbfa5f16632c992b10c9320fc06c69bae379679e"), looks := false }, kinds := [], alts := [], laidByText := true, laidKinds := [.data], laidTests := true, laidLooks := .later }
def CalendarStepsUptoCardSaid : Prop := Claim7.holds Tryd.pinned (.plain (OpenSpec.upto calendarStepsSpec)) calendarStepsUptoCard

/-- THE SECOND FORM's CARD OF 'chargenetlaw02.CalendarLeast'. -/
def calendarLeastUptoCard : Claim7 := { stood := { row := calendarLeastUptoRow, standIns := [], harness := (true, "4ee218ef8ea70532f9c2da78cbfa5f16632c992b10c9320fc06c69bae379679e"), looks := false }, kinds := [], alts := [], laidByText := true, laidKinds := [.data], laidTests := true, laidLooks := .later }
def CalendarLeastUptoCardSaid : Prop := Claim7.holds Tryd.pinned (.plain (OpenSpec.upto calendarLeastSpec)) calendarLeastUptoCard

/-- THE SECOND FORM's CARD OF 'chargenetlaw02.CalendarWeeks'. -/
def calendarWeeksUptoCard : Claim7 := { stood := { row := calendarWeeksUptoRow, standIns := [], harness := (true, "4ee218ef8ea70532f9c2da78cbfa5f16632c992b10c9320fc06c69bae379679e"), looks := false }, kinds := [], alts := [], laidByText := true, laidKinds := [.data], laidTests := true, laidLooks := .later }
def CalendarWeeksUptoCardSaid : Prop := Claim7.holds Tryd.pinned (.plain (OpenSpec.upto calendarWeeksSpec)) calendarWeeksUptoCard
end Rows
end Go.Proofs.YtakpgoedijhpgaaDoor
