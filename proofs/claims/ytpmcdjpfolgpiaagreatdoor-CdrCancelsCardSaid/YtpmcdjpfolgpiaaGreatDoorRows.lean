/-
  NARROWER THAN 'FOR EVERY INPUT', by the rows' own cells (each row's printed sentence says how): CdrValid: laid · CdrMakes: laid · CdrCredits: laid · CdrEncodes: laid · CdrCancels: laid.
  DERIVED. THE GIVEN ROWS OF THIS SEAT. 5 by the template 'for every input the law returns true; each argument reads behind the call as it read before'; 0 by the template 'total and deterministic' (their statements: YtpmcdjpfolgpiaaGreatDoorTotals.lean).
  GIVEN WITH THE SEED: the statements are not yours to turn. If you find one false, say at which input.
  Laid BY PROGRAM, IN A SANDBOX (cutbox-rows.mjs): the forced cells as the released guide's own fill.sh prints them over the translation 91082fe4e27a2aaa… (all of the seat's roots in one cut). By AI agents, Wed Nov 11 2026. No macro, syntax, notation, axiom, sorry.
-/
import Derived.Test.YtpmcdjpfolgpiaaGreatDoorChecked
import GoSem.Claim
import GoSem.ClaimJoined
import GoSem.ClaimMapViews
import Derived.JoinedTies
import Derived.KernelRfl
namespace Go.Proofs.YtpmcdjpfolgpiaaGreatDoor
/- THE CELL 'sum', in the pinned program and in every row, IS THE sha256 OF THE DUMP (.gsa) THAT YtpmcdjpfolgpiaaGreatDoorProg.lean LOADS. Nothing in Lean hashes anything: it is a label: what it is worth is what the hold of that sum in a sandbox is worth. -/
noncomputable def Tryz.pinned : Pinned := { name := "ytpmcdjpfolgpiaagreatdoor", sum := "91082fe4e27a2aaa48fdbdd87ff34662cea4b241a41bffe0ceeb8b18ed5ce507", checked := Tryz.checked }
namespace Rows
def none {H : Type} : Left H := { results := [], args := [] }

/- WHAT THE LISTED PACKAGE-LEVEL VARIABLES READ AS WHEN THE CALL BEGINS. Each datum BY PROGRAM (the guide's laid-datum.mjs) off the statement by which the dump's own 'gosem.cut.vars' lays the variable. In a bare row this is a premise. The card (YtpmcdjpfolgpiaaGreatDoorCards.lean) ties it to the program's text. -/
def laid_chargenet_calendar_lengths {H : Type} : DataW H := .agg [.lit (.int .i64 31), .lit (.int .i64 28), .lit (.int .i64 31), .lit (.int .i64 30), .lit (.int .i64 31), .lit (.int .i64 30), .lit (.int .i64 31), .lit (.int .i64 31), .lit (.int .i64 30), .lit (.int .i64 31), .lit (.int .i64 30), .lit (.int .i64 31)]

/-- 'chargenetlaw46.CdrValid': WHATEVER THE INPUT: true; the input reads as it did. -/
def cdrValidSpec : ChangeSpec := { name := "cdrValid", fn := fun _ => fun
  | [d] => { results := [.lit (.bool true)], args := [d] }
  | _ => none }
def cdrValidRow : OpenClaim := { program := "ytpmcdjpfolgpiaagreatdoor", sum := "91082fe4e27a2aaa48fdbdd87ff34662cea4b241a41bffe0ceeb8b18ed5ce507", func := "chargenet/chargenetlaw46.CdrValid", spec := "cdrValid", inPlace := ["math/bits.Add64"], unfollowed := true, recurses := true, named := ["chargenet/calendar.lengths", "math/bits.divideError", "math/bits.overflowError"], plainKeys := false, apart := false, laid := [("chargenet/calendar.lengths", laid_chargenet_calendar_lengths)] }
def CdrValidSaid : Prop := cdrValidRow.holds Tryz.pinned (OpenSpec.ofChange cdrValidSpec)

/-- ITS FALSE NEIGHBOUR: 'it returns false'. Refute it at one input. -/
def cdrValidWrong : ChangeSpec := { name := "cdrValid", fn := fun _ => fun
  | [d] => { results := [.lit (.bool false)], args := [d] }
  | _ => none }
def CdrValidWrongFalsely : Prop := cdrValidRow.holds Tryz.pinned (OpenSpec.ofChange cdrValidWrong)

/-- 'chargenetlaw46.CdrMakes': WHATEVER THE INPUT: true; the input reads as it did. -/
def cdrMakesSpec : ChangeSpec := { name := "cdrMakes", fn := fun _ => fun
  | [d] => { results := [.lit (.bool true)], args := [d] }
  | _ => none }
def cdrMakesRow : OpenClaim := { program := "ytpmcdjpfolgpiaagreatdoor", sum := "91082fe4e27a2aaa48fdbdd87ff34662cea4b241a41bffe0ceeb8b18ed5ce507", func := "chargenet/chargenetlaw46.CdrMakes", spec := "cdrMakes", inPlace := ["math/bits.Add64"], unfollowed := true, recurses := true, named := ["chargenet/calendar.lengths", "math/bits.divideError", "math/bits.overflowError"], plainKeys := false, apart := false, laid := [("chargenet/calendar.lengths", laid_chargenet_calendar_lengths)] }
def CdrMakesSaid : Prop := cdrMakesRow.holds Tryz.pinned (OpenSpec.ofChange cdrMakesSpec)

/-- ITS FALSE NEIGHBOUR: 'it returns false'. Refute it at one input. -/
def cdrMakesWrong : ChangeSpec := { name := "cdrMakes", fn := fun _ => fun
  | [d] => { results := [.lit (.bool false)], args := [d] }
  | _ => none }
def CdrMakesWrongFalsely : Prop := cdrMakesRow.holds Tryz.pinned (OpenSpec.ofChange cdrMakesWrong)

/-- 'chargenetlaw46.CdrCredits': WHATEVER THE INPUT: true; the input reads as it did. -/
def cdrCreditsSpec : ChangeSpec := { name := "cdrCredits", fn := fun _ => fun
  | [d1, d2] => { results := [.lit (.bool true)], args := [d1, d2] }
  | _ => none }
def cdrCreditsRow : OpenClaim := { program := "ytpmcdjpfolgpiaagreatdoor", sum := "91082fe4e27a2aaa48fdbdd87ff34662cea4b241a41bffe0ceeb8b18ed5ce507", func := "chargenet/chargenetlaw46.CdrCredits", spec := "cdrCredits", inPlace := ["math/bits.Add64"], unfollowed := true, recurses := true, named := ["chargenet/calendar.lengths", "math/bits.divideError", "math/bits.overflowError"], plainKeys := false, apart := false, laid := [("chargenet/calendar.lengths", laid_chargenet_calendar_lengths)] }
def CdrCreditsSaid : Prop := cdrCreditsRow.holds Tryz.pinned (OpenSpec.ofChange cdrCreditsSpec)

/-- ITS FALSE NEIGHBOUR: 'it returns false'. Refute it at one input. -/
def cdrCreditsWrong : ChangeSpec := { name := "cdrCredits", fn := fun _ => fun
  | [d1, d2] => { results := [.lit (.bool false)], args := [d1, d2] }
  | _ => none }
def CdrCreditsWrongFalsely : Prop := cdrCreditsRow.holds Tryz.pinned (OpenSpec.ofChange cdrCreditsWrong)

/-- 'chargenetlaw46.CdrEncodes': WHATEVER THE INPUT: true; the input reads as it did. -/
def cdrEncodesSpec : ChangeSpec := { name := "cdrEncodes", fn := fun _ => fun
  | [d] => { results := [.lit (.bool true)], args := [d] }
  | _ => none }
def cdrEncodesRow : OpenClaim := { program := "ytpmcdjpfolgpiaagreatdoor", sum := "91082fe4e27a2aaa48fdbdd87ff34662cea4b241a41bffe0ceeb8b18ed5ce507", func := "chargenet/chargenetlaw46.CdrEncodes", spec := "cdrEncodes", inPlace := ["math/bits.Add64"], unfollowed := true, recurses := true, named := ["chargenet/calendar.lengths", "math/bits.divideError", "math/bits.overflowError"], plainKeys := false, apart := false, laid := [("chargenet/calendar.lengths", laid_chargenet_calendar_lengths)] }
def CdrEncodesSaid : Prop := cdrEncodesRow.holds Tryz.pinned (OpenSpec.ofChange cdrEncodesSpec)

/-- ITS FALSE NEIGHBOUR: 'it returns false'. Refute it at one input. -/
def cdrEncodesWrong : ChangeSpec := { name := "cdrEncodes", fn := fun _ => fun
  | [d] => { results := [.lit (.bool false)], args := [d] }
  | _ => none }
def CdrEncodesWrongFalsely : Prop := cdrEncodesRow.holds Tryz.pinned (OpenSpec.ofChange cdrEncodesWrong)

/-- 'chargenetlaw46.CdrCancels': WHATEVER THE INPUT: true; the input reads as it did. -/
def cdrCancelsSpec : ChangeSpec := { name := "cdrCancels", fn := fun _ => fun
  | [d1, d2] => { results := [.lit (.bool true)], args := [d1, d2] }
  | _ => none }
def cdrCancelsRow : OpenClaim := { program := "ytpmcdjpfolgpiaagreatdoor", sum := "91082fe4e27a2aaa48fdbdd87ff34662cea4b241a41bffe0ceeb8b18ed5ce507", func := "chargenet/chargenetlaw46.CdrCancels", spec := "cdrCancels", inPlace := ["math/bits.Add64"], unfollowed := true, recurses := true, named := ["chargenet/calendar.lengths", "math/bits.divideError", "math/bits.overflowError"], plainKeys := false, apart := false, laid := [("chargenet/calendar.lengths", laid_chargenet_calendar_lengths)] }
def CdrCancelsSaid : Prop := cdrCancelsRow.holds Tryz.pinned (OpenSpec.ofChange cdrCancelsSpec)

/-- ITS FALSE NEIGHBOUR: 'it returns false'. Refute it at one input. -/
def cdrCancelsWrong : ChangeSpec := { name := "cdrCancels", fn := fun _ => fun
  | [d1, d2] => { results := [.lit (.bool false)], args := [d1, d2] }
  | _ => none }
def CdrCancelsWrongFalsely : Prop := cdrCancelsRow.holds Tryz.pinned (OpenSpec.ofChange cdrCancelsWrong)

/- THE SECOND FORM. 'bulk': how many values and letters a reading holds, each counted each time it is reached (what is shared counts as often as it is met; a slice's spare places count too). A statement '..UptoSaid' is the law's where the arguments, and the package variables that the reading takes, are together of bulk at most 1048576: NARROWER than '..Said'. Prove '..Said' where nothing that the law and all that it calls make is longer than what came in: it says more and counts as full. Else prove '..UptoSaid'. A law counts once. -/
mutual
def uptoBulk {H : Type} : DataW H → Nat
  | .lit (.string bytes) => bytes.length + 1
  | .lit _ => 1
  | .nil => 1
  | .ptr d => uptoBulk d + 1
  | .slice elems spare => uptoBulkAll elems + uptoBulkAll spare + 1
  | .agg parts => uptoBulkAll parts + 1
  | .iface _ d => uptoBulk d + 1
  | .map entries => uptoBulkEntries entries + 1
  | .held _ => 1
def uptoBulkAll {H : Type} : List (DataW H) → Nat
  | [] => 0
  | d :: r => uptoBulk d + uptoBulkAll r
def uptoBulkEntries {H : Type} : List (Lit × DataW H) → Nat
  | [] => 0
  | x :: r => uptoBulkEntry x + uptoBulkEntries r
def uptoBulkEntry {H : Type} : Lit × DataW H → Nat
  | (.string bytes, d) => bytes.length + uptoBulk d + 1
  | (_, d) => uptoBulk d + 1
 end
def uptoSmall : (H : Type) → List (DataW H) → Bool := fun _ ds => decide (uptoBulkAll ds ≤ 1048576)
def OpenSpec.upto (s : _root_.Go.ChangeSpec) : _root_.Go.OpenSpec := { _root_.Go.OpenSpec.ofChange s with cond := some uptoSmall }

/-- 'chargenetlaw46.CdrValid', WHERE WHAT IT READS IS OF BULK AT MOST 1048576: true; the input reads as it did. -/
def cdrValidUptoRow : OpenClaim := { program := "ytpmcdjpfolgpiaagreatdoor", sum := "91082fe4e27a2aaa48fdbdd87ff34662cea4b241a41bffe0ceeb8b18ed5ce507", func := "chargenet/chargenetlaw46.CdrValid", spec := "cdrValid", inPlace := ["math/bits.Add64"], unfollowed := true, recurses := true, named := ["chargenet/calendar.lengths", "math/bits.divideError", "math/bits.overflowError"], plainKeys := false, apart := false, laid := [("chargenet/calendar.lengths", laid_chargenet_calendar_lengths)], narrowed := true }
def CdrValidUptoSaid : Prop := cdrValidUptoRow.holds Tryz.pinned (OpenSpec.upto cdrValidSpec)

/-- 'chargenetlaw46.CdrMakes', WHERE WHAT IT READS IS OF BULK AT MOST 1048576: true; the input reads as it did. -/
def cdrMakesUptoRow : OpenClaim := { program := "ytpmcdjpfolgpiaagreatdoor", sum := "91082fe4e27a2aaa48fdbdd87ff34662cea4b241a41bffe0ceeb8b18ed5ce507", func := "chargenet/chargenetlaw46.CdrMakes", spec := "cdrMakes", inPlace := ["math/bits.Add64"], unfollowed := true, recurses := true, named := ["chargenet/calendar.lengths", "math/bits.divideError", "math/bits.overflowError"], plainKeys := false, apart := false, laid := [("chargenet/calendar.lengths", laid_chargenet_calendar_lengths)], narrowed := true }
def CdrMakesUptoSaid : Prop := cdrMakesUptoRow.holds Tryz.pinned (OpenSpec.upto cdrMakesSpec)

/-- 'chargenetlaw46.CdrCredits', WHERE WHAT IT READS IS OF BULK AT MOST 1048576: true; the input reads as it did. -/
def cdrCreditsUptoRow : OpenClaim := { program := "ytpmcdjpfolgpiaagreatdoor", sum := "91082fe4e27a2aaa48fdbdd87ff34662cea4b241a41bffe0ceeb8b18ed5ce507", func := "chargenet/chargenetlaw46.CdrCredits", spec := "cdrCredits", inPlace := ["math/bits.Add64"], unfollowed := true, recurses := true, named := ["chargenet/calendar.lengths", "math/bits.divideError", "math/bits.overflowError"], plainKeys := false, apart := false, laid := [("chargenet/calendar.lengths", laid_chargenet_calendar_lengths)], narrowed := true }
def CdrCreditsUptoSaid : Prop := cdrCreditsUptoRow.holds Tryz.pinned (OpenSpec.upto cdrCreditsSpec)

/-- 'chargenetlaw46.CdrEncodes', WHERE WHAT IT READS IS OF BULK AT MOST 1048576: true; the input reads as it did. -/
def cdrEncodesUptoRow : OpenClaim := { program := "ytpmcdjpfolgpiaagreatdoor", sum := "91082fe4e27a2aaa48fdbdd87ff34662cea4b241a41bffe0ceeb8b18ed5ce507", func := "chargenet/chargenetlaw46.CdrEncodes", spec := "cdrEncodes", inPlace := ["math/bits.Add64"], unfollowed := true, recurses := true, named := ["chargenet/calendar.lengths", "math/bits.divideError", "math/bits.overflowError"], plainKeys := false, apart := false, laid := [("chargenet/calendar.lengths", laid_chargenet_calendar_lengths)], narrowed := true }
def CdrEncodesUptoSaid : Prop := cdrEncodesUptoRow.holds Tryz.pinned (OpenSpec.upto cdrEncodesSpec)

/-- 'chargenetlaw46.CdrCancels', WHERE WHAT IT READS IS OF BULK AT MOST 1048576: true; the input reads as it did. -/
def cdrCancelsUptoRow : OpenClaim := { program := "ytpmcdjpfolgpiaagreatdoor", sum := "91082fe4e27a2aaa48fdbdd87ff34662cea4b241a41bffe0ceeb8b18ed5ce507", func := "chargenet/chargenetlaw46.CdrCancels", spec := "cdrCancels", inPlace := ["math/bits.Add64"], unfollowed := true, recurses := true, named := ["chargenet/calendar.lengths", "math/bits.divideError", "math/bits.overflowError"], plainKeys := false, apart := false, laid := [("chargenet/calendar.lengths", laid_chargenet_calendar_lengths)], narrowed := true }
def CdrCancelsUptoSaid : Prop := cdrCancelsUptoRow.holds Tryz.pinned (OpenSpec.upto cdrCancelsSpec)

end Rows
end Go.Proofs.YtpmcdjpfolgpiaaGreatDoor
