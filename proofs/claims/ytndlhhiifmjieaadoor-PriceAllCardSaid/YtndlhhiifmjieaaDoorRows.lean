/-
  NARROWER THAN 'FOR EVERY INPUT', by the rows' own cells (each row's printed sentence says how): PriceRuns: laid · PriceNets: laid · PriceUnits: laid · PriceAll: laid · PriceAnytime: laid.
  DERIVED. THE GIVEN ROWS OF THIS SEAT. 5 by the template 'for every input the law returns true; each argument reads behind the call as it read before'; 0 by the template 'total and deterministic' (their statements: YtndlhhiifmjieaaDoorTotals.lean).
  GIVEN WITH THE SEED: the statements are not yours to turn. If you find one false, say at which input.
  Laid BY PROGRAM, IN A SANDBOX (cutbox-rows.mjs): the forced cells as the released guide's own fill.sh prints them over the translation 67516eed0af654cb… (all of the seat's roots in one cut). By AI agents, Wed Nov 11 2026. No macro, syntax, notation, axiom, sorry.
-/
import Derived.Test.YtndlhhiifmjieaaDoorChecked
import GoSem.Claim
import GoSem.ClaimJoined
import GoSem.ClaimMapViews
import Derived.JoinedTies
import Derived.KernelRfl
namespace Go.Proofs.YtndlhhiifmjieaaDoor
/- THE CELL 'sum', in the pinned program and in every row, IS THE sha256 OF THE DUMP (.gsa) THAT YtndlhhiifmjieaaDoorProg.lean LOADS. Nothing in Lean hashes anything: it is a label: what it is worth is what the hold of that sum in a sandbox is worth. -/
noncomputable def Tryd.pinned : Pinned := { name := "ytndlhhiifmjieaadoor", sum := "67516eed0af654cb8481ef385a28ebe927f1d7cf480c1a3d86a1f881bbbda165", checked := Tryd.checked }
namespace Rows
def none {H : Type} : Left H := { results := [], args := [] }

/- WHAT THE LISTED PACKAGE-LEVEL VARIABLES READ AS WHEN THE CALL BEGINS. Each datum BY PROGRAM (the guide's laid-datum.mjs) off the statement by which the dump's own 'gosem.cut.vars' lays the variable. In a bare row this is a premise. The card (YtndlhhiifmjieaaDoorCards.lean) ties it to the program's text. -/
def laid_chargenet_calendar_lengths {H : Type} : DataW H := .agg [.lit (.int .i64 31), .lit (.int .i64 28), .lit (.int .i64 31), .lit (.int .i64 30), .lit (.int .i64 31), .lit (.int .i64 30), .lit (.int .i64 31), .lit (.int .i64 31), .lit (.int .i64 30), .lit (.int .i64 31), .lit (.int .i64 30), .lit (.int .i64 31)]

/-- 'chargenetlaw42.PriceRuns': WHATEVER THE INPUT: true; the input reads as it did. -/
def priceRunsSpec : ChangeSpec := { name := "priceRuns", fn := fun _ => fun
  | [d] => { results := [.lit (.bool true)], args := [d] }
  | _ => none }
def priceRunsRow : OpenClaim := { program := "ytndlhhiifmjieaadoor", sum := "67516eed0af654cb8481ef385a28ebe927f1d7cf480c1a3d86a1f881bbbda165", func := "chargenet/chargenetlaw42.PriceRuns", spec := "priceRuns", unfollowed := true, recurses := true, named := ["chargenet/calendar.lengths", "math/bits.divideError", "math/bits.overflowError"], plainKeys := false, apart := false, laid := [("chargenet/calendar.lengths", laid_chargenet_calendar_lengths)] }
def PriceRunsSaid : Prop := priceRunsRow.holds Tryd.pinned (OpenSpec.ofChange priceRunsSpec)

/-- ITS FALSE NEIGHBOUR: 'it returns false'. Refute it at one input. -/
def priceRunsWrong : ChangeSpec := { name := "priceRuns", fn := fun _ => fun
  | [d] => { results := [.lit (.bool false)], args := [d] }
  | _ => none }
def PriceRunsWrongFalsely : Prop := priceRunsRow.holds Tryd.pinned (OpenSpec.ofChange priceRunsWrong)

/-- 'chargenetlaw42.PriceNets': WHATEVER THE INPUT: true; the input reads as it did. -/
def priceNetsSpec : ChangeSpec := { name := "priceNets", fn := fun _ => fun
  | [d] => { results := [.lit (.bool true)], args := [d] }
  | _ => none }
def priceNetsRow : OpenClaim := { program := "ytndlhhiifmjieaadoor", sum := "67516eed0af654cb8481ef385a28ebe927f1d7cf480c1a3d86a1f881bbbda165", func := "chargenet/chargenetlaw42.PriceNets", spec := "priceNets", unfollowed := true, recurses := true, named := ["math/bits.divideError", "math/bits.overflowError", "chargenet/calendar.lengths"], plainKeys := false, apart := false, laid := [("chargenet/calendar.lengths", laid_chargenet_calendar_lengths)] }
def PriceNetsSaid : Prop := priceNetsRow.holds Tryd.pinned (OpenSpec.ofChange priceNetsSpec)

/-- ITS FALSE NEIGHBOUR: 'it returns false'. Refute it at one input. -/
def priceNetsWrong : ChangeSpec := { name := "priceNets", fn := fun _ => fun
  | [d] => { results := [.lit (.bool false)], args := [d] }
  | _ => none }
def PriceNetsWrongFalsely : Prop := priceNetsRow.holds Tryd.pinned (OpenSpec.ofChange priceNetsWrong)

/-- 'chargenetlaw42.PriceUnits': WHATEVER THE INPUT: true; the input reads as it did. -/
def priceUnitsSpec : ChangeSpec := { name := "priceUnits", fn := fun _ => fun
  | [d] => { results := [.lit (.bool true)], args := [d] }
  | _ => none }
def priceUnitsRow : OpenClaim := { program := "ytndlhhiifmjieaadoor", sum := "67516eed0af654cb8481ef385a28ebe927f1d7cf480c1a3d86a1f881bbbda165", func := "chargenet/chargenetlaw42.PriceUnits", spec := "priceUnits", unfollowed := true, recurses := true, named := ["chargenet/calendar.lengths", "math/bits.divideError", "math/bits.overflowError"], plainKeys := false, apart := false, laid := [("chargenet/calendar.lengths", laid_chargenet_calendar_lengths)] }
def PriceUnitsSaid : Prop := priceUnitsRow.holds Tryd.pinned (OpenSpec.ofChange priceUnitsSpec)

/-- ITS FALSE NEIGHBOUR: 'it returns false'. Refute it at one input. -/
def priceUnitsWrong : ChangeSpec := { name := "priceUnits", fn := fun _ => fun
  | [d] => { results := [.lit (.bool false)], args := [d] }
  | _ => none }
def PriceUnitsWrongFalsely : Prop := priceUnitsRow.holds Tryd.pinned (OpenSpec.ofChange priceUnitsWrong)

/-- 'chargenetlaw42.PriceAll': WHATEVER THE INPUT: true; the input reads as it did. -/
def priceAllSpec : ChangeSpec := { name := "priceAll", fn := fun _ => fun
  | [d] => { results := [.lit (.bool true)], args := [d] }
  | _ => none }
def priceAllRow : OpenClaim := { program := "ytndlhhiifmjieaadoor", sum := "67516eed0af654cb8481ef385a28ebe927f1d7cf480c1a3d86a1f881bbbda165", func := "chargenet/chargenetlaw42.PriceAll", spec := "priceAll", unfollowed := true, recurses := true, named := ["chargenet/calendar.lengths", "math/bits.divideError", "math/bits.overflowError"], plainKeys := false, apart := false, laid := [("chargenet/calendar.lengths", laid_chargenet_calendar_lengths)] }
def PriceAllSaid : Prop := priceAllRow.holds Tryd.pinned (OpenSpec.ofChange priceAllSpec)

/-- ITS FALSE NEIGHBOUR: 'it returns false'. Refute it at one input. -/
def priceAllWrong : ChangeSpec := { name := "priceAll", fn := fun _ => fun
  | [d] => { results := [.lit (.bool false)], args := [d] }
  | _ => none }
def PriceAllWrongFalsely : Prop := priceAllRow.holds Tryd.pinned (OpenSpec.ofChange priceAllWrong)

/-- 'chargenetlaw42.PriceAnytime': WHATEVER THE INPUT: true; the input reads as it did. -/
def priceAnytimeSpec : ChangeSpec := { name := "priceAnytime", fn := fun _ => fun
  | [d1, d2, d3] => { results := [.lit (.bool true)], args := [d1, d2, d3] }
  | _ => none }
def priceAnytimeRow : OpenClaim := { program := "ytndlhhiifmjieaadoor", sum := "67516eed0af654cb8481ef385a28ebe927f1d7cf480c1a3d86a1f881bbbda165", func := "chargenet/chargenetlaw42.PriceAnytime", spec := "priceAnytime", unfollowed := true, recurses := true, named := ["chargenet/calendar.lengths", "math/bits.divideError", "math/bits.overflowError"], plainKeys := false, apart := false, laid := [("chargenet/calendar.lengths", laid_chargenet_calendar_lengths)] }
def PriceAnytimeSaid : Prop := priceAnytimeRow.holds Tryd.pinned (OpenSpec.ofChange priceAnytimeSpec)

/-- ITS FALSE NEIGHBOUR: 'it returns false'. Refute it at one input. -/
def priceAnytimeWrong : ChangeSpec := { name := "priceAnytime", fn := fun _ => fun
  | [d1, d2, d3] => { results := [.lit (.bool false)], args := [d1, d2, d3] }
  | _ => none }
def PriceAnytimeWrongFalsely : Prop := priceAnytimeRow.holds Tryd.pinned (OpenSpec.ofChange priceAnytimeWrong)

/- THE SECOND FORM. 'bulk': how many values and letters a reading holds, each counted each time it is reached (what is shared counts as often as it is met; a slice's spare places count too). A statement '..UptoSaid' is the law's where the arguments, and the package variables that the reading takes, are together of bulk at most 1048576: NARROWER than '..Said'. Prove '..Said' where nothing that the law and all that it calls make is longer than what came in: it says more and counts as full. Else prove '..UptoSaid'. A law counts once. -/
mutual
def uptoBulk {H : Type} : DataW H → Nat
  | .lit (.string bytes) => bytes.length + 1
  | .lit _ => 1
  | .nil => 1
  | .ptr d => uptoBulk d + 1
  | .slice elems spare => uptoBulkAll elems + uptoBulkAll spare + 1
  | .agg parts => uptoBulkAll parts + 1
  | .iface _ d => uptoBulk d + 1
  | .map entries => uptoBulkEntries entries + 1
  | .held _ => 1
def uptoBulkAll {H : Type} : List (DataW H) → Nat
  | [] => 0
  | d :: r => uptoBulk d + uptoBulkAll r
def uptoBulkEntries {H : Type} : List (Lit × DataW H) → Nat
  | [] => 0
  | x :: r => uptoBulkEntry x + uptoBulkEntries r
def uptoBulkEntry {H : Type} : Lit × DataW H → Nat
  | (.string bytes, d) => bytes.length + uptoBulk d + 1
  | (_, d) => uptoBulk d + 1
 end
def uptoSmall : (H : Type) → List (DataW H) → Bool := fun _ ds => decide (uptoBulkAll ds ≤ 1048576)
def OpenSpec.upto (s : _root_.Go.ChangeSpec) : _root_.Go.OpenSpec := { _root_.Go.OpenSpec.ofChange s with cond := some uptoSmall }

/-- 'chargenetlaw42.PriceRuns', WHERE WHAT IT READS IS OF BULK AT MOST 1048576: true; the input reads as it did. -/
def priceRunsUptoRow : OpenClaim := { program := "ytndlhhiifmjieaadoor", sum := "67516eed0af654cb8481ef385a28ebe927f1d7cf480c1a3d86a1f881bbbda165", func := "chargenet/chargenetlaw42.PriceRuns", spec := "priceRuns", unfollowed := true, recurses := true, named := ["chargenet/calendar.lengths", "math/bits.divideError", "math/bits.overflowError"], plainKeys := false, apart := false, laid := [("chargenet/calendar.lengths", laid_chargenet_calendar_lengths)], narrowed := true }
def PriceRunsUptoSaid : Prop := priceRunsUptoRow.holds Tryd.pinned (OpenSpec.upto priceRunsSpec)

/-- 'chargenetlaw42.PriceNets', WHERE WHAT IT READS IS OF BULK AT MOST 1048576: true; the input reads as it did. -/
def priceNetsUptoRow : OpenClaim := { program := "ytndlhhiifmjieaadoor", sum := "67516eed0af654cb8481ef385a28ebe927f1d7cf480c1a3d86a1f881bbbda165", func := "chargenet/chargenetlaw42.PriceNets", spec := "priceNets", unfollowed := true, recurses := true, named := ["math/bits.divideError", "math/bits.overflowError", "chargenet/calendar.lengths"], plainKeys := false, apart := false, laid := [("chargenet/calendar.lengths", laid_chargenet_calendar_lengths)], narrowed := true }
def PriceNetsUptoSaid : Prop := priceNetsUptoRow.holds Tryd.pinned (OpenSpec.upto priceNetsSpec)

/-- 'chargenetlaw42.PriceUnits', WHERE WHAT IT READS IS OF BULK AT MOST 1048576: true; the input reads as it did. -/
def priceUnitsUptoRow : OpenClaim := { program := "ytndlhhiifmjieaadoor", sum := "67516eed0af654cb8481ef385a28ebe927f1d7cf480c1a3d86a1f881bbbda165", func := "chargenet/chargenetlaw42.PriceUnits", spec := "priceUnits", unfollowed := true, recurses := true, named := ["chargenet/calendar.lengths", "math/bits.divideError", "math/bits.overflowError"], plainKeys := false, apart := false, laid := [("chargenet/calendar.lengths", laid_chargenet_calendar_lengths)], narrowed := true }
def PriceUnitsUptoSaid : Prop := priceUnitsUptoRow.holds Tryd.pinned (OpenSpec.upto priceUnitsSpec)

/-- 'chargenetlaw42.PriceAll', WHERE WHAT IT READS IS OF BULK AT MOST 1048576: true; the input reads as it did. -/
def priceAllUptoRow : OpenClaim := { program := "ytndlhhiifmjieaadoor", sum := "67516eed0af654cb8481ef385a28ebe927f1d7cf480c1a3d86a1f881bbbda165", func := "chargenet/chargenetlaw42.PriceAll", spec := "priceAll", unfollowed := true, recurses := true, named := ["chargenet/calendar.lengths", "math/bits.divideError", "math/bits.overflowError"], plainKeys := false, apart := false, laid := [("chargenet/calendar.lengths", laid_chargenet_calendar_lengths)], narrowed := true }
def PriceAllUptoSaid : Prop := priceAllUptoRow.holds Tryd.pinned (OpenSpec.upto priceAllSpec)

/-- 'chargenetlaw42.PriceAnytime', WHERE WHAT IT READS IS OF BULK AT MOST 1048576: true; the input reads as it did. -/
def priceAnytimeUptoRow : OpenClaim := { program := "ytndlhhiifmjieaadoor", sum := "67516eed0af654cb8481ef385a28ebe927f1d7cf480c1a3d86a1f881bbbda165", func := "chargenet/chargenetlaw42.PriceAnytime", spec := "priceAnytime", unfollowed := true, recurses := true, named := ["chargenet/calendar.lengths", "math/bits.divideError", "math/bits.overflowError"], plainKeys := false, apart := false, laid := [("chargenet/calendar.lengths", laid_chargenet_calendar_lengths)], narrowed := true }
def PriceAnytimeUptoSaid : Prop := priceAnytimeUptoRow.holds Tryd.pinned (OpenSpec.upto priceAnytimeSpec)

end Rows
end Go.Proofs.YtndlhhiifmjieaaDoor
