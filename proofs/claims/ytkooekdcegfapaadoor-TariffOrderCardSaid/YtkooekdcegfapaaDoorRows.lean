/-
  NARROWER THAN 'FOR EVERY INPUT', by the rows' own cells (each row's printed sentence says how): TariffValid: laid · TariffHolds: laid · TariffFind: laid · TariffFree: laid · TariffOrder: laid · TariffLimits: laid · TariffPick: laid.
  DERIVED. THE GIVEN ROWS OF THIS SEAT. 7 by the template 'for every input the law returns true; each argument reads behind the call as it read before'; 0 by the template 'total and deterministic' (their statements: YtkooekdcegfapaaDoorTotals.lean).
  GIVEN WITH THE SEED: the statements are not yours to turn. If you find one false, say at which input.
  Laid BY PROGRAM, IN A SANDBOX (cutbox-rows.mjs): the forced cells as the released guide's own fill.sh prints them over the translation 9a6dfd953f9cac50… (all of the seat's roots in one cut). By AI agents, Wed Nov 11 2026. No macro, syntax, notation, axiom, sorry.
-/
import Derived.Test.YtkooekdcegfapaaDoorChecked
import GoSem.Claim
import GoSem.ClaimJoined
import GoSem.ClaimMapViews
import Derived.JoinedTies
import Derived.KernelRfl
namespace Go.Proofs.YtkooekdcegfapaaDoor
/- THE CELL 'sum', in the pinned program and in every row, IS THE sha256 OF THE DUMP (.gsa) THAT YtkooekdcegfapaaDoorProg.lean LOADS. Nothing in Lean hashes anything: it is a label: what it is worth is what the hold of that sum in a sandbox is worth. -/
noncomputable def Tryd.pinned : Pinned := { name := "ytkooekdcegfapaadoor", sum := "9a6dfd953f9cac500898e40b2340d22e0ea8d9a90e44807a4fc1a02ab37db771", checked := Tryd.checked }
namespace Rows
def none {H : Type} : Left H := { results := [], args := [] }

/- WHAT THE LISTED PACKAGE-LEVEL VARIABLES READ AS WHEN THE CALL BEGINS. Each datum BY PROGRAM (the guide's laid-datum.mjs) off the statement by which the dump's own 'gosem.cut.vars' lays the variable. In a bare row this is a premise. The card (YtkooekdcegfapaaDoorCards.lean) ties it to the program's text. -/
def laid_chargenet_calendar_lengths {H : Type} : DataW H := .agg [.lit (.int .i64 31), .lit (.int .i64 28), .lit (.int .i64 31), .lit (.int .i64 30), .lit (.int .i64 31), .lit (.int .i64 30), .lit (.int .i64 31), .lit (.int .i64 31), .lit (.int .i64 30), .lit (.int .i64 31), .lit (.int .i64 30), .lit (.int .i64 31)]

/-- 'chargenetlaw41.TariffValid': WHATEVER THE INPUT: true; the input reads as it did. -/
def tariffValidSpec : ChangeSpec := { name := "tariffValid", fn := fun _ => fun
  | [d] => { results := [.lit (.bool true)], args := [d] }
  | _ => none }
def tariffValidRow : OpenClaim := { program := "ytkooekdcegfapaadoor", sum := "9a6dfd953f9cac500898e40b2340d22e0ea8d9a90e44807a4fc1a02ab37db771", func := "chargenet/chargenetlaw41.TariffValid", spec := "tariffValid", unfollowed := true, recurses := true, named := ["chargenet/calendar.lengths"], apart := false, laid := [("chargenet/calendar.lengths", laid_chargenet_calendar_lengths)] }
def TariffValidSaid : Prop := tariffValidRow.holds Tryd.pinned (OpenSpec.ofChange tariffValidSpec)

/-- ITS FALSE NEIGHBOUR: 'it returns false'. Refute it at one input. -/
def tariffValidWrong : ChangeSpec := { name := "tariffValid", fn := fun _ => fun
  | [d] => { results := [.lit (.bool false)], args := [d] }
  | _ => none }
def TariffValidWrongFalsely : Prop := tariffValidRow.holds Tryd.pinned (OpenSpec.ofChange tariffValidWrong)

/-- 'chargenetlaw41.TariffHolds': WHATEVER THE INPUT: true; the input reads as it did. -/
def tariffHoldsSpec : ChangeSpec := { name := "tariffHolds", fn := fun _ => fun
  | [d1, d2] => { results := [.lit (.bool true)], args := [d1, d2] }
  | _ => none }
def tariffHoldsRow : OpenClaim := { program := "ytkooekdcegfapaadoor", sum := "9a6dfd953f9cac500898e40b2340d22e0ea8d9a90e44807a4fc1a02ab37db771", func := "chargenet/chargenetlaw41.TariffHolds", spec := "tariffHolds", unfollowed := true, recurses := true, named := ["chargenet/calendar.lengths"], apart := false, laid := [("chargenet/calendar.lengths", laid_chargenet_calendar_lengths)] }
def TariffHoldsSaid : Prop := tariffHoldsRow.holds Tryd.pinned (OpenSpec.ofChange tariffHoldsSpec)

/-- ITS FALSE NEIGHBOUR: 'it returns false'. Refute it at one input. -/
def tariffHoldsWrong : ChangeSpec := { name := "tariffHolds", fn := fun _ => fun
  | [d1, d2] => { results := [.lit (.bool false)], args := [d1, d2] }
  | _ => none }
def TariffHoldsWrongFalsely : Prop := tariffHoldsRow.holds Tryd.pinned (OpenSpec.ofChange tariffHoldsWrong)

/-- 'chargenetlaw41.TariffFind': WHATEVER THE INPUT: true; the input reads as it did. -/
def tariffFindSpec : ChangeSpec := { name := "tariffFind", fn := fun _ => fun
  | [d1, d2] => { results := [.lit (.bool true)], args := [d1, d2] }
  | _ => none }
def tariffFindRow : OpenClaim := { program := "ytkooekdcegfapaadoor", sum := "9a6dfd953f9cac500898e40b2340d22e0ea8d9a90e44807a4fc1a02ab37db771", func := "chargenet/chargenetlaw41.TariffFind", spec := "tariffFind", unfollowed := true, recurses := true, named := ["chargenet/calendar.lengths"], apart := false, laid := [("chargenet/calendar.lengths", laid_chargenet_calendar_lengths)] }
def TariffFindSaid : Prop := tariffFindRow.holds Tryd.pinned (OpenSpec.ofChange tariffFindSpec)

/-- ITS FALSE NEIGHBOUR: 'it returns false'. Refute it at one input. -/
def tariffFindWrong : ChangeSpec := { name := "tariffFind", fn := fun _ => fun
  | [d1, d2] => { results := [.lit (.bool false)], args := [d1, d2] }
  | _ => none }
def TariffFindWrongFalsely : Prop := tariffFindRow.holds Tryd.pinned (OpenSpec.ofChange tariffFindWrong)

/-- 'chargenetlaw41.TariffFree': WHATEVER THE INPUT: true; the input reads as it did. -/
def tariffFreeSpec : ChangeSpec := { name := "tariffFree", fn := fun _ => fun
  | [d1, d2] => { results := [.lit (.bool true)], args := [d1, d2] }
  | _ => none }
def tariffFreeRow : OpenClaim := { program := "ytkooekdcegfapaadoor", sum := "9a6dfd953f9cac500898e40b2340d22e0ea8d9a90e44807a4fc1a02ab37db771", func := "chargenet/chargenetlaw41.TariffFree", spec := "tariffFree", unfollowed := true, recurses := true, named := ["chargenet/calendar.lengths"], apart := false, laid := [("chargenet/calendar.lengths", laid_chargenet_calendar_lengths)] }
def TariffFreeSaid : Prop := tariffFreeRow.holds Tryd.pinned (OpenSpec.ofChange tariffFreeSpec)

/-- ITS FALSE NEIGHBOUR: 'it returns false'. Refute it at one input. -/
def tariffFreeWrong : ChangeSpec := { name := "tariffFree", fn := fun _ => fun
  | [d1, d2] => { results := [.lit (.bool false)], args := [d1, d2] }
  | _ => none }
def TariffFreeWrongFalsely : Prop := tariffFreeRow.holds Tryd.pinned (OpenSpec.ofChange tariffFreeWrong)

/-- 'chargenetlaw41.TariffOrder': WHATEVER THE INPUT: true; the input reads as it did. -/
def tariffOrderSpec : ChangeSpec := { name := "tariffOrder", fn := fun _ => fun
  | [d1, d2, d3] => { results := [.lit (.bool true)], args := [d1, d2, d3] }
  | _ => none }
def tariffOrderRow : OpenClaim := { program := "ytkooekdcegfapaadoor", sum := "9a6dfd953f9cac500898e40b2340d22e0ea8d9a90e44807a4fc1a02ab37db771", func := "chargenet/chargenetlaw41.TariffOrder", spec := "tariffOrder", unfollowed := true, recurses := true, named := ["chargenet/calendar.lengths"], apart := false, laid := [("chargenet/calendar.lengths", laid_chargenet_calendar_lengths)] }
def TariffOrderSaid : Prop := tariffOrderRow.holds Tryd.pinned (OpenSpec.ofChange tariffOrderSpec)

/-- ITS FALSE NEIGHBOUR: 'it returns false'. Refute it at one input. -/
def tariffOrderWrong : ChangeSpec := { name := "tariffOrder", fn := fun _ => fun
  | [d1, d2, d3] => { results := [.lit (.bool false)], args := [d1, d2, d3] }
  | _ => none }
def TariffOrderWrongFalsely : Prop := tariffOrderRow.holds Tryd.pinned (OpenSpec.ofChange tariffOrderWrong)

/-- 'chargenetlaw41.TariffLimits': WHATEVER THE INPUT: true; the input reads as it did. -/
def tariffLimitsSpec : ChangeSpec := { name := "tariffLimits", fn := fun _ => fun
  | [d1, d2] => { results := [.lit (.bool true)], args := [d1, d2] }
  | _ => none }
def tariffLimitsRow : OpenClaim := { program := "ytkooekdcegfapaadoor", sum := "9a6dfd953f9cac500898e40b2340d22e0ea8d9a90e44807a4fc1a02ab37db771", func := "chargenet/chargenetlaw41.TariffLimits", spec := "tariffLimits", unfollowed := true, recurses := true, named := ["chargenet/calendar.lengths"], apart := false, laid := [("chargenet/calendar.lengths", laid_chargenet_calendar_lengths)] }
def TariffLimitsSaid : Prop := tariffLimitsRow.holds Tryd.pinned (OpenSpec.ofChange tariffLimitsSpec)

/-- ITS FALSE NEIGHBOUR: 'it returns false'. Refute it at one input. -/
def tariffLimitsWrong : ChangeSpec := { name := "tariffLimits", fn := fun _ => fun
  | [d1, d2] => { results := [.lit (.bool false)], args := [d1, d2] }
  | _ => none }
def TariffLimitsWrongFalsely : Prop := tariffLimitsRow.holds Tryd.pinned (OpenSpec.ofChange tariffLimitsWrong)

/-- 'chargenetlaw41.TariffPick': WHATEVER THE INPUT: true; the input reads as it did. -/
def tariffPickSpec : ChangeSpec := { name := "tariffPick", fn := fun _ => fun
  | [d1, d2, d3] => { results := [.lit (.bool true)], args := [d1, d2, d3] }
  | _ => none }
def tariffPickRow : OpenClaim := { program := "ytkooekdcegfapaadoor", sum := "9a6dfd953f9cac500898e40b2340d22e0ea8d9a90e44807a4fc1a02ab37db771", func := "chargenet/chargenetlaw41.TariffPick", spec := "tariffPick", unfollowed := true, recurses := true, named := ["chargenet/calendar.lengths"], apart := false, laid := [("chargenet/calendar.lengths", laid_chargenet_calendar_lengths)] }
def TariffPickSaid : Prop := tariffPickRow.holds Tryd.pinned (OpenSpec.ofChange tariffPickSpec)

/-- ITS FALSE NEIGHBOUR: 'it returns false'. Refute it at one input. -/
def tariffPickWrong : ChangeSpec := { name := "tariffPick", fn := fun _ => fun
  | [d1, d2, d3] => { results := [.lit (.bool false)], args := [d1, d2, d3] }
  | _ => none }
def TariffPickWrongFalsely : Prop := tariffPickRow.holds Tryd.pinned (OpenSpec.ofChange tariffPickWrong)

/- THE SECOND FORM. 'bulk': how many values and letters a reading holds, each counted each time it is reached (what is shared counts as often as it is met; a slice's spare places count too). A statement '..UptoSaid' is the law's where the arguments, and the package variables that the reading takes, are together of bulk at most 1048576: NARROWER than '..Said'. Prove '..Said' where nothing that the law and all that it calls make is longer than what came in: it says more and counts as full. Else prove '..UptoSaid'. A law counts once. -/
mutual
def uptoBulk {H : Type} : DataW H → Nat
  | .lit (.string bytes) => bytes.length + 1
  | .lit _ => 1
  | .nil => 1
  | .ptr d => uptoBulk d + 1
  | .slice elems spare => uptoBulkAll elems + uptoBulkAll spare + 1
  | .agg parts => uptoBulkAll parts + 1
  | .iface _ d => uptoBulk d + 1
  | .map entries => uptoBulkEntries entries + 1
  | .held _ => 1
def uptoBulkAll {H : Type} : List (DataW H) → Nat
  | [] => 0
  | d :: r => uptoBulk d + uptoBulkAll r
def uptoBulkEntries {H : Type} : List (Lit × DataW H) → Nat
  | [] => 0
  | x :: r => uptoBulkEntry x + uptoBulkEntries r
def uptoBulkEntry {H : Type} : Lit × DataW H → Nat
  | (.string bytes, d) => bytes.length + uptoBulk d + 1
  | (_, d) => uptoBulk d + 1
 end
def uptoSmall : (H : Type) → List (DataW H) → Bool := fun _ ds => decide (uptoBulkAll ds ≤ 1048576)
def OpenSpec.upto (s : _root_.Go.ChangeSpec) : _root_.Go.OpenSpec := { _root_.Go.OpenSpec.ofChange s with cond := some uptoSmall }

/-- 'chargenetlaw41.TariffValid', WHERE WHAT IT READS IS OF BULK AT MOST 1048576: true; the input reads as it did. -/
def tariffValidUptoRow : OpenClaim := { program := "ytkooekdcegfapaadoor", sum := "9a6dfd953f9cac500898e40b2340d22e0ea8d9a90e44807a4fc1a02ab37db771", func := "chargenet/chargenetlaw41.TariffValid", spec := "tariffValid", unfollowed := true, recurses := true, named := ["chargenet/calendar.lengths"], apart := false, laid := [("chargenet/calendar.lengths", laid_chargenet_calendar_lengths)], narrowed := true }
def TariffValidUptoSaid : Prop := tariffValidUptoRow.holds Tryd.pinned (OpenSpec.upto tariffValidSpec)

/-- 'chargenetlaw41.TariffHolds', WHERE WHAT IT READS IS OF BULK AT MOST 1048576: true; the input reads as it did. -/
def tariffHoldsUptoRow : OpenClaim := { program := "ytkooekdcegfapaadoor", sum := "9a6dfd953f9cac500898e40b2340d22e0ea8d9a90e44807a4fc1a02ab37db771", func := "chargenet/chargenetlaw41.TariffHolds", spec := "tariffHolds", unfollowed := true, recurses := true, named := ["chargenet/calendar.lengths"], apart := false, laid := [("chargenet/calendar.lengths", laid_chargenet_calendar_lengths)], narrowed := true }
def TariffHoldsUptoSaid : Prop := tariffHoldsUptoRow.holds Tryd.pinned (OpenSpec.upto tariffHoldsSpec)

/-- 'chargenetlaw41.TariffFind', WHERE WHAT IT READS IS OF BULK AT MOST 1048576: true; the input reads as it did. -/
def tariffFindUptoRow : OpenClaim := { program := "ytkooekdcegfapaadoor", sum := "9a6dfd953f9cac500898e40b2340d22e0ea8d9a90e44807a4fc1a02ab37db771", func := "chargenet/chargenetlaw41.TariffFind", spec := "tariffFind", unfollowed := true, recurses := true, named := ["chargenet/calendar.lengths"], apart := false, laid := [("chargenet/calendar.lengths", laid_chargenet_calendar_lengths)], narrowed := true }
def TariffFindUptoSaid : Prop := tariffFindUptoRow.holds Tryd.pinned (OpenSpec.upto tariffFindSpec)

/-- 'chargenetlaw41.TariffFree', WHERE WHAT IT READS IS OF BULK AT MOST 1048576: true; the input reads as it did. -/
def tariffFreeUptoRow : OpenClaim := { program := "ytkooekdcegfapaadoor", sum := "9a6dfd953f9cac500898e40b2340d22e0ea8d9a90e44807a4fc1a02ab37db771", func := "chargenet/chargenetlaw41.TariffFree", spec := "tariffFree", unfollowed := true, recurses := true, named := ["chargenet/calendar.lengths"], apart := false, laid := [("chargenet/calendar.lengths", laid_chargenet_calendar_lengths)], narrowed := true }
def TariffFreeUptoSaid : Prop := tariffFreeUptoRow.holds Tryd.pinned (OpenSpec.upto tariffFreeSpec)

/-- 'chargenetlaw41.TariffOrder', WHERE WHAT IT READS IS OF BULK AT MOST 1048576: true; the input reads as it did. -/
def tariffOrderUptoRow : OpenClaim := { program := "ytkooekdcegfapaadoor", sum := "9a6dfd953f9cac500898e40b2340d22e0ea8d9a90e44807a4fc1a02ab37db771", func := "chargenet/chargenetlaw41.TariffOrder", spec := "tariffOrder", unfollowed := true, recurses := true, named := ["chargenet/calendar.lengths"], apart := false, laid := [("chargenet/calendar.lengths", laid_chargenet_calendar_lengths)], narrowed := true }
def TariffOrderUptoSaid : Prop := tariffOrderUptoRow.holds Tryd.pinned (OpenSpec.upto tariffOrderSpec)

/-- 'chargenetlaw41.TariffLimits', WHERE WHAT IT READS IS OF BULK AT MOST 1048576: true; the input reads as it did. -/
def tariffLimitsUptoRow : OpenClaim := { program := "ytkooekdcegfapaadoor", sum := "9a6dfd953f9cac500898e40b2340d22e0ea8d9a90e44807a4fc1a02ab37db771", func := "chargenet/chargenetlaw41.TariffLimits", spec := "tariffLimits", unfollowed := true, recurses := true, named := ["chargenet/calendar.lengths"], apart := false, laid := [("chargenet/calendar.lengths", laid_chargenet_calendar_lengths)], narrowed := true }
def TariffLimitsUptoSaid : Prop := tariffLimitsUptoRow.holds Tryd.pinned (OpenSpec.upto tariffLimitsSpec)

/-- 'chargenetlaw41.TariffPick', WHERE WHAT IT READS IS OF BULK AT MOST 1048576: true; the input reads as it did. -/
def tariffPickUptoRow : OpenClaim := { program := "ytkooekdcegfapaadoor", sum := "9a6dfd953f9cac500898e40b2340d22e0ea8d9a90e44807a4fc1a02ab37db771", func := "chargenet/chargenetlaw41.TariffPick", spec := "tariffPick", unfollowed := true, recurses := true, named := ["chargenet/calendar.lengths"], apart := false, laid := [("chargenet/calendar.lengths", laid_chargenet_calendar_lengths)], narrowed := true }
def TariffPickUptoSaid : Prop := tariffPickUptoRow.holds Tryd.pinned (OpenSpec.upto tariffPickSpec)

end Rows
end Go.Proofs.YtkooekdcegfapaaDoor
