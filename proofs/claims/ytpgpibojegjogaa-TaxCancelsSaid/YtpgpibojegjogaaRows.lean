/-
  No cell of these rows narrows 'for every input' (looked for: loops, veiled, ifaces, maps, wideKeys, modest, calm, conditions, laid).
  DERIVED. THE GIVEN ROWS OF THIS SEAT. 4 by the template 'for every input the law returns true; each argument reads behind the call as it read before'; 0 by the template 'total and deterministic' (their statements: YtpgpibojegjogaaTotals.lean).
  GIVEN WITH THE SEED: the statements are not yours to turn. If you find one false, say at which input.
  Laid BY PROGRAM, IN A SANDBOX (cutbox-rows.mjs): the forced cells as the released guide's own fill.sh prints them over the translation a5fe21a0457a9a8c… (all of the seat's roots in one cut). By AI agents, Wed Nov 11 2026. No macro, syntax, notation, axiom, sorry.
-/
import Derived.Test.YtpgpibojegjogaaChecked
import GoSem.Claim
import GoSem.ClaimJoined
import GoSem.ClaimMapViews
import Derived.JoinedTies
import Derived.KernelRfl
namespace Go.Proofs.Ytpgpibojegjogaa
/- THE CELL 'sum', in the pinned program and in every row, IS THE sha256 OF THE DUMP (.gsa) THAT YtpgpibojegjogaaProg.lean LOADS. Nothing in Lean hashes anything: it is a label: what it is worth is what the hold of that sum in a sandbox is worth. -/
noncomputable def Try.pinned : Pinned := { name := "ytpgpibojegjogaa", sum := "a5fe21a0457a9a8c7ab3eeb82ff0be0dcce604f705c17fde2d6629300edea337", checked := Try.checked }
namespace Rows
def none {H : Type} : Left H := { results := [], args := [] }

/-- 'chargenetlaw43.TaxItems': WHATEVER THE INPUT: true; the input reads as it did. -/
def taxItemsSpec : ChangeSpec := { name := "taxItems", fn := fun _ => fun
  | [d] => { results := [.lit (.bool true)], args := [d] }
  | _ => none }
def taxItemsRow : OpenClaim := { program := "ytpgpibojegjogaa", sum := "a5fe21a0457a9a8c7ab3eeb82ff0be0dcce604f705c17fde2d6629300edea337", func := "chargenet/chargenetlaw43.TaxItems", spec := "taxItems", inPlace := ["math/bits.Add64"], unfollowed := true, recurses := true, named := ["math/bits.divideError", "math/bits.overflowError"], apart := false }
def TaxItemsSaid : Prop := taxItemsRow.holds Try.pinned (OpenSpec.ofChange taxItemsSpec)

/-- ITS FALSE NEIGHBOUR: 'it returns false'. Refute it at one input. -/
def taxItemsWrong : ChangeSpec := { name := "taxItems", fn := fun _ => fun
  | [d] => { results := [.lit (.bool false)], args := [d] }
  | _ => none }
def TaxItemsWrongFalsely : Prop := taxItemsRow.holds Try.pinned (OpenSpec.ofChange taxItemsWrong)

/-- 'chargenetlaw43.TaxTotals': WHATEVER THE INPUT: true; the input reads as it did. -/
def taxTotalsSpec : ChangeSpec := { name := "taxTotals", fn := fun _ => fun
  | [d] => { results := [.lit (.bool true)], args := [d] }
  | _ => none }
def taxTotalsRow : OpenClaim := { program := "ytpgpibojegjogaa", sum := "a5fe21a0457a9a8c7ab3eeb82ff0be0dcce604f705c17fde2d6629300edea337", func := "chargenet/chargenetlaw43.TaxTotals", spec := "taxTotals", inPlace := ["math/bits.Add64"], unfollowed := true, recurses := true, named := ["math/bits.divideError", "math/bits.overflowError"], apart := false }
def TaxTotalsSaid : Prop := taxTotalsRow.holds Try.pinned (OpenSpec.ofChange taxTotalsSpec)

/-- ITS FALSE NEIGHBOUR: 'it returns false'. Refute it at one input. -/
def taxTotalsWrong : ChangeSpec := { name := "taxTotals", fn := fun _ => fun
  | [d] => { results := [.lit (.bool false)], args := [d] }
  | _ => none }
def TaxTotalsWrongFalsely : Prop := taxTotalsRow.holds Try.pinned (OpenSpec.ofChange taxTotalsWrong)

/-- 'chargenetlaw43.TaxCancels': WHATEVER THE INPUT: true; the input reads as it did. -/
def taxCancelsSpec : ChangeSpec := { name := "taxCancels", fn := fun _ => fun
  | [d1, d2] => { results := [.lit (.bool true)], args := [d1, d2] }
  | _ => none }
def taxCancelsRow : OpenClaim := { program := "ytpgpibojegjogaa", sum := "a5fe21a0457a9a8c7ab3eeb82ff0be0dcce604f705c17fde2d6629300edea337", func := "chargenet/chargenetlaw43.TaxCancels", spec := "taxCancels", inPlace := ["math/bits.Add64"], unfollowed := true, recurses := true, named := ["math/bits.divideError", "math/bits.overflowError"], apart := false }
def TaxCancelsSaid : Prop := taxCancelsRow.holds Try.pinned (OpenSpec.ofChange taxCancelsSpec)

/-- ITS FALSE NEIGHBOUR: 'it returns false'. Refute it at one input. -/
def taxCancelsWrong : ChangeSpec := { name := "taxCancels", fn := fun _ => fun
  | [d1, d2] => { results := [.lit (.bool false)], args := [d1, d2] }
  | _ => none }
def TaxCancelsWrongFalsely : Prop := taxCancelsRow.holds Try.pinned (OpenSpec.ofChange taxCancelsWrong)

/-- 'chargenetlaw43.TaxNegates': WHATEVER THE INPUT: true; the input reads as it did. -/
def taxNegatesSpec : ChangeSpec := { name := "taxNegates", fn := fun _ => fun
  | [d] => { results := [.lit (.bool true)], args := [d] }
  | _ => none }
def taxNegatesRow : OpenClaim := { program := "ytpgpibojegjogaa", sum := "a5fe21a0457a9a8c7ab3eeb82ff0be0dcce604f705c17fde2d6629300edea337", func := "chargenet/chargenetlaw43.TaxNegates", spec := "taxNegates", inPlace := ["math/bits.Add64"], unfollowed := true, recurses := true, named := ["math/bits.divideError", "math/bits.overflowError"], apart := false }
def TaxNegatesSaid : Prop := taxNegatesRow.holds Try.pinned (OpenSpec.ofChange taxNegatesSpec)

/-- ITS FALSE NEIGHBOUR: 'it returns false'. Refute it at one input. -/
def taxNegatesWrong : ChangeSpec := { name := "taxNegates", fn := fun _ => fun
  | [d] => { results := [.lit (.bool false)], args := [d] }
  | _ => none }
def TaxNegatesWrongFalsely : Prop := taxNegatesRow.holds Try.pinned (OpenSpec.ofChange taxNegatesWrong)

/- THE SECOND FORM. 'bulk': how many values and letters a reading holds, each counted each time it is reached (what is shared counts as often as it is met; a slice's spare places count too). A statement '..UptoSaid' is the law's where the arguments, and the package variables that the reading takes, are together of bulk at most 1048576: NARROWER than '..Said'. Prove '..Said' where nothing that the law and all that it calls make is longer than what came in: it says more and counts as full. Else prove '..UptoSaid'. A law counts once. -/
mutual
def uptoBulk {H : Type} : DataW H → Nat
  | .lit (.string bytes) => bytes.length + 1
  | .lit _ => 1
  | .nil => 1
  | .ptr d => uptoBulk d + 1
  | .slice elems spare => uptoBulkAll elems + uptoBulkAll spare + 1
  | .agg parts => uptoBulkAll parts + 1
  | .iface _ d => uptoBulk d + 1
  | .map entries => uptoBulkEntries entries + 1
  | .held _ => 1
def uptoBulkAll {H : Type} : List (DataW H) → Nat
  | [] => 0
  | d :: r => uptoBulk d + uptoBulkAll r
def uptoBulkEntries {H : Type} : List (Lit × DataW H) → Nat
  | [] => 0
  | x :: r => uptoBulkEntry x + uptoBulkEntries r
def uptoBulkEntry {H : Type} : Lit × DataW H → Nat
  | (.string bytes, d) => bytes.length + uptoBulk d + 1
  | (_, d) => uptoBulk d + 1
 end
def uptoSmall : (H : Type) → List (DataW H) → Bool := fun _ ds => decide (uptoBulkAll ds ≤ 1048576)
def OpenSpec.upto (s : _root_.Go.ChangeSpec) : _root_.Go.OpenSpec := { _root_.Go.OpenSpec.ofChange s with cond := some uptoSmall }

/-- 'chargenetlaw43.TaxItems', WHERE WHAT IT READS IS OF BULK AT MOST 1048576: true; the input reads as it did. -/
def taxItemsUptoRow : OpenClaim := { program := "ytpgpibojegjogaa", sum := "a5fe21a0457a9a8c7ab3eeb82ff0be0dcce604f705c17fde2d6629300edea337", func := "chargenet/chargenetlaw43.TaxItems", spec := "taxItems", inPlace := ["math/bits.Add64"], unfollowed := true, recurses := true, named := ["math/bits.divideError", "math/bits.overflowError"], apart := false, narrowed := true }
def TaxItemsUptoSaid : Prop := taxItemsUptoRow.holds Try.pinned (OpenSpec.upto taxItemsSpec)

/-- 'chargenetlaw43.TaxTotals', WHERE WHAT IT READS IS OF BULK AT MOST 1048576: true; the input reads as it did. -/
def taxTotalsUptoRow : OpenClaim := { program := "ytpgpibojegjogaa", sum := "a5fe21a0457a9a8c7ab3eeb82ff0be0dcce604f705c17fde2d6629300edea337", func := "chargenet/chargenetlaw43.TaxTotals", spec := "taxTotals", inPlace := ["math/bits.Add64"], unfollowed := true, recurses := true, named := ["math/bits.divideError", "math/bits.overflowError"], apart := false, narrowed := true }
def TaxTotalsUptoSaid : Prop := taxTotalsUptoRow.holds Try.pinned (OpenSpec.upto taxTotalsSpec)

/-- 'chargenetlaw43.TaxCancels', WHERE WHAT IT READS IS OF BULK AT MOST 1048576: true; the input reads as it did. -/
def taxCancelsUptoRow : OpenClaim := { program := "ytpgpibojegjogaa", sum := "a5fe21a0457a9a8c7ab3eeb82ff0be0dcce604f705c17fde2d6629300edea337", func := "chargenet/chargenetlaw43.TaxCancels", spec := "taxCancels", inPlace := ["math/bits.Add64"], unfollowed := true, recurses := true, named := ["math/bits.divideError", "math/bits.overflowError"], apart := false, narrowed := true }
def TaxCancelsUptoSaid : Prop := taxCancelsUptoRow.holds Try.pinned (OpenSpec.upto taxCancelsSpec)

/-- 'chargenetlaw43.TaxNegates', WHERE WHAT IT READS IS OF BULK AT MOST 1048576: true; the input reads as it did. -/
def taxNegatesUptoRow : OpenClaim := { program := "ytpgpibojegjogaa", sum := "a5fe21a0457a9a8c7ab3eeb82ff0be0dcce604f705c17fde2d6629300edea337", func := "chargenet/chargenetlaw43.TaxNegates", spec := "taxNegates", inPlace := ["math/bits.Add64"], unfollowed := true, recurses := true, named := ["math/bits.divideError", "math/bits.overflowError"], apart := false, narrowed := true }
def TaxNegatesUptoSaid : Prop := taxNegatesUptoRow.holds Try.pinned (OpenSpec.upto taxNegatesSpec)

end Rows
end Go.Proofs.Ytpgpibojegjogaa
