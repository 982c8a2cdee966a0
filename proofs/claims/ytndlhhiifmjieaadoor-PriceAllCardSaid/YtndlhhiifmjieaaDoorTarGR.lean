/-
  The walk of the reference's Find.
-/
import Derived.Test.YtndlhhiifmjieaaDoorTarG
namespace Go.Proofs.YtndlhhiifmjieaaDoor
namespace TarW
set_option linter.unusedSimpArgs false
set_option linter.unusedVariables false
open Go.RowKit CalW

theorem fnd_end (p : Comp → Bool) (cs : List Comp) (j : Nat) (hj : cs.length ≤ j) : (cs.drop j).find? p = none := by
  rw [List.drop_eq_nil_of_le hj]; rfl
theorem fnd_no {p : Comp → Bool} {cs : List Comp} {j : Nat} (hj : j < cs.length) (h : p cs[j] = false) : (cs.drop j).find? p = (cs.drop (j + 1)).find? p := by
  rw [List.drop_eq_getElem_cons hj, List.find?_cons, h]
theorem fnd_yes {p : Comp → Bool} {cs : List Comp} {j : Nat} (hj : j < cs.length) (h : p cs[j] = true) : (cs.drop j).find? p = some cs[j] := by
  rw [List.drop_eq_getElem_cons hj, List.find?_cons, h]

end TarW
end Go.Proofs.YtndlhhiifmjieaaDoor
