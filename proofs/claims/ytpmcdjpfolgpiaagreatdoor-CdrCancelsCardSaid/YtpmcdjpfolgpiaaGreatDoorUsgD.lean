/-
  Walks of meter.Delta and of the reference's Between.
-/
import Derived.Test.YtpmcdjpfolgpiaaGreatDoorBase
import Derived.Test.YtpmcdjpfolgpiaaGreatDoorMonB
import Derived.Test.YtpmcdjpfolgpiaaGreatDoorTarA
import Derived.Deep.LoopGhost
import Derived.Deep.QuietTactic
import Derived.BigQuiet
namespace Go.Proofs.YtpmcdjpfolgpiaaGreatDoor
namespace UsgD
set_option linter.unusedSimpArgs false
set_option linter.unusedVariables false
open Go.RowKit MonW

set_option maxRecDepth 100000 in
theorem delta (a b m : Int) (w : World) (hm : 1000 ≤ m) (hm2 : m ≤ 1099511627776) (ha : 0 ≤ a) (ha2 : a < m) (hb : 0 ≤ b) (hb2 : b < m) :
    Calls Tryz.prog 120 #[i a, i b, i m] w fun e w' => e = .returned (.tuple #[i ((b - a + m) % m), i 0]) ∧ w' = w := by
  have c1 : ¬ m < 1000 := by omega
  have c2 : ¬ 1099511627776 < m := by omega
  have c3 : ¬ a < 0 := by omega
  have c4 : ¬ m ≤ a := by omega
  have c5 : ¬ b < 0 := by omega
  have c6 : ¬ m ≤ b := by omega
  have hmz : ¬ m = 0 := by omega
  have hr : (b - a + m).tmod m = (b - a + m) % m := Int.tmod_eq_emod_of_nonneg (by omega)
  have hr1 : 0 ≤ (b - a + m) % m := Int.emod_nonneg _ (by omega)
  have hr2 : (b - a + m) % m < m := Int.emod_lt_of_pos _ (by omega)
  go_enter Tryz.func120, Tryz.ntmps120
  go_wp2_with fail
  go_ret2
  exact ⟨rfl, rfl⟩

set_option maxRecDepth 100000 in
theorem between (ta a tb b m : Int) (w : World) (hm : 1000 ≤ m) (hm2 : m ≤ 1099511627776) (ha : 0 ≤ a) (ha2 : a < m) (hb : 0 ≤ b) (hb2 : b < m) :
    Calls Tryz.prog 106 #[.agg #[i ta, i a], .agg #[i tb, i b], i m] w fun e w' => e = .returned (i ((b - a + m) % m)) ∧ Below w.heap.size w w' := by
  have hmz : ¬ m = 0 := by omega
  have h1 : (b - a).tmod m = b - a := by
    by_cases h : 0 ≤ b - a
    · exact Int.tmod_eq_of_lt h (by omega)
    · have : b - a = -(a - b) := by omega
      rw [this, Int.neg_tmod, Int.tmod_eq_of_lt (by omega) (by omega)]
  have hr : (b - a + m).tmod m = (b - a + m) % m := Int.tmod_eq_emod_of_nonneg (by omega)
  have hr1 : 0 ≤ (b - a + m) % m := Int.emod_nonneg _ (by omega)
  have hr2 : (b - a + m) % m < m := Int.emod_lt_of_pos _ (by omega)
  have he : (b - a + m) % m = (b - a) % m := by simp
  go_enter Tryz.func106, Tryz.ntmps106
  go_wp2_with fail
  go_ret
  exact ⟨by rw [he]; rfl, (by repeat (first | (with_reducible exact Below.refl _ _) | (with_reducible refine Below.alloc ?_ (by simp) _)))⟩
end UsgD
end Go.Proofs.YtpmcdjpfolgpiaaGreatDoor
