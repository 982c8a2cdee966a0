/-
  The walks of math/bits: LeadingZeros64 and Div64 at the program's divisors.
-/
import Derived.Test.YtndlhhiifmjieaaDoorMonW
import Derived.Lib.Tables
import Derived.Deep.Cut
namespace Go.Proofs.YtndlhhiifmjieaaDoor
namespace MonW
set_option linter.unusedSimpArgs false
set_option linter.unusedVariables false
open Go.RowKit

/-- The divisors that the program divides by, and their leading zeros. -/
def Den (y s : Nat) : Prop := (y = 60 ∧ s = 58) ∨ (y = 60000 ∧ s = 48) ∨ (y = 10000 ∧ s = 50)

theorem l60 : Lib.len8 60 = 6 := by decide +kernel
theorem l234 : Lib.len8 234 = 8 := by decide +kernel
theorem l39 : Lib.len8 39 = 6 := by decide +kernel

set_option maxHeartbeats 4000000 in
theorem len64 {y s : Nat} (h : Den y s) (w : World) :
    Calls Tryd.prog 68 #[u y] w fun e w' => e = .returned (i (64 - (s : Int))) ∧ w' = w := by
  rcases h with ⟨rfl, rfl⟩ | ⟨rfl, rfl⟩ | ⟨rfl, rfl⟩
  all_goals
    go_enter Tryd.func68, Tryd.ntmps68
    go_wp2
    all_goals go_ret
    refine ⟨congrArg Ending.returned (congrArg (Value.int IntKind.i64) ?_), rfl⟩
    simp only [l60, l234, l39]
    unfold wrap64
    omega

set_option maxHeartbeats 4000000 in
theorem lz64 {y s : Nat} (h : Den y s) (w : World) :
    Calls Tryd.prog 60 #[u y] w fun e w' => e = .returned (i (s : Int)) ∧ w' = w := by
  have hs : s ≤ 58 := by rcases h with ⟨_, rfl⟩ | ⟨_, rfl⟩ | ⟨_, rfl⟩ <;> decide
  go_enter Tryd.func60, Tryd.ntmps60
  go_wp2_with (go_at_call 68; refine (len64 h _).mono ?_; rintro e w' ⟨rfl, rfl⟩)
  all_goals go_ret
  exact ⟨congrArg (fun x => Ending.returned (i x)) (by omega), rfl⟩

/-- hi<<s | lo>>(64-s). -/
theorem or_shift (a b S : Nat) (k : Nat) (hS : S = 2 ^ k) (hb : b < S) (h : a * S + b < 18446744073709551616) :
    bits .or .u64 ((a * S : Nat) : Int) (b : Int) = ((a * S + b : Nat) : Int) := by
  rw [bits_or_u64_nat _ _ (by omega) (by omega)]
  subst hS
  rw [Nat.mul_comm a, Nat.two_pow_add_eq_or_of_lt hb]

end MonW
end Go.Proofs.YtndlhhiifmjieaaDoor
