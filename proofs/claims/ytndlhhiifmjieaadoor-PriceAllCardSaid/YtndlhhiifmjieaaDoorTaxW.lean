/-
  The walks of one charge's item: price.Net, tax.item, and the reference's.
-/
import Derived.Test.YtndlhhiifmjieaaDoorTaxS
namespace Go.Proofs.YtndlhhiifmjieaaDoor
namespace MonW
set_option linter.unusedSimpArgs false
set_option linter.unusedVariables false
open Go.RowKit

def isKind (k : Int) : Bool := decide (1 ≤ k ∧ k ≤ 4)
def unitOf (k : Int) : Nat := if k = 1 then 1 else if k = 2 then 60000 else if k = 3 ∨ k = 4 then 60 else 0
theorem unit_dn {k : Int} (h : isKind k = true) : Dn (unitOf k) := by
  have h := of_decide_eq_true h
  unfold unitOf Dn
  by_cases h1 : k = 1
  · simp [h1]
  · by_cases h2 : k = 2
    · simp [h2]
    · have : k = 3 ∨ k = 4 := by omega
      simp [h1, h2, this]
def validC (c : Chg) : Bool := decide (1 ≤ c.kind ∧ c.kind ≤ 4 ∧ 0 ≤ c.price ∧ c.price ≤ 1073741824 ∧ 0 ≤ c.tax ∧ c.tax ≤ 10000 ∧ 0 ≤ c.qty ∧ c.qty ≤ 35184372088832)
def netV (c : Chg) : Int := if validC c then scV c.qty c.price (unitOf c.kind) else 0
def netE (c : Chg) : Int := if validC c then scE c.qty c.price (unitOf c.kind) else 1

theorem retB' {a c : Bool} (h1 : a = c) : Ending.returned (.bool a) = .returned (.bool c) := by rw [h1]
theorem retI' {a c : Int} (h1 : a = c) : Ending.returned (.int .i64 a) = .returned (i c) := by rw [h1]

set_option maxHeartbeats 400000 in
theorem unit (k : Int) (w : World) : Calls Tryd.prog 15 #[i k] w fun e w' => e = .returned (i (unitOf k)) ∧ ∃ n, w' = w.drewN n := by
  have h : (unitOf k = 0 ∧ ((k == 1) = false ∧ (k == 2) = false ∧ (k == 3) = false ∧ (k == 4) = false)) ∨ (k = 1 ∨ k = 2 ∨ k = 3 ∨ k = 4) := by
    by_cases h : 1 ≤ k ∧ k ≤ 4
    · exact .inr (by omega)
    · exact .inl ⟨by unfold unitOf; rw [if_neg (by omega), if_neg (by omega), if_neg (by omega)], by simp; omega⟩
  rcases h with ⟨hk, h1, h2, h3, h4⟩ | rfl | rfl | rfl | rfl
  · have HK := Lib.hid hk
    clear hk
    go_enter Tryd.func15, Tryd.ntmps15
    go_wp2
    go_ret
    exact ⟨retI' (by rw [HK.out]; rfl), 0, rfl⟩
  all_goals
    go_enter Tryd.func15, Tryd.ntmps15
    go_wp2
    go_ret
    exact ⟨retI' rfl, 0, rfl⟩

set_option maxHeartbeats 400000 in
theorem runit (k : Int) (w : World) : Calls Tryd.prog 16 #[i k] w fun e w' => e = .returned (i (unitOf k)) ∧ ∃ n, w' = w.drewN n := by
  have h : (unitOf k = 0 ∧ ((k == 1) = false ∧ (k == 2) = false ∧ (k == 3) = false ∧ (k == 4) = false)) ∨ (k = 1 ∨ k = 2 ∨ k = 3 ∨ k = 4) := by
    by_cases h : 1 ≤ k ∧ k ≤ 4
    · exact .inr (by omega)
    · exact .inl ⟨by unfold unitOf; rw [if_neg (by omega), if_neg (by omega), if_neg (by omega)], by simp; omega⟩
  rcases h with ⟨hk, h1, h2, h3, h4⟩ | rfl | rfl | rfl | rfl
  · have HK := Lib.hid hk
    clear hk
    go_enter Tryd.func16, Tryd.ntmps16
    go_wp2
    go_ret
    exact ⟨retI' (by rw [HK.out]; rfl), 0, rfl⟩
  all_goals
    go_enter Tryd.func16, Tryd.ntmps16
    go_wp2
    go_ret
    exact ⟨retI' rfl, 0, rfl⟩

end MonW
end Go.Proofs.YtndlhhiifmjieaaDoor
