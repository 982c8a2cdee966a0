/-
  The walks of one charge's item: price.Net, tax.item, and the reference's.
-/
import Derived.Test.YtpgpibojegjogaaTaxS
namespace Go.Proofs.Ytpgpibojegjogaa
namespace MonW
set_option linter.unusedSimpArgs false
set_option linter.unusedVariables false
open Go.RowKit

def isKind (k : Int) : Bool := decide (1 ≤ k ∧ k ≤ 4)
def unitOf (k : Int) : Nat := if k = 1 then 1 else if k = 2 then 60000 else if k = 3 ∨ k = 4 then 60 else 0
theorem unit_dn {k : Int} (h : isKind k = true) : Dn (unitOf k) := by
  have h := of_decide_eq_true h
  unfold unitOf Dn
  by_cases h1 : k = 1
  · simp [h1]
  · by_cases h2 : k = 2
    · simp [h2]
    · have : k = 3 ∨ k = 4 := by omega
      simp [h1, h2, this]
def validC (c : Chg) : Bool := decide (1 ≤ c.kind ∧ c.kind ≤ 4 ∧ 0 ≤ c.price ∧ c.price ≤ 1073741824 ∧ 0 ≤ c.tax ∧ c.tax ≤ 10000 ∧ 0 ≤ c.qty ∧ c.qty ≤ 35184372088832)
def netV (c : Chg) : Int := if validC c then scV c.qty c.price (unitOf c.kind) else 0
def netE (c : Chg) : Int := if validC c then scE c.qty c.price (unitOf c.kind) else 1

theorem retB' {a c : Bool} (h1 : a = c) : Ending.returned (.bool a) = .returned (.bool c) := by rw [h1]
theorem retI' {a c : Int} (h1 : a = c) : Ending.returned (.int .i64 a) = .returned (i c) := by rw [h1]

set_option maxHeartbeats 400000 in
theorem known (k : Int) (w : World) : Calls Try.prog 30 #[i k] w fun e w' => e = .returned (.bool (isKind k)) ∧ ∃ n, w' = w.drewN n := by
  have h : (isKind k = false ∧ ((k == 1) = false ∧ (k == 2) = false ∧ (k == 3) = false ∧ (k == 4) = false)) ∨ (isKind k = true ∧ (k = 1 ∨ k = 2 ∨ k = 3 ∨ k = 4)) := by
    unfold isKind
    by_cases h : 1 ≤ k ∧ k ≤ 4
    · exact .inr ⟨decide_eq_true h, by omega⟩
    · exact .inl ⟨decide_eq_false h, by simp; omega⟩
  rcases h with ⟨hk, h1, h2, h3, h4⟩ | ⟨hk, rfl | rfl | rfl | rfl⟩
  all_goals
    have HK := Lib.hid hk
    clear hk
    go_enter Try.func30, Try.ntmps30
    go_wp2
    go_ret
    exact ⟨retB' HK.out.symm, 0, rfl⟩

set_option maxHeartbeats 400000 in
theorem unit (k : Int) (w : World) : Calls Try.prog 41 #[i k] w fun e w' => e = .returned (i (unitOf k)) ∧ ∃ n, w' = w.drewN n := by
  have h : (unitOf k = 0 ∧ ((k == 1) = false ∧ (k == 2) = false ∧ (k == 3) = false ∧ (k == 4) = false)) ∨ (k = 1 ∨ k = 2 ∨ k = 3 ∨ k = 4) := by
    by_cases h : 1 ≤ k ∧ k ≤ 4
    · exact .inr (by omega)
    · exact .inl ⟨by unfold unitOf; rw [if_neg (by omega), if_neg (by omega), if_neg (by omega)], by simp; omega⟩
  rcases h with ⟨hk, h1, h2, h3, h4⟩ | rfl | rfl | rfl | rfl
  · have HK := Lib.hid hk
    clear hk
    go_enter Try.func41, Try.ntmps41
    go_wp2
    go_ret
    exact ⟨retI' (by rw [HK.out]; rfl), 0, rfl⟩
  all_goals
    go_enter Try.func41, Try.ntmps41
    go_wp2
    go_ret
    exact ⟨retI' rfl, 0, rfl⟩

set_option maxHeartbeats 400000 in
theorem runit (k : Int) (w : World) : Calls Try.prog 34 #[i k] w fun e w' => e = .returned (i (unitOf k)) ∧ ∃ n, w' = w.drewN n := by
  have h : (unitOf k = 0 ∧ ((k == 1) = false ∧ (k == 2) = false ∧ (k == 3) = false ∧ (k == 4) = false)) ∨ (k = 1 ∨ k = 2 ∨ k = 3 ∨ k = 4) := by
    by_cases h : 1 ≤ k ∧ k ≤ 4
    · exact .inr (by omega)
    · exact .inl ⟨by unfold unitOf; rw [if_neg (by omega), if_neg (by omega), if_neg (by omega)], by simp; omega⟩
  rcases h with ⟨hk, h1, h2, h3, h4⟩ | rfl | rfl | rfl | rfl
  · have HK := Lib.hid hk
    clear hk
    go_enter Try.func34, Try.ntmps34
    go_wp2
    go_ret
    exact ⟨retI' (by rw [HK.out]; rfl), 0, rfl⟩
  all_goals
    go_enter Try.func34, Try.ntmps34
    go_wp2
    go_ret
    exact ⟨retI' rfl, 0, rfl⟩

set_option maxHeartbeats 400000 in
theorem plus (a b : Int) (w : World) (ha : I64 a) (hb : I64 b) :
    Calls Try.prog 38 #[i a, i b] w fun e w' => e = .returned (.tuple #[i (sumV (a + b)), .bool (fitI (a + b))]) ∧ ∃ n, w' = w.drewN n := by
  unfold I64 at ha hb
  have hw : wrap64 (a + b) = sumV (a + b) ∨ fitI (a + b) = false := by
    by_cases h : -9223372036854775808 ≤ a + b ∧ a + b ≤ 9223372036854775807
    · left; unfold sumV fitI; rw [if_pos (decide_eq_true h)]; unfold wrap64; omega
    · right; exact decide_eq_false h
  have key : (fitI (a + b) = true ∧ ((0 < b ∧ ¬ 9223372036854775807 - b < a) ∨ (b < 0 ∧ ¬ 0 < b ∧ ¬ a < -9223372036854775808 - b) ∨ b = 0)) ∨ (fitI (a + b) = false ∧ ((0 < b ∧ 9223372036854775807 - b < a) ∨ (b < 0 ∧ ¬ 0 < b ∧ a < -9223372036854775808 - b))) := by
    by_cases h : -9223372036854775808 ≤ a + b ∧ a + b ≤ 9223372036854775807
    · exact .inl ⟨decide_eq_true h, by omega⟩
    · exact .inr ⟨decide_eq_false h, by omega⟩
  have HW := Lib.hid hw
  clear hw
  rcases key with ⟨hf, h⟩ | ⟨hf, h⟩
  · have HV : Hid (sumV (a + b) = a + b ∧ fitI (a + b) = true) := by show _ ∧ _; unfold sumV; rw [hf]; simp
    have hab : -9223372036854775808 ≤ a + b ∧ a + b ≤ 9223372036854775807 := of_decide_eq_true hf
    clear hf
    rcases h with ⟨h1, h2⟩ | ⟨h1, h2, h3⟩ | rfl
    all_goals
      go_enter Try.func38, Try.ntmps38
      go_wp2_with fail
      go_ret2
      exact ⟨retIB (by rw [HV.out.1]; try omega) HV.out.2.symm, 0, rfl⟩
  · have HV : Hid (sumV (a + b) = 0 ∧ fitI (a + b) = false) := by show _ ∧ _; unfold sumV; rw [hf]; simp
    clear hf
    rcases h with ⟨h1, h2⟩ | ⟨h1, h2, h3⟩
    all_goals
      go_enter Try.func38, Try.ntmps38
      go_wp2_with fail
      go_ret2
      exact ⟨retIB HV.out.1.symm HV.out.2.symm, 0, rfl⟩
end MonW
end Go.Proofs.Ytpgpibojegjogaa
