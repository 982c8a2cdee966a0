/-
  Sums: money.Sum and the reference's Sum: the exact sum, or the error.
-/
import Derived.Test.YtndlhhiifmjieaaDoorTaxD
import Derived.Test.YtndlhhiifmjieaaDoorMonT
namespace Go.Proofs.YtndlhhiifmjieaaDoor
namespace MonW
set_option linter.unusedSimpArgs false
set_option linter.unusedVariables false
open Go.RowKit

def tot : List Int → Int
  | [] => 0
  | x :: xs => x + tot xs
theorem tot_append : ∀ (xs ys : List Int), tot (xs ++ ys) = tot xs + tot ys
  | [], ys => by simp [tot]
  | x :: xs, ys => by rw [List.cons_append, tot, tot, tot_append xs ys]; omega
theorem tot_take {xs : List Int} {k : Nat} (hk : k < xs.length) : tot (xs.take (k + 1)) = tot (xs.take k) + xs[k] := by
  rw [List.take_succ_eq_append_getElem hk, tot_append]
  simp [tot]
theorem tot_bound : ∀ (xs : List Int), (∀ x ∈ xs, I64 x) → -9223372036854775808 * (xs.length : Int) ≤ tot xs ∧ tot xs ≤ 9223372036854775807 * (xs.length : Int)
  | [], _ => by simp [tot]
  | x :: xs, h => by
    have h1 := tot_bound xs (fun y hy => h y (by simp [hy]))
    have h2 := h x (by simp)
    unfold I64 at h2
    rw [tot, List.length_cons]
    omega

theorem tot_abs {xs : List Int} {c : Nat} (h : ∀ x ∈ xs, I64 x) (h1 : xs.length ≤ c) (h2 : c ≤ maxLen) : (tot xs).natAbs < 170141183460469231731687303715884105728 := by
  have := tot_bound xs h
  unfold maxLen at h2
  omega
theorem allI {w : World} {v : Value} {xs : List Int} (h : IntsAt w v xs) : ∀ x ∈ xs, I64 x := by
  intro x hx
  obtain ⟨A, c, rfl, _⟩ := SliceAt.form h
  obtain ⟨j, hj, rfl⟩ := List.getElem_of_mem hx
  obtain ⟨b, off, _, _, hok, _⟩ := IntsAt.at_ h hj
  exact hok

/-- The two words of the sum S. -/
def St (S : Int) (hi lo : Nat) : Prop := hi < 18446744073709551616 ∧ lo < 18446744073709551616 ∧ (hi : Int) * 18446744073709551616 + lo = S % 340282366920938463463374607431768211456
theorem st_zero : St 0 0 0 := ⟨by decide, by decide, by decide⟩
def un (n : Int) : Nat := (n % 18446744073709551616).toNat
def stLo (lo : Nat) (n : Int) : Nat := (lo + un n) % 18446744073709551616
def stHi (hi lo : Nat) (n : Int) : Nat := ((hi : Int) + (((lo + un n) / 18446744073709551616 : Nat) : Int) - (if n < 0 then 1 else 0)) % 18446744073709551616 |>.toNat
theorem st_step {S n : Int} {hi lo : Nat} (h : St S hi lo) (hn : I64 n) : St (S + n) (stHi hi lo n) (stLo lo n) := by
  obtain ⟨h1, h2, h3⟩ := h
  unfold I64 at hn
  unfold St stHi stLo un
  split <;> refine ⟨by omega, by omega, by omega⟩

def fitI (S : Int) : Bool := decide (-9223372036854775808 ≤ S ∧ S ≤ 9223372036854775807)
def sumV (S : Int) : Int := if fitI S then S else 0
def sumE (S : Int) : Int := if fitI S then 0 else 20
theorem st_yes {S : Int} {hi lo : Nat} (h : St S hi lo) (hS : S.natAbs < 170141183460469231731687303715884105728) (hf : fitI S = true) : wrap64 lo = S ∧ ((hi = 0 ∧ lo < 9223372036854775808) ∨ (hi = 18446744073709551615 ∧ 9223372036854775808 ≤ lo)) := by
  obtain ⟨h1, h2, h3⟩ := h
  unfold fitI at hf
  have hf := of_decide_eq_true hf
  unfold wrap64
  omega
theorem st_no {S : Int} {hi lo : Nat} (h : St S hi lo) (hS : S.natAbs < 170141183460469231731687303715884105728) (hf : fitI S = false) : ¬ ((hi = 0 ∧ lo < 9223372036854775808) ∨ (hi = 18446744073709551615 ∧ 9223372036854775808 ≤ lo)) := by
  obtain ⟨h1, h2, h3⟩ := h
  unfold fitI at hf
  have hf := of_decide_eq_false hf
  omega

theorem hi_cases {hi lo : Nat} (hl : lo < 18446744073709551616) (h : ¬ ((hi = 0 ∧ lo < 9223372036854775808) ∨ (hi = 18446744073709551615 ∧ 9223372036854775808 ≤ lo))) :
    (((hi : Int) != 0) = true ∧ ((hi : Int) != 18446744073709551615) = true) ∨ (hi = 0 ∧ ∃ z : Unit, True ∧ ¬ 0 ≤ wrap64 lo) ∨ (hi = 18446744073709551615 ∧ ∃ z : Unit, True ∧ 0 ≤ wrap64 lo) := by
  by_cases h0 : hi = 0
  · exact .inr (.inl ⟨h0, (), trivial, by unfold wrap64; omega⟩)
  · by_cases h1 : hi = 18446744073709551615
    · exact .inr (.inr ⟨h1, (), trivial, by unfold wrap64; omega⟩)
    · exact .inl ⟨bne_iff_ne.2 (by omega), bne_iff_ne.2 (by omega)⟩
theorem hi_yes {S : Int} {hi lo : Nat} (hl : lo < 18446744073709551616) (h : wrap64 lo = S ∧ ((hi = 0 ∧ lo < 9223372036854775808) ∨ (hi = 18446744073709551615 ∧ 9223372036854775808 ≤ lo))) : wrap64 lo = S ∧ ((hi = 0 ∧ 0 ≤ S) ∨ (hi = 18446744073709551615 ∧ S < 0)) := by
  refine ⟨h.1, ?_⟩
  have h1 := h.1
  unfold wrap64 at h1
  omega

theorem hi1 {hi lo : Nat} {n : Int} (hn : n < 0) : IntKind.u64.wrap (IntKind.u64.wrap ((hi : Int) + (((lo + un n) / 18446744073709551616 : Nat) : Int)) - 1) = (stHi hi lo n : Int) := by
  rw [wrapU, wrapU]; unfold stHi; rw [if_pos hn]; omega
theorem hi0 {hi lo : Nat} {n : Int} (hn : ¬ n < 0) : IntKind.u64.wrap ((hi : Int) + (((lo + un n) / 18446744073709551616 : Nat) : Int)) = (stHi hi lo n : Int) := by
  rw [wrapU]; unfold stHi; rw [if_neg hn]; omega

theorem rhi_no {hi lo : Nat} (hl : lo < 18446744073709551616) (h : ¬ ((hi = 0 ∧ lo < 9223372036854775808) ∨ (hi = 18446744073709551615 ∧ 9223372036854775808 ≤ lo))) :
    (0 ≤ wrap64 lo ∧ ((hi : Int) == 0) = false) ∨ (¬ 0 ≤ wrap64 lo ∧ ((hi : Int) == 18446744073709551615) = false) := by
  by_cases h0 : 0 ≤ wrap64 lo
  · exact .inl ⟨h0, beq_eq_false_iff_ne.2 (by unfold wrap64 at h0; omega)⟩
  · exact .inr ⟨h0, beq_eq_false_iff_ne.2 (by unfold wrap64 at h0; omega)⟩
theorem rhi_yes {S : Int} {hi lo : Nat} (hl : lo < 18446744073709551616) (h : wrap64 lo = S ∧ ((hi = 0 ∧ lo < 9223372036854775808) ∨ (hi = 18446744073709551615 ∧ 9223372036854775808 ≤ lo))) :
    (0 ≤ wrap64 lo ∧ ((hi : Int) == 0) = true) ∨ (¬ 0 ≤ wrap64 lo ∧ ((hi : Int) == 18446744073709551615) = true) := by
  by_cases h0 : 0 ≤ wrap64 lo
  · exact .inl ⟨h0, beq_iff_eq.2 (by unfold wrap64 at h0; omega)⟩
  · exact .inr ⟨h0, beq_iff_eq.2 (by unfold wrap64 at h0; omega)⟩

theorem rlo (lo : Nat) (n : Int) : IntKind.u64.wrap ((lo : Int) + IntKind.u64.wrap n) = (stLo lo n : Int) := by
  rw [wrapU, wrapU]; unfold stLo un; omega
theorem rhi1 {hi lo : Nat} {n : Int} (hn : n < 0) (hl : lo < 18446744073709551616) (hc : (stLo lo n : Int) < IntKind.u64.wrap n) : IntKind.u64.wrap (IntKind.u64.wrap ((hi : Int) - 1) + 1) = (stHi hi lo n : Int) := by
  rw [wrapU] at hc; rw [wrapU, wrapU]; unfold stLo un at hc; unfold stHi un; rw [if_pos hn]; omega
theorem rhi2 {hi lo : Nat} {n : Int} (hn : n < 0) (hl : lo < 18446744073709551616) (hc : ¬ (stLo lo n : Int) < IntKind.u64.wrap n) : IntKind.u64.wrap ((hi : Int) - 1) = (stHi hi lo n : Int) := by
  rw [wrapU] at hc; rw [wrapU]; unfold stLo un at hc; unfold stHi un; rw [if_pos hn]; omega
theorem rhi3 {hi lo : Nat} {n : Int} (hn : ¬ n < 0) (hl : lo < 18446744073709551616) (hc : (stLo lo n : Int) < IntKind.u64.wrap n) : IntKind.u64.wrap ((hi : Int) + 1) = (stHi hi lo n : Int) := by
  rw [wrapU] at hc; rw [wrapU]; unfold stLo un at hc; unfold stHi un; rw [if_neg hn]; omega
theorem rhi4 {hi lo : Nat} {n : Int} (hn : ¬ n < 0) (hh : hi < 18446744073709551616) (hl : lo < 18446744073709551616) (hc : ¬ (stLo lo n : Int) < IntKind.u64.wrap n) : (hi : Int) = (stHi hi lo n : Int) := by
  rw [wrapU] at hc; unfold stLo un at hc; unfold stHi un; rw [if_neg hn]; omega

end MonW
end Go.Proofs.YtndlhhiifmjieaaDoor
