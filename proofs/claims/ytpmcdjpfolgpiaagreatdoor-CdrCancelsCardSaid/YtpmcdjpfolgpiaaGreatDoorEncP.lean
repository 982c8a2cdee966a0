/-
  The encoding of numbers and of fields in plain words; no program in sight.
  What is read back from the bytes of a number; no program in sight.
-/
import Derived.Test.YtpmcdjpfolgpiaaGreatDoorBase
namespace Go.Proofs.YtpmcdjpfolgpiaaGreatDoor
namespace Enc
set_option linter.unusedSimpArgs false
set_option linter.unusedVariables false

/-- The number that is written for n. -/
def zz (n : Int) : Nat := if 0 ≤ n then (2 * n).toNat else (-2 * n - 1).toNat
/-- The bytes of a number. -/
def encU (u : Nat) : List Int := if h : 128 ≤ u then ((u % 128 : Nat) + 128 : Int) :: encU (u / 128) else [(u : Int)]
termination_by u
decreasing_by omega
def encI (n : Int) : List Int := encU (zz n)
structure Fld where
  (tag : Int)
  (data : List Int)
def putF (l : List Fld) : List Int := l.flatMap fun f => encI f.tag ++ (encI f.data.length ++ f.data)
def putL (l : List (List Int)) : List Int := encI l.length ++ l.flatMap fun d => encI d.length ++ d
/-- The error of Put: field k of l. -/
def fldE (l : List Fld) (k : Nat) : Int := match l[k]? with
  | none => 0
  | some f => if f.tag < 1 ∨ 1000 < f.tag then 2 else match k with
    | 0 => 0
    | j + 1 => match l[j]? with
      | none => 0
      | some p => if f.tag ≤ p.tag then 1 else 0

theorem zz_lt {n : Int} (h : -9223372036854775808 ≤ n ∧ n ≤ 9223372036854775807) : zz n < 18446744073709551616 := by unfold zz; split <;> omega
theorem encU_big {u : Nat} (h : 128 ≤ u) : encU u = ((u % 128 : Nat) + 128 : Int) :: encU (u / 128) := by
  conv => lhs; unfold encU
  rw [dif_pos h]
theorem encU_small {u : Nat} (h : ¬ 128 ≤ u) : encU u = [(u : Int)] := by
  conv => lhs; unfold encU
  rw [dif_neg h]
theorem encU_len : ∀ (d u : Nat), u < 128 ^ d → (encU u).length ≤ d + 1
  | 0, u, h => by rw [encU_small (by omega)]; simp
  | d + 1, u, h => by
    by_cases hb : 128 ≤ u
    · rw [encU_big hb, List.length_cons]
      have := encU_len d (u / 128) (by rw [Nat.pow_succ] at h; omega)
      omega
    · rw [encU_small hb]; simp
theorem encI_len {n : Int} (h : -9223372036854775808 ≤ n ∧ n ≤ 9223372036854775807) : (encI n).length ≤ 11 := encU_len 10 _ (Nat.lt_of_lt_of_le (zz_lt h) (by decide))
/-- The bits of a number below zero, all turned. -/
theorem xor_ones (a : Nat) (h : a < 18446744073709551616) : a ^^^ 18446744073709551615 = 18446744073709551615 - a := by
  have e := congrArg BitVec.toNat (BitVec.xor_allOnes (x := BitVec.ofNat 64 a))
  rw [BitVec.toNat_xor, BitVec.toNat_not, BitVec.toNat_allOnes, BitVec.toNat_ofNat, Nat.mod_eq_of_lt (by omega)] at e
  simpa using e
end Enc
end Go.Proofs.YtpmcdjpfolgpiaaGreatDoor

namespace Go.Proofs.YtpmcdjpfolgpiaaGreatDoor
namespace Enc
set_option linter.unusedSimpArgs false
set_option linter.unusedVariables false

theorem encU_pos (u : Nat) : 0 < (encU u).length := by
  by_cases h : 128 ≤ u
  · rw [encU_big h]; simp
  · rw [encU_small h]; simp
theorem encU_at : ∀ (d u : Nat), u ≤ d → ∀ k (hk : k < (encU u).length), (encU u)[k] = if k + 1 < (encU u).length then ((u / 128 ^ k % 128 + 128 : Nat) : Int) else ((u / 128 ^ k : Nat) : Int) := by
  intro d
  induction d with
  | zero =>
    intro u hu k hk
    have e : encU u = [(u : Int)] := encU_small (by omega)
    simp only [e] at hk ⊢
    simp at hk
    subst hk
    simp
  | succ d ih =>
    intro u hu k hk
    by_cases h : 128 ≤ u
    · have e := encU_big h
      have hp := encU_pos (u / 128)
      simp only [e] at hk ⊢
      cases k with
      | zero =>
        simp only [List.getElem_cons_zero, List.length_cons]
        rw [if_pos (by omega)]
        simp
      | succ k =>
        simp only [List.getElem_cons_succ, List.length_cons]
        have hk2 : k < (encU (u / 128)).length := by simpa using hk
        rw [ih (u / 128) (by omega) k hk2]
        have e2 : u / 128 / 128 ^ k = u / 128 ^ (k + 1) := by rw [Nat.div_div_eq_div_mul, Nat.pow_succ, Nat.mul_comm]
        rw [e2]
        by_cases h3 : k + 1 < (encU (u / 128)).length
        · rw [if_pos h3, if_pos (by omega)]
        · rw [if_neg h3, if_neg (by omega)]
    · have e := encU_small h
      simp only [e] at hk ⊢
      simp at hk
      subst hk
      simp
theorem encU_top : ∀ (d u : Nat), u ≤ d → u < 128 ^ (encU u).length ∧ (1 < (encU u).length → 128 ^ ((encU u).length - 1) ≤ u) := by
  intro d
  induction d with
  | zero => intro u hu; rw [encU_small (by omega)]; simp; omega
  | succ d ih =>
    intro u hu
    by_cases h : 128 ≤ u
    · obtain ⟨h1, h2⟩ := ih (u / 128) (by omega)
      have hp := encU_pos (u / 128)
      rw [encU_big h, List.length_cons]
      refine ⟨?_, fun _ => ?_⟩
      · rw [Nat.pow_succ]; omega
      · rw [Nat.add_sub_cancel]
        by_cases h3 : 1 < (encU (u / 128)).length
        · have h4 := h2 h3
          obtain ⟨m, hm⟩ : ∃ m, (encU (u / 128)).length = m + 1 := ⟨_, (Nat.sub_add_cancel hp).symm⟩
          rw [hm] at h4 ⊢
          rw [Nat.add_sub_cancel] at h4
          rw [Nat.pow_succ]
          omega
        · rw [show (encU (u / 128)).length = 1 by omega]; omega
    · rw [encU_small h]; simp; omega
theorem encU_ten {u : Nat} (h : u < 18446744073709551616) : (encU u).length ≤ 10 := by
  obtain ⟨h1, h2⟩ := encU_top u u (Nat.le_refl _)
  by_cases hl : (encU u).length ≤ 10
  · exact hl
  · have h3 := h2 (by omega)
    have h4 : 128 ^ 10 ≤ 128 ^ ((encU u).length - 1) := Nat.pow_le_pow_right (by decide) (by omega)
    omega
theorem acc_step (u k : Nat) : u % 128 ^ (k + 1) = u % 128 ^ k + 128 ^ k * (u / 128 ^ k % 128) := Nat.mod_pow_succ
theorem or_step (a c k : Nat) (h : a < 128 ^ k) : a ||| c * 128 ^ k = a + c * 128 ^ k := by
  have e : 128 ^ k = 2 ^ (7 * k) := by rw [Nat.pow_mul]
  rw [e] at h ⊢
  have := Nat.shiftLeft_add_eq_or_of_lt h c
  rw [Nat.shiftLeft_eq] at this
  rw [Nat.or_comm, ← this, Nat.add_comm]
end Enc
end Go.Proofs.YtpmcdjpfolgpiaaGreatDoor
