/-
  Usage in plain words: readings, the energy of each minute, what each minute uses; no program in sight.
-/
import Derived.Test.YtpmcdjpfolgpiaaGreatDoorTarV
namespace Go.Proofs.YtpmcdjpfolgpiaaGreatDoor
namespace Usg
set_option linter.unusedSimpArgs false
set_option linter.unusedVariables false
open Go.RowKit

structure Rdg where
  (at_ reg : Int)
  deriving DecidableEq

/-- The error of reading k. -/
def rdgE (l : List Rdg) (m : Int) (k : Nat) : Int := match l[k]? with
  | none => 0
  | some r => if r.at_ < 0 ∨ 268435456 < r.at_ ∨ r.reg < 0 ∨ m ≤ r.reg then 2 else match k with
    | 0 => 0
    | j + 1 => match l[j]? with
      | none => 0
      | some p => if r.at_ ≤ p.at_ then 1 else 0
def useE (l : List Rdg) (m : Int) : Int :=
  if m < 1000 ∨ 1099511627776 < m then 2 else if l.length = 0 then 1 else if 1024 < l.length then 3 else TarW.scan (rdgE l m) l.length 0
def delta (a b m : Int) : Int := (b - a + m) % m
/-- Minute k of n, in which an energy flows. -/
def part (en n k : Int) : Int := en * (k + 1) / n - en * k / n
def parts (en : Int) (n : Nat) : List Int := (List.range n).map fun (k : Nat) => part en (n : Int) (k : Int)
def mins (m : Int) : List Rdg → List Int
  | a :: b :: l => parts (delta a.reg b.reg m) (b.at_ - a.at_).toNat ++ mins m (b :: l)
  | _ => []
def span (l : List Rdg) : Int := match l.head?, l.getLast? with
  | some a, some b => b.at_ - a.at_
  | _, _ => 0
def minE (l : List Rdg) (m : Int) : Int := if useE l m ≠ 0 then useE l m else if 20160 < span l then 3 else 0
def minV (l : List Rdg) (m : Int) : List Int := if minE l m = 0 then mins m l else []

theorem delta_bd {a b m : Int} (hm : 1000 ≤ m) : 0 ≤ delta a b m ∧ delta a b m < m := ⟨Int.emod_nonneg _ (by omega), Int.emod_lt_of_pos _ (by omega)⟩
theorem part_bd {en n k : Int} (he : 0 ≤ en) (hn : 1 ≤ n) (hk : 0 ≤ k) (hkn : k < n) : 0 ≤ part en n k ∧ part en n k ≤ en ∧ 0 ≤ en * k / n ∧ en * (k + 1) / n ≤ en := by
  unfold part
  have h0 : en * (k + 1) = en * k + en := by rw [Int.mul_add, Int.mul_one]
  have a1 := Int.mul_nonneg he hk
  have a2 := Int.ediv_nonneg a1 (show 0 ≤ n by omega)
  have a3 : en * k / n ≤ en * (k + 1) / n := Int.ediv_le_ediv (by omega) (by omega)
  have a4 : en * (k + 1) ≤ en * n := Int.mul_le_mul_of_nonneg_left (by omega) he
  have a5 : en * (k + 1) / n ≤ en := by
    have := Int.ediv_le_ediv (show 0 < n by omega) a4
    rwa [Int.mul_ediv_cancel _ (by omega)] at this
  omega
theorem parts_bd {en : Int} {n : Nat} (he : 0 ≤ en) : ∀ x ∈ parts en n, 0 ≤ x ∧ x ≤ en := by
  intro x hx
  unfold parts at hx
  obtain ⟨k, hk, rfl⟩ := List.mem_map.1 hx
  have hk := List.mem_range.1 hk
  have := part_bd he (show (1 : Int) ≤ n by omega) (show (0 : Int) ≤ k by omega) (by omega)
  exact ⟨this.1, this.2.1⟩
theorem parts_len (en : Int) (n : Nat) : (parts en n).length = n := by unfold parts; simp
theorem mins_bd {m : Int} (hm : 1000 ≤ m) : ∀ (l : List Rdg), ∀ x ∈ mins m l, 0 ≤ x ∧ x < m
  | [], x, hx => by simp [mins] at hx
  | [a], x, hx => by simp [mins] at hx
  | a :: b :: l, x, hx => by
    rw [mins] at hx
    rcases List.mem_append.1 hx with hx | hx
    · have h1 := delta_bd (a := a.reg) (b := b.reg) hm
      have h2 := parts_bd h1.1 x hx
      omega
    · exact mins_bd hm (b :: l) x hx
end Usg
end Go.Proofs.YtpmcdjpfolgpiaaGreatDoor
