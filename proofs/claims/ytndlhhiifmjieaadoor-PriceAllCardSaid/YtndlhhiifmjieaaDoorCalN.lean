/-
  The walk of package calendar's exported function Next.
-/
import Derived.Test.YtndlhhiifmjieaaDoorCalL
namespace Go.Proofs.YtndlhhiifmjieaaDoor
namespace CalW
set_option linter.unusedSimpArgs false
set_option linter.unusedVariables false
open Go.RowKit

theorem ofInt_i64 (a : Nat) (ha : a < 9223372036854775808) : (BitVec.ofInt 64 (a : Int)).toNat = a := by
  rw [BitVec.ofInt_natCast, BitVec.toNat_ofNat]; exact Nat.mod_eq_of_lt (by omega)
theorem i64_and_nat (a b : Nat) (ha : a < 9223372036854775808) (hb : b < 9223372036854775808) : bits .and .i64 (a : Int) (b : Int) = ((a &&& b : Nat) : Int) := by
  have hx : a &&& b < 2 ^ 63 := Nat.and_lt_two_pow _ (by omega)
  show IntKind.i64.wrap ((BitVec.ofInt 64 (a : Int) &&& BitVec.ofInt 64 (b : Int)).toNat : Int) = _
  rw [BitVec.toNat_and, ofInt_i64 a ha, ofInt_i64 b hb, IntKind.wrap_i64]
  omega
theorem and_one (a : Int) (h : 0 ≤ a) (h' : a ≤ 1000000) : bits .and .i64 a 1 = a % 2 := by
  obtain ⟨n, rfl⟩ := Int.eq_ofNat_of_zero_le h
  have := i64_and_nat n 1 (by omega) (by omega)
  rw [show ((1 : Nat) : Int) = 1 from rfl] at this
  rw [this, Nat.and_one_is_mod]
  omega
theorem shr_bd (d : Int) (n : Nat) (h : 0 ≤ d) (h' : d ≤ 127) : 0 ≤ d / 2 ^ n ∧ d / 2 ^ n ≤ 127 :=
  ⟨Int.ediv_nonneg h (Int.le_of_lt (Int.pow_pos (by omega))), Int.le_trans (Int.ediv_le_self _ h) h'⟩
theorem onD_bits (days v : Int) {b : Bool} (h : 0 ≤ days) (h' : days ≤ 127) (hv : 1 ≤ v) (hd : ¬ days = 0) (hb : (bits .and .i64 (days / 2 ^ (v.toNat - 1)) 1 == 1) = b) : Cal.onD days v = b := by
  have hs := shr_bd days (v.toNat - 1) h h'
  rw [and_one _ hs.1 (by omega)] at hb
  unfold Cal.onD
  rw [show (v - 1).toNat = v.toNat - 1 by omega, hb]
  simp [hd]
theorem onD_zero (v : Int) : Cal.onD 0 v = true := by simp [Cal.onD]

def NextPost (z : Int) (s : Bool) (t days mi : Int) (w : World) (e : Ending) (w' : World) : Prop :=
  ∃ r c : Int, e = .returned (.tuple #[i r, i c]) ∧ Cal.NextIs z s t days mi r c ∧ Below w.heap.size w w'

end CalW
end Go.Proofs.YtndlhhiifmjieaaDoor
