/-
  The walks of package money (Scale in the mode 1) and of math/bits (Mul64, Div64 for a small divisor).
-/
import Derived.Test.YtndlhhiifmjieaaDoorMon
import Derived.Test.YtndlhhiifmjieaaDoorProg
import Derived.WalkKit
import Derived.Deep.QuietTactic
import Derived.BigQuiet
import Derived.Lib.Hide
import Derived.Outline
import Derived.Laws.Bits64b
import Derived.Laws.Externs
namespace Go.Proofs.YtndlhhiifmjieaaDoor
namespace MonW
set_option linter.unusedSimpArgs false
set_option linter.unusedVariables false
open Go.RowKit

abbrev i (n : Int) : Value := .int .i64 n
abbrev u (n : Nat) : Value := .int .u64 (n : Int)

theorem wrapU (n : Int) : IntKind.u64.wrap n = n % 18446744073709551616 := IntKind.wrap_u64 n
theorem wrapM (a : Nat) : IntKind.u64.wrap (a : Int) = ((a % 18446744073709551616 : Nat) : Int) := by rw [IntKind.wrap_u64]; omega
theorem wrapN (a : Nat) (ha : a < 18446744073709551616) : IntKind.u64.wrap (a : Int) = (a : Int) := by rw [IntKind.wrap_u64]; omega

theorem retUB {a c : Int} {b d : Bool} (h1 : a = c) (h2 : b = d) : Ending.returned (.tuple #[.int .u64 a, .bool b]) = .returned (.tuple #[.int .u64 c, .bool d]) := by rw [h1, h2]
theorem retIB {a c : Int} {b d : Bool} (h1 : a = c) (h2 : b = d) : Ending.returned (.tuple #[.int .i64 a, .bool b]) = .returned (.tuple #[.int .i64 c, .bool d]) := by rw [h1, h2]
theorem retUU {a c : Int} {b d : Int} (h1 : a = c) (h2 : b = d) : Ending.returned (.tuple #[.int .u64 a, .int .u64 b]) = .returned (.tuple #[.int .u64 c, .int .u64 d]) := by rw [h1, h2]
theorem retB {a c : Bool} (h1 : a = c) : Ending.returned (.bool a) = .returned (.bool c) := by rw [h1]

set_option maxHeartbeats 400000 in
theorem size (n : Int) (w : World) (hn : -9223372036854775808 ≤ n) (hn' : n ≤ 9223372036854775807) :
    Calls Tryd.prog 41 #[i n] w fun e w' => e = .returned (.tuple #[u n.natAbs, .bool (decide (n < 0))]) ∧ w' = w := by
  go_enter Tryd.func41, Tryd.ntmps41
  go_wp2
  · rename_i h
    go_ret2
    exact ⟨retUB (by rw [wrapU, wrapU]; omega) (decide_eq_true (by omega)).symm, rfl⟩
  · rename_i h
    go_ret2
    exact ⟨retUB (by omega) (decide_eq_false (by omega)).symm, rfl⟩

set_option maxHeartbeats 400000 in
theorem away (q r d : Nat) (w : World) (hr : r < d) (hd : d < 18446744073709551616) :
    Calls Tryd.prog 44 #[u q, u r, u d, i 1] w fun e w' => e = .returned (.bool (decide (d - r ≤ r))) ∧ w' = w := by
  go_enter Tryd.func44, Tryd.ntmps44
  go_wp2
  go_ret
  exact ⟨retB (decide_eq_decide.2 (by omega)), rfl⟩

/-- The number with a sign and a size, in 64 bits. -/
def sgn (q : Nat) (b : Bool) : Int := wrap64 (if b then -(q : Int) else q)
def fits (q : Nat) (b : Bool) : Bool := decide (q < 9223372036854775808) || (b && decide (q = 9223372036854775808))

set_option maxHeartbeats 400000 in
theorem signed (q : Nat) (b : Bool) (w : World) (hq : q < 18446744073709551616) :
    Calls Tryd.prog 45 #[u q, .bool b] w fun e w' => e = .returned (.tuple #[i (sgn q b), .bool (fits q b)]) ∧ w' = w := by
  go_enter Tryd.func45, Tryd.ntmps45
  cases b
  · go_wp2
    go_ret2
    exact ⟨retIB rfl (by simp only [fits, Bool.false_and, Bool.or_false]; exact decide_eq_decide.2 (by omega)), rfl⟩
  · go_wp2
    go_ret2
    refine ⟨retIB ?_ ?_, rfl⟩
    · simp only [sgn, if_pos]; rw [wrapU]; unfold wrap64; omega
    · simp only [fits, Bool.true_and, ← Bool.decide_or]; exact decide_eq_decide.2 (by omega)

theorem maskN (a : Nat) (ha : a < 18446744073709551616) : bits .and .u64 (a : Int) 4294967295 = ((a % 4294967296 : Nat) : Int) := by
  have h := bits_and_u64_nat a 4294967295 ha (by omega)
  have e : a &&& 4294967295 = a % 4294967296 := Nat.and_two_pow_sub_one_eq_mod a 32
  rw [e] at h
  exact h
theorem divN (a : Nat) : (a : Int) / 4294967296 = ((a / 4294967296 : Nat) : Int) := by omega
theorem mulN (a b : Nat) : (a : Int) * (b : Int) = ((a * b : Nat) : Int) := (Int.natCast_mul a b).symm
theorem addN (a b : Nat) : (a : Int) + (b : Int) = ((a + b : Nat) : Int) := (Int.natCast_add a b).symm

set_option maxHeartbeats 1000000 in
theorem mul64 (x y : Nat) (hx : x < 18446744073709551616) (hy : y < 18446744073709551616) (w : World) :
    Calls Tryd.prog 42 #[u x, u y] w fun e w' => e = .returned (.tuple #[u (x * y / 18446744073709551616), u (x * y % 18446744073709551616)]) ∧ w' = w := by
  obtain ⟨bd, bt, bw, hhi⟩ := Lib.mul64_hi x y hx hy
  have ba := Lib.half_mul_le (a := x / 4294967296) (b := y / 4294967296) (by omega) (by omega)
  have bb := Lib.half_mul_le (a := x / 4294967296) (b := y % 4294967296) (by omega) (by omega)
  have bc := Lib.half_mul_le (a := x % 4294967296) (b := y / 4294967296) (by omega) (by omega)
  have ba' : x / 4294967296 * (y / 4294967296) < 18446744073709551616 := by omega
  have bb' : x / 4294967296 * (y % 4294967296) < 18446744073709551616 := by omega
  have bc' : x % 4294967296 * (y / 4294967296) < 18446744073709551616 := by omega
  have bh1 : x / 4294967296 * (y / 4294967296) + (x / 4294967296 * (y % 4294967296) + x % 4294967296 * (y % 4294967296) / 4294967296) / 4294967296 < 18446744073709551616 := by omega
  have bh : x / 4294967296 * (y / 4294967296) + (x / 4294967296 * (y % 4294967296) + x % 4294967296 * (y % 4294967296) / 4294967296) / 4294967296 + ((x / 4294967296 * (y % 4294967296) + x % 4294967296 * (y % 4294967296) / 4294967296) % 4294967296 + x % 4294967296 * (y / 4294967296)) / 4294967296 < 18446744073709551616 := by omega
  go_enter Tryd.func42, Tryd.ntmps42
  go_wp2
  simp only [maskN x hx, maskN y hy, divN, mulN, addN, wrapN _ bd, wrapN _ bb', wrapN _ bt, maskN _ bt, wrapN _ bc', wrapN _ bw, wrapN _ ba', wrapN _ bh1, wrapN _ bh, wrapM (x * y)]
  rw [hhi]
  go_ret2
  exact ⟨rfl, rfl⟩

end MonW
end Go.Proofs.YtndlhhiifmjieaaDoor
