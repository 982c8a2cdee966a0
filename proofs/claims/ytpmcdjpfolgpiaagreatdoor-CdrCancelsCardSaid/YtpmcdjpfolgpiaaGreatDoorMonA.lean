/-
  Plain arithmetic of money: a division bit by bit, Div64 for a small divisor, a sum in 128 bits, a rounded quotient. No program in sight.
  The walks of package money (Scale in the mode 1) and of math/bits (Mul64, Div64 for a small divisor).
  The walks of math/bits: LeadingZeros64 and Div64 at the program's divisors.
  The walk of math/bits.Div64 at the program's divisors 60, 60000 and 10000.
-/
import Derived.Below
import Derived.Lib.Mul64
import Derived.Test.YtpmcdjpfolgpiaaGreatDoorProg
import Derived.WalkKit
import Derived.Deep.QuietTactic
import Derived.BigQuiet
import Derived.Lib.Hide
import Derived.Outline
import Derived.Laws.Bits64b
import Derived.Laws.Externs
import Derived.Lib.Tables
import Derived.Deep.Cut
namespace Go.Proofs.YtpmcdjpfolgpiaaGreatDoor
namespace Mon

abbrev B64 : Nat := 18446744073709551616
abbrev B128 : Nat := 340282366920938463463374607431768211456

/-- The state of the reference's division of N by d after k of its 128 steps. -/
structure DivAt (N d k : Nat) (hi lo qh ql r : Nat) : Prop where
  ex : ∃ A M, N * 2 ^ k = M * B128 + A ∧ A < B128 ∧ hi = A / B64 ∧ lo = A % B64 ∧ M = (qh * B64 + ql) * d + r ∧ M < 2 ^ k
  r : r < d
  ql : ql < B64
  qh : qh < B64

theorem divAt_zero {hi lo d : Nat} (hh : hi < B64) (hl : lo < B64) (hd : 0 < d) : DivAt (hi * B64 + lo) d 0 hi lo 0 0 0 := by
  refine ⟨⟨hi * B64 + lo, 0, ?_, ?_, ?_, ?_, ?_, ?_⟩, hd, ?_, ?_⟩ <;> simp only [B64, B128] at * <;> omega

theorem two_succ (k : Nat) : 2 ^ (k + 1) = 2 * 2 ^ k := by rw [Nat.pow_succ]; omega

theorem divAt_step {N d k hi lo qh ql r : Nat} (hk : k < 128) (hd : 0 < d) (h : DivAt N d k hi lo qh ql r) :
    DivAt N d (k + 1) ((2 * hi + lo / 9223372036854775808) % B64) (2 * lo % B64) ((2 * qh + ql / 9223372036854775808) % B64)
      (if d ≤ 2 * r + hi / 9223372036854775808 then 2 * ql % B64 + 1 else 2 * ql % B64)
      (if d ≤ 2 * r + hi / 9223372036854775808 then 2 * r + hi / 9223372036854775808 - d else 2 * r + hi / 9223372036854775808) := by
  obtain ⟨⟨A, M, e, hA, h1, h2, h3, hM⟩, hr, hql, hqh⟩ := h
  have hb : hi / 9223372036854775808 ≤ 1 := by simp only [B64, B128] at *; omega
  have hp : 2 ^ k ≤ 2 ^ 127 := Nat.pow_le_pow_right (by omega) (by omega)
  have hQ : qh * B64 + ql ≤ M := by
    rw [h3]; exact Nat.le_trans (Nat.le_mul_of_pos_right _ hd) (Nat.le_add_right _ _)
  have hqh2 : qh < 9223372036854775808 := by simp only [B64, B128] at *; omega
  have hb2 : hi / 9223372036854775808 = A / 170141183460469231731687303715884105728 := by simp only [B64, B128] at *; omega
  refine ⟨⟨2 * A % B128, 2 * M + hi / 9223372036854775808, ?_, ?_, ?_, ?_, ?_, ?_⟩, ?_, ?_, ?_⟩
  · rw [two_succ, Nat.mul_left_comm, e, hb2]; simp only [B64, B128] at *; omega
  · simp only [B64, B128] at *; omega
  · simp only [B64, B128] at *; omega
  · simp only [B64, B128] at *; omega
  · have eq2 : ((2 * qh + ql / 9223372036854775808) % B64) * B64 + 2 * ql % B64 = 2 * (qh * B64 + ql) := by simp only [B64, B128] at *; omega
    split
    · have : ((2 * qh + ql / 9223372036854775808) % B64) * B64 + (2 * ql % B64 + 1) = 2 * (qh * B64 + ql) + 1 := by omega
      rw [this, h3]; generalize qh * B64 + ql = Q; rw [Nat.add_mul (2 * Q) 1 d, Nat.mul_assoc 2 Q d]; omega
    · rw [eq2, h3]; generalize qh * B64 + ql = Q; rw [Nat.mul_assoc 2 Q d]; omega
  · rw [two_succ]; omega
  · split <;> omega
  · split <;> simp only [B64, B128] at * <;> omega
  · simp only [B64]; omega

theorem divAt_end {N d hi lo qh ql r : Nat} (hN : N < B128) (hd : 0 < d) (h : DivAt N d 128 hi lo qh ql r) : qh = N / d / B64 ∧ ql = N / d % B64 ∧ r = N % d := by
  obtain ⟨⟨A, M, e, hA, h1, h2, h3, hM⟩, hr, hql, hqh⟩ := h
  have hMN : M = N := by simp only [B64, B128] at *; omega
  subst hMN
  have e1 : M / d = qh * B64 + ql := by
    rw [h3, Nat.add_comm, Nat.add_mul_div_right _ _ hd, Nat.div_eq_of_lt hr, Nat.zero_add]
  have e2 : M % d = r := by rw [h3, Nat.add_comm, Nat.add_mul_mod_self_right, Nat.mod_eq_of_lt hr]
  rw [e1, e2]; simp only [B64] at *; refine ⟨by omega, by omega, trivial⟩

/-- Two steps of a division by a divisor whose lower half is 0. -/
theorem div2 (u32 u1 u0 yn1 : Nat) :
    (u32 * 4294967296 + u1) * 4294967296 + u0 = (u32 / yn1 * 4294967296 + (u32 % yn1 * 4294967296 + u1) / yn1) * (yn1 * 4294967296) + ((u32 % yn1 * 4294967296 + u1) % yn1 * 4294967296 + u0) := by
  have h1 := Nat.div_add_mod' u32 yn1
  have h2 := Nat.div_add_mod' (u32 % yn1 * 4294967296 + u1) yn1
  have e : (u32 / yn1 * 4294967296 + (u32 % yn1 * 4294967296 + u1) / yn1) * (yn1 * 4294967296) = (u32 / yn1 * yn1 * 4294967296 + (u32 % yn1 * 4294967296 + u1) / yn1 * yn1) * 4294967296 := by
    rw [← Nat.mul_assoc, Nat.add_mul _ _ yn1, Nat.mul_right_comm]
  rw [e]
  omega

theorem quot_of {N S y yn q R : Nat} (hS : 0 < S) (hy : yn = y * S) (h : N * S = q * yn + R) (hR : R < yn) : q = N / y ∧ R / S = N % y := by
  subst hy
  rw [← Nat.mul_assoc] at h
  have hle : q * y ≤ N := Nat.le_of_mul_le_mul_right (by omega : q * y * S ≤ N * S) hS
  obtain ⟨m, hm⟩ := Nat.exists_eq_add_of_le hle
  have hR2 : R = m * S := by rw [hm, Nat.add_mul] at h; omega
  have hmy : m < y := by rw [hR2] at hR; exact Nat.lt_of_mul_lt_mul_right hR
  rw [hm, hR2, Nat.mul_div_cancel _ hS]
  refine ⟨?_, ?_⟩
  · rw [Nat.mul_comm, Nat.mul_add_div (by omega), Nat.div_eq_of_lt hmy]; omega
  · rw [Nat.mul_comm, Nat.mul_add_mod, Nat.mod_eq_of_lt hmy]

theorem ar1 (a b c : Nat) : ((a + b) * 4294967296 + c / 4294967296) * 4294967296 + c % 4294967296 = a * B64 + (b * B64 + c) := by simp only [B64]; omega
theorem ar2 {r y u : Nat} (h : r < y) (hu : u < 4294967296) : r * 4294967296 + u < y * 4294967296 := by omega

/-- Div64 where the divisor is below 2^32: its steps, with S = 2^s and T = 2^(64-s). -/
theorem div64_small (hi lo y S T yn1 : Nat) (hh : hi < y) (hl : lo < B64) (hST : S * T = B64) (hS : 0 < S) (hY : y * S = yn1 * 4294967296) (hY2 : y * S < B64) :
    hi * S + lo / T < yn1 * 4294967296 ∧ lo / T < S ∧ hi * S < B64 ∧
    (hi * S + lo / T) / yn1 < 4294967296 ∧
    (hi * S + lo / T) % yn1 * 4294967296 + lo * S % B64 / 4294967296 < yn1 * 4294967296 ∧
    ((hi * S + lo / T) % yn1 * 4294967296 + lo * S % B64 / 4294967296) / yn1 < 4294967296 ∧
    (hi * S + lo / T) / yn1 * 4294967296 + ((hi * S + lo / T) % yn1 * 4294967296 + lo * S % B64 / 4294967296) / yn1 = (hi * B64 + lo) / y ∧
    (((hi * S + lo / T) % yn1 * 4294967296 + lo * S % B64 / 4294967296) % yn1 * 4294967296 + lo * S % B64 % 4294967296) / S = (hi * B64 + lo) % y := by
  have hT : 0 < T := by
    rcases Nat.eq_zero_or_pos T with h | h
    · rw [h, Nat.mul_zero] at hST; exact absurd hST (by decide)
    · exact h
  have h1 : lo / T < S := by rw [Nat.div_lt_iff_lt_mul hT, hST]; exact hl
  have h2 : hi * S + S ≤ y * S := by have := Nat.mul_le_mul_right S (show hi + 1 ≤ y from hh); rw [Nat.add_mul, Nat.one_mul] at this; exact this
  have hyn : 0 < yn1 := by omega
  have h3 : hi * S + lo / T < yn1 * 4294967296 := by omega
  have h4 : lo * S % B64 = lo % T * S := by
    rw [← hST, Nat.mul_comm lo S, Nat.mul_mod_mul_left, Nat.mul_comm]
  have h5 : (hi * S + lo / T) % yn1 < yn1 := Nat.mod_lt _ hyn
  have h6 : lo * S % B64 / 4294967296 < 4294967296 := by simp only [B64] at *; omega
  have h7 : (hi * S + lo / T) % yn1 * 4294967296 + lo * S % B64 / 4294967296 < yn1 * 4294967296 := by omega
  have h8 := div2 (hi * S + lo / T) (lo * S % B64 / 4294967296) (lo * S % B64 % 4294967296) yn1
  have h9 : ((hi * S + lo / T) * 4294967296 + lo * S % B64 / 4294967296) * 4294967296 + lo * S % B64 % 4294967296 = (hi * B64 + lo) * S := by
    have e1 : (hi * B64 + lo) * S = hi * S * B64 + lo * S := by rw [Nat.add_mul, Nat.mul_right_comm]
    have e2 : lo * S = lo / T * B64 + lo % T * S := by
      rw [← hST]
      have := Nat.div_add_mod' lo T
      calc lo * S = (lo / T * T + lo % T) * S := by rw [this]
        _ = lo / T * (S * T) + lo % T * S := by rw [Nat.add_mul, Nat.mul_assoc, Nat.mul_comm T S]
    rw [e1, h4]
    exact (ar1 (hi * S) (lo / T) (lo % T * S)).trans (by rw [← e2])
  have h10 : ((hi * S + lo / T) % yn1 * 4294967296 + lo * S % B64 / 4294967296) % yn1 < yn1 := Nat.mod_lt _ hyn
  have h11 : lo * S % B64 % 4294967296 < 4294967296 := Nat.mod_lt _ (by omega)
  have h12 := h9.symm.trans h8
  have h13 : ((hi * S + lo / T) % yn1 * 4294967296 + lo * S % B64 / 4294967296) % yn1 * 4294967296 + lo * S % B64 % 4294967296 < yn1 * 4294967296 := ar2 h10 h11
  have hK : yn1 * 4294967296 = y * S := hY.symm
  have h14 := quot_of hS (yn := yn1 * 4294967296) hK h12 h13
  refine ⟨h3, h1, by omega, ?_, h7, ?_, h14⟩
  · exact (Nat.div_lt_iff_lt_mul hyn).2 (by rw [Nat.mul_comm 4294967296 yn1]; exact h3)
  · exact (Nat.div_lt_iff_lt_mul hyn).2 (by rw [Nat.mul_comm 4294967296 yn1]; exact h7)

end Mon
end Go.Proofs.YtpmcdjpfolgpiaaGreatDoor

namespace Go.Proofs.YtpmcdjpfolgpiaaGreatDoor
namespace MonW
set_option linter.unusedSimpArgs false
set_option linter.unusedVariables false
open Go.RowKit

abbrev i (n : Int) : Value := .int .i64 n
abbrev u (n : Nat) : Value := .int .u64 (n : Int)

theorem wrapU (n : Int) : IntKind.u64.wrap n = n % 18446744073709551616 := IntKind.wrap_u64 n
theorem wrapM (a : Nat) : IntKind.u64.wrap (a : Int) = ((a % 18446744073709551616 : Nat) : Int) := by rw [IntKind.wrap_u64]; omega
theorem wrapN (a : Nat) (ha : a < 18446744073709551616) : IntKind.u64.wrap (a : Int) = (a : Int) := by rw [IntKind.wrap_u64]; omega

theorem retUB {a c : Int} {b d : Bool} (h1 : a = c) (h2 : b = d) : Ending.returned (.tuple #[.int .u64 a, .bool b]) = .returned (.tuple #[.int .u64 c, .bool d]) := by rw [h1, h2]
theorem retIB {a c : Int} {b d : Bool} (h1 : a = c) (h2 : b = d) : Ending.returned (.tuple #[.int .i64 a, .bool b]) = .returned (.tuple #[.int .i64 c, .bool d]) := by rw [h1, h2]
theorem retUU {a c : Int} {b d : Int} (h1 : a = c) (h2 : b = d) : Ending.returned (.tuple #[.int .u64 a, .int .u64 b]) = .returned (.tuple #[.int .u64 c, .int .u64 d]) := by rw [h1, h2]
theorem retB {a c : Bool} (h1 : a = c) : Ending.returned (.bool a) = .returned (.bool c) := by rw [h1]

set_option maxHeartbeats 400000 in
theorem size (n : Int) (w : World) (hn : -9223372036854775808 ≤ n) (hn' : n ≤ 9223372036854775807) :
    Calls Tryz.prog 147 #[i n] w fun e w' => e = .returned (.tuple #[u n.natAbs, .bool (decide (n < 0))]) ∧ w' = w := by
  go_enter Tryz.func147, Tryz.ntmps147
  go_wp2
  · rename_i h
    go_ret2
    exact ⟨retUB (by rw [wrapU, wrapU]; omega) (decide_eq_true (by omega)).symm, rfl⟩
  · rename_i h
    go_ret2
    exact ⟨retUB (by omega) (decide_eq_false (by omega)).symm, rfl⟩

set_option maxHeartbeats 400000 in
theorem away (q r d : Nat) (w : World) (hr : r < d) (hd : d < 18446744073709551616) :
    Calls Tryz.prog 150 #[u q, u r, u d, i 1] w fun e w' => e = .returned (.bool (decide (d - r ≤ r))) ∧ w' = w := by
  go_enter Tryz.func150, Tryz.ntmps150
  go_wp2
  go_ret
  exact ⟨retB (decide_eq_decide.2 (by omega)), rfl⟩

/-- The number with a sign and a size, in 64 bits. -/
def sgn (q : Nat) (b : Bool) : Int := wrap64 (if b then -(q : Int) else q)
def fits (q : Nat) (b : Bool) : Bool := decide (q < 9223372036854775808) || (b && decide (q = 9223372036854775808))

set_option maxHeartbeats 400000 in
theorem signed (q : Nat) (b : Bool) (w : World) (hq : q < 18446744073709551616) :
    Calls Tryz.prog 151 #[u q, .bool b] w fun e w' => e = .returned (.tuple #[i (sgn q b), .bool (fits q b)]) ∧ w' = w := by
  go_enter Tryz.func151, Tryz.ntmps151
  cases b
  · go_wp2
    go_ret2
    exact ⟨retIB rfl (by simp only [fits, Bool.false_and, Bool.or_false]; exact decide_eq_decide.2 (by omega)), rfl⟩
  · go_wp2
    go_ret2
    refine ⟨retIB ?_ ?_, rfl⟩
    · simp only [sgn, if_pos]; rw [wrapU]; unfold wrap64; omega
    · simp only [fits, Bool.true_and, ← Bool.decide_or]; exact decide_eq_decide.2 (by omega)

theorem maskN (a : Nat) (ha : a < 18446744073709551616) : bits .and .u64 (a : Int) 4294967295 = ((a % 4294967296 : Nat) : Int) := by
  have h := bits_and_u64_nat a 4294967295 ha (by omega)
  have e : a &&& 4294967295 = a % 4294967296 := Nat.and_two_pow_sub_one_eq_mod a 32
  rw [e] at h
  exact h
theorem divN (a : Nat) : (a : Int) / 4294967296 = ((a / 4294967296 : Nat) : Int) := by omega
theorem mulN (a b : Nat) : (a : Int) * (b : Int) = ((a * b : Nat) : Int) := (Int.natCast_mul a b).symm
theorem addN (a b : Nat) : (a : Int) + (b : Int) = ((a + b : Nat) : Int) := (Int.natCast_add a b).symm

set_option maxHeartbeats 1000000 in
theorem mul64 (x y : Nat) (hx : x < 18446744073709551616) (hy : y < 18446744073709551616) (w : World) :
    Calls Tryz.prog 148 #[u x, u y] w fun e w' => e = .returned (.tuple #[u (x * y / 18446744073709551616), u (x * y % 18446744073709551616)]) ∧ w' = w := by
  obtain ⟨bd, bt, bw, hhi⟩ := Lib.mul64_hi x y hx hy
  have ba := Lib.half_mul_le (a := x / 4294967296) (b := y / 4294967296) (by omega) (by omega)
  have bb := Lib.half_mul_le (a := x / 4294967296) (b := y % 4294967296) (by omega) (by omega)
  have bc := Lib.half_mul_le (a := x % 4294967296) (b := y / 4294967296) (by omega) (by omega)
  have ba' : x / 4294967296 * (y / 4294967296) < 18446744073709551616 := by omega
  have bb' : x / 4294967296 * (y % 4294967296) < 18446744073709551616 := by omega
  have bc' : x % 4294967296 * (y / 4294967296) < 18446744073709551616 := by omega
  have bh1 : x / 4294967296 * (y / 4294967296) + (x / 4294967296 * (y % 4294967296) + x % 4294967296 * (y % 4294967296) / 4294967296) / 4294967296 < 18446744073709551616 := by omega
  have bh : x / 4294967296 * (y / 4294967296) + (x / 4294967296 * (y % 4294967296) + x % 4294967296 * (y % 4294967296) / 4294967296) / 4294967296 + ((x / 4294967296 * (y % 4294967296) + x % 4294967296 * (y % 4294967296) / 4294967296) % 4294967296 + x % 4294967296 * (y / 4294967296)) / 4294967296 < 18446744073709551616 := by omega
  go_enter Tryz.func148, Tryz.ntmps148
  go_wp2
  simp only [maskN x hx, maskN y hy, divN, mulN, addN, wrapN _ bd, wrapN _ bb', wrapN _ bt, maskN _ bt, wrapN _ bc', wrapN _ bw, wrapN _ ba', wrapN _ bh1, wrapN _ bh, wrapM (x * y)]
  rw [hhi]
  go_ret2
  exact ⟨rfl, rfl⟩

end MonW
end Go.Proofs.YtpmcdjpfolgpiaaGreatDoor

namespace Go.Proofs.YtpmcdjpfolgpiaaGreatDoor
namespace MonW
set_option linter.unusedSimpArgs false
set_option linter.unusedVariables false
open Go.RowKit

/-- The divisors that the program divides by, and their leading zeros. -/
def Den (y s : Nat) : Prop := (y = 60 ∧ s = 58) ∨ (y = 60000 ∧ s = 48) ∨ (y = 10000 ∧ s = 50)

theorem l60 : Lib.len8 60 = 6 := by decide +kernel
theorem l234 : Lib.len8 234 = 8 := by decide +kernel
theorem l39 : Lib.len8 39 = 6 := by decide +kernel

set_option maxHeartbeats 4000000 in
theorem len64 {y s : Nat} (h : Den y s) (w : World) :
    Calls Tryz.prog 165 #[u y] w fun e w' => e = .returned (i (64 - (s : Int))) ∧ w' = w := by
  rcases h with ⟨rfl, rfl⟩ | ⟨rfl, rfl⟩ | ⟨rfl, rfl⟩
  all_goals
    go_enter Tryz.func165, Tryz.ntmps165
    go_wp2
    all_goals go_ret
    refine ⟨congrArg Ending.returned (congrArg (Value.int IntKind.i64) ?_), rfl⟩
    simp only [l60, l234, l39]
    unfold wrap64
    omega

set_option maxHeartbeats 4000000 in
theorem lz64 {y s : Nat} (h : Den y s) (w : World) :
    Calls Tryz.prog 159 #[u y] w fun e w' => e = .returned (i (s : Int)) ∧ w' = w := by
  have hs : s ≤ 58 := by rcases h with ⟨_, rfl⟩ | ⟨_, rfl⟩ | ⟨_, rfl⟩ <;> decide
  go_enter Tryz.func159, Tryz.ntmps159
  go_wp2_with (go_at_call 165; refine (len64 h _).mono ?_; rintro e w' ⟨rfl, rfl⟩)
  all_goals go_ret
  exact ⟨congrArg (fun x => Ending.returned (i x)) (by omega), rfl⟩

/-- hi<<s | lo>>(64-s). -/
theorem or_shift (a b S : Nat) (k : Nat) (hS : S = 2 ^ k) (hb : b < S) (h : a * S + b < 18446744073709551616) :
    bits .or .u64 ((a * S : Nat) : Int) (b : Int) = ((a * S + b : Nat) : Int) := by
  rw [bits_or_u64_nat _ _ (by omega) (by omega)]
  subst hS
  rw [Nat.mul_comm a, Nat.two_pow_add_eq_or_of_lt hb]

end MonW
end Go.Proofs.YtpmcdjpfolgpiaaGreatDoor

namespace Go.Proofs.YtpmcdjpfolgpiaaGreatDoor
namespace MonW
set_option linter.unusedSimpArgs false
set_option linter.unusedVariables false
open Go.RowKit

theorem un21 (a b c v : Int) (h : a + b - c = v) (h0 : 0 ≤ v) (h1 : v < 18446744073709551616) :
    IntKind.u64.wrap (IntKind.u64.wrap (IntKind.u64.wrap a + b) - IntKind.u64.wrap c) = v := by
  rw [wrapU, wrapU, wrapU, wrapU]; omega

theorem lt0 {lo lw u0 : Nat} (h : u0 = lw % 4294967296) : u0 < 4294967296 := by omega
theorem nle {q : Nat} (h : q < 4294967296) : ¬ ((4294967296 : Int) ≤ (q : Int)) := by omega
theorem z1 (lo y : Nat) : (lo : Int) / (y : Int) = (((0 * 18446744073709551616 + lo) / y : Nat) : Int) := by rw [Nat.zero_mul, Nat.zero_add]; rfl
theorem z2 (lo y : Nat) : (lo : Int) % (y : Int) = (((0 * 18446744073709551616 + lo) % y : Nat) : Int) := by rw [Nat.zero_mul, Nat.zero_add]; rfl
theorem lt1 {lo lw S : Nat} (h : lw = lo * S % 18446744073709551616) : lw < 18446744073709551616 := by rw [h]; exact Nat.mod_lt _ (by decide)

theorem q60 (a q : Nat) (h : q = a / 4026531840) : (a : Int) / 4026531840 = (q : Int) := by omega
theorem r60 (a q r : Nat) (h : q = a / 4026531840) (h2 : r = a % 4026531840) : (a : Int) - (q : Int) * 4026531840 = (r : Int) := by omega
theorem rl60 (a r : Nat) (h2 : r = a % 4026531840) : r < 4026531840 := by omega
theorem d60 (a b q r : Nat) (h : q = a / 4026531840) (h2 : r = a % 4026531840) : (a : Int) * 4294967296 + (b : Int) - (q : Int) * 17293822569102704640 = ((r * 4294967296 + b : Nat) : Int) := by
  have h3 := r60 a q r h h2
  clear h h2
  omega
theorem w60 (a b q r : Nat) (h : q = a / 4026531840) (h2 : r = a % 4026531840) (hb : b < 4294967296) :
    IntKind.u64.wrap (IntKind.u64.wrap (IntKind.u64.wrap ((a : Int) * 4294967296) + b) - IntKind.u64.wrap ((q : Int) * 17293822569102704640)) = ((r * 4294967296 + b : Nat) : Int) := by
  have h3 := rl60 a r h2
  exact un21 _ _ _ _ (d60 a b q r h h2) (by omega) (by clear h h2; omega)

theorem lz60 (w : World) : Calls Tryz.prog 159 #[.int .u64 60] w fun e w' => e = .returned (i 58) ∧ w' = w := lz64 (y := 60) (s := 58) (Or.inl ⟨rfl, rfl⟩) w

set_option maxHeartbeats 4000000 in
set_option maxRecDepth 20000 in
theorem div64_60 (hi lo : Nat) (hh : hi < 60) (hl : lo < 18446744073709551616) (w : World) :
    Calls Tryz.prog 149 #[u hi, u lo, .int .u64 60] w fun e w' => e = .returned (.tuple #[u ((hi * 18446744073709551616 + lo) / 60), u ((hi * 18446744073709551616 + lo) % 60)]) ∧ ∃ n, w' = w.drewN n := by
  obtain ⟨un, hun⟩ : ∃ un, un = hi * 288230376151711744 + lo / 64 := ⟨_, rfl⟩
  obtain ⟨lw, hlw⟩ : ∃ lw, lw = lo * 288230376151711744 % 18446744073709551616 := ⟨_, rfl⟩
  obtain ⟨u1, hu1⟩ : ∃ u1, u1 = lw / 4294967296 := ⟨_, rfl⟩
  obtain ⟨u0, hu0⟩ : ∃ u0, u0 = lw % 4294967296 := ⟨_, rfl⟩
  have HP := Mon.div64_small hi lo 60 288230376151711744 64 4026531840 hh hl (by decide) (by decide) (by decide) (by decide)
  rw [← hun, ← hlw, ← hu1, ← hu0] at HP
  have hlw' := lt1 hlw
  have e1 : bits BinOp.and IntKind.u64 17293822569102704640 4294967295 = 0 := maskN 17293822569102704640 (by decide)
  have e2 : bits BinOp.or IntKind.u64 ((hi : Int) * 288230376151711744) ((lo : Int) / 64) = (un : Int) := by
    have := or_shift hi (lo / 64) 288230376151711744 58 (by decide) (by omega) (by omega)
    rw [hun, ← this]; rfl
  have e3 : IntKind.u64.wrap ((lo : Int) * 288230376151711744) = (lw : Int) := by rw [hlw]; exact wrapM (lo * 288230376151711744)
  have e4 : bits BinOp.and IntKind.u64 (lw : Int) 4294967295 = (u0 : Int) := by rw [hu0]; exact maskN lw hlw'
  have e5 : (lw : Int) / 4294967296 = (u1 : Int) := by rw [hu1]; exact divN lw
  have hu0' : u0 < 4294967296 := lt0 (lo := 0) hu0
  have hu1' : u1 < 4294967296 := by clear HP; omega
  clear hun hlw hu1 hu0 hlw'
  obtain ⟨q1, hq1⟩ : ∃ q1, q1 = un / 4026531840 := ⟨_, rfl⟩
  obtain ⟨r1, hr1⟩ : ∃ r1, r1 = un % 4026531840 := ⟨_, rfl⟩
  rw [← hq1, ← hr1] at HP
  have b1 : q1 < 4294967296 := HP.2.2.2.1
  have e6 := q60 un q1 hq1
  have e7 := r60 un q1 r1 hq1 hr1
  have E8 := w60 un u1 q1 r1 hq1 hr1 hu1'
  obtain ⟨v, hv⟩ : ∃ v, v = r1 * 4294967296 + u1 := ⟨_, rfl⟩
  rw [← hv] at HP E8
  have b3 : v < 17293822569102704640 := HP.2.2.2.2.1
  obtain ⟨q0, hq0⟩ : ∃ q0, q0 = v / 4026531840 := ⟨_, rfl⟩
  obtain ⟨r0, hr0⟩ : ∃ r0, r0 = v % 4026531840 := ⟨_, rfl⟩
  rw [← hq0, ← hr0] at HP
  have b4 : q0 < 4294967296 := HP.2.2.2.2.2.1
  have b5 := rl60 v r0 hr0
  have e8 := q60 v q0 hq0
  have e9 := r60 v q0 r0 hq0 hr0
  have E9 := w60 v u0 q0 r0 hq0 hr0 hu0'
  clear hq1 hr1 hv hq0 hr0
  have hh2 : ¬ ((60 : Int) ≤ (hi : Int)) := by clear HP; omega
  clear hh
  replace HP : Hid _ := HP
  go_enter Tryz.func149, Tryz.ntmps149
  go_upto_region 15 with (go_at_call 159; refine (lz60 _).mono ?_; rintro e w' ⟨rfl, rfl⟩)
  · go_quiet (fail)
    go_wp2
    go_ret2
    rename_i h0
    have h0' : hi = 0 := by simpa using h0
    subst h0'
    exact ⟨retUU (z1 lo 60) (z2 lo 60), nq, rfl⟩
  · go_wp2
    refine wp_loop_once ?_
    clear e1 e2 e3 e4 e5 e6 e7 hh2 hl
    have b1' : ¬ ((4294967296 : Int) ≤ (q1 : Int)) := nle b1
    go_wp2
    refine wp_loop_once ?_
    clear e8 e9 E8 b1'
    have b4' : ¬ ((4294967296 : Int) ≤ (q0 : Int)) := nle b4
    go_wp2
    all_goals go_ret2
    obtain ⟨_, _, _, _, _, _, H1, H2⟩ := (HP : _ ∧ _)
    refine ⟨retUU ?_ ?_, 0, rfl⟩
    · show ((q1 : Int) * 4294967296 + (q0 : Int)) = _
      have H1' := congrArg (fun n : Nat => (n : Int)) H1
      simp only [Int.natCast_add, Int.natCast_mul] at H1'
      exact H1'
    · show (((r0 : Int) * 4294967296 + (u0 : Int)) / 288230376151711744) = _
      have H2' := congrArg (fun n : Nat => (n : Int)) H2
      exact H2'

theorem q60000 (a q : Nat) (h : q = a / 3932160000) : (a : Int) / 3932160000 = (q : Int) := by omega
theorem r60000 (a q r : Nat) (h : q = a / 3932160000) (h2 : r = a % 3932160000) : (a : Int) - (q : Int) * 3932160000 = (r : Int) := by omega
theorem rl60000 (a r : Nat) (h2 : r = a % 3932160000) : r < 3932160000 := by omega
theorem d60000 (a b q r : Nat) (h : q = a / 3932160000) (h2 : r = a % 3932160000) : (a : Int) * 4294967296 + (b : Int) - (q : Int) * 16888498602639360000 = ((r * 4294967296 + b : Nat) : Int) := by
  have h3 := r60000 a q r h h2
  clear h h2
  omega
theorem w60000 (a b q r : Nat) (h : q = a / 3932160000) (h2 : r = a % 3932160000) (hb : b < 4294967296) :
    IntKind.u64.wrap (IntKind.u64.wrap (IntKind.u64.wrap ((a : Int) * 4294967296) + b) - IntKind.u64.wrap ((q : Int) * 16888498602639360000)) = ((r * 4294967296 + b : Nat) : Int) := by
  have h3 := rl60000 a r h2
  exact un21 _ _ _ _ (d60000 a b q r h h2) (by omega) (by clear h h2; omega)

theorem lz60000 (w : World) : Calls Tryz.prog 159 #[.int .u64 60000] w fun e w' => e = .returned (i 48) ∧ w' = w := lz64 (y := 60000) (s := 48) (Or.inr (Or.inl ⟨rfl, rfl⟩)) w

set_option maxHeartbeats 4000000 in
set_option maxRecDepth 20000 in
theorem div64_60000 (hi lo : Nat) (hh : hi < 60000) (hl : lo < 18446744073709551616) (w : World) :
    Calls Tryz.prog 149 #[u hi, u lo, .int .u64 60000] w fun e w' => e = .returned (.tuple #[u ((hi * 18446744073709551616 + lo) / 60000), u ((hi * 18446744073709551616 + lo) % 60000)]) ∧ ∃ n, w' = w.drewN n := by
  obtain ⟨un, hun⟩ : ∃ un, un = hi * 281474976710656 + lo / 65536 := ⟨_, rfl⟩
  obtain ⟨lw, hlw⟩ : ∃ lw, lw = lo * 281474976710656 % 18446744073709551616 := ⟨_, rfl⟩
  obtain ⟨u1, hu1⟩ : ∃ u1, u1 = lw / 4294967296 := ⟨_, rfl⟩
  obtain ⟨u0, hu0⟩ : ∃ u0, u0 = lw % 4294967296 := ⟨_, rfl⟩
  have HP := Mon.div64_small hi lo 60000 281474976710656 65536 3932160000 hh hl (by decide) (by decide) (by decide) (by decide)
  rw [← hun, ← hlw, ← hu1, ← hu0] at HP
  have hlw' := lt1 hlw
  have e1 : bits BinOp.and IntKind.u64 16888498602639360000 4294967295 = 0 := maskN 16888498602639360000 (by decide)
  have e2 : bits BinOp.or IntKind.u64 ((hi : Int) * 281474976710656) ((lo : Int) / 65536) = (un : Int) := by
    have := or_shift hi (lo / 65536) 281474976710656 48 (by decide) (by omega) (by omega)
    rw [hun, ← this]; rfl
  have e3 : IntKind.u64.wrap ((lo : Int) * 281474976710656) = (lw : Int) := by rw [hlw]; exact wrapM (lo * 281474976710656)
  have e4 : bits BinOp.and IntKind.u64 (lw : Int) 4294967295 = (u0 : Int) := by rw [hu0]; exact maskN lw hlw'
  have e5 : (lw : Int) / 4294967296 = (u1 : Int) := by rw [hu1]; exact divN lw
  have hu0' : u0 < 4294967296 := lt0 (lo := 0) hu0
  have hu1' : u1 < 4294967296 := by clear HP; omega
  clear hun hlw hu1 hu0 hlw'
  obtain ⟨q1, hq1⟩ : ∃ q1, q1 = un / 3932160000 := ⟨_, rfl⟩
  obtain ⟨r1, hr1⟩ : ∃ r1, r1 = un % 3932160000 := ⟨_, rfl⟩
  rw [← hq1, ← hr1] at HP
  have b1 : q1 < 4294967296 := HP.2.2.2.1
  have e6 := q60000 un q1 hq1
  have e7 := r60000 un q1 r1 hq1 hr1
  have E8 := w60000 un u1 q1 r1 hq1 hr1 hu1'
  obtain ⟨v, hv⟩ : ∃ v, v = r1 * 4294967296 + u1 := ⟨_, rfl⟩
  rw [← hv] at HP E8
  have b3 : v < 16888498602639360000 := HP.2.2.2.2.1
  obtain ⟨q0, hq0⟩ : ∃ q0, q0 = v / 3932160000 := ⟨_, rfl⟩
  obtain ⟨r0, hr0⟩ : ∃ r0, r0 = v % 3932160000 := ⟨_, rfl⟩
  rw [← hq0, ← hr0] at HP
  have b4 : q0 < 4294967296 := HP.2.2.2.2.2.1
  have b5 := rl60000 v r0 hr0
  have e8 := q60000 v q0 hq0
  have e9 := r60000 v q0 r0 hq0 hr0
  have E9 := w60000 v u0 q0 r0 hq0 hr0 hu0'
  clear hq1 hr1 hv hq0 hr0
  have hh2 : ¬ ((60000 : Int) ≤ (hi : Int)) := by clear HP; omega
  clear hh
  replace HP : Hid _ := HP
  go_enter Tryz.func149, Tryz.ntmps149
  go_upto_region 15 with (go_at_call 159; refine (lz60000 _).mono ?_; rintro e w' ⟨rfl, rfl⟩)
  · go_quiet (fail)
    go_wp2
    go_ret2
    rename_i h0
    have h0' : hi = 0 := by simpa using h0
    subst h0'
    exact ⟨retUU (z1 lo 60000) (z2 lo 60000), nq, rfl⟩
  · go_wp2
    refine wp_loop_once ?_
    clear e1 e2 e3 e4 e5 e6 e7 hh2 hl
    have b1' : ¬ ((4294967296 : Int) ≤ (q1 : Int)) := nle b1
    go_wp2
    refine wp_loop_once ?_
    clear e8 e9 E8 b1'
    have b4' : ¬ ((4294967296 : Int) ≤ (q0 : Int)) := nle b4
    go_wp2
    all_goals go_ret2
    obtain ⟨_, _, _, _, _, _, H1, H2⟩ := (HP : _ ∧ _)
    refine ⟨retUU ?_ ?_, 0, rfl⟩
    · show ((q1 : Int) * 4294967296 + (q0 : Int)) = _
      have H1' := congrArg (fun n : Nat => (n : Int)) H1
      simp only [Int.natCast_add, Int.natCast_mul] at H1'
      exact H1'
    · show (((r0 : Int) * 4294967296 + (u0 : Int)) / 281474976710656) = _
      have H2' := congrArg (fun n : Nat => (n : Int)) H2
      exact H2'

theorem q10000 (a q : Nat) (h : q = a / 2621440000) : (a : Int) / 2621440000 = (q : Int) := by omega
theorem r10000 (a q r : Nat) (h : q = a / 2621440000) (h2 : r = a % 2621440000) : (a : Int) - (q : Int) * 2621440000 = (r : Int) := by omega
theorem rl10000 (a r : Nat) (h2 : r = a % 2621440000) : r < 2621440000 := by omega
theorem d10000 (a b q r : Nat) (h : q = a / 2621440000) (h2 : r = a % 2621440000) : (a : Int) * 4294967296 + (b : Int) - (q : Int) * 11258999068426240000 = ((r * 4294967296 + b : Nat) : Int) := by
  have h3 := r10000 a q r h h2
  clear h h2
  omega
theorem w10000 (a b q r : Nat) (h : q = a / 2621440000) (h2 : r = a % 2621440000) (hb : b < 4294967296) :
    IntKind.u64.wrap (IntKind.u64.wrap (IntKind.u64.wrap ((a : Int) * 4294967296) + b) - IntKind.u64.wrap ((q : Int) * 11258999068426240000)) = ((r * 4294967296 + b : Nat) : Int) := by
  have h3 := rl10000 a r h2
  exact un21 _ _ _ _ (d10000 a b q r h h2) (by omega) (by clear h h2; omega)

theorem lz10000 (w : World) : Calls Tryz.prog 159 #[.int .u64 10000] w fun e w' => e = .returned (i 50) ∧ w' = w := lz64 (y := 10000) (s := 50) (Or.inr (Or.inr ⟨rfl, rfl⟩)) w

set_option maxHeartbeats 4000000 in
set_option maxRecDepth 20000 in
theorem div64_10000 (hi lo : Nat) (hh : hi < 10000) (hl : lo < 18446744073709551616) (w : World) :
    Calls Tryz.prog 149 #[u hi, u lo, .int .u64 10000] w fun e w' => e = .returned (.tuple #[u ((hi * 18446744073709551616 + lo) / 10000), u ((hi * 18446744073709551616 + lo) % 10000)]) ∧ ∃ n, w' = w.drewN n := by
  obtain ⟨un, hun⟩ : ∃ un, un = hi * 1125899906842624 + lo / 16384 := ⟨_, rfl⟩
  obtain ⟨lw, hlw⟩ : ∃ lw, lw = lo * 1125899906842624 % 18446744073709551616 := ⟨_, rfl⟩
  obtain ⟨u1, hu1⟩ : ∃ u1, u1 = lw / 4294967296 := ⟨_, rfl⟩
  obtain ⟨u0, hu0⟩ : ∃ u0, u0 = lw % 4294967296 := ⟨_, rfl⟩
  have HP := Mon.div64_small hi lo 10000 1125899906842624 16384 2621440000 hh hl (by decide) (by decide) (by decide) (by decide)
  rw [← hun, ← hlw, ← hu1, ← hu0] at HP
  have hlw' := lt1 hlw
  have e1 : bits BinOp.and IntKind.u64 11258999068426240000 4294967295 = 0 := maskN 11258999068426240000 (by decide)
  have e2 : bits BinOp.or IntKind.u64 ((hi : Int) * 1125899906842624) ((lo : Int) / 16384) = (un : Int) := by
    have := or_shift hi (lo / 16384) 1125899906842624 50 (by decide) (by omega) (by omega)
    rw [hun, ← this]; rfl
  have e3 : IntKind.u64.wrap ((lo : Int) * 1125899906842624) = (lw : Int) := by rw [hlw]; exact wrapM (lo * 1125899906842624)
  have e4 : bits BinOp.and IntKind.u64 (lw : Int) 4294967295 = (u0 : Int) := by rw [hu0]; exact maskN lw hlw'
  have e5 : (lw : Int) / 4294967296 = (u1 : Int) := by rw [hu1]; exact divN lw
  have hu0' : u0 < 4294967296 := lt0 (lo := 0) hu0
  have hu1' : u1 < 4294967296 := by clear HP; omega
  clear hun hlw hu1 hu0 hlw'
  obtain ⟨q1, hq1⟩ : ∃ q1, q1 = un / 2621440000 := ⟨_, rfl⟩
  obtain ⟨r1, hr1⟩ : ∃ r1, r1 = un % 2621440000 := ⟨_, rfl⟩
  rw [← hq1, ← hr1] at HP
  have b1 : q1 < 4294967296 := HP.2.2.2.1
  have e6 := q10000 un q1 hq1
  have e7 := r10000 un q1 r1 hq1 hr1
  have E8 := w10000 un u1 q1 r1 hq1 hr1 hu1'
  obtain ⟨v, hv⟩ : ∃ v, v = r1 * 4294967296 + u1 := ⟨_, rfl⟩
  rw [← hv] at HP E8
  have b3 : v < 11258999068426240000 := HP.2.2.2.2.1
  obtain ⟨q0, hq0⟩ : ∃ q0, q0 = v / 2621440000 := ⟨_, rfl⟩
  obtain ⟨r0, hr0⟩ : ∃ r0, r0 = v % 2621440000 := ⟨_, rfl⟩
  rw [← hq0, ← hr0] at HP
  have b4 : q0 < 4294967296 := HP.2.2.2.2.2.1
  have b5 := rl10000 v r0 hr0
  have e8 := q10000 v q0 hq0
  have e9 := r10000 v q0 r0 hq0 hr0
  have E9 := w10000 v u0 q0 r0 hq0 hr0 hu0'
  clear hq1 hr1 hv hq0 hr0
  have hh2 : ¬ ((10000 : Int) ≤ (hi : Int)) := by clear HP; omega
  clear hh
  replace HP : Hid _ := HP
  go_enter Tryz.func149, Tryz.ntmps149
  go_upto_region 15 with (go_at_call 159; refine (lz10000 _).mono ?_; rintro e w' ⟨rfl, rfl⟩)
  · go_quiet (fail)
    go_wp2
    go_ret2
    rename_i h0
    have h0' : hi = 0 := by simpa using h0
    subst h0'
    exact ⟨retUU (z1 lo 10000) (z2 lo 10000), nq, rfl⟩
  · go_wp2
    refine wp_loop_once ?_
    clear e1 e2 e3 e4 e5 e6 e7 hh2 hl
    have b1' : ¬ ((4294967296 : Int) ≤ (q1 : Int)) := nle b1
    go_wp2
    refine wp_loop_once ?_
    clear e8 e9 E8 b1'
    have b4' : ¬ ((4294967296 : Int) ≤ (q0 : Int)) := nle b4
    go_wp2
    all_goals go_ret2
    obtain ⟨_, _, _, _, _, _, H1, H2⟩ := (HP : _ ∧ _)
    refine ⟨retUU ?_ ?_, 0, rfl⟩
    · show ((q1 : Int) * 4294967296 + (q0 : Int)) = _
      have H1' := congrArg (fun n : Nat => (n : Int)) H1
      simp only [Int.natCast_add, Int.natCast_mul] at H1'
      exact H1'
    · show (((r0 : Int) * 4294967296 + (u0 : Int)) / 1125899906842624) = _
      have H2' := congrArg (fun n : Nat => (n : Int)) H2
      exact H2'

end MonW
end Go.Proofs.YtpmcdjpfolgpiaaGreatDoor
