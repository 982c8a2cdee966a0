/-
  Plain arithmetic of money: a division bit by bit, Div64 for a small divisor, a sum in 128 bits, a rounded quotient. No program in sight.
-/
import Derived.Below
import Derived.Lib.Mul64
namespace Go.Proofs.YtndlhhiifmjieaaDoor
namespace Mon

abbrev B64 : Nat := 18446744073709551616
abbrev B128 : Nat := 340282366920938463463374607431768211456

/-- The state of the reference's division of N by d after k of its 128 steps. -/
structure DivAt (N d k : Nat) (hi lo qh ql r : Nat) : Prop where
  ex : ∃ A M, N * 2 ^ k = M * B128 + A ∧ A < B128 ∧ hi = A / B64 ∧ lo = A % B64 ∧ M = (qh * B64 + ql) * d + r ∧ M < 2 ^ k
  r : r < d
  ql : ql < B64
  qh : qh < B64

theorem divAt_zero {hi lo d : Nat} (hh : hi < B64) (hl : lo < B64) (hd : 0 < d) : DivAt (hi * B64 + lo) d 0 hi lo 0 0 0 := by
  refine ⟨⟨hi * B64 + lo, 0, ?_, ?_, ?_, ?_, ?_, ?_⟩, hd, ?_, ?_⟩ <;> simp only [B64, B128] at * <;> omega

theorem two_succ (k : Nat) : 2 ^ (k + 1) = 2 * 2 ^ k := by rw [Nat.pow_succ]; omega

theorem divAt_step {N d k hi lo qh ql r : Nat} (hk : k < 128) (hd : 0 < d) (h : DivAt N d k hi lo qh ql r) :
    DivAt N d (k + 1) ((2 * hi + lo / 9223372036854775808) % B64) (2 * lo % B64) ((2 * qh + ql / 9223372036854775808) % B64)
      (if d ≤ 2 * r + hi / 9223372036854775808 then 2 * ql % B64 + 1 else 2 * ql % B64)
      (if d ≤ 2 * r + hi / 9223372036854775808 then 2 * r + hi / 9223372036854775808 - d else 2 * r + hi / 9223372036854775808) := by
  obtain ⟨⟨A, M, e, hA, h1, h2, h3, hM⟩, hr, hql, hqh⟩ := h
  have hb : hi / 9223372036854775808 ≤ 1 := by simp only [B64, B128] at *; omega
  have hp : 2 ^ k ≤ 2 ^ 127 := Nat.pow_le_pow_right (by omega) (by omega)
  have hQ : qh * B64 + ql ≤ M := by
    rw [h3]; exact Nat.le_trans (Nat.le_mul_of_pos_right _ hd) (Nat.le_add_right _ _)
  have hqh2 : qh < 9223372036854775808 := by simp only [B64, B128] at *; omega
  have hb2 : hi / 9223372036854775808 = A / 170141183460469231731687303715884105728 := by simp only [B64, B128] at *; omega
  refine ⟨⟨2 * A % B128, 2 * M + hi / 9223372036854775808, ?_, ?_, ?_, ?_, ?_, ?_⟩, ?_, ?_, ?_⟩
  · rw [two_succ, Nat.mul_left_comm, e, hb2]; simp only [B64, B128] at *; omega
  · simp only [B64, B128] at *; omega
  · simp only [B64, B128] at *; omega
  · simp only [B64, B128] at *; omega
  · have eq2 : ((2 * qh + ql / 9223372036854775808) % B64) * B64 + 2 * ql % B64 = 2 * (qh * B64 + ql) := by simp only [B64, B128] at *; omega
    split
    · have : ((2 * qh + ql / 9223372036854775808) % B64) * B64 + (2 * ql % B64 + 1) = 2 * (qh * B64 + ql) + 1 := by omega
      rw [this, h3]; generalize qh * B64 + ql = Q; rw [Nat.add_mul (2 * Q) 1 d, Nat.mul_assoc 2 Q d]; omega
    · rw [eq2, h3]; generalize qh * B64 + ql = Q; rw [Nat.mul_assoc 2 Q d]; omega
  · rw [two_succ]; omega
  · split <;> omega
  · split <;> simp only [B64, B128] at * <;> omega
  · simp only [B64]; omega

theorem divAt_end {N d hi lo qh ql r : Nat} (hN : N < B128) (hd : 0 < d) (h : DivAt N d 128 hi lo qh ql r) : qh = N / d / B64 ∧ ql = N / d % B64 ∧ r = N % d := by
  obtain ⟨⟨A, M, e, hA, h1, h2, h3, hM⟩, hr, hql, hqh⟩ := h
  have hMN : M = N := by simp only [B64, B128] at *; omega
  subst hMN
  have e1 : M / d = qh * B64 + ql := by
    rw [h3, Nat.add_comm, Nat.add_mul_div_right _ _ hd, Nat.div_eq_of_lt hr, Nat.zero_add]
  have e2 : M % d = r := by rw [h3, Nat.add_comm, Nat.add_mul_mod_self_right, Nat.mod_eq_of_lt hr]
  rw [e1, e2]; simp only [B64] at *; refine ⟨by omega, by omega, trivial⟩

/-- Two steps of a division by a divisor whose lower half is 0. -/
theorem div2 (u32 u1 u0 yn1 : Nat) :
    (u32 * 4294967296 + u1) * 4294967296 + u0 = (u32 / yn1 * 4294967296 + (u32 % yn1 * 4294967296 + u1) / yn1) * (yn1 * 4294967296) + ((u32 % yn1 * 4294967296 + u1) % yn1 * 4294967296 + u0) := by
  have h1 := Nat.div_add_mod' u32 yn1
  have h2 := Nat.div_add_mod' (u32 % yn1 * 4294967296 + u1) yn1
  have e : (u32 / yn1 * 4294967296 + (u32 % yn1 * 4294967296 + u1) / yn1) * (yn1 * 4294967296) = (u32 / yn1 * yn1 * 4294967296 + (u32 % yn1 * 4294967296 + u1) / yn1 * yn1) * 4294967296 := by
    rw [← Nat.mul_assoc, Nat.add_mul _ _ yn1, Nat.mul_right_comm]
  rw [e]
  omega

theorem quot_of {N S y yn q R : Nat} (hS : 0 < S) (hy : yn = y * S) (h : N * S = q * yn + R) (hR : R < yn) : q = N / y ∧ R / S = N % y := by
  subst hy
  rw [← Nat.mul_assoc] at h
  have hle : q * y ≤ N := Nat.le_of_mul_le_mul_right (by omega : q * y * S ≤ N * S) hS
  obtain ⟨m, hm⟩ := Nat.exists_eq_add_of_le hle
  have hR2 : R = m * S := by rw [hm, Nat.add_mul] at h; omega
  have hmy : m < y := by rw [hR2] at hR; exact Nat.lt_of_mul_lt_mul_right hR
  rw [hm, hR2, Nat.mul_div_cancel _ hS]
  refine ⟨?_, ?_⟩
  · rw [Nat.mul_comm, Nat.mul_add_div (by omega), Nat.div_eq_of_lt hmy]; omega
  · rw [Nat.mul_comm, Nat.mul_add_mod, Nat.mod_eq_of_lt hmy]

theorem ar1 (a b c : Nat) : ((a + b) * 4294967296 + c / 4294967296) * 4294967296 + c % 4294967296 = a * B64 + (b * B64 + c) := by simp only [B64]; omega
theorem ar2 {r y u : Nat} (h : r < y) (hu : u < 4294967296) : r * 4294967296 + u < y * 4294967296 := by omega

/-- Div64 where the divisor is below 2^32: its steps, with S = 2^s and T = 2^(64-s). -/
theorem div64_small (hi lo y S T yn1 : Nat) (hh : hi < y) (hl : lo < B64) (hST : S * T = B64) (hS : 0 < S) (hY : y * S = yn1 * 4294967296) (hY2 : y * S < B64) :
    hi * S + lo / T < yn1 * 4294967296 ∧ lo / T < S ∧ hi * S < B64 ∧
    (hi * S + lo / T) / yn1 < 4294967296 ∧
    (hi * S + lo / T) % yn1 * 4294967296 + lo * S % B64 / 4294967296 < yn1 * 4294967296 ∧
    ((hi * S + lo / T) % yn1 * 4294967296 + lo * S % B64 / 4294967296) / yn1 < 4294967296 ∧
    (hi * S + lo / T) / yn1 * 4294967296 + ((hi * S + lo / T) % yn1 * 4294967296 + lo * S % B64 / 4294967296) / yn1 = (hi * B64 + lo) / y ∧
    (((hi * S + lo / T) % yn1 * 4294967296 + lo * S % B64 / 4294967296) % yn1 * 4294967296 + lo * S % B64 % 4294967296) / S = (hi * B64 + lo) % y := by
  have hT : 0 < T := by
    rcases Nat.eq_zero_or_pos T with h | h
    · rw [h, Nat.mul_zero] at hST; exact absurd hST (by decide)
    · exact h
  have h1 : lo / T < S := by rw [Nat.div_lt_iff_lt_mul hT, hST]; exact hl
  have h2 : hi * S + S ≤ y * S := by have := Nat.mul_le_mul_right S (show hi + 1 ≤ y from hh); rw [Nat.add_mul, Nat.one_mul] at this; exact this
  have hyn : 0 < yn1 := by omega
  have h3 : hi * S + lo / T < yn1 * 4294967296 := by omega
  have h4 : lo * S % B64 = lo % T * S := by
    rw [← hST, Nat.mul_comm lo S, Nat.mul_mod_mul_left, Nat.mul_comm]
  have h5 : (hi * S + lo / T) % yn1 < yn1 := Nat.mod_lt _ hyn
  have h6 : lo * S % B64 / 4294967296 < 4294967296 := by simp only [B64] at *; omega
  have h7 : (hi * S + lo / T) % yn1 * 4294967296 + lo * S % B64 / 4294967296 < yn1 * 4294967296 := by omega
  have h8 := div2 (hi * S + lo / T) (lo * S % B64 / 4294967296) (lo * S % B64 % 4294967296) yn1
  have h9 : ((hi * S + lo / T) * 4294967296 + lo * S % B64 / 4294967296) * 4294967296 + lo * S % B64 % 4294967296 = (hi * B64 + lo) * S := by
    have e1 : (hi * B64 + lo) * S = hi * S * B64 + lo * S := by rw [Nat.add_mul, Nat.mul_right_comm]
    have e2 : lo * S = lo / T * B64 + lo % T * S := by
      rw [← hST]
      have := Nat.div_add_mod' lo T
      calc lo * S = (lo / T * T + lo % T) * S := by rw [this]
        _ = lo / T * (S * T) + lo % T * S := by rw [Nat.add_mul, Nat.mul_assoc, Nat.mul_comm T S]
    rw [e1, h4]
    exact (ar1 (hi * S) (lo / T) (lo % T * S)).trans (by rw [← e2])
  have h10 : ((hi * S + lo / T) % yn1 * 4294967296 + lo * S % B64 / 4294967296) % yn1 < yn1 := Nat.mod_lt _ hyn
  have h11 : lo * S % B64 % 4294967296 < 4294967296 := Nat.mod_lt _ (by omega)
  have h12 := h9.symm.trans h8
  have h13 : ((hi * S + lo / T) % yn1 * 4294967296 + lo * S % B64 / 4294967296) % yn1 * 4294967296 + lo * S % B64 % 4294967296 < yn1 * 4294967296 := ar2 h10 h11
  have hK : yn1 * 4294967296 = y * S := hY.symm
  have h14 := quot_of hS (yn := yn1 * 4294967296) hK h12 h13
  refine ⟨h3, h1, by omega, ?_, h7, ?_, h14⟩
  · exact (Nat.div_lt_iff_lt_mul hyn).2 (by rw [Nat.mul_comm 4294967296 yn1]; exact h3)
  · exact (Nat.div_lt_iff_lt_mul hyn).2 (by rw [Nat.mul_comm 4294967296 yn1]; exact h7)

end Mon
end Go.Proofs.YtndlhhiifmjieaaDoor
