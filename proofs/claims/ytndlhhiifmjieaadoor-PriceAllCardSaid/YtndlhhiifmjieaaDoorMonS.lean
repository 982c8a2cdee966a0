/-
  The walk of money.Scale in the mode 1, at the program's divisors.
-/
import Derived.Test.YtndlhhiifmjieaaDoorMonE
namespace Go.Proofs.YtndlhhiifmjieaaDoor
namespace MonW
set_option linter.unusedSimpArgs false
set_option linter.unusedVariables false
open Go.RowKit

def Dn (d : Nat) : Prop := d = 1 ∨ d = 60 ∨ d = 60000 ∨ d = 10000
theorem Dn.pos {d : Nat} (h : Dn d) : 1 ≤ d ∧ d ≤ 60000 := by rcases h with rfl | rfl | rfl | rfl <;> decide

set_option maxHeartbeats 1000000 in
theorem div64_1 (lo : Nat) (hl : lo < 18446744073709551616) (w : World) :
    Calls Tryd.prog 43 #[u 0, u lo, .int .u64 1] w fun e w' => e = .returned (.tuple #[u lo, u 0]) ∧ ∃ n, w' = w.drewN n := by
  go_enter Tryd.func43, Tryd.ntmps43
  go_wp2
  go_quiet (fail)
  go_wp2
  go_ret2
  exact ⟨retUU (by omega) (by omega), nq, rfl⟩

theorem div64 {d : Nat} (h : Dn d) (hi lo : Nat) (hh : hi < d) (hl : lo < 18446744073709551616) (w : World) :
    Calls Tryd.prog 43 #[u hi, u lo, u d] w fun e w' => e = .returned (.tuple #[u ((hi * 18446744073709551616 + lo) / d), u ((hi * 18446744073709551616 + lo) % d)]) ∧ ∃ n, w' = w.drewN n := by
  rcases h with rfl | rfl | rfl | rfl
  · have h0 : hi = 0 := by omega
    subst h0
    refine (div64_1 lo hl w).mono ?_
    rintro e w' ⟨rfl, hw⟩
    refine ⟨?_, hw⟩
    rw [Nat.zero_mul, Nat.zero_add, Nat.div_one, Nat.mod_one]
  · exact div64_60 hi lo hh hl w
  · exact div64_60000 hi lo hh hl w
  · exact div64_10000 hi lo hh hl w

/-- N/d, rounded half up. -/
def rnd (N d : Nat) : Nat := N / d + if d ≤ 2 * (N % d) then 1 else 0
def neg (a b : Int) : Bool := decide (a < 0) != decide (b < 0)
def scQ (a b : Int) (d : Nat) : Nat := rnd (a.natAbs * b.natAbs) d
def scOk (a b : Int) (d : Nat) : Bool := fits (scQ a b d) (neg a b)
def scV (a b : Int) (d : Nat) : Int := if scOk a b d then sgn (scQ a b d) (neg a b) else 0
def scE (a b : Int) (d : Nat) : Int := if scOk a b d then 0 else 20

theorem fits_big {q : Nat} {b : Bool} (h : 9223372036854775808 < q) : fits q b = false := by
  unfold fits
  rw [decide_eq_false (by omega), decide_eq_false (by omega)]
  simp
theorem scBig {a b : Int} {d q : Nat} (hq : scQ a b d = q) (h : 9223372036854775808 < q) : scV a b d = 0 ∧ scE a b d = 20 := by
  unfold scV scE scOk
  rw [hq, fits_big h]
  simp
theorem scNo {a b : Int} {d q : Nat} {n : Bool} (hn : neg a b = n) (hq : scQ a b d = q) (h : fits q n = false) : scV a b d = 0 ∧ scE a b d = 20 := by
  unfold scV scE scOk
  rw [hn, hq, h]
  simp
theorem scYes {a b : Int} {d q : Nat} {n : Bool} (hn : neg a b = n) (hq : scQ a b d = q) (h : fits q n = true) : scV a b d = sgn q n ∧ scE a b d = 0 := by
  unfold scV scE scOk
  rw [hn, hq, h]
  simp

theorem absLt {a : Int} (h : -9223372036854775808 ≤ a) (h' : a ≤ 9223372036854775807) : a.natAbs ≤ 9223372036854775808 := by omega

theorem natAbs_mul_lt {a b : Int} (ha : a.natAbs ≤ 9223372036854775808) (hb : b.natAbs ≤ 9223372036854775808) : a.natAbs * b.natAbs ≤ 85070591730234615865843651857942052864 :=
  Nat.le_trans (Nat.mul_le_mul ha hb) (by decide)

theorem ret2 {a b c d : Int} (h : a = c ∧ b = d) : Ending.returned (.tuple #[.int .i64 a, .int .i64 b]) = .returned (.tuple #[i c, i d]) := by rw [h.1, h.2]

set_option maxHeartbeats 2000000 in
theorem scale (a b : Int) (d : Nat) (hd : Dn d) (w : World) (ha : -9223372036854775808 ≤ a) (ha' : a ≤ 9223372036854775807) (hb : -9223372036854775808 ≤ b) (hb' : b ≤ 9223372036854775807) :
    Calls Tryd.prog 28 #[i a, i b, i d, i 1] w fun e w' => e = .returned (.tuple #[i (scV a b d), i (scE a b d)]) ∧ ∃ n, w' = w.drewN n := by
  obtain ⟨hd1, hd2⟩ := hd.pos
  have h1 := Lib.hid (size a · ha ha')
  have h2 := Lib.hid (size b · hb hb')
  have hx := absLt ha ha'
  have hy := absLt hb hb'
  have hxy := natAbs_mul_lt hx hy
  obtain ⟨n1, hn1⟩ : ∃ n1, decide (a < 0) = n1 := ⟨_, rfl⟩
  obtain ⟨n2, hn2⟩ : ∃ n2, decide (b < 0) = n2 := ⟨_, rfl⟩
  have hn : neg a b = (n1 != n2) := by unfold neg; rw [hn1, hn2]
  rw [hn1] at h1
  rw [hn2] at h2
  clear hn1 hn2
  obtain ⟨x, hx0⟩ : ∃ x, a.natAbs = x := ⟨_, rfl⟩
  obtain ⟨y, hy0⟩ : ∃ y, b.natAbs = y := ⟨_, rfl⟩
  have h3 := Lib.hid (mul64 x y (by omega) (by omega))
  have hq0 : scQ a b d = rnd (x * y) d := by unfold scQ; rw [hx0, hy0]
  rw [hx0, hy0] at hxy
  rw [hx0] at h1
  rw [hy0] at h2
  clear hx hy hx0 hy0
  obtain ⟨N, hN⟩ : ∃ N, x * y = N := ⟨_, rfl⟩
  rw [hN] at h3 hxy hq0
  clear hN
  have hrN : N % d < d := Nat.mod_lt _ (by omega)
  obtain ⟨hi, hhi⟩ : ∃ hi, N / 18446744073709551616 = hi := ⟨_, rfl⟩
  obtain ⟨lo, hlo⟩ : ∃ lo, N % 18446744073709551616 = lo := ⟨_, rfl⟩
  rw [hhi, hlo] at h3
  have e0 : hi * 18446744073709551616 + lo = N := by omega
  have hlo' : lo < 18446744073709551616 := by omega
  have hhi' : hi ≤ 4611686018427387904 := by omega
  have HQ := Lib.hid hq0
  have HNN := Lib.hid hn
  clear hq0 hhi hlo hxy hn
  by_cases hbig : d ≤ hi
  · have hbz : (d : Int) ≤ (hi : Int) := by omega
    have HB : Hid (9223372036854775808 < rnd N d) := by
      have : 18446744073709551616 ≤ N / d := (Nat.le_div_iff_mul_le (by omega)).2 (by rw [← e0, Nat.mul_comm]; exact Nat.le_trans (Nat.mul_le_mul_right _ hbig) (Nat.le_add_right _ _))
      show _ < _
      unfold rnd
      omega
    clear e0 hrN hbig
    go_enter Tryd.func28, Tryd.ntmps28
    go_wp2_with fail
    refine (h1.out _).mono ?_
    rintro e w' ⟨rfl, rfl⟩
    go_wp2_with fail
    refine (h2.out _).mono ?_
    rintro e w' ⟨rfl, rfl⟩
    go_wp2_with fail
    refine (h3.out _).mono ?_
    rintro e w' ⟨rfl, rfl⟩
    go_wp2_with fail
    go_ret2
    have := scBig HQ.out HB.out
    exact ⟨ret2 ⟨this.1.symm, this.2.symm⟩, 0, rfl⟩
  · have hbz : ¬ (d : Int) ≤ (hi : Int) := by omega
    have h4 := Lib.hid (div64 hd hi lo (by omega) hlo')
    rw [e0] at h4
    have hqb : N / d < 18446744073709551616 := (Nat.div_lt_iff_lt_mul (by omega)).2 (by
      have : hi + 1 ≤ d := by omega
      have := Nat.mul_le_mul_right 18446744073709551616 this
      rw [Nat.mul_comm d] at this
      omega)
    have hrq : rnd N d = N / d + if d ≤ 2 * (N % d) then 1 else 0 := rfl
    obtain ⟨q, hq⟩ : ∃ q, N / d = q := ⟨_, rfl⟩
    obtain ⟨r, hr⟩ : ∃ r, N % d = r := ⟨_, rfl⟩
    rw [hq, hr] at h4 hrq
    rw [hr] at hrN
    rw [hq] at hqb
    rw [hrq] at HQ
    have h5 := Lib.hid (away q r d · hrN (by omega))
    clear e0 hbig hq hr hrq
    by_cases hup : d ≤ 2 * r
    · rw [if_pos hup] at HQ
      rw [decide_eq_true (show d - r ≤ r by omega)] at h5
      clear hup
      by_cases hmx : q = 18446744073709551615
      · subst hmx
        have HB := scBig HQ.out (by omega)
        have HB' := Lib.hid HB
        clear HB
        go_enter Tryd.func28, Tryd.ntmps28
        go_wp2_with fail
        refine (h1.out _).mono ?_
        rintro e w' ⟨rfl, rfl⟩
        go_wp2_with fail
        refine (h2.out _).mono ?_
        rintro e w' ⟨rfl, rfl⟩
        go_wp2_with fail
        refine (h3.out _).mono ?_
        rintro e w' ⟨rfl, rfl⟩
        go_wp2_with fail
        refine (h4.out _).mono ?_
        rintro e w' ⟨rfl, nd, rfl⟩
        go_wp2_with fail
        refine (h5.out _).mono ?_
        rintro e w' ⟨rfl, rfl⟩
        go_wp2_with fail
        go_ret2
        exact ⟨ret2 ⟨HB'.out.1.symm, HB'.out.2.symm⟩, nd, rfl⟩
      · obtain ⟨q1, hq1⟩ : ∃ q1, q + 1 = q1 := ⟨_, rfl⟩
        have E1 : IntKind.u64.wrap ((q : Int) + 1) = (q1 : Int) := by rw [wrapU]; omega
        have E2 : ((q1 : Int) == 0) = false := beq_eq_false_iff_ne.2 (by omega)
        have h6 := Lib.hid (signed q1 (n1 != n2) · (by omega))
        rw [hq1] at HQ
        clear hmx hq1 hqb
        cases hf : fits q1 (n1 != n2)
        all_goals
          first | have HB' := Lib.hid (scNo HNN.out HQ.out hf) | have HB' := Lib.hid (scYes HNN.out HQ.out hf)
          rw [hf] at h6
          clear hf
          go_enter Tryd.func28, Tryd.ntmps28
          go_wp2_with fail
          refine (h1.out _).mono ?_
          rintro e w' ⟨rfl, rfl⟩
          go_wp2_with fail
          refine (h2.out _).mono ?_
          rintro e w' ⟨rfl, rfl⟩
          go_wp2_with fail
          refine (h3.out _).mono ?_
          rintro e w' ⟨rfl, rfl⟩
          go_wp2_with fail
          refine (h4.out _).mono ?_
          rintro e w' ⟨rfl, nd, rfl⟩
          go_wp2_with fail
          refine (h5.out _).mono ?_
          rintro e w' ⟨rfl, rfl⟩
          go_wp2_with fail
          refine (h6.out _).mono ?_
          rintro e w' ⟨rfl, rfl⟩
          go_wp2_with fail
          go_ret2
          exact ⟨ret2 ⟨HB'.out.1.symm, HB'.out.2.symm⟩, nd, rfl⟩
    · rw [if_neg hup, Nat.add_zero] at HQ
      rw [decide_eq_false (show ¬ d - r ≤ r by omega)] at h5
      clear hup
      have h6 := Lib.hid (signed q (n1 != n2) · hqb)
      cases hf : fits q (n1 != n2)
      all_goals
        first | have HB' := Lib.hid (scNo HNN.out HQ.out hf) | have HB' := Lib.hid (scYes HNN.out HQ.out hf)
        rw [hf] at h6
        clear hf
        go_enter Tryd.func28, Tryd.ntmps28
        go_wp2_with fail
        refine (h1.out _).mono ?_
        rintro e w' ⟨rfl, rfl⟩
        go_wp2_with fail
        refine (h2.out _).mono ?_
        rintro e w' ⟨rfl, rfl⟩
        go_wp2_with fail
        refine (h3.out _).mono ?_
        rintro e w' ⟨rfl, rfl⟩
        go_wp2_with fail
        refine (h4.out _).mono ?_
        rintro e w' ⟨rfl, nd, rfl⟩
        go_wp2_with fail
        refine (h5.out _).mono ?_
        rintro e w' ⟨rfl, rfl⟩
        go_wp2_with fail
        refine (h6.out _).mono ?_
        rintro e w' ⟨rfl, rfl⟩
        go_wp2_with fail
        go_ret2
        exact ⟨ret2 ⟨HB'.out.1.symm, HB'.out.2.symm⟩, nd, rfl⟩

end MonW
end Go.Proofs.YtndlhhiifmjieaaDoor
