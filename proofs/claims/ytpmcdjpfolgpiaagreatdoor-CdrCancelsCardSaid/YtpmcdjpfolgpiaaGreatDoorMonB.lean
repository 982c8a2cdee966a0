/-
  The walk of money.Scale in the mode 1, at the program's divisors.
  The walks of the reference's money: Mag, Mul, Div, Up, signed, Scale.
  The walks of the reference's Up, signed and Scale (mode 1).
-/
import Derived.Test.YtpmcdjpfolgpiaaGreatDoorMonA
import Derived.Deep.LoopGhost
import Derived.ProofKit
namespace Go.Proofs.YtpmcdjpfolgpiaaGreatDoor
namespace MonW
set_option linter.unusedSimpArgs false
set_option linter.unusedVariables false
open Go.RowKit

def Dn (d : Nat) : Prop := d = 1 ∨ d = 60 ∨ d = 60000 ∨ d = 10000
theorem Dn.pos {d : Nat} (h : Dn d) : 1 ≤ d ∧ d ≤ 60000 := by rcases h with rfl | rfl | rfl | rfl <;> decide

set_option maxHeartbeats 1000000 in
theorem div64_1 (lo : Nat) (hl : lo < 18446744073709551616) (w : World) :
    Calls Tryz.prog 149 #[u 0, u lo, .int .u64 1] w fun e w' => e = .returned (.tuple #[u lo, u 0]) ∧ ∃ n, w' = w.drewN n := by
  go_enter Tryz.func149, Tryz.ntmps149
  go_wp2
  go_quiet (fail)
  go_wp2
  go_ret2
  exact ⟨retUU (by omega) (by omega), nq, rfl⟩

theorem div64 {d : Nat} (h : Dn d) (hi lo : Nat) (hh : hi < d) (hl : lo < 18446744073709551616) (w : World) :
    Calls Tryz.prog 149 #[u hi, u lo, u d] w fun e w' => e = .returned (.tuple #[u ((hi * 18446744073709551616 + lo) / d), u ((hi * 18446744073709551616 + lo) % d)]) ∧ ∃ n, w' = w.drewN n := by
  rcases h with rfl | rfl | rfl | rfl
  · have h0 : hi = 0 := by omega
    subst h0
    refine (div64_1 lo hl w).mono ?_
    rintro e w' ⟨rfl, hw⟩
    refine ⟨?_, hw⟩
    rw [Nat.zero_mul, Nat.zero_add, Nat.div_one, Nat.mod_one]
  · exact div64_60 hi lo hh hl w
  · exact div64_60000 hi lo hh hl w
  · exact div64_10000 hi lo hh hl w

/-- N/d, rounded half up. -/
def rnd (N d : Nat) : Nat := N / d + if d ≤ 2 * (N % d) then 1 else 0
def neg (a b : Int) : Bool := decide (a < 0) != decide (b < 0)
def scQ (a b : Int) (d : Nat) : Nat := rnd (a.natAbs * b.natAbs) d
def scOk (a b : Int) (d : Nat) : Bool := fits (scQ a b d) (neg a b)
def scV (a b : Int) (d : Nat) : Int := if scOk a b d then sgn (scQ a b d) (neg a b) else 0
def scE (a b : Int) (d : Nat) : Int := if scOk a b d then 0 else 20

theorem fits_big {q : Nat} {b : Bool} (h : 9223372036854775808 < q) : fits q b = false := by
  unfold fits
  rw [decide_eq_false (by omega), decide_eq_false (by omega)]
  simp
theorem scBig {a b : Int} {d q : Nat} (hq : scQ a b d = q) (h : 9223372036854775808 < q) : scV a b d = 0 ∧ scE a b d = 20 := by
  unfold scV scE scOk
  rw [hq, fits_big h]
  simp
theorem scNo {a b : Int} {d q : Nat} {n : Bool} (hn : neg a b = n) (hq : scQ a b d = q) (h : fits q n = false) : scV a b d = 0 ∧ scE a b d = 20 := by
  unfold scV scE scOk
  rw [hn, hq, h]
  simp
theorem scYes {a b : Int} {d q : Nat} {n : Bool} (hn : neg a b = n) (hq : scQ a b d = q) (h : fits q n = true) : scV a b d = sgn q n ∧ scE a b d = 0 := by
  unfold scV scE scOk
  rw [hn, hq, h]
  simp

theorem absLt {a : Int} (h : -9223372036854775808 ≤ a) (h' : a ≤ 9223372036854775807) : a.natAbs ≤ 9223372036854775808 := by omega

theorem natAbs_mul_lt {a b : Int} (ha : a.natAbs ≤ 9223372036854775808) (hb : b.natAbs ≤ 9223372036854775808) : a.natAbs * b.natAbs ≤ 85070591730234615865843651857942052864 :=
  Nat.le_trans (Nat.mul_le_mul ha hb) (by decide)

theorem ret2 {a b c d : Int} (h : a = c ∧ b = d) : Ending.returned (.tuple #[.int .i64 a, .int .i64 b]) = .returned (.tuple #[i c, i d]) := by rw [h.1, h.2]

set_option maxHeartbeats 2000000 in
theorem scale (a b : Int) (d : Nat) (hd : Dn d) (w : World) (ha : -9223372036854775808 ≤ a) (ha' : a ≤ 9223372036854775807) (hb : -9223372036854775808 ≤ b) (hb' : b ≤ 9223372036854775807) :
    Calls Tryz.prog 129 #[i a, i b, i d, i 1] w fun e w' => e = .returned (.tuple #[i (scV a b d), i (scE a b d)]) ∧ ∃ n, w' = w.drewN n := by
  obtain ⟨hd1, hd2⟩ := hd.pos
  have h1 := Lib.hid (size a · ha ha')
  have h2 := Lib.hid (size b · hb hb')
  have hx := absLt ha ha'
  have hy := absLt hb hb'
  have hxy := natAbs_mul_lt hx hy
  obtain ⟨n1, hn1⟩ : ∃ n1, decide (a < 0) = n1 := ⟨_, rfl⟩
  obtain ⟨n2, hn2⟩ : ∃ n2, decide (b < 0) = n2 := ⟨_, rfl⟩
  have hn : neg a b = (n1 != n2) := by unfold neg; rw [hn1, hn2]
  rw [hn1] at h1
  rw [hn2] at h2
  clear hn1 hn2
  obtain ⟨x, hx0⟩ : ∃ x, a.natAbs = x := ⟨_, rfl⟩
  obtain ⟨y, hy0⟩ : ∃ y, b.natAbs = y := ⟨_, rfl⟩
  have h3 := Lib.hid (mul64 x y (by omega) (by omega))
  have hq0 : scQ a b d = rnd (x * y) d := by unfold scQ; rw [hx0, hy0]
  rw [hx0, hy0] at hxy
  rw [hx0] at h1
  rw [hy0] at h2
  clear hx hy hx0 hy0
  obtain ⟨N, hN⟩ : ∃ N, x * y = N := ⟨_, rfl⟩
  rw [hN] at h3 hxy hq0
  clear hN
  have hrN : N % d < d := Nat.mod_lt _ (by omega)
  obtain ⟨hi, hhi⟩ : ∃ hi, N / 18446744073709551616 = hi := ⟨_, rfl⟩
  obtain ⟨lo, hlo⟩ : ∃ lo, N % 18446744073709551616 = lo := ⟨_, rfl⟩
  rw [hhi, hlo] at h3
  have e0 : hi * 18446744073709551616 + lo = N := by omega
  have hlo' : lo < 18446744073709551616 := by omega
  have hhi' : hi ≤ 4611686018427387904 := by omega
  have HQ := Lib.hid hq0
  have HNN := Lib.hid hn
  clear hq0 hhi hlo hxy hn
  by_cases hbig : d ≤ hi
  · have hbz : (d : Int) ≤ (hi : Int) := by omega
    have HB : Hid (9223372036854775808 < rnd N d) := by
      have : 18446744073709551616 ≤ N / d := (Nat.le_div_iff_mul_le (by omega)).2 (by rw [← e0, Nat.mul_comm]; exact Nat.le_trans (Nat.mul_le_mul_right _ hbig) (Nat.le_add_right _ _))
      show _ < _
      unfold rnd
      omega
    clear e0 hrN hbig
    go_enter Tryz.func129, Tryz.ntmps129
    go_wp2_with fail
    refine (h1.out _).mono ?_
    rintro e w' ⟨rfl, rfl⟩
    go_wp2_with fail
    refine (h2.out _).mono ?_
    rintro e w' ⟨rfl, rfl⟩
    go_wp2_with fail
    refine (h3.out _).mono ?_
    rintro e w' ⟨rfl, rfl⟩
    go_wp2_with fail
    go_ret2
    have := scBig HQ.out HB.out
    exact ⟨ret2 ⟨this.1.symm, this.2.symm⟩, 0, rfl⟩
  · have hbz : ¬ (d : Int) ≤ (hi : Int) := by omega
    have h4 := Lib.hid (div64 hd hi lo (by omega) hlo')
    rw [e0] at h4
    have hqb : N / d < 18446744073709551616 := (Nat.div_lt_iff_lt_mul (by omega)).2 (by
      have : hi + 1 ≤ d := by omega
      have := Nat.mul_le_mul_right 18446744073709551616 this
      rw [Nat.mul_comm d] at this
      omega)
    have hrq : rnd N d = N / d + if d ≤ 2 * (N % d) then 1 else 0 := rfl
    obtain ⟨q, hq⟩ : ∃ q, N / d = q := ⟨_, rfl⟩
    obtain ⟨r, hr⟩ : ∃ r, N % d = r := ⟨_, rfl⟩
    rw [hq, hr] at h4 hrq
    rw [hr] at hrN
    rw [hq] at hqb
    rw [hrq] at HQ
    have h5 := Lib.hid (away q r d · hrN (by omega))
    clear e0 hbig hq hr hrq
    by_cases hup : d ≤ 2 * r
    · rw [if_pos hup] at HQ
      rw [decide_eq_true (show d - r ≤ r by omega)] at h5
      clear hup
      by_cases hmx : q = 18446744073709551615
      · subst hmx
        have HB := scBig HQ.out (by omega)
        have HB' := Lib.hid HB
        clear HB
        go_enter Tryz.func129, Tryz.ntmps129
        go_wp2_with fail
        refine (h1.out _).mono ?_
        rintro e w' ⟨rfl, rfl⟩
        go_wp2_with fail
        refine (h2.out _).mono ?_
        rintro e w' ⟨rfl, rfl⟩
        go_wp2_with fail
        refine (h3.out _).mono ?_
        rintro e w' ⟨rfl, rfl⟩
        go_wp2_with fail
        refine (h4.out _).mono ?_
        rintro e w' ⟨rfl, nd, rfl⟩
        go_wp2_with fail
        refine (h5.out _).mono ?_
        rintro e w' ⟨rfl, rfl⟩
        go_wp2_with fail
        go_ret2
        exact ⟨ret2 ⟨HB'.out.1.symm, HB'.out.2.symm⟩, nd, rfl⟩
      · obtain ⟨q1, hq1⟩ : ∃ q1, q + 1 = q1 := ⟨_, rfl⟩
        have E1 : IntKind.u64.wrap ((q : Int) + 1) = (q1 : Int) := by rw [wrapU]; omega
        have E2 : ((q1 : Int) == 0) = false := beq_eq_false_iff_ne.2 (by omega)
        have h6 := Lib.hid (signed q1 (n1 != n2) · (by omega))
        rw [hq1] at HQ
        clear hmx hq1 hqb
        cases hf : fits q1 (n1 != n2)
        all_goals
          first | have HB' := Lib.hid (scNo HNN.out HQ.out hf) | have HB' := Lib.hid (scYes HNN.out HQ.out hf)
          rw [hf] at h6
          clear hf
          go_enter Tryz.func129, Tryz.ntmps129
          go_wp2_with fail
          refine (h1.out _).mono ?_
          rintro e w' ⟨rfl, rfl⟩
          go_wp2_with fail
          refine (h2.out _).mono ?_
          rintro e w' ⟨rfl, rfl⟩
          go_wp2_with fail
          refine (h3.out _).mono ?_
          rintro e w' ⟨rfl, rfl⟩
          go_wp2_with fail
          refine (h4.out _).mono ?_
          rintro e w' ⟨rfl, nd, rfl⟩
          go_wp2_with fail
          refine (h5.out _).mono ?_
          rintro e w' ⟨rfl, rfl⟩
          go_wp2_with fail
          refine (h6.out _).mono ?_
          rintro e w' ⟨rfl, rfl⟩
          go_wp2_with fail
          go_ret2
          exact ⟨ret2 ⟨HB'.out.1.symm, HB'.out.2.symm⟩, nd, rfl⟩
    · rw [if_neg hup, Nat.add_zero] at HQ
      rw [decide_eq_false (show ¬ d - r ≤ r by omega)] at h5
      clear hup
      have h6 := Lib.hid (signed q (n1 != n2) · hqb)
      cases hf : fits q (n1 != n2)
      all_goals
        first | have HB' := Lib.hid (scNo HNN.out HQ.out hf) | have HB' := Lib.hid (scYes HNN.out HQ.out hf)
        rw [hf] at h6
        clear hf
        go_enter Tryz.func129, Tryz.ntmps129
        go_wp2_with fail
        refine (h1.out _).mono ?_
        rintro e w' ⟨rfl, rfl⟩
        go_wp2_with fail
        refine (h2.out _).mono ?_
        rintro e w' ⟨rfl, rfl⟩
        go_wp2_with fail
        refine (h3.out _).mono ?_
        rintro e w' ⟨rfl, rfl⟩
        go_wp2_with fail
        refine (h4.out _).mono ?_
        rintro e w' ⟨rfl, nd, rfl⟩
        go_wp2_with fail
        refine (h5.out _).mono ?_
        rintro e w' ⟨rfl, rfl⟩
        go_wp2_with fail
        refine (h6.out _).mono ?_
        rintro e w' ⟨rfl, rfl⟩
        go_wp2_with fail
        go_ret2
        exact ⟨ret2 ⟨HB'.out.1.symm, HB'.out.2.symm⟩, nd, rfl⟩

end MonW
end Go.Proofs.YtpmcdjpfolgpiaaGreatDoor

namespace Go.Proofs.YtpmcdjpfolgpiaaGreatDoor
namespace MonW
set_option linter.unusedSimpArgs false
set_option linter.unusedVariables false
open Go.RowKit

set_option maxHeartbeats 400000 in
theorem rmag (n : Int) (w : World) (hn : -9223372036854775808 ≤ n) (hn' : n ≤ 9223372036854775807) :
    Calls Tryz.prog 137 #[i n] w fun e w' => e = .returned (u n.natAbs) ∧ w' = w := by
  go_enter Tryz.func137, Tryz.ntmps137
  go_wp2
  · go_ret
    exact ⟨congrArg (fun x => Ending.returned (.int .u64 x)) (by rw [wrapU, wrapU]; omega), rfl⟩
  · go_ret
    exact ⟨congrArg (fun x => Ending.returned (.int .u64 x)) (by omega), rfl⟩

theorem lowMul (x y : Nat) : (((x % 4294967296 * (y / 4294967296) + (x / 4294967296 * (y % 4294967296) + x % 4294967296 * (y % 4294967296) / 4294967296) % 4294967296) * 4294967296) % 18446744073709551616 + x % 4294967296 * (y % 4294967296) % 4294967296) % 18446744073709551616 = x * y % 18446744073709551616 := by
  have e : x * y = x / 4294967296 * (y / 4294967296) * 18446744073709551616 + (x / 4294967296 * (y % 4294967296) + x % 4294967296 * (y / 4294967296)) * 4294967296 + x % 4294967296 * (y % 4294967296) := by
    have hx := Nat.div_add_mod x 4294967296
    have hy := Nat.div_add_mod y 4294967296
    calc x * y = (4294967296 * (x / 4294967296) + x % 4294967296) * (4294967296 * (y / 4294967296) + y % 4294967296) := by rw [hx, hy]
      _ = _ := by
        generalize x / 4294967296 = a
        generalize x % 4294967296 = b
        generalize y / 4294967296 = c
        generalize y % 4294967296 = d
        rw [Nat.add_mul, Nat.mul_add, Nat.mul_add, Nat.mul_assoc 4294967296 a, Nat.mul_left_comm a 4294967296 c, Nat.mul_assoc 4294967296 a d, Nat.mul_left_comm b 4294967296 c]
        omega
  rw [e]
  generalize x / 4294967296 * (y / 4294967296) = p
  generalize x / 4294967296 * (y % 4294967296) = q
  generalize x % 4294967296 * (y / 4294967296) = r
  generalize x % 4294967296 * (y % 4294967296) = s
  omega

theorem modN (a : Nat) : (a : Int) % 4294967296 = ((a % 4294967296 : Nat) : Int) := by omega
theorem tmodN (a : Nat) : (a : Int).tmod 4294967296 = ((a % 4294967296 : Nat) : Int) := (Int.ofNat_tmod a 4294967296).symm
theorem hmx (x y : Nat) (hx : x < 18446744073709551616) (hy : y < 18446744073709551616) : x * y / 18446744073709551616 < 18446744073709551616 :=
  (Nat.div_lt_iff_lt_mul (by decide)).2 (Nat.mul_lt_mul'' hx hy)
theorem shlN (a : Nat) : (a : Int) * 4294967296 = ((a * 4294967296 : Nat) : Int) := by omega

set_option maxHeartbeats 1000000 in
theorem rmul (x y : Nat) (hx : x < 18446744073709551616) (hy : y < 18446744073709551616) (w : World) :
    Calls Tryz.prog 136 #[u x, u y] w fun e w' => e = .returned (.tuple #[u (x * y / 18446744073709551616), u (x * y % 18446744073709551616)]) ∧ w' = w := by
  obtain ⟨bd, bt, bw, hhi⟩ := Lib.mul64_hi x y hx hy
  rw [Nat.add_comm (_ % 4294967296) (x % 4294967296 * (y / 4294967296))] at bw hhi
  have ba := Lib.half_mul_le (a := x / 4294967296) (b := y / 4294967296) (by omega) (by omega)
  have bb := Lib.half_mul_le (a := x / 4294967296) (b := y % 4294967296) (by omega) (by omega)
  have bc := Lib.half_mul_le (a := x % 4294967296) (b := y / 4294967296) (by omega) (by omega)
  have ba' : x / 4294967296 * (y / 4294967296) < 18446744073709551616 := by omega
  have bb' : x / 4294967296 * (y % 4294967296) < 18446744073709551616 := by omega
  have bc' : x % 4294967296 * (y / 4294967296) < 18446744073709551616 := by omega
  have bh1 : x / 4294967296 * (y / 4294967296) + (x / 4294967296 * (y % 4294967296) + x % 4294967296 * (y % 4294967296) / 4294967296) / 4294967296 < 18446744073709551616 := by omega
  have bh : x / 4294967296 * (y / 4294967296) + (x / 4294967296 * (y % 4294967296) + x % 4294967296 * (y % 4294967296) / 4294967296) / 4294967296 + (x % 4294967296 * (y / 4294967296) + (x / 4294967296 * (y % 4294967296) + x % 4294967296 * (y % 4294967296) / 4294967296) % 4294967296) / 4294967296 < 18446744073709551616 := by omega
  have hlow := lowMul x y
  go_enter Tryz.func136, Tryz.ntmps136
  go_wp2
  simp only [divN, modN, tmodN, mulN, addN, wrapN _ bd, wrapN _ bb', wrapN _ bt, wrapN _ bc', wrapN _ bw, wrapN _ ba', wrapN _ bh1, wrapN _ bh, shlN, wrapM, hlow, hhi]
  go_ret2
  exact ⟨retUU (congrArg _ (Nat.mod_eq_of_lt (hmx x y hx hy))) rfl, rfl⟩

theorem dbl {r hi r2 : Nat} (h : 2 * r + hi / 9223372036854775808 = r2) (hb : r2 < 18446744073709551616) :
    IntKind.u64.wrap (IntKind.u64.wrap ((r : Int) * 2) + (hi : Int) / 9223372036854775808) = (r2 : Int) := by rw [wrapU, wrapU]; omega
theorem dbl2 {r hi r2 : Nat} (h : (2 * r + hi / 9223372036854775808) % 18446744073709551616 = r2) :
    IntKind.u64.wrap (IntKind.u64.wrap ((r : Int) * 2) + (hi : Int) / 9223372036854775808) = (r2 : Int) := by rw [wrapU, wrapU]; omega
theorem dbl3 {r r2 : Nat} (h : 2 * r % 18446744073709551616 = r2) : IntKind.u64.wrap ((r : Int) * 2) = (r2 : Int) := by rw [wrapU]; omega
theorem divAt_bounds {N d k hi lo qh ql r : Nat} (h : Mon.DivAt N d k hi lo qh ql r) : (hi < 18446744073709551616 ∧ lo < 18446744073709551616) ∧ ql < 18446744073709551616 ∧ qh < 18446744073709551616 := by
  obtain ⟨⟨A, M, e, hA, h1, h2, h3, hM⟩, hr, hql, hqh⟩ := h
  simp only [Mon.B64, Mon.B128] at *
  clear e h3 hM
  omega

set_option maxRecDepth 100000 in
set_option maxHeartbeats 1000000 in
theorem rdiv (hi lo d : Nat) (hh : hi < 18446744073709551616) (hl : lo < 18446744073709551616) (hd : 1 ≤ d) (hd' : d < 4611686018427387904) (w : World) :
    Calls Tryz.prog 138 #[u hi, u lo, u d] w fun e w' => e = .returned (.tuple #[u ((hi * 18446744073709551616 + lo) / d / 18446744073709551616), u ((hi * 18446744073709551616 + lo) / d % 18446744073709551616), u ((hi * 18446744073709551616 + lo) % d)]) ∧ ∃ n, w' = w.drewN n := by
  obtain ⟨N, hN⟩ : ∃ N, hi * 18446744073709551616 + lo = N := ⟨_, rfl⟩
  have D0 := Lib.hid (Mon.divAt_zero hh hl hd)
  simp only [Mon.B64] at D0
  rw [hN] at D0 ⊢
  have hNb : N < Mon.B128 := by simp only [Mon.B128]; omega
  have HNB := Lib.hid hNb
  have hdz : (d : Int) < 4611686018427387904 := by omega
  clear hN hNb hh hl hd'
  go_enter Tryz.func138, Tryz.ntmps138
  go_wp2
  go_loopg [0, 1, 9, 10, 11, 12] 128 (fun gg s0 s1 s9 s10 s11 s12 wr => ∃ hi lo qh ql r kk m : Nat, kk ≤ 128 ∧ 128 - kk ≤ gg ∧ s0 = u hi ∧ s1 = u lo ∧ s9 = u qh ∧ s10 = u ql ∧ s11 = u r ∧ s12 = i kk ∧ wr = w.drewN m ∧ Hid (Mon.DivAt N d kk hi lo qh ql r))
  case atStart => exact ⟨hi, lo, 0, 0, 0, 0, 0, by omega, by omega, rfl, rfl, rfl, rfl, rfl, rfl, rfl, D0⟩
  case round =>
    clear D0
    obtain ⟨hi, lo, qh, ql, r, kk, m, hk, hg, rfl, rfl, rfl, rfl, rfl, rfl, rfl, HD⟩ := hrel
    by_cases hlt : kk < 128
    · have hltz : (kk : Int) < 128 := by omega
      have HS := Mon.divAt_step hlt hd HD.out
      have hr := HD.out.r
      obtain ⟨⟨hib, lob⟩, qlb, qhb⟩ := divAt_bounds HD.out
      simp only [Mon.B64] at HS
      have HK := Lib.hid (And.intro hlt hg)
      clear hlt hk hg
      go_upto_region 11 with (fail)
      obtain ⟨r2, hr2⟩ : ∃ r2, 2 * r + hi / 9223372036854775808 = r2 := ⟨_, rfl⟩
      obtain ⟨h2, hh2⟩ : ∃ h2, (2 * hi + lo / 9223372036854775808) % 18446744073709551616 = h2 := ⟨_, rfl⟩
      obtain ⟨l2, hl2⟩ : ∃ l2, 2 * lo % 18446744073709551616 = l2 := ⟨_, rfl⟩
      obtain ⟨g2, hg2⟩ : ∃ g2, (2 * qh + ql / 9223372036854775808) % 18446744073709551616 = g2 := ⟨_, rfl⟩
      obtain ⟨q2, hq2⟩ : ∃ q2, 2 * ql % 18446744073709551616 = q2 := ⟨_, rfl⟩
      rw [hr2, hh2, hl2, hg2, hq2] at HS
      have Et : (r : Int) / 9223372036854775808 = 0 := by clear HS; omega
      have Er := dbl hr2 (by clear HS; omega)
      have Er2 : (r : Int) * 2 + (hi : Int) / 9223372036854775808 = (r2 : Int) := by clear HS; omega
      have Eh := dbl2 hh2
      have El := dbl3 hl2
      have Eg := dbl2 hg2
      have Eq := dbl3 hq2
      have r2b : r2 < 18446744073709551616 := by clear HS; omega
      have q2b : q2 + 1 < 18446744073709551616 := by clear HS; omega
      simp only [Et, Er, Er2, Eh, El, Eg, Eq]
      clear Et Er Er2 Eh El Eg Eq hr2 hh2 hl2 hg2 hq2 HD hr hib lob qlb qhb
      by_cases hle : d ≤ r2
      · rw [if_pos hle, if_pos hle] at HS
        have HS' := Lib.hid HS
        have hlez : (d : Int) ≤ (r2 : Int) := by omega
        have E1 : IntKind.u64.wrap ((r2 : Int) - (d : Int)) = ((r2 - d : Nat) : Int) := by clear HS; rw [wrapU]; omega
        have E2 : IntKind.u64.wrap ((q2 : Int) + 1) = ((q2 + 1 : Nat) : Int) := by clear HS; rw [wrapU]; omega
        clear HS hle r2b q2b hdz HNB
        go_wp2_with fail
        go_roundg (128 - (kk + 1))
        case measure => have := HK.out; omega
        case rel => exact ⟨h2, l2, g2, q2 + 1, r2 - d, kk + 1, m, by have := HK.out; omega, by omega, rfl, rfl, rfl, by first | rfl | rw [E2], by first | rfl | rw [E1], by go_num, rfl, HS'⟩
      · rw [if_neg hle, if_neg hle] at HS
        have HS' := Lib.hid HS
        have hlez : ¬ (d : Int) ≤ (r2 : Int) := by omega
        clear HS hle r2b q2b hdz HNB
        go_wp2_with fail
        go_roundg (128 - (kk + 1))
        case measure => have := HK.out; omega
        case rel => exact ⟨h2, l2, g2, q2, r2, kk + 1, m, by have := HK.out; omega, by omega, rfl, rfl, rfl, rfl, rfl, by go_num, rfl, HS'⟩
    · have hltz : ¬ (kk : Int) < 128 := by omega
      go_wp2_with fail
      refine bodyPost_ret (v := .tuple #[u qh, u ql, u r]) (by simp [results, Tryz.results138, go_sem]) rfl ?_
      have hke : kk = 128 := by omega
      subst hke
      obtain ⟨e1, e2, e3⟩ := Mon.divAt_end HNB.out hd HD.out
      simp only [Mon.B64] at e1 e2 e3
      exact ⟨by rw [← e1, ← e2, ← e3], m, rfl⟩
end MonW
end Go.Proofs.YtpmcdjpfolgpiaaGreatDoor

namespace Go.Proofs.YtpmcdjpfolgpiaaGreatDoor
namespace MonW
set_option linter.unusedSimpArgs false
set_option linter.unusedVariables false
open Go.RowKit

set_option maxHeartbeats 400000 in
theorem rup (o : Bool) (r d : Nat) (w : World) (hr : r < d) (hd : d < 18446744073709551616) :
    Calls Tryz.prog 139 #[.bool o, u r, u d, i 1] w fun e w' => e = .returned (.bool (decide (d - r ≤ r))) ∧ w' = w := by
  go_enter Tryz.func139, Tryz.ntmps139
  go_wp2
  all_goals go_ret
  all_goals exact ⟨retB (decide_eq_decide.2 (by omega)), rfl⟩

def fits2 (h l : Nat) (b : Bool) : Bool := decide (h = 0) && fits l b

set_option maxHeartbeats 400000 in
theorem rsigned (b : Bool) (h l : Nat) (w : World) (hl : l < 18446744073709551616) :
    Calls Tryz.prog 140 #[.bool b, u h, u l] w fun e w' => e = .returned (.tuple #[i (sgn l b), .bool (fits2 h l b)]) ∧ w' = w := by
  have hz : ((h : Int) == 0) = decide (h = 0) := by rw [Bool.eq_iff_iff]; simp
  by_cases h0 : h = 0
  · subst h0
    go_enter Tryz.func140, Tryz.ntmps140
    cases b
    · go_wp2
      go_ret2
      exact ⟨retIB rfl (by simp only [fits2, fits, Bool.false_and, Bool.or_false, decide_true, Bool.true_and]; exact decide_eq_decide.2 (by omega)), rfl⟩
    · go_wp2
      go_ret2
      refine ⟨retIB ?_ ?_, rfl⟩
      · simp only [sgn, if_pos]; rw [wrapU]; unfold wrap64; omega
      · simp only [fits2, fits, Bool.true_and, ← Bool.decide_or, decide_true]; exact decide_eq_decide.2 (by omega)
  · have h1 : ((h : Int) == 0) = false := beq_eq_false_iff_ne.2 (by omega)
    have HF : Hid (fits2 h l b = false) := by show _ = _; unfold fits2; rw [decide_eq_false h0]; rfl
    clear hz h0
    go_enter Tryz.func140, Tryz.ntmps140
    cases b
    · go_wp2
      go_ret2
      exact ⟨retIB rfl HF.out.symm, rfl⟩
    · go_wp2
      go_ret2
      refine ⟨retIB ?_ HF.out.symm, rfl⟩
      · simp only [sgn, if_pos]; rw [wrapU]; unfold wrap64; omega

theorem fits_split {h l : Nat} (b : Bool) (hl : l < 18446744073709551616) : fits (h * 18446744073709551616 + l) b = fits2 h l b := by
  unfold fits2
  by_cases h0 : h = 0
  · subst h0; simp
  · rw [decide_eq_false h0, Bool.false_and]; exact fits_big (by omega)

theorem scNo2 {a b : Int} {d h l : Nat} {n : Bool} (hl : l < 18446744073709551616) (hn : neg a b = n) (hq : scQ a b d = h * 18446744073709551616 + l) (hf : fits2 h l n = false) : scV a b d = 0 ∧ scE a b d = 20 :=
  scNo hn hq (by rw [fits_split _ hl]; exact hf)
theorem scYes2 {a b : Int} {d h l : Nat} {n : Bool} (hl : l < 18446744073709551616) (hn : neg a b = n) (hq : scQ a b d = h * 18446744073709551616 + l) (hf : fits2 h l n = true) : scV a b d = sgn l n ∧ scE a b d = 0 := by
  have h0 : h = 0 := by
    unfold fits2 at hf
    simp at hf
    exact hf.1
  subst h0
  rw [Nat.zero_mul, Nat.zero_add] at hq
  exact scYes hn hq (by simpa [fits2] using hf)

set_option maxHeartbeats 2000000 in
theorem rscale (a b : Int) (d : Nat) (hd : Dn d) (w : World) (ha : -9223372036854775808 ≤ a) (ha' : a ≤ 9223372036854775807) (hb : -9223372036854775808 ≤ b) (hb' : b ≤ 9223372036854775807) :
    Calls Tryz.prog 113 #[i a, i b, i d, i 1] w fun e w' => e = .returned (.tuple #[i (scV a b d), i (scE a b d)]) ∧ ∃ n, w' = w.drewN n := by
  obtain ⟨hd1, hd2⟩ := hd.pos
  have h1 := Lib.hid (rmag a · ha ha')
  have h2 := Lib.hid (rmag b · hb hb')
  have hx := absLt ha ha'
  have hy := absLt hb hb'
  have hxy := natAbs_mul_lt hx hy
  have HNN := Lib.hid (show neg a b = (decide (a < 0) != decide (b < 0)) from rfl)
  obtain ⟨x, hx0⟩ : ∃ x, a.natAbs = x := ⟨_, rfl⟩
  obtain ⟨y, hy0⟩ : ∃ y, b.natAbs = y := ⟨_, rfl⟩
  have h3 := Lib.hid (rmul x y (by omega) (by omega))
  have hq0 : scQ a b d = rnd (x * y) d := by unfold scQ; rw [hx0, hy0]
  rw [hx0, hy0] at hxy
  rw [hx0] at h1
  rw [hy0] at h2
  clear hx hy hx0 hy0
  obtain ⟨N, hN⟩ : ∃ N, x * y = N := ⟨_, rfl⟩
  rw [hN] at h3 hxy hq0
  clear hN
  have hrN : N % d < d := Nat.mod_lt _ (by omega)
  obtain ⟨hi, hhi⟩ : ∃ hi, N / 18446744073709551616 = hi := ⟨_, rfl⟩
  obtain ⟨lo, hlo⟩ : ∃ lo, N % 18446744073709551616 = lo := ⟨_, rfl⟩
  rw [hhi, hlo] at h3
  have e0 : hi * 18446744073709551616 + lo = N := by omega
  have h4 := Lib.hid (rdiv hi lo d (by omega) (by omega) hd1 (by omega))
  rw [e0] at h4
  have hQb : N / d ≤ 85070591730234615865843651857942052864 := Nat.le_trans (Nat.div_le_self _ _) hxy
  have hrq : rnd N d = N / d + if d ≤ 2 * (N % d) then 1 else 0 := rfl
  obtain ⟨Q, hQ⟩ : ∃ Q, N / d = Q := ⟨_, rfl⟩
  obtain ⟨r, hr⟩ : ∃ r, N % d = r := ⟨_, rfl⟩
  rw [hQ, hr] at h4 hrq
  rw [hr] at hrN
  rw [hQ] at hQb
  obtain ⟨qh, hqh⟩ : ∃ qh, Q / 18446744073709551616 = qh := ⟨_, rfl⟩
  obtain ⟨ql, hql⟩ : ∃ ql, Q % 18446744073709551616 = ql := ⟨_, rfl⟩
  rw [hqh, hql] at h4
  have eQ : Q = qh * 18446744073709551616 + ql := by omega
  have qlb : ql < 18446744073709551616 := by omega
  have qhb : qh ≤ 4611686018427387904 := by omega
  rw [eQ] at hrq
  rw [hrq] at hq0
  have h5 := Lib.hid (fun (o : Bool) (w : World) => rup o r d w hrN (by omega))
  have HQ := Lib.hid hq0
  clear hq0 hhi hlo hxy e0 hQ hr hrq hqh hql hQb eQ
  by_cases hup : d ≤ 2 * r
  · rw [if_pos hup] at HQ
    rw [decide_eq_true (show d - r ≤ r by omega)] at h5
    have hr0 : (0 : Int) < (r : Int) := by omega
    obtain ⟨l2, g2, HQ2, hl2, El, Hz⟩ : ∃ l2 g2 : Nat, scQ a b d = g2 * 18446744073709551616 + l2 ∧ l2 < 18446744073709551616 ∧ IntKind.u64.wrap ((ql : Int) + 1) = (l2 : Int) ∧ ((((l2 : Int) == 0) = true ∧ IntKind.u64.wrap ((qh : Int) + 1) = (g2 : Int)) ∨ (((l2 : Int) == 0) = false ∧ qh = g2)) := by
      have hQ := HQ.out
      by_cases hc : ql = 18446744073709551615
      · refine ⟨0, qh + 1, by rw [hQ]; omega, by omega, by rw [wrapU]; omega, .inl ⟨rfl, by rw [wrapU]; omega⟩⟩
      · exact ⟨ql + 1, qh, by rw [hQ]; omega, by omega, by rw [wrapU]; omega, .inr ⟨beq_eq_false_iff_ne.2 (by omega), rfl⟩⟩
    have HQ3 := Lib.hid HQ2
    clear HQ HQ2 hup qlb qhb hrN
    have h6 := Lib.hid (fun b w => rsigned b g2 l2 w hl2)
    have HL2 := Lib.hid hl2
    clear hl2
    cases hf : fits2 g2 l2 (decide (a < 0) != decide (b < 0)) <;> rcases Hz with ⟨Hz1, Hz2⟩ | ⟨Hz1, rfl⟩
    all_goals
      first | have HB' := Lib.hid (scNo2 HL2.out HNN.out HQ3.out hf) | have HB' := Lib.hid (scYes2 HL2.out HNN.out HQ3.out hf)
      have h7 := Lib.hid (h6.out (decide (a < 0) != decide (b < 0)))
      rw [hf] at h7
      clear hf h6
      go_enter Tryz.func113, Tryz.ntmps113
      go_wp2_with fail
      refine (h1.out _).mono ?_
      rintro e w' ⟨rfl, rfl⟩
      go_wp2_with fail
      refine (h2.out _).mono ?_
      rintro e w' ⟨rfl, rfl⟩
      go_wp2_with fail
      refine (h3.out _).mono ?_
      rintro e w' ⟨rfl, rfl⟩
      go_wp2_with fail
      refine (h4.out _).mono ?_
      rintro e w' ⟨rfl, nd, rfl⟩
      go_wp2_with fail
      refine (h5.out _ _).mono ?_
      rintro e w' ⟨rfl, rfl⟩
      go_wp2_with fail
      refine (h7.out _).mono ?_
      rintro e w' ⟨rfl, rfl⟩
      go_wp2_with fail
      go_ret2
      exact ⟨ret2 ⟨HB'.out.1.symm, HB'.out.2.symm⟩, nd, rfl⟩
  · rw [if_neg hup, Nat.add_zero] at HQ
    rw [decide_eq_false (show ¬ d - r ≤ r by omega)] at h5
    have h6 := Lib.hid (fun b w => rsigned b qh ql w qlb)
    have HL2 := Lib.hid qlb
    clear hup qlb qhb hrN
    cases hf : fits2 qh ql (decide (a < 0) != decide (b < 0)) <;> by_cases hr0 : (0 : Int) < (r : Int)
    all_goals
      first | have HB' := Lib.hid (scNo2 HL2.out HNN.out HQ.out hf) | have HB' := Lib.hid (scYes2 HL2.out HNN.out HQ.out hf)
      have h7 := Lib.hid (h6.out (decide (a < 0) != decide (b < 0)))
      rw [hf] at h7
      clear hf h6
      go_enter Tryz.func113, Tryz.ntmps113
      go_wp2_with fail
      refine (h1.out _).mono ?_
      rintro e w' ⟨rfl, rfl⟩
      go_wp2_with fail
      refine (h2.out _).mono ?_
      rintro e w' ⟨rfl, rfl⟩
      go_wp2_with fail
      refine (h3.out _).mono ?_
      rintro e w' ⟨rfl, rfl⟩
      go_wp2_with fail
      refine (h4.out _).mono ?_
      rintro e w' ⟨rfl, nd, rfl⟩
      go_wp2_with (go_at_call 139; refine (h5.out _ _).mono ?_; rintro e w' ⟨rfl, rfl⟩)
      refine (h7.out _).mono ?_
      rintro e w' ⟨rfl, rfl⟩
      go_wp2_with fail
      go_ret2
      exact ⟨ret2 ⟨HB'.out.1.symm, HB'.out.2.symm⟩, nd, rfl⟩

end MonW
end Go.Proofs.YtpmcdjpfolgpiaaGreatDoor
