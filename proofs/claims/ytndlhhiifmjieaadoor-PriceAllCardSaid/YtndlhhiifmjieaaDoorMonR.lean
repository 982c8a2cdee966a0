/-
  The walks of the reference's money: Mag, Mul, Div, Up, signed, Scale.
-/
import Derived.Test.YtndlhhiifmjieaaDoorMonS
import Derived.Deep.LoopGhost
import Derived.ProofKit
namespace Go.Proofs.YtndlhhiifmjieaaDoor
namespace MonW
set_option linter.unusedSimpArgs false
set_option linter.unusedVariables false
open Go.RowKit

set_option maxHeartbeats 400000 in
theorem rmag (n : Int) (w : World) (hn : -9223372036854775808 ≤ n) (hn' : n ≤ 9223372036854775807) :
    Calls Tryd.prog 47 #[i n] w fun e w' => e = .returned (u n.natAbs) ∧ w' = w := by
  go_enter Tryd.func47, Tryd.ntmps47
  go_wp2
  · go_ret
    exact ⟨congrArg (fun x => Ending.returned (.int .u64 x)) (by rw [wrapU, wrapU]; omega), rfl⟩
  · go_ret
    exact ⟨congrArg (fun x => Ending.returned (.int .u64 x)) (by omega), rfl⟩

theorem lowMul (x y : Nat) : (((x % 4294967296 * (y / 4294967296) + (x / 4294967296 * (y % 4294967296) + x % 4294967296 * (y % 4294967296) / 4294967296) % 4294967296) * 4294967296) % 18446744073709551616 + x % 4294967296 * (y % 4294967296) % 4294967296) % 18446744073709551616 = x * y % 18446744073709551616 := by
  have e : x * y = x / 4294967296 * (y / 4294967296) * 18446744073709551616 + (x / 4294967296 * (y % 4294967296) + x % 4294967296 * (y / 4294967296)) * 4294967296 + x % 4294967296 * (y % 4294967296) := by
    have hx := Nat.div_add_mod x 4294967296
    have hy := Nat.div_add_mod y 4294967296
    calc x * y = (4294967296 * (x / 4294967296) + x % 4294967296) * (4294967296 * (y / 4294967296) + y % 4294967296) := by rw [hx, hy]
      _ = _ := by
        generalize x / 4294967296 = a
        generalize x % 4294967296 = b
        generalize y / 4294967296 = c
        generalize y % 4294967296 = d
        rw [Nat.add_mul, Nat.mul_add, Nat.mul_add, Nat.mul_assoc 4294967296 a, Nat.mul_left_comm a 4294967296 c, Nat.mul_assoc 4294967296 a d, Nat.mul_left_comm b 4294967296 c]
        omega
  rw [e]
  generalize x / 4294967296 * (y / 4294967296) = p
  generalize x / 4294967296 * (y % 4294967296) = q
  generalize x % 4294967296 * (y / 4294967296) = r
  generalize x % 4294967296 * (y % 4294967296) = s
  omega

theorem modN (a : Nat) : (a : Int) % 4294967296 = ((a % 4294967296 : Nat) : Int) := by omega
theorem tmodN (a : Nat) : (a : Int).tmod 4294967296 = ((a % 4294967296 : Nat) : Int) := (Int.ofNat_tmod a 4294967296).symm
theorem hmx (x y : Nat) (hx : x < 18446744073709551616) (hy : y < 18446744073709551616) : x * y / 18446744073709551616 < 18446744073709551616 :=
  (Nat.div_lt_iff_lt_mul (by decide)).2 (Nat.mul_lt_mul'' hx hy)
theorem shlN (a : Nat) : (a : Int) * 4294967296 = ((a * 4294967296 : Nat) : Int) := by omega

set_option maxHeartbeats 1000000 in
theorem rmul (x y : Nat) (hx : x < 18446744073709551616) (hy : y < 18446744073709551616) (w : World) :
    Calls Tryd.prog 46 #[u x, u y] w fun e w' => e = .returned (.tuple #[u (x * y / 18446744073709551616), u (x * y % 18446744073709551616)]) ∧ w' = w := by
  obtain ⟨bd, bt, bw, hhi⟩ := Lib.mul64_hi x y hx hy
  rw [Nat.add_comm (_ % 4294967296) (x % 4294967296 * (y / 4294967296))] at bw hhi
  have ba := Lib.half_mul_le (a := x / 4294967296) (b := y / 4294967296) (by omega) (by omega)
  have bb := Lib.half_mul_le (a := x / 4294967296) (b := y % 4294967296) (by omega) (by omega)
  have bc := Lib.half_mul_le (a := x % 4294967296) (b := y / 4294967296) (by omega) (by omega)
  have ba' : x / 4294967296 * (y / 4294967296) < 18446744073709551616 := by omega
  have bb' : x / 4294967296 * (y % 4294967296) < 18446744073709551616 := by omega
  have bc' : x % 4294967296 * (y / 4294967296) < 18446744073709551616 := by omega
  have bh1 : x / 4294967296 * (y / 4294967296) + (x / 4294967296 * (y % 4294967296) + x % 4294967296 * (y % 4294967296) / 4294967296) / 4294967296 < 18446744073709551616 := by omega
  have bh : x / 4294967296 * (y / 4294967296) + (x / 4294967296 * (y % 4294967296) + x % 4294967296 * (y % 4294967296) / 4294967296) / 4294967296 + (x % 4294967296 * (y / 4294967296) + (x / 4294967296 * (y % 4294967296) + x % 4294967296 * (y % 4294967296) / 4294967296) % 4294967296) / 4294967296 < 18446744073709551616 := by omega
  have hlow := lowMul x y
  go_enter Tryd.func46, Tryd.ntmps46
  go_wp2
  simp only [divN, modN, tmodN, mulN, addN, wrapN _ bd, wrapN _ bb', wrapN _ bt, wrapN _ bc', wrapN _ bw, wrapN _ ba', wrapN _ bh1, wrapN _ bh, shlN, wrapM, hlow, hhi]
  go_ret2
  exact ⟨retUU (congrArg _ (Nat.mod_eq_of_lt (hmx x y hx hy))) rfl, rfl⟩

theorem dbl {r hi r2 : Nat} (h : 2 * r + hi / 9223372036854775808 = r2) (hb : r2 < 18446744073709551616) :
    IntKind.u64.wrap (IntKind.u64.wrap ((r : Int) * 2) + (hi : Int) / 9223372036854775808) = (r2 : Int) := by rw [wrapU, wrapU]; omega
theorem dbl2 {r hi r2 : Nat} (h : (2 * r + hi / 9223372036854775808) % 18446744073709551616 = r2) :
    IntKind.u64.wrap (IntKind.u64.wrap ((r : Int) * 2) + (hi : Int) / 9223372036854775808) = (r2 : Int) := by rw [wrapU, wrapU]; omega
theorem dbl3 {r r2 : Nat} (h : 2 * r % 18446744073709551616 = r2) : IntKind.u64.wrap ((r : Int) * 2) = (r2 : Int) := by rw [wrapU]; omega
theorem divAt_bounds {N d k hi lo qh ql r : Nat} (h : Mon.DivAt N d k hi lo qh ql r) : (hi < 18446744073709551616 ∧ lo < 18446744073709551616) ∧ ql < 18446744073709551616 ∧ qh < 18446744073709551616 := by
  obtain ⟨⟨A, M, e, hA, h1, h2, h3, hM⟩, hr, hql, hqh⟩ := h
  simp only [Mon.B64, Mon.B128] at *
  clear e h3 hM
  omega

set_option maxRecDepth 100000 in
set_option maxHeartbeats 1000000 in
theorem rdiv (hi lo d : Nat) (hh : hi < 18446744073709551616) (hl : lo < 18446744073709551616) (hd : 1 ≤ d) (hd' : d < 4611686018427387904) (w : World) :
    Calls Tryd.prog 48 #[u hi, u lo, u d] w fun e w' => e = .returned (.tuple #[u ((hi * 18446744073709551616 + lo) / d / 18446744073709551616), u ((hi * 18446744073709551616 + lo) / d % 18446744073709551616), u ((hi * 18446744073709551616 + lo) % d)]) ∧ ∃ n, w' = w.drewN n := by
  obtain ⟨N, hN⟩ : ∃ N, hi * 18446744073709551616 + lo = N := ⟨_, rfl⟩
  have D0 := Lib.hid (Mon.divAt_zero hh hl hd)
  simp only [Mon.B64] at D0
  rw [hN] at D0 ⊢
  have hNb : N < Mon.B128 := by simp only [Mon.B128]; omega
  have HNB := Lib.hid hNb
  have hdz : (d : Int) < 4611686018427387904 := by omega
  clear hN hNb hh hl hd'
  go_enter Tryd.func48, Tryd.ntmps48
  go_wp2
  go_loopg [0, 1, 9, 10, 11, 12] 128 (fun gg s0 s1 s9 s10 s11 s12 wr => ∃ hi lo qh ql r kk m : Nat, kk ≤ 128 ∧ 128 - kk ≤ gg ∧ s0 = u hi ∧ s1 = u lo ∧ s9 = u qh ∧ s10 = u ql ∧ s11 = u r ∧ s12 = i kk ∧ wr = w.drewN m ∧ Hid (Mon.DivAt N d kk hi lo qh ql r))
  case atStart => exact ⟨hi, lo, 0, 0, 0, 0, 0, by omega, by omega, rfl, rfl, rfl, rfl, rfl, rfl, rfl, D0⟩
  case round =>
    clear D0
    obtain ⟨hi, lo, qh, ql, r, kk, m, hk, hg, rfl, rfl, rfl, rfl, rfl, rfl, rfl, HD⟩ := hrel
    by_cases hlt : kk < 128
    · have hltz : (kk : Int) < 128 := by omega
      have HS := Mon.divAt_step hlt hd HD.out
      have hr := HD.out.r
      obtain ⟨⟨hib, lob⟩, qlb, qhb⟩ := divAt_bounds HD.out
      simp only [Mon.B64] at HS
      have HK := Lib.hid (And.intro hlt hg)
      clear hlt hk hg
      go_upto_region 11 with (fail)
      obtain ⟨r2, hr2⟩ : ∃ r2, 2 * r + hi / 9223372036854775808 = r2 := ⟨_, rfl⟩
      obtain ⟨h2, hh2⟩ : ∃ h2, (2 * hi + lo / 9223372036854775808) % 18446744073709551616 = h2 := ⟨_, rfl⟩
      obtain ⟨l2, hl2⟩ : ∃ l2, 2 * lo % 18446744073709551616 = l2 := ⟨_, rfl⟩
      obtain ⟨g2, hg2⟩ : ∃ g2, (2 * qh + ql / 9223372036854775808) % 18446744073709551616 = g2 := ⟨_, rfl⟩
      obtain ⟨q2, hq2⟩ : ∃ q2, 2 * ql % 18446744073709551616 = q2 := ⟨_, rfl⟩
      rw [hr2, hh2, hl2, hg2, hq2] at HS
      have Et : (r : Int) / 9223372036854775808 = 0 := by clear HS; omega
      have Er := dbl hr2 (by clear HS; omega)
      have Er2 : (r : Int) * 2 + (hi : Int) / 9223372036854775808 = (r2 : Int) := by clear HS; omega
      have Eh := dbl2 hh2
      have El := dbl3 hl2
      have Eg := dbl2 hg2
      have Eq := dbl3 hq2
      have r2b : r2 < 18446744073709551616 := by clear HS; omega
      have q2b : q2 + 1 < 18446744073709551616 := by clear HS; omega
      simp only [Et, Er, Er2, Eh, El, Eg, Eq]
      clear Et Er Er2 Eh El Eg Eq hr2 hh2 hl2 hg2 hq2 HD hr hib lob qlb qhb
      by_cases hle : d ≤ r2
      · rw [if_pos hle, if_pos hle] at HS
        have HS' := Lib.hid HS
        have hlez : (d : Int) ≤ (r2 : Int) := by omega
        have E1 : IntKind.u64.wrap ((r2 : Int) - (d : Int)) = ((r2 - d : Nat) : Int) := by clear HS; rw [wrapU]; omega
        have E2 : IntKind.u64.wrap ((q2 : Int) + 1) = ((q2 + 1 : Nat) : Int) := by clear HS; rw [wrapU]; omega
        clear HS hle r2b q2b hdz HNB
        go_wp2_with fail
        go_roundg (128 - (kk + 1))
        case measure => have := HK.out; omega
        case rel => exact ⟨h2, l2, g2, q2 + 1, r2 - d, kk + 1, m, by have := HK.out; omega, by omega, rfl, rfl, rfl, by first | rfl | rw [E2], by first | rfl | rw [E1], by go_num, rfl, HS'⟩
      · rw [if_neg hle, if_neg hle] at HS
        have HS' := Lib.hid HS
        have hlez : ¬ (d : Int) ≤ (r2 : Int) := by omega
        clear HS hle r2b q2b hdz HNB
        go_wp2_with fail
        go_roundg (128 - (kk + 1))
        case measure => have := HK.out; omega
        case rel => exact ⟨h2, l2, g2, q2, r2, kk + 1, m, by have := HK.out; omega, by omega, rfl, rfl, rfl, rfl, rfl, by go_num, rfl, HS'⟩
    · have hltz : ¬ (kk : Int) < 128 := by omega
      go_wp2_with fail
      refine bodyPost_ret (v := .tuple #[u qh, u ql, u r]) (by simp [results, Tryd.results48, go_sem]) rfl ?_
      have hke : kk = 128 := by omega
      subst hke
      obtain ⟨e1, e2, e3⟩ := Mon.divAt_end HNB.out hd HD.out
      simp only [Mon.B64] at e1 e2 e3
      exact ⟨by rw [← e1, ← e2, ← e3], m, rfl⟩
end MonW
end Go.Proofs.YtndlhhiifmjieaaDoor
