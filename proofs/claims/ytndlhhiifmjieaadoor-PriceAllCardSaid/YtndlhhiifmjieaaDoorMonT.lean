/-
  The walks of the reference's Up, signed and Scale (mode 1).
-/
import Derived.Test.YtndlhhiifmjieaaDoorMonR
namespace Go.Proofs.YtndlhhiifmjieaaDoor
namespace MonW
set_option linter.unusedSimpArgs false
set_option linter.unusedVariables false
open Go.RowKit

set_option maxHeartbeats 400000 in
theorem rup (o : Bool) (r d : Nat) (w : World) (hr : r < d) (hd : d < 18446744073709551616) :
    Calls Tryd.prog 49 #[.bool o, u r, u d, i 1] w fun e w' => e = .returned (.bool (decide (d - r ≤ r))) ∧ w' = w := by
  go_enter Tryd.func49, Tryd.ntmps49
  go_wp2
  all_goals go_ret
  all_goals exact ⟨retB (decide_eq_decide.2 (by omega)), rfl⟩

def fits2 (h l : Nat) (b : Bool) : Bool := decide (h = 0) && fits l b

set_option maxHeartbeats 400000 in
theorem rsigned (b : Bool) (h l : Nat) (w : World) (hl : l < 18446744073709551616) :
    Calls Tryd.prog 50 #[.bool b, u h, u l] w fun e w' => e = .returned (.tuple #[i (sgn l b), .bool (fits2 h l b)]) ∧ w' = w := by
  have hz : ((h : Int) == 0) = decide (h = 0) := by rw [Bool.eq_iff_iff]; simp
  by_cases h0 : h = 0
  · subst h0
    go_enter Tryd.func50, Tryd.ntmps50
    cases b
    · go_wp2
      go_ret2
      exact ⟨retIB rfl (by simp only [fits2, fits, Bool.false_and, Bool.or_false, decide_true, Bool.true_and]; exact decide_eq_decide.2 (by omega)), rfl⟩
    · go_wp2
      go_ret2
      refine ⟨retIB ?_ ?_, rfl⟩
      · simp only [sgn, if_pos]; rw [wrapU]; unfold wrap64; omega
      · simp only [fits2, fits, Bool.true_and, ← Bool.decide_or, decide_true]; exact decide_eq_decide.2 (by omega)
  · have h1 : ((h : Int) == 0) = false := beq_eq_false_iff_ne.2 (by omega)
    have HF : Hid (fits2 h l b = false) := by show _ = _; unfold fits2; rw [decide_eq_false h0]; rfl
    clear hz h0
    go_enter Tryd.func50, Tryd.ntmps50
    cases b
    · go_wp2
      go_ret2
      exact ⟨retIB rfl HF.out.symm, rfl⟩
    · go_wp2
      go_ret2
      refine ⟨retIB ?_ HF.out.symm, rfl⟩
      · simp only [sgn, if_pos]; rw [wrapU]; unfold wrap64; omega

theorem fits_split {h l : Nat} (b : Bool) (hl : l < 18446744073709551616) : fits (h * 18446744073709551616 + l) b = fits2 h l b := by
  unfold fits2
  by_cases h0 : h = 0
  · subst h0; simp
  · rw [decide_eq_false h0, Bool.false_and]; exact fits_big (by omega)

theorem scNo2 {a b : Int} {d h l : Nat} {n : Bool} (hl : l < 18446744073709551616) (hn : neg a b = n) (hq : scQ a b d = h * 18446744073709551616 + l) (hf : fits2 h l n = false) : scV a b d = 0 ∧ scE a b d = 20 :=
  scNo hn hq (by rw [fits_split _ hl]; exact hf)
theorem scYes2 {a b : Int} {d h l : Nat} {n : Bool} (hl : l < 18446744073709551616) (hn : neg a b = n) (hq : scQ a b d = h * 18446744073709551616 + l) (hf : fits2 h l n = true) : scV a b d = sgn l n ∧ scE a b d = 0 := by
  have h0 : h = 0 := by
    unfold fits2 at hf
    simp at hf
    exact hf.1
  subst h0
  rw [Nat.zero_mul, Nat.zero_add] at hq
  exact scYes hn hq (by simpa [fits2] using hf)

set_option maxHeartbeats 2000000 in
theorem rscale (a b : Int) (d : Nat) (hd : Dn d) (w : World) (ha : -9223372036854775808 ≤ a) (ha' : a ≤ 9223372036854775807) (hb : -9223372036854775808 ≤ b) (hb' : b ≤ 9223372036854775807) :
    Calls Tryd.prog 30 #[i a, i b, i d, i 1] w fun e w' => e = .returned (.tuple #[i (scV a b d), i (scE a b d)]) ∧ ∃ n, w' = w.drewN n := by
  obtain ⟨hd1, hd2⟩ := hd.pos
  have h1 := Lib.hid (rmag a · ha ha')
  have h2 := Lib.hid (rmag b · hb hb')
  have hx := absLt ha ha'
  have hy := absLt hb hb'
  have hxy := natAbs_mul_lt hx hy
  have HNN := Lib.hid (show neg a b = (decide (a < 0) != decide (b < 0)) from rfl)
  obtain ⟨x, hx0⟩ : ∃ x, a.natAbs = x := ⟨_, rfl⟩
  obtain ⟨y, hy0⟩ : ∃ y, b.natAbs = y := ⟨_, rfl⟩
  have h3 := Lib.hid (rmul x y (by omega) (by omega))
  have hq0 : scQ a b d = rnd (x * y) d := by unfold scQ; rw [hx0, hy0]
  rw [hx0, hy0] at hxy
  rw [hx0] at h1
  rw [hy0] at h2
  clear hx hy hx0 hy0
  obtain ⟨N, hN⟩ : ∃ N, x * y = N := ⟨_, rfl⟩
  rw [hN] at h3 hxy hq0
  clear hN
  have hrN : N % d < d := Nat.mod_lt _ (by omega)
  obtain ⟨hi, hhi⟩ : ∃ hi, N / 18446744073709551616 = hi := ⟨_, rfl⟩
  obtain ⟨lo, hlo⟩ : ∃ lo, N % 18446744073709551616 = lo := ⟨_, rfl⟩
  rw [hhi, hlo] at h3
  have e0 : hi * 18446744073709551616 + lo = N := by omega
  have h4 := Lib.hid (rdiv hi lo d (by omega) (by omega) hd1 (by omega))
  rw [e0] at h4
  have hQb : N / d ≤ 85070591730234615865843651857942052864 := Nat.le_trans (Nat.div_le_self _ _) hxy
  have hrq : rnd N d = N / d + if d ≤ 2 * (N % d) then 1 else 0 := rfl
  obtain ⟨Q, hQ⟩ : ∃ Q, N / d = Q := ⟨_, rfl⟩
  obtain ⟨r, hr⟩ : ∃ r, N % d = r := ⟨_, rfl⟩
  rw [hQ, hr] at h4 hrq
  rw [hr] at hrN
  rw [hQ] at hQb
  obtain ⟨qh, hqh⟩ : ∃ qh, Q / 18446744073709551616 = qh := ⟨_, rfl⟩
  obtain ⟨ql, hql⟩ : ∃ ql, Q % 18446744073709551616 = ql := ⟨_, rfl⟩
  rw [hqh, hql] at h4
  have eQ : Q = qh * 18446744073709551616 + ql := by omega
  have qlb : ql < 18446744073709551616 := by omega
  have qhb : qh ≤ 4611686018427387904 := by omega
  rw [eQ] at hrq
  rw [hrq] at hq0
  have h5 := Lib.hid (fun (o : Bool) (w : World) => rup o r d w hrN (by omega))
  have HQ := Lib.hid hq0
  clear hq0 hhi hlo hxy e0 hQ hr hrq hqh hql hQb eQ
  by_cases hup : d ≤ 2 * r
  · rw [if_pos hup] at HQ
    rw [decide_eq_true (show d - r ≤ r by omega)] at h5
    have hr0 : (0 : Int) < (r : Int) := by omega
    obtain ⟨l2, g2, HQ2, hl2, El, Hz⟩ : ∃ l2 g2 : Nat, scQ a b d = g2 * 18446744073709551616 + l2 ∧ l2 < 18446744073709551616 ∧ IntKind.u64.wrap ((ql : Int) + 1) = (l2 : Int) ∧ ((((l2 : Int) == 0) = true ∧ IntKind.u64.wrap ((qh : Int) + 1) = (g2 : Int)) ∨ (((l2 : Int) == 0) = false ∧ qh = g2)) := by
      have hQ := HQ.out
      by_cases hc : ql = 18446744073709551615
      · refine ⟨0, qh + 1, by rw [hQ]; omega, by omega, by rw [wrapU]; omega, .inl ⟨rfl, by rw [wrapU]; omega⟩⟩
      · exact ⟨ql + 1, qh, by rw [hQ]; omega, by omega, by rw [wrapU]; omega, .inr ⟨beq_eq_false_iff_ne.2 (by omega), rfl⟩⟩
    have HQ3 := Lib.hid HQ2
    clear HQ HQ2 hup qlb qhb hrN
    have h6 := Lib.hid (fun b w => rsigned b g2 l2 w hl2)
    have HL2 := Lib.hid hl2
    clear hl2
    cases hf : fits2 g2 l2 (decide (a < 0) != decide (b < 0)) <;> rcases Hz with ⟨Hz1, Hz2⟩ | ⟨Hz1, rfl⟩
    all_goals
      first | have HB' := Lib.hid (scNo2 HL2.out HNN.out HQ3.out hf) | have HB' := Lib.hid (scYes2 HL2.out HNN.out HQ3.out hf)
      have h7 := Lib.hid (h6.out (decide (a < 0) != decide (b < 0)))
      rw [hf] at h7
      clear hf h6
      go_enter Tryd.func30, Tryd.ntmps30
      go_wp2_with fail
      refine (h1.out _).mono ?_
      rintro e w' ⟨rfl, rfl⟩
      go_wp2_with fail
      refine (h2.out _).mono ?_
      rintro e w' ⟨rfl, rfl⟩
      go_wp2_with fail
      refine (h3.out _).mono ?_
      rintro e w' ⟨rfl, rfl⟩
      go_wp2_with fail
      refine (h4.out _).mono ?_
      rintro e w' ⟨rfl, nd, rfl⟩
      go_wp2_with fail
      refine (h5.out _ _).mono ?_
      rintro e w' ⟨rfl, rfl⟩
      go_wp2_with fail
      refine (h7.out _).mono ?_
      rintro e w' ⟨rfl, rfl⟩
      go_wp2_with fail
      go_ret2
      exact ⟨ret2 ⟨HB'.out.1.symm, HB'.out.2.symm⟩, nd, rfl⟩
  · rw [if_neg hup, Nat.add_zero] at HQ
    rw [decide_eq_false (show ¬ d - r ≤ r by omega)] at h5
    have h6 := Lib.hid (fun b w => rsigned b qh ql w qlb)
    have HL2 := Lib.hid qlb
    clear hup qlb qhb hrN
    cases hf : fits2 qh ql (decide (a < 0) != decide (b < 0)) <;> by_cases hr0 : (0 : Int) < (r : Int)
    all_goals
      first | have HB' := Lib.hid (scNo2 HL2.out HNN.out HQ.out hf) | have HB' := Lib.hid (scYes2 HL2.out HNN.out HQ.out hf)
      have h7 := Lib.hid (h6.out (decide (a < 0) != decide (b < 0)))
      rw [hf] at h7
      clear hf h6
      go_enter Tryd.func30, Tryd.ntmps30
      go_wp2_with fail
      refine (h1.out _).mono ?_
      rintro e w' ⟨rfl, rfl⟩
      go_wp2_with fail
      refine (h2.out _).mono ?_
      rintro e w' ⟨rfl, rfl⟩
      go_wp2_with fail
      refine (h3.out _).mono ?_
      rintro e w' ⟨rfl, rfl⟩
      go_wp2_with fail
      refine (h4.out _).mono ?_
      rintro e w' ⟨rfl, nd, rfl⟩
      go_wp2_with (go_at_call 49; refine (h5.out _ _).mono ?_; rintro e w' ⟨rfl, rfl⟩)
      refine (h7.out _).mono ?_
      rintro e w' ⟨rfl, rfl⟩
      go_wp2_with fail
      go_ret2
      exact ⟨ret2 ⟨HB'.out.1.symm, HB'.out.2.symm⟩, nd, rfl⟩

end MonW
end Go.Proofs.YtndlhhiifmjieaaDoor
