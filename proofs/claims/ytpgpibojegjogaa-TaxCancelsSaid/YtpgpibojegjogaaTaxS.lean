/-
  Sums: money.Sum and the reference's Sum: the exact sum, or the error.
-/
import Derived.Test.YtpgpibojegjogaaTaxD
import Derived.Test.YtpgpibojegjogaaMonT
namespace Go.Proofs.Ytpgpibojegjogaa
namespace MonW
set_option linter.unusedSimpArgs false
set_option linter.unusedVariables false
open Go.RowKit

def tot : List Int → Int
  | [] => 0
  | x :: xs => x + tot xs
theorem tot_append : ∀ (xs ys : List Int), tot (xs ++ ys) = tot xs + tot ys
  | [], ys => by simp [tot]
  | x :: xs, ys => by rw [List.cons_append, tot, tot, tot_append xs ys]; omega
theorem tot_take {xs : List Int} {k : Nat} (hk : k < xs.length) : tot (xs.take (k + 1)) = tot (xs.take k) + xs[k] := by
  rw [List.take_succ_eq_append_getElem hk, tot_append]
  simp [tot]
theorem tot_bound : ∀ (xs : List Int), (∀ x ∈ xs, I64 x) → -9223372036854775808 * (xs.length : Int) ≤ tot xs ∧ tot xs ≤ 9223372036854775807 * (xs.length : Int)
  | [], _ => by simp [tot]
  | x :: xs, h => by
    have h1 := tot_bound xs (fun y hy => h y (by simp [hy]))
    have h2 := h x (by simp)
    unfold I64 at h2
    rw [tot, List.length_cons]
    omega

theorem tot_abs {xs : List Int} {c : Nat} (h : ∀ x ∈ xs, I64 x) (h1 : xs.length ≤ c) (h2 : c ≤ maxLen) : (tot xs).natAbs < 170141183460469231731687303715884105728 := by
  have := tot_bound xs h
  unfold maxLen at h2
  omega
theorem allI {w : World} {v : Value} {xs : List Int} (h : IntsAt w v xs) : ∀ x ∈ xs, I64 x := by
  intro x hx
  obtain ⟨A, c, rfl, _⟩ := SliceAt.form h
  obtain ⟨j, hj, rfl⟩ := List.getElem_of_mem hx
  obtain ⟨b, off, _, _, hok, _⟩ := IntsAt.at_ h hj
  exact hok

/-- The two words of the sum S. -/
def St (S : Int) (hi lo : Nat) : Prop := hi < 18446744073709551616 ∧ lo < 18446744073709551616 ∧ (hi : Int) * 18446744073709551616 + lo = S % 340282366920938463463374607431768211456
theorem st_zero : St 0 0 0 := ⟨by decide, by decide, by decide⟩
def un (n : Int) : Nat := (n % 18446744073709551616).toNat
def stLo (lo : Nat) (n : Int) : Nat := (lo + un n) % 18446744073709551616
def stHi (hi lo : Nat) (n : Int) : Nat := ((hi : Int) + (((lo + un n) / 18446744073709551616 : Nat) : Int) - (if n < 0 then 1 else 0)) % 18446744073709551616 |>.toNat
theorem st_step {S n : Int} {hi lo : Nat} (h : St S hi lo) (hn : I64 n) : St (S + n) (stHi hi lo n) (stLo lo n) := by
  obtain ⟨h1, h2, h3⟩ := h
  unfold I64 at hn
  unfold St stHi stLo un
  split <;> refine ⟨by omega, by omega, by omega⟩

def fitI (S : Int) : Bool := decide (-9223372036854775808 ≤ S ∧ S ≤ 9223372036854775807)
def sumV (S : Int) : Int := if fitI S then S else 0
def sumE (S : Int) : Int := if fitI S then 0 else 20
theorem st_yes {S : Int} {hi lo : Nat} (h : St S hi lo) (hS : S.natAbs < 170141183460469231731687303715884105728) (hf : fitI S = true) : wrap64 lo = S ∧ ((hi = 0 ∧ lo < 9223372036854775808) ∨ (hi = 18446744073709551615 ∧ 9223372036854775808 ≤ lo)) := by
  obtain ⟨h1, h2, h3⟩ := h
  unfold fitI at hf
  have hf := of_decide_eq_true hf
  unfold wrap64
  omega
theorem st_no {S : Int} {hi lo : Nat} (h : St S hi lo) (hS : S.natAbs < 170141183460469231731687303715884105728) (hf : fitI S = false) : ¬ ((hi = 0 ∧ lo < 9223372036854775808) ∨ (hi = 18446744073709551615 ∧ 9223372036854775808 ≤ lo)) := by
  obtain ⟨h1, h2, h3⟩ := h
  unfold fitI at hf
  have hf := of_decide_eq_false hf
  omega

theorem hi_cases {hi lo : Nat} (hl : lo < 18446744073709551616) (h : ¬ ((hi = 0 ∧ lo < 9223372036854775808) ∨ (hi = 18446744073709551615 ∧ 9223372036854775808 ≤ lo))) :
    (((hi : Int) != 0) = true ∧ ((hi : Int) != 18446744073709551615) = true) ∨ (hi = 0 ∧ ∃ z : Unit, True ∧ ¬ 0 ≤ wrap64 lo) ∨ (hi = 18446744073709551615 ∧ ∃ z : Unit, True ∧ 0 ≤ wrap64 lo) := by
  by_cases h0 : hi = 0
  · exact .inr (.inl ⟨h0, (), trivial, by unfold wrap64; omega⟩)
  · by_cases h1 : hi = 18446744073709551615
    · exact .inr (.inr ⟨h1, (), trivial, by unfold wrap64; omega⟩)
    · exact .inl ⟨bne_iff_ne.2 (by omega), bne_iff_ne.2 (by omega)⟩
theorem hi_yes {S : Int} {hi lo : Nat} (hl : lo < 18446744073709551616) (h : wrap64 lo = S ∧ ((hi = 0 ∧ lo < 9223372036854775808) ∨ (hi = 18446744073709551615 ∧ 9223372036854775808 ≤ lo))) : wrap64 lo = S ∧ ((hi = 0 ∧ 0 ≤ S) ∨ (hi = 18446744073709551615 ∧ S < 0)) := by
  refine ⟨h.1, ?_⟩
  have h1 := h.1
  unfold wrap64 at h1
  omega

theorem add64 (lo : Nat) (n : Int) (W : World) :
    (callFunc 47 #[u lo, .int .u64 (IntKind.u64.wrap n), .int .u64 0]).run Try.prog W = .ok (.value (.tuple #[u (stLo lo n), u ((lo + un n) / 18446744073709551616)])) W := by
  rw [run_callFunc_extern (e := add64Entry) Try.func47 (by kernel_rfl) (by kernel_rfl) (by kernel_rfl) (by kernel_rfl)]
  have hn : IntKind.u64.wrap n = (un n : Int) := by rw [wrapU]; unfold un; omega
  rw [hn, run_add64 _ _ _ (by omega) (by omega) (by omega) (by omega)]
  simp only [Result.andThen, stLo]
  congr 4 <;> simp <;> omega

theorem hi1 {hi lo : Nat} {n : Int} (hn : n < 0) : IntKind.u64.wrap (IntKind.u64.wrap ((hi : Int) + (((lo + un n) / 18446744073709551616 : Nat) : Int)) - 1) = (stHi hi lo n : Int) := by
  rw [wrapU, wrapU]; unfold stHi; rw [if_pos hn]; omega
theorem hi0 {hi lo : Nat} {n : Int} (hn : ¬ n < 0) : IntKind.u64.wrap ((hi : Int) + (((lo + un n) / 18446744073709551616 : Nat) : Int)) = (stHi hi lo n : Int) := by
  rw [wrapU]; unfold stHi; rw [if_neg hn]; omega

set_option maxHeartbeats 1000000 in
theorem msum (v : Value) (xs : List Int) (w : World) (h : IntsAt w v xs) :
    Calls Try.prog 37 #[v] w fun e w' => e = .returned (.tuple #[i (sumV (tot xs)), i (sumE (tot xs))]) ∧ Below w.heap.size w w' := by
  obtain ⟨A, c, rfl, h1, h2⟩ := SliceAt.form h
  have hbd := tot_abs (allI h) h1 h2
  have HBD := Lib.hid hbd
  clear hbd
  unfold maxLen at h2
  have HC := Lib.hid h
  clear h
  go_enter Try.func37, Try.ntmps37
  go_wp2
  go_loopg [4, 5, 11] xs.length (fun gg s4 s5 s11 wr => ∃ hi lo kk : Nat, kk ≤ xs.length ∧ xs.length - kk ≤ gg ∧ s4 = u hi ∧ s5 = u lo ∧ s11 = i kk ∧ Hid (Below w.heap.size w wr) ∧ Hid (St (tot (xs.take kk)) hi lo))
  case atStart => exact ⟨0, 0, 0, Nat.zero_le _, by omega, rfl, rfl, rfl, Below.refl _ w, st_zero⟩
  case round =>
    obtain ⟨hi, lo, kk, hkk, hg, rfl, rfl, rfl, BW, HA⟩ := hrel
    by_cases hlt : kk < xs.length
    · have hltz : (kk : Int) < (xs.length : Int) := by omega
      obtain ⟨b, off, rfl, _, hok, hrow⟩ := IntsAt.at_ HC.out hlt
      have l2 := hrow wr (Kept.of BW.out)
      clear hrow
      have hst := st_step HA.out hok
      rw [← tot_take hlt] at hst
      generalize xs[kk] = y at l2 hst hok
      have HS := Lib.hid hst
      obtain ⟨hb1, hb2, _⟩ := HA.out
      clear hst
      have ha := add64 lo y wr
      by_cases hy : y < 0
      · have E := hi1 (hi := hi) (lo := lo) hy
        generalize stLo lo y = lo2 at *
        generalize stHi hi lo y = hi2 at *
        generalize (lo + un y) / 18446744073709551616 = cy at *
        clear hb1 hb2 hok
        go_wp2
        go_roundg (xs.length - (kk + 1))
        case measure => omega
        case rel => exact ⟨hi2, lo2, kk + 1, by omega, by omega, by first | rfl | rw [E], rfl, by go_num, BW, HS⟩
      · have E := hi0 (hi := hi) (lo := lo) hy
        generalize stLo lo y = lo2 at *
        generalize stHi hi lo y = hi2 at *
        generalize (lo + un y) / 18446744073709551616 = cy at *
        clear hb1 hb2 hok
        go_wp2
        go_roundg (xs.length - (kk + 1))
        case measure => omega
        case rel => exact ⟨hi2, lo2, kk + 1, by omega, by omega, by first | rfl | rw [E], rfl, by go_num, BW, HS⟩
    · have hltz : ¬ (kk : Int) < (xs.length : Int) := by omega
      have hke : kk = xs.length := by omega
      subst hke
      rw [List.take_length] at HA
      have hbd := HBD.out
      obtain ⟨hb1, hb2, _⟩ := HA.out
      cases hf : fitI (tot xs)
      · have hs := st_no HA.out hbd hf
        have HV : Hid (sumV (tot xs) = 0 ∧ sumE (tot xs) = 20) := by show _ ∧ _; unfold sumV sumE; rw [hf]; simp
        clear hbd hf HA
        rcases hi_cases hb2 hs with ⟨z1, z2⟩ | ⟨rfl, z, hz, z1⟩ | ⟨rfl, z, hz, z1⟩
        all_goals
          clear hs hb1 hb2
          go_wp2_with fail
          go_ret2
          exact ⟨ret2 ⟨HV.out.1.symm, HV.out.2.symm⟩, BW.out⟩
      · have hs := st_yes HA.out hbd hf
        have HV : Hid (sumV (tot xs) = tot xs ∧ sumE (tot xs) = 0) := by show _ ∧ _; unfold sumV sumE; rw [hf]; simp
        clear hbd hf HA
        obtain ⟨hz, z1⟩ := hi_yes hb2 hs
        rw [← hz] at z1
        have HZ := Lib.hid hz
        clear hz
        rcases z1 with ⟨rfl, z1⟩ | ⟨rfl, z1⟩
        all_goals
          clear hs hb1 hb2
          go_wp2_with fail
          go_ret2
          exact ⟨ret2 ⟨HZ.out.trans HV.out.1.symm, HV.out.2.symm⟩, BW.out⟩

theorem rhi_no {hi lo : Nat} (hl : lo < 18446744073709551616) (h : ¬ ((hi = 0 ∧ lo < 9223372036854775808) ∨ (hi = 18446744073709551615 ∧ 9223372036854775808 ≤ lo))) :
    (0 ≤ wrap64 lo ∧ ((hi : Int) == 0) = false) ∨ (¬ 0 ≤ wrap64 lo ∧ ((hi : Int) == 18446744073709551615) = false) := by
  by_cases h0 : 0 ≤ wrap64 lo
  · exact .inl ⟨h0, beq_eq_false_iff_ne.2 (by unfold wrap64 at h0; omega)⟩
  · exact .inr ⟨h0, beq_eq_false_iff_ne.2 (by unfold wrap64 at h0; omega)⟩
theorem rhi_yes {S : Int} {hi lo : Nat} (hl : lo < 18446744073709551616) (h : wrap64 lo = S ∧ ((hi = 0 ∧ lo < 9223372036854775808) ∨ (hi = 18446744073709551615 ∧ 9223372036854775808 ≤ lo))) :
    (0 ≤ wrap64 lo ∧ ((hi : Int) == 0) = true) ∨ (¬ 0 ≤ wrap64 lo ∧ ((hi : Int) == 18446744073709551615) = true) := by
  by_cases h0 : 0 ≤ wrap64 lo
  · exact .inl ⟨h0, beq_iff_eq.2 (by unfold wrap64 at h0; omega)⟩
  · exact .inr ⟨h0, beq_iff_eq.2 (by unfold wrap64 at h0; omega)⟩

theorem rlo (lo : Nat) (n : Int) : IntKind.u64.wrap ((lo : Int) + IntKind.u64.wrap n) = (stLo lo n : Int) := by
  rw [wrapU, wrapU]; unfold stLo un; omega
theorem rhi1 {hi lo : Nat} {n : Int} (hn : n < 0) (hl : lo < 18446744073709551616) (hc : (stLo lo n : Int) < IntKind.u64.wrap n) : IntKind.u64.wrap (IntKind.u64.wrap ((hi : Int) - 1) + 1) = (stHi hi lo n : Int) := by
  rw [wrapU] at hc; rw [wrapU, wrapU]; unfold stLo un at hc; unfold stHi un; rw [if_pos hn]; omega
theorem rhi2 {hi lo : Nat} {n : Int} (hn : n < 0) (hl : lo < 18446744073709551616) (hc : ¬ (stLo lo n : Int) < IntKind.u64.wrap n) : IntKind.u64.wrap ((hi : Int) - 1) = (stHi hi lo n : Int) := by
  rw [wrapU] at hc; rw [wrapU]; unfold stLo un at hc; unfold stHi un; rw [if_pos hn]; omega
theorem rhi3 {hi lo : Nat} {n : Int} (hn : ¬ n < 0) (hl : lo < 18446744073709551616) (hc : (stLo lo n : Int) < IntKind.u64.wrap n) : IntKind.u64.wrap ((hi : Int) + 1) = (stHi hi lo n : Int) := by
  rw [wrapU] at hc; rw [wrapU]; unfold stLo un at hc; unfold stHi un; rw [if_neg hn]; omega
theorem rhi4 {hi lo : Nat} {n : Int} (hn : ¬ n < 0) (hh : hi < 18446744073709551616) (hl : lo < 18446744073709551616) (hc : ¬ (stLo lo n : Int) < IntKind.u64.wrap n) : (hi : Int) = (stHi hi lo n : Int) := by
  rw [wrapU] at hc; unfold stLo un at hc; unfold stHi un; rw [if_neg hn]; omega

set_option maxHeartbeats 1000000 in
theorem rsum (v : Value) (xs : List Int) (w : World) (h : IntsAt w v xs) :
    Calls Try.prog 25 #[v] w fun e w' => e = .returned (.tuple #[i (sumV (tot xs)), i (sumE (tot xs))]) ∧ Below w.heap.size w w' := by
  obtain ⟨A, c, rfl, h1, h2⟩ := SliceAt.form h
  have hbd := tot_abs (allI h) h1 h2
  have HBD := Lib.hid hbd
  clear hbd
  unfold maxLen at h2
  have HC := Lib.hid h
  clear h
  go_enter Try.func25, Try.ntmps25
  go_wp2
  go_loopg [4, 5, 6] xs.length (fun gg s4 s5 s11 wr => ∃ hi lo kk : Nat, kk ≤ xs.length ∧ xs.length - kk ≤ gg ∧ s4 = u hi ∧ s5 = u lo ∧ s11 = i kk ∧ Hid (Below w.heap.size w wr) ∧ Hid (St (tot (xs.take kk)) hi lo))
  case atStart => exact ⟨0, 0, 0, Nat.zero_le _, by omega, rfl, rfl, rfl, Below.refl _ w, st_zero⟩
  case round =>
    obtain ⟨hi, lo, kk, hkk, hg, rfl, rfl, rfl, BW, HA⟩ := hrel
    by_cases hlt : kk < xs.length
    · have hltz : (kk : Int) < (xs.length : Int) := by omega
      obtain ⟨b, off, rfl, _, hok, hrow⟩ := IntsAt.at_ HC.out hlt
      have l2 := hrow wr (Kept.of BW.out)
      clear hrow
      have hst := st_step HA.out hok
      rw [← tot_take hlt] at hst
      generalize xs[kk] = y at l2 hst hok
      have HS := Lib.hid hst
      obtain ⟨hb1, hb2, _⟩ := HA.out
      clear hst
      have EL := rlo lo y
      by_cases hy : y < 0
      · by_cases hc : IntKind.u64.wrap ((lo : Int) + IntKind.u64.wrap y) < IntKind.u64.wrap y
        · have E := Lib.hid (And.intro EL (rhi1 (hi := hi) hy hb2 (by rw [← EL]; exact hc)))
          clear EL hok hb1 hb2
          go_wp2_with fail
          go_roundg (xs.length - (kk + 1))
          case measure => omega
          case rel => exact ⟨_, _, kk + 1, by omega, by omega, congrArg (Value.int .u64) E.out.2, congrArg (Value.int .u64) E.out.1, by go_num, BW, HS⟩
        · have E := Lib.hid (And.intro EL (rhi2 (hi := hi) hy hb2 (by rw [← EL]; exact hc)))
          clear EL hok hb1 hb2
          go_wp2_with fail
          go_roundg (xs.length - (kk + 1))
          case measure => omega
          case rel => exact ⟨_, _, kk + 1, by omega, by omega, congrArg (Value.int .u64) E.out.2, congrArg (Value.int .u64) E.out.1, by go_num, BW, HS⟩
      · have ew : IntKind.u64.wrap y = y := by unfold I64 at hok; rw [wrapU]; omega
        rw [ew] at EL
        by_cases hc : IntKind.u64.wrap ((lo : Int) + y) < y
        · have E := Lib.hid (And.intro EL (rhi3 (hi := hi) hy hb2 (by rw [← EL, ew]; exact hc)))
          clear EL hb1 hb2
          go_wp2_with fail
          go_roundg (xs.length - (kk + 1))
          case measure => omega
          case rel => exact ⟨_, _, kk + 1, by omega, by omega, congrArg (Value.int .u64) E.out.2, congrArg (Value.int .u64) E.out.1, by go_num, BW, HS⟩
        · have E := Lib.hid (And.intro EL (rhi4 (hi := hi) hy hb1 hb2 (by rw [← EL, ew]; exact hc)))
          clear EL hb1 hb2
          go_wp2_with fail
          go_roundg (xs.length - (kk + 1))
          case measure => omega
          case rel => exact ⟨_, _, kk + 1, by omega, by omega, congrArg (Value.int .u64) E.out.2, congrArg (Value.int .u64) E.out.1, by go_num, BW, HS⟩
    · have hltz : ¬ (kk : Int) < (xs.length : Int) := by omega
      have hke : kk = xs.length := by omega
      subst hke
      rw [List.take_length] at HA
      have hbd := HBD.out
      obtain ⟨hb1, hb2, _⟩ := HA.out
      cases hf : fitI (tot xs)
      · have hs := st_no HA.out hbd hf
        have HV : Hid (sumV (tot xs) = 0 ∧ sumE (tot xs) = 20) := by show _ ∧ _; unfold sumV sumE; rw [hf]; simp
        clear hbd hf HA
        rcases rhi_no hb2 hs with ⟨z1, z2⟩ | ⟨z1, z2⟩
        all_goals
          clear hs hb1 hb2
          obtain ⟨hz, e⟩ : ∃ hz : Int, (hi : Int) = hz := ⟨_, rfl⟩
          have eu : u hi = .int .u64 hz := by rw [← e]
          rw [e] at z2
          rw [eu]
          clear e eu
          go_upto_region 11 with (fail)
          generalize wrap64 (lo : Int) = z at *
          clear h2 h1 hkk hg hlt
          first | have z3 : ¬ z < 0 := by omega | have z3 : z < 0 := by omega
          go_wp2_with fail
          go_ret2
          exact ⟨ret2 ⟨HV.out.1.symm, HV.out.2.symm⟩, BW.out⟩
      · have hs := st_yes HA.out hbd hf
        have HV : Hid (sumV (tot xs) = tot xs ∧ sumE (tot xs) = 0) := by show _ ∧ _; unfold sumV sumE; rw [hf]; simp
        clear hbd hf HA
        have HZ := Lib.hid hs.1
        rcases rhi_yes hb2 hs with ⟨z1, z2⟩ | ⟨z1, z2⟩
        all_goals
          clear hs hb1 hb2
          obtain ⟨hz, e⟩ : ∃ hz : Int, (hi : Int) = hz := ⟨_, rfl⟩
          have eu : u hi = .int .u64 hz := by rw [← e]
          rw [e] at z2
          rw [eu]
          clear e eu
          go_upto_region 11 with (fail)
          generalize wrap64 (lo : Int) = z at *
          clear h2 h1 hkk hg hlt
          first | have z3 : ¬ z < 0 := by omega | have z3 : z < 0 := by omega
          go_wp2_with fail
          go_ret2
          exact ⟨ret2 ⟨HZ.out.trans HV.out.1.symm, HV.out.2.symm⟩, BW.out⟩
end MonW
end Go.Proofs.Ytpgpibojegjogaa
