/-
  Sums: money.Sum and the reference's Sum: the exact sum, or the error.
  The walks of one charge's item: price.Net, tax.item, and the reference's.
  The walks of one charge's net amount: price.Net and the reference's Net.
  The walk of the reference's Net.
-/
import Derived.Test.YtpmcdjpfolgpiaaGreatDoorTaxD
import Derived.Test.YtpmcdjpfolgpiaaGreatDoorMonB
import Derived.Deep.RegionHeld3
namespace Go.Proofs.YtpmcdjpfolgpiaaGreatDoor
namespace MonW
set_option linter.unusedSimpArgs false
set_option linter.unusedVariables false
open Go.RowKit

def tot : List Int → Int
  | [] => 0
  | x :: xs => x + tot xs
theorem tot_append : ∀ (xs ys : List Int), tot (xs ++ ys) = tot xs + tot ys
  | [], ys => by simp [tot]
  | x :: xs, ys => by rw [List.cons_append, tot, tot, tot_append xs ys]; omega
theorem tot_take {xs : List Int} {k : Nat} (hk : k < xs.length) : tot (xs.take (k + 1)) = tot (xs.take k) + xs[k] := by
  rw [List.take_succ_eq_append_getElem hk, tot_append]
  simp [tot]
theorem tot_bound : ∀ (xs : List Int), (∀ x ∈ xs, I64 x) → -9223372036854775808 * (xs.length : Int) ≤ tot xs ∧ tot xs ≤ 9223372036854775807 * (xs.length : Int)
  | [], _ => by simp [tot]
  | x :: xs, h => by
    have h1 := tot_bound xs (fun y hy => h y (by simp [hy]))
    have h2 := h x (by simp)
    unfold I64 at h2
    rw [tot, List.length_cons]
    omega

theorem tot_abs {xs : List Int} {c : Nat} (h : ∀ x ∈ xs, I64 x) (h1 : xs.length ≤ c) (h2 : c ≤ maxLen) : (tot xs).natAbs < 170141183460469231731687303715884105728 := by
  have := tot_bound xs h
  unfold maxLen at h2
  omega
theorem allI {w : World} {v : Value} {xs : List Int} (h : IntsAt w v xs) : ∀ x ∈ xs, I64 x := by
  intro x hx
  obtain ⟨A, c, rfl, _⟩ := SliceAt.form h
  obtain ⟨j, hj, rfl⟩ := List.getElem_of_mem hx
  obtain ⟨b, off, _, _, hok, _⟩ := IntsAt.at_ h hj
  exact hok

/-- The two words of the sum S. -/
def St (S : Int) (hi lo : Nat) : Prop := hi < 18446744073709551616 ∧ lo < 18446744073709551616 ∧ (hi : Int) * 18446744073709551616 + lo = S % 340282366920938463463374607431768211456
theorem st_zero : St 0 0 0 := ⟨by decide, by decide, by decide⟩
def un (n : Int) : Nat := (n % 18446744073709551616).toNat
def stLo (lo : Nat) (n : Int) : Nat := (lo + un n) % 18446744073709551616
def stHi (hi lo : Nat) (n : Int) : Nat := ((hi : Int) + (((lo + un n) / 18446744073709551616 : Nat) : Int) - (if n < 0 then 1 else 0)) % 18446744073709551616 |>.toNat
theorem st_step {S n : Int} {hi lo : Nat} (h : St S hi lo) (hn : I64 n) : St (S + n) (stHi hi lo n) (stLo lo n) := by
  obtain ⟨h1, h2, h3⟩ := h
  unfold I64 at hn
  unfold St stHi stLo un
  split <;> refine ⟨by omega, by omega, by omega⟩

def fitI (S : Int) : Bool := decide (-9223372036854775808 ≤ S ∧ S ≤ 9223372036854775807)
def sumV (S : Int) : Int := if fitI S then S else 0
def sumE (S : Int) : Int := if fitI S then 0 else 20
theorem st_yes {S : Int} {hi lo : Nat} (h : St S hi lo) (hS : S.natAbs < 170141183460469231731687303715884105728) (hf : fitI S = true) : wrap64 lo = S ∧ ((hi = 0 ∧ lo < 9223372036854775808) ∨ (hi = 18446744073709551615 ∧ 9223372036854775808 ≤ lo)) := by
  obtain ⟨h1, h2, h3⟩ := h
  unfold fitI at hf
  have hf := of_decide_eq_true hf
  unfold wrap64
  omega
theorem st_no {S : Int} {hi lo : Nat} (h : St S hi lo) (hS : S.natAbs < 170141183460469231731687303715884105728) (hf : fitI S = false) : ¬ ((hi = 0 ∧ lo < 9223372036854775808) ∨ (hi = 18446744073709551615 ∧ 9223372036854775808 ≤ lo)) := by
  obtain ⟨h1, h2, h3⟩ := h
  unfold fitI at hf
  have hf := of_decide_eq_false hf
  omega

theorem hi_cases {hi lo : Nat} (hl : lo < 18446744073709551616) (h : ¬ ((hi = 0 ∧ lo < 9223372036854775808) ∨ (hi = 18446744073709551615 ∧ 9223372036854775808 ≤ lo))) :
    (((hi : Int) != 0) = true ∧ ((hi : Int) != 18446744073709551615) = true) ∨ (hi = 0 ∧ ∃ z : Unit, True ∧ ¬ 0 ≤ wrap64 lo) ∨ (hi = 18446744073709551615 ∧ ∃ z : Unit, True ∧ 0 ≤ wrap64 lo) := by
  by_cases h0 : hi = 0
  · exact .inr (.inl ⟨h0, (), trivial, by unfold wrap64; omega⟩)
  · by_cases h1 : hi = 18446744073709551615
    · exact .inr (.inr ⟨h1, (), trivial, by unfold wrap64; omega⟩)
    · exact .inl ⟨bne_iff_ne.2 (by omega), bne_iff_ne.2 (by omega)⟩
theorem hi_yes {S : Int} {hi lo : Nat} (hl : lo < 18446744073709551616) (h : wrap64 lo = S ∧ ((hi = 0 ∧ lo < 9223372036854775808) ∨ (hi = 18446744073709551615 ∧ 9223372036854775808 ≤ lo))) : wrap64 lo = S ∧ ((hi = 0 ∧ 0 ≤ S) ∨ (hi = 18446744073709551615 ∧ S < 0)) := by
  refine ⟨h.1, ?_⟩
  have h1 := h.1
  unfold wrap64 at h1
  omega

theorem add64 (lo : Nat) (n : Int) (W : World) :
    (callFunc 152 #[u lo, .int .u64 (IntKind.u64.wrap n), .int .u64 0]).run Tryz.prog W = .ok (.value (.tuple #[u (stLo lo n), u ((lo + un n) / 18446744073709551616)])) W := by
  rw [run_callFunc_extern (e := add64Entry) Tryz.func152 (by kernel_rfl) (by kernel_rfl) (by kernel_rfl) (by kernel_rfl)]
  have hn : IntKind.u64.wrap n = (un n : Int) := by rw [wrapU]; unfold un; omega
  rw [hn, run_add64 _ _ _ (by omega) (by omega) (by omega) (by omega)]
  simp only [Result.andThen, stLo]
  congr 4 <;> simp <;> omega

theorem hi1 {hi lo : Nat} {n : Int} (hn : n < 0) : IntKind.u64.wrap (IntKind.u64.wrap ((hi : Int) + (((lo + un n) / 18446744073709551616 : Nat) : Int)) - 1) = (stHi hi lo n : Int) := by
  rw [wrapU, wrapU]; unfold stHi; rw [if_pos hn]; omega
theorem hi0 {hi lo : Nat} {n : Int} (hn : ¬ n < 0) : IntKind.u64.wrap ((hi : Int) + (((lo + un n) / 18446744073709551616 : Nat) : Int)) = (stHi hi lo n : Int) := by
  rw [wrapU]; unfold stHi; rw [if_neg hn]; omega

set_option maxHeartbeats 1000000 in
theorem msum (v : Value) (xs : List Int) (w : World) (h : IntsAt w v xs) :
    Calls Tryz.prog 130 #[v] w fun e w' => e = .returned (.tuple #[i (sumV (tot xs)), i (sumE (tot xs))]) ∧ Below w.heap.size w w' := by
  obtain ⟨A, c, rfl, h1, h2⟩ := SliceAt.form h
  have hbd := tot_abs (allI h) h1 h2
  have HBD := Lib.hid hbd
  clear hbd
  unfold maxLen at h2
  have HC := Lib.hid h
  clear h
  go_enter Tryz.func130, Tryz.ntmps130
  go_wp2
  go_loopg [4, 5, 11] xs.length (fun gg s4 s5 s11 wr => ∃ hi lo kk : Nat, kk ≤ xs.length ∧ xs.length - kk ≤ gg ∧ s4 = u hi ∧ s5 = u lo ∧ s11 = i kk ∧ Hid (Below w.heap.size w wr) ∧ Hid (St (tot (xs.take kk)) hi lo))
  case atStart => exact ⟨0, 0, 0, Nat.zero_le _, by omega, rfl, rfl, rfl, Below.refl _ w, st_zero⟩
  case round =>
    obtain ⟨hi, lo, kk, hkk, hg, rfl, rfl, rfl, BW, HA⟩ := hrel
    by_cases hlt : kk < xs.length
    · have hltz : (kk : Int) < (xs.length : Int) := by omega
      obtain ⟨b, off, rfl, _, hok, hrow⟩ := IntsAt.at_ HC.out hlt
      have l2 := hrow wr (Kept.of BW.out)
      clear hrow
      have hst := st_step HA.out hok
      rw [← tot_take hlt] at hst
      generalize xs[kk] = y at l2 hst hok
      have HS := Lib.hid hst
      obtain ⟨hb1, hb2, _⟩ := HA.out
      clear hst
      have ha := add64 lo y wr
      by_cases hy : y < 0
      · have E := hi1 (hi := hi) (lo := lo) hy
        generalize stLo lo y = lo2 at *
        generalize stHi hi lo y = hi2 at *
        generalize (lo + un y) / 18446744073709551616 = cy at *
        clear hb1 hb2 hok
        go_wp2
        go_roundg (xs.length - (kk + 1))
        case measure => omega
        case rel => exact ⟨hi2, lo2, kk + 1, by omega, by omega, by first | rfl | rw [E], rfl, by go_num, BW, HS⟩
      · have E := hi0 (hi := hi) (lo := lo) hy
        generalize stLo lo y = lo2 at *
        generalize stHi hi lo y = hi2 at *
        generalize (lo + un y) / 18446744073709551616 = cy at *
        clear hb1 hb2 hok
        go_wp2
        go_roundg (xs.length - (kk + 1))
        case measure => omega
        case rel => exact ⟨hi2, lo2, kk + 1, by omega, by omega, by first | rfl | rw [E], rfl, by go_num, BW, HS⟩
    · have hltz : ¬ (kk : Int) < (xs.length : Int) := by omega
      have hke : kk = xs.length := by omega
      subst hke
      rw [List.take_length] at HA
      have hbd := HBD.out
      obtain ⟨hb1, hb2, _⟩ := HA.out
      cases hf : fitI (tot xs)
      · have hs := st_no HA.out hbd hf
        have HV : Hid (sumV (tot xs) = 0 ∧ sumE (tot xs) = 20) := by show _ ∧ _; unfold sumV sumE; rw [hf]; simp
        clear hbd hf HA
        rcases hi_cases hb2 hs with ⟨z1, z2⟩ | ⟨rfl, z, hz, z1⟩ | ⟨rfl, z, hz, z1⟩
        all_goals
          clear hs hb1 hb2
          go_wp2_with fail
          go_ret2
          exact ⟨ret2 ⟨HV.out.1.symm, HV.out.2.symm⟩, BW.out⟩
      · have hs := st_yes HA.out hbd hf
        have HV : Hid (sumV (tot xs) = tot xs ∧ sumE (tot xs) = 0) := by show _ ∧ _; unfold sumV sumE; rw [hf]; simp
        clear hbd hf HA
        obtain ⟨hz, z1⟩ := hi_yes hb2 hs
        rw [← hz] at z1
        have HZ := Lib.hid hz
        clear hz
        rcases z1 with ⟨rfl, z1⟩ | ⟨rfl, z1⟩
        all_goals
          clear hs hb1 hb2
          go_wp2_with fail
          go_ret2
          exact ⟨ret2 ⟨HZ.out.trans HV.out.1.symm, HV.out.2.symm⟩, BW.out⟩

theorem rhi_no {hi lo : Nat} (hl : lo < 18446744073709551616) (h : ¬ ((hi = 0 ∧ lo < 9223372036854775808) ∨ (hi = 18446744073709551615 ∧ 9223372036854775808 ≤ lo))) :
    (0 ≤ wrap64 lo ∧ ((hi : Int) == 0) = false) ∨ (¬ 0 ≤ wrap64 lo ∧ ((hi : Int) == 18446744073709551615) = false) := by
  by_cases h0 : 0 ≤ wrap64 lo
  · exact .inl ⟨h0, beq_eq_false_iff_ne.2 (by unfold wrap64 at h0; omega)⟩
  · exact .inr ⟨h0, beq_eq_false_iff_ne.2 (by unfold wrap64 at h0; omega)⟩
theorem rhi_yes {S : Int} {hi lo : Nat} (hl : lo < 18446744073709551616) (h : wrap64 lo = S ∧ ((hi = 0 ∧ lo < 9223372036854775808) ∨ (hi = 18446744073709551615 ∧ 9223372036854775808 ≤ lo))) :
    (0 ≤ wrap64 lo ∧ ((hi : Int) == 0) = true) ∨ (¬ 0 ≤ wrap64 lo ∧ ((hi : Int) == 18446744073709551615) = true) := by
  by_cases h0 : 0 ≤ wrap64 lo
  · exact .inl ⟨h0, beq_iff_eq.2 (by unfold wrap64 at h0; omega)⟩
  · exact .inr ⟨h0, beq_iff_eq.2 (by unfold wrap64 at h0; omega)⟩

theorem rlo (lo : Nat) (n : Int) : IntKind.u64.wrap ((lo : Int) + IntKind.u64.wrap n) = (stLo lo n : Int) := by
  rw [wrapU, wrapU]; unfold stLo un; omega
theorem rhi1 {hi lo : Nat} {n : Int} (hn : n < 0) (hl : lo < 18446744073709551616) (hc : (stLo lo n : Int) < IntKind.u64.wrap n) : IntKind.u64.wrap (IntKind.u64.wrap ((hi : Int) - 1) + 1) = (stHi hi lo n : Int) := by
  rw [wrapU] at hc; rw [wrapU, wrapU]; unfold stLo un at hc; unfold stHi un; rw [if_pos hn]; omega
theorem rhi2 {hi lo : Nat} {n : Int} (hn : n < 0) (hl : lo < 18446744073709551616) (hc : ¬ (stLo lo n : Int) < IntKind.u64.wrap n) : IntKind.u64.wrap ((hi : Int) - 1) = (stHi hi lo n : Int) := by
  rw [wrapU] at hc; rw [wrapU]; unfold stLo un at hc; unfold stHi un; rw [if_pos hn]; omega
theorem rhi3 {hi lo : Nat} {n : Int} (hn : ¬ n < 0) (hl : lo < 18446744073709551616) (hc : (stLo lo n : Int) < IntKind.u64.wrap n) : IntKind.u64.wrap ((hi : Int) + 1) = (stHi hi lo n : Int) := by
  rw [wrapU] at hc; rw [wrapU]; unfold stLo un at hc; unfold stHi un; rw [if_neg hn]; omega
theorem rhi4 {hi lo : Nat} {n : Int} (hn : ¬ n < 0) (hh : hi < 18446744073709551616) (hl : lo < 18446744073709551616) (hc : ¬ (stLo lo n : Int) < IntKind.u64.wrap n) : (hi : Int) = (stHi hi lo n : Int) := by
  rw [wrapU] at hc; unfold stLo un at hc; unfold stHi un; rw [if_neg hn]; omega

set_option maxHeartbeats 1000000 in
theorem rsum (v : Value) (xs : List Int) (w : World) (h : IntsAt w v xs) :
    Calls Tryz.prog 54 #[v] w fun e w' => e = .returned (.tuple #[i (sumV (tot xs)), i (sumE (tot xs))]) ∧ Below w.heap.size w w' := by
  obtain ⟨A, c, rfl, h1, h2⟩ := SliceAt.form h
  have hbd := tot_abs (allI h) h1 h2
  have HBD := Lib.hid hbd
  clear hbd
  unfold maxLen at h2
  have HC := Lib.hid h
  clear h
  go_enter Tryz.func54, Tryz.ntmps54
  go_wp2
  go_loopg [4, 5, 6] xs.length (fun gg s4 s5 s11 wr => ∃ hi lo kk : Nat, kk ≤ xs.length ∧ xs.length - kk ≤ gg ∧ s4 = u hi ∧ s5 = u lo ∧ s11 = i kk ∧ Hid (Below w.heap.size w wr) ∧ Hid (St (tot (xs.take kk)) hi lo))
  case atStart => exact ⟨0, 0, 0, Nat.zero_le _, by omega, rfl, rfl, rfl, Below.refl _ w, st_zero⟩
  case round =>
    obtain ⟨hi, lo, kk, hkk, hg, rfl, rfl, rfl, BW, HA⟩ := hrel
    by_cases hlt : kk < xs.length
    · have hltz : (kk : Int) < (xs.length : Int) := by omega
      obtain ⟨b, off, rfl, _, hok, hrow⟩ := IntsAt.at_ HC.out hlt
      have l2 := hrow wr (Kept.of BW.out)
      clear hrow
      have hst := st_step HA.out hok
      rw [← tot_take hlt] at hst
      generalize xs[kk] = y at l2 hst hok
      have HS := Lib.hid hst
      obtain ⟨hb1, hb2, _⟩ := HA.out
      clear hst
      have EL := rlo lo y
      by_cases hy : y < 0
      · by_cases hc : IntKind.u64.wrap ((lo : Int) + IntKind.u64.wrap y) < IntKind.u64.wrap y
        · have E := Lib.hid (And.intro EL (rhi1 (hi := hi) hy hb2 (by rw [← EL]; exact hc)))
          clear EL hok hb1 hb2
          go_wp2_with fail
          go_roundg (xs.length - (kk + 1))
          case measure => omega
          case rel => exact ⟨_, _, kk + 1, by omega, by omega, congrArg (Value.int .u64) E.out.2, congrArg (Value.int .u64) E.out.1, by go_num, BW, HS⟩
        · have E := Lib.hid (And.intro EL (rhi2 (hi := hi) hy hb2 (by rw [← EL]; exact hc)))
          clear EL hok hb1 hb2
          go_wp2_with fail
          go_roundg (xs.length - (kk + 1))
          case measure => omega
          case rel => exact ⟨_, _, kk + 1, by omega, by omega, congrArg (Value.int .u64) E.out.2, congrArg (Value.int .u64) E.out.1, by go_num, BW, HS⟩
      · have ew : IntKind.u64.wrap y = y := by unfold I64 at hok; rw [wrapU]; omega
        rw [ew] at EL
        by_cases hc : IntKind.u64.wrap ((lo : Int) + y) < y
        · have E := Lib.hid (And.intro EL (rhi3 (hi := hi) hy hb2 (by rw [← EL, ew]; exact hc)))
          clear EL hb1 hb2
          go_wp2_with fail
          go_roundg (xs.length - (kk + 1))
          case measure => omega
          case rel => exact ⟨_, _, kk + 1, by omega, by omega, congrArg (Value.int .u64) E.out.2, congrArg (Value.int .u64) E.out.1, by go_num, BW, HS⟩
        · have E := Lib.hid (And.intro EL (rhi4 (hi := hi) hy hb1 hb2 (by rw [← EL, ew]; exact hc)))
          clear EL hb1 hb2
          go_wp2_with fail
          go_roundg (xs.length - (kk + 1))
          case measure => omega
          case rel => exact ⟨_, _, kk + 1, by omega, by omega, congrArg (Value.int .u64) E.out.2, congrArg (Value.int .u64) E.out.1, by go_num, BW, HS⟩
    · have hltz : ¬ (kk : Int) < (xs.length : Int) := by omega
      have hke : kk = xs.length := by omega
      subst hke
      rw [List.take_length] at HA
      have hbd := HBD.out
      obtain ⟨hb1, hb2, _⟩ := HA.out
      cases hf : fitI (tot xs)
      · have hs := st_no HA.out hbd hf
        have HV : Hid (sumV (tot xs) = 0 ∧ sumE (tot xs) = 20) := by show _ ∧ _; unfold sumV sumE; rw [hf]; simp
        clear hbd hf HA
        rcases rhi_no hb2 hs with ⟨z1, z2⟩ | ⟨z1, z2⟩
        all_goals
          clear hs hb1 hb2
          obtain ⟨hz, e⟩ : ∃ hz : Int, (hi : Int) = hz := ⟨_, rfl⟩
          have eu : u hi = .int .u64 hz := by rw [← e]
          rw [e] at z2
          rw [eu]
          clear e eu
          go_upto_region 11 with (fail)
          generalize wrap64 (lo : Int) = z at *
          clear h2 h1 hkk hg hlt
          first | have z3 : ¬ z < 0 := by omega | have z3 : z < 0 := by omega
          go_wp2_with fail
          go_ret2
          exact ⟨ret2 ⟨HV.out.1.symm, HV.out.2.symm⟩, BW.out⟩
      · have hs := st_yes HA.out hbd hf
        have HV : Hid (sumV (tot xs) = tot xs ∧ sumE (tot xs) = 0) := by show _ ∧ _; unfold sumV sumE; rw [hf]; simp
        clear hbd hf HA
        have HZ := Lib.hid hs.1
        rcases rhi_yes hb2 hs with ⟨z1, z2⟩ | ⟨z1, z2⟩
        all_goals
          clear hs hb1 hb2
          obtain ⟨hz, e⟩ : ∃ hz : Int, (hi : Int) = hz := ⟨_, rfl⟩
          have eu : u hi = .int .u64 hz := by rw [← e]
          rw [e] at z2
          rw [eu]
          clear e eu
          go_upto_region 11 with (fail)
          generalize wrap64 (lo : Int) = z at *
          clear h2 h1 hkk hg hlt
          first | have z3 : ¬ z < 0 := by omega | have z3 : z < 0 := by omega
          go_wp2_with fail
          go_ret2
          exact ⟨ret2 ⟨HZ.out.trans HV.out.1.symm, HV.out.2.symm⟩, BW.out⟩
end MonW
end Go.Proofs.YtpmcdjpfolgpiaaGreatDoor

namespace Go.Proofs.YtpmcdjpfolgpiaaGreatDoor
namespace MonW
set_option linter.unusedSimpArgs false
set_option linter.unusedVariables false
open Go.RowKit

def isKind (k : Int) : Bool := decide (1 ≤ k ∧ k ≤ 4)
def unitOf (k : Int) : Nat := if k = 1 then 1 else if k = 2 then 60000 else if k = 3 ∨ k = 4 then 60 else 0
theorem unit_dn {k : Int} (h : isKind k = true) : Dn (unitOf k) := by
  have h := of_decide_eq_true h
  unfold unitOf Dn
  by_cases h1 : k = 1
  · simp [h1]
  · by_cases h2 : k = 2
    · simp [h2]
    · have : k = 3 ∨ k = 4 := by omega
      simp [h1, h2, this]
def validC (c : Chg) : Bool := decide (1 ≤ c.kind ∧ c.kind ≤ 4 ∧ 0 ≤ c.price ∧ c.price ≤ 1073741824 ∧ 0 ≤ c.tax ∧ c.tax ≤ 10000 ∧ 0 ≤ c.qty ∧ c.qty ≤ 35184372088832)
def netV (c : Chg) : Int := if validC c then scV c.qty c.price (unitOf c.kind) else 0
def netE (c : Chg) : Int := if validC c then scE c.qty c.price (unitOf c.kind) else 1

theorem retB' {a c : Bool} (h1 : a = c) : Ending.returned (.bool a) = .returned (.bool c) := by rw [h1]
theorem retI' {a c : Int} (h1 : a = c) : Ending.returned (.int .i64 a) = .returned (i c) := by rw [h1]

set_option maxHeartbeats 400000 in
theorem known (k : Int) (w : World) : Calls Tryz.prog 125 #[i k] w fun e w' => e = .returned (.bool (isKind k)) ∧ ∃ n, w' = w.drewN n := by
  have h : (isKind k = false ∧ ((k == 1) = false ∧ (k == 2) = false ∧ (k == 3) = false ∧ (k == 4) = false)) ∨ (isKind k = true ∧ (k = 1 ∨ k = 2 ∨ k = 3 ∨ k = 4)) := by
    unfold isKind
    by_cases h : 1 ≤ k ∧ k ≤ 4
    · exact .inr ⟨decide_eq_true h, by omega⟩
    · exact .inl ⟨decide_eq_false h, by simp; omega⟩
  rcases h with ⟨hk, h1, h2, h3, h4⟩ | ⟨hk, rfl | rfl | rfl | rfl⟩
  all_goals
    have HK := Lib.hid hk
    clear hk
    go_enter Tryz.func125, Tryz.ntmps125
    go_wp2
    go_ret
    exact ⟨retB' HK.out.symm, 0, rfl⟩

set_option maxHeartbeats 400000 in
theorem unit (k : Int) (w : World) : Calls Tryz.prog 146 #[i k] w fun e w' => e = .returned (i (unitOf k)) ∧ ∃ n, w' = w.drewN n := by
  have h : (unitOf k = 0 ∧ ((k == 1) = false ∧ (k == 2) = false ∧ (k == 3) = false ∧ (k == 4) = false)) ∨ (k = 1 ∨ k = 2 ∨ k = 3 ∨ k = 4) := by
    by_cases h : 1 ≤ k ∧ k ≤ 4
    · exact .inr (by omega)
    · exact .inl ⟨by unfold unitOf; rw [if_neg (by omega), if_neg (by omega), if_neg (by omega)], by simp; omega⟩
  rcases h with ⟨hk, h1, h2, h3, h4⟩ | rfl | rfl | rfl | rfl
  · have HK := Lib.hid hk
    clear hk
    go_enter Tryz.func146, Tryz.ntmps146
    go_wp2
    go_ret
    exact ⟨retI' (by rw [HK.out]; rfl), 0, rfl⟩
  all_goals
    go_enter Tryz.func146, Tryz.ntmps146
    go_wp2
    go_ret
    exact ⟨retI' rfl, 0, rfl⟩

set_option maxHeartbeats 400000 in
theorem runit (k : Int) (w : World) : Calls Tryz.prog 114 #[i k] w fun e w' => e = .returned (i (unitOf k)) ∧ ∃ n, w' = w.drewN n := by
  have h : (unitOf k = 0 ∧ ((k == 1) = false ∧ (k == 2) = false ∧ (k == 3) = false ∧ (k == 4) = false)) ∨ (k = 1 ∨ k = 2 ∨ k = 3 ∨ k = 4) := by
    by_cases h : 1 ≤ k ∧ k ≤ 4
    · exact .inr (by omega)
    · exact .inl ⟨by unfold unitOf; rw [if_neg (by omega), if_neg (by omega), if_neg (by omega)], by simp; omega⟩
  rcases h with ⟨hk, h1, h2, h3, h4⟩ | rfl | rfl | rfl | rfl
  · have HK := Lib.hid hk
    clear hk
    go_enter Tryz.func114, Tryz.ntmps114
    go_wp2
    go_ret
    exact ⟨retI' (by rw [HK.out]; rfl), 0, rfl⟩
  all_goals
    go_enter Tryz.func114, Tryz.ntmps114
    go_wp2
    go_ret
    exact ⟨retI' rfl, 0, rfl⟩

set_option maxHeartbeats 400000 in
theorem plus (a b : Int) (w : World) (ha : I64 a) (hb : I64 b) :
    Calls Tryz.prog 128 #[i a, i b] w fun e w' => e = .returned (.tuple #[i (sumV (a + b)), .bool (fitI (a + b))]) ∧ ∃ n, w' = w.drewN n := by
  unfold I64 at ha hb
  have hw : wrap64 (a + b) = sumV (a + b) ∨ fitI (a + b) = false := by
    by_cases h : -9223372036854775808 ≤ a + b ∧ a + b ≤ 9223372036854775807
    · left; unfold sumV fitI; rw [if_pos (decide_eq_true h)]; unfold wrap64; omega
    · right; exact decide_eq_false h
  have key : (fitI (a + b) = true ∧ ((0 < b ∧ ¬ 9223372036854775807 - b < a) ∨ (b < 0 ∧ ¬ 0 < b ∧ ¬ a < -9223372036854775808 - b) ∨ b = 0)) ∨ (fitI (a + b) = false ∧ ((0 < b ∧ 9223372036854775807 - b < a) ∨ (b < 0 ∧ ¬ 0 < b ∧ a < -9223372036854775808 - b))) := by
    by_cases h : -9223372036854775808 ≤ a + b ∧ a + b ≤ 9223372036854775807
    · exact .inl ⟨decide_eq_true h, by omega⟩
    · exact .inr ⟨decide_eq_false h, by omega⟩
  have HW := Lib.hid hw
  clear hw
  rcases key with ⟨hf, h⟩ | ⟨hf, h⟩
  · have HV : Hid (sumV (a + b) = a + b ∧ fitI (a + b) = true) := by show _ ∧ _; unfold sumV; rw [hf]; simp
    have hab : -9223372036854775808 ≤ a + b ∧ a + b ≤ 9223372036854775807 := of_decide_eq_true hf
    clear hf
    rcases h with ⟨h1, h2⟩ | ⟨h1, h2, h3⟩ | rfl
    all_goals
      go_enter Tryz.func128, Tryz.ntmps128
      go_wp2_with fail
      go_ret2
      exact ⟨retIB (by rw [HV.out.1]; try omega) HV.out.2.symm, 0, rfl⟩
  · have HV : Hid (sumV (a + b) = 0 ∧ fitI (a + b) = false) := by show _ ∧ _; unfold sumV; rw [hf]; simp
    clear hf
    rcases h with ⟨h1, h2⟩ | ⟨h1, h2, h3⟩
    all_goals
      go_enter Tryz.func128, Tryz.ntmps128
      go_wp2_with fail
      go_ret2
      exact ⟨retIB HV.out.1.symm HV.out.2.symm, 0, rfl⟩
end MonW
end Go.Proofs.YtpmcdjpfolgpiaaGreatDoor

namespace Go.Proofs.YtpmcdjpfolgpiaaGreatDoor
namespace MonW
set_option linter.unusedSimpArgs false
set_option linter.unusedVariables false
open Go.RowKit

set_option maxHeartbeats 1000000 in
theorem valid (c : Chg) (w : World) : Calls Tryz.prog 145 #[chgV c] w fun e w' => e = .returned (.bool (validC c)) ∧ Below w.heap.size w w' := by
  obtain ⟨k, p, t, q⟩ := c
  go_enter Tryz.func145, Tryz.ntmps145
  go_wp2
  all_goals go_ret
  all_goals refine ⟨?_, below_new _ _⟩
  all_goals refine retB' ?_
  all_goals unfold validC
  all_goals first | (symm; exact decide_eq_false (by simp only at *; omega)) | exact decide_eq_decide.2 (by simp only at *; omega) | (symm; exact decide_eq_false (by omega)) | exact decide_eq_decide.2 (by omega)

set_option maxHeartbeats 400000 in
theorem rin (x a b : Int) (w : World) : Calls Tryz.prog 110 #[i x, i a, i b] w fun e w' => e = .returned (.bool (decide (a ≤ x ∧ x ≤ b))) ∧ w = w' := by
  by_cases h1 : a ≤ x <;> by_cases h2 : x ≤ b
  all_goals
    go_enter Tryz.func110, Tryz.ntmps110
    go_wp2
    go_ret
    exact ⟨retB' (by simp [h1, h2]), rfl⟩

theorem below_draw {B : Nat} {a w w' : World} (h : Below B a w) (hw : ∃ n, w' = w.drewN n) : Below B a w' := by
  obtain ⟨n, rfl⟩ := hw
  exact below_drewN' h n
def FinB (W w' : World) : Prop := Below W.heap.size W w'
theorem FinB.below {W w' : World} (h : FinB W w') : Below W.heap.size W w' := h
theorem FinB.draw {W w w' : World} (h : FinB W w) (hw : ∃ n, w' = w.drewN n) : FinB W w' := below_draw h hw

theorem netNo {c : Chg} (h : validC c = false) : netV c = 0 ∧ netE c = 1 := by unfold netV netE; rw [h]; simp
theorem netYes {c : Chg} (h : validC c = true) : netV c = scV c.qty c.price (unitOf c.kind) ∧ netE c = scE c.qty c.price (unitOf c.kind) := by unfold netV netE; rw [h]; simp
theorem valid_kind {c : Chg} (h : validC c = true) : isKind c.kind = true := by
  have h := of_decide_eq_true h
  exact decide_eq_true ⟨h.1, h.2.1⟩
theorem scE_cases (a b : Int) (d : Nat) : (scE a b d = 0) ∨ (scE a b d = 20 ∧ scV a b d = 0) := by
  unfold scE scV
  cases scOk a b d <;> simp

set_option maxHeartbeats 1000000 in
theorem net (c : Chg) (w : World) (hc : c.ok) : Calls Tryz.prog 126 #[chgV c] w fun e w' => e = .returned (.tuple #[i (netV c), i (netE c)]) ∧ Below w.heap.size w w' := by
  have HV := Lib.hid (fun W => valid c W)
  have HU := Lib.hid (fun W => unit c.kind W)
  have HK := Lib.hid (Blk.new w 145 #[i c.kind, i c.price, i c.tax, i c.qty])
  have hB := below_new w (.cells #[i c.kind, i c.price, i c.tax, i c.qty] 145)
  obtain ⟨o1, o2, o3, o4⟩ := hc
  cases hv : validC c
  · rw [hv] at HV
    have HN := Lib.hid (netNo hv)
    clear hv
    go_enter Tryz.func126, Tryz.ntmps126
    go_wp2_with fail
    refine (HV.out _).mono ?_
    rintro e w1 ⟨rfl, hb1⟩
    go_wp2_with fail
    go_ret2
    exact ⟨ret2 ⟨HN.out.1.symm, HN.out.2.symm⟩, below_call hB hb1⟩
  · rw [hv] at HV
    have HN := Lib.hid (netYes hv)
    have HS := Lib.hid (fun W => scale c.qty c.price (unitOf c.kind) (unit_dn (valid_kind hv)) W o4.1 o4.2 o2.1 o2.2)
    clear hv
    rcases scE_cases c.qty c.price (unitOf c.kind) with he | ⟨he, hz⟩
    · rw [he] at HS HN
      clear he
      go_enter Tryz.func126, Tryz.ntmps126
      go_wp2_with fail
      refine (HV.out _).mono ?_
      rintro e w1 ⟨rfl, hb1⟩
      have hK := HK.out.call hb1
      have hS : ∀ w', Below w1.heap.size w1 w' → (∀ o, w'.cell? ⟨w.heap.size, o, none⟩ = (#[i c.kind, i c.price, i c.tax, i c.qty] : Array Value)[o]?) ∧ FinB w1 w' :=
        fun w' hb => ⟨(hK.call hb).cell, hb⟩
      have HSS := Lib.hid hS
      clear hS hK HK
      go_wp2_with fail
      go_region_held3 (fun w' => (∀ o, w'.cell? ⟨w.heap.size, o, none⟩ = (#[i c.kind, i c.price, i c.tax, i c.qty] : Array Value)[o]?) ∧ FinB w1 w')
        (first | exact HSS.out _ (below_drewN' (Below.refl _ _) _) | exact HSS.out _ (Below.drew (Below.refl _ _)) | exact HSS.out _ (Below.refl _ _) | (go_split_ands; exact HSS.out _ (FinB.draw (W := w1) (by assumption) hwx)))
        (first | (go_at_call 146; refine (HU.out _).mono ?_; rintro e wx ⟨rfl, hwx⟩) | (go_at_call 129; refine (HS.out _).mono ?_; rintro e wx ⟨rfl, hwx⟩))
      go_split_ands
      have hfin := FinB.below (W := w1) (w' := wx) (by assumption)
      go_wp2_with fail
      go_ret2
      exact ⟨ret2 ⟨HN.out.1.symm, HN.out.2.symm⟩, below_call (below_call hB hb1) hfin⟩
    · rw [he, hz] at HS HN
      clear he hz
      go_enter Tryz.func126, Tryz.ntmps126
      go_wp2_with fail
      refine (HV.out _).mono ?_
      rintro e w1 ⟨rfl, hb1⟩
      have hK := HK.out.call hb1
      have hS : ∀ w', Below w1.heap.size w1 w' → (∀ o, w'.cell? ⟨w.heap.size, o, none⟩ = (#[i c.kind, i c.price, i c.tax, i c.qty] : Array Value)[o]?) ∧ FinB w1 w' :=
        fun w' hb => ⟨(hK.call hb).cell, hb⟩
      have HSS := Lib.hid hS
      clear hS hK HK
      go_wp2_with fail
      go_region_held3 (fun w' => (∀ o, w'.cell? ⟨w.heap.size, o, none⟩ = (#[i c.kind, i c.price, i c.tax, i c.qty] : Array Value)[o]?) ∧ FinB w1 w')
        (first | exact HSS.out _ (below_drewN' (Below.refl _ _) _) | exact HSS.out _ (Below.drew (Below.refl _ _)) | exact HSS.out _ (Below.refl _ _) | (go_split_ands; exact HSS.out _ (FinB.draw (W := w1) (by assumption) hwx)))
        (first | (go_at_call 146; refine (HU.out _).mono ?_; rintro e wx ⟨rfl, hwx⟩) | (go_at_call 129; refine (HS.out _).mono ?_; rintro e wx ⟨rfl, hwx⟩))
      go_split_ands
      have hfin := FinB.below (W := w1) (w' := wx) (by assumption)
      go_wp2_with fail
      go_ret2
      exact ⟨ret2 ⟨HN.out.1.symm, HN.out.2.symm⟩, below_call (below_call hB hb1) hfin⟩
end MonW
end Go.Proofs.YtpmcdjpfolgpiaaGreatDoor

namespace Go.Proofs.YtpmcdjpfolgpiaaGreatDoor
namespace MonW
set_option linter.unusedSimpArgs false
set_option linter.unusedVariables false
open Go.RowKit

theorem rin_yes (x a b : Int) (h : a ≤ x ∧ x ≤ b) (w : World) : Calls Tryz.prog 110 #[i x, i a, i b] w fun e w' => e = .returned (.bool true) ∧ w = w' := by
  have := rin x a b w
  rw [decide_eq_true h] at this
  exact this
theorem rin_no (x a b : Int) (h : ¬ (a ≤ x ∧ x ≤ b)) (w : World) : Calls Tryz.prog 110 #[i x, i a, i b] w fun e w' => e = .returned (.bool false) ∧ w = w' := by
  have := rin x a b w
  rw [decide_eq_false h] at this
  exact this

theorem validC_split (c : Chg) : (validC c = true ∧ (1 ≤ c.kind ∧ c.kind ≤ 4) ∧ (0 ≤ c.price ∧ c.price ≤ 1073741824) ∧ (0 ≤ c.tax ∧ c.tax ≤ 10000) ∧ (0 ≤ c.qty ∧ c.qty ≤ 35184372088832)) ∨
    (validC c = false ∧ ((¬ (1 ≤ c.kind ∧ c.kind ≤ 4)) ∨ ((1 ≤ c.kind ∧ c.kind ≤ 4) ∧ ¬ (0 ≤ c.price ∧ c.price ≤ 1073741824)) ∨ ((1 ≤ c.kind ∧ c.kind ≤ 4) ∧ (0 ≤ c.price ∧ c.price ≤ 1073741824) ∧ ¬ (0 ≤ c.tax ∧ c.tax ≤ 10000)) ∨ ((1 ≤ c.kind ∧ c.kind ≤ 4) ∧ (0 ≤ c.price ∧ c.price ≤ 1073741824) ∧ (0 ≤ c.tax ∧ c.tax ≤ 10000) ∧ ¬ (0 ≤ c.qty ∧ c.qty ≤ 35184372088832)))) := by
  unfold validC
  by_cases h : 1 ≤ c.kind ∧ c.kind ≤ 4 ∧ 0 ≤ c.price ∧ c.price ≤ 1073741824 ∧ 0 ≤ c.tax ∧ c.tax ≤ 10000 ∧ 0 ≤ c.qty ∧ c.qty ≤ 35184372088832
  · exact .inl ⟨decide_eq_true h, by omega⟩
  · exact .inr ⟨decide_eq_false h, by omega⟩

set_option maxHeartbeats 1000000 in
theorem rnet (c : Chg) (w : World) (hc : c.ok) : Calls Tryz.prog 85 #[chgV c] w fun e w' => e = .returned (.tuple #[i (netV c), i (netE c)]) ∧ Below w.heap.size w w' := by
  have HU := Lib.hid (fun W => runit c.kind W)
  have hK := Blk.new w 145 #[i c.kind, i c.price, i c.tax, i c.qty]
  have HK := Lib.hid hK
  clear hK
  have hB := below_new w (.cells #[i c.kind, i c.price, i c.tax, i c.qty] 145)
  have HB := Lib.hid hB
  clear hB
  obtain ⟨o1, o2, o3, o4⟩ := hc
  rcases validC_split c with ⟨hv, h1, h2, h3, h4⟩ | ⟨hv, h1 | ⟨h1, h2⟩ | ⟨h1, h2, h3⟩ | ⟨h1, h2, h3, h4⟩⟩
  · have H1 := Lib.hid (fun W => rin_yes c.kind 1 4 h1 W)
    have H2 := Lib.hid (fun W => rin_yes c.price 0 1073741824 h2 W)
    have H3 := Lib.hid (fun W => rin_yes c.tax 0 10000 h3 W)
    have H4 := Lib.hid (fun W => rin_yes c.qty 0 35184372088832 h4 W)
    have HN := Lib.hid (netYes hv)
    have HS := Lib.hid (fun W => rscale c.qty c.price (unitOf c.kind) (unit_dn (valid_kind hv)) W o4.1 o4.2 o2.1 o2.2)
    clear h1 h2 h3 h4 hv
    go_enter Tryz.func85, Tryz.ntmps85
    go_wp2_with fail
    refine (H1.out _).mono ?_
    rintro e w1 ⟨rfl, rfl⟩
    go_wp2_with fail
    refine (H2.out _).mono ?_
    rintro e w1 ⟨rfl, rfl⟩
    go_wp2_with fail
    refine (H3.out _).mono ?_
    rintro e w1 ⟨rfl, rfl⟩
    go_wp2_with fail
    refine (H4.out _).mono ?_
    rintro e w1 ⟨rfl, rfl⟩
    go_wp2_with fail
    go_quiet ((first | (go_at_call 114; exact Calls.quiet_of (HU.out _)) | (go_at_call 113; exact Calls.quiet_of (HS.out _))))
    go_wp2_with fail
    go_ret2
    exact ⟨ret2 ⟨HN.out.1.symm, HN.out.2.symm⟩, below_drewN' HB.out _⟩
  · have H1 := Lib.hid (fun W => rin_no c.kind 1 4 h1 W)
    have HN := Lib.hid (netNo hv)
    clear h1 hv
    go_enter Tryz.func85, Tryz.ntmps85
    go_wp2_with fail
    refine (H1.out _).mono ?_
    rintro e w1 ⟨rfl, rfl⟩
    go_wp2_with fail
    go_ret2
    exact ⟨ret2 ⟨HN.out.1.symm, HN.out.2.symm⟩, HB.out⟩
  · have H1 := Lib.hid (fun W => rin_yes c.kind 1 4 h1 W)
    have H2 := Lib.hid (fun W => rin_no c.price 0 1073741824 h2 W)
    have HN := Lib.hid (netNo hv)
    clear h1 h2 hv
    go_enter Tryz.func85, Tryz.ntmps85
    go_wp2_with fail
    refine (H1.out _).mono ?_
    rintro e w1 ⟨rfl, rfl⟩
    go_wp2_with fail
    refine (H2.out _).mono ?_
    rintro e w1 ⟨rfl, rfl⟩
    go_wp2_with fail
    go_ret2
    exact ⟨ret2 ⟨HN.out.1.symm, HN.out.2.symm⟩, HB.out⟩
  · have H1 := Lib.hid (fun W => rin_yes c.kind 1 4 h1 W)
    have H2 := Lib.hid (fun W => rin_yes c.price 0 1073741824 h2 W)
    have H3 := Lib.hid (fun W => rin_no c.tax 0 10000 h3 W)
    have HN := Lib.hid (netNo hv)
    clear h1 h2 h3 hv
    go_enter Tryz.func85, Tryz.ntmps85
    go_wp2_with fail
    refine (H1.out _).mono ?_
    rintro e w1 ⟨rfl, rfl⟩
    go_wp2_with fail
    refine (H2.out _).mono ?_
    rintro e w1 ⟨rfl, rfl⟩
    go_wp2_with fail
    refine (H3.out _).mono ?_
    rintro e w1 ⟨rfl, rfl⟩
    go_wp2_with fail
    go_ret2
    exact ⟨ret2 ⟨HN.out.1.symm, HN.out.2.symm⟩, HB.out⟩
  · have H1 := Lib.hid (fun W => rin_yes c.kind 1 4 h1 W)
    have H2 := Lib.hid (fun W => rin_yes c.price 0 1073741824 h2 W)
    have H3 := Lib.hid (fun W => rin_yes c.tax 0 10000 h3 W)
    have H4 := Lib.hid (fun W => rin_no c.qty 0 35184372088832 h4 W)
    have HN := Lib.hid (netNo hv)
    clear h1 h2 h3 h4 hv
    go_enter Tryz.func85, Tryz.ntmps85
    go_wp2_with fail
    refine (H1.out _).mono ?_
    rintro e w1 ⟨rfl, rfl⟩
    go_wp2_with fail
    refine (H2.out _).mono ?_
    rintro e w1 ⟨rfl, rfl⟩
    go_wp2_with fail
    refine (H3.out _).mono ?_
    rintro e w1 ⟨rfl, rfl⟩
    go_wp2_with fail
    refine (H4.out _).mono ?_
    rintro e w1 ⟨rfl, rfl⟩
    go_wp2_with fail
    go_ret2
    exact ⟨ret2 ⟨HN.out.1.symm, HN.out.2.symm⟩, HB.out⟩
end MonW
end Go.Proofs.YtpmcdjpfolgpiaaGreatDoor
