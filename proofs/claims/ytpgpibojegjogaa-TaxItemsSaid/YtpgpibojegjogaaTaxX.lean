/-
  The walk of the statement TaxItems.
-/
import Derived.Test.YtpgpibojegjogaaTaxV
namespace Go.Proofs.Ytpgpibojegjogaa
namespace MonW
set_option linter.unusedSimpArgs false
set_option linter.unusedVariables false
open Go.RowKit

theorem sgn_pos {q : Nat} (h : q < 9223372036854775808) : sgn q false = q := by
  unfold sgn wrap64
  simp only [Bool.false_eq_true, if_false]
  omega
theorem scV_pos {a b : Int} {d : Nat} (ha : 0 ≤ a) (hb : 0 ≤ b) (hok : scOk a b d = true) : scV a b d = (scQ a b d : Int) ∧ scQ a b d < 9223372036854775808 := by
  have hn : neg a b = false := by
    unfold neg
    rw [decide_eq_false (by omega), decide_eq_false (by omega)]
    rfl
  have hq : scQ a b d < 9223372036854775808 := by
    unfold scOk fits at hok
    rw [hn] at hok
    simpa using hok
  refine ⟨?_, hq⟩
  unfold scV
  rw [hok, hn, if_pos rfl, sgn_pos hq]
theorem scOk_of {a b : Int} {d : Nat} (h : scE a b d = 0) : scOk a b d = true := by
  unfold scE at h
  cases hk : scOk a b d
  · rw [hk] at h; simp at h
  · rfl
theorem rnd_le {n t : Nat} (ht : t ≤ 10000) : rnd (n * t) 10000 ≤ n := by
  unfold rnd
  rcases Nat.eq_or_lt_of_le ht with h | h
  · subst h
    rw [Nat.mul_mod_left, Nat.mul_div_cancel _ (by omega)]
    simp
  · rcases Nat.eq_zero_or_pos n with h0 | h0
    · subst h0; simp
    · have h1 : n * t ≤ n * 9999 := Nat.mul_le_mul_left _ (by omega)
      have h2 : n * t / 10000 < n := (Nat.div_lt_iff_lt_mul (by omega)).2 (by omega)
      split <;> omega
/-- What is said of each item. -/
def good (x : Itm) : Prop := x.gross = x.net + x.vat ∧ 0 ≤ x.vat ∧ x.vat ≤ x.net ∧ I64 x.gross
theorem item_good {c : Chg} (h : itE c = 0) : good (itV c) := by
  rcases itE_ways c with ⟨_, _, h1⟩ | ⟨_, _, _, h1⟩ | ⟨h1, h2, _, h4⟩
  · exact absurd h h1
  · exact absurd h h1
  have hv : validC c = true := by
    cases hv : validC c
    · have := (netNo hv).2
      omega
    · rfl
  have hV := of_decide_eq_true hv
  obtain ⟨n1, n2⟩ := netYes hv
  rw [h1] at n2
  obtain ⟨p1, p2⟩ := scV_pos (by omega) (by omega) (scOk_of n2.symm)
  have hnet : 0 ≤ netV c := by rw [n1, p1]; omega
  have htx : txV (itm0 c) = ⟨(itm0 c).kind, (itm0 c).price, (itm0 c).tax, (itm0 c).qty, (itm0 c).net, txVat (itm0 c), (itm0 c).net + txVat (itm0 c)⟩ := by unfold txV; rw [h2, if_pos rfl]
  have h2' := h2
  unfold txOk at h2'
  simp at h2'
  have hvat : txVat (itm0 c) = scV (netV c) c.tax 10000 := rfl
  obtain ⟨q1, q2⟩ := scV_pos hnet (by omega) (show scOk (netV c) c.tax 10000 = true from h2'.1)
  have hle : scQ (netV c) c.tax 10000 ≤ (netV c).natAbs := by
    unfold scQ
    exact rnd_le (by omega)
  rw [h4, htx]
  refine ⟨rfl, ?_, ?_, of_decide_eq_true h2'.2⟩
  · show 0 ≤ txVat (itm0 c)
    rw [hvat, q1]; omega
  · show txVat (itm0 c) ≤ netV c
    rw [hvat, q1]; omega
theorem itsE_all : ∀ (cs : List Chg), itsE cs = 0 → ∀ c ∈ cs, itE c = 0
  | [], _, c, hc => by simp at hc
  | d :: cs, h, c, hc => by
    rw [itsE] at h
    by_cases hd : itE d = 0
    · rw [if_pos hd] at h
      rcases List.mem_cons.1 hc with rfl | hc
      · exact hd
      · exact itsE_all cs h c hc
    · rw [if_neg hd] at h
      exact absurd h hd
theorem all_good {cs : List Chg} : ∀ x ∈ allV cs, good x := by
  intro x hx
  unfold allV at hx
  by_cases h : allE cs = 0
  · rw [if_pos h] at hx
    obtain ⟨c, hc, rfl⟩ := List.mem_map.1 hx
    unfold allE at h
    by_cases hb : 64 < cs.length
    · rw [if_pos hb] at h; omega
    · rw [if_neg hb] at h
      exact item_good (itsE_all cs h c hc)
  · rw [if_neg h] at hx
    simp at hx

set_option maxHeartbeats 2000000 in
theorem law_items (v : Value) (cs : List Chg) (w : World) (h : ChgsAt w v cs) : Calls Try.prog 3 #[v] w fun e w' => e = .returned (.bool true) ∧ Below w.heap.size w w' := by
  have HW := Lib.hid awake
  have HI := Lib.hid h
  obtain ⟨A, c, rfl, h1, h2⟩ := SliceAt.form h
  unfold maxLen at h2
  clear h
  by_cases hb : 70 < cs.length
  · have hbz : (70 : Int) < (cs.length : Int) := by omega
    go_enter Try.func3, Try.ntmps3
    go_wp2_with fail
    refine (HW.out _).mono ?_
    rintro e w1 ⟨rfl, hb1⟩
    go_wp2_with fail
    go_ret
    exact ⟨rfl, hb1⟩
  · have hbz : ¬ (70 : Int) < (cs.length : Int) := by omega
    have HN := Lib.hid (items _ cs w HI.out)
    have HR := Lib.hid (fun (W : World) (hb : Below w.heap.size w W) => ritems _ cs W (HI.out.call hb))
    have HG := Lib.hid (@all_good cs)
    have HS := Lib.hid same
    unfold ItsPost at HN HR
    generalize allE cs = ae at *
    generalize allV cs = xs at *
    go_enter Try.func3, Try.ntmps3
    go_wp2_with fail
    refine HN.out.mono ?_
    rintro e w1 ⟨v1, rfl, hv1, hb1⟩
    obtain ⟨A1, c1, rfl, h3, h4⟩ := SliceAt.form hv1
    unfold maxLen at h4
    have HV1 := Lib.hid hv1
    clear hv1
    go_wp2_with fail
    refine (HR.out _ hb1).mono ?_
    rintro e w2 ⟨v2, rfl, hv2, hb2⟩
    have HV2 := Lib.hid hv2
    have HB2 := Lib.hid (below_call hb1 hb2)
    have HV3 := Lib.hid (HV1.out.call hb2)
    clear hv2 hb1 hb2
    go_wp2_with fail
    refine (HS.out _ _ _ _ HV3.out HV2.out).mono ?_
    rintro e w3 ⟨rfl, n3, rfl⟩
    obtain ⟨w3, hw3⟩ : ∃ w3, w2.drewN n3 = w3 := ⟨_, rfl⟩
    have HB3 : Hid (Below w.heap.size w w3) := by rw [← hw3]; exact below_drewN' HB2.out _
    have HV4 : Hid (ItmsAt w3 (.slice A1 xs.length c1) xs) := by rw [← hw3]; exact HV3.out.call (below_drewN' (Below.refl _ _) _)
    rw [hw3]
    clear hw3 HV2 HV3 HV1 HB2
    go_wp2_with fail
    go_loopg [7] xs.length (fun gg s7 wr => ∃ kk m : Nat, kk ≤ xs.length ∧ xs.length - kk ≤ gg ∧ s7 = i kk ∧ wr = w3.drewN m)
    case atStart => exact ⟨0, 0, Nat.zero_le _, by omega, rfl, rfl⟩
    case round =>
      obtain ⟨kk, m, hkk, hg, rfl, rfl⟩ := hrel
      by_cases hlt : kk < xs.length
      · have hltz : (kk : Int) < (xs.length : Int) := by omega
        have hk0 : (0 : Int) ≤ (kk : Int) := by omega
        obtain ⟨b, off, rfl, _, _, hrow⟩ := ItmsAt.at_ HV4.out hlt
        obtain ⟨l1, l2, l3, l4, l5, l6, l7⟩ := hrow w3 (Kept.refl _)
        clear hrow
        obtain ⟨g1, g2, g3, g4⟩ := HG.out xs[kk] (List.getElem_mem hlt)
        generalize xs[kk] = y at *
        obtain ⟨k0, p0, t0, q0, n0, vt, gr⟩ := y
        simp only at *
        subst g1
        unfold I64 at g4
        have d1 : (n0 + vt != n0 + vt) = false := by simp
        have d2 : decide (vt < 0) = false := decide_eq_false (by omega)
        have d3 : decide (n0 < vt) = false := decide_eq_false (by omega)
        go_wp2_with fail
        go_quiet (fail)
        go_wp2_with fail
        go_roundg (xs.length - (kk + 1))
        case measure => omega
        case rel => exact ⟨kk + 1, m + nq, by omega, by omega, by go_num, rfl⟩
      · have hltz : ¬ (kk : Int) < (xs.length : Int) := by omega
        go_wp2_with fail
        refine (HW.out _).mono ?_
        rintro e w4 ⟨rfl, hb4⟩
        go_wp2_with fail
        go_ret
        exact ⟨rfl, below_call (below_drewN' HB3.out _) hb4⟩
end MonW
end Go.Proofs.Ytpgpibojegjogaa
