/-
  The examples of the chapter: charges and awake.
-/
import Derived.Test.YtpgpibojegjogaaTaxC
namespace Go.Proofs.Ytpgpibojegjogaa
namespace MonW
set_option linter.unusedSimpArgs false
set_option linter.unusedVariables false
open Go.RowKit

def exC : List Chg := [⟨2, 300, 1900, 1260000⟩, ⟨4, 2000, 0, 30⟩]
def exI : List Itm := [⟨2, 300, 1900, 1260000, 6300, 1197, 7497⟩, ⟨4, 2000, 0, 30, 1000, 0, 1000⟩]
theorem ex_items : allE exC = 0 ∧ allV exC = exI := by decide +kernel
theorem ex_totals : totV exI = .tuple #[i 7300, i 1197, i 8497, i 0] := by
  have h : totOk exI = true := by decide +kernel
  rw [totYes h]
  have h1 : sNet exI = 7300 := by decide +kernel
  have h2 : sVat exI = 1197 := by decide +kernel
  have h3 : sGross exI = 8497 := by decide +kernel
  rw [h1, h2, h3]
theorem ex_adjust : adj exI (-1) 7000 = ([⟨2, 300, 1900, 1260000, 6300, 1197, 7497⟩, ⟨4, 2000, 0, 30, 1000, 0, 1000⟩, ⟨1, -300, 1900, 1, -300, -57, -357⟩], 0) := by decide +kernel
theorem ex_range : adj [] 5 4 = ([], 2) := by decide +kernel
theorem ex_negate : exI.map ngi = [⟨2, -300, 1900, 1260000, -6300, -1197, -7497⟩, ⟨4, -2000, 0, 30, -1000, 0, -1000⟩] := by decide +kernel

theorem exC_at (w : World) (t : TypeId) : ChgsAt (w.alloc (.cells #[i 2, i 300, i 1900, i 1260000, i 4, i 2000, i 0, i 30] t)) (.slice (some ⟨w.heap.size, 0, none⟩) 2 2) exC := by
  have hk := Blk.new w t #[i 2, i 300, i 1900, i 1260000, i 4, i 2000, i 0, i 30]
  refine ⟨some ⟨w.heap.size, 0, none⟩, 2, rfl, Nat.le_refl _, by unfold maxLen; omega, (fun h => by cases h), fun j x hx => ?_⟩
  match j, hx with
  | 0, hx =>
    have e : (⟨2, 300, 1900, 1260000⟩ : Chg) = x := by simpa [exC] using hx
    subst e
    refine ⟨w.heap.size, 0, _, rfl, rfl, ⟨rfl, by unfold Chg.ok I64; decide⟩, fun o u hu => ?_⟩
    match o, hu with
    | 0, hu => rw [hk.cell]; simpa [chgL] using hu
    | 1, hu => rw [hk.cell]; simpa [chgL] using hu
    | 2, hu => rw [hk.cell]; simpa [chgL] using hu
    | 3, hu => rw [hk.cell]; simpa [chgL] using hu
  | 1, hx =>
    have e : (⟨4, 2000, 0, 30⟩ : Chg) = x := by simpa [exC] using hx
    subst e
    refine ⟨w.heap.size, 0, _, rfl, rfl, ⟨rfl, by unfold Chg.ok I64; decide⟩, fun o u hu => ?_⟩
    match o, hu with
    | 0, hu => rw [hk.cell]; simpa [chgL] using hu
    | 1, hu => rw [hk.cell]; simpa [chgL] using hu
    | 2, hu => rw [hk.cell]; simpa [chgL] using hu
    | 3, hu => rw [hk.cell]; simpa [chgL] using hu

def ChgPost (w : World) (e : Ending) (w' : World) : Prop := ∃ v, e = .returned v ∧ ChgsAt w' v exC ∧ Below w.heap.size w w'
theorem charges (w : World) : Calls Try.prog 16 #[] w (ChgPost w) := by
  go_enter Try.func16, Try.ntmps16
  go_wp2
  go_ret
  exact ⟨_, rfl, exC_at w _, below_new _ _⟩

set_option maxRecDepth 100000 in
set_option maxHeartbeats 4000000 in
theorem awake (w : World) : Calls Try.prog 7 #[] w fun e w' => e = .returned (.bool true) ∧ Below w.heap.size w w' := by
  have HC := Lib.hid charges
  have HI := Lib.hid items
  have HT := Lib.hid totals
  have HA := Lib.hid adjust
  have HN := Lib.hid negate
  go_enter Try.func7, Try.ntmps7
  go_wp2_with fail
  refine (HC.out _).mono ?_
  rintro e w1 ⟨v1, rfl, hv1, hb1⟩
  go_wp2_with fail
  refine (HI.out v1 exC w1 hv1).mono ?_
  rintro e w2 ⟨v2, rfl, hv2, hb2⟩
  rw [ex_items.2] at hv2
  rw [ex_items.1]
  have hb3 := below_call hb1 hb2
  have HV2 := Lib.hid hv2
  obtain ⟨A2, c2, rfl, _, h2⟩ := SliceAt.form hv2
  obtain ⟨b, off, rfl, hbl, _, hr0⟩ := ItmsAt.at_ (j := 0) HV2.out (by decide)
  obtain ⟨b', off', hA, _, _, hr1⟩ := ItmsAt.at_ (j := 1) HV2.out (by decide)
  injection hA with hA
  injection hA with hA1 hA2
  subst hA1; subst hA2
  have k0 := hr0 w2 (Kept.refl _)
  have k1 := hr1 w2 (Kept.refl _)
  simp only [exI, List.getElem_cons_zero, List.getElem_cons_succ, Nat.zero_mul, Nat.add_zero, Nat.one_mul] at k0 k1
  obtain ⟨l1, l2, l3, l4, l5, l6, l7⟩ := k0
  obtain ⟨m1, m2, m3, m4, m5, m6, m7⟩ := k1
  clear hr0 hr1 hv1 hv2 hb1 hb2
  have HB3 := Lib.hid hb3
  clear hb3
  have e2 : exI.length = 2 := rfl
  rw [e2]
  go_wp2_with fail
  refine (HT.out _ exI w2 HV2.out (by decide)).mono ?_
  rintro e w3 ⟨rfl, hb4⟩
  rw [ex_totals]
  have HB4 := Lib.hid (below_call HB3.out hb4)
  have HI3 := Lib.hid (HV2.out.call hb4)
  clear l1 l2 l3 l4 l5 l6 l7 m1 m2 m3 m4 m5 m6 m7 hb4
  go_wp2_with fail
  refine (HA.out _ exI (-1) 7000 w3 HI3.out (by decide) (by unfold I64; omega) (by unfold I64; omega)).mono ?_
  rintro e w4 ⟨v4, rfl, hv4, hb5⟩
  rw [ex_adjust] at hv4 ⊢
  obtain ⟨A4, c4, rfl, _, h4⟩ := SliceAt.form hv4
  have HV4 := Lib.hid hv4
  have HB5 := Lib.hid (below_call HB4.out hb5)
  have HI4 := Lib.hid (HI3.out.call hb5)
  clear hv4 hb5
  go_wp2_with fail
  refine (HN.out _ exI w4 HI4.out (by decide)).mono ?_
  rintro e w5 ⟨v5, rfl, hv5, hb6⟩
  rw [ex_negate] at hv5
  obtain ⟨A5, c5, rfl, _, h5⟩ := SliceAt.form hv5
  have HV5 := Lib.hid hv5
  have HB6 := Lib.hid (below_call HB5.out hb6)
  have HV46 := Lib.hid (HV4.out.call hb6)
  clear hv5 hb6
  go_wp2_with fail
  refine (HA.out (.slice none 0 0) [] 5 4 w5 SliceAt.nil (by decide) (by unfold I64; omega) (by unfold I64; omega)).mono ?_
  rintro e w6 ⟨v6, rfl, hv6, hb7⟩
  rw [ex_range] at hv6 ⊢
  obtain ⟨A6, c6, rfl, _, h6⟩ := SliceAt.form hv6
  have HB7 := Lib.hid (below_call HB6.out hb7)
  obtain ⟨b4, off4, hA4, _, _, hr4⟩ := ItmsAt.at_ (j := 2) HV46.out (by simp)
  obtain ⟨b5, off5, hA5, _, _, hr5⟩ := ItmsAt.at_ (j := 0) HV5.out (by simp)
  subst hA4
  subst hA5
  have k4 := hr4 w6 (Kept.of hb7)
  have k5 := hr5 w6 (Kept.of hb7)
  simp only [List.getElem_cons_zero, List.getElem_cons_succ, Nat.zero_mul, Nat.add_zero] at k4 k5
  obtain ⟨_, _, _, _, l5, l6, l7⟩ := k4
  obtain ⟨_, _, _, _, m5, m6, m7⟩ := k5
  unfold maxLen at h4 h5
  clear hv6 hb7 hr4 hr5
  simp only [List.length_cons, List.length_nil] at *
  go_wp2_with fail
  go_ret
  exact ⟨rfl, HB7.out⟩
end MonW
end Go.Proofs.Ytpgpibojegjogaa
