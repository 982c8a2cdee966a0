/-
  The walks of one charge's net amount: price.Net and the reference's Net.
-/
import Derived.Test.YtndlhhiifmjieaaDoorTaxW
import Derived.Deep.RegionHeld3
namespace Go.Proofs.YtndlhhiifmjieaaDoor
namespace MonW
set_option linter.unusedSimpArgs false
set_option linter.unusedVariables false
open Go.RowKit

set_option maxHeartbeats 1000000 in
theorem valid (c : Chg) (w : World) : Calls Tryd.prog 27 #[chgV c] w fun e w' => e = .returned (.bool (validC c)) ∧ Below w.heap.size w w' := by
  obtain ⟨k, p, t, q⟩ := c
  go_enter Tryd.func27, Tryd.ntmps27
  go_wp2
  all_goals go_ret
  all_goals refine ⟨?_, below_new _ _⟩
  all_goals refine retB' ?_
  all_goals unfold validC
  all_goals first | (symm; exact decide_eq_false (by simp only at *; omega)) | exact decide_eq_decide.2 (by simp only at *; omega) | (symm; exact decide_eq_false (by omega)) | exact decide_eq_decide.2 (by omega)

set_option maxHeartbeats 400000 in
theorem rin (x a b : Int) (w : World) : Calls Tryd.prog 29 #[i x, i a, i b] w fun e w' => e = .returned (.bool (decide (a ≤ x ∧ x ≤ b))) ∧ w = w' := by
  by_cases h1 : a ≤ x <;> by_cases h2 : x ≤ b
  all_goals
    go_enter Tryd.func29, Tryd.ntmps29
    go_wp2
    go_ret
    exact ⟨retB' (by simp [h1, h2]), rfl⟩

theorem below_draw {B : Nat} {a w w' : World} (h : Below B a w) (hw : ∃ n, w' = w.drewN n) : Below B a w' := by
  obtain ⟨n, rfl⟩ := hw
  exact below_drewN' h n
def FinB (W w' : World) : Prop := Below W.heap.size W w'
theorem FinB.below {W w' : World} (h : FinB W w') : Below W.heap.size W w' := h
theorem FinB.draw {W w w' : World} (h : FinB W w) (hw : ∃ n, w' = w.drewN n) : FinB W w' := below_draw h hw

theorem netNo {c : Chg} (h : validC c = false) : netV c = 0 ∧ netE c = 1 := by unfold netV netE; rw [h]; simp
theorem netYes {c : Chg} (h : validC c = true) : netV c = scV c.qty c.price (unitOf c.kind) ∧ netE c = scE c.qty c.price (unitOf c.kind) := by unfold netV netE; rw [h]; simp
theorem valid_kind {c : Chg} (h : validC c = true) : isKind c.kind = true := by
  have h := of_decide_eq_true h
  exact decide_eq_true ⟨h.1, h.2.1⟩
theorem scE_cases (a b : Int) (d : Nat) : (scE a b d = 0) ∨ (scE a b d = 20 ∧ scV a b d = 0) := by
  unfold scE scV
  cases scOk a b d <;> simp

set_option maxHeartbeats 1000000 in
theorem net (c : Chg) (w : World) (hc : c.ok) : Calls Tryd.prog 13 #[chgV c] w fun e w' => e = .returned (.tuple #[i (netV c), i (netE c)]) ∧ Below w.heap.size w w' := by
  have HV := Lib.hid (fun W => valid c W)
  have HU := Lib.hid (fun W => unit c.kind W)
  have HK := Lib.hid (Blk.new w 40 #[i c.kind, i c.price, i c.tax, i c.qty])
  have hB := below_new w (.cells #[i c.kind, i c.price, i c.tax, i c.qty] 40)
  obtain ⟨o1, o2, o3, o4⟩ := hc
  cases hv : validC c
  · rw [hv] at HV
    have HN := Lib.hid (netNo hv)
    clear hv
    go_enter Tryd.func13, Tryd.ntmps13
    go_wp2_with fail
    refine (HV.out _).mono ?_
    rintro e w1 ⟨rfl, hb1⟩
    go_wp2_with fail
    go_ret2
    exact ⟨ret2 ⟨HN.out.1.symm, HN.out.2.symm⟩, below_call hB hb1⟩
  · rw [hv] at HV
    have HN := Lib.hid (netYes hv)
    have HS := Lib.hid (fun W => scale c.qty c.price (unitOf c.kind) (unit_dn (valid_kind hv)) W o4.1 o4.2 o2.1 o2.2)
    clear hv
    rcases scE_cases c.qty c.price (unitOf c.kind) with he | ⟨he, hz⟩
    · rw [he] at HS HN
      clear he
      go_enter Tryd.func13, Tryd.ntmps13
      go_wp2_with fail
      refine (HV.out _).mono ?_
      rintro e w1 ⟨rfl, hb1⟩
      have hK := HK.out.call hb1
      have hS : ∀ w', Below w1.heap.size w1 w' → (∀ o, w'.cell? ⟨w.heap.size, o, none⟩ = (#[i c.kind, i c.price, i c.tax, i c.qty] : Array Value)[o]?) ∧ FinB w1 w' :=
        fun w' hb => ⟨(hK.call hb).cell, hb⟩
      have HSS := Lib.hid hS
      clear hS hK HK
      go_wp2_with fail
      go_region_held3 (fun w' => (∀ o, w'.cell? ⟨w.heap.size, o, none⟩ = (#[i c.kind, i c.price, i c.tax, i c.qty] : Array Value)[o]?) ∧ FinB w1 w')
        (first | exact HSS.out _ (below_drewN' (Below.refl _ _) _) | exact HSS.out _ (Below.drew (Below.refl _ _)) | exact HSS.out _ (Below.refl _ _) | (go_split_ands; exact HSS.out _ (FinB.draw (W := w1) (by assumption) hwx)))
        (first | (go_at_call 15; refine (HU.out _).mono ?_; rintro e wx ⟨rfl, hwx⟩) | (go_at_call 28; refine (HS.out _).mono ?_; rintro e wx ⟨rfl, hwx⟩))
      go_split_ands
      have hfin := FinB.below (W := w1) (w' := wx) (by assumption)
      go_wp2_with fail
      go_ret2
      exact ⟨ret2 ⟨HN.out.1.symm, HN.out.2.symm⟩, below_call (below_call hB hb1) hfin⟩
    · rw [he, hz] at HS HN
      clear he hz
      go_enter Tryd.func13, Tryd.ntmps13
      go_wp2_with fail
      refine (HV.out _).mono ?_
      rintro e w1 ⟨rfl, hb1⟩
      have hK := HK.out.call hb1
      have hS : ∀ w', Below w1.heap.size w1 w' → (∀ o, w'.cell? ⟨w.heap.size, o, none⟩ = (#[i c.kind, i c.price, i c.tax, i c.qty] : Array Value)[o]?) ∧ FinB w1 w' :=
        fun w' hb => ⟨(hK.call hb).cell, hb⟩
      have HSS := Lib.hid hS
      clear hS hK HK
      go_wp2_with fail
      go_region_held3 (fun w' => (∀ o, w'.cell? ⟨w.heap.size, o, none⟩ = (#[i c.kind, i c.price, i c.tax, i c.qty] : Array Value)[o]?) ∧ FinB w1 w')
        (first | exact HSS.out _ (below_drewN' (Below.refl _ _) _) | exact HSS.out _ (Below.drew (Below.refl _ _)) | exact HSS.out _ (Below.refl _ _) | (go_split_ands; exact HSS.out _ (FinB.draw (W := w1) (by assumption) hwx)))
        (first | (go_at_call 15; refine (HU.out _).mono ?_; rintro e wx ⟨rfl, hwx⟩) | (go_at_call 28; refine (HS.out _).mono ?_; rintro e wx ⟨rfl, hwx⟩))
      go_split_ands
      have hfin := FinB.below (W := w1) (w' := wx) (by assumption)
      go_wp2_with fail
      go_ret2
      exact ⟨ret2 ⟨HN.out.1.symm, HN.out.2.symm⟩, below_call (below_call hB hb1) hfin⟩
end MonW
end Go.Proofs.YtndlhhiifmjieaaDoor
