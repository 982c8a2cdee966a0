/-
  The walk of the reference's Net.
-/
import Derived.Test.YtndlhhiifmjieaaDoorTaxN
namespace Go.Proofs.YtndlhhiifmjieaaDoor
namespace MonW
set_option linter.unusedSimpArgs false
set_option linter.unusedVariables false
open Go.RowKit

theorem rin_yes (x a b : Int) (h : a ≤ x ∧ x ≤ b) (w : World) : Calls Tryd.prog 29 #[i x, i a, i b] w fun e w' => e = .returned (.bool true) ∧ w = w' := by
  have := rin x a b w
  rw [decide_eq_true h] at this
  exact this
theorem rin_no (x a b : Int) (h : ¬ (a ≤ x ∧ x ≤ b)) (w : World) : Calls Tryd.prog 29 #[i x, i a, i b] w fun e w' => e = .returned (.bool false) ∧ w = w' := by
  have := rin x a b w
  rw [decide_eq_false h] at this
  exact this

theorem validC_split (c : Chg) : (validC c = true ∧ (1 ≤ c.kind ∧ c.kind ≤ 4) ∧ (0 ≤ c.price ∧ c.price ≤ 1073741824) ∧ (0 ≤ c.tax ∧ c.tax ≤ 10000) ∧ (0 ≤ c.qty ∧ c.qty ≤ 35184372088832)) ∨
    (validC c = false ∧ ((¬ (1 ≤ c.kind ∧ c.kind ≤ 4)) ∨ ((1 ≤ c.kind ∧ c.kind ≤ 4) ∧ ¬ (0 ≤ c.price ∧ c.price ≤ 1073741824)) ∨ ((1 ≤ c.kind ∧ c.kind ≤ 4) ∧ (0 ≤ c.price ∧ c.price ≤ 1073741824) ∧ ¬ (0 ≤ c.tax ∧ c.tax ≤ 10000)) ∨ ((1 ≤ c.kind ∧ c.kind ≤ 4) ∧ (0 ≤ c.price ∧ c.price ≤ 1073741824) ∧ (0 ≤ c.tax ∧ c.tax ≤ 10000) ∧ ¬ (0 ≤ c.qty ∧ c.qty ≤ 35184372088832)))) := by
  unfold validC
  by_cases h : 1 ≤ c.kind ∧ c.kind ≤ 4 ∧ 0 ≤ c.price ∧ c.price ≤ 1073741824 ∧ 0 ≤ c.tax ∧ c.tax ≤ 10000 ∧ 0 ≤ c.qty ∧ c.qty ≤ 35184372088832
  · exact .inl ⟨decide_eq_true h, by omega⟩
  · exact .inr ⟨decide_eq_false h, by omega⟩

set_option maxHeartbeats 1000000 in
theorem rnet (c : Chg) (w : World) (hc : c.ok) : Calls Tryd.prog 14 #[chgV c] w fun e w' => e = .returned (.tuple #[i (netV c), i (netE c)]) ∧ Below w.heap.size w w' := by
  have HU := Lib.hid (fun W => runit c.kind W)
  have hK := Blk.new w 40 #[i c.kind, i c.price, i c.tax, i c.qty]
  have HK := Lib.hid hK
  clear hK
  have hB := below_new w (.cells #[i c.kind, i c.price, i c.tax, i c.qty] 40)
  have HB := Lib.hid hB
  clear hB
  obtain ⟨o1, o2, o3, o4⟩ := hc
  rcases validC_split c with ⟨hv, h1, h2, h3, h4⟩ | ⟨hv, h1 | ⟨h1, h2⟩ | ⟨h1, h2, h3⟩ | ⟨h1, h2, h3, h4⟩⟩
  · have H1 := Lib.hid (fun W => rin_yes c.kind 1 4 h1 W)
    have H2 := Lib.hid (fun W => rin_yes c.price 0 1073741824 h2 W)
    have H3 := Lib.hid (fun W => rin_yes c.tax 0 10000 h3 W)
    have H4 := Lib.hid (fun W => rin_yes c.qty 0 35184372088832 h4 W)
    have HN := Lib.hid (netYes hv)
    have HS := Lib.hid (fun W => rscale c.qty c.price (unitOf c.kind) (unit_dn (valid_kind hv)) W o4.1 o4.2 o2.1 o2.2)
    clear h1 h2 h3 h4 hv
    go_enter Tryd.func14, Tryd.ntmps14
    go_wp2_with fail
    refine (H1.out _).mono ?_
    rintro e w1 ⟨rfl, rfl⟩
    go_wp2_with fail
    refine (H2.out _).mono ?_
    rintro e w1 ⟨rfl, rfl⟩
    go_wp2_with fail
    refine (H3.out _).mono ?_
    rintro e w1 ⟨rfl, rfl⟩
    go_wp2_with fail
    refine (H4.out _).mono ?_
    rintro e w1 ⟨rfl, rfl⟩
    go_wp2_with fail
    go_quiet ((first | (go_at_call 16; exact Calls.quiet_of (HU.out _)) | (go_at_call 30; exact Calls.quiet_of (HS.out _))))
    go_wp2_with fail
    go_ret2
    exact ⟨ret2 ⟨HN.out.1.symm, HN.out.2.symm⟩, below_drewN' HB.out _⟩
  · have H1 := Lib.hid (fun W => rin_no c.kind 1 4 h1 W)
    have HN := Lib.hid (netNo hv)
    clear h1 hv
    go_enter Tryd.func14, Tryd.ntmps14
    go_wp2_with fail
    refine (H1.out _).mono ?_
    rintro e w1 ⟨rfl, rfl⟩
    go_wp2_with fail
    go_ret2
    exact ⟨ret2 ⟨HN.out.1.symm, HN.out.2.symm⟩, HB.out⟩
  · have H1 := Lib.hid (fun W => rin_yes c.kind 1 4 h1 W)
    have H2 := Lib.hid (fun W => rin_no c.price 0 1073741824 h2 W)
    have HN := Lib.hid (netNo hv)
    clear h1 h2 hv
    go_enter Tryd.func14, Tryd.ntmps14
    go_wp2_with fail
    refine (H1.out _).mono ?_
    rintro e w1 ⟨rfl, rfl⟩
    go_wp2_with fail
    refine (H2.out _).mono ?_
    rintro e w1 ⟨rfl, rfl⟩
    go_wp2_with fail
    go_ret2
    exact ⟨ret2 ⟨HN.out.1.symm, HN.out.2.symm⟩, HB.out⟩
  · have H1 := Lib.hid (fun W => rin_yes c.kind 1 4 h1 W)
    have H2 := Lib.hid (fun W => rin_yes c.price 0 1073741824 h2 W)
    have H3 := Lib.hid (fun W => rin_no c.tax 0 10000 h3 W)
    have HN := Lib.hid (netNo hv)
    clear h1 h2 h3 hv
    go_enter Tryd.func14, Tryd.ntmps14
    go_wp2_with fail
    refine (H1.out _).mono ?_
    rintro e w1 ⟨rfl, rfl⟩
    go_wp2_with fail
    refine (H2.out _).mono ?_
    rintro e w1 ⟨rfl, rfl⟩
    go_wp2_with fail
    refine (H3.out _).mono ?_
    rintro e w1 ⟨rfl, rfl⟩
    go_wp2_with fail
    go_ret2
    exact ⟨ret2 ⟨HN.out.1.symm, HN.out.2.symm⟩, HB.out⟩
  · have H1 := Lib.hid (fun W => rin_yes c.kind 1 4 h1 W)
    have H2 := Lib.hid (fun W => rin_yes c.price 0 1073741824 h2 W)
    have H3 := Lib.hid (fun W => rin_yes c.tax 0 10000 h3 W)
    have H4 := Lib.hid (fun W => rin_no c.qty 0 35184372088832 h4 W)
    have HN := Lib.hid (netNo hv)
    clear h1 h2 h3 h4 hv
    go_enter Tryd.func14, Tryd.ntmps14
    go_wp2_with fail
    refine (H1.out _).mono ?_
    rintro e w1 ⟨rfl, rfl⟩
    go_wp2_with fail
    refine (H2.out _).mono ?_
    rintro e w1 ⟨rfl, rfl⟩
    go_wp2_with fail
    refine (H3.out _).mono ?_
    rintro e w1 ⟨rfl, rfl⟩
    go_wp2_with fail
    refine (H4.out _).mono ?_
    rintro e w1 ⟨rfl, rfl⟩
    go_wp2_with fail
    go_ret2
    exact ⟨ret2 ⟨HN.out.1.symm, HN.out.2.symm⟩, HB.out⟩
end MonW
end Go.Proofs.YtndlhhiifmjieaaDoor
