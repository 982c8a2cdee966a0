/-
  The walks of the statements TaxNegates and TaxTotals.
-/
import Derived.Test.YtpgpibojegjogaaTaxE
namespace Go.Proofs.Ytpgpibojegjogaa
namespace MonW
set_option linter.unusedSimpArgs false
set_option linter.unusedVariables false
open Go.RowKit Go.ChangeShapes Go.WideShapes Go.Deep

section
variable {H : Type} {enc : TypeId × Value → H} {w : World} {r : Reach} {b0 base : Nat} {spare : Nat → Bool} {held : Bool} {v : Value} {d : DataW H} {p : List MemPlace}
theorem arg_itms (hv : Value.okWide Try.prog w r b0 24 v) (h : DataW.Trod enc Try.prog w base spare held 24 v d p) : ∃ ts : List Itm, ItmsAt w v ts := by
  obtain ⟨a, l, c, rfl⟩ := okWide_slice Try.underlying24 hv
  obtain ⟨fuel, hf⟩ := h
  obtain ⟨v', xs, e, h1⟩ := open_itms hf
  have e' : v' = .slice a l c := by
    have : [Value.slice a l c] = [v'] := e
    simpa using this.symm
  subst e'
  exact ⟨xs, h1⟩
theorem arg_chgs (hv : Value.okWide Try.prog w r b0 22 v) (h : DataW.Trod enc Try.prog w base spare held 22 v d p) : ∃ ts : List Chg, ChgsAt w v ts := by
  obtain ⟨a, l, c, rfl⟩ := okWide_slice Try.underlying22 hv
  obtain ⟨fuel, hf⟩ := h
  obtain ⟨v', xs, e, h1⟩ := open_chgs hf
  have e' : v' = .slice a l c := by
    have : [Value.slice a l c] = [v'] := e
    simpa using this.symm
  subst e'
  exact ⟨xs, h1⟩
end

set_option maxHeartbeats 1000000 in
theorem law_negates (v : Value) (cs : List Itm) (w : World) (h : ItmsAt w v cs) : Calls Try.prog 6 #[v] w fun e w' => e = .returned (.bool true) ∧ Below w.heap.size w w' := by
  have HW := Lib.hid awake
  have HI := Lib.hid h
  obtain ⟨A, c, rfl, h1, h2⟩ := SliceAt.form h
  unfold maxLen at h2
  clear h
  by_cases hb : 70 < cs.length
  · have hbz : (70 : Int) < (cs.length : Int) := by omega
    go_enter Try.func6, Try.ntmps6
    go_wp2_with fail
    refine (HW.out _).mono ?_
    rintro e w1 ⟨rfl, hb1⟩
    go_wp2_with fail
    go_ret
    exact ⟨rfl, hb1⟩
  · have hbz : ¬ (70 : Int) < (cs.length : Int) := by omega
    have HN := Lib.hid (negate _ cs w HI.out (by omega))
    have HR := Lib.hid (fun (W : World) (hb : Below w.heap.size w W) => rnegate _ cs W (HI.out.call hb) (by omega))
    have HS := Lib.hid same
    go_enter Try.func6, Try.ntmps6
    go_wp2_with fail
    refine HN.out.mono ?_
    rintro e w1 ⟨v1, rfl, hv1, hb1⟩
    have HV1 := Lib.hid hv1
    clear hv1
    go_wp2_with fail
    refine (HR.out _ hb1).mono ?_
    rintro e w2 ⟨v2, rfl, hv2, hb2⟩
    have HV2 := Lib.hid hv2
    have HB2 := Lib.hid (below_call hb1 hb2)
    have HV3 := Lib.hid (HV1.out.call hb2)
    clear hv2 hb1 hb2
    go_wp2_with fail
    refine (HS.out _ _ _ _ HV3.out HV2.out).mono ?_
    rintro e w3 ⟨rfl, n3, rfl⟩
    go_wp2_with fail
    refine (HW.out _).mono ?_
    rintro e w4 ⟨rfl, hb4⟩
    go_wp2_with fail
    go_ret
    exact ⟨rfl, below_call (below_drewN' HB2.out _) hb4⟩

set_option maxHeartbeats 1000000 in
theorem law_totals (v : Value) (cs : List Itm) (w : World) (h : ItmsAt w v cs) : Calls Try.prog 4 #[v] w fun e w' => e = .returned (.bool true) ∧ Below w.heap.size w w' := by
  have HW := Lib.hid awake
  have HI := Lib.hid h
  obtain ⟨A, c, rfl, h1, h2⟩ := SliceAt.form h
  unfold maxLen at h2
  clear h
  by_cases hb : 70 < cs.length
  · have hbz : (70 : Int) < (cs.length : Int) := by omega
    go_enter Try.func4, Try.ntmps4
    go_wp2_with fail
    refine (HW.out _).mono ?_
    rintro e w1 ⟨rfl, hb1⟩
    go_wp2_with fail
    go_ret
    exact ⟨rfl, hb1⟩
  · have hbz : ¬ (70 : Int) < (cs.length : Int) := by omega
    have HN := Lib.hid (totals _ cs w HI.out (by omega))
    have HR := Lib.hid (fun (W : World) (hb : Below w.heap.size w W) => rtotals _ cs W (HI.out.call hb) (by omega))
    unfold totV at HN HR
    generalize totX cs (sNet cs) = a at *
    generalize totX cs (sVat cs) = b at *
    generalize totX cs (sGross cs) = d at *
    generalize totE cs = te at *
    go_enter Try.func4, Try.ntmps4
    go_wp2_with fail
    refine HN.out.mono ?_
    rintro e w1 ⟨rfl, hb1⟩
    go_wp2_with fail
    refine (HR.out _ hb1).mono ?_
    rintro e w2 ⟨rfl, hb2⟩
    have HB2 := Lib.hid (below_call hb1 hb2)
    clear hb1 hb2
    go_wp2_with fail
    refine (HW.out _).mono ?_
    rintro e w4 ⟨rfl, hb4⟩
    go_wp2_with fail
    go_ret
    exact ⟨rfl, below_call HB2.out hb4⟩
end MonW
end Go.Proofs.Ytpgpibojegjogaa
