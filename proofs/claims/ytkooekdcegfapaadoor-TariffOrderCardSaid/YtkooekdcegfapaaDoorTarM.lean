/-
  The walks of the statements TariffValid, TariffFree, TariffLimits.
-/
import Derived.Test.YtkooekdcegfapaaDoorTarL
namespace Go.Proofs.YtkooekdcegfapaaDoor
namespace TarW
set_option linter.unusedSimpArgs false
set_option linter.unusedVariables false
open Go.RowKit CalW

def FinE (u : Value) (es : List Elem) (W w' : World) : Prop := Tab w' ∧ ElemsAt w' u es ∧ Below W.heap.size W w'
theorem FinE.tab {u : Value} {es : List Elem} {W w' : World} (h : FinE u es W w') : Tab w' := h.1
theorem FinE.els {u : Value} {es : List Elem} {W w' : World} (h : FinE u es W w') : ElemsAt w' u es := h.2.1
theorem FinE.below {u : Value} {es : List Elem} {W w' : World} (h : FinE u es W w') : Below W.heap.size W w' := h.2.2

set_option maxRecDepth 100000 in
set_option maxHeartbeats 4000000 in
theorem law_valid (t : Trf) (u : Value) (w : World) (ht : Tab w) (he : ElemsAt w u t.els) (h1 : t.id.size ≤ maxLen) (h2 : t.cur.size ≤ maxLen) :
    Calls Tryd.prog 3 #[trfV t u] w fun e w' => e = .returned (.bool true) ∧ Below w.heap.size w w' := by
  obtain ⟨A, c, rfl, _, _⟩ := SliceAt.form he
  have hB := below_new w (.cells (trfA t (.slice A t.els.length c)) 26)
  have k0 := Blk.new w 26 (trfA t (.slice A t.els.length c))
  have hT := ht.below hB ht.lt
  have hE := he.call hB
  have HB := Lib.hid (fun W hx => big_ t (.slice A t.els.length c) W hx h1 h2)
  have HV : Hid (∀ W, ElemsAt W (.slice A t.els.length c) t.els → Calls Tryd.prog 12 #[trfV t (.slice A t.els.length c)] W fun r w' => r = .returned (i (validT t)) ∧ Below W.heap.size W w') := fun W hx => valid_ t _ W hx h1 h2
  have HR : Hid (∀ W, ElemsAt W (.slice A t.els.length c) t.els → Calls Tryd.prog 13 #[trfV t (.slice A t.els.length c)] W fun r w' => r = .returned (i (validT t)) ∧ Below W.heap.size W w') := fun W hx => rvalid_ t _ W hx h1 h2
  generalize validT t = V at *
  clear ht he h1 h2
  go_enter Tryd.func3, Tryd.ntmps3
  go_wp2_with fail
  refine (HB.out _ hE).mono ?_
  rintro e w1 ⟨rfl, hb1⟩
  have hB1 := below_call hB hb1
  have k1 := k0.call hb1
  have hT1 := hT.below hb1 hT.lt
  have hE1 := hE.call hb1
  clear hB hb1 k0 hT hE HB
  cases hbig : bigT t with
  | true =>
    clear hbig
    go_wp2_with fail
    refine (example_holds _ hT1).mono ?_
    rintro e w2 ⟨rfl, hb2⟩
    go_wp2_with fail
    go_ret
    exact ⟨rfl, below_call hB1 hb2⟩
  | false =>
    clear hbig
    go_wp2_with fail
    have hS : ∀ w', Below w1.heap.size w1 w' → (∀ o, w'.cell? ⟨w.heap.size, o, none⟩ = (trfA t (.slice A t.els.length c))[o]?) ∧ FinE (.slice A t.els.length c) t.els w1 w' :=
      fun w' hb => ⟨(k1.call hb).cell, hT1.below hb hT1.lt, hE1.call hb, hb⟩
    have HS := Lib.hid hS
    clear hS k1 hT1 hE1
    go_region_held3 (fun w' => (∀ o, w'.cell? ⟨w.heap.size, o, none⟩ = (trfA t (.slice A t.els.length c))[o]?) ∧ FinE (.slice A t.els.length c) t.els w1 w')
      (first | exact HS.out _ (below_drewN' (Below.refl _ _) _) | exact HS.out _ (Below.drew (Below.refl _ _)) | (go_split_ands; exact HS.out _ (below_call (FinE.below (W := w1) (by assumption)) hbx)))
      (first | (go_at_call 12; go_split_ands; refine (HV.out _ (FinE.els (W := w1) (by assumption))).mono ?_; rintro e wx ⟨rfl, hbx⟩) | (go_at_call 13; go_split_ands; refine (HR.out _ (FinE.els (W := w1) (by assumption))).mono ?_; rintro e wx ⟨rfl, hbx⟩) | (go_at_call 11; go_split_ands; refine (example_holds _ (FinE.tab (W := w1) (by assumption))).mono ?_; rintro e wx ⟨rfl, hbx⟩))
    go_split_ands
    have hfin := FinE.below (W := w1) (w' := wx) (by assumption)
    go_wp2_with fail
    go_ret
    exact ⟨rfl, below_call hB1 hfin⟩

def outB (lo x hi : Int) : Bool := decide (lo ≠ -1 ∧ hi ≠ -1 ∧ (x < lo ∨ hi ≤ x))
theorem outB_bnd {lo x hi : Int} (h : outB lo x hi = true) : Tar.bnd x lo hi = false := by
  have := of_decide_eq_true h
  unfold Tar.bnd
  simp only [Bool.and_eq_false_iff, Bool.or_eq_false_iff, decide_eq_false_iff_not]
  omega
set_option maxHeartbeats 800000 in
theorem lout (lo x hi : Int) (w : World) {b : Bool} (hb : outB lo x hi = b) :
    Calls Tryd.prog 22 #[i lo, i x, i hi] w fun e w' => e = .returned (.bool b) ∧ w = w' := by
  subst hb
  cases h1 : (lo != -1) <;> cases h2 : (hi != -1)
  all_goals
    have H1 := Lib.hid h1
    have H2 := Lib.hid h2
    go_enter Tryd.func22, Tryd.ntmps22
    go_wp2
    all_goals go_ret
    all_goals
      refine ⟨retB ?_, rfl⟩
      go_light
      have h1 := H1.out
      have h2 := H2.out
      clear H1 H2
      unfold outB
      rw [Bool.eq_iff_iff]
      simp_all
  all_goals omega

theorem hold_bnd {x : Tar.Wh} {c : Cs} (h : Tar.bnd c.a x.f x.t = false ∨ Tar.bnd c.en x.e0 x.e1 = false ∨ Tar.bnd c.po x.p0 x.p1 = false ∨ Tar.bnd c.since x.t0 x.t1 = false) : hold x c = false := by
  unfold hold Tar.holds
  rcases h with h | h | h | h <;> rw [h] <;> simp
def limOut (x : Tar.Wh) (c : Cs) : Bool := outB x.e0 c.en x.e1 || (outB x.p0 c.po x.p1 || (outB x.t0 c.since x.t1 || outB x.f c.a x.t))
theorem limOut_hold {x : Tar.Wh} {c : Cs} (h : limOut x c = true) : hold x c = false := by
  unfold limOut at h
  simp only [Bool.or_eq_true] at h
  rcases h with h | h | h | h
  · exact hold_bnd (.inr (.inl (outB_bnd h)))
  · exact hold_bnd (.inr (.inr (.inl (outB_bnd h))))
  · exact hold_bnd (.inr (.inr (.inr (outB_bnd h))))
  · exact hold_bnd (.inl (outB_bnd h))

set_option maxRecDepth 100000 in
set_option maxHeartbeats 4000000 in
theorem law_limits (x : Tar.Wh) (c : Cs) (w : World) (ht : Tab w) :
    Calls Tryd.prog 8 #[.agg (wh x), .agg (caseA c)] w fun e w' => e = .returned (.bool true) ∧ Below w.heap.size w w' := by
  have hB := below_alloc (below_new w (.cells (wh x) 32)) (.cells (caseA c) 36)
  have hT := ht.below hB ht.lt
  clear ht
  have k0 := (Blk.new w 32 (wh x)).alloc (.cells (caseA c) 36)
  have k1 := Blk.newG (w := w.alloc (.cells (wh x) 32)) (g := w.heap.size + 1) (by simp) 36 (caseA c)
  have c0 := k0.cell
  have c1 := k1.cell
  go_enter Tryd.func8, Tryd.ntmps8
  go_upto_region 1 with (fail)
  generalize (w.alloc (.cells (wh x) 32)).alloc (.cells (caseA c) 36) = W at *
  generalize w.heap.size + 1 = g1 at *
  go_cut [38] (fun s38 wc => s38 = .bool (limOut x c) ∧ wc = W)
  case first =>
    go_wp2_with (go_at_call 22; refine (lout _ _ _ _ rfl).mono ?_; rintro e w' ⟨rfl, rfl⟩)
    all_goals go_meet
    all_goals
      refine ⟨congrArg Value.bool ?_, rfl⟩
      go_light
      clear c0 c1 k0 k1 hT hB
      unfold limOut
      simp_all
  case rest =>
    obtain ⟨rfl, rfl⟩ := hcut
    cases hl : limOut x c with
    | true =>
      have HH := Lib.hid (limOut_hold hl)
      clear hl
      go_wp2_with fail
      refine (lholds x c _ hT HH.out).mono ?_
      rintro e w2 ⟨rfl, hb2⟩
      go_wp2_with fail
      go_ret
      exact ⟨rfl, below_call hB hb2⟩
    | false =>
      clear hl
      go_wp2_with fail
      refine (example_holds _ hT).mono ?_
      rintro e w2 ⟨rfl, hb2⟩
      go_wp2_with fail
      go_ret
      exact ⟨rfl, below_call hB hb2⟩

theorem free_out {c : Cs} (h : ¬ (-840 ≤ c.z ∧ c.z ≤ 840 ∧ 0 ≤ c.a ∧ c.a ≤ 268435456)) : hold freeW c = false := holds_out freeW c.z c.s c.a c.since c.en c.po h
theorem free_in {c : Cs} {m : Int} (h : -840 ≤ c.z ∧ c.z ≤ 840 ∧ 0 ≤ c.a ∧ c.a ≤ 268435456) : hold ⟨m, m, 0, -1, -1, -1, -1, -1, -1, -1, -1⟩ c = true := by
  unfold hold
  rw [holds_in _ c.z c.s c.a c.since c.en c.po h, hours_eq _ _ _ rfl]
  have e : ∀ v, Tar.onW 0 v = true := fun v => by
    unfold Tar.onW
    rw [show Tar.dset 0 = 0 by decide]
    exact onD_zero _
  rw [e]
  rfl

set_option maxRecDepth 100000 in
set_option maxHeartbeats 4000000 in
theorem law_free (c : Cs) (m : Int) (w : World) (ht : Tab w) :
    Calls Tryd.prog 6 #[.agg (caseA c), i m] w fun e w' => e = .returned (.bool true) ∧ Below w.heap.size w w' := by
  have hB := below_new w (.cells (caseA c) 36)
  have hT := ht.below hB ht.lt
  clear ht
  have k0 := Blk.new w 36 (caseA c)
  have c0 := k0.cell
  by_cases h : -840 ≤ c.z ∧ c.z ≤ 840 ∧ 0 ≤ c.a ∧ c.a ≤ 268435456
  · have HH := Lib.hid (free_in (m := m) h)
    obtain ⟨q1, q2, q3, q4⟩ := h
    go_enter Tryd.func6, Tryd.ntmps6
    go_wp2_with fail
    refine (free_ _).mono ?_
    rintro e w1 ⟨rfl, rfl⟩
    go_wp2_with fail
    refine (lholds ⟨m, m, 0, -1, -1, -1, -1, -1, -1, -1, -1⟩ c _ ((hT.alloc _).alloc _) HH.out).mono ?_
    rintro e w2 ⟨rfl, hb2⟩
    go_wp2_with fail
    go_ret
    exact ⟨rfl, below_call (below_alloc (below_alloc hB _) _) hb2⟩
  · have HL : Hid (∀ W, Tab W → Calls Tryd.prog 14 #[.agg freeA, .agg (caseA c)] W fun e w' => e = .returned (.bool false) ∧ Below W.heap.size W w') := fun W hx => lholds freeW c W hx (free_out h)
    have HF : Hid (∀ W, Calls Tryd.prog 18 #[] W fun e w' => e = .returned (.agg freeA) ∧ Below W.heap.size W w') := fun W => (free_ W).mono fun _ _ ⟨he, hw⟩ => ⟨he, by rw [hw]; exact below_new _ _⟩
    go_enter Tryd.func6, Tryd.ntmps6
    go_upto_region 1 with (fail)
    generalize w.alloc (.cells (caseA c) 36) = W at *
    go_cut [25] (fun s25 wc => s25 = .bool true ∧ wc = W)
    case first =>
      go_wp2_with fail
      all_goals go_meet
      all_goals
        refine ⟨congrArg Value.bool ?_, rfl⟩
        go_light
        clear c0 k0 hT hB HL HF
        simp_all
      all_goals omega
    case rest =>
      obtain ⟨rfl, rfl⟩ := hcut
      have hS : ∀ w', Below wc.heap.size wc w' → (∀ o, w'.cell? ⟨w.heap.size, o, none⟩ = (caseA c)[o]?) ∧ FinT wc w' :=
        fun w' hb => ⟨(k0.call hb).cell, hT.below hb hT.lt, hb⟩
      have HS := Lib.hid hS
      clear hS k0 hT c0
      go_wp2_with fail
      go_region_held3 (fun w' => (∀ o, w'.cell? ⟨w.heap.size, o, none⟩ = (caseA c)[o]?) ∧ FinT wc w')
        (first | exact HS.out _ (below_drewN' (Below.refl _ _) _) | exact HS.out _ (Below.drew (Below.refl _ _)) | (go_split_ands; exact HS.out _ (below_call (FinT.below (W := wc) (by assumption)) hbx)))
        (first | (go_at_call 14; go_split_ands; refine (HL.out _ (FinT.tab (W := wc) (by assumption))).mono ?_; rintro e wx ⟨rfl, hbx⟩) | (go_at_call 18; refine (HF.out _).mono ?_; rintro e wx ⟨rfl, hbx⟩) | (go_at_call 11; go_split_ands; refine (example_holds _ (FinT.tab (W := wc) (by assumption))).mono ?_; rintro e wx ⟨rfl, hbx⟩))
      go_split_ands
      have hfin := FinT.below (W := wc) (w' := wx) (by assumption)
      go_wp2_with fail
      go_ret
      exact ⟨rfl, below_call hB hfin⟩
end TarW
end Go.Proofs.YtkooekdcegfapaaDoor
