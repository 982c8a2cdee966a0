/-
  The walks of small and of the statements PriceUnits, PriceNets, PriceRuns.
-/
import Derived.Test.YtndlhhiifmjieaaDoorPriP
namespace Go.Proofs.YtndlhhiifmjieaaDoor
namespace PriW
set_option linter.unusedSimpArgs false
set_option linter.unusedVariables false
open Go.RowKit CalW TarW Prc

def SmPost (t : Trf) (us : List Prc.Use) (w : World) (e : Ending) (w' : World) : Prop := ∃ b, e = .returned (.bool b) ∧ (b = true → t.els.length ≤ 20 ∧ us.length ≤ 300) ∧ Below w.heap.size w w'
theorem SmPost.no {t : Trf} {us : List Prc.Use} {w w' : World} (h : Below w.heap.size w w') : SmPost t us w (.returned (.bool false)) w' := ⟨false, rfl, fun h => (Bool.noConfusion h), h⟩

set_option maxRecDepth 100000 in
set_option maxHeartbeats 1000000 in
theorem small (t : Trf) (u : Value) (c : Cx) (v : Value) (us : List Prc.Use) (w : World) (hE : ElemsAt w u t.els) (hU : UsesAt w v us) :
    Calls Tryd.prog 8 #[.agg (caseA t u c v)] w (SmPost t us w) := by
  obtain ⟨A, cp, rfl, h1, h2⟩ := SliceAt.form hU
  obtain ⟨A1, cp1, rfl, h3, h4⟩ := SliceAt.form hE
  unfold maxLen at h2 h4
  have HE := Lib.hid hE
  clear hE hU
  have HB := Lib.hid (below_new w (.cells (caseA t (.slice A1 t.els.length cp1) c (.slice A us.length cp)) 31))
  have hk := Blk.new w 31 (caseA t (.slice A1 t.els.length cp1) c (.slice A us.length cp))
  have kc := hk.cell
  clear hk
  go_enter Tryd.func8, Tryd.ntmps8
  go_upto_region 1 with (fail)
  generalize w.alloc (.cells (caseA t (.slice A1 t.els.length cp1) c (.slice A us.length cp)) 31) = w1 at *
  by_cases hl : 20 < t.els.length
  · have hlz : (20 : Int) < (t.els.length : Int) := by omega
    go_wp2_with fail
    go_ret
    exact SmPost.no HB.out
  · have hlz : ¬ (20 : Int) < (t.els.length : Int) := by omega
    by_cases hu : 300 < us.length
    · have huz : (300 : Int) < (us.length : Int) := by omega
      go_wp2_with fail
      go_ret
      exact SmPost.no HB.out
    · have huz : ¬ (300 : Int) < (us.length : Int) := by omega
      go_wp2_with fail
      go_loopg [19] t.els.length (fun gg s19 wr => ∃ kk : Nat, kk ≤ t.els.length ∧ t.els.length - kk ≤ gg ∧ s19 = i kk ∧ Hid (wr = w1))
      case atStart => exact ⟨0, Nat.zero_le _, by omega, rfl, rfl⟩
      case round =>
        obtain ⟨kk, hkk, hg, rfl, HW⟩ := hrel
        have hw := HW.out
        clear HW
        subst hw
        by_cases hlt : kk < t.els.length
        · have hltz : (kk : Int) < (t.els.length : Int) := by omega
          have hkz : (0 : Int) ≤ (kk : Int) := by omega
          obtain ⟨b, off, u1, rfl, _, hu1, hrow⟩ := ElemsAt.at_ HE.out hlt
          obtain ⟨l0, -⟩ := hrow wr (Kept.of HB.out)
          clear hrow
          obtain ⟨A2, c2, rfl, h5, h6⟩ := SliceAt.form hu1
          clear hu1
          by_cases h8 : 8 < t.els[kk].cs.length
          · have h8z : (8 : Int) < (t.els[kk].cs.length : Int) := by omega
            generalize t.els[kk] = y at *
            go_wp2_with fail
            go_ret
            exact SmPost.no HB.out
          · have h8z : ¬ (8 : Int) < (t.els[kk].cs.length : Int) := by omega
            generalize t.els[kk] = y at *
            go_wp2_with fail
            go_roundg (t.els.length - (kk + 1))
            case measure => omega
            case rel => exact ⟨kk + 1, by omega, by omega, by go_num, rfl⟩
        · have hltz : ¬ (kk : Int) < (t.els.length : Int) := by omega
          go_wp2_with fail
          go_ret
          exact ⟨true, rfl, fun _ => ⟨by omega, by omega⟩, HB.out⟩

def LawPost (w : World) (e : Ending) (w' : World) : Prop := e = .returned (.bool true) ∧ Below w.heap.size w w'

set_option maxRecDepth 100000 in
set_option maxHeartbeats 1000000 in
theorem law_units (k : Int) (w : World) (ht : Tab w) : Calls Tryd.prog 5 #[i k] w (LawPost w) := by
  have HT := Lib.hid ht
  have HU := Lib.hid (MonW.unit k)
  have HR := Lib.hid (MonW.runit k)
  clear ht
  generalize MonW.unitOf k = un at *
  go_enter Tryd.func5, Tryd.ntmps5
  go_wp2_with fail
  refine (HU.out _).mono ?_
  rintro e w1 ⟨rfl, n1, rfl⟩
  go_wp2_with fail
  refine (HR.out _).mono ?_
  rintro e w2 ⟨rfl, n2, rfl⟩
  go_wp2_with fail
  refine (example_holds _ (HT.out.drewN _)).mono ?_
  rintro e w3 ⟨rfl, hb3⟩
  go_wp2_with fail
  go_ret
  exact ⟨rfl, below_call (below_drewN' (Below.refl _ _) _) hb3⟩

set_option maxRecDepth 100000 in
set_option maxHeartbeats 1000000 in
theorem law_nets (c : MonW.Chg) (w : World) (ht : Tab w) (hc : c.ok) : Calls Tryd.prog 4 #[MonW.chgV c] w (LawPost w) := by
  have HT := Lib.hid ht
  have HU := Lib.hid (fun W => MonW.net c W hc)
  have HR := Lib.hid (fun W => MonW.rnet c W hc)
  clear ht hc
  generalize MonW.netV c = nv at *
  generalize MonW.netE c = ne at *
  have HB := Lib.hid (below_new w (.cells #[i c.kind, i c.price, i c.tax, i c.qty] 40))
  have hk := Blk.new w 40 #[i c.kind, i c.price, i c.tax, i c.qty]
  have HK := Lib.hid hk
  have kc := hk.cell
  clear hk
  go_enter Tryd.func4, Tryd.ntmps4
  go_upto_region 1 with (fail)
  generalize w.alloc (.cells #[i c.kind, i c.price, i c.tax, i c.qty] 40) = w0 at *
  go_wp2_with fail
  refine (HU.out _).mono ?_
  rintro e w1 ⟨rfl, hb1⟩
  have kc1 := (HK.out.call hb1).cell
  clear kc
  go_wp2_with fail
  refine (HR.out _).mono ?_
  rintro e w2 ⟨rfl, hb2⟩
  have HB2 := Lib.hid (below_call (below_call HB.out hb1) hb2)
  clear hb1 hb2 kc1
  go_wp2_with fail
  refine (example_holds _ (HT.out.below HB2.out HT.out.lt)).mono ?_
  rintro e w3 ⟨rfl, hb3⟩
  go_wp2_with fail
  go_ret
  exact ⟨rfl, below_call HB2.out hb3⟩

set_option maxRecDepth 100000 in
set_option maxHeartbeats 1000000 in
theorem law_runs (t : Trf) (u : Value) (c : Cx) (v : Value) (us : List Prc.Use) (w : World) (ht : Tab w) (hE : ElemsAt w u t.els) (hid : t.id.size ≤ maxLen) (hcur : t.cur.size ≤ maxLen) (hU : UsesAt w v us) :
    Calls Tryd.prog 3 #[.agg (caseA t u c v)] w (LawPost w) := by
  have hb0 := below_new w (.cells (caseA t u c v) 31)
  have HSM := Lib.hid (small t u c v us _ (hE.call hb0) (hU.call hb0))
  have HRUN := Lib.hid (fun W (hb : Below w.heap.size w W) => run t u c us v W (ht.below hb ht.lt) (hE.call hb) hid hcur (hU.call hb))
  have HRR := Lib.hid (fun W (hb : Below w.heap.size w W) => rrun t u c us v W (hE.call hb) hid hcur (hU.call hb))
  have HT := Lib.hid (fun W (hb : Below w.heap.size w W) => example_holds W (ht.below hb ht.lt))
  have HB := Lib.hid hb0
  have hk := Blk.new w 31 (caseA t u c v)
  have HK := Lib.hid hk
  have kc := hk.cell
  clear hk hb0 ht hE hid hcur hU
  go_enter Tryd.func3, Tryd.ntmps3
  go_upto_region 1 with (fail)
  generalize w.alloc (.cells (caseA t u c v) 31) = w0 at *
  go_wp2_with fail
  refine HSM.out.mono ?_
  rintro e w1 ⟨b, rfl, -, hb1⟩
  have HB1 := Lib.hid (below_call HB.out hb1)
  have HK1 := Lib.hid (HK.out.call hb1)
  have kc1 := HK1.out.cell
  clear kc hb1 HK
  cases b with
  | false =>
    go_wp2_with fail
    refine (HT.out _ HB1.out).mono ?_
    rintro e w2 ⟨rfl, hb2⟩
    go_wp2_with fail
    go_ret
    exact ⟨rfl, below_call HB1.out hb2⟩
  | true =>
    go_wp2_with fail
    refine (HRUN.out _ HB1.out).mono ?_
    rintro e w2 ⟨va, rfl, hva, hb2⟩
    have HB2 := Lib.hid (below_call HB1.out hb2)
    have kc2 := (HK1.out.call hb2).cell
    have HVA := Lib.hid hva
    clear kc1 hb2 hva
    go_wp2_with fail
    refine (HRR.out _ HB2.out).mono ?_
    rintro e w3 ⟨vb, rfl, hvb, hb3⟩
    have HB3 := Lib.hid (below_call HB2.out hb3)
    have HS := Lib.hid (rsame va vb _ w3 (HVA.out.call hb3) hvb)
    clear kc2 hb3 hvb HVA
    generalize runE t c us = E at *
    go_wp2_with fail
    refine HS.out.mono ?_
    rintro e w4 ⟨rfl, n, rfl⟩
    go_wp2_with fail
    refine (HT.out _ (below_drewN' HB3.out _)).mono ?_
    rintro e w5 ⟨rfl, hb5⟩
    go_wp2_with fail
    go_ret
    exact ⟨rfl, below_call (below_drewN' HB3.out _) hb5⟩
end PriW
end Go.Proofs.YtndlhhiifmjieaaDoor
