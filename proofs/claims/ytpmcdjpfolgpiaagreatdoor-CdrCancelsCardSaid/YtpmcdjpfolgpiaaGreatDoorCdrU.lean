/-
  The walks of short and of the statements CdrValid and CdrCredits.
-/
import Derived.Test.YtpmcdjpfolgpiaaGreatDoorExA
import Derived.Test.YtpmcdjpfolgpiaaGreatDoorCdrT
import Derived.Deep.RegionHeld3
namespace Go.Proofs.YtpmcdjpfolgpiaaGreatDoor
namespace Ex
set_option linter.unusedSimpArgs false
set_option linter.unusedVariables false
open Go.RowKit TarW Usg UsgW Prc PriW Cdr MonW CdrW EncW

structure ShortC (c : CDR) : Prop where
  n : c.items.length ≤ 40
  s1 : c.id.size ≤ 200
  s2 : c.oper.size ≤ 200
  s3 : c.prov.size ≤ 200
  s4 : c.sess.size ≤ 200
  s5 : c.tar.size ≤ 200
  s7 : c.ref.size ≤ 200
def ShPost (c : CDR) (w : World) (e : Ending) (w' : World) : Prop := ∃ b, e = .returned (.bool b) ∧ (b = true → ShortC c) ∧ Below w.heap.size w w'
theorem ShPost.no {c : CDR} {w w' : World} (h : Below w.heap.size w w') : ShPost c w (.returned (.bool false)) w' := ⟨false, rfl, fun h => (Bool.noConfusion h), h⟩
theorem ShPost.yes {c : CDR} {w w' : World} (hs : ShortC c) (h : Below w.heap.size w w') : ShPost c w (.returned (.bool true)) w' := ⟨true, rfl, fun _ => hs, h⟩

set_option maxRecDepth 100000 in
set_option maxHeartbeats 4000000 in
theorem short (c : CDR) (A : Option Addr) (n k : Nat) (w : World) (ho : c.ok) (hi : ItmsAt w (.slice A n k) c.items) :
    Calls Tryz.prog 8 #[.agg (cdrA c (.slice A n k))] w (ShPost c w) := by
  obtain ⟨hn, hnk, hkm⟩ := SliceAt.len hi
  subst hn
  unfold maxLen at hkm
  have HB := Lib.hid (below_new w (.cells (cdrA c (.slice A c.items.length k)) 24))
  have hk := (cdr_new w c (.slice A c.items.length k)).cell
  obtain ⟨m1, m2, m3, m4, m5, m6, m7, -, -, -, -, -⟩ := ho
  unfold maxLen at m1 m2 m3 m4 m5 m6 m7
  clear hi hnk
  by_cases g0 : c.items.length ≤ 40
  case neg =>
    have g0z : ¬ ((c.items.length : Int) ≤ 40) := by omega
    go_enter Tryz.func8, Tryz.ntmps8
    go_wp2_with fail
    go_ret
    exact ShPost.no HB.out
  have g0z : (c.items.length : Int) ≤ 40 := by omega
  by_cases g1 : c.id.size ≤ 200
  case neg =>
    have g1z : ¬ ((c.id.size : Int) ≤ 200) := by omega
    go_enter Tryz.func8, Tryz.ntmps8
    go_wp2_with fail
    go_ret
    exact ShPost.no HB.out
  have g1z : (c.id.size : Int) ≤ 200 := by omega
  by_cases g2 : c.oper.size ≤ 200
  case neg =>
    have g2z : ¬ ((c.oper.size : Int) ≤ 200) := by omega
    go_enter Tryz.func8, Tryz.ntmps8
    go_wp2_with fail
    go_ret
    exact ShPost.no HB.out
  have g2z : (c.oper.size : Int) ≤ 200 := by omega
  by_cases g3 : c.prov.size ≤ 200
  case neg =>
    have g3z : ¬ ((c.prov.size : Int) ≤ 200) := by omega
    go_enter Tryz.func8, Tryz.ntmps8
    go_wp2_with fail
    go_ret
    exact ShPost.no HB.out
  have g3z : (c.prov.size : Int) ≤ 200 := by omega
  by_cases g4 : c.sess.size ≤ 200
  case neg =>
    have g4z : ¬ ((c.sess.size : Int) ≤ 200) := by omega
    go_enter Tryz.func8, Tryz.ntmps8
    go_wp2_with fail
    go_ret
    exact ShPost.no HB.out
  have g4z : (c.sess.size : Int) ≤ 200 := by omega
  by_cases g5 : c.tar.size ≤ 200
  case neg =>
    have g5z : ¬ ((c.tar.size : Int) ≤ 200) := by omega
    go_enter Tryz.func8, Tryz.ntmps8
    go_wp2_with fail
    go_ret
    exact ShPost.no HB.out
  have g5z : (c.tar.size : Int) ≤ 200 := by omega
  by_cases g7 : c.ref.size ≤ 200
  case neg =>
    have g7z : ¬ ((c.ref.size : Int) ≤ 200) := by omega
    go_enter Tryz.func8, Tryz.ntmps8
    go_wp2_with fail
    go_ret
    exact ShPost.no HB.out
  have g7z : (c.ref.size : Int) ≤ 200 := by omega
  have HS := Lib.hid (⟨g0, g1, g2, g3, g4, g5, g7⟩ : ShortC c)
  go_enter Tryz.func8, Tryz.ntmps8
  go_wp2_with fail
  go_ret
  exact ShPost.yes HS.out HB.out

structure FinC (c : CDR) (u : Value) (w0 w' : World) : Prop where
  tab : CalW.Tab w'
  its : ItmsAt w' u c.items
  below : Below w0.heap.size w0 w'

set_option maxRecDepth 100000 in
set_option maxHeartbeats 4000000 in
theorem law_valid (c : CDR) (A : Option Addr) (n k : Nat) (w : World) (ht : CalW.Tab w) (ho : c.ok) (hi : ItmsAt w (.slice A n k) c.items) :
    Calls Tryz.prog 3 #[.agg (cdrA c (.slice A n k))] w (LawPost w) := by
  have hB := below_new w (.cells (cdrA c (.slice A n k)) 24)
  have k0 := cdr_new w c (.slice A n k)
  have hT := ht.below hB ht.lt
  have hI := ItmsAt.call hi hB
  have HS := Lib.hid (short c A n k _ ho hI)
  have HV : Hid (∀ W, ItmsAt W (.slice A n k) c.items → Calls Tryz.prog 10 #[.agg (cdrA c (.slice A n k))] W fun r w' => r = .returned (i (cdrE c)) ∧ Below W.heap.size W w') := fun W hx => valid c A n k W ho hx rfl
  have HR : Hid (∀ W, ItmsAt W (.slice A n k) c.items → Calls Tryz.prog 11 #[.agg (cdrA c (.slice A n k))] W fun r w' => r = .returned (i (cdrE c)) ∧ Below W.heap.size W w') := fun W hx => rvalid c A n k W ho hx rfl
  generalize cdrE c = V at *
  clear ht ho hi
  have HB := Lib.hid hB
  have HK := Lib.hid k0
  have HT := Lib.hid hT
  have HI := Lib.hid hI
  clear hB k0 hT hI
  go_enter Tryz.func3, Tryz.ntmps3
  go_wp2_with fail
  refine HS.out.mono ?_
  rintro e w1 ⟨b, rfl, -, hb1⟩
  have HB1 := Lib.hid (below_call HB.out hb1)
  have hT1 := HT.out.below hb1 HT.out.lt
  have k1 := HK.out.call hb1
  have hI1 := ItmsAt.call HI.out hb1
  have HT1 := Lib.hid hT1
  clear hb1 HB HS
  cases b with
  | false =>
    clear k1 hI1 hT1
    go_wp2_with fail
    refine (example_holds _ HT1.out).mono ?_
    rintro e w2 ⟨rfl, hb2⟩
    go_wp2_with fail
    go_ret
    exact ⟨rfl, below_call HB1.out hb2⟩
  | true =>
    have hS : ∀ w', Below w1.heap.size w1 w' → (∀ o, w'.cell? ⟨w.heap.size, o, none⟩ = (cdrA c (.slice A n k))[o]?) ∧ FinC c (.slice A n k) w1 w' :=
      fun w' hb => ⟨(k1.call hb).cell, hT1.below hb hT1.lt, ItmsAt.call hI1 hb, hb⟩
    have HS := Lib.hid hS
    go_wp2_with fail
    clear hS k1 hT1 hI1
    go_region_held3 (fun w' => (∀ o, w'.cell? ⟨w.heap.size, o, none⟩ = (cdrA c (.slice A n k))[o]?) ∧ FinC c (.slice A n k) w1 w')
      (with_reducible first | exact HS.out _ (below_drewN' (Below.refl _ _) _) | exact HS.out _ (Below.drew (Below.refl _ _)) | (go_split_ands; exact HS.out _ (below_call (FinC.below (w0 := w1) (by assumption)) hbx)))
      (first | (go_at_call 10; go_split_ands; refine (HV.out _ (FinC.its (w0 := w1) (by assumption))).mono ?_; rintro e wx ⟨rfl, hbx⟩) | (go_at_call 11; go_split_ands; refine (HR.out _ (FinC.its (w0 := w1) (by assumption))).mono ?_; rintro e wx ⟨rfl, hbx⟩) | (go_at_call 9; go_split_ands; refine (example_holds _ (FinC.tab (w0 := w1) (by assumption))).mono ?_; rintro e wx ⟨rfl, hbx⟩))
    go_split_ands
    have hfin := FinC.below (w0 := w1) (w' := wx) (by assumption)
    go_wp2_with fail
    go_ret
    exact ⟨rfl, below_call HB1.out hfin⟩
end Ex
end Go.Proofs.YtpmcdjpfolgpiaaGreatDoor
