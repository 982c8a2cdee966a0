/-
  The walks of the statements TariffValid, TariffHolds, TariffFree, TariffLimits.
-/
import Derived.Test.YtkooekdcegfapaaDoorTarE
import Derived.Deep.RegionHeld3
namespace Go.Proofs.YtkooekdcegfapaaDoor
namespace TarW
set_option linter.unusedSimpArgs false
set_option linter.unusedVariables false
open Go.RowKit CalW

structure Cs where
  (z : Int)
  (s : Bool)
  (k a since en po : Int)
abbrev caseA (x : Cs) : Array Value := #[i x.z, .bool x.s, i x.k, i x.a, i x.since, i x.en, i x.po]
def hold (x : Tar.Wh) (c : Cs) : Bool := Tar.holds x c.z c.s c.a c.since c.en c.po

set_option maxHeartbeats 800000 in
theorem lholds (x : Tar.Wh) (c : Cs) (w : World) (ht : Tab w) {b : Bool} (hb : hold x c = b) :
    Calls Tryd.prog 14 #[.agg (wh x), .agg (caseA c)] w fun e w' => e = .returned (.bool b) ∧ Below w.heap.size w w' := by
  subst hb
  have hB := below_alloc (below_new w (.cells (wh x) 32)) (.cells (caseA c) 36)
  have ht1 := ht.below hB ht.lt
  clear ht
  go_enter Tryd.func14, Tryd.ntmps14
  go_wp2_with fail
  refine (holds_ x c.z c.s c.a c.since c.en c.po _ ht1).mono ?_
  rintro e w1 ⟨rfl, hb1⟩
  go_wp2_with fail
  go_ret
  exact ⟨rfl, below_call hB hb1⟩

def FinT (W w' : World) : Prop := Tab w' ∧ Below W.heap.size W w'
theorem FinT.tab {W w' : World} (h : FinT W w') : Tab w' := h.1
theorem FinT.below {W w' : World} (h : FinT W w') : Below W.heap.size W w' := h.2

set_option maxRecDepth 100000 in
set_option maxHeartbeats 4000000 in
theorem law_holds (x : Tar.Wh) (c : Cs) (w : World) (ht : Tab w) :
    Calls Tryd.prog 4 #[.agg (wh x), .agg (caseA c)] w fun e w' => e = .returned (.bool true) ∧ Below w.heap.size w w' := by
  obtain ⟨b, hb⟩ : ∃ b, hold x c = b := ⟨_, rfl⟩
  have HL := Lib.hid (fun W hT => lholds x c W hT hb)
  have HR : Hid (∀ W, Calls Tryd.prog 15 #[.agg (wh x), zone c.z c.s, i c.a, i c.since, i c.en, i c.po] W fun e w' => e = .returned (.bool b) ∧ Below W.heap.size W w') := by
    subst hb
    exact fun W => rholds x c.z c.s c.a c.since c.en c.po W
  clear hb
  have hB := below_alloc (below_new w (.cells (wh x) 32)) (.cells (caseA c) 36)
  have k0 := (Blk.new w 32 (wh x)).alloc (.cells (caseA c) 36)
  have k1 := Blk.newG (w := w.alloc (.cells (wh x) 32)) (g := w.heap.size + 1) (by simp) 36 (caseA c)
  have hT := ht.below hB ht.lt
  clear ht
  go_enter Tryd.func4, Tryd.ntmps4
  go_wp2_with fail
  generalize (w.alloc (.cells (wh x) 32)).alloc (.cells (caseA c) 36) = W at *
  generalize w.heap.size + 1 = g1 at *
  have hS : ∀ w', Below W.heap.size W w' → (∀ o, w'.cell? ⟨w.heap.size, o, none⟩ = (wh x)[o]?) ∧ (∀ o, w'.cell? ⟨g1, o, none⟩ = (caseA c)[o]?) ∧ FinT W w' :=
    fun w' hb => ⟨(k0.call hb).cell, (k1.call hb).cell, hT.below hb hT.lt, hb⟩
  have HS := Lib.hid hS
  clear hS k0 k1 hT
  go_region_held3 (fun w' => (∀ o, w'.cell? ⟨w.heap.size, o, none⟩ = (wh x)[o]?) ∧ (∀ o, w'.cell? ⟨g1, o, none⟩ = (caseA c)[o]?) ∧ FinT W w')
    (first | exact HS.out _ (below_drewN' (Below.refl _ _) _) | exact HS.out _ (Below.drew (Below.refl _ _)) | (go_split_ands; exact HS.out _ (below_call (FinT.below (W := W) (by assumption)) hbx)))
    (first | (go_at_call 14; go_split_ands; refine (HL.out _ (FinT.tab (W := W) (by assumption))).mono ?_; rintro e wx ⟨rfl, hbx⟩) | (go_at_call 15; refine (HR.out _).mono ?_; rintro e wx ⟨rfl, hbx⟩) | (go_at_call 11; go_split_ands; refine (example_holds _ (FinT.tab (W := W) (by assumption))).mono ?_; rintro e wx ⟨rfl, hbx⟩))
  go_split_ands
  have hfin := FinT.below (W := W) (w' := wx) (by assumption)
  go_wp2_with fail
  go_ret
  exact ⟨rfl, below_call hB hfin⟩
end TarW
end Go.Proofs.YtkooekdcegfapaaDoor
