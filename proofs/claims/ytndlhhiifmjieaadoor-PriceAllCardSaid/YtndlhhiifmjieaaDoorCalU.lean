/-
  The walks of the calendar's reference: Time, Summer, Offset, Local, Next.
-/
import Derived.Test.YtndlhhiifmjieaaDoorCalS
namespace Go.Proofs.YtndlhhiifmjieaaDoor
namespace CalW
set_option linter.unusedSimpArgs false
set_option linter.unusedVariables false
open Go.RowKit

theorem field3 (a' b' c' d' e' : Int) (W : World) : (Instr.field 119 (.agg #[i a', i b', i c', i d', i e']) 3).run Tryd.prog W = .ok (i d') W := by kernel_rfl

theorem rcivil_of (D mi : Int) (w : World) (h : 0 ≤ D) (h' : D ≤ 200000) (h0 : 0 ≤ mi) (h1 : mi ≤ 1439) :
    Calls Tryd.prog 73 #[i (1440 * D + mi)] w fun e w' => e = .returned (.agg #[i (Cal.yr D), i (Cal.mo D), i (Cal.dy D), i (Cal.wd D), i mi]) ∧ Below w.heap.size w w' := by
  have := rcivil (1440 * D + mi) w (by omega) (by omega)
  rw [show (1440 * D + mi) / 1440 = D by omega, show (1440 * D + mi) % 1440 = mi by omega] at this
  exact this

set_option maxHeartbeats 800000 in
theorem rsummer (t : Int) (w : World) {b : Bool} (hb : Cal.smr t = b) :
    Calls Tryd.prog 80 #[i t] w fun e w' => e = .returned (.bool b) ∧ Below w.heap.size w w' := by
  subst hb
  by_cases h : 0 ≤ t ∧ t ≤ 268435456
  · obtain ⟨h1, h2⟩ := h
    have dyb := Cal.dy_bd (t / 1440)
    have mdb := Cal.md_bd (Cal.yr (t / 1440)) (Cal.mo (t / 1440))
    have wb := Cal.wd_bd (t / 1440)
    rw [Cal.smr_aft t h1 h2]
    cases h3 : Cal.aft (Cal.mo (t / 1440)) (Cal.dy (t / 1440)) (Cal.wd (t / 1440)) (t % 1440) 3
    · have H3 := Lib.hid h3
      clear h3
      go_enter Tryd.func80, Tryd.ntmps80
      go_wp2_with (go_at_call 38; refine (right_yes _ _ (by omega) (by omega)).mono ?_; rintro e w' ⟨rfl, rfl⟩)
      refine (rcivil _ _ (by omega) (by omega)).mono ?_
      rintro e w1 ⟨rfl, hb1⟩
      unfold date
      go_wp2_with fail
      refine (after _ _ _ _ _ _ _ (.inl rfl) (by omega) (by omega) (by omega) (by omega) H3.out).mono ?_
      rintro e w2 ⟨rfl, hb2⟩
      go_wp2_with fail
      go_ret
      refine ⟨retB rfl, ?_⟩
      have s1 := hb1.size
      repeat (first | (with_reducible exact Below.refl _ _) | (with_reducible refine below_drewN ?_ _) | (with_reducible refine Below.setCell ?_ (by simp) _) | (with_reducible refine Below.alloc ?_ (by simp) _) | (with_reducible refine Below.trans ?_ (hb2.mono (by first | omega | (simp; done) | (simp; omega)))) | (with_reducible refine Below.alloc ?_ s1 _) | (with_reducible exact hb1))
    · have H3 := Lib.hid h3
      clear h3
      cases h10 : Cal.aft (Cal.mo (t / 1440)) (Cal.dy (t / 1440)) (Cal.wd (t / 1440)) (t % 1440) 10
      all_goals
        have H10 := Lib.hid h10
        clear h10
        go_enter Tryd.func80, Tryd.ntmps80
        go_wp2_with (go_at_call 38; refine (right_yes _ _ (by omega) (by omega)).mono ?_; rintro e w' ⟨rfl, rfl⟩)
        refine (rcivil _ _ (by omega) (by omega)).mono ?_
        rintro e w1 ⟨rfl, hb1⟩
        unfold date
        go_wp2_with fail
        refine (after _ _ _ _ _ _ _ (.inl rfl) (by omega) (by omega) (by omega) (by omega) H3.out).mono ?_
        rintro e w2 ⟨rfl, hb2⟩
        obtain ⟨hc, hf⟩ := bcell hb2
        go_wp2_with fail
        refine (after _ _ _ _ _ _ _ (.inr rfl) (by omega) (by omega) (by omega) (by omega) H10.out).mono ?_
        rintro e w3 ⟨rfl, hb3⟩
        go_wp2_with fail
        go_ret
        refine ⟨retB rfl, ?_⟩
        have s1 := hb1.size
        have s2 := hb2.size
        simp at s2
        repeat (first | (with_reducible exact Below.refl _ _) | (with_reducible refine below_drewN ?_ _) | (with_reducible refine Below.setCell ?_ (by simp) _) | (with_reducible refine Below.alloc ?_ (by simp) _) | (with_reducible refine Below.trans ?_ (hb3.mono (by omega))) | (with_reducible refine Below.trans ?_ (hb2.mono (by first | omega | (simp; done) | (simp; omega)))) | (with_reducible refine Below.alloc ?_ s1 _) | (with_reducible exact hb1))
  · have e : Cal.smr t = false := by simp [Cal.smr]; omega
    rw [e]
    clear e
    go_enter Tryd.func80, Tryd.ntmps80
    go_wp2_with (go_at_call 38; refine (right_no _ _ h).mono ?_; rintro e w' ⟨rfl, rfl⟩)
    go_ret
    exact ⟨rfl, Below.refl _ _⟩

set_option maxHeartbeats 400000 in
theorem roffset (z : Int) (s : Bool) (t : Int) (w : World) :
    Calls Tryd.prog 74 #[zone z s, i t] w fun e w' => e = .returned (i (Cal.offs z s t)) ∧ Below w.heap.size w w' := by
  by_cases hz : -840 ≤ z ∧ z ≤ 840
  · obtain ⟨h1, h2⟩ := hz
    cases s
    · rw [Cal.offs_off z t ⟨h1, h2⟩]
      go_enter Tryd.func74, Tryd.ntmps74
      go_wp2_with fail
      refine (rzone_yes _ _ _ h1 h2).mono ?_
      rintro e w1 ⟨rfl, hb⟩
      obtain ⟨hc, hf⟩ := bcell hb
      go_wp2_with fail
      go_ret
      exact ⟨rfl, ((Below.refl _ _).alloc (Nat.le_refl _) _).trans (hb.mono (by simp))⟩
    · cases hs : Cal.smr t
      · rw [Cal.offs_no z true t ⟨h1, h2⟩ hs]
        have HS := Lib.hid hs
        clear hs
        go_enter Tryd.func74, Tryd.ntmps74
        go_wp2_with fail
        refine (rzone_yes _ _ _ h1 h2).mono ?_
        rintro e w1 ⟨rfl, hb⟩
        obtain ⟨hc, hf⟩ := bcell hb
        have s1 := hb.size
        simp at s1
        go_wp2_with fail
        refine (rsummer _ _ HS.out).mono ?_
        rintro e w2 ⟨rfl, hb2⟩
        have hc2 : ∀ o, w2.cell? ⟨w.heap.size, o, none⟩ = w1.cell? ⟨w.heap.size, o, none⟩ := fun o => hb2.cell (p := ⟨w.heap.size, o, none⟩) (by simp; omega)
        go_wp2_with fail
        go_ret
        exact ⟨rfl, (((Below.refl _ _).alloc (Nat.le_refl _) _).trans (hb.mono (by simp))).trans (hb2.mono (by omega))⟩
      · rw [Cal.offs_yes z t ⟨h1, h2⟩ hs]
        have HS := Lib.hid hs
        clear hs
        go_enter Tryd.func74, Tryd.ntmps74
        go_wp2_with fail
        refine (rzone_yes _ _ _ h1 h2).mono ?_
        rintro e w1 ⟨rfl, hb⟩
        obtain ⟨hc, hf⟩ := bcell hb
        have s1 := hb.size
        simp at s1
        go_wp2_with fail
        refine (rsummer _ _ HS.out).mono ?_
        rintro e w2 ⟨rfl, hb2⟩
        have hc2 : ∀ o, w2.cell? ⟨w.heap.size, o, none⟩ = w1.cell? ⟨w.heap.size, o, none⟩ := fun o => hb2.cell (p := ⟨w.heap.size, o, none⟩) (by simp; omega)
        go_wp2_with fail
        go_ret
        exact ⟨rfl, (((Below.refl _ _).alloc (Nat.le_refl _) _).trans (hb.mono (by simp))).trans (hb2.mono (by omega))⟩
  · rw [Cal.offs_out z s t hz]
    go_enter Tryd.func74, Tryd.ntmps74
    go_wp2_with fail
    refine (rzone_no _ _ _ hz).mono ?_
    rintro e w1 ⟨rfl, hb⟩
    go_wp2_with fail
    go_ret
    exact ⟨rfl, ((Below.refl _ _).alloc (Nat.le_refl _) _).trans (hb.mono (by simp))⟩
end CalW
end Go.Proofs.YtndlhhiifmjieaaDoor
