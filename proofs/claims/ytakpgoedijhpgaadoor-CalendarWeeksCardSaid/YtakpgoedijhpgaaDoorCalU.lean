/-
  The walks of the calendar's reference: Time, Summer, Offset, Local, Next.
-/
import Derived.Test.YtakpgoedijhpgaaDoorCalS
namespace Go.Proofs.YtakpgoedijhpgaaDoor
namespace CalW
set_option linter.unusedSimpArgs false
set_option linter.unusedVariables false
open Go.RowKit

theorem field3 (a' b' c' d' e' : Int) (W : World) : (Instr.field 23 (.agg #[i a', i b', i c', i d', i e']) 3).run Tryd.prog W = .ok (i d') W := by kernel_rfl

theorem rcivil_of (D mi : Int) (w : World) (h : 0 ≤ D) (h' : D ≤ 200000) (h0 : 0 ≤ mi) (h1 : mi ≤ 1439) :
    Calls Tryd.prog 28 #[i (1440 * D + mi)] w fun e w' => e = .returned (.agg #[i (Cal.yr D), i (Cal.mo D), i (Cal.dy D), i (Cal.wd D), i mi]) ∧ Below w.heap.size w w' := by
  have := rcivil (1440 * D + mi) w (by omega) (by omega)
  rw [show (1440 * D + mi) / 1440 = D by omega, show (1440 * D + mi) % 1440 = mi by omega] at this
  exact this

set_option maxHeartbeats 1600000 in
theorem rtime_in (y m k v mi : Int) (w : World) (h1 : 2000 ≤ y) (h2 : y ≤ 2600) (h3 : 1 ≤ m) (h4 : m ≤ 12) (h5 : 1 ≤ k) (h6 : k ≤ Cal.md y m) (h7 : 0 ≤ mi) (h8 : mi ≤ 1439) (r s : Int)
    (hres : Hid ((¬ v = 0 ∧ ¬ v = Cal.wd (Cal.dayOf y m k) → r = 0 ∧ s = 1) ∧ (v = 0 ∨ v = Cal.wd (Cal.dayOf y m k) → (Cal.dayOf y m k * 1440 + mi ≤ 268435456 → r = Cal.dayOf y m k * 1440 + mi ∧ s = 0) ∧ (268435456 < Cal.dayOf y m k * 1440 + mi → r = 0 ∧ s = 1)))) :
    Calls Tryd.prog 15 #[dateV y m k v mi] w fun e w' => e = .returned (.tuple #[i r, i s]) ∧ Below w.heap.size w w' := by
  have mb := Cal.md_bd y m
  have e1 : decide (y < 2000) = false := by simp; omega
  have e2 : decide (2600 < y) = false := by simp; omega
  have e3 : decide (m < 1) = false := by simp; omega
  have e4 : decide (12 < m) = false := by simp; omega
  have d1 : decide (k < 1) = false := by simp; omega
  have d2 : decide (Cal.md y m < k) = false := by simp; omega
  have d3 : decide (mi < 0) = false := by simp; omega
  have d4 : decide (1439 < mi) = false := by simp; omega
  have yb := Cal.ys_2000 y h1 h2
  have DB := Cal.dayOf_bd y m k h1 h2 h5 h6
  go_enter Tryd.func15, Tryd.ntmps15
  go_wp2_with fail
  go_quiet ((go_at_call 32; exact quiet_left (rlength _ _ _ (by omega) (by omega) (by omega) (by omega))))
  go_wp2_with fail
  go_quiet ((go_at_call 33; exact quiet_add_left (rfirst _ _ (by omega) (by omega))))
  go_wp2_with fail
  rw [World.drewN_drewN]
  generalize nq + _ = nn
  go_loop [4, 5] (fun d x => ∃ j : Int, 1 ≤ j ∧ j ≤ m ∧ x = i j ∧ d = i (Cal.dayOf y j k)) (fun _ x => (12 - intOf x).toNat)
  case atStart => exact ⟨1, by omega, by omega, rfl, by rw [Cal.dayOf_one]⟩
  case round =>
    obtain ⟨j, hj1, hj2, rfl, rfl⟩ := hrel
    have cb := Cal.cum_bd (Cal.lp y) j (Cal.lp_01 _).1 (Cal.lp_01 _).2
    have db := Cal.md_bd y j
    have dj : 0 ≤ Cal.dayOf y j k ∧ Cal.dayOf y j k ≤ 219600 := by unfold Cal.dayOf; omega
    by_cases hlt : j < m
    · have HC := Lib.hid (Cal.dayOf_succ y j k hj1 (by omega))
      clear hres
      go_wp2_with (go_at_call 32; refine (rlength _ _ _ (by omega) (by omega) (by omega) (by omega)).mono ?_; rintro e w' ⟨rfl, rfl⟩)
      go_round
      case rel => exact ⟨j + 1, by omega, by omega, rfl, by rw [HC.out]⟩
      case measure => simp [intOf]; omega
    · obtain rfl : j = m := by omega
      have wb := Cal.wd_bd (Cal.dayOf y j k)
      generalize hD : Cal.dayOf y j k = D at *
      have HDD := Lib.hid hD
      clear hD hlt
      by_cases hle : 1440 * D + mi ≤ 268435456
      · by_cases v0 : v = 0
        · have b0 : (v != 0) = false := by simpa using v0
          have A := (hres.out.2 (.inl v0)).1 (by omega)
          obtain ⟨A1, rfl⟩ := A
          have HA := Lib.hid A1
          clear hres v0 A1
          go_wp2_with fail
          go_quiet ((go_at_call 27; exact quiet_add_left (right_yes _ _ (by omega) (by omega))))
          go_wp2_with fail
          go_ret2
          refine ⟨ret2 (by rw [HA.out]; omega) rfl, ?_⟩
          repeat (first | (with_reducible exact Below.refl _ _) | (with_reducible refine below_drewN ?_ _) | (with_reducible refine Below.setCell ?_ (by simp) _) | (with_reducible refine Below.alloc ?_ (by simp) _))
        · have b0 : (v != 0) = true := by simpa using v0
          have b0' : (v == 0) = false := by simpa using v0
          have hS : ∀ n, ((w.alloc (.cells #[i y, i j, i k, i v, i mi] 23)).drewN n).cell? ⟨w.heap.size, 3, none⟩ = some (i v) := fun n => by go_simp
          by_cases v1 : v = Cal.wd D
          · have b1 : (v != Cal.wd D) = false := by simpa using v1
            have b1' : (v == Cal.wd D) = true := by simpa using v1
            have A := (hres.out.2 (.inr v1)).1 (by omega)
            obtain ⟨A1, rfl⟩ := A
            have HA := Lib.hid A1
            clear v0 v1 hres A1
            have hfi := field3 (Cal.yr D) (Cal.mo D) (Cal.dy D) (Cal.wd D) mi
            go_wp2_with fail
            go_region_held3 (fun w' => w'.cell? ⟨w.heap.size, 3, none⟩ = some (i v)) (first | go_keep | exact hS _ | (rw [hbx.cell (p := ⟨w.heap.size, 3, none⟩) (by simp; done)]; exact hS _)) (first | (go_at_call 27; refine (right_yes _ _ (by omega) (by omega)).mono ?_; rintro e w' ⟨rfl, rfl⟩) | (go_at_call 28; refine (rcivil_of _ _ _ (by omega) (by omega) (by omega) (by omega)).mono ?_; rintro e wx ⟨rfl, hbx⟩))
            go_wp2_with fail
            go_ret2
            refine ⟨ret2 (by rw [HA.out]; omega) rfl, ?_⟩
            repeat (first | (with_reducible exact Below.refl _ _) | (with_reducible refine below_drewN ?_ _) | (with_reducible refine Below.setCell ?_ (by simp) _) | (with_reducible refine Below.alloc ?_ (by simp) _) | (with_reducible refine Below.trans ?_ (hbx.mono (by first | omega | (simp; done) | (simp; omega)))))
          · have b1 : (v != Cal.wd D) = true := by simpa using v1
            have b1' : (v == Cal.wd D) = false := by simpa using v1
            obtain ⟨rfl, rfl⟩ := hres.out.1 ⟨v0, v1⟩
            clear v0 v1 hres
            have hfi := field3 (Cal.yr D) (Cal.mo D) (Cal.dy D) (Cal.wd D) mi
            go_wp2_with fail
            go_region_held3 (fun w' => w'.cell? ⟨w.heap.size, 3, none⟩ = some (i v)) (first | go_keep | exact hS _ | (rw [hbx.cell (p := ⟨w.heap.size, 3, none⟩) (by simp; done)]; exact hS _)) (first | (go_at_call 27; refine (right_yes _ _ (by omega) (by omega)).mono ?_; rintro e w' ⟨rfl, rfl⟩) | (go_at_call 28; refine (rcivil_of _ _ _ (by omega) (by omega) (by omega) (by omega)).mono ?_; rintro e wx ⟨rfl, hbx⟩))
            go_wp2_with fail
            go_ret2
            refine ⟨rfl, ?_⟩
            repeat (first | (with_reducible exact Below.refl _ _) | (with_reducible refine below_drewN ?_ _) | (with_reducible refine Below.setCell ?_ (by simp) _) | (with_reducible refine Below.alloc ?_ (by simp) _) | (with_reducible refine Below.trans ?_ (hbx.mono (by first | omega | (simp; done) | (simp; omega)))))
      · obtain ⟨rfl, rfl⟩ : r = 0 ∧ s = 1 := by
          have := hres.out
          by_cases hv : ¬ v = 0 ∧ ¬ v = Cal.wd D
          · exact this.1 hv
          · exact (this.2 (by omega)).2 (by omega)
        clear hres
        go_wp2_with fail
        go_quiet ((go_at_call 27; exact quiet_add_left (right_no _ _ (by omega))))
        go_wp2_with fail
        go_ret2
        refine ⟨rfl, ?_⟩
        repeat (first | (with_reducible exact Below.refl _ _) | (with_reducible refine below_drewN ?_ _) | (with_reducible refine Below.setCell ?_ (by simp) _) | (with_reducible refine Below.alloc ?_ (by simp) _))

set_option maxHeartbeats 800000 in
theorem rsummer (t : Int) (w : World) {b : Bool} (hb : Cal.smr t = b) :
    Calls Tryd.prog 19 #[i t] w fun e w' => e = .returned (.bool b) ∧ Below w.heap.size w w' := by
  subst hb
  by_cases h : 0 ≤ t ∧ t ≤ 268435456
  · obtain ⟨h1, h2⟩ := h
    have dyb := Cal.dy_bd (t / 1440)
    have mdb := Cal.md_bd (Cal.yr (t / 1440)) (Cal.mo (t / 1440))
    have wb := Cal.wd_bd (t / 1440)
    rw [Cal.smr_aft t h1 h2]
    cases h3 : Cal.aft (Cal.mo (t / 1440)) (Cal.dy (t / 1440)) (Cal.wd (t / 1440)) (t % 1440) 3
    · have H3 := Lib.hid h3
      clear h3
      go_enter Tryd.func19, Tryd.ntmps19
      go_wp2_with (go_at_call 27; refine (right_yes _ _ (by omega) (by omega)).mono ?_; rintro e w' ⟨rfl, rfl⟩)
      refine (rcivil _ _ (by omega) (by omega)).mono ?_
      rintro e w1 ⟨rfl, hb1⟩
      unfold date
      go_wp2_with fail
      refine (after _ _ _ _ _ _ _ (.inl rfl) (by omega) (by omega) (by omega) (by omega) H3.out).mono ?_
      rintro e w2 ⟨rfl, hb2⟩
      go_wp2_with fail
      go_ret
      refine ⟨retB rfl, ?_⟩
      have s1 := hb1.size
      repeat (first | (with_reducible exact Below.refl _ _) | (with_reducible refine below_drewN ?_ _) | (with_reducible refine Below.setCell ?_ (by simp) _) | (with_reducible refine Below.alloc ?_ (by simp) _) | (with_reducible refine Below.trans ?_ (hb2.mono (by first | omega | (simp; done) | (simp; omega)))) | (with_reducible refine Below.alloc ?_ s1 _) | (with_reducible exact hb1))
    · have H3 := Lib.hid h3
      clear h3
      cases h10 : Cal.aft (Cal.mo (t / 1440)) (Cal.dy (t / 1440)) (Cal.wd (t / 1440)) (t % 1440) 10
      all_goals
        have H10 := Lib.hid h10
        clear h10
        go_enter Tryd.func19, Tryd.ntmps19
        go_wp2_with (go_at_call 27; refine (right_yes _ _ (by omega) (by omega)).mono ?_; rintro e w' ⟨rfl, rfl⟩)
        refine (rcivil _ _ (by omega) (by omega)).mono ?_
        rintro e w1 ⟨rfl, hb1⟩
        unfold date
        go_wp2_with fail
        refine (after _ _ _ _ _ _ _ (.inl rfl) (by omega) (by omega) (by omega) (by omega) H3.out).mono ?_
        rintro e w2 ⟨rfl, hb2⟩
        obtain ⟨hc, hf⟩ := bcell hb2
        go_wp2_with fail
        refine (after _ _ _ _ _ _ _ (.inr rfl) (by omega) (by omega) (by omega) (by omega) H10.out).mono ?_
        rintro e w3 ⟨rfl, hb3⟩
        go_wp2_with fail
        go_ret
        refine ⟨retB rfl, ?_⟩
        have s1 := hb1.size
        have s2 := hb2.size
        simp at s2
        repeat (first | (with_reducible exact Below.refl _ _) | (with_reducible refine below_drewN ?_ _) | (with_reducible refine Below.setCell ?_ (by simp) _) | (with_reducible refine Below.alloc ?_ (by simp) _) | (with_reducible refine Below.trans ?_ (hb3.mono (by omega))) | (with_reducible refine Below.trans ?_ (hb2.mono (by first | omega | (simp; done) | (simp; omega)))) | (with_reducible refine Below.alloc ?_ s1 _) | (with_reducible exact hb1))
  · have e : Cal.smr t = false := by simp [Cal.smr]; omega
    rw [e]
    clear e
    go_enter Tryd.func19, Tryd.ntmps19
    go_wp2_with (go_at_call 27; refine (right_no _ _ h).mono ?_; rintro e w' ⟨rfl, rfl⟩)
    go_ret
    exact ⟨rfl, Below.refl _ _⟩

set_option maxHeartbeats 400000 in
theorem roffset (z : Int) (s : Bool) (t : Int) (w : World) :
    Calls Tryd.prog 21 #[zone z s, i t] w fun e w' => e = .returned (i (Cal.offs z s t)) ∧ Below w.heap.size w w' := by
  by_cases hz : -840 ≤ z ∧ z ≤ 840
  · obtain ⟨h1, h2⟩ := hz
    cases s
    · rw [Cal.offs_off z t ⟨h1, h2⟩]
      go_enter Tryd.func21, Tryd.ntmps21
      go_wp2_with fail
      refine (rzone_yes _ _ _ h1 h2).mono ?_
      rintro e w1 ⟨rfl, hb⟩
      obtain ⟨hc, hf⟩ := bcell hb
      go_wp2_with fail
      go_ret
      exact ⟨rfl, ((Below.refl _ _).alloc (Nat.le_refl _) _).trans (hb.mono (by simp))⟩
    · cases hs : Cal.smr t
      · rw [Cal.offs_no z true t ⟨h1, h2⟩ hs]
        have HS := Lib.hid hs
        clear hs
        go_enter Tryd.func21, Tryd.ntmps21
        go_wp2_with fail
        refine (rzone_yes _ _ _ h1 h2).mono ?_
        rintro e w1 ⟨rfl, hb⟩
        obtain ⟨hc, hf⟩ := bcell hb
        have s1 := hb.size
        simp at s1
        go_wp2_with fail
        refine (rsummer _ _ HS.out).mono ?_
        rintro e w2 ⟨rfl, hb2⟩
        have hc2 : ∀ o, w2.cell? ⟨w.heap.size, o, none⟩ = w1.cell? ⟨w.heap.size, o, none⟩ := fun o => hb2.cell (p := ⟨w.heap.size, o, none⟩) (by simp; omega)
        go_wp2_with fail
        go_ret
        exact ⟨rfl, (((Below.refl _ _).alloc (Nat.le_refl _) _).trans (hb.mono (by simp))).trans (hb2.mono (by omega))⟩
      · rw [Cal.offs_yes z t ⟨h1, h2⟩ hs]
        have HS := Lib.hid hs
        clear hs
        go_enter Tryd.func21, Tryd.ntmps21
        go_wp2_with fail
        refine (rzone_yes _ _ _ h1 h2).mono ?_
        rintro e w1 ⟨rfl, hb⟩
        obtain ⟨hc, hf⟩ := bcell hb
        have s1 := hb.size
        simp at s1
        go_wp2_with fail
        refine (rsummer _ _ HS.out).mono ?_
        rintro e w2 ⟨rfl, hb2⟩
        have hc2 : ∀ o, w2.cell? ⟨w.heap.size, o, none⟩ = w1.cell? ⟨w.heap.size, o, none⟩ := fun o => hb2.cell (p := ⟨w.heap.size, o, none⟩) (by simp; omega)
        go_wp2_with fail
        go_ret
        exact ⟨rfl, (((Below.refl _ _).alloc (Nat.le_refl _) _).trans (hb.mono (by simp))).trans (hb2.mono (by omega))⟩
  · rw [Cal.offs_out z s t hz]
    go_enter Tryd.func21, Tryd.ntmps21
    go_wp2_with fail
    refine (rzone_no _ _ _ hz).mono ?_
    rintro e w1 ⟨rfl, hb⟩
    go_wp2_with fail
    go_ret
    exact ⟨rfl, ((Below.refl _ _).alloc (Nat.le_refl _) _).trans (hb.mono (by simp))⟩
end CalW
end Go.Proofs.YtakpgoedijhpgaaDoor
