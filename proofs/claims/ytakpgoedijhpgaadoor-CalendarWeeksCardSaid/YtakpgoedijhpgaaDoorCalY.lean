/-
  The walks of the statements CalendarBack, CalendarWeeks, CalendarLeast, CalendarSteps.
-/
import Derived.Test.YtakpgoedijhpgaaDoorCalX
import Derived.Test.YtakpgoedijhpgaaDoorCal2
namespace Go.Proofs.YtakpgoedijhpgaaDoor
namespace CalW
set_option linter.unusedSimpArgs false
set_option linter.unusedVariables false
open Go.RowKit

theorem yr_times (t : Int) (h : 0 ≤ t) (h' : t ≤ 268435456) : 2000 ≤ Cal.yr (t / 1440) ∧ Cal.yr (t / 1440) ≤ 2600 := by
  obtain ⟨h1, h2⟩ := Cal.yr_spec (t / 1440)
  constructor
  · rcases Int.lt_or_le (Cal.yr (t / 1440)) 2000 with g | g
    · have := Cal.ys_mono (Cal.yr (t / 1440) + 1) 2000 (by omega)
      have e : Cal.ys 2000 = 0 := by decide
      omega
    · exact g
  · rcases Int.lt_or_le 2600 (Cal.yr (t / 1440)) with g | g
    · have := Cal.ys_mono 2600 (Cal.yr (t / 1440)) (by omega)
      have e : Cal.ys 2600 = 219146 := by decide
      omega
    · exact g

theorem back_time (t v r s : Int) (w : World) (ht : Tab w) (h : 0 ≤ t) (h' : t ≤ 268435456) (hv : (v = 0 ∨ v = Cal.wd (t / 1440)) ∧ r = t ∧ s = 0 ∨ (¬ v = 0 ∧ ¬ v = Cal.wd (t / 1440)) ∧ r = 0 ∧ s = 1) :
    Calls Tryd.prog 14 #[dateV (Cal.yr (t / 1440)) (Cal.mo (t / 1440)) (Cal.dy (t / 1440)) v (t % 1440)] w fun e w' => e = .returned (.tuple #[i r, i s]) ∧ Below w.heap.size w w' := by
  have yb := yr_times t h h'
  have mb := Cal.mo_bd (t / 1440)
  have db := Cal.dy_bd (t / 1440)
  refine time_in _ _ _ v _ w yb.1 yb.2 mb.1 mb.2 ht db.1 db.2 (by omega) (by omega) r s (Lib.hid ?_)
  rw [show Cal.dayOf (Cal.yr (t / 1440)) (Cal.mo (t / 1440)) (Cal.dy (t / 1440)) = t / 1440 from Cal.day_eq _]
  omega

set_option maxHeartbeats 800000 in
theorem law_back (t : Int) (w : World) (ht : Tab w) : Calls Tryd.prog 7 #[i t] w fun e w' => e = .returned (.bool true) ∧ Below w.heap.size w w' := by
  by_cases h : 0 ≤ t ∧ t ≤ 268435456
  · obtain ⟨h1, h2⟩ := h
    have wb := Cal.wd_bd (t / 1440)
    have b1 : ∀ W, Tab W → Calls Tryd.prog 14 #[dateV (Cal.yr (t / 1440)) (Cal.mo (t / 1440)) (Cal.dy (t / 1440)) (Cal.wd (t / 1440)) (t % 1440)] W fun e w' => e = .returned (.tuple #[i t, i 0]) ∧ Below W.heap.size W w' := fun W hT => back_time t _ t 0 W hT h1 h2 (.inl ⟨.inr rfl, rfl, rfl⟩)
    have b2 : ∀ W, Tab W → Calls Tryd.prog 14 #[dateV (Cal.yr (t / 1440)) (Cal.mo (t / 1440)) (Cal.dy (t / 1440)) (Cal.wd (t / 1440) % 7 + 1) (t % 1440)] W fun e w' => e = .returned (.tuple #[i 0, i 1]) ∧ Below W.heap.size W w' := fun W hT => back_time t _ 0 1 W hT h1 h2 (.inr ⟨by omega, rfl, rfl⟩)
    have b3 : ∀ W, Tab W → Calls Tryd.prog 14 #[dateV (Cal.yr (t / 1440)) (Cal.mo (t / 1440)) (Cal.dy (t / 1440)) 0 (t % 1440)] W fun e w' => e = .returned (.tuple #[i t, i 0]) ∧ Below W.heap.size W w' := fun W hT => back_time t _ t 0 W hT h1 h2 (.inl ⟨.inl rfl, rfl, rfl⟩)
    have B0 := Lib.hid (fun W hT => date_yes t W h1 h2 hT)
    have B1 := Lib.hid b1
    have B2 := Lib.hid b2
    have B3 := Lib.hid b3
    clear b1 b2 b3
    unfold date at B0
    generalize Cal.yr (t / 1440) = y at *
    generalize Cal.mo (t / 1440) = m at *
    generalize Cal.dy (t / 1440) = k at *
    generalize Cal.wd (t / 1440) = v at *
    generalize t % 1440 = mi at *
    go_enter Tryd.func7, Tryd.ntmps7
    go_wp2_with fail
    refine (B0.out w ht).mono ?_
    rintro e w1 ⟨rfl, hb1⟩
    have hB1 := below_alloc hb1 (.cells #[i y, i m, i k, i v, i mi] 23)
    have ht1 := (ht.below hb1 ht.lt).alloc (.cells #[i y, i m, i k, i v, i mi] 23)
    go_wp2_with fail
    refine (B1.out _ ht1).mono ?_
    rintro e w2 ⟨rfl, hb2⟩
    have k2 := (Blk.new w1 23 #[i y, i m, i k, i v, i mi]).call hb2
    have hB2 := below_call hB1 hb2
    have ht2 := ht1.below hb2 ht1.lt
    have s1 := hb1.size
    generalize w1.heap.size = g at *
    have c2 := k2.cell
    have f2 := k2.frozen
    have k3 := k2.set_ 3 (i (v % 7 + 1))
    have hB3 : Below w.heap.size w (w2.setCell ⟨g, 3, none⟩ (i (v % 7 + 1))) := Below.setCell hB2 s1 _
    have ht3 : Tab (w2.setCell ⟨g, 3, none⟩ (i (v % 7 + 1))) := ht.below hB3 ht.lt
    go_wp2_with fail
    refine (B2.out _ ht3).mono ?_
    rintro e w4 ⟨rfl, hb4⟩
    have k4 := k3.call hb4
    have hB4 := below_call hB3 hb4
    clear c2 f2
    have c4 := k4.cell
    have f4 := k4.frozen
    have hB5 : Below w.heap.size w (w4.setCell ⟨g, 3, none⟩ (i 0)) := Below.setCell hB4 s1 _
    have ht5 : Tab (w4.setCell ⟨g, 3, none⟩ (i 0)) := ht.below hB5 ht.lt
    go_wp2_with fail
    refine (B3.out _ ht5).mono ?_
    rintro e w6 ⟨rfl, hb6⟩
    have hB6 := below_call hB5 hb6
    go_wp2_with fail
    refine (example_holds _ (ht.below hB6 ht.lt)).mono ?_
    rintro e w7 ⟨rfl, hb7⟩
    go_wp2_with fail
    go_ret
    exact ⟨rfl, below_call hB6 hb7⟩
  · go_enter Tryd.func7, Tryd.ntmps7
    go_wp2_with fail
    refine (date_no t w h).mono ?_
    rintro e w1 ⟨rfl, hb1⟩
    go_wp2_with fail
    refine (example_holds _ ((ht.below hb1 ht.lt).alloc _)).mono ?_
    rintro e w2 ⟨rfl, hb2⟩
    go_wp2_with fail
    go_ret
    exact ⟨rfl, below_call (below_alloc hb1 _) hb2⟩

theorem date_week (t : Int) (w : World) (ht : Tab w) (h : 0 ≤ t) (h' : t ≤ 268425376) :
    Calls Tryd.prog 11 #[i (t + 10080)] w fun e w' => e = .returned (.tuple #[dateV (Cal.yr (t / 1440 + 7)) (Cal.mo (t / 1440 + 7)) (Cal.dy (t / 1440 + 7)) (Cal.wd (t / 1440)) (t % 1440), i 0]) ∧ Below w.heap.size w w' := by
  have := date_yes (t + 10080) w (by omega) (by omega) ht
  rw [show (t + 10080) / 1440 = t / 1440 + 7 by omega, show (t + 10080) % 1440 = t % 1440 by omega] at this
  unfold date at this
  rw [Cal.wd_7] at this
  exact this
theorem date_400 (t : Int) (w : World) (ht : Tab w) (h : 0 ≤ t) (h' : t ≤ 58055776) :
    Calls Tryd.prog 11 #[i (t + 210379680)] w fun e w' => e = .returned (.tuple #[dateV (Cal.yr (t / 1440) + 400) (Cal.mo (t / 1440)) (Cal.dy (t / 1440)) (Cal.wd (t / 1440)) (t % 1440), i 0]) ∧ Below w.heap.size w w' := by
  have := date_yes (t + 210379680) w (by omega) (by omega) ht
  rw [show (t + 210379680) / 1440 = t / 1440 + 146097 by omega, show (t + 210379680) % 1440 = t % 1440 by omega] at this
  unfold date at this
  obtain ⟨e1, e2, e3⟩ := Cal.date_400 (t / 1440)
  rw [Cal.wd_400, e1, e2, e3] at this
  exact this

set_option maxHeartbeats 800000 in
theorem law_weeks (t : Int) (w : World) (ht : Tab w) : Calls Tryd.prog 10 #[i t] w fun e w' => e = .returned (.bool true) ∧ Below w.heap.size w w' := by
  by_cases h : 0 ≤ t ∧ t ≤ 268435456
  · obtain ⟨h1, h2⟩ := h
    have B0 := Lib.hid (fun W hT => date_yes t W h1 h2 hT)
    unfold date at B0
    by_cases hw : t ≤ 268425376
    · have B1 := Lib.hid (fun W hT => date_week t W hT h1 hw)
      have yb := yr_times t h1 h2
      by_cases h4 : t ≤ 58055776
      · have B2 := Lib.hid (fun W hT => date_400 t W hT h1 h4)
        generalize Cal.yr (t / 1440 + 7) = y' at *
        generalize Cal.mo (t / 1440 + 7) = m' at *
        generalize Cal.dy (t / 1440 + 7) = k' at *
        generalize Cal.yr (t / 1440) = y at *
        generalize Cal.mo (t / 1440) = m at *
        generalize Cal.dy (t / 1440) = k at *
        generalize Cal.wd (t / 1440) = v at *
        generalize t % 1440 = mi at *
        go_enter Tryd.func10, Tryd.ntmps10
        go_wp2_with fail
        refine (B0.out w ht).mono ?_
        rintro e w1 ⟨rfl, hb1⟩
        have hB1 := below_alloc hb1 (.cells #[i y, i m, i k, i v, i mi] 23)
        have k1 := Blk.new w1 23 #[i y, i m, i k, i v, i mi]
        go_wp2_with fail
        refine (B1.out _ (ht.below hB1 ht.lt)).mono ?_
        rintro e w2 ⟨rfl, hb2⟩
        have hB2 := below_alloc (below_call hB1 hb2) (.cells #[i y', i m', i k', i v, i mi] 23)
        have k2 := (k1.call hb2).alloc (.cells #[i y', i m', i k', i v, i mi] 23)
        have j2 := Blk.new w2 23 #[i y', i m', i k', i v, i mi]
        have c2 := k2.cell
        have d2 := j2.cell
        go_wp2_with fail
        refine (B2.out _ (ht.below hB2 ht.lt)).mono ?_
        rintro e w3 ⟨rfl, hb3⟩
        clear c2 d2
        have hB3 := below_alloc (below_call hB2 hb3) (.cells #[i (y + 400), i m, i k, i v, i mi] 23)
        have k3 := (k2.call hb3).alloc (.cells #[i (y + 400), i m, i k, i v, i mi] 23)
        have j3 := Blk.new w3 23 #[i (y + 400), i m, i k, i v, i mi]
        have s1 := hb1.size
        have ne : w3.heap.size ≠ w1.heap.size := by have := (k2.call hb3).lt; omega
        have c3 := k3.cell
        have f3 := k3.frozen
        have d3 := j3.cell
        have k4 := k3.set_ 0 (i (y + 400))
        have j4 := j3.far (p := ⟨w1.heap.size, 0, none⟩) ne (i (y + 400))
        have c4 := k4.cell
        have d4 := j4.cell
        have hB4 : Below w.heap.size w ((w3.alloc (.cells #[i (y + 400), i m, i k, i v, i mi] 23)).setCell ⟨w1.heap.size, 0, none⟩ (i (y + 400))) := Below.setCell hB3 s1 _
        go_wp2_with fail
        refine (example_holds _ (ht.below hB4 ht.lt)).mono ?_
        rintro e w5 ⟨rfl, hb5⟩
        go_wp2_with fail
        go_ret
        exact ⟨rfl, below_call hB4 hb5⟩
      · generalize Cal.yr (t / 1440 + 7) = y' at *
        generalize Cal.mo (t / 1440 + 7) = m' at *
        generalize Cal.dy (t / 1440 + 7) = k' at *
        generalize Cal.yr (t / 1440) = y at *
        generalize Cal.mo (t / 1440) = m at *
        generalize Cal.dy (t / 1440) = k at *
        generalize Cal.wd (t / 1440) = v at *
        generalize t % 1440 = mi at *
        go_enter Tryd.func10, Tryd.ntmps10
        go_wp2_with fail
        refine (B0.out w ht).mono ?_
        rintro e w1 ⟨rfl, hb1⟩
        have hB1 := below_alloc hb1 (.cells #[i y, i m, i k, i v, i mi] 23)
        have k1 := Blk.new w1 23 #[i y, i m, i k, i v, i mi]
        go_wp2_with fail
        refine (B1.out _ (ht.below hB1 ht.lt)).mono ?_
        rintro e w2 ⟨rfl, hb2⟩
        have hB2 := below_alloc (below_call hB1 hb2) (.cells #[i y', i m', i k', i v, i mi] 23)
        have k2 := (k1.call hb2).alloc (.cells #[i y', i m', i k', i v, i mi] 23)
        have j2 := Blk.new w2 23 #[i y', i m', i k', i v, i mi]
        have c2 := k2.cell
        have d2 := j2.cell
        go_wp2_with fail
        refine (example_holds _ (ht.below hB2 ht.lt)).mono ?_
        rintro e w5 ⟨rfl, hb5⟩
        go_wp2_with fail
        go_ret
        exact ⟨rfl, below_call hB2 hb5⟩
    · go_enter Tryd.func10, Tryd.ntmps10
      go_wp2_with fail
      refine (B0.out w ht).mono ?_
      rintro e w1 ⟨rfl, hb1⟩
      go_wp2_with fail
      refine (example_holds _ ((ht.below hb1 ht.lt).alloc _)).mono ?_
      rintro e w2 ⟨rfl, hb2⟩
      go_wp2_with fail
      go_ret
      exact ⟨rfl, below_call (below_alloc hb1 _) hb2⟩
  · go_enter Tryd.func10, Tryd.ntmps10
    go_wp2_with fail
    refine (date_no t w h).mono ?_
    rintro e w1 ⟨rfl, hb1⟩
    go_wp2_with fail
    refine (example_holds _ ((ht.below hb1 ht.lt).alloc _)).mono ?_
    rintro e w2 ⟨rfl, hb2⟩
    go_wp2_with fail
    go_ret
    exact ⟨rfl, below_call (below_alloc hb1 _) hb2⟩
end CalW
end Go.Proofs.YtakpgoedijhpgaaDoor
