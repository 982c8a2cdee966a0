/-
  The chapter's examples hold (chargenetlaw02.exampleHolds).
-/
import Derived.Test.YtakpgoedijhpgaaDoorCalV
namespace Go.Proofs.YtakpgoedijhpgaaDoor
namespace CalW
set_option linter.unusedSimpArgs false
set_option linter.unusedVariables false
open Go.RowKit

theorem ex_date (w : World) (ht : Tab w) : Calls Tryd.prog 11 #[i 0] w fun e w' => e = .returned (.tuple #[.agg #[i 2000, i 1, i 1, i 6, i 0], i 0]) ∧ Below w.heap.size w w' := by
  have := date_yes 0 w (by omega) (by omega) ht
  rw [show date (0 / 1440) (0 % 1440) = .agg #[i 2000, i 1, i 1, i 6, i 0] by kernel_rfl] at this
  exact this
theorem ex_time (w : World) (ht : Tab w) : Calls Tryd.prog 14 #[.agg #[i 2000, i 2, i 29, i 0, i 5]] w fun e w' => e = .returned (.tuple #[i 84965, i 0]) ∧ Below w.heap.size w w' := by
  refine time_in 2000 2 29 0 5 w (by omega) (by omega) (by omega) (by omega) ht (by omega) (by decide +kernel) (by omega) (by omega) 84965 0 (Lib.hid ?_)
  have e : Cal.dayOf 2000 2 29 = 59 := by decide +kernel
  rw [e]
  omega
theorem ex_local (w : World) (ht : Tab w) : Calls Tryd.prog 16 #[zone (-60) false, i 0] w fun e w' => e = .returned (.tuple #[.agg #[i 1999, i 12, i 31, i 5, i 1380], i 0]) ∧ Below w.heap.size w w' := by
  have := local_yes (-60) false 0 w (by omega) (by omega) (by omega) (by omega) ht
  rw [show date ((0 + Cal.offs (-60) false 0) / 1440) ((0 + Cal.offs (-60) false 0) % 1440) = .agg #[i 1999, i 12, i 31, i 5, i 1380] by kernel_rfl] at this
  exact this
theorem ex_next (w : World) (ht : Tab w) : Calls Tryd.prog 22 #[zone 0 false, i 0, i 32, i 5] w fun e w' => e = .returned (.tuple #[i 5, i 0]) ∧ Below w.heap.size w w' := by
  refine (next_in 0 false 0 32 5 w ht (by omega) (by omega) (by omega) (by omega) (by omega) (by omega) (by omega) (by omega)).mono ?_
  rintro e w' ⟨r, c, rfl, hn, hb⟩
  have h5 : Cal.NextIs 0 false 0 32 5 5 0 := by
    refine .inl ⟨rfl, by omega, by omega, by omega, ⟨by decide +kernel, by decide +kernel⟩, fun v h1 h2 hh => ?_⟩
    have := hh.1
    rw [Cal.offs_off 0 v ⟨by omega, by omega⟩] at this
    omega
  obtain ⟨rfl, rfl⟩ := hn.eq h5
  exact ⟨rfl, hb⟩
theorem ex_sum1 (w : World) (ht : Tab w) : Calls Tryd.prog 18 #[i 122459] w fun e w' => e = .returned (.bool false) ∧ ∃ m, w' = w.drewN m := summer_is _ _ ht (by decide +kernel)
theorem ex_sum2 (w : World) (ht : Tab w) : Calls Tryd.prog 18 #[i 122460] w fun e w' => e = .returned (.bool true) ∧ ∃ m, w' = w.drewN m := summer_is _ _ ht (by decide +kernel)
theorem ex_off (w : World) (ht : Tab w) : Calls Tryd.prog 20 #[zone 60 true, i 122460] w fun e w' => e = .returned (i 120) ∧ Below w.heap.size w w' := by
  have := offset 60 true 122460 w ht
  rw [show Cal.offs 60 true 122460 = 120 by decide +kernel] at this
  exact this

set_option maxHeartbeats 800000 in
theorem example_holds (w : World) (ht : Tab w) : Calls Tryd.prog 13 #[] w fun e w' => e = .returned (.bool true) ∧ Below w.heap.size w w' := by
  go_enter Tryd.func13, Tryd.ntmps13
  go_wp2_with fail
  refine (ex_date w ht).mono ?_
  rintro e w1 ⟨rfl, hb1⟩
  have ht1 := ht.below hb1 ht.lt
  have s1 := hb1.size
  go_wp2_with fail
  refine (ex_time _ (ht1.alloc _)).mono ?_
  rintro e w2 ⟨rfl, hb2⟩
  have ht2 := (ht1.alloc _).below hb2 (ht1.alloc _).lt
  have s2 := hb2.size
  simp at s2
  go_wp2_with fail
  refine (ex_local _ ht2).mono ?_
  rintro e w3 ⟨rfl, hb3⟩
  have ht3 := ht2.below hb3 ht2.lt
  have s3 := hb3.size
  go_wp2_with fail
  refine (ex_next _ (ht3.alloc _)).mono ?_
  rintro e w4 ⟨rfl, hb4⟩
  have ht4 := (ht3.alloc _).below hb4 (ht3.alloc _).lt
  have s4 := hb4.size
  simp at s4
  have c1 : ∀ o, w4.cell? ⟨w1.heap.size, o, none⟩ = (w1.alloc (.cells #[i 2000, i 1, i 1, i 6, i 0] 23)).cell? ⟨w1.heap.size, o, none⟩ := fun o =>
    ((hb4.cell (p := ⟨w1.heap.size, o, none⟩) (by simp; omega)).trans (Below.cell ((Below.refl _ _).alloc (Nat.le_refl _) _) (p := ⟨w1.heap.size, o, none⟩) (show w1.heap.size < w3.heap.size by omega))).trans ((hb3.cell (p := ⟨w1.heap.size, o, none⟩) (by simp; omega)).trans (hb2.cell (p := ⟨w1.heap.size, o, none⟩) (by simp)))
  have c2 : ∀ o, w4.cell? ⟨w3.heap.size, o, none⟩ = (w3.alloc (.cells #[i 1999, i 12, i 31, i 5, i 1380] 23)).cell? ⟨w3.heap.size, o, none⟩ := fun o => hb4.cell (p := ⟨w3.heap.size, o, none⟩) (by simp)
  go_wp2_with fail
  refine (ex_sum1 _ ht4).mono ?_
  rintro e w' ⟨rfl, m, rfl⟩
  go_wp2_with fail
  refine (ex_sum2 _ (ht4.drewN _)).mono ?_
  rintro e w' ⟨rfl, m2, rfl⟩
  go_wp2_with fail
  refine (ex_off _ (ht4.drewN _)).mono ?_
  rintro e w5 ⟨rfl, hb5⟩
  go_wp2_with fail
  go_ret
  refine ⟨rfl, ?_⟩
  refine Below.trans ?_ (hb5.mono (by show w.heap.size ≤ w4.heap.size; omega))
  refine below_drewN ?_ _
  refine Below.trans ?_ (hb4.mono (by simp; omega))
  refine Below.alloc ?_ (by omega) _
  refine Below.trans ?_ (hb3.mono (by omega))
  refine Below.trans ?_ (hb2.mono (by simp; omega))
  exact Below.alloc hb1 (by omega) _
end CalW
end Go.Proofs.YtakpgoedijhpgaaDoor
