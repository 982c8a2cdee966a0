/-
  The walks of package calendar's exported functions Date and Time, and of what they call.
-/
import Derived.Test.YtndlhhiifmjieaaDoorCalW
namespace Go.Proofs.YtndlhhiifmjieaaDoor
namespace CalW
set_option linter.unusedSimpArgs false
set_option linter.unusedVariables false
open Go.RowKit

set_option maxHeartbeats 400000 in
theorem lastSunday (y m : Int) (w : World) (h : 0 ≤ y) (h' : y ≤ 100000) (hm : 1 ≤ m) (hm' : m ≤ 12) (ht : Tab w) :
    Calls Tryd.prog 96 #[i y, i m] w fun e w' => e = .returned (i (Cal.ls y m)) ∧ ∃ m, w' = w.drewN m := by
  have hys := Cal.ys_bd y (by omega) (by omega)
  go_enter Tryd.func96, Tryd.ntmps96
  go_wp2_with (go_at_call 90; refine (yearStart _ _ (by omega) (by omega)).mono ?_; rintro e w' ⟨rfl, n, rfl⟩)
  go_loop [5, 6] (fun d k => ∃ j : Int, 1 ≤ j ∧ j ≤ m + 1 ∧ k = i j ∧ d = i (Cal.ys y - 1 + Cal.cum (Cal.lp y) j)) (fun _ k => (13 - intOf k).toNat)
  case atStart => exact ⟨1, by omega, by omega, rfl, by simp [Cal.cum]⟩
  case round =>
    obtain ⟨j, hj1, hj2, rfl, rfl⟩ := hrel
    have cb := Cal.cum_bd (Cal.lp y) j (Cal.lp_01 _).1 (Cal.lp_01 _).2
    have db := Cal.md_bd y j
    by_cases hlt : j ≤ m
    · have HC := Lib.hid (Cal.cum_succ y j hj1 (by omega))
      go_wp2_with (go_at_call 91; refine (monthDays _ _ _ (by omega) (by omega) (by omega) (by omega) (by exact ht.drewN _)).mono ?_; rintro e w' ⟨rfl, rfl⟩)
      go_round
      case rel => exact ⟨j + 1, by omega, by omega, rfl, by rw [HC.out]; go_num⟩
      case measure => simp [intOf]; omega
    · have HJ : Hid (j = m + 1) := (by omega : j = m + 1)
      have wb := Cal.wd_bd (Cal.ys y - 1 + Cal.cum (Cal.lp y) j)
      go_wp2_with (go_at_call 92; refine (weekday _ _ (by omega) (by omega)).mono ?_; rintro e w' ⟨rfl, m3, rfl⟩)
      go_ret
      refine ⟨ret1 ?_, _, rfl⟩
      rw [HJ.out]
      rfl

set_option maxHeartbeats 400000 in
theorem isTime_yes (t : Int) (w : World) (h : 0 ≤ t) (h' : t ≤ 268435456) : Calls Tryd.prog 82 #[i t] w fun e w' => e = .returned (.bool true) ∧ w = w' := by
  go_enter Tryd.func82, Tryd.ntmps82
  go_wp2
  all_goals go_ret
  all_goals exact ⟨retB (by first | (simp; done) | (simp; omega)), rfl⟩
set_option maxHeartbeats 400000 in
theorem isTime_no (t : Int) (w : World) (h : ¬ (0 ≤ t ∧ t ≤ 268435456)) : Calls Tryd.prog 82 #[i t] w fun e w' => e = .returned (.bool false) ∧ w = w' := by
  go_enter Tryd.func82, Tryd.ntmps82
  go_wp2
  all_goals go_ret
  all_goals exact ⟨retB (by first | (simp; done) | (simp; omega)), rfl⟩

abbrev noDate : Value := .agg #[i 0, i 0, i 0, i 0, i 0]

theorem bcell {W w1 : World} (hb : Below W.heap.size W w1) : (∀ b o, b < W.heap.size → w1.cell? ⟨b, o, none⟩ = W.cell? ⟨b, o, none⟩) ∧ (∀ b o, b < W.heap.size → w1.frozen? ⟨b, o, none⟩ = W.frozen? ⟨b, o, none⟩) :=
  ⟨fun b o h => hb.cell (p := ⟨b, o, none⟩) h, fun b o h => hb.frozen (p := ⟨b, o, none⟩) h⟩

abbrev dateV (y m k v mi : Int) : Value := .agg #[i y, i m, i k, i v, i mi]

end CalW
end Go.Proofs.YtndlhhiifmjieaaDoor
