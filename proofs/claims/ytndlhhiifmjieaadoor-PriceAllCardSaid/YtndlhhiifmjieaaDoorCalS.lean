/-
  The walks of the calendar's reference, exported functions.
-/
import Derived.Test.YtndlhhiifmjieaaDoorCalR
namespace Go.Proofs.YtndlhhiifmjieaaDoor
namespace CalW
set_option linter.unusedSimpArgs false
set_option linter.unusedVariables false
open Go.RowKit

set_option maxHeartbeats 400000 in
theorem right_yes (t : Int) (w : World) (h : 0 ≤ t) (h' : t ≤ 268435456) : Calls Tryd.prog 38 #[i t] w fun e w' => e = .returned (.bool true) ∧ w = w' := by
  go_enter Tryd.func38, Tryd.ntmps38
  go_wp2
  all_goals go_ret
  all_goals exact ⟨retB (by first | (simp; done) | (simp; omega)), rfl⟩
set_option maxHeartbeats 400000 in
theorem right_no (t : Int) (w : World) (h : ¬ (0 ≤ t ∧ t ≤ 268435456)) : Calls Tryd.prog 38 #[i t] w fun e w' => e = .returned (.bool false) ∧ w = w' := by
  go_enter Tryd.func38, Tryd.ntmps38
  go_wp2
  all_goals go_ret
  all_goals exact ⟨retB (by first | (simp; done) | (simp; omega)), rfl⟩

set_option maxHeartbeats 400000 in
theorem rzone_yes (z : Int) (s : Bool) (w : World) (h : -840 ≤ z) (h' : z ≤ 840) :
    Calls Tryd.prog 37 #[zone z s] w fun e w' => e = .returned (.bool true) ∧ Below w.heap.size w w' := by
  go_enter Tryd.func37, Tryd.ntmps37
  go_wp2
  all_goals go_ret
  all_goals exact ⟨retB (by first | (simp; done) | (simp; omega)), (Below.refl _ _).alloc (Nat.le_refl _) _⟩
set_option maxHeartbeats 400000 in
theorem rzone_no (z : Int) (s : Bool) (w : World) (h : ¬ (-840 ≤ z ∧ z ≤ 840)) :
    Calls Tryd.prog 37 #[zone z s] w fun e w' => e = .returned (.bool false) ∧ Below w.heap.size w w' := by
  go_enter Tryd.func37, Tryd.ntmps37
  go_wp2
  all_goals go_ret
  all_goals exact ⟨retB (by first | (simp; done) | (simp; omega)), (Below.refl _ _).alloc (Nat.le_refl _) _⟩

set_option maxHeartbeats 400000 in
theorem after (y mo dy v mi m : Int) (w : World) (hm : m = 3 ∨ m = 10) (h1 : 1 ≤ dy) (h2 : dy ≤ 31) (h3 : 1 ≤ v) (h4 : v ≤ 7) {b : Bool} (hb : Cal.aft mo dy v mi m = b) :
    Calls Tryd.prog 87 #[dateV y mo dy v mi, i m] w fun e w' => e = .returned (.bool b) ∧ Below w.heap.size w w' := by
  subst hb
  by_cases hmo : mo = m
  · have hb : (mo != m) = false := by simpa using hmo
    have HM := Lib.hid hmo
    clear hmo
    go_enter Tryd.func87, Tryd.ntmps87
    go_wp2_with fail
    go_loop [5] (fun x => ∃ s : Int, -10 ≤ s ∧ s ≤ 31 ∧ x = i s ∧ Hid ((s - (dy - v % 7)) % 7 = 0)) (fun x => (31 - intOf x).toNat)
    case atStart => exact ⟨_, by omega, by omega, rfl, Lib.hid (by omega)⟩
    case round =>
      obtain ⟨s, hs1, hs2, rfl, HS⟩ := hrel
      by_cases hlt : s + 7 ≤ 31
      · go_wp2_with fail
        go_round
        case rel => exact ⟨s + 7, by omega, by omega, rfl, Lib.hid (by have := HS.out; omega)⟩
        case measure => simp [intOf]; omega
      · have HE : Hid (s = dy - v % 7 + 7 * ((31 - (dy - v % 7)) / 7)) := by have := HS.out; exact (by omega : s = dy - v % 7 + 7 * ((31 - (dy - v % 7)) / 7))
        go_wp2_with fail
        all_goals go_ret
        all_goals refine ⟨retB ?_, (Below.refl _ _).alloc (Nat.le_refl _) _⟩
        all_goals
          have hE := HE.out
          unfold Cal.aft
          rw [if_pos HM.out]
          try rw [Bool.eq_iff_iff]
          simp only [Bool.or_eq_true, Bool.and_eq_true, decide_eq_true_eq, gt_iff_lt, Bool.false_eq_true, iff_true, iff_false, true_iff, false_iff]
          omega
  · have hb : (mo != m) = true := by simpa using hmo
    have HM := Lib.hid hmo
    clear hmo
    go_enter Tryd.func87, Tryd.ntmps87
    go_wp2_with fail
    go_ret
    refine ⟨retB ?_, (Below.refl _ _).alloc (Nat.le_refl _) _⟩
    unfold Cal.aft
    rw [if_neg HM.out]
end CalW
end Go.Proofs.YtndlhhiifmjieaaDoor
