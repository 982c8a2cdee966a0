/-
  The walks of the calendar's reference, exported functions.
-/
import Derived.Test.YtakpgoedijhpgaaDoorCalR
namespace Go.Proofs.YtakpgoedijhpgaaDoor
namespace CalW
set_option linter.unusedSimpArgs false
set_option linter.unusedVariables false
open Go.RowKit

set_option maxHeartbeats 400000 in
theorem right_yes (t : Int) (w : World) (h : 0 ≤ t) (h' : t ≤ 268435456) : Calls Tryd.prog 27 #[i t] w fun e w' => e = .returned (.bool true) ∧ w = w' := by
  go_enter Tryd.func27, Tryd.ntmps27
  go_wp2
  all_goals go_ret
  all_goals exact ⟨retB (by first | (simp; done) | (simp; omega)), rfl⟩
set_option maxHeartbeats 400000 in
theorem right_no (t : Int) (w : World) (h : ¬ (0 ≤ t ∧ t ≤ 268435456)) : Calls Tryd.prog 27 #[i t] w fun e w' => e = .returned (.bool false) ∧ w = w' := by
  go_enter Tryd.func27, Tryd.ntmps27
  go_wp2
  all_goals go_ret
  all_goals exact ⟨retB (by first | (simp; done) | (simp; omega)), rfl⟩

set_option maxHeartbeats 400000 in
theorem rzone_yes (z : Int) (s : Bool) (w : World) (h : -840 ≤ z) (h' : z ≤ 840) :
    Calls Tryd.prog 35 #[zone z s] w fun e w' => e = .returned (.bool true) ∧ Below w.heap.size w w' := by
  go_enter Tryd.func35, Tryd.ntmps35
  go_wp2
  all_goals go_ret
  all_goals exact ⟨retB (by first | (simp; done) | (simp; omega)), (Below.refl _ _).alloc (Nat.le_refl _) _⟩
set_option maxHeartbeats 400000 in
theorem rzone_no (z : Int) (s : Bool) (w : World) (h : ¬ (-840 ≤ z ∧ z ≤ 840)) :
    Calls Tryd.prog 35 #[zone z s] w fun e w' => e = .returned (.bool false) ∧ Below w.heap.size w w' := by
  go_enter Tryd.func35, Tryd.ntmps35
  go_wp2
  all_goals go_ret
  all_goals exact ⟨retB (by first | (simp; done) | (simp; omega)), (Below.refl _ _).alloc (Nat.le_refl _) _⟩

set_option maxHeartbeats 400000 in
theorem rdate_no (t : Int) (w : World) (h : ¬ (0 ≤ t ∧ t ≤ 268435456)) :
    Calls Tryd.prog 12 #[i t] w fun e w' => e = .returned (.tuple #[noDate, i 2]) ∧ Below w.heap.size w w' := by
  go_enter Tryd.func12, Tryd.ntmps12
  go_wp2_with (go_at_call 27; refine (right_no _ _ h).mono ?_; rintro e w' ⟨rfl, rfl⟩)
  refine bodyPost_ret (v := .tuple #[noDate, i 2]) (by simp [results, Tryd.results12, go_sem]) rfl ⟨rfl, ?_⟩
  repeat (first | (with_reducible exact Below.refl _ _) | (with_reducible refine below_drewN ?_ _) | (with_reducible refine Below.setCell ?_ (by simp) _) | (with_reducible refine Below.alloc ?_ (by simp) _))

set_option maxHeartbeats 400000 in
theorem rdate_yes (t : Int) (w : World) (h : 0 ≤ t) (h' : t ≤ 268435456) :
    Calls Tryd.prog 12 #[i t] w fun e w' => e = .returned (.tuple #[date (t / 1440) (t % 1440), i 0]) ∧ Below w.heap.size w w' := by
  go_enter Tryd.func12, Tryd.ntmps12
  go_wp2_with (go_at_call 27; refine (right_yes _ _ h h').mono ?_; rintro e w' ⟨rfl, rfl⟩)
  refine (rcivil t _ (by omega) (by omega)).mono ?_
  rintro e w1 ⟨rfl, hb⟩
  obtain ⟨hc, hf⟩ := bcell hb
  unfold date
  go_wp2_with fail
  refine bodyPost_ret (v := .tuple #[date (t / 1440) (t % 1440), i 0]) (by simp [results, Tryd.results12, go_sem, date, hc, hf]) rfl ⟨rfl, ?_⟩
  have := hb.size
  simp at this
  repeat (first | (with_reducible exact Below.refl _ _) | (with_reducible refine below_drewN ?_ _) | (with_reducible refine Below.setCell ?_ (by simp) _) | (with_reducible refine Below.alloc ?_ (by simp) _) | (with_reducible refine Below.trans ?_ (hb.mono (by simp))))

set_option maxHeartbeats 1600000 in
theorem rtime_no (y m k v mi : Int) (w : World) (h : ¬ (2000 ≤ y ∧ y ≤ 2600 ∧ 1 ≤ m ∧ m ≤ 12 ∧ 1 ≤ k ∧ k ≤ Cal.md y m ∧ 0 ≤ mi ∧ mi ≤ 1439)) :
    Calls Tryd.prog 15 #[dateV y m k v mi] w fun e w' => e = .returned (.tuple #[i 0, i 1]) ∧ Below w.heap.size w w' := by
  have mb := Cal.md_bd y m
  have hc : (decide (y < 2000) = true) ∨ (decide (y < 2000) = false ∧ decide (2600 < y) = true) ∨ (decide (y < 2000) = false ∧ decide (2600 < y) = false ∧ decide (m < 1) = true) ∨
      (decide (y < 2000) = false ∧ decide (2600 < y) = false ∧ decide (m < 1) = false ∧ decide (12 < m) = true) ∨
      (decide (y < 2000) = false ∧ decide (2600 < y) = false ∧ decide (m < 1) = false ∧ decide (12 < m) = false ∧ decide (k < 1) = true) ∨
      (decide (y < 2000) = false ∧ decide (2600 < y) = false ∧ decide (m < 1) = false ∧ decide (12 < m) = false ∧ decide (k < 1) = false ∧ decide (Cal.md y m < k) = true) ∨
      (decide (y < 2000) = false ∧ decide (2600 < y) = false ∧ decide (m < 1) = false ∧ decide (12 < m) = false ∧ decide (k < 1) = false ∧ decide (Cal.md y m < k) = false ∧ decide (mi < 0) = true) ∨
      (decide (y < 2000) = false ∧ decide (2600 < y) = false ∧ decide (m < 1) = false ∧ decide (12 < m) = false ∧ decide (k < 1) = false ∧ decide (Cal.md y m < k) = false ∧ decide (mi < 0) = false ∧ decide (1439 < mi) = true) := by
    simp only [decide_eq_true_eq, decide_eq_false_iff_not]
    omega
  have hr : (decide (y < 2000) = false ∧ decide (2600 < y) = false ∧ decide (m < 1) = false ∧ decide (12 < m) = false) → Hid (0 ≤ y ∧ y ≤ 100000 ∧ 1 ≤ m ∧ m ≤ 12) := by
    simp only [decide_eq_false_iff_not]
    intro h
    exact (by omega : 0 ≤ y ∧ y ≤ 100000 ∧ 1 ≤ m ∧ m ≤ 12)
  clear h mb
  rcases hc with d1 | ⟨d1, d2⟩ | ⟨d1, d2, d3⟩ | ⟨d1, d2, d3, d4⟩ | ⟨d1, d2, d3, d4, d5⟩ | ⟨d1, d2, d3, d4, d5, d6⟩ | ⟨d1, d2, d3, d4, d5, d6, d7⟩ | ⟨d1, d2, d3, d4, d5, d6, d7, d8⟩
  iterate 5
    · clear hr
      go_enter Tryd.func15, Tryd.ntmps15
      go_wp2_with fail
      go_quiet (fail)
      go_wp2_with fail
      go_ret2
      exact ⟨rfl, below_drewN ((Below.refl _ _).alloc (Nat.le_refl _) _) _⟩
  iterate 3
    · have HR := hr ⟨d1, d2, d3, d4⟩
      clear hr
      go_enter Tryd.func15, Tryd.ntmps15
      go_wp2_with fail
      go_quiet ((go_at_call 32; exact quiet_left (rlength _ _ _ HR.out.1 HR.out.2.1 HR.out.2.2.1 HR.out.2.2.2)))
      go_wp2_with fail
      go_ret2
      exact ⟨rfl, below_drewN ((Below.refl _ _).alloc (Nat.le_refl _) _) _⟩

set_option maxHeartbeats 400000 in
theorem after (y mo dy v mi m : Int) (w : World) (hm : m = 3 ∨ m = 10) (h1 : 1 ≤ dy) (h2 : dy ≤ 31) (h3 : 1 ≤ v) (h4 : v ≤ 7) {b : Bool} (hb : Cal.aft mo dy v mi m = b) :
    Calls Tryd.prog 38 #[dateV y mo dy v mi, i m] w fun e w' => e = .returned (.bool b) ∧ Below w.heap.size w w' := by
  subst hb
  by_cases hmo : mo = m
  · have hb : (mo != m) = false := by simpa using hmo
    have HM := Lib.hid hmo
    clear hmo
    go_enter Tryd.func38, Tryd.ntmps38
    go_wp2_with fail
    go_loop [5] (fun x => ∃ s : Int, -10 ≤ s ∧ s ≤ 31 ∧ x = i s ∧ Hid ((s - (dy - v % 7)) % 7 = 0)) (fun x => (31 - intOf x).toNat)
    case atStart => exact ⟨_, by omega, by omega, rfl, Lib.hid (by omega)⟩
    case round =>
      obtain ⟨s, hs1, hs2, rfl, HS⟩ := hrel
      by_cases hlt : s + 7 ≤ 31
      · go_wp2_with fail
        go_round
        case rel => exact ⟨s + 7, by omega, by omega, rfl, Lib.hid (by have := HS.out; omega)⟩
        case measure => simp [intOf]; omega
      · have HE : Hid (s = dy - v % 7 + 7 * ((31 - (dy - v % 7)) / 7)) := by have := HS.out; exact (by omega : s = dy - v % 7 + 7 * ((31 - (dy - v % 7)) / 7))
        go_wp2_with fail
        all_goals go_ret
        all_goals refine ⟨retB ?_, (Below.refl _ _).alloc (Nat.le_refl _) _⟩
        all_goals
          have hE := HE.out
          unfold Cal.aft
          rw [if_pos HM.out]
          try rw [Bool.eq_iff_iff]
          simp only [Bool.or_eq_true, Bool.and_eq_true, decide_eq_true_eq, gt_iff_lt, Bool.false_eq_true, iff_true, iff_false, true_iff, false_iff]
          omega
  · have hb : (mo != m) = true := by simpa using hmo
    have HM := Lib.hid hmo
    clear hmo
    go_enter Tryd.func38, Tryd.ntmps38
    go_wp2_with fail
    go_ret
    refine ⟨retB ?_, (Below.refl _ _).alloc (Nat.le_refl _) _⟩
    unfold Cal.aft
    rw [if_neg HM.out]
end CalW
end Go.Proofs.YtakpgoedijhpgaaDoor
