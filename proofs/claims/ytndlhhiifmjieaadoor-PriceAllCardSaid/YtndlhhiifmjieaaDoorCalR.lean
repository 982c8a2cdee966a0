/-
  The walks of the calendar's reference: the same words.
-/
import Derived.Test.YtndlhhiifmjieaaDoorCalN
import Derived.Deep.RegionHeld3
namespace Go.Proofs.YtndlhhiifmjieaaDoor
namespace CalW
set_option linter.unusedSimpArgs false
set_option linter.unusedVariables false
open Go.RowKit

set_option maxHeartbeats 400000 in
theorem rleap (y : Int) (w : World) (h : 0 ≤ y) (h' : y ≤ 100000) {b : Bool} (hb : Cal.lpB y = b) :
    Calls Tryd.prog 86 #[i y] w fun e w' => e = .returned (.bool b) ∧ w = w' := by
  subst hb
  go_enter Tryd.func86, Tryd.ntmps86
  go_wp2
  all_goals go_ret
  all_goals refine ⟨retB ?_, rfl⟩
  all_goals (simp_all [Cal.lpB]; try rfl)

set_option maxHeartbeats 1000000 in
theorem rlength (y m : Int) (w : World) (h : 0 ≤ y) (h' : y ≤ 100000) (hm : 1 ≤ m) (hm' : m ≤ 12) :
    Calls Tryd.prog 79 #[i y, i m] w fun e w' => e = .returned (i (Cal.md y m)) ∧ w = w' := by
  have hc : m = 1 ∨ m = 2 ∨ m = 3 ∨ m = 4 ∨ m = 5 ∨ m = 6 ∨ m = 7 ∨ m = 8 ∨ m = 9 ∨ m = 10 ∨ m = 11 ∨ m = 12 := by omega
  by_cases h2 : m = 2
  · subst h2
    clear hc
    cases hl : Cal.lpB y
    · rw [md2_no hl]
      have HL := Lib.hid hl
      clear hl
      go_enter Tryd.func79, Tryd.ntmps79
      go_wp2_with (go_at_call 86; refine (rleap y _ (by omega) (by omega) HL.out).mono ?_; rintro e w' ⟨rfl, rfl⟩)
      go_ret
      exact ⟨rfl, rfl⟩
    · rw [md2_yes hl]
      have HL := Lib.hid hl
      clear hl
      go_enter Tryd.func79, Tryd.ntmps79
      go_wp2_with (go_at_call 86; refine (rleap y _ (by omega) (by omega) HL.out).mono ?_; rintro e w' ⟨rfl, rfl⟩)
      go_ret
      exact ⟨rfl, rfl⟩
  · rcases hc with rfl | rfl | rfl | rfl | rfl | rfl | rfl | rfl | rfl | rfl | rfl | rfl
    all_goals first | omega | skip
    all_goals simp only [Cal.md, Int.reduceEq, if_false, if_true, or_self, or_true, or_false, false_or, true_or]
    all_goals go_enter Tryd.func79, Tryd.ntmps79
    all_goals go_wp2_with fail
    all_goals go_ret
    all_goals exact ⟨rfl, rfl⟩

set_option maxHeartbeats 400000 in
theorem rfirst (y : Int) (w : World) (h : 1999 ≤ y) (h' : y ≤ 100000) :
    Calls Tryd.prog 78 #[i y] w fun e w' => e = .returned (i (Cal.ys y)) ∧ w = w' := by
  by_cases hy : y < 2000
  · obtain rfl : y = 1999 := by omega
    go_enter Tryd.func78, Tryd.ntmps78
    go_wp2_with fail
    go_ret
    exact ⟨rfl, rfl⟩
  · go_enter Tryd.func78, Tryd.ntmps78
    go_wp2_with fail
    go_ret
    exact ⟨rfl, rfl⟩

set_option maxHeartbeats 800000 in
theorem rcivil (t : Int) (w : World) (h : -1000 ≤ t) (h' : t ≤ 300000000) :
    Calls Tryd.prog 73 #[i t] w fun e w' => e = .returned (date (t / 1440) (t % 1440)) ∧ Below w.heap.size w w' := by
  by_cases h0 : 0 ≤ t
  · have d1 : 0 ≤ t / 1440 := by omega
    have d2 : t / 1440 ≤ 210000 := by omega
    have y1 : 2000 ≤ 2000 + t / 1440 / 366 := by omega
    have y2 := Cal.ys_guess (t / 1440) d1 (by omega)
    go_enter Tryd.func73, Tryd.ntmps73
    go_wp2_with fail
    have hy := Cal.yr_bd (t / 1440) (by omega) (by omega)
    have hmo := Cal.mo_bd (t / 1440)
    have hys := Cal.ys_bd (Cal.yr (t / 1440)) (by omega) (by omega)
    go_loop [5] (fun x => ∃ y : Int, 1999 ≤ y ∧ y ≤ Cal.yr (t / 1440) ∧ x = i y) (fun x => (3000 - intOf x).toNat)
    case atStart => exact ⟨_, by omega, y2, rfl⟩
    case round =>
      obtain ⟨y, h1, h2, rfl⟩ := hrel
      clear y1 y2
      by_cases hlt : y < Cal.yr (t / 1440)
      · have hle := (yr_up (t / 1440) y).2 hlt
        go_wp2_with (go_at_call 78; refine (rfirst _ _ (by omega) (by omega)).mono ?_; rintro e w' ⟨rfl, rfl⟩)
        go_round
        case rel => exact ⟨y + 1, by omega, by omega, rfl⟩
        case measure => simp [intOf]; omega
      · have hle : ¬ Cal.ys (y + 1) ≤ t / 1440 := fun g => hlt ((yr_up (t / 1440) y).1 g)
        obtain rfl : y = Cal.yr (t / 1440) := by omega
        clear hlt h2
        go_wp2_with (go_at_call 78; refine (rfirst _ _ (by omega) (by omega)).mono ?_; rintro e w' ⟨rfl, rfl⟩)
        go_loop [6, 7] (fun r k => ∃ m : Int, 1 ≤ m ∧ m ≤ Cal.mo (t / 1440) ∧ k = i m ∧ r = i (t / 1440 - Cal.ys (Cal.yr (t / 1440)) - Cal.cum (Cal.lp (Cal.yr (t / 1440))) m)) (fun _ k => (12 - intOf k).toNat)
        case atStart => exact ⟨1, by omega, by omega, rfl, by simp [Cal.cum]⟩
        case round =>
          obtain ⟨m, hm1, hm2, rfl, rfl⟩ := hrel
          have cb := Cal.cum_bd (Cal.lp (Cal.yr (t / 1440))) m (Cal.lp_01 _).1 (Cal.lp_01 _).2
          have db := Cal.md_bd (Cal.yr (t / 1440)) m
          have HU := Lib.hid (Cal.mo_up (t / 1440) m hm1 hm2)
          by_cases hlt : m < Cal.mo (t / 1440)
          · have hle := HU.out.2 hlt
            have HC := Lib.hid (Cal.cum_succ (Cal.yr (t / 1440)) m hm1 (by omega))
            go_wp2_with (go_at_call 79; refine (rlength _ _ _ (by omega) (by omega) (by omega) (by omega)).mono ?_; rintro e w' ⟨rfl, rfl⟩)
            go_round
            case rel => exact ⟨m + 1, by omega, by omega, rfl, by rw [HC.out]; go_num⟩
            case measure => simp [intOf]; omega
          · have hle : ¬ Cal.md (Cal.yr (t / 1440)) m ≤ t / 1440 - Cal.ys (Cal.yr (t / 1440)) - Cal.cum (Cal.lp (Cal.yr (t / 1440))) m := fun g => hlt (HU.out.1 g)
            have HM : Hid (m = Cal.mo (t / 1440)) := (by omega : m = Cal.mo (t / 1440))
            go_wp2_with (go_at_call 79; refine (rlength _ _ _ (by omega) (by omega) (by omega) (by omega)).mono ?_; rintro e w' ⟨rfl, rfl⟩)
            refine bodyPost_ret (v := date (t / 1440) (t % 1440)) ?_ rfl ⟨rfl, ?_⟩
            · have e := HM.out
              subst e
              simp [results, Tryd.results73, go_sem, date, Cal.dy, Cal.wd]
              try omega
            · repeat (first | (with_reducible exact Below.refl _ _) | (with_reducible refine below_drewN ?_ _) | (with_reducible refine Below.setCell ?_ (by simp) _) | (with_reducible refine Below.alloc ?_ (by simp) _))
  · have e1 : t.tdiv 1440 = 0 := by rw [show t = -(-t) by omega, Int.neg_tdiv, Int.tdiv_eq_zero_of_lt (by omega) (by omega)]; rfl
    have e2 : t.tmod 1440 = t := by rw [show t = -(-t) by omega, Int.neg_tmod, Int.tmod_eq_of_lt (by omega) (by omega)]
    have y1 : True := trivial
    have y2 := Cal.yr_ge (-1) (by omega)
    rw [show t / 1440 = -1 by omega, show t % 1440 = t + 1440 by omega]
    go_enter Tryd.func73, Tryd.ntmps73
    go_wp2_with fail
    have hy := Cal.yr_bd (-1) (by omega) (by omega)
    have hmo := Cal.mo_bd (-1)
    have hys := Cal.ys_bd (Cal.yr (-1)) (by omega) (by omega)
    go_loop [5] (fun x => ∃ y : Int, 1999 ≤ y ∧ y ≤ Cal.yr (-1) ∧ x = i y) (fun x => (3000 - intOf x).toNat)
    case atStart => exact ⟨_, by omega, y2, rfl⟩
    case round =>
      obtain ⟨y, h1, h2, rfl⟩ := hrel
      clear y1 y2
      by_cases hlt : y < Cal.yr (-1)
      · have hle := (yr_up (-1) y).2 hlt
        go_wp2_with (go_at_call 78; refine (rfirst _ _ (by omega) (by omega)).mono ?_; rintro e w' ⟨rfl, rfl⟩)
        go_round
        case rel => exact ⟨y + 1, by omega, by omega, rfl⟩
        case measure => simp [intOf]; omega
      · have hle : ¬ Cal.ys (y + 1) ≤ -1 := fun g => hlt ((yr_up (-1) y).1 g)
        obtain rfl : y = Cal.yr (-1) := by omega
        clear hlt h2
        go_wp2_with (go_at_call 78; refine (rfirst _ _ (by omega) (by omega)).mono ?_; rintro e w' ⟨rfl, rfl⟩)
        go_loop [6, 7] (fun r k => ∃ m : Int, 1 ≤ m ∧ m ≤ Cal.mo (-1) ∧ k = i m ∧ r = i (-1 - Cal.ys (Cal.yr (-1)) - Cal.cum (Cal.lp (Cal.yr (-1))) m)) (fun _ k => (12 - intOf k).toNat)
        case atStart => exact ⟨1, by omega, by omega, rfl, by simp [Cal.cum]⟩
        case round =>
          obtain ⟨m, hm1, hm2, rfl, rfl⟩ := hrel
          have cb := Cal.cum_bd (Cal.lp (Cal.yr (-1))) m (Cal.lp_01 _).1 (Cal.lp_01 _).2
          have db := Cal.md_bd (Cal.yr (-1)) m
          have HU := Lib.hid (Cal.mo_up (-1) m hm1 hm2)
          by_cases hlt : m < Cal.mo (-1)
          · have hle := HU.out.2 hlt
            have HC := Lib.hid (Cal.cum_succ (Cal.yr (-1)) m hm1 (by omega))
            go_wp2_with (go_at_call 79; refine (rlength _ _ _ (by omega) (by omega) (by omega) (by omega)).mono ?_; rintro e w' ⟨rfl, rfl⟩)
            go_round
            case rel => exact ⟨m + 1, by omega, by omega, rfl, by rw [HC.out]; go_num⟩
            case measure => simp [intOf]; omega
          · have hle : ¬ Cal.md (Cal.yr (-1)) m ≤ -1 - Cal.ys (Cal.yr (-1)) - Cal.cum (Cal.lp (Cal.yr (-1))) m := fun g => hlt (HU.out.1 g)
            have HM : Hid (m = Cal.mo (-1)) := (by omega : m = Cal.mo (-1))
            go_wp2_with (go_at_call 79; refine (rlength _ _ _ (by omega) (by omega) (by omega) (by omega)).mono ?_; rintro e w' ⟨rfl, rfl⟩)
            refine bodyPost_ret (v := date (-1) (t + 1440)) ?_ rfl ⟨rfl, ?_⟩
            · have e := HM.out
              subst e
              simp [results, Tryd.results73, go_sem, date, Cal.dy, Cal.wd]
              try omega
            · repeat (first | (with_reducible exact Below.refl _ _) | (with_reducible refine below_drewN ?_ _) | (with_reducible refine Below.setCell ?_ (by simp) _) | (with_reducible refine Below.alloc ?_ (by simp) _))
end CalW
end Go.Proofs.YtndlhhiifmjieaaDoor
