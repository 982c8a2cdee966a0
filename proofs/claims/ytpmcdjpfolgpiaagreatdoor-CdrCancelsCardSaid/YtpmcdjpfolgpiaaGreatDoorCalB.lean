/-
  The walks of the calendar's reference: the same words.
  The walks of the calendar's reference, exported functions.
  The walks of the calendar's reference: Time, Summer, Offset, Local, Next.
  The walks of the calendar's reference: Local, On, Next.
  Plain words of tariffs: restrictions.
-/
import Derived.Test.YtpmcdjpfolgpiaaGreatDoorCalA
import Derived.Deep.RegionHeld3
namespace Go.Proofs.YtpmcdjpfolgpiaaGreatDoor
namespace CalW
set_option linter.unusedSimpArgs false
set_option linter.unusedVariables false
open Go.RowKit

set_option maxHeartbeats 400000 in
theorem rleap (y : Int) (w : World) (h : 0 ≤ y) (h' : y ≤ 100000) {b : Bool} (hb : Cal.lpB y = b) :
    Calls Tryz.prog 172 #[i y] w fun e w' => e = .returned (.bool b) ∧ w = w' := by
  subst hb
  go_enter Tryz.func172, Tryz.ntmps172
  go_wp2
  all_goals go_ret
  all_goals refine ⟨retB ?_, rfl⟩
  all_goals (simp_all [Cal.lpB]; try rfl)

set_option maxHeartbeats 1000000 in
theorem rlength (y m : Int) (w : World) (h : 0 ≤ y) (h' : y ≤ 100000) (hm : 1 ≤ m) (hm' : m ≤ 12) :
    Calls Tryz.prog 167 #[i y, i m] w fun e w' => e = .returned (i (Cal.md y m)) ∧ w = w' := by
  have hc : m = 1 ∨ m = 2 ∨ m = 3 ∨ m = 4 ∨ m = 5 ∨ m = 6 ∨ m = 7 ∨ m = 8 ∨ m = 9 ∨ m = 10 ∨ m = 11 ∨ m = 12 := by omega
  by_cases h2 : m = 2
  · subst h2
    clear hc
    cases hl : Cal.lpB y
    · rw [md2_no hl]
      have HL := Lib.hid hl
      clear hl
      go_enter Tryz.func167, Tryz.ntmps167
      go_wp2_with (go_at_call 172; refine (rleap y _ (by omega) (by omega) HL.out).mono ?_; rintro e w' ⟨rfl, rfl⟩)
      go_ret
      exact ⟨rfl, rfl⟩
    · rw [md2_yes hl]
      have HL := Lib.hid hl
      clear hl
      go_enter Tryz.func167, Tryz.ntmps167
      go_wp2_with (go_at_call 172; refine (rleap y _ (by omega) (by omega) HL.out).mono ?_; rintro e w' ⟨rfl, rfl⟩)
      go_ret
      exact ⟨rfl, rfl⟩
  · rcases hc with rfl | rfl | rfl | rfl | rfl | rfl | rfl | rfl | rfl | rfl | rfl | rfl
    all_goals first | omega | skip
    all_goals simp only [Cal.md, Int.reduceEq, if_false, if_true, or_self, or_true, or_false, false_or, true_or]
    all_goals go_enter Tryz.func167, Tryz.ntmps167
    all_goals go_wp2_with fail
    all_goals go_ret
    all_goals exact ⟨rfl, rfl⟩

set_option maxHeartbeats 400000 in
theorem rfirst (y : Int) (w : World) (h : 1999 ≤ y) (h' : y ≤ 100000) :
    Calls Tryz.prog 166 #[i y] w fun e w' => e = .returned (i (Cal.ys y)) ∧ w = w' := by
  by_cases hy : y < 2000
  · obtain rfl : y = 1999 := by omega
    go_enter Tryz.func166, Tryz.ntmps166
    go_wp2_with fail
    go_ret
    exact ⟨rfl, rfl⟩
  · go_enter Tryz.func166, Tryz.ntmps166
    go_wp2_with fail
    go_ret
    exact ⟨rfl, rfl⟩

set_option maxHeartbeats 800000 in
theorem rcivil (t : Int) (w : World) (h : -1000 ≤ t) (h' : t ≤ 300000000) :
    Calls Tryz.prog 160 #[i t] w fun e w' => e = .returned (date (t / 1440) (t % 1440)) ∧ Below w.heap.size w w' := by
  by_cases h0 : 0 ≤ t
  · have d1 : 0 ≤ t / 1440 := by omega
    have d2 : t / 1440 ≤ 210000 := by omega
    have y1 : 2000 ≤ 2000 + t / 1440 / 366 := by omega
    have y2 := Cal.ys_guess (t / 1440) d1 (by omega)
    go_enter Tryz.func160, Tryz.ntmps160
    go_wp2_with fail
    have hy := Cal.yr_bd (t / 1440) (by omega) (by omega)
    have hmo := Cal.mo_bd (t / 1440)
    have hys := Cal.ys_bd (Cal.yr (t / 1440)) (by omega) (by omega)
    go_loop [5] (fun x => ∃ y : Int, 1999 ≤ y ∧ y ≤ Cal.yr (t / 1440) ∧ x = i y) (fun x => (3000 - intOf x).toNat)
    case atStart => exact ⟨_, by omega, y2, rfl⟩
    case round =>
      obtain ⟨y, h1, h2, rfl⟩ := hrel
      clear y1 y2
      by_cases hlt : y < Cal.yr (t / 1440)
      · have hle := (yr_up (t / 1440) y).2 hlt
        go_wp2_with (go_at_call 166; refine (rfirst _ _ (by omega) (by omega)).mono ?_; rintro e w' ⟨rfl, rfl⟩)
        go_round
        case rel => exact ⟨y + 1, by omega, by omega, rfl⟩
        case measure => simp [intOf]; omega
      · have hle : ¬ Cal.ys (y + 1) ≤ t / 1440 := fun g => hlt ((yr_up (t / 1440) y).1 g)
        obtain rfl : y = Cal.yr (t / 1440) := by omega
        clear hlt h2
        go_wp2_with (go_at_call 166; refine (rfirst _ _ (by omega) (by omega)).mono ?_; rintro e w' ⟨rfl, rfl⟩)
        go_loop [6, 7] (fun r k => ∃ m : Int, 1 ≤ m ∧ m ≤ Cal.mo (t / 1440) ∧ k = i m ∧ r = i (t / 1440 - Cal.ys (Cal.yr (t / 1440)) - Cal.cum (Cal.lp (Cal.yr (t / 1440))) m)) (fun _ k => (12 - intOf k).toNat)
        case atStart => exact ⟨1, by omega, by omega, rfl, by simp [Cal.cum]⟩
        case round =>
          obtain ⟨m, hm1, hm2, rfl, rfl⟩ := hrel
          have cb := Cal.cum_bd (Cal.lp (Cal.yr (t / 1440))) m (Cal.lp_01 _).1 (Cal.lp_01 _).2
          have db := Cal.md_bd (Cal.yr (t / 1440)) m
          have HU := Lib.hid (Cal.mo_up (t / 1440) m hm1 hm2)
          by_cases hlt : m < Cal.mo (t / 1440)
          · have hle := HU.out.2 hlt
            have HC := Lib.hid (Cal.cum_succ (Cal.yr (t / 1440)) m hm1 (by omega))
            go_wp2_with (go_at_call 167; refine (rlength _ _ _ (by omega) (by omega) (by omega) (by omega)).mono ?_; rintro e w' ⟨rfl, rfl⟩)
            go_round
            case rel => exact ⟨m + 1, by omega, by omega, rfl, by rw [HC.out]; go_num⟩
            case measure => simp [intOf]; omega
          · have hle : ¬ Cal.md (Cal.yr (t / 1440)) m ≤ t / 1440 - Cal.ys (Cal.yr (t / 1440)) - Cal.cum (Cal.lp (Cal.yr (t / 1440))) m := fun g => hlt (HU.out.1 g)
            have HM : Hid (m = Cal.mo (t / 1440)) := (by omega : m = Cal.mo (t / 1440))
            go_wp2_with (go_at_call 167; refine (rlength _ _ _ (by omega) (by omega) (by omega) (by omega)).mono ?_; rintro e w' ⟨rfl, rfl⟩)
            refine bodyPost_ret (v := date (t / 1440) (t % 1440)) ?_ rfl ⟨rfl, ?_⟩
            · have e := HM.out
              subst e
              simp [results, Tryz.results160, go_sem, date, Cal.dy, Cal.wd]
              try omega
            · repeat (first | (with_reducible exact Below.refl _ _) | (with_reducible refine below_drewN ?_ _) | (with_reducible refine Below.setCell ?_ (by simp) _) | (with_reducible refine Below.alloc ?_ (by simp) _))
  · have e1 : t.tdiv 1440 = 0 := by rw [show t = -(-t) by omega, Int.neg_tdiv, Int.tdiv_eq_zero_of_lt (by omega) (by omega)]; rfl
    have e2 : t.tmod 1440 = t := by rw [show t = -(-t) by omega, Int.neg_tmod, Int.tmod_eq_of_lt (by omega) (by omega)]
    have y1 : True := trivial
    have y2 := Cal.yr_ge (-1) (by omega)
    rw [show t / 1440 = -1 by omega, show t % 1440 = t + 1440 by omega]
    go_enter Tryz.func160, Tryz.ntmps160
    go_wp2_with fail
    have hy := Cal.yr_bd (-1) (by omega) (by omega)
    have hmo := Cal.mo_bd (-1)
    have hys := Cal.ys_bd (Cal.yr (-1)) (by omega) (by omega)
    go_loop [5] (fun x => ∃ y : Int, 1999 ≤ y ∧ y ≤ Cal.yr (-1) ∧ x = i y) (fun x => (3000 - intOf x).toNat)
    case atStart => exact ⟨_, by omega, y2, rfl⟩
    case round =>
      obtain ⟨y, h1, h2, rfl⟩ := hrel
      clear y1 y2
      by_cases hlt : y < Cal.yr (-1)
      · have hle := (yr_up (-1) y).2 hlt
        go_wp2_with (go_at_call 166; refine (rfirst _ _ (by omega) (by omega)).mono ?_; rintro e w' ⟨rfl, rfl⟩)
        go_round
        case rel => exact ⟨y + 1, by omega, by omega, rfl⟩
        case measure => simp [intOf]; omega
      · have hle : ¬ Cal.ys (y + 1) ≤ -1 := fun g => hlt ((yr_up (-1) y).1 g)
        obtain rfl : y = Cal.yr (-1) := by omega
        clear hlt h2
        go_wp2_with (go_at_call 166; refine (rfirst _ _ (by omega) (by omega)).mono ?_; rintro e w' ⟨rfl, rfl⟩)
        go_loop [6, 7] (fun r k => ∃ m : Int, 1 ≤ m ∧ m ≤ Cal.mo (-1) ∧ k = i m ∧ r = i (-1 - Cal.ys (Cal.yr (-1)) - Cal.cum (Cal.lp (Cal.yr (-1))) m)) (fun _ k => (12 - intOf k).toNat)
        case atStart => exact ⟨1, by omega, by omega, rfl, by simp [Cal.cum]⟩
        case round =>
          obtain ⟨m, hm1, hm2, rfl, rfl⟩ := hrel
          have cb := Cal.cum_bd (Cal.lp (Cal.yr (-1))) m (Cal.lp_01 _).1 (Cal.lp_01 _).2
          have db := Cal.md_bd (Cal.yr (-1)) m
          have HU := Lib.hid (Cal.mo_up (-1) m hm1 hm2)
          by_cases hlt : m < Cal.mo (-1)
          · have hle := HU.out.2 hlt
            have HC := Lib.hid (Cal.cum_succ (Cal.yr (-1)) m hm1 (by omega))
            go_wp2_with (go_at_call 167; refine (rlength _ _ _ (by omega) (by omega) (by omega) (by omega)).mono ?_; rintro e w' ⟨rfl, rfl⟩)
            go_round
            case rel => exact ⟨m + 1, by omega, by omega, rfl, by rw [HC.out]; go_num⟩
            case measure => simp [intOf]; omega
          · have hle : ¬ Cal.md (Cal.yr (-1)) m ≤ -1 - Cal.ys (Cal.yr (-1)) - Cal.cum (Cal.lp (Cal.yr (-1))) m := fun g => hlt (HU.out.1 g)
            have HM : Hid (m = Cal.mo (-1)) := (by omega : m = Cal.mo (-1))
            go_wp2_with (go_at_call 167; refine (rlength _ _ _ (by omega) (by omega) (by omega) (by omega)).mono ?_; rintro e w' ⟨rfl, rfl⟩)
            refine bodyPost_ret (v := date (-1) (t + 1440)) ?_ rfl ⟨rfl, ?_⟩
            · have e := HM.out
              subst e
              simp [results, Tryz.results160, go_sem, date, Cal.dy, Cal.wd]
              try omega
            · repeat (first | (with_reducible exact Below.refl _ _) | (with_reducible refine below_drewN ?_ _) | (with_reducible refine Below.setCell ?_ (by simp) _) | (with_reducible refine Below.alloc ?_ (by simp) _))
end CalW
end Go.Proofs.YtpmcdjpfolgpiaaGreatDoor

namespace Go.Proofs.YtpmcdjpfolgpiaaGreatDoor
namespace CalW
set_option linter.unusedSimpArgs false
set_option linter.unusedVariables false
open Go.RowKit

set_option maxHeartbeats 400000 in
theorem right_yes (t : Int) (w : World) (h : 0 ≤ t) (h' : t ≤ 268435456) : Calls Tryz.prog 109 #[i t] w fun e w' => e = .returned (.bool true) ∧ w = w' := by
  go_enter Tryz.func109, Tryz.ntmps109
  go_wp2
  all_goals go_ret
  all_goals exact ⟨retB (by first | (simp; done) | (simp; omega)), rfl⟩
set_option maxHeartbeats 400000 in
theorem right_no (t : Int) (w : World) (h : ¬ (0 ≤ t ∧ t ≤ 268435456)) : Calls Tryz.prog 109 #[i t] w fun e w' => e = .returned (.bool false) ∧ w = w' := by
  go_enter Tryz.func109, Tryz.ntmps109
  go_wp2
  all_goals go_ret
  all_goals exact ⟨retB (by first | (simp; done) | (simp; omega)), rfl⟩

set_option maxHeartbeats 400000 in
theorem rzone_yes (z : Int) (s : Bool) (w : World) (h : -840 ≤ z) (h' : z ≤ 840) :
    Calls Tryz.prog 108 #[zone z s] w fun e w' => e = .returned (.bool true) ∧ Below w.heap.size w w' := by
  go_enter Tryz.func108, Tryz.ntmps108
  go_wp2
  all_goals go_ret
  all_goals exact ⟨retB (by first | (simp; done) | (simp; omega)), (Below.refl _ _).alloc (Nat.le_refl _) _⟩
set_option maxHeartbeats 400000 in
theorem rzone_no (z : Int) (s : Bool) (w : World) (h : ¬ (-840 ≤ z ∧ z ≤ 840)) :
    Calls Tryz.prog 108 #[zone z s] w fun e w' => e = .returned (.bool false) ∧ Below w.heap.size w w' := by
  go_enter Tryz.func108, Tryz.ntmps108
  go_wp2
  all_goals go_ret
  all_goals exact ⟨retB (by first | (simp; done) | (simp; omega)), (Below.refl _ _).alloc (Nat.le_refl _) _⟩

set_option maxHeartbeats 400000 in
theorem after (y mo dy v mi m : Int) (w : World) (hm : m = 3 ∨ m = 10) (h1 : 1 ≤ dy) (h2 : dy ≤ 31) (h3 : 1 ≤ v) (h4 : v ≤ 7) {b : Bool} (hb : Cal.aft mo dy v mi m = b) :
    Calls Tryz.prog 173 #[dateV y mo dy v mi, i m] w fun e w' => e = .returned (.bool b) ∧ Below w.heap.size w w' := by
  subst hb
  by_cases hmo : mo = m
  · have hb : (mo != m) = false := by simpa using hmo
    have HM := Lib.hid hmo
    clear hmo
    go_enter Tryz.func173, Tryz.ntmps173
    go_wp2_with fail
    go_loop [5] (fun x => ∃ s : Int, -10 ≤ s ∧ s ≤ 31 ∧ x = i s ∧ Hid ((s - (dy - v % 7)) % 7 = 0)) (fun x => (31 - intOf x).toNat)
    case atStart => exact ⟨_, by omega, by omega, rfl, Lib.hid (by omega)⟩
    case round =>
      obtain ⟨s, hs1, hs2, rfl, HS⟩ := hrel
      by_cases hlt : s + 7 ≤ 31
      · go_wp2_with fail
        go_round
        case rel => exact ⟨s + 7, by omega, by omega, rfl, Lib.hid (by have := HS.out; omega)⟩
        case measure => simp [intOf]; omega
      · have HE : Hid (s = dy - v % 7 + 7 * ((31 - (dy - v % 7)) / 7)) := by have := HS.out; exact (by omega : s = dy - v % 7 + 7 * ((31 - (dy - v % 7)) / 7))
        go_wp2_with fail
        all_goals go_ret
        all_goals refine ⟨retB ?_, (Below.refl _ _).alloc (Nat.le_refl _) _⟩
        all_goals
          have hE := HE.out
          unfold Cal.aft
          rw [if_pos HM.out]
          try rw [Bool.eq_iff_iff]
          simp only [Bool.or_eq_true, Bool.and_eq_true, decide_eq_true_eq, gt_iff_lt, Bool.false_eq_true, iff_true, iff_false, true_iff, false_iff]
          omega
  · have hb : (mo != m) = true := by simpa using hmo
    have HM := Lib.hid hmo
    clear hmo
    go_enter Tryz.func173, Tryz.ntmps173
    go_wp2_with fail
    go_ret
    refine ⟨retB ?_, (Below.refl _ _).alloc (Nat.le_refl _) _⟩
    unfold Cal.aft
    rw [if_neg HM.out]
end CalW
end Go.Proofs.YtpmcdjpfolgpiaaGreatDoor

namespace Go.Proofs.YtpmcdjpfolgpiaaGreatDoor
namespace CalW
set_option linter.unusedSimpArgs false
set_option linter.unusedVariables false
open Go.RowKit

set_option maxHeartbeats 800000 in
theorem rsummer (t : Int) (w : World) {b : Bool} (hb : Cal.smr t = b) :
    Calls Tryz.prog 168 #[i t] w fun e w' => e = .returned (.bool b) ∧ Below w.heap.size w w' := by
  subst hb
  by_cases h : 0 ≤ t ∧ t ≤ 268435456
  · obtain ⟨h1, h2⟩ := h
    have dyb := Cal.dy_bd (t / 1440)
    have mdb := Cal.md_bd (Cal.yr (t / 1440)) (Cal.mo (t / 1440))
    have wb := Cal.wd_bd (t / 1440)
    rw [Cal.smr_aft t h1 h2]
    cases h3 : Cal.aft (Cal.mo (t / 1440)) (Cal.dy (t / 1440)) (Cal.wd (t / 1440)) (t % 1440) 3
    · have H3 := Lib.hid h3
      clear h3
      go_enter Tryz.func168, Tryz.ntmps168
      go_wp2_with (go_at_call 109; refine (right_yes _ _ (by omega) (by omega)).mono ?_; rintro e w' ⟨rfl, rfl⟩)
      refine (rcivil _ _ (by omega) (by omega)).mono ?_
      rintro e w1 ⟨rfl, hb1⟩
      unfold date
      go_wp2_with fail
      refine (after _ _ _ _ _ _ _ (.inl rfl) (by omega) (by omega) (by omega) (by omega) H3.out).mono ?_
      rintro e w2 ⟨rfl, hb2⟩
      go_wp2_with fail
      go_ret
      refine ⟨retB rfl, ?_⟩
      have s1 := hb1.size
      repeat (first | (with_reducible exact Below.refl _ _) | (with_reducible refine below_drewN ?_ _) | (with_reducible refine Below.setCell ?_ (by simp) _) | (with_reducible refine Below.alloc ?_ (by simp) _) | (with_reducible refine Below.trans ?_ (hb2.mono (by first | omega | (simp; done) | (simp; omega)))) | (with_reducible refine Below.alloc ?_ s1 _) | (with_reducible exact hb1))
    · have H3 := Lib.hid h3
      clear h3
      cases h10 : Cal.aft (Cal.mo (t / 1440)) (Cal.dy (t / 1440)) (Cal.wd (t / 1440)) (t % 1440) 10
      all_goals
        have H10 := Lib.hid h10
        clear h10
        go_enter Tryz.func168, Tryz.ntmps168
        go_wp2_with (go_at_call 109; refine (right_yes _ _ (by omega) (by omega)).mono ?_; rintro e w' ⟨rfl, rfl⟩)
        refine (rcivil _ _ (by omega) (by omega)).mono ?_
        rintro e w1 ⟨rfl, hb1⟩
        unfold date
        go_wp2_with fail
        refine (after _ _ _ _ _ _ _ (.inl rfl) (by omega) (by omega) (by omega) (by omega) H3.out).mono ?_
        rintro e w2 ⟨rfl, hb2⟩
        obtain ⟨hc, hf⟩ := bcell hb2
        go_wp2_with fail
        refine (after _ _ _ _ _ _ _ (.inr rfl) (by omega) (by omega) (by omega) (by omega) H10.out).mono ?_
        rintro e w3 ⟨rfl, hb3⟩
        go_wp2_with fail
        go_ret
        refine ⟨retB rfl, ?_⟩
        have s1 := hb1.size
        have s2 := hb2.size
        simp at s2
        repeat (first | (with_reducible exact Below.refl _ _) | (with_reducible refine below_drewN ?_ _) | (with_reducible refine Below.setCell ?_ (by simp) _) | (with_reducible refine Below.alloc ?_ (by simp) _) | (with_reducible refine Below.trans ?_ (hb3.mono (by omega))) | (with_reducible refine Below.trans ?_ (hb2.mono (by first | omega | (simp; done) | (simp; omega)))) | (with_reducible refine Below.alloc ?_ s1 _) | (with_reducible exact hb1))
  · have e : Cal.smr t = false := by simp [Cal.smr]; omega
    rw [e]
    clear e
    go_enter Tryz.func168, Tryz.ntmps168
    go_wp2_with (go_at_call 109; refine (right_no _ _ h).mono ?_; rintro e w' ⟨rfl, rfl⟩)
    go_ret
    exact ⟨rfl, Below.refl _ _⟩

set_option maxHeartbeats 400000 in
theorem roffset (z : Int) (s : Bool) (t : Int) (w : World) :
    Calls Tryz.prog 161 #[zone z s, i t] w fun e w' => e = .returned (i (Cal.offs z s t)) ∧ Below w.heap.size w w' := by
  by_cases hz : -840 ≤ z ∧ z ≤ 840
  · obtain ⟨h1, h2⟩ := hz
    cases s
    · rw [Cal.offs_off z t ⟨h1, h2⟩]
      go_enter Tryz.func161, Tryz.ntmps161
      go_wp2_with fail
      refine (rzone_yes _ _ _ h1 h2).mono ?_
      rintro e w1 ⟨rfl, hb⟩
      obtain ⟨hc, hf⟩ := bcell hb
      go_wp2_with fail
      go_ret
      exact ⟨rfl, ((Below.refl _ _).alloc (Nat.le_refl _) _).trans (hb.mono (by simp))⟩
    · cases hs : Cal.smr t
      · rw [Cal.offs_no z true t ⟨h1, h2⟩ hs]
        have HS := Lib.hid hs
        clear hs
        go_enter Tryz.func161, Tryz.ntmps161
        go_wp2_with fail
        refine (rzone_yes _ _ _ h1 h2).mono ?_
        rintro e w1 ⟨rfl, hb⟩
        obtain ⟨hc, hf⟩ := bcell hb
        have s1 := hb.size
        simp at s1
        go_wp2_with fail
        refine (rsummer _ _ HS.out).mono ?_
        rintro e w2 ⟨rfl, hb2⟩
        have hc2 : ∀ o, w2.cell? ⟨w.heap.size, o, none⟩ = w1.cell? ⟨w.heap.size, o, none⟩ := fun o => hb2.cell (p := ⟨w.heap.size, o, none⟩) (by simp; omega)
        go_wp2_with fail
        go_ret
        exact ⟨rfl, (((Below.refl _ _).alloc (Nat.le_refl _) _).trans (hb.mono (by simp))).trans (hb2.mono (by omega))⟩
      · rw [Cal.offs_yes z t ⟨h1, h2⟩ hs]
        have HS := Lib.hid hs
        clear hs
        go_enter Tryz.func161, Tryz.ntmps161
        go_wp2_with fail
        refine (rzone_yes _ _ _ h1 h2).mono ?_
        rintro e w1 ⟨rfl, hb⟩
        obtain ⟨hc, hf⟩ := bcell hb
        have s1 := hb.size
        simp at s1
        go_wp2_with fail
        refine (rsummer _ _ HS.out).mono ?_
        rintro e w2 ⟨rfl, hb2⟩
        have hc2 : ∀ o, w2.cell? ⟨w.heap.size, o, none⟩ = w1.cell? ⟨w.heap.size, o, none⟩ := fun o => hb2.cell (p := ⟨w.heap.size, o, none⟩) (by simp; omega)
        go_wp2_with fail
        go_ret
        exact ⟨rfl, (((Below.refl _ _).alloc (Nat.le_refl _) _).trans (hb.mono (by simp))).trans (hb2.mono (by omega))⟩
  · rw [Cal.offs_out z s t hz]
    go_enter Tryz.func161, Tryz.ntmps161
    go_wp2_with fail
    refine (rzone_no _ _ _ hz).mono ?_
    rintro e w1 ⟨rfl, hb⟩
    go_wp2_with fail
    go_ret
    exact ⟨rfl, ((Below.refl _ _).alloc (Nat.le_refl _) _).trans (hb.mono (by simp))⟩
end CalW
end Go.Proofs.YtpmcdjpfolgpiaaGreatDoor

namespace Go.Proofs.YtpmcdjpfolgpiaaGreatDoor
namespace CalW
set_option linter.unusedSimpArgs false
set_option linter.unusedVariables false
open Go.RowKit

set_option maxHeartbeats 400000 in
theorem rlocal_inv (z : Int) (s : Bool) (t : Int) (w : World) (hz : ¬ (-840 ≤ z ∧ z ≤ 840)) :
    Calls Tryz.prog 154 #[zone z s, i t] w fun e w' => e = .returned (.tuple #[noDate, i 1]) ∧ Below w.heap.size w w' := by
  go_enter Tryz.func154, Tryz.ntmps154
  go_wp2_with fail
  refine (rzone_no _ _ _ hz).mono ?_
  rintro e w1 ⟨rfl, hb⟩
  obtain ⟨hc, hf⟩ := bcell hb
  have hs := hb.size
  simp at hs
  go_wp2_with fail
  refine bodyPost_ret (v := .tuple #[noDate, i 1]) (by simp [results, Tryz.results154, go_sem, hc, hf]) rfl ⟨rfl, ?_⟩
  repeat (first | (with_reducible exact Below.refl _ _) | (with_reducible refine below_drewN ?_ _) | (with_reducible refine Below.setCell ?_ (by simp) _) | (with_reducible refine Below.alloc ?_ (by simp) _) | (with_reducible refine Below.trans ?_ (hb.mono (by first | omega | (simp; done) | (simp; omega)))))
set_option maxHeartbeats 400000 in
theorem rlocal_no (z : Int) (s : Bool) (t : Int) (w : World) (hz : -840 ≤ z) (hz' : z ≤ 840) (h : ¬ (0 ≤ t ∧ t ≤ 268435456)) :
    Calls Tryz.prog 154 #[zone z s, i t] w fun e w' => e = .returned (.tuple #[noDate, i 2]) ∧ Below w.heap.size w w' := by
  go_enter Tryz.func154, Tryz.ntmps154
  go_wp2_with fail
  refine (rzone_yes _ _ _ hz hz').mono ?_
  rintro e w1 ⟨rfl, hb⟩
  obtain ⟨hc, hf⟩ := bcell hb
  have hs := hb.size
  simp at hs
  go_wp2_with (go_at_call 109; refine (right_no _ _ h).mono ?_; rintro e w' ⟨rfl, rfl⟩)
  refine bodyPost_ret (v := .tuple #[noDate, i 2]) (by simp [results, Tryz.results154, go_sem, hc, hf]) rfl ⟨rfl, ?_⟩
  repeat (first | (with_reducible exact Below.refl _ _) | (with_reducible refine below_drewN ?_ _) | (with_reducible refine Below.setCell ?_ (by simp) _) | (with_reducible refine Below.alloc ?_ (by simp) _) | (with_reducible refine Below.trans ?_ (hb.mono (by first | omega | (simp; done) | (simp; omega)))))
set_option maxHeartbeats 400000 in
theorem rlocal_yes (z : Int) (s : Bool) (t : Int) (w : World) (hz : -840 ≤ z) (hz' : z ≤ 840) (h : 0 ≤ t) (h' : t ≤ 268435456) :
    Calls Tryz.prog 154 #[zone z s, i t] w fun e w' => e = .returned (.tuple #[date ((t + Cal.offs z s t) / 1440) ((t + Cal.offs z s t) % 1440), i 0]) ∧ Below w.heap.size w w' := by
  have ob := Cal.offs_bd z s t
  go_enter Tryz.func154, Tryz.ntmps154
  go_wp2_with fail
  refine (rzone_yes _ _ _ hz hz').mono ?_
  rintro e w1 ⟨rfl, hb⟩
  obtain ⟨hc, hf⟩ := bcell hb
  have hs := hb.size
  simp at hs
  go_wp2_with (go_at_call 109; refine (right_yes _ _ h h').mono ?_; rintro e w' ⟨rfl, rfl⟩)
  refine (roffset _ _ _ _).mono ?_
  rintro e w2 ⟨rfl, hb2⟩
  go_wp2_with fail
  refine (rcivil _ _ (by omega) (by omega)).mono ?_
  rintro e w3 ⟨rfl, hb3⟩
  have hB : Below (w.heap.size + 2) ((w.alloc (.cells #[i z, .bool s] 38)).alloc (.cells #[i 0, i 0, i 0, i 0, i 0] 216)) w3 := by
    have h2 := hb2.size
    exact ((hb.mono (by simp)).trans (hb2.mono (by omega))).trans (hb3.mono (by omega))
  clear hc hf
  have hc : ∀ o, w3.cell? ⟨w.heap.size + 1, o, none⟩ = ((w.alloc (.cells #[i z, .bool s] 38)).alloc (.cells #[i 0, i 0, i 0, i 0, i 0] 216)).cell? ⟨w.heap.size + 1, o, none⟩ := fun o => hB.cell (p := ⟨w.heap.size + 1, o, none⟩) (by simp)
  have hf : ∀ o, w3.frozen? ⟨w.heap.size + 1, o, none⟩ = ((w.alloc (.cells #[i z, .bool s] 38)).alloc (.cells #[i 0, i 0, i 0, i 0, i 0] 216)).frozen? ⟨w.heap.size + 1, o, none⟩ := fun o => hB.frozen (p := ⟨w.heap.size + 1, o, none⟩) (by simp)
  unfold date
  go_wp2_with fail
  refine bodyPost_ret (v := .tuple #[date ((t + Cal.offs z s t) / 1440) ((t + Cal.offs z s t) % 1440), i 0]) (by simp [results, Tryz.results154, go_sem, date, hc, hf]) rfl ⟨rfl, ?_⟩
  repeat (first | (with_reducible exact Below.refl _ _) | (with_reducible refine below_drewN ?_ _) | (with_reducible refine Below.setCell ?_ (by simp) _) | (with_reducible refine Below.alloc ?_ (by simp) _) | (with_reducible refine Below.trans ?_ (hB.mono (by first | omega | (simp; done) | (simp; omega)))))

end CalW
end Go.Proofs.YtpmcdjpfolgpiaaGreatDoor

namespace Go.Proofs.YtpmcdjpfolgpiaaGreatDoor
namespace Tar
open Go.RowKit

structure Wh where
  (s e d f t e0 e1 p0 p1 t0 t1 : Int)

/-- The set of weekdays. -/
def dset (days : Int) : Int := bits .and .i64 days 127
def onW (days v : Int) : Bool := Cal.onD (dset days) v
def hours (w : Wh) (v mi : Int) : Bool :=
  if w.s = w.e then onW w.d v else if w.s < w.e then onW w.d v && decide (w.s ≤ mi) && decide (mi < w.e)
  else (onW w.d v && decide (w.s ≤ mi)) || (onW w.d ((v + 5) % 7 + 1) && decide (mi < w.e))
def bnd (x lo hi : Int) : Bool := (decide (lo = -1) || decide (lo ≤ x)) && (decide (hi = -1) || decide (x < hi))
def holds (w : Wh) (z : Int) (s : Bool) (at_ since en po : Int) : Bool :=
  decide (-840 ≤ z ∧ z ≤ 840 ∧ 0 ≤ at_ ∧ at_ ≤ 268435456) && (hours w (Cal.wd ((at_ + Cal.offs z s at_) / 1440)) ((at_ + Cal.offs z s at_) % 1440) &&
    (bnd at_ w.f w.t && (bnd en w.e0 w.e1 && (bnd po w.p0 w.p1 && bnd since w.t0 w.t1))))

theorem dset_bd (days : Int) : 0 ≤ dset days ∧ dset days ≤ 127 := by
  unfold dset
  show 0 ≤ IntKind.i64.wrap ((BitVec.ofInt 64 days &&& BitVec.ofInt 64 127).toNat : Int) ∧ IntKind.i64.wrap ((BitVec.ofInt 64 days &&& BitVec.ofInt 64 127).toNat : Int) ≤ 127
  have h : (BitVec.ofInt 64 days &&& BitVec.ofInt 64 127).toNat ≤ 127 := by
    rw [BitVec.toNat_and]
    have : (BitVec.ofInt 64 127).toNat = 127 := by decide
    rw [this]
    exact Nat.and_le_right
  rw [IntKind.wrap_i64]
  omega
end Tar
end Go.Proofs.YtpmcdjpfolgpiaaGreatDoor
