/-
  The walks of package calendar's exported functions Date and Time, and of what they call.
-/
import Derived.Test.YtakpgoedijhpgaaDoorCalW
namespace Go.Proofs.YtakpgoedijhpgaaDoor
namespace CalW
set_option linter.unusedSimpArgs false
set_option linter.unusedVariables false
open Go.RowKit

set_option maxHeartbeats 400000 in
theorem lastSunday (y m : Int) (w : World) (h : 0 ≤ y) (h' : y ≤ 100000) (hm : 1 ≤ m) (hm' : m ≤ 12) (ht : Tab w) :
    Calls Tryd.prog 37 #[i y, i m] w fun e w' => e = .returned (i (Cal.ls y m)) ∧ ∃ m, w' = w.drewN m := by
  have hys := Cal.ys_bd y (by omega) (by omega)
  go_enter Tryd.func37, Tryd.ntmps37
  go_wp2_with (go_at_call 30; refine (yearStart _ _ (by omega) (by omega)).mono ?_; rintro e w' ⟨rfl, n, rfl⟩)
  go_loop [5, 6] (fun d k => ∃ j : Int, 1 ≤ j ∧ j ≤ m + 1 ∧ k = i j ∧ d = i (Cal.ys y - 1 + Cal.cum (Cal.lp y) j)) (fun _ k => (13 - intOf k).toNat)
  case atStart => exact ⟨1, by omega, by omega, rfl, by simp [Cal.cum]⟩
  case round =>
    obtain ⟨j, hj1, hj2, rfl, rfl⟩ := hrel
    have cb := Cal.cum_bd (Cal.lp y) j (Cal.lp_01 _).1 (Cal.lp_01 _).2
    have db := Cal.md_bd y j
    by_cases hlt : j ≤ m
    · have HC := Lib.hid (Cal.cum_succ y j hj1 (by omega))
      go_wp2_with (go_at_call 29; refine (monthDays _ _ _ (by omega) (by omega) (by omega) (by omega) (by exact ht.drewN _)).mono ?_; rintro e w' ⟨rfl, rfl⟩)
      go_round
      case rel => exact ⟨j + 1, by omega, by omega, rfl, by rw [HC.out]; go_num⟩
      case measure => simp [intOf]; omega
    · have HJ : Hid (j = m + 1) := (by omega : j = m + 1)
      have wb := Cal.wd_bd (Cal.ys y - 1 + Cal.cum (Cal.lp y) j)
      go_wp2_with (go_at_call 31; refine (weekday _ _ (by omega) (by omega)).mono ?_; rintro e w' ⟨rfl, m3, rfl⟩)
      go_ret
      refine ⟨ret1 ?_, _, rfl⟩
      rw [HJ.out]
      rfl

set_option maxHeartbeats 400000 in
theorem isTime_yes (t : Int) (w : World) (h : 0 ≤ t) (h' : t ≤ 268435456) : Calls Tryd.prog 25 #[i t] w fun e w' => e = .returned (.bool true) ∧ w = w' := by
  go_enter Tryd.func25, Tryd.ntmps25
  go_wp2
  all_goals go_ret
  all_goals exact ⟨retB (by first | (simp; done) | (simp; omega)), rfl⟩
set_option maxHeartbeats 400000 in
theorem isTime_no (t : Int) (w : World) (h : ¬ (0 ≤ t ∧ t ≤ 268435456)) : Calls Tryd.prog 25 #[i t] w fun e w' => e = .returned (.bool false) ∧ w = w' := by
  go_enter Tryd.func25, Tryd.ntmps25
  go_wp2
  all_goals go_ret
  all_goals exact ⟨retB (by first | (simp; done) | (simp; omega)), rfl⟩

abbrev noDate : Value := .agg #[i 0, i 0, i 0, i 0, i 0]

theorem bcell {W w1 : World} (hb : Below W.heap.size W w1) : (∀ b o, b < W.heap.size → w1.cell? ⟨b, o, none⟩ = W.cell? ⟨b, o, none⟩) ∧ (∀ b o, b < W.heap.size → w1.frozen? ⟨b, o, none⟩ = W.frozen? ⟨b, o, none⟩) :=
  ⟨fun b o h => hb.cell (p := ⟨b, o, none⟩) h, fun b o h => hb.frozen (p := ⟨b, o, none⟩) h⟩

set_option maxHeartbeats 400000 in
theorem date_no (t : Int) (w : World) (h : ¬ (0 ≤ t ∧ t ≤ 268435456)) :
    Calls Tryd.prog 11 #[i t] w fun e w' => e = .returned (.tuple #[noDate, i 2]) ∧ Below w.heap.size w w' := by
  go_enter Tryd.func11, Tryd.ntmps11
  go_wp2_with (go_at_call 25; refine (isTime_no _ _ h).mono ?_; rintro e w' ⟨rfl, rfl⟩)
  refine bodyPost_ret (v := .tuple #[noDate, i 2]) (by simp [results, Tryd.results11, go_sem]) rfl ⟨rfl, ?_⟩
  repeat (first | (with_reducible exact Below.refl _ _) | (with_reducible refine below_drewN ?_ _) | (with_reducible refine Below.setCell ?_ (by simp) _) | (with_reducible refine Below.alloc ?_ (by simp) _))

set_option maxHeartbeats 400000 in
theorem date_yes (t : Int) (w : World) (h : 0 ≤ t) (h' : t ≤ 268435456) (ht : Tab w) :
    Calls Tryd.prog 11 #[i t] w fun e w' => e = .returned (.tuple #[date (t / 1440) (t % 1440), i 0]) ∧ Below w.heap.size w w' := by
  go_enter Tryd.func11, Tryd.ntmps11
  go_wp2_with (go_at_call 25; refine (isTime_yes _ _ h h').mono ?_; rintro e w' ⟨rfl, rfl⟩)
  refine (civil t _ (by omega) (by omega) (ht.alloc _)).mono ?_
  rintro e w1 ⟨rfl, hb⟩
  obtain ⟨hc, hf⟩ := bcell hb
  unfold date
  go_wp2_with fail
  refine bodyPost_ret (v := .tuple #[date (t / 1440) (t % 1440), i 0]) (by simp [results, Tryd.results11, go_sem, date, hc, hf]) rfl ⟨rfl, ?_⟩
  have := hb.size
  simp at this
  repeat (first | (with_reducible exact Below.refl _ _) | (with_reducible refine below_drewN ?_ _) | (with_reducible refine Below.setCell ?_ (by simp) _) | (with_reducible refine Below.alloc ?_ (by simp) _) | (with_reducible refine Below.trans ?_ (hb.mono (by simp))))

abbrev dateV (y m k v mi : Int) : Value := .agg #[i y, i m, i k, i v, i mi]

set_option maxHeartbeats 400000 in
theorem time_no1 (y m k v mi : Int) (w : World) (h : ¬ (2000 ≤ y ∧ y ≤ 2600 ∧ 1 ≤ m ∧ m ≤ 12)) :
    Calls Tryd.prog 14 #[dateV y m k v mi] w fun e w' => e = .returned (.tuple #[i 0, i 1]) ∧ Below w.heap.size w w' := by
  go_enter Tryd.func14, Tryd.ntmps14
  go_wp2
  all_goals go_ret2
  all_goals exact ⟨rfl, (Below.refl _ _).alloc (Nat.le_refl _) _⟩

set_option maxHeartbeats 400000 in
theorem time_no2 (y m k v mi : Int) (w : World) (h1 : 2000 ≤ y) (h2 : y ≤ 2600) (h3 : 1 ≤ m) (h4 : m ≤ 12) (ht : Tab w) (h : ¬ (1 ≤ k ∧ k ≤ Cal.md y m ∧ 0 ≤ mi ∧ mi ≤ 1439)) :
    Calls Tryd.prog 14 #[dateV y m k v mi] w fun e w' => e = .returned (.tuple #[i 0, i 1]) ∧ Below w.heap.size w w' := by
  have mb := Cal.md_bd y m
  have hta := ht.alloc (.cells #[i y, i m, i k, i v, i mi] 23)
  by_cases a1 : k < 1
  · have d1 : decide (k < 1) = true := by simpa using a1
    clear a1 h
    go_enter Tryd.func14, Tryd.ntmps14
    go_wp2_with fail
    go_quiet (fail)
    go_wp2_with fail
    go_ret2
    exact ⟨rfl, below_drewN ((Below.refl _ _).alloc (Nat.le_refl _) _) _⟩
  · have d1 : decide (k < 1) = false := by simpa using a1
    by_cases a2 : Cal.md y m < k
    · have d2 : decide (Cal.md y m < k) = true := by simpa using a2
      clear a1 h a2
      go_enter Tryd.func14, Tryd.ntmps14
      go_wp2_with fail
      go_quiet ((go_at_call 29; exact quiet_left (monthDays _ _ _ (by omega) (by omega) (by omega) (by omega) (hta.drewN _))))
      go_wp2_with fail
      go_ret2
      exact ⟨rfl, below_drewN ((Below.refl _ _).alloc (Nat.le_refl _) _) _⟩
    · have d2 : decide (Cal.md y m < k) = false := by simpa using a2
      by_cases a3 : mi < 0
      · have d3 : decide (mi < 0) = true := by simpa using a3
        clear a1 h a2 a3
        go_enter Tryd.func14, Tryd.ntmps14
        go_wp2_with fail
        go_quiet ((go_at_call 29; exact quiet_left (monthDays _ _ _ (by omega) (by omega) (by omega) (by omega) (hta.drewN _))))
        go_wp2_with fail
        go_ret2
        exact ⟨rfl, below_drewN ((Below.refl _ _).alloc (Nat.le_refl _) _) _⟩
      · have d3 : decide (mi < 0) = false := by simpa using a3
        have d4 : decide (1440 ≤ mi) = true := by simp; omega
        clear a1 h a2 a3
        go_enter Tryd.func14, Tryd.ntmps14
        go_wp2_with fail
        go_quiet ((go_at_call 29; exact quiet_left (monthDays _ _ _ (by omega) (by omega) (by omega) (by omega) (hta.drewN _))))
        go_wp2_with fail
        go_ret2
        exact ⟨rfl, below_drewN ((Below.refl _ _).alloc (Nat.le_refl _) _) _⟩

set_option maxHeartbeats 800000 in
theorem time_in (y m k v mi : Int) (w : World) (h1 : 2000 ≤ y) (h2 : y ≤ 2600) (h3 : 1 ≤ m) (h4 : m ≤ 12) (ht : Tab w) (h5 : 1 ≤ k) (h6 : k ≤ Cal.md y m) (h7 : 0 ≤ mi) (h8 : mi ≤ 1439) (r s : Int)
    (hres : Hid ((¬ v = 0 ∧ ¬ v = Cal.wd (Cal.dayOf y m k) → r = 0 ∧ s = 1) ∧ (v = 0 ∨ v = Cal.wd (Cal.dayOf y m k) → (Cal.dayOf y m k * 1440 + mi ≤ 268435456 → r = Cal.dayOf y m k * 1440 + mi ∧ s = 0) ∧ (268435456 < Cal.dayOf y m k * 1440 + mi → r = 0 ∧ s = 1)))) :
    Calls Tryd.prog 14 #[dateV y m k v mi] w fun e w' => e = .returned (.tuple #[i r, i s]) ∧ Below w.heap.size w w' := by
  have mb := Cal.md_bd y m
  have hta := ht.alloc (.cells #[i y, i m, i k, i v, i mi] 23)
  have d1 : decide (k < 1) = false := by simp; omega
  have d2 : decide (Cal.md y m < k) = false := by simp; omega
  have d3 : decide (mi < 0) = false := by simp; omega
  have d4 : decide (1440 ≤ mi) = false := by simp; omega
  have yb := Cal.ys_2000 y h1 h2
  have DB := Cal.dayOf_bd y m k h1 h2 h5 h6
  go_enter Tryd.func14, Tryd.ntmps14
  go_wp2_with fail
  go_quiet ((go_at_call 29; exact quiet_left (monthDays _ _ _ (by omega) (by omega) (by omega) (by omega) (hta.drewN _))))
  go_wp2_with fail
  go_quiet ((go_at_call 30; exact quiet_add (yearStart _ _ (by omega) (by omega))))
  go_wp2_with fail
  rw [World.drewN_drewN]
  generalize nq + _ = nn
  go_loop [4, 5] (fun d x => ∃ j : Int, 1 ≤ j ∧ j ≤ m ∧ x = i j ∧ d = i (Cal.dayOf y j k)) (fun _ x => (12 - intOf x).toNat)
  case atStart => exact ⟨1, by omega, by omega, rfl, by rw [Cal.dayOf_one]⟩
  case round =>
    obtain ⟨j, hj1, hj2, rfl, rfl⟩ := hrel
    have cb := Cal.cum_bd (Cal.lp y) j (Cal.lp_01 _).1 (Cal.lp_01 _).2
    have db := Cal.md_bd y j
    have dj : 0 ≤ Cal.dayOf y j k ∧ Cal.dayOf y j k ≤ 219600 := by unfold Cal.dayOf; omega
    by_cases hlt : j < m
    · have HC := Lib.hid (Cal.dayOf_succ y j k hj1 (by omega))
      clear hres
      go_wp2_with (go_at_call 29; refine (monthDays _ _ _ (by omega) (by omega) (by omega) (by omega) (by exact hta.drewN _)).mono ?_; rintro e w' ⟨rfl, rfl⟩)
      go_round
      case rel => exact ⟨j + 1, by omega, by omega, rfl, by rw [HC.out]⟩
      case measure => simp [intOf]; omega
    · obtain rfl : j = m := by omega
      have wb := Cal.wd_bd (Cal.dayOf y j k)
      generalize hD : Cal.dayOf y j k = D at *
      have HDD := Lib.hid hD
      clear hD hlt
      by_cases v0 : v = 0
      · have A := Lib.hid (hres.out.2 (.inl v0))
        clear hres
        subst v0
        go_wp2_with fail
        go_quiet (fail)
        by_cases hle : D * 1440 + mi ≤ 268435456
        · obtain ⟨rfl, rfl⟩ := A.out.1 hle
          clear A
          go_wp2_with (go_at_call 25; refine (isTime_yes _ _ (by omega) (by omega)).mono ?_; rintro e w' ⟨rfl, rfl⟩)
          go_ret2
          exact ⟨rfl, (by repeat (first | (with_reducible exact Below.refl _ _) | (with_reducible refine below_drewN ?_ _) | (with_reducible refine Below.setCell ?_ (by simp) _) | (with_reducible refine Below.alloc ?_ (by simp) _)))⟩
        · obtain ⟨rfl, rfl⟩ := A.out.2 (by omega)
          clear A
          go_wp2_with (go_at_call 25; refine (isTime_no _ _ (by omega)).mono ?_; rintro e w' ⟨rfl, rfl⟩)
          go_ret2
          exact ⟨rfl, (by repeat (first | (with_reducible exact Below.refl _ _) | (with_reducible refine below_drewN ?_ _) | (with_reducible refine Below.setCell ?_ (by simp) _) | (with_reducible refine Below.alloc ?_ (by simp) _)))⟩
      · have b0 : (v != 0) = true := by simpa using v0
        have b0' : (v == 0) = false := by simpa using v0
        by_cases v1 : v = Cal.wd D
        · have b1 : (v != Cal.wd D) = false := by simpa using v1
          have b1' : (v == Cal.wd D) = true := by simpa using v1
          have V1 := Lib.hid v1
          clear v0 v1
          go_wp2_with fail
          go_quiet ((go_at_call 31; exact quiet_add (weekday _ _ (by omega) (by omega))))
          by_cases hle : D * 1440 + mi ≤ 268435456
          · obtain ⟨rfl, rfl⟩ := (hres.out.2 (.inr V1.out)).1 hle
            clear hres
            go_wp2_with (go_at_call 25; refine (isTime_yes _ _ (by omega) (by omega)).mono ?_; rintro e w' ⟨rfl, rfl⟩)
            go_ret2
            exact ⟨rfl, (by repeat (first | (with_reducible exact Below.refl _ _) | (with_reducible refine below_drewN ?_ _) | (with_reducible refine Below.setCell ?_ (by simp) _) | (with_reducible refine Below.alloc ?_ (by simp) _)))⟩
          · obtain ⟨rfl, rfl⟩ := (hres.out.2 (.inr V1.out)).2 (by omega)
            clear hres
            go_wp2_with (go_at_call 25; refine (isTime_no _ _ (by omega)).mono ?_; rintro e w' ⟨rfl, rfl⟩)
            go_ret2
            exact ⟨rfl, (by repeat (first | (with_reducible exact Below.refl _ _) | (with_reducible refine below_drewN ?_ _) | (with_reducible refine Below.setCell ?_ (by simp) _) | (with_reducible refine Below.alloc ?_ (by simp) _)))⟩
        · have b1 : (v != Cal.wd D) = true := by simpa using v1
          have b1' : (v == Cal.wd D) = false := by simpa using v1
          obtain ⟨rfl, rfl⟩ := hres.out.1 ⟨v0, v1⟩
          clear v0 v1 hres
          go_wp2_with fail
          go_quiet ((go_at_call 31; exact quiet_add (weekday _ _ (by omega) (by omega))))
          go_wp2_with fail
          go_ret2
          exact ⟨rfl, (by repeat (first | (with_reducible exact Below.refl _ _) | (with_reducible refine below_drewN ?_ _) | (with_reducible refine Below.setCell ?_ (by simp) _) | (with_reducible refine Below.alloc ?_ (by simp) _)))⟩
end CalW
end Go.Proofs.YtakpgoedijhpgaaDoor
