/-
  More plain arithmetic of the calendar: the day after, a week and 400 years later, the hours at which summer begins and ends.
-/
import Derived.Test.YtakpgoedijhpgaaDoorCal
namespace Go.Proofs.YtakpgoedijhpgaaDoor
namespace Cal

theorem ys_400 (y : Int) : ys (y + 400) = ys y + 146097 := by unfold ys; omega
theorem lp_400 (y : Int) : lp (y + 400) = lp y := by
  have a := lp_iff y
  have b := lp_iff (y + 400)
  omega
theorem md_400 (y m : Int) : md (y + 400) m = md y m := by unfold md; rw [lp_400]
theorem date_400 (d : Int) : yr (d + 146097) = yr d + 400 ∧ mo (d + 146097) = mo d ∧ dy (d + 146097) = dy d := by
  have h := day_eq d
  have b := dy_bd d
  have m := mo_bd d
  exact date_eq (d + 146097) (yr d + 400) (mo d) (dy d) m.1 m.2 b.1 (by rw [md_400]; exact b.2) (by rw [ys_400, lp_400]; omega)
theorem wd_400 (d : Int) : wd (d + 146097) = wd d := by unfold wd; omega
theorem wd_7 (d : Int) : wd (d + 7) = wd d := by unfold wd; omega
theorem wd_1 (d : Int) : wd d % 7 + 1 = wd (d + 1) := by unfold wd; omega

theorem cum_13 (l : Int) : cum l 13 = 365 + l := by simp [cum]
/-- The day after. -/
theorem day_after (d : Int) : (yr (d + 1) = yr d ∧ mo (d + 1) = mo d ∧ dy (d + 1) = dy d + 1) ∨
    (yr (d + 1) = yr d ∧ mo (d + 1) = mo d + 1 ∧ dy (d + 1) = 1 ∧ 28 ≤ dy d) ∨ (yr (d + 1) = yr d + 1 ∧ mo (d + 1) = 1 ∧ mo d = 12 ∧ dy (d + 1) = 1 ∧ 28 ≤ dy d) := by
  have h := day_eq d
  have b := dy_bd d
  have m := mo_bd d
  have md_b := md_bd (yr d) (mo d)
  rcases Int.lt_or_le (dy d) (md (yr d) (mo d)) with g | g
  · exact .inl (date_eq (d + 1) (yr d) (mo d) (dy d + 1) m.1 m.2 (by omega) (by omega) (by omega))
  · have cs := cum_succ (yr d) (mo d) m.1 m.2
    rcases Int.lt_or_le (mo d) 12 with g' | g'
    · have := md_bd (yr d) (mo d + 1)
      obtain ⟨a1, a2, a3⟩ := date_eq (d + 1) (yr d) (mo d + 1) 1 (by omega) (by omega) (by omega) (by omega) (by omega)
      exact .inr (.inl ⟨a1, a2, a3, by omega⟩)
    · have e : mo d = 12 := by omega
      rw [e] at cs
      rw [show (12 : Int) + 1 = 13 by omega, cum_13] at cs
      have := md_bd (yr d + 1) 1
      have c1 : cum (lp (yr d + 1)) 1 = 0 := by simp [cum]
      have hh : d + 1 = ys (yr d + 1) + cum (lp (yr d + 1)) 1 + 1 - 1 := by
        rw [e] at h g b
        rw [ys_succ, c1]
        omega
      obtain ⟨a1, a2, a3⟩ := date_eq (d + 1) (yr d + 1) 1 1 (by omega) (by omega) (by omega) (by omega) hh
      exact .inr (.inr ⟨a1, a2, e, a3, by omega⟩)

theorem ls_in (y m : Int) (hm : m = 3 ∨ m = 10) : ys y + cum (lp y) m + 24 ≤ ls y m ∧ ls y m ≤ ys y + cum (lp y) m + 30 := by
  have cs := cum_succ y m (by omega) (by omega)
  rw [md_31 y m hm] at cs
  unfold ls
  omega
theorem ls_date (y m : Int) (hm : m = 3 ∨ m = 10) : yr (ls y m) = y ∧ mo (ls y m) = m ∧ 25 ≤ dy (ls y m) ∧ wd (ls y m) = 7 := by
  have a := ls_in y m hm
  obtain ⟨h1, h2, h3⟩ := date_eq (ls y m) y m (ls y m - ys y - cum (lp y) m + 1) (by omega) (by omega) (by omega) (by rw [md_31 y m hm]; omega) (by omega)
  refine ⟨h1, h2, by omega, ?_⟩
  unfold ls wd
  omega
theorem cum_3 (l : Int) : cum l 3 = 59 + l := by simp [cum]
theorem cum_10 (l : Int) : cum l 10 = 273 + l := by simp [cum]
/-- Summer begins and ends at 01:00 on a last Sunday. -/
theorem smr_turn (t : Int) (h0 : 0 ≤ t) (h1 : t < 268435456) (h : smr t ≠ smr (t + 1)) :
    (t + 1) % 1440 = 60 ∧ wd ((t + 1) / 1440) = 7 ∧ (mo ((t + 1) / 1440) = 3 ∨ mo ((t + 1) / 1440) = 10) ∧ 25 ≤ dy ((t + 1) / 1440) := by
  have key : ∃ y m, (m = 3 ∨ m = 10) ∧ t + 1 = ls y m * 1440 + 60 := by
    rcases Int.lt_or_le ((t + 1) % 1440) 1 with g | g
    · -- midnight
      exfalso
      have e : (t + 1) / 1440 = t / 1440 + 1 := by omega
      have sp := yr_spec (t / 1440)
      have sq := yr_spec (t / 1440 + 1)
      rcases day_after (t / 1440) with ⟨a, _⟩ | ⟨a, _⟩ | ⟨a, _, hm, _, _⟩
      · apply h
        unfold smr
        rw [e, a, decide_eq_decide]
        omega
      · apply h
        unfold smr
        rw [e, a, decide_eq_decide]
        omega
      · apply h
        have x := ls_in (yr (t / 1440)) 10 (.inr rfl)
        have y := ls_in (yr (t / 1440) + 1) 3 (.inl rfl)
        have z := mo_spec (t / 1440)
        rw [hm] at z
        have c12 : cum (lp (yr (t / 1440))) 12 = 334 + lp (yr (t / 1440)) := by simp [cum]
        rw [cum_10] at x
        rw [cum_3] at y
        have s := ys_succ (yr (t / 1440))
        have l := lp_01 (yr (t / 1440) + 1)
        unfold smr
        rw [e, a, decide_eq_decide]
        omega
    · have e : (t + 1) / 1440 = t / 1440 := by omega
      by_cases k3 : t + 1 = ls (yr (t / 1440)) 3 * 1440 + 60
      · exact ⟨_, 3, .inl rfl, k3⟩
      · by_cases k10 : t + 1 = ls (yr (t / 1440)) 10 * 1440 + 60
        · exact ⟨_, 10, .inr rfl, k10⟩
        · exfalso
          apply h
          unfold smr
          rw [e, decide_eq_decide]
          omega
  obtain ⟨y, m, hm, e⟩ := key
  obtain ⟨a1, a2, a3, a4⟩ := ls_date y m hm
  have e1 : (t + 1) / 1440 = ls y m := by omega
  rw [e1, a2]
  exact ⟨by omega, a4, hm, a3⟩
theorem offs_turn (z : Int) (s : Bool) (t : Int) (hz : -840 ≤ z) (hz' : z ≤ 840) (h0 : 0 ≤ t) (h1 : t < 268435456) (h : ¬ offs z s (t + 1) - offs z s t = 0) :
    s = true ∧ (offs z s (t + 1) - offs z s t = 60 ∨ offs z s (t + 1) - offs z s t = -60) ∧ (t + 1) % 1440 = 60 ∧ wd ((t + 1) / 1440) = 7 ∧ (mo ((t + 1) / 1440) = 3 ∨ mo ((t + 1) / 1440) = 10) ∧ 25 ≤ dy ((t + 1) / 1440) := by
  cases s with
  | false => rw [offs_off z _ ⟨hz, hz'⟩, offs_off z _ ⟨hz, hz'⟩] at h; omega
  | true =>
    cases a : smr t <;> cases b : smr (t + 1)
    · rw [offs_no z _ _ ⟨hz, hz'⟩ a, offs_no z _ _ ⟨hz, hz'⟩ b] at h; omega
    · rw [offs_no z _ _ ⟨hz, hz'⟩ a, offs_yes z _ ⟨hz, hz'⟩ b] at *
      exact ⟨rfl, .inl (by omega), smr_turn t h0 h1 (by rw [a, b]; decide)⟩
    · rw [offs_yes z _ ⟨hz, hz'⟩ a, offs_no z _ _ ⟨hz, hz'⟩ b] at *
      exact ⟨rfl, .inr (by omega), smr_turn t h0 h1 (by rw [a, b]; decide)⟩
    · rw [offs_yes z _ ⟨hz, hz'⟩ a, offs_yes z _ ⟨hz, hz'⟩ b] at h; omega
end Cal
end Go.Proofs.YtakpgoedijhpgaaDoor
