/-
  Plain arithmetic of the calendar: years, months, days. No program in sight.
  The walks of package calendar's inner functions: what each computes, in the words of the plain calendar.
  The walks of package calendar's exported functions Date and Time, and of what they call.
  The walks of package calendar's exported functions Summer, Offset and Local.
  The walk of package calendar's exported function Next.
-/
import Derived.Below
import Derived.Test.YtpmcdjpfolgpiaaGreatDoorProg
import Derived.WalkKit
import Derived.Deep.QuietTactic
import Derived.BigQuiet
import Derived.Lib.Hide
import Derived.Outline
namespace Go.Proofs.YtpmcdjpfolgpiaaGreatDoor
namespace Cal

/-- The first day of a year, counted from 2000-01-01. -/
def ys (y : Int) : Int := 365 * (y - 2000) + (y - 2000 + 3) / 4 - (y - 2000 + 99) / 100 + (y - 2000 + 399) / 400
def lpB (y : Int) : Bool := decide (y % 4 = 0 ∧ (¬ y % 100 = 0 ∨ y % 400 = 0))
def lp (y : Int) : Int := if lpB y then 1 else 0
def md (y m : Int) : Int := if m = 2 then 28 + lp y else if m = 4 ∨ m = 6 ∨ m = 9 ∨ m = 11 then 30 else 31
/-- Days before month m. -/
def cum (l m : Int) : Int :=
  if m ≤ 1 then 0 else if m = 2 then 31 else if m = 3 then 59 + l else if m = 4 then 90 + l else if m = 5 then 120 + l else if m = 6 then 151 + l
  else if m = 7 then 181 + l else if m = 8 then 212 + l else if m = 9 then 243 + l else if m = 10 then 273 + l else if m = 11 then 304 + l else if m = 12 then 334 + l else 365 + l
def mon (l r : Int) : Int :=
  if r < 31 then 1 else if r < 59 + l then 2 else if r < 90 + l then 3 else if r < 120 + l then 4 else if r < 151 + l then 5 else if r < 181 + l then 6
  else if r < 212 + l then 7 else if r < 243 + l then 8 else if r < 273 + l then 9 else if r < 304 + l then 10 else if r < 334 + l then 11 else 12
def yr (d : Int) : Int :=
  if ys (2000 + d * 400 / 146097 + 1) ≤ d then 2000 + d * 400 / 146097 + 1 else if d < ys (2000 + d * 400 / 146097) then 2000 + d * 400 / 146097 - 1 else 2000 + d * 400 / 146097
def mo (d : Int) : Int := mon (lp (yr d)) (d - ys (yr d))
def dy (d : Int) : Int := d - ys (yr d) - cum (lp (yr d)) (mo d) + 1
def wd (d : Int) : Int := (d + 5) % 7 + 1

def ls (y m : Int) : Int := ys y - 1 + cum (lp y) (m + 1) - wd (ys y - 1 + cum (lp y) (m + 1)) % 7
def smr (t : Int) : Bool := decide (0 ≤ t ∧ t ≤ 268435456 ∧ ls (yr (t / 1440)) 3 * 1440 + 60 ≤ t ∧ t < ls (yr (t / 1440)) 10 * 1440 + 60)
def offs (z : Int) (s : Bool) (t : Int) : Int := if -840 ≤ z ∧ z ≤ 840 then (if s && smr t then z + 60 else z) else 0
/-- The reference's test on a date against the last Sunday of a month with 31 days. -/
def aft (mo dy v mi m : Int) : Bool := if mo = m then decide (dy > dy - v % 7 + 7 * ((31 - (dy - v % 7)) / 7)) || (decide (dy = dy - v % 7 + 7 * ((31 - (dy - v % 7)) / 7)) && decide (60 ≤ mi)) else decide (m < mo)
/-- Is a weekday one of a set of days? -/
def onD (days v : Int) : Bool := days == 0 || days / 2 ^ (v - 1).toNat % 2 == 1
/-- A time with the local minute, on one of the days. -/
def hit (z : Int) (s : Bool) (days mi u : Int) : Prop := (u + offs z s u) % 1440 = mi ∧ onD days (wd ((u + offs z s u) / 1440)) = true
/-- What Next answers: the first hit within reach, or none. -/
def NextIs (z : Int) (s : Bool) (t days mi r e : Int) : Prop :=
  (e = 0 ∧ t < r ∧ r ≤ t + 11520 ∧ r ≤ 268435456 ∧ hit z s days mi r ∧ ∀ v, t < v → v < r → ¬ hit z s days mi v) ∨
  (e = 8 ∧ r = 0 ∧ ∀ v, t < v → v ≤ t + 11520 → v ≤ 268435456 → ¬ hit z s days mi v)
theorem lp_01 (y : Int) : 0 ≤ lp y ∧ lp y ≤ 1 := by unfold lp; split <;> omega
theorem lp_iff (y : Int) : (lp y = 1 ∧ y % 4 = 0 ∧ (¬ y % 100 = 0 ∨ y % 400 = 0)) ∨ (lp y = 0 ∧ ¬ (y % 4 = 0 ∧ (¬ y % 100 = 0 ∨ y % 400 = 0))) := by
  unfold lp lpB
  by_cases h : (y % 4 = 0 ∧ (¬ y % 100 = 0 ∨ y % 400 = 0)) <;> simp [h]
theorem ys_succ (y : Int) : ys (y + 1) = ys y + 365 + lp y := by
  have := lp_iff y
  unfold ys
  omega
theorem ys_bd (y : Int) (h0 : -100000 ≤ y) (h : y ≤ 100000) : -40000000 ≤ ys y ∧ ys y ≤ 40000000 := by unfold ys; omega
theorem ys_mono (a b : Int) (h : a ≤ b) : ys a ≤ ys b := by unfold ys; omega
theorem yr_spec (d : Int) : ys (yr d) ≤ d ∧ d < ys (yr d + 1) := by
  unfold yr
  generalize hq : d * 400 / 146097 = q
  have h1 : 146097 * q ≤ d * 400 := by omega
  have h2 : d * 400 < 146097 * q + 146097 := by omega
  split
  · rename_i h
    refine ⟨h, ?_⟩
    unfold ys at *
    omega
  · split
    · rename_i h h'
      refine ⟨?_, by rw [show 2000 + q - 1 + 1 = 2000 + q by omega]; exact h'⟩
      unfold ys at *
      omega
    · omega
theorem mon_bd (l r : Int) : 1 ≤ mon l r ∧ mon l r ≤ 12 := by unfold mon; repeat (first | omega | split)
theorem cum_mon (l r : Int) (hl : 0 ≤ l) (hl' : l ≤ 1) (h0 : 0 ≤ r) (h : r < 365 + l) : cum l (mon l r) ≤ r ∧ r < cum l (mon l r + 1) := by
  unfold mon
  repeat (first | (simp [cum]; omega) | split)
theorem cum_succ (y m : Int) (h1 : 1 ≤ m) (h2 : m ≤ 12) : cum (lp y) (m + 1) = cum (lp y) m + md y m := by
  have h : m = 1 ∨ m = 2 ∨ m = 3 ∨ m = 4 ∨ m = 5 ∨ m = 6 ∨ m = 7 ∨ m = 8 ∨ m = 9 ∨ m = 10 ∨ m = 11 ∨ m = 12 := by omega
  rcases h with rfl | rfl | rfl | rfl | rfl | rfl | rfl | rfl | rfl | rfl | rfl | rfl <;> simp [cum, md] <;> omega
theorem cum_bd (l m : Int) (hl : 0 ≤ l) (hl' : l ≤ 1) : 0 ≤ cum l m ∧ cum l m ≤ 366 := by unfold cum; repeat (first | omega | split)
theorem md_bd (y m : Int) : 28 ≤ md y m ∧ md y m ≤ 31 := by have := lp_01 y; unfold md; repeat (first | omega | split)
theorem rest_bd (d : Int) : 0 ≤ d - ys (yr d) ∧ d - ys (yr d) < 365 + lp (yr d) := by
  obtain ⟨h1, h2⟩ := yr_spec d
  rw [ys_succ] at h2
  omega
theorem mo_bd (d : Int) : 1 ≤ mo d ∧ mo d ≤ 12 := mon_bd _ _
theorem mo_spec (d : Int) : cum (lp (yr d)) (mo d) ≤ d - ys (yr d) ∧ d - ys (yr d) < cum (lp (yr d)) (mo d) + md (yr d) (mo d) := by
  obtain ⟨h1, h2⟩ := rest_bd d
  obtain ⟨l1, l2⟩ := lp_01 (yr d)
  obtain ⟨h3, h4⟩ := cum_mon (lp (yr d)) (d - ys (yr d)) l1 l2 h1 h2
  have h5 := cum_succ (yr d) (mo d) (mo_bd d).1 (mo_bd d).2
  unfold mo at *
  omega
theorem dy_bd (d : Int) : 1 ≤ dy d ∧ dy d ≤ md (yr d) (mo d) := by
  obtain ⟨h1, h2⟩ := mo_spec d
  unfold dy
  omega
theorem day_eq (d : Int) : ys (yr d) + cum (lp (yr d)) (mo d) + dy d - 1 = d := by unfold dy; omega
theorem cum_mono (l a b : Int) (hl : 0 ≤ l) (hl' : l ≤ 1) (h : a ≤ b) : cum l a ≤ cum l b := by
  unfold cum; repeat (first | omega | split)
theorem mo_up (d m : Int) (h1 : 1 ≤ m) (h2 : m ≤ mo d) : md (yr d) m ≤ d - ys (yr d) - cum (lp (yr d)) m ↔ m < mo d := by
  have l := lp_01 (yr d)
  have b := mo_bd d
  have s := mo_spec d
  have c := cum_succ (yr d) m h1 (by omega)
  constructor
  · intro h
    rcases Int.lt_or_le m (mo d) with g | g
    · exact g
    · have : m = mo d := by omega
      subst this
      omega
  · intro h
    have := cum_mono (lp (yr d)) (m + 1) (mo d) l.1 l.2 (by omega)
    omega
theorem wd_bd (d : Int) : 1 ≤ wd d ∧ wd d ≤ 7 := by unfold wd; omega
theorem yr_bd (d : Int) (h : -1000 ≤ d) (h' : d ≤ 300000) : 1990 ≤ yr d ∧ yr d ≤ 2830 := by
  obtain ⟨h1, h2⟩ := yr_spec d
  constructor
  · rcases Int.lt_or_le (yr d) 1990 with g | g
    · have := ys_mono (yr d + 1) 1990 (by omega)
      have e : ys 1990 = -3652 := by decide
      omega
    · exact g
  · rcases Int.lt_or_le 2830 (yr d) with g | g
    · have := ys_mono 2830 (yr d) (by omega)
      have e : ys 2830 = 303152 := by decide
      omega
    · exact g
theorem ls_bd (y m : Int) (h : 0 ≤ y) (h' : y ≤ 100000) : -41000000 ≤ ls y m ∧ ls y m ≤ 41000000 := by
  have a := ys_bd y (by omega) (by omega)
  have b := cum_bd (lp y) (m + 1) (lp_01 y).1 (lp_01 y).2
  unfold ls
  omega
theorem offs_bd (z : Int) (s : Bool) (t : Int) : -840 ≤ offs z s t ∧ offs z s t ≤ 900 := by
  unfold offs
  split
  · split <;> omega
  · omega
theorem offs_out (z : Int) (s : Bool) (t : Int) (h : ¬ (-840 ≤ z ∧ z ≤ 840)) : offs z s t = 0 := by simp only [offs, if_neg h]
theorem offs_off (z : Int) (t : Int) (h : -840 ≤ z ∧ z ≤ 840) : offs z false t = z := by simp [offs, if_pos h]
theorem offs_no (z : Int) (s : Bool) (t : Int) (h : -840 ≤ z ∧ z ≤ 840) (hs : smr t = false) : offs z s t = z := by simp [offs, if_pos h, hs]
theorem offs_yes (z : Int) (t : Int) (h : -840 ≤ z ∧ z ≤ 840) (hs : smr t = true) : offs z true t = z + 60 := by simp [offs, if_pos h, hs]
theorem NextIs.eq {z : Int} {s : Bool} {t days mi r e r' e' : Int} (h : NextIs z s t days mi r e) (h' : NextIs z s t days mi r' e') : r = r' ∧ e = e' := by
  rcases h with ⟨rfl, a1, a2, a3, a4, a5⟩ | ⟨rfl, rfl, a⟩ <;> rcases h' with ⟨rfl, b1, b2, b3, b4, b5⟩ | ⟨rfl, rfl, b⟩
  · refine ⟨?_, rfl⟩
    rcases Int.lt_trichotomy r r' with h | h | h
    · exact absurd a4 (b5 r a1 h)
    · exact h
    · exact absurd b4 (a5 r' b1 h)
  · exact absurd a4 (b r a1 a2 a3)
  · exact absurd b4 (a r' b1 b2 b3)
  · exact ⟨rfl, rfl⟩
/-- The two loops of Next: what holds of the best time so far, behind the offsets up to k. -/
def Best (z : Int) (s : Bool) (t days mi last k best : Int) : Prop :=
  t < best ∧ best ≤ last + 1 ∧ (best ≤ last → hit z s days mi best) ∧ ∀ v, t < v → v < best → (∃ j, 0 ≤ j ∧ j < k ∧ offs z s v = z + 60 * j) → ¬ hit z s days mi v
def Seen (z : Int) (s : Bool) (t days mi a at_ best : Int) : Prop := ∀ v, t < v → v < best → v < at_ → offs z s v = a → ¬ hit z s days mi v
theorem Seen.first (z : Int) (s : Bool) (t days mi a at_ best : Int) (hm : (at_ + a) % 1440 = mi) (hl : at_ ≤ t + 1440) : Seen z s t days mi a at_ best := by
  intro v h1 h2 h3 h4 h5
  have h6 := h5.1
  rw [h4] at h6
  omega
theorem Best.next {z : Int} {s : Bool} {t days mi last k best at_ : Int} (h : Best z s t days mi last k best) (hs : Seen z s t days mi (z + 60 * k) at_ best) (hle : best ≤ at_) : Best z s t days mi last (k + 1) best := by
  obtain ⟨h1, h2, h3, h4⟩ := h
  refine ⟨h1, h2, h3, fun v g1 g2 ⟨j, j1, j2, j3⟩ => ?_⟩
  rcases Int.lt_or_le j k with g | g
  · exact h4 v g1 g2 ⟨j, j1, g, j3⟩
  · have : j = k := by omega
    subst this
    exact hs v g1 g2 (by omega) j3
theorem ys_guess (d : Int) (h : 0 ≤ d) (h' : d ≤ 300000) : 2000 + d / 366 ≤ yr d := by
  obtain ⟨h1, h2⟩ := yr_spec d
  have h3 : ys (2000 + d / 366) ≤ d := by unfold ys; omega
  rcases Int.lt_or_le (yr d) (2000 + d / 366) with g | g
  · have := ys_mono (yr d + 1) (2000 + d / 366) (by omega); omega
  · exact g
theorem yr_ge (d : Int) (h : -1 ≤ d) : 1999 ≤ yr d := by
  obtain ⟨h1, h2⟩ := yr_spec d
  rcases Int.lt_or_le (yr d) 1999 with g | g
  · have := ys_mono (yr d + 1) 1999 (by omega)
    have e : ys 1999 = -365 := by decide
    omega
  · exact g
theorem md_31 (y m : Int) (hm : m = 3 ∨ m = 10) : md y m = 31 := by rcases hm with rfl | rfl <;> simp [md]
theorem aft_iff (d mi m : Int) (hm : m = 3 ∨ m = 10) (h0 : 0 ≤ mi) (h1 : mi < 1440) : aft (mo d) (dy d) (wd d) mi m = decide (ls (yr d) m * 1440 + 60 ≤ d * 1440 + mi) := by
  have hd := day_eq d
  have hb := dy_bd d
  have mb := mo_bd d
  have l := lp_01 (yr d)
  have hmd := md_31 (yr d) m hm
  have cs := cum_succ (yr d) m (by omega) (by omega)
  rw [hmd] at cs
  by_cases h : mo d = m
  · rw [h] at hd hb
    rw [hmd] at hb
    unfold aft ls wd
    rw [if_pos h, cs, Bool.eq_iff_iff]
    simp only [Bool.or_eq_true, Bool.and_eq_true, decide_eq_true_eq]
    generalize cum (lp (yr d)) m = c at *
    generalize ys (yr d) = y at *
    generalize dy d = k at *
    subst hd
    omega
  · unfold aft
    rw [if_neg h, decide_eq_decide]
    constructor
    · intro g
      have c1 := cum_mono (lp (yr d)) (m + 1) (mo d) l.1 l.2 (by omega)
      unfold ls
      omega
    · intro g
      rcases Int.lt_or_le m (mo d) with x | x
      · exact x
      · exfalso
        have c1 := cum_mono (lp (yr d)) (mo d + 1) m l.1 l.2 (by omega)
        have c2 := cum_succ (yr d) (mo d) mb.1 mb.2
        unfold ls at g
        omega
theorem smr_aft (t : Int) (h0 : 0 ≤ t) (h1 : t ≤ 268435456) : smr t = (aft (mo (t / 1440)) (dy (t / 1440)) (wd (t / 1440)) (t % 1440) 3 && !aft (mo (t / 1440)) (dy (t / 1440)) (wd (t / 1440)) (t % 1440) 10) := by
  rw [aft_iff _ _ 3 (.inl rfl) (by omega) (by omega), aft_iff _ _ 10 (.inr rfl) (by omega) (by omega)]
  have : t / 1440 * 1440 + t % 1440 = t := by omega
  rw [this]
  unfold smr
  rw [Bool.eq_iff_iff]
  simp only [Bool.and_eq_true, Bool.not_eq_true', decide_eq_true_eq, decide_eq_false_iff_not]
  omega
end Cal
end Go.Proofs.YtpmcdjpfolgpiaaGreatDoor

namespace Go.Proofs.YtpmcdjpfolgpiaaGreatDoor
namespace CalW
set_option linter.unusedSimpArgs false
set_option linter.unusedVariables false
open Go.RowKit

abbrev i (n : Int) : Value := .int .i64 n

/-- The table of the months' lengths. -/
def Tab (w : World) : Prop := ∀ k : Nat, k < 12 → w.cell? ⟨2, k, none⟩ = some (i (([31, 28, 31, 30, 31, 30, 31, 31, 30, 31, 30, 31] : List Int).getD k 0))

theorem div_neg (a b : Int) (hb : 1 ≤ b) (h : a.tmod b < 0) : a.tdiv b - 1 = a / b ∧ a.tmod b + b = a % b := by
  have h1 := Int.mul_tdiv_add_tmod a b
  have h2 : -b < a.tmod b := by
    have := Int.tmod_lt_of_pos (-a) (show 0 < b by omega)
    rw [Int.neg_tmod] at this
    omega
  have h3 : a % b = a.tmod b + b := by
    have : a = (a.tmod b + b) + b * (a.tdiv b - 1) := by rw [Int.mul_sub]; omega
    rw [this, Int.add_mul_emod_self_left, Int.emod_eq_of_lt (by omega) (by omega)]
    rw [← this]
  refine ⟨?_, h3.symm⟩
  have h4 := Int.mul_ediv_add_emod a b
  have h5 : b * (a / b) = b * (a.tdiv b - 1) := by rw [Int.mul_sub]; omega
  exact (Int.eq_of_mul_eq_mul_left (by omega) h5).symm
theorem div_pos (a b : Int) (hb : 1 ≤ b) (h : 0 ≤ a.tmod b) : a.tdiv b = a / b ∧ a.tmod b = a % b := by
  have h1 := Int.mul_tdiv_add_tmod a b
  have h2 : a.tmod b < b := Int.tmod_lt_of_pos a (by omega)
  have h3 : a % b = a.tmod b := by
    have : a = a.tmod b + b * a.tdiv b := by omega
    rw [this, Int.add_mul_emod_self_left, Int.emod_eq_of_lt (by omega) (by omega)]
    rw [← this]
  refine ⟨?_, h3.symm⟩
  have h4 := Int.mul_ediv_add_emod a b
  have h5 : b * (a / b) = b * a.tdiv b := by omega
  exact (Int.eq_of_mul_eq_mul_left (by omega) h5).symm

theorem below_drewN {B : Nat} {a w : World} (h : Below B a w) (n : Nat) : Below B a (w.drewN n) := ⟨h.os, h.tape, h.output, h.size, h.block⟩
theorem ret1 {a c : Int} (h1 : a = c) : Ending.returned (.int .i64 a) = .returned (i c) := by rw [h1]
theorem ret2 {a b c d : Int} (h1 : a = c) (h2 : b = d) : Ending.returned (.tuple #[.int .i64 a, .int .i64 b]) = .returned (.tuple #[i c, i d]) := by rw [h1, h2]
theorem retB {a c : Bool} (h1 : a = c) : Ending.returned (.bool a) = .returned (.bool c) := by rw [h1]

theorem w64 (n : Int) (h : -9223372036854775808 ≤ n) (h' : n ≤ 9223372036854775807) : wrap64 n = n := IntWalk.wrap64_in n ⟨h, h'⟩

set_option maxHeartbeats 400000 in
theorem divide (a b : Int) (w : World) (hb : 1 ≤ b) (hb' : b ≤ 1000000) (ha : -1000000000000 ≤ a) (ha' : a ≤ 1000000000000) :
    Calls Tryz.prog 179 #[i a, i b] w fun e w' => e = .returned (.tuple #[i (a / b), i (a % b)]) ∧ ∃ n, w' = w.drewN n := by
  have HD : Hid (-1000000000000 ≤ a / b ∧ a / b ≤ 1000000000000) := by
    constructor
    · exact Int.le_trans (by omega) ((Int.le_ediv_iff_mul_le (by omega)).2 (show -1000000000000 * b ≤ a by omega))
    · rcases Int.lt_or_le a 0 with h | h
      · have := Int.ediv_lt_of_lt_mul (show 0 < b by omega) (show a < 1 * b by omega); omega
      · exact Int.le_trans (Int.ediv_le_self _ h) ha'
  go_enter Tryz.func179, Tryz.ntmps179
  go_wp2
  go_quiet (fail)
  go_wp2
  · go_ret2
    rename_i h
    obtain ⟨e1, e2⟩ := div_neg a b hb h
    have := HD.out
    have := Int.emod_lt_of_pos a (show 0 < b by omega)
    have := Int.emod_nonneg a (show b ≠ 0 by omega)
    exact ⟨ret2 (by rw [e1]; exact w64 _ (by omega) (by omega)) (by rw [e2]; exact w64 _ (by omega) (by omega)), _, rfl⟩
  · go_ret2
    rename_i h
    obtain ⟨e1, e2⟩ := div_pos a b hb h
    exact ⟨ret2 e1 e2, _, rfl⟩

set_option maxHeartbeats 400000 in
theorem leap (y : Int) (w : World) (h : 0 ≤ y) (h' : y ≤ 100000) :
    Calls Tryz.prog 186 #[i y] w fun e w' => e = .returned (.bool (Cal.lpB y)) ∧ w = w' := by
  go_enter Tryz.func186, Tryz.ntmps186
  go_wp2
  all_goals go_ret
  all_goals refine ⟨retB ?_, rfl⟩
  all_goals (simp_all [Cal.lpB]; try rfl)

theorem leap_yes (y : Int) (w : World) (h : 0 ≤ y) (h' : y ≤ 100000) (hl : Cal.lpB y = true) :
    Calls Tryz.prog 186 #[i y] w fun e w' => e = .returned (.bool true) ∧ w = w' := by
  have := leap y w h h'
  rwa [hl] at this
theorem leap_no (y : Int) (w : World) (h : 0 ≤ y) (h' : y ≤ 100000) (hl : Cal.lpB y = false) :
    Calls Tryz.prog 186 #[i y] w fun e w' => e = .returned (.bool false) ∧ w = w' := by
  have := leap y w h h'
  rwa [hl] at this

theorem md2_yes {y : Int} (hl : Cal.lpB y = true) : Cal.md y 2 = 29 := by simp [Cal.md, Cal.lp, hl]
theorem md2_no {y : Int} (hl : Cal.lpB y = false) : Cal.md y 2 = 28 := by simp [Cal.md, Cal.lp, hl]

set_option maxHeartbeats 1000000 in
theorem monthDays (y m : Int) (w : World) (h : 0 ≤ y) (h' : y ≤ 100000) (hm : 1 ≤ m) (hm' : m ≤ 12) (ht : Tab w) :
    Calls Tryz.prog 182 #[i y, i m] w fun e w' => e = .returned (i (Cal.md y m)) ∧ w = w' := by
  have hc : m = 1 ∨ m = 2 ∨ m = 3 ∨ m = 4 ∨ m = 5 ∨ m = 6 ∨ m = 7 ∨ m = 8 ∨ m = 9 ∨ m = 10 ∨ m = 11 ∨ m = 12 := by omega
  by_cases h2 : m = 2
  · subst h2
    clear hc
    have c1 : w.cell? ⟨2, 1, none⟩ = some (i 28) := ht 1 (by omega)
    cases hl : Cal.lpB y
    · have HL := Lib.hid hl
      clear hl
      go_enter Tryz.func182, Tryz.ntmps182
      go_wp2_with (go_at_call 186; refine (leap_no y _ (by omega) (by omega) HL.out).mono ?_; rintro e w' ⟨rfl, rfl⟩)
      go_ret
      exact ⟨ret1 (md2_no HL.out).symm, rfl⟩
    · have HL := Lib.hid hl
      clear hl
      go_enter Tryz.func182, Tryz.ntmps182
      go_wp2_with (go_at_call 186; refine (leap_yes y _ (by omega) (by omega) HL.out).mono ?_; rintro e w' ⟨rfl, rfl⟩)
      go_ret
      exact ⟨ret1 (md2_yes HL.out).symm, rfl⟩
  · have key : ∀ k : Nat, k < 12 → m = (k : Int) + 1 → w.cell? ⟨2, k, none⟩ = some (i (Cal.md y m)) := by
      intro k hk e
      rw [ht k hk]
      subst e
      have hk' : k = 0 ∨ k = 2 ∨ k = 3 ∨ k = 4 ∨ k = 5 ∨ k = 6 ∨ k = 7 ∨ k = 8 ∨ k = 9 ∨ k = 10 ∨ k = 11 := by omega
      rcases hk' with rfl | rfl | rfl | rfl | rfl | rfl | rfl | rfl | rfl | rfl | rfl <;> simp [Cal.md]
    obtain ⟨k, rfl⟩ : ∃ k : Nat, m = (k : Int) + 1 := ⟨(m - 1).toNat, by omega⟩
    have hk : k < 12 := by omega
    have c1 := key k hk rfl
    have hne : (((k : Int) + 1) == 2) = false := by simpa using h2
    clear key hc h2 ht
    generalize Cal.md y ((k : Int) + 1) = r at *
    go_enter Tryz.func182, Tryz.ntmps182
    go_wp2_with fail
    go_ret
    exact ⟨rfl, rfl⟩

set_option maxHeartbeats 400000 in
theorem multiples (k n : Int) (w : World) (hn : 1 ≤ n) (hn' : n ≤ 1000) (hk : -200000 ≤ k) (hk' : k ≤ 200000) :
    Calls Tryz.prog 185 #[i k, i n] w fun e w' => e = .returned (i ((k + n - 1) / n)) ∧ ∃ m, w' = w.drewN m := by
  go_enter Tryz.func185, Tryz.ntmps185
  go_wp2_with (go_at_call 179; refine (divide _ _ _ (by omega) (by omega) (by omega) (by omega)).mono ?_; rintro e w' ⟨rfl, m, rfl⟩)
  go_ret
  exact ⟨rfl, _, rfl⟩

set_option maxHeartbeats 400000 in
theorem yearStart (y : Int) (w : World) (h : -100000 ≤ y) (h' : y ≤ 100000) :
    Calls Tryz.prog 181 #[i y] w fun e w' => e = .returned (i (Cal.ys y)) ∧ ∃ m, w' = w.drewN m := by
  go_enter Tryz.func181, Tryz.ntmps181
  go_wp2_with (go_at_call 185; refine (multiples _ _ _ (by omega) (by omega) (by omega) (by omega)).mono ?_; rintro e w' ⟨rfl, m, rfl⟩)
  go_ret
  exact ⟨ret1 (by unfold Cal.ys; omega), _, rfl⟩

set_option maxHeartbeats 400000 in
theorem weekday (d : Int) (w : World) (h : -100000000 ≤ d) (h' : d ≤ 100000000) :
    Calls Tryz.prog 183 #[i d] w fun e w' => e = .returned (i (Cal.wd d)) ∧ ∃ m, w' = w.drewN m := by
  go_enter Tryz.func183, Tryz.ntmps183
  go_wp2_with (go_at_call 179; refine (divide _ _ _ (by omega) (by omega) (by omega) (by omega)).mono ?_; rintro e w' ⟨rfl, m, rfl⟩)
  go_ret
  exact ⟨rfl, _, rfl⟩

theorem yr_up (d y : Int) : Cal.ys (y + 1) ≤ d ↔ y < Cal.yr d := by
  obtain ⟨h1, h2⟩ := Cal.yr_spec d
  constructor
  · intro h
    rcases Int.lt_or_le y (Cal.yr d) with g | g
    · exact g
    · have := Cal.ys_mono (Cal.yr d + 1) (y + 1) (by omega); omega
  · intro h
    have := Cal.ys_mono (y + 1) (Cal.yr d) (by omega); omega
theorem yr_down (d y : Int) : d < Cal.ys y ↔ Cal.yr d < y := by
  have := yr_up d (y - 1)
  rw [show y - 1 + 1 = y by omega] at this
  omega

set_option maxHeartbeats 400000 in
theorem yearOf (d : Int) (w : World) (h : -1000 ≤ d) (h' : d ≤ 300000) :
    Calls Tryz.prog 180 #[i d] w fun e w' => e = .returned (i (Cal.yr d)) ∧ ∃ m, w' = w.drewN m := by
  have hy := Cal.yr_bd d h h'
  go_enter Tryz.func180, Tryz.ntmps180
  go_wp2_with (go_at_call 179; refine (divide _ _ _ (by omega) (by omega) (by omega) (by omega)).mono ?_; rintro e w' ⟨rfl, m, rfl⟩)
  go_loopw [5] (fun t wr => ∃ (y : Int) (m : Nat), 1900 ≤ y ∧ y ≤ 3000 ∧ t = i y ∧ wr = w.drewN m) (fun t _ => (3000 - intOf t).toNat)
  case atStart => exact ⟨_, m, by omega, by omega, rfl, rfl⟩
  case round =>
    obtain ⟨y, m1, h1, h2, rfl, rfl⟩ := hrel
    by_cases hlt : y < Cal.yr d
    · have hle := (yr_up d y).2 hlt
      go_wp2_with (go_at_call 181; refine (yearStart _ _ (by omega) (by omega)).mono ?_; rintro e w' ⟨rfl, m, rfl⟩)
      go_roundw
      case rel => exact ⟨y + 1, _, by omega, by omega, rfl, rfl⟩
      case measure => simp [intOf]; omega
    · have hle : ¬ Cal.ys (y + 1) ≤ d := fun g => hlt ((yr_up d y).1 g)
      go_wp2_with (go_at_call 181; refine (yearStart _ _ (by omega) (by omega)).mono ?_; rintro e w' ⟨rfl, m, rfl⟩)
      go_loopw [5] (fun t wr => ∃ (y : Int) (m : Nat), Cal.yr d ≤ y ∧ y ≤ 3000 ∧ t = i y ∧ wr = w.drewN m) (fun t _ => (intOf t).toNat)
      case atStart => exact ⟨_, _, by omega, by omega, rfl, rfl⟩
      case round =>
        obtain ⟨y, m1, h1, h2, rfl, rfl⟩ := hrel
        by_cases hlt : Cal.yr d < y
        · have hle := (yr_down d y).2 hlt
          go_wp2_with (go_at_call 181; refine (yearStart _ _ (by omega) (by omega)).mono ?_; rintro e w' ⟨rfl, m, rfl⟩)
          go_roundw
          case rel => exact ⟨y - 1, _, by omega, by omega, rfl, rfl⟩
          case measure => simp [intOf]; omega
        · have hle : ¬ d < Cal.ys y := fun g => hlt ((yr_down d y).1 g)
          go_wp2_with (go_at_call 181; refine (yearStart _ _ (by omega) (by omega)).mono ?_; rintro e w' ⟨rfl, m, rfl⟩)
          go_ret
          exact ⟨ret1 (by omega), _, rfl⟩

/-- The table stands in every world that has the same block. -/
theorem Tab.below {w w' : World} (h : Tab w) (hb : Below w.heap.size w w') (hz : 2 < w.heap.size) : Tab w' := fun k hk => (hb.cell (p := ⟨2, k, none⟩) hz).trans (h k hk)
theorem Tab.drewN {w : World} (h : Tab w) (n : Nat) : Tab (w.drewN n) := h
theorem Tab.lt {w : World} (h : Tab w) : 2 < w.heap.size := by
  have := h 0 (by omega)
  rcases Nat.lt_or_ge 2 w.heap.size with hlt | hge
  · exact hlt
  · simp [World.cell?, Array.getElem?_eq_none hge] at this
theorem Tab.alloc {w : World} (h : Tab w) (o : Obj) : Tab (w.alloc o) := h.below ((Below.refl _ _).alloc (Nat.le_refl _) _) h.lt

def date (d mi : Int) : Value := .agg #[i (Cal.yr d), i (Cal.mo d), i (Cal.dy d), i (Cal.wd d), i mi]

set_option maxHeartbeats 400000 in
theorem civil (t : Int) (w : World) (h : -1000 ≤ t) (h' : t ≤ 300000000) (ht : Tab w) :
    Calls Tryz.prog 176 #[i t] w fun e w' => e = .returned (date (t / 1440) (t % 1440)) ∧ Below w.heap.size w w' := by
  have d1 : -1 ≤ t / 1440 := by omega
  have d2 : t / 1440 ≤ 210000 := by omega
  generalize hd : t / 1440 = d at *
  have HD := Lib.hid hd
  clear hd
  have hy := Cal.yr_bd d (by omega) (by omega)
  have hys := Cal.ys_bd (Cal.yr d) (by omega) (by omega)
  go_enter Tryz.func176, Tryz.ntmps176
  go_wp2_with (first | (go_at_call 179; refine (divide _ _ _ (by omega) (by omega) (by omega) (by omega)).mono ?_; rintro e w' ⟨rfl, m, rfl⟩; rw [HD.out]) | (go_at_call 180; refine (yearOf _ _ (by omega) (by omega)).mono ?_; rintro e w' ⟨rfl, m, rfl⟩) | (go_at_call 181; refine (yearStart _ _ (by omega) (by omega)).mono ?_; rintro e w' ⟨rfl, m, rfl⟩))
  generalize hn : (_ + _ + m : Nat) = n
  clear hn
  have hmo := Cal.mo_bd d
  go_loop [6, 7] (fun r k => ∃ m : Int, 1 ≤ m ∧ m ≤ Cal.mo d ∧ k = i m ∧ r = i (d - Cal.ys (Cal.yr d) - Cal.cum (Cal.lp (Cal.yr d)) m)) (fun _ k => (12 - intOf k).toNat)
  case atStart => exact ⟨1, by omega, by omega, rfl, by simp [Cal.cum]⟩
  case round =>
    obtain ⟨m, hm1, hm2, rfl, rfl⟩ := hrel
    have cb := Cal.cum_bd (Cal.lp (Cal.yr d)) m (Cal.lp_01 _).1 (Cal.lp_01 _).2
    have db := Cal.md_bd (Cal.yr d) m
    have HU := Lib.hid (Cal.mo_up d m hm1 hm2)
    by_cases hlt : m < Cal.mo d
    · have hle := HU.out.2 hlt
      have HC := Lib.hid (Cal.cum_succ (Cal.yr d) m hm1 (by omega))
      go_wp2_with (go_at_call 182; refine (monthDays _ _ _ (by omega) (by omega) (by omega) (by omega) (by exact (ht.alloc _).drewN _)).mono ?_; rintro e w' ⟨rfl, rfl⟩)
      go_round
      case rel => exact ⟨m + 1, by omega, by omega, rfl, by rw [HC.out]; go_num⟩
      case measure => simp [intOf]; omega
    · have hle : ¬ Cal.md (Cal.yr d) m ≤ d - Cal.ys (Cal.yr d) - Cal.cum (Cal.lp (Cal.yr d)) m := fun g => hlt (HU.out.1 g)
      have HM : Hid (m = Cal.mo d) := (by omega : m = Cal.mo d)
      go_wp2_with (first | (go_at_call 182; refine (monthDays _ _ _ (by omega) (by omega) (by omega) (by omega) (by exact (ht.alloc _).drewN _)).mono ?_; rintro e w' ⟨rfl, rfl⟩) | (go_at_call 183; refine (weekday _ _ (by omega) (by omega)).mono ?_; rintro e w' ⟨rfl, m3, rfl⟩))
      refine bodyPost_ret (v := date d (t % 1440)) ?_ rfl ⟨rfl, ?_⟩
      · have e := HM.out
        subst e
        simp [results, Tryz.results176, go_sem, date, Cal.dy]
      · repeat (first | (with_reducible exact Below.refl _ _) | (with_reducible refine below_drewN ?_ _) | (with_reducible refine Below.setCell ?_ (by simp) _) | (with_reducible refine Below.alloc ?_ (by simp) _))
end CalW
end Go.Proofs.YtpmcdjpfolgpiaaGreatDoor

namespace Go.Proofs.YtpmcdjpfolgpiaaGreatDoor
namespace CalW
set_option linter.unusedSimpArgs false
set_option linter.unusedVariables false
open Go.RowKit

set_option maxHeartbeats 400000 in
theorem lastSunday (y m : Int) (w : World) (h : 0 ≤ y) (h' : y ≤ 100000) (hm : 1 ≤ m) (hm' : m ≤ 12) (ht : Tab w) :
    Calls Tryz.prog 187 #[i y, i m] w fun e w' => e = .returned (i (Cal.ls y m)) ∧ ∃ m, w' = w.drewN m := by
  have hys := Cal.ys_bd y (by omega) (by omega)
  go_enter Tryz.func187, Tryz.ntmps187
  go_wp2_with (go_at_call 181; refine (yearStart _ _ (by omega) (by omega)).mono ?_; rintro e w' ⟨rfl, n, rfl⟩)
  go_loop [5, 6] (fun d k => ∃ j : Int, 1 ≤ j ∧ j ≤ m + 1 ∧ k = i j ∧ d = i (Cal.ys y - 1 + Cal.cum (Cal.lp y) j)) (fun _ k => (13 - intOf k).toNat)
  case atStart => exact ⟨1, by omega, by omega, rfl, by simp [Cal.cum]⟩
  case round =>
    obtain ⟨j, hj1, hj2, rfl, rfl⟩ := hrel
    have cb := Cal.cum_bd (Cal.lp y) j (Cal.lp_01 _).1 (Cal.lp_01 _).2
    have db := Cal.md_bd y j
    by_cases hlt : j ≤ m
    · have HC := Lib.hid (Cal.cum_succ y j hj1 (by omega))
      go_wp2_with (go_at_call 182; refine (monthDays _ _ _ (by omega) (by omega) (by omega) (by omega) (by exact ht.drewN _)).mono ?_; rintro e w' ⟨rfl, rfl⟩)
      go_round
      case rel => exact ⟨j + 1, by omega, by omega, rfl, by rw [HC.out]; go_num⟩
      case measure => simp [intOf]; omega
    · have HJ : Hid (j = m + 1) := (by omega : j = m + 1)
      have wb := Cal.wd_bd (Cal.ys y - 1 + Cal.cum (Cal.lp y) j)
      go_wp2_with (go_at_call 183; refine (weekday _ _ (by omega) (by omega)).mono ?_; rintro e w' ⟨rfl, m3, rfl⟩)
      go_ret
      refine ⟨ret1 ?_, _, rfl⟩
      rw [HJ.out]
      rfl

set_option maxHeartbeats 400000 in
theorem isTime_yes (t : Int) (w : World) (h : 0 ≤ t) (h' : t ≤ 268435456) : Calls Tryz.prog 175 #[i t] w fun e w' => e = .returned (.bool true) ∧ w = w' := by
  go_enter Tryz.func175, Tryz.ntmps175
  go_wp2
  all_goals go_ret
  all_goals exact ⟨retB (by first | (simp; done) | (simp; omega)), rfl⟩
set_option maxHeartbeats 400000 in
theorem isTime_no (t : Int) (w : World) (h : ¬ (0 ≤ t ∧ t ≤ 268435456)) : Calls Tryz.prog 175 #[i t] w fun e w' => e = .returned (.bool false) ∧ w = w' := by
  go_enter Tryz.func175, Tryz.ntmps175
  go_wp2
  all_goals go_ret
  all_goals exact ⟨retB (by first | (simp; done) | (simp; omega)), rfl⟩

abbrev noDate : Value := .agg #[i 0, i 0, i 0, i 0, i 0]

theorem bcell {W w1 : World} (hb : Below W.heap.size W w1) : (∀ b o, b < W.heap.size → w1.cell? ⟨b, o, none⟩ = W.cell? ⟨b, o, none⟩) ∧ (∀ b o, b < W.heap.size → w1.frozen? ⟨b, o, none⟩ = W.frozen? ⟨b, o, none⟩) :=
  ⟨fun b o h => hb.cell (p := ⟨b, o, none⟩) h, fun b o h => hb.frozen (p := ⟨b, o, none⟩) h⟩

abbrev dateV (y m k v mi : Int) : Value := .agg #[i y, i m, i k, i v, i mi]

end CalW
end Go.Proofs.YtpmcdjpfolgpiaaGreatDoor

namespace Go.Proofs.YtpmcdjpfolgpiaaGreatDoor
namespace CalW
set_option linter.unusedSimpArgs false
set_option linter.unusedVariables false
open Go.RowKit

set_option maxHeartbeats 400000 in
theorem summer (t : Int) (w : World) (ht : Tab w) :
    Calls Tryz.prog 184 #[i t] w fun e w' => e = .returned (.bool (Cal.smr t)) ∧ ∃ m, w' = w.drewN m := by
  by_cases h : 0 ≤ t ∧ t ≤ 268435456
  · obtain ⟨h1, h2⟩ := h
    have hy := Cal.yr_bd (t / 1440) (by omega) (by omega)
    have l3 := Cal.ls_bd (Cal.yr (t / 1440)) 3 (by omega) (by omega)
    have l10 := Cal.ls_bd (Cal.yr (t / 1440)) 10 (by omega) (by omega)
    go_enter Tryz.func184, Tryz.ntmps184
    go_wp2_with (first | (go_at_call 175; refine (isTime_yes _ _ (by omega) (by omega)).mono ?_; rintro e w' ⟨rfl, rfl⟩) | (go_at_call 180; refine (yearOf _ _ (by omega) (by omega)).mono ?_; rintro e w' ⟨rfl, m, rfl⟩) | (go_at_call 187; refine (lastSunday _ _ _ (by omega) (by omega) (by omega) (by omega) (by exact ht.drewN _)).mono ?_; rintro e w' ⟨rfl, m3, rfl⟩))
    all_goals go_ret
    · exact ⟨retB (by simp [Cal.smr]; omega), _, rfl⟩
    · exact ⟨retB (by simp [Cal.smr, *]), _, rfl⟩
  · have e : Cal.smr t = false := by simp [Cal.smr]; omega
    rw [e]
    clear e
    go_enter Tryz.func184, Tryz.ntmps184
    go_wp2_with (go_at_call 175; refine (isTime_no _ _ h).mono ?_; rintro e w' ⟨rfl, rfl⟩)
    go_ret
    exact ⟨rfl, 0, rfl⟩
theorem summer_is (t : Int) (w : World) (ht : Tab w) {b : Bool} (hb : Cal.smr t = b) :
    Calls Tryz.prog 184 #[i t] w fun e w' => e = .returned (.bool b) ∧ ∃ m, w' = w.drewN m := by
  have := summer t w ht
  rwa [hb] at this

abbrev zone (z : Int) (s : Bool) : Value := .agg #[i z, .bool s]

set_option maxHeartbeats 400000 in
theorem validZone_yes (z : Int) (s : Bool) (w : World) (h : -840 ≤ z) (h' : z ≤ 840) :
    Calls Tryz.prog 174 #[zone z s] w fun e w' => e = .returned (.bool true) ∧ Below w.heap.size w w' := by
  go_enter Tryz.func174, Tryz.ntmps174
  go_wp2
  all_goals go_ret
  all_goals exact ⟨retB (by first | (simp; done) | (simp; omega)), (Below.refl _ _).alloc (Nat.le_refl _) _⟩
set_option maxHeartbeats 400000 in
theorem validZone_no (z : Int) (s : Bool) (w : World) (h : ¬ (-840 ≤ z ∧ z ≤ 840)) :
    Calls Tryz.prog 174 #[zone z s] w fun e w' => e = .returned (.bool false) ∧ Below w.heap.size w w' := by
  go_enter Tryz.func174, Tryz.ntmps174
  go_wp2
  all_goals go_ret
  all_goals exact ⟨retB (by first | (simp; done) | (simp; omega)), (Below.refl _ _).alloc (Nat.le_refl _) _⟩

set_option maxHeartbeats 400000 in
theorem offset (z : Int) (s : Bool) (t : Int) (w : World) (ht : Tab w) :
    Calls Tryz.prog 177 #[zone z s, i t] w fun e w' => e = .returned (i (Cal.offs z s t)) ∧ Below w.heap.size w w' := by
  by_cases hz : -840 ≤ z ∧ z ≤ 840
  · obtain ⟨h1, h2⟩ := hz
    cases s
    · rw [Cal.offs_off z t ⟨h1, h2⟩]
      go_enter Tryz.func177, Tryz.ntmps177
      go_wp2_with fail
      refine (validZone_yes _ _ _ h1 h2).mono ?_
      rintro e w1 ⟨rfl, hb⟩
      obtain ⟨hc, hf⟩ := bcell hb
      go_wp2_with fail
      go_ret
      exact ⟨rfl, ((Below.refl _ _).alloc (Nat.le_refl _) _).trans (hb.mono (by simp))⟩
    · cases hs : Cal.smr t
      · rw [Cal.offs_no z true t ⟨h1, h2⟩ hs]
        have HS := Lib.hid hs
        clear hs
        go_enter Tryz.func177, Tryz.ntmps177
        go_wp2_with fail
        refine (validZone_yes _ _ _ h1 h2).mono ?_
        rintro e w1 ⟨rfl, hb⟩
        obtain ⟨hc, hf⟩ := bcell hb
        have ht1 := (ht.alloc (.cells #[i z, .bool true] 38)).below hb (ht.alloc _).lt
        go_wp2_with (go_at_call 184; refine (summer_is _ _ ht1 HS.out).mono ?_; rintro e w' ⟨rfl, m, rfl⟩)
        go_ret
        exact ⟨rfl, below_drewN (((Below.refl _ _).alloc (Nat.le_refl _) _).trans (hb.mono (by simp))) _⟩
      · rw [Cal.offs_yes z t ⟨h1, h2⟩ hs]
        have HS := Lib.hid hs
        clear hs
        go_enter Tryz.func177, Tryz.ntmps177
        go_wp2_with fail
        refine (validZone_yes _ _ _ h1 h2).mono ?_
        rintro e w1 ⟨rfl, hb⟩
        obtain ⟨hc, hf⟩ := bcell hb
        have ht1 := (ht.alloc (.cells #[i z, .bool true] 38)).below hb (ht.alloc _).lt
        go_wp2_with (go_at_call 184; refine (summer_is _ _ ht1 HS.out).mono ?_; rintro e w' ⟨rfl, m, rfl⟩)
        go_ret
        exact ⟨rfl, below_drewN (((Below.refl _ _).alloc (Nat.le_refl _) _).trans (hb.mono (by simp))) _⟩
  · rw [Cal.offs_out z s t hz]
    go_enter Tryz.func177, Tryz.ntmps177
    go_wp2_with fail
    refine (validZone_no _ _ _ hz).mono ?_
    rintro e w1 ⟨rfl, hb⟩
    go_wp2_with fail
    go_ret
    exact ⟨rfl, ((Below.refl _ _).alloc (Nat.le_refl _) _).trans (hb.mono (by simp))⟩

set_option maxHeartbeats 400000 in
theorem local_inv (z : Int) (s : Bool) (t : Int) (w : World) (hz : ¬ (-840 ≤ z ∧ z ≤ 840)) :
    Calls Tryz.prog 169 #[zone z s, i t] w fun e w' => e = .returned (.tuple #[noDate, i 1]) ∧ Below w.heap.size w w' := by
  go_enter Tryz.func169, Tryz.ntmps169
  go_wp2_with fail
  refine (validZone_no _ _ _ hz).mono ?_
  rintro e w1 ⟨rfl, hb⟩
  obtain ⟨hc, hf⟩ := bcell hb
  have hs := hb.size
  simp at hs
  go_wp2_with fail
  refine bodyPost_ret (v := .tuple #[noDate, i 1]) (by simp [results, Tryz.results169, go_sem, hc, hf]) rfl ⟨rfl, ?_⟩
  repeat (first | (with_reducible exact Below.refl _ _) | (with_reducible refine below_drewN ?_ _) | (with_reducible refine Below.setCell ?_ (by simp) _) | (with_reducible refine Below.alloc ?_ (by simp) _) | (with_reducible refine Below.trans ?_ (hb.mono (by first | omega | (simp; done) | (simp; omega)))))
set_option maxHeartbeats 400000 in
theorem local_no (z : Int) (s : Bool) (t : Int) (w : World) (hz : -840 ≤ z) (hz' : z ≤ 840) (h : ¬ (0 ≤ t ∧ t ≤ 268435456)) :
    Calls Tryz.prog 169 #[zone z s, i t] w fun e w' => e = .returned (.tuple #[noDate, i 2]) ∧ Below w.heap.size w w' := by
  go_enter Tryz.func169, Tryz.ntmps169
  go_wp2_with fail
  refine (validZone_yes _ _ _ hz hz').mono ?_
  rintro e w1 ⟨rfl, hb⟩
  obtain ⟨hc, hf⟩ := bcell hb
  have hs := hb.size
  simp at hs
  go_wp2_with (go_at_call 175; refine (isTime_no _ _ h).mono ?_; rintro e w' ⟨rfl, rfl⟩)
  refine bodyPost_ret (v := .tuple #[noDate, i 2]) (by simp [results, Tryz.results169, go_sem, hc, hf]) rfl ⟨rfl, ?_⟩
  repeat (first | (with_reducible exact Below.refl _ _) | (with_reducible refine below_drewN ?_ _) | (with_reducible refine Below.setCell ?_ (by simp) _) | (with_reducible refine Below.alloc ?_ (by simp) _) | (with_reducible refine Below.trans ?_ (hb.mono (by first | omega | (simp; done) | (simp; omega)))))
set_option maxHeartbeats 400000 in
theorem local_yes (z : Int) (s : Bool) (t : Int) (w : World) (hz : -840 ≤ z) (hz' : z ≤ 840) (h : 0 ≤ t) (h' : t ≤ 268435456) (ht : Tab w) :
    Calls Tryz.prog 169 #[zone z s, i t] w fun e w' => e = .returned (.tuple #[date ((t + Cal.offs z s t) / 1440) ((t + Cal.offs z s t) % 1440), i 0]) ∧ Below w.heap.size w w' := by
  have ob := Cal.offs_bd z s t
  have hta := (ht.alloc (.cells #[i z, .bool s] 38)).alloc (.cells #[i 0, i 0, i 0, i 0, i 0] 216)
  go_enter Tryz.func169, Tryz.ntmps169
  go_wp2_with fail
  refine (validZone_yes _ _ _ hz hz').mono ?_
  rintro e w1 ⟨rfl, hb⟩
  obtain ⟨hc, hf⟩ := bcell hb
  have hs := hb.size
  simp at hs
  have hta1 := hta.below hb hta.lt
  go_wp2_with (go_at_call 175; refine (isTime_yes _ _ h h').mono ?_; rintro e w' ⟨rfl, rfl⟩)
  refine (offset _ _ _ _ hta1).mono ?_
  rintro e w2 ⟨rfl, hb2⟩
  have hta2 := hta1.below hb2 hta1.lt
  go_wp2_with fail
  refine (civil _ _ (by omega) (by omega) hta2).mono ?_
  rintro e w3 ⟨rfl, hb3⟩
  have hB : Below (w.heap.size + 2) ((w.alloc (.cells #[i z, .bool s] 38)).alloc (.cells #[i 0, i 0, i 0, i 0, i 0] 216)) w3 := by
    have h2 := hb2.size
    exact ((hb.mono (by simp)).trans (hb2.mono (by omega))).trans (hb3.mono (by omega))
  clear hc hf
  have hc : ∀ o, w3.cell? ⟨w.heap.size + 1, o, none⟩ = ((w.alloc (.cells #[i z, .bool s] 38)).alloc (.cells #[i 0, i 0, i 0, i 0, i 0] 216)).cell? ⟨w.heap.size + 1, o, none⟩ := fun o => hB.cell (p := ⟨w.heap.size + 1, o, none⟩) (by simp)
  have hf : ∀ o, w3.frozen? ⟨w.heap.size + 1, o, none⟩ = ((w.alloc (.cells #[i z, .bool s] 38)).alloc (.cells #[i 0, i 0, i 0, i 0, i 0] 216)).frozen? ⟨w.heap.size + 1, o, none⟩ := fun o => hB.frozen (p := ⟨w.heap.size + 1, o, none⟩) (by simp)
  unfold date
  go_wp2_with fail
  refine bodyPost_ret (v := .tuple #[date ((t + Cal.offs z s t) / 1440) ((t + Cal.offs z s t) % 1440), i 0]) (by simp [results, Tryz.results169, go_sem, date, hc, hf]) rfl ⟨rfl, ?_⟩
  repeat (first | (with_reducible exact Below.refl _ _) | (with_reducible refine below_drewN ?_ _) | (with_reducible refine Below.setCell ?_ (by simp) _) | (with_reducible refine Below.alloc ?_ (by simp) _) | (with_reducible refine Below.trans ?_ (hB.mono (by first | omega | (simp; done) | (simp; omega)))))
end CalW
end Go.Proofs.YtpmcdjpfolgpiaaGreatDoor

namespace Go.Proofs.YtpmcdjpfolgpiaaGreatDoor
namespace CalW
set_option linter.unusedSimpArgs false
set_option linter.unusedVariables false
open Go.RowKit

theorem ofInt_i64 (a : Nat) (ha : a < 9223372036854775808) : (BitVec.ofInt 64 (a : Int)).toNat = a := by
  rw [BitVec.ofInt_natCast, BitVec.toNat_ofNat]; exact Nat.mod_eq_of_lt (by omega)
theorem i64_and_nat (a b : Nat) (ha : a < 9223372036854775808) (hb : b < 9223372036854775808) : bits .and .i64 (a : Int) (b : Int) = ((a &&& b : Nat) : Int) := by
  have hx : a &&& b < 2 ^ 63 := Nat.and_lt_two_pow _ (by omega)
  show IntKind.i64.wrap ((BitVec.ofInt 64 (a : Int) &&& BitVec.ofInt 64 (b : Int)).toNat : Int) = _
  rw [BitVec.toNat_and, ofInt_i64 a ha, ofInt_i64 b hb, IntKind.wrap_i64]
  omega
theorem and_one (a : Int) (h : 0 ≤ a) (h' : a ≤ 1000000) : bits .and .i64 a 1 = a % 2 := by
  obtain ⟨n, rfl⟩ := Int.eq_ofNat_of_zero_le h
  have := i64_and_nat n 1 (by omega) (by omega)
  rw [show ((1 : Nat) : Int) = 1 from rfl] at this
  rw [this, Nat.and_one_is_mod]
  omega
theorem shr_bd (d : Int) (n : Nat) (h : 0 ≤ d) (h' : d ≤ 127) : 0 ≤ d / 2 ^ n ∧ d / 2 ^ n ≤ 127 :=
  ⟨Int.ediv_nonneg h (Int.le_of_lt (Int.pow_pos (by omega))), Int.le_trans (Int.ediv_le_self _ h) h'⟩
theorem onD_bits (days v : Int) {b : Bool} (h : 0 ≤ days) (h' : days ≤ 127) (hv : 1 ≤ v) (hd : ¬ days = 0) (hb : (bits .and .i64 (days / 2 ^ (v.toNat - 1)) 1 == 1) = b) : Cal.onD days v = b := by
  have hs := shr_bd days (v.toNat - 1) h h'
  rw [and_one _ hs.1 (by omega)] at hb
  unfold Cal.onD
  rw [show (v - 1).toNat = v.toNat - 1 by omega, hb]
  simp [hd]
theorem onD_zero (v : Int) : Cal.onD 0 v = true := by simp [Cal.onD]

end CalW
end Go.Proofs.YtpmcdjpfolgpiaaGreatDoor
