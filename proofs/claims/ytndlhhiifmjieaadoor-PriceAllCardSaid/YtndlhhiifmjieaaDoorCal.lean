/-
  Plain arithmetic of the calendar: years, months, days. No program in sight.
-/
import Derived.Below
namespace Go.Proofs.YtndlhhiifmjieaaDoor
namespace Cal

/-- The first day of a year, counted from 2000-01-01. -/
def ys (y : Int) : Int := 365 * (y - 2000) + (y - 2000 + 3) / 4 - (y - 2000 + 99) / 100 + (y - 2000 + 399) / 400
def lpB (y : Int) : Bool := decide (y % 4 = 0 ∧ (¬ y % 100 = 0 ∨ y % 400 = 0))
def lp (y : Int) : Int := if lpB y then 1 else 0
def md (y m : Int) : Int := if m = 2 then 28 + lp y else if m = 4 ∨ m = 6 ∨ m = 9 ∨ m = 11 then 30 else 31
/-- Days before month m. -/
def cum (l m : Int) : Int :=
  if m ≤ 1 then 0 else if m = 2 then 31 else if m = 3 then 59 + l else if m = 4 then 90 + l else if m = 5 then 120 + l else if m = 6 then 151 + l
  else if m = 7 then 181 + l else if m = 8 then 212 + l else if m = 9 then 243 + l else if m = 10 then 273 + l else if m = 11 then 304 + l else if m = 12 then 334 + l else 365 + l
def mon (l r : Int) : Int :=
  if r < 31 then 1 else if r < 59 + l then 2 else if r < 90 + l then 3 else if r < 120 + l then 4 else if r < 151 + l then 5 else if r < 181 + l then 6
  else if r < 212 + l then 7 else if r < 243 + l then 8 else if r < 273 + l then 9 else if r < 304 + l then 10 else if r < 334 + l then 11 else 12
def yr (d : Int) : Int :=
  if ys (2000 + d * 400 / 146097 + 1) ≤ d then 2000 + d * 400 / 146097 + 1 else if d < ys (2000 + d * 400 / 146097) then 2000 + d * 400 / 146097 - 1 else 2000 + d * 400 / 146097
def mo (d : Int) : Int := mon (lp (yr d)) (d - ys (yr d))
def dy (d : Int) : Int := d - ys (yr d) - cum (lp (yr d)) (mo d) + 1
def wd (d : Int) : Int := (d + 5) % 7 + 1

def ls (y m : Int) : Int := ys y - 1 + cum (lp y) (m + 1) - wd (ys y - 1 + cum (lp y) (m + 1)) % 7
def smr (t : Int) : Bool := decide (0 ≤ t ∧ t ≤ 268435456 ∧ ls (yr (t / 1440)) 3 * 1440 + 60 ≤ t ∧ t < ls (yr (t / 1440)) 10 * 1440 + 60)
def offs (z : Int) (s : Bool) (t : Int) : Int := if -840 ≤ z ∧ z ≤ 840 then (if s && smr t then z + 60 else z) else 0
/-- The reference's test on a date against the last Sunday of a month with 31 days. -/
def aft (mo dy v mi m : Int) : Bool := if mo = m then decide (dy > dy - v % 7 + 7 * ((31 - (dy - v % 7)) / 7)) || (decide (dy = dy - v % 7 + 7 * ((31 - (dy - v % 7)) / 7)) && decide (60 ≤ mi)) else decide (m < mo)
/-- Is a weekday one of a set of days? -/
def onD (days v : Int) : Bool := days == 0 || days / 2 ^ (v - 1).toNat % 2 == 1
/-- A time with the local minute, on one of the days. -/
def hit (z : Int) (s : Bool) (days mi u : Int) : Prop := (u + offs z s u) % 1440 = mi ∧ onD days (wd ((u + offs z s u) / 1440)) = true
/-- What Next answers: the first hit within reach, or none. -/
def NextIs (z : Int) (s : Bool) (t days mi r e : Int) : Prop :=
  (e = 0 ∧ t < r ∧ r ≤ t + 11520 ∧ r ≤ 268435456 ∧ hit z s days mi r ∧ ∀ v, t < v → v < r → ¬ hit z s days mi v) ∨
  (e = 8 ∧ r = 0 ∧ ∀ v, t < v → v ≤ t + 11520 → v ≤ 268435456 → ¬ hit z s days mi v)
def dayOf (y m k : Int) : Int := ys y + cum (lp y) m + k - 1
def TimeOK (y m k v mi : Int) : Prop := 2000 ≤ y ∧ y ≤ 2600 ∧ 1 ≤ m ∧ m ≤ 12 ∧ 1 ≤ k ∧ k ≤ md y m ∧ 0 ≤ mi ∧ mi ≤ 1439 ∧ (v = 0 ∨ v = wd (dayOf y m k)) ∧ dayOf y m k * 1440 + mi ≤ 268435456
theorem lp_01 (y : Int) : 0 ≤ lp y ∧ lp y ≤ 1 := by unfold lp; split <;> omega
theorem lp_iff (y : Int) : (lp y = 1 ∧ y % 4 = 0 ∧ (¬ y % 100 = 0 ∨ y % 400 = 0)) ∨ (lp y = 0 ∧ ¬ (y % 4 = 0 ∧ (¬ y % 100 = 0 ∨ y % 400 = 0))) := by
  unfold lp lpB
  by_cases h : (y % 4 = 0 ∧ (¬ y % 100 = 0 ∨ y % 400 = 0)) <;> simp [h]
theorem ys_succ (y : Int) : ys (y + 1) = ys y + 365 + lp y := by
  have := lp_iff y
  unfold ys
  omega
theorem ys_bd (y : Int) (h0 : -100000 ≤ y) (h : y ≤ 100000) : -40000000 ≤ ys y ∧ ys y ≤ 40000000 := by unfold ys; omega
theorem ys_mono (a b : Int) (h : a ≤ b) : ys a ≤ ys b := by unfold ys; omega
theorem ys_lt (a b : Int) (h : a < b) : ys a + 365 ≤ ys b := by
  have h1 := ys_succ a
  have h2 := lp_01 a
  have h3 := ys_mono (a + 1) b (by omega)
  omega
theorem yr_spec (d : Int) : ys (yr d) ≤ d ∧ d < ys (yr d + 1) := by
  unfold yr
  generalize hq : d * 400 / 146097 = q
  have h1 : 146097 * q ≤ d * 400 := by omega
  have h2 : d * 400 < 146097 * q + 146097 := by omega
  split
  · rename_i h
    refine ⟨h, ?_⟩
    unfold ys at *
    omega
  · split
    · rename_i h h'
      refine ⟨?_, by rw [show 2000 + q - 1 + 1 = 2000 + q by omega]; exact h'⟩
      unfold ys at *
      omega
    · omega
theorem yr_eq (d y : Int) (h1 : ys y ≤ d) (h2 : d < ys (y + 1)) : yr d = y := by
  obtain ⟨g1, g2⟩ := yr_spec d
  rcases Int.lt_trichotomy (yr d) y with h | h | h
  · have := ys_mono (yr d + 1) y (by omega); omega
  · exact h
  · have := ys_mono (y + 1) (yr d) (by omega); omega
theorem mon_bd (l r : Int) : 1 ≤ mon l r ∧ mon l r ≤ 12 := by unfold mon; repeat (first | omega | split)
theorem cum_mon (l r : Int) (hl : 0 ≤ l) (hl' : l ≤ 1) (h0 : 0 ≤ r) (h : r < 365 + l) : cum l (mon l r) ≤ r ∧ r < cum l (mon l r + 1) := by
  unfold mon
  repeat (first | (simp [cum]; omega) | split)
theorem cum_succ (y m : Int) (h1 : 1 ≤ m) (h2 : m ≤ 12) : cum (lp y) (m + 1) = cum (lp y) m + md y m := by
  have h : m = 1 ∨ m = 2 ∨ m = 3 ∨ m = 4 ∨ m = 5 ∨ m = 6 ∨ m = 7 ∨ m = 8 ∨ m = 9 ∨ m = 10 ∨ m = 11 ∨ m = 12 := by omega
  rcases h with rfl | rfl | rfl | rfl | rfl | rfl | rfl | rfl | rfl | rfl | rfl | rfl <;> simp [cum, md] <;> omega
theorem mon_eq (l r m : Int) (hl : 0 ≤ l) (hl' : l ≤ 1) (hm : 1 ≤ m) (hm' : m ≤ 12) (h0 : cum l m ≤ r) (h : r < cum l (m + 1)) : mon l r = m := by
  have h : m = 1 ∨ m = 2 ∨ m = 3 ∨ m = 4 ∨ m = 5 ∨ m = 6 ∨ m = 7 ∨ m = 8 ∨ m = 9 ∨ m = 10 ∨ m = 11 ∨ m = 12 := by omega
  rcases h with rfl | rfl | rfl | rfl | rfl | rfl | rfl | rfl | rfl | rfl | rfl | rfl <;> simp [cum] at h0 h <;> unfold mon <;> repeat (first | omega | split)
theorem cum_bd (l m : Int) (hl : 0 ≤ l) (hl' : l ≤ 1) : 0 ≤ cum l m ∧ cum l m ≤ 366 := by unfold cum; repeat (first | omega | split)
theorem md_bd (y m : Int) : 28 ≤ md y m ∧ md y m ≤ 31 := by have := lp_01 y; unfold md; repeat (first | omega | split)
theorem rest_bd (d : Int) : 0 ≤ d - ys (yr d) ∧ d - ys (yr d) < 365 + lp (yr d) := by
  obtain ⟨h1, h2⟩ := yr_spec d
  rw [ys_succ] at h2
  omega
theorem mo_bd (d : Int) : 1 ≤ mo d ∧ mo d ≤ 12 := mon_bd _ _
theorem mo_spec (d : Int) : cum (lp (yr d)) (mo d) ≤ d - ys (yr d) ∧ d - ys (yr d) < cum (lp (yr d)) (mo d) + md (yr d) (mo d) := by
  obtain ⟨h1, h2⟩ := rest_bd d
  obtain ⟨l1, l2⟩ := lp_01 (yr d)
  obtain ⟨h3, h4⟩ := cum_mon (lp (yr d)) (d - ys (yr d)) l1 l2 h1 h2
  have h5 := cum_succ (yr d) (mo d) (mo_bd d).1 (mo_bd d).2
  unfold mo at *
  omega
theorem dy_bd (d : Int) : 1 ≤ dy d ∧ dy d ≤ md (yr d) (mo d) := by
  obtain ⟨h1, h2⟩ := mo_spec d
  unfold dy
  omega
/-- A year, month and day of the month determine a day, and are determined by it. -/
theorem date_eq (d y m k : Int) (hm : 1 ≤ m) (hm' : m ≤ 12) (hk : 1 ≤ k) (hk' : k ≤ md y m) (h : d = ys y + cum (lp y) m + k - 1) : yr d = y ∧ mo d = m ∧ dy d = k := by
  have l := lp_01 y
  have c := cum_bd (lp y) m l.1 l.2
  have c2 := cum_succ y m hm hm'
  have c3 : cum (lp y) (m + 1) ≤ 365 + lp y := by
    have h : m = 1 ∨ m = 2 ∨ m = 3 ∨ m = 4 ∨ m = 5 ∨ m = 6 ∨ m = 7 ∨ m = 8 ∨ m = 9 ∨ m = 10 ∨ m = 11 ∨ m = 12 := by omega
    rcases h with rfl | rfl | rfl | rfl | rfl | rfl | rfl | rfl | rfl | rfl | rfl | rfl <;> simp [cum] <;> omega
  have hy : yr d = y := yr_eq d y (by omega) (by rw [ys_succ]; omega)
  have hmo : mo d = m := by
    unfold mo
    rw [hy]
    exact mon_eq _ _ _ l.1 l.2 hm hm' (by omega) (by omega)
  refine ⟨hy, hmo, ?_⟩
  unfold dy
  rw [hmo, hy]
  omega
theorem day_eq (d : Int) : ys (yr d) + cum (lp (yr d)) (mo d) + dy d - 1 = d := by unfold dy; omega
theorem cum_mono (l a b : Int) (hl : 0 ≤ l) (hl' : l ≤ 1) (h : a ≤ b) : cum l a ≤ cum l b := by
  unfold cum; repeat (first | omega | split)
theorem mo_up (d m : Int) (h1 : 1 ≤ m) (h2 : m ≤ mo d) : md (yr d) m ≤ d - ys (yr d) - cum (lp (yr d)) m ↔ m < mo d := by
  have l := lp_01 (yr d)
  have b := mo_bd d
  have s := mo_spec d
  have c := cum_succ (yr d) m h1 (by omega)
  constructor
  · intro h
    rcases Int.lt_or_le m (mo d) with g | g
    · exact g
    · have : m = mo d := by omega
      subst this
      omega
  · intro h
    have := cum_mono (lp (yr d)) (m + 1) (mo d) l.1 l.2 (by omega)
    omega
theorem wd_bd (d : Int) : 1 ≤ wd d ∧ wd d ≤ 7 := by unfold wd; omega
theorem yr_bd (d : Int) (h : -1000 ≤ d) (h' : d ≤ 300000) : 1990 ≤ yr d ∧ yr d ≤ 2830 := by
  obtain ⟨h1, h2⟩ := yr_spec d
  constructor
  · rcases Int.lt_or_le (yr d) 1990 with g | g
    · have := ys_mono (yr d + 1) 1990 (by omega)
      have e : ys 1990 = -3652 := by decide
      omega
    · exact g
  · rcases Int.lt_or_le 2830 (yr d) with g | g
    · have := ys_mono 2830 (yr d) (by omega)
      have e : ys 2830 = 303152 := by decide
      omega
    · exact g
theorem ys_2000 (y : Int) (h : 2000 ≤ y) (h' : y ≤ 2600) : 0 ≤ ys y ∧ ys y ≤ 219146 := by unfold ys; omega
theorem dayOf_bd (y m k : Int) (h : 2000 ≤ y) (h' : y ≤ 2600) (hk : 1 ≤ k) (hk' : k ≤ md y m) : 0 ≤ dayOf y m k ∧ dayOf y m k ≤ 219600 := by
  have a := ys_2000 y h h'
  have b := cum_bd (lp y) m (lp_01 y).1 (lp_01 y).2
  have c := md_bd y m
  unfold dayOf
  omega
theorem dayOf_succ (y m k : Int) (h1 : 1 ≤ m) (h2 : m ≤ 12) : dayOf y (m + 1) k = dayOf y m k + md y m := by
  unfold dayOf
  rw [cum_succ y m h1 h2]
  omega
theorem dayOf_one (y k : Int) : dayOf y 1 k = ys y + k - 1 := by simp [dayOf, cum]
theorem ls_bd (y m : Int) (h : 0 ≤ y) (h' : y ≤ 100000) : -41000000 ≤ ls y m ∧ ls y m ≤ 41000000 := by
  have a := ys_bd y (by omega) (by omega)
  have b := cum_bd (lp y) (m + 1) (lp_01 y).1 (lp_01 y).2
  unfold ls
  omega
theorem offs_bd (z : Int) (s : Bool) (t : Int) : -840 ≤ offs z s t ∧ offs z s t ≤ 900 := by
  unfold offs
  split
  · split <;> omega
  · omega
theorem offs_out (z : Int) (s : Bool) (t : Int) (h : ¬ (-840 ≤ z ∧ z ≤ 840)) : offs z s t = 0 := by simp only [offs, if_neg h]
theorem offs_off (z : Int) (t : Int) (h : -840 ≤ z ∧ z ≤ 840) : offs z false t = z := by simp [offs, if_pos h]
theorem offs_no (z : Int) (s : Bool) (t : Int) (h : -840 ≤ z ∧ z ≤ 840) (hs : smr t = false) : offs z s t = z := by simp [offs, if_pos h, hs]
theorem offs_yes (z : Int) (t : Int) (h : -840 ≤ z ∧ z ≤ 840) (hs : smr t = true) : offs z true t = z + 60 := by simp [offs, if_pos h, hs]
theorem NextIs.eq {z : Int} {s : Bool} {t days mi r e r' e' : Int} (h : NextIs z s t days mi r e) (h' : NextIs z s t days mi r' e') : r = r' ∧ e = e' := by
  rcases h with ⟨rfl, a1, a2, a3, a4, a5⟩ | ⟨rfl, rfl, a⟩ <;> rcases h' with ⟨rfl, b1, b2, b3, b4, b5⟩ | ⟨rfl, rfl, b⟩
  · refine ⟨?_, rfl⟩
    rcases Int.lt_trichotomy r r' with h | h | h
    · exact absurd a4 (b5 r a1 h)
    · exact h
    · exact absurd b4 (a5 r' b1 h)
  · exact absurd a4 (b r a1 a2 a3)
  · exact absurd b4 (a r' b1 b2 b3)
  · exact ⟨rfl, rfl⟩
/-- The two loops of Next: what holds of the best time so far, behind the offsets up to k. -/
def Best (z : Int) (s : Bool) (t days mi last k best : Int) : Prop :=
  t < best ∧ best ≤ last + 1 ∧ (best ≤ last → hit z s days mi best) ∧ ∀ v, t < v → v < best → (∃ j, 0 ≤ j ∧ j < k ∧ offs z s v = z + 60 * j) → ¬ hit z s days mi v
def Seen (z : Int) (s : Bool) (t days mi a at_ best : Int) : Prop := ∀ v, t < v → v < best → v < at_ → offs z s v = a → ¬ hit z s days mi v
theorem Seen.miss {z : Int} {s : Bool} {t days mi a at_ best : Int} (h : Seen z s t days mi a at_ best) (hm : (at_ + a) % 1440 = mi) (hmiss : offs z s at_ = a → ¬ hit z s days mi at_) : Seen z s t days mi a (at_ + 1440) best := by
  intro v h1 h2 h3 h4 h5
  rcases Int.lt_or_le v at_ with g | g
  · exact h v h1 h2 g h4 h5
  · have h6 := h5.1
    rw [h4] at h6
    have : v = at_ := by omega
    subst this
    exact hmiss h4 h5
theorem Seen.first (z : Int) (s : Bool) (t days mi a at_ best : Int) (hm : (at_ + a) % 1440 = mi) (hl : at_ ≤ t + 1440) : Seen z s t days mi a at_ best := by
  intro v h1 h2 h3 h4 h5
  have h6 := h5.1
  rw [h4] at h6
  omega
theorem Best.next {z : Int} {s : Bool} {t days mi last k best at_ : Int} (h : Best z s t days mi last k best) (hs : Seen z s t days mi (z + 60 * k) at_ best) (hle : best ≤ at_) : Best z s t days mi last (k + 1) best := by
  obtain ⟨h1, h2, h3, h4⟩ := h
  refine ⟨h1, h2, h3, fun v g1 g2 ⟨j, j1, j2, j3⟩ => ?_⟩
  rcases Int.lt_or_le j k with g | g
  · exact h4 v g1 g2 ⟨j, j1, g, j3⟩
  · have : j = k := by omega
    subst this
    exact hs v g1 g2 (by omega) j3
theorem Best.less {z : Int} {s : Bool} {t days mi last k best at_ : Int} (h : Best z s t days mi last k best) (hlt : at_ < best) (h0 : t < at_) (hh : hit z s days mi at_) : Best z s t days mi last k at_ := by
  obtain ⟨h1, h2, h3, h4⟩ := h
  exact ⟨h0, by omega, fun _ => hh, fun v g1 g2 g3 => h4 v g1 (by omega) g3⟩
theorem Best.done_none {z : Int} {s : Bool} {t days mi last best : Int} (h : Best z s t days mi last 2 best) (hz : -840 ≤ z) (hz' : z ≤ 840) (hb : last < best) (hl : last = t + 11520 ∨ last = 268435456) : NextIs z s t days mi 0 8 := by
  refine .inr ⟨rfl, rfl, fun v h1 h2 h3 => h.2.2.2 v h1 (by omega) ?_⟩
  unfold offs
  rw [if_pos ⟨hz, hz'⟩]
  split
  · exact ⟨1, by omega, by omega, by omega⟩
  · exact ⟨0, by omega, by omega, by omega⟩
theorem Best.done_some {z : Int} {s : Bool} {t days mi last best : Int} (h : Best z s t days mi last 2 best) (hz : -840 ≤ z) (hz' : z ≤ 840) (hb : best ≤ last) (hl : last ≤ t + 11520) (hl' : last ≤ 268435456) : NextIs z s t days mi best 0 := by
  refine .inl ⟨rfl, h.1, by omega, by omega, h.2.2.1 hb, fun v h1 h2 => h.2.2.2 v h1 h2 ?_⟩
  unfold offs
  rw [if_pos ⟨hz, hz'⟩]
  split
  · exact ⟨1, by omega, by omega, by omega⟩
  · exact ⟨0, by omega, by omega, by omega⟩
theorem ys_guess (d : Int) (h : 0 ≤ d) (h' : d ≤ 300000) : 2000 + d / 366 ≤ yr d := by
  obtain ⟨h1, h2⟩ := yr_spec d
  have h3 : ys (2000 + d / 366) ≤ d := by unfold ys; omega
  rcases Int.lt_or_le (yr d) (2000 + d / 366) with g | g
  · have := ys_mono (yr d + 1) (2000 + d / 366) (by omega); omega
  · exact g
theorem yr_ge (d : Int) (h : -1 ≤ d) : 1999 ≤ yr d := by
  obtain ⟨h1, h2⟩ := yr_spec d
  rcases Int.lt_or_le (yr d) 1999 with g | g
  · have := ys_mono (yr d + 1) 1999 (by omega)
    have e : ys 1999 = -365 := by decide
    omega
  · exact g
theorem md_31 (y m : Int) (hm : m = 3 ∨ m = 10) : md y m = 31 := by rcases hm with rfl | rfl <;> simp [md]
theorem aft_iff (d mi m : Int) (hm : m = 3 ∨ m = 10) (h0 : 0 ≤ mi) (h1 : mi < 1440) : aft (mo d) (dy d) (wd d) mi m = decide (ls (yr d) m * 1440 + 60 ≤ d * 1440 + mi) := by
  have hd := day_eq d
  have hb := dy_bd d
  have mb := mo_bd d
  have l := lp_01 (yr d)
  have hmd := md_31 (yr d) m hm
  have cs := cum_succ (yr d) m (by omega) (by omega)
  rw [hmd] at cs
  by_cases h : mo d = m
  · rw [h] at hd hb
    rw [hmd] at hb
    unfold aft ls wd
    rw [if_pos h, cs, Bool.eq_iff_iff]
    simp only [Bool.or_eq_true, Bool.and_eq_true, decide_eq_true_eq]
    generalize cum (lp (yr d)) m = c at *
    generalize ys (yr d) = y at *
    generalize dy d = k at *
    subst hd
    omega
  · unfold aft
    rw [if_neg h, decide_eq_decide]
    constructor
    · intro g
      have c1 := cum_mono (lp (yr d)) (m + 1) (mo d) l.1 l.2 (by omega)
      unfold ls
      omega
    · intro g
      rcases Int.lt_or_le m (mo d) with x | x
      · exact x
      · exfalso
        have c1 := cum_mono (lp (yr d)) (mo d + 1) m l.1 l.2 (by omega)
        have c2 := cum_succ (yr d) (mo d) mb.1 mb.2
        unfold ls at g
        omega
theorem smr_aft (t : Int) (h0 : 0 ≤ t) (h1 : t ≤ 268435456) : smr t = (aft (mo (t / 1440)) (dy (t / 1440)) (wd (t / 1440)) (t % 1440) 3 && !aft (mo (t / 1440)) (dy (t / 1440)) (wd (t / 1440)) (t % 1440) 10) := by
  rw [aft_iff _ _ 3 (.inl rfl) (by omega) (by omega), aft_iff _ _ 10 (.inr rfl) (by omega) (by omega)]
  have : t / 1440 * 1440 + t % 1440 = t := by omega
  rw [this]
  unfold smr
  rw [Bool.eq_iff_iff]
  simp only [Bool.and_eq_true, Bool.not_eq_true', decide_eq_true_eq, decide_eq_false_iff_not]
  omega
theorem least_ex (P : Int → Prop) (t : Int) (n : Nat) : (∃ r, t < r ∧ r ≤ t + n ∧ P r ∧ ∀ v, t < v → v < r → ¬ P v) ∨ ∀ v, t < v → v ≤ t + n → ¬ P v := by
  induction n with
  | zero => exact .inr fun v h1 h2 => by omega
  | succ n ih =>
    rcases ih with ⟨r, h1, h2, h3, h4⟩ | h
    · exact .inl ⟨r, h1, by omega, h3, h4⟩
    · by_cases hp : P (t + n + 1)
      · exact .inl ⟨t + n + 1, by omega, by omega, hp, fun v g1 g2 => h v g1 (by omega)⟩
      · refine .inr fun v h1 h2 => ?_
        rcases Int.lt_or_le v (t + n + 1) with g | g
        · exact h v h1 (by omega)
        · obtain rfl : v = t + n + 1 := by omega
          exact hp
theorem nextIs_ex (z : Int) (s : Bool) (t days mi : Int) : ∃ r c, NextIs z s t days mi r c := by
  rcases least_ex (fun r => r ≤ 268435456 ∧ hit z s days mi r) t 11520 with ⟨r, h1, h2, h3, h4⟩ | h
  · exact ⟨r, 0, .inl ⟨rfl, h1, h2, h3.1, h3.2, fun v g1 g2 g3 => h4 v g1 g2 ⟨by omega, g3⟩⟩⟩
  · exact ⟨0, 8, .inr ⟨rfl, rfl, fun v g1 g2 g3 g4 => h v g1 g2 ⟨g3, g4⟩⟩⟩
end Cal
end Go.Proofs.YtndlhhiifmjieaaDoor
