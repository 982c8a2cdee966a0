/-
  The walks of package calendar's inner functions: what each computes, in the words of the plain calendar.
-/
import Derived.Test.YtndlhhiifmjieaaDoorCal
import Derived.Test.YtndlhhiifmjieaaDoorProg
import Derived.WalkKit
import Derived.Deep.QuietTactic
import Derived.BigQuiet
import Derived.Lib.Hide
import Derived.Outline
namespace Go.Proofs.YtndlhhiifmjieaaDoor
namespace CalW
set_option linter.unusedSimpArgs false
set_option linter.unusedVariables false
open Go.RowKit

abbrev i (n : Int) : Value := .int .i64 n

/-- The table of the months' lengths. -/
def Tab (w : World) : Prop := ∀ k : Nat, k < 12 → w.cell? ⟨2, k, none⟩ = some (i (([31, 28, 31, 30, 31, 30, 31, 31, 30, 31, 30, 31] : List Int).getD k 0))

theorem div_neg (a b : Int) (hb : 1 ≤ b) (h : a.tmod b < 0) : a.tdiv b - 1 = a / b ∧ a.tmod b + b = a % b := by
  have h1 := Int.mul_tdiv_add_tmod a b
  have h2 : -b < a.tmod b := by
    have := Int.tmod_lt_of_pos (-a) (show 0 < b by omega)
    rw [Int.neg_tmod] at this
    omega
  have h3 : a % b = a.tmod b + b := by
    have : a = (a.tmod b + b) + b * (a.tdiv b - 1) := by rw [Int.mul_sub]; omega
    rw [this, Int.add_mul_emod_self_left, Int.emod_eq_of_lt (by omega) (by omega)]
    rw [← this]
  refine ⟨?_, h3.symm⟩
  have h4 := Int.mul_ediv_add_emod a b
  have h5 : b * (a / b) = b * (a.tdiv b - 1) := by rw [Int.mul_sub]; omega
  exact (Int.eq_of_mul_eq_mul_left (by omega) h5).symm
theorem div_pos (a b : Int) (hb : 1 ≤ b) (h : 0 ≤ a.tmod b) : a.tdiv b = a / b ∧ a.tmod b = a % b := by
  have h1 := Int.mul_tdiv_add_tmod a b
  have h2 : a.tmod b < b := Int.tmod_lt_of_pos a (by omega)
  have h3 : a % b = a.tmod b := by
    have : a = a.tmod b + b * a.tdiv b := by omega
    rw [this, Int.add_mul_emod_self_left, Int.emod_eq_of_lt (by omega) (by omega)]
    rw [← this]
  refine ⟨?_, h3.symm⟩
  have h4 := Int.mul_ediv_add_emod a b
  have h5 : b * (a / b) = b * a.tdiv b := by omega
  exact (Int.eq_of_mul_eq_mul_left (by omega) h5).symm

theorem below_drewN {B : Nat} {a w : World} (h : Below B a w) (n : Nat) : Below B a (w.drewN n) := ⟨h.os, h.tape, h.output, h.size, h.block⟩
theorem quiet_add {P : Program} {f : FuncId} {args : Array Value} {w : World} {a n : Nat} {v : Value}
    (h : Calls P f args (w.drewN (a + n)) fun e w' => e = .returned v ∧ ∃ m, w' = (w.drewN (a + n)).drewN m) :
    Calls P f args (w.drewN (a + n)) fun e w'' => e = .returned v ∧ ∃ m, w'' = w.drewN (a + m) :=
  h.mono fun _ _ ⟨he, m, hm⟩ => ⟨he, n + m, by rw [hm, World.drewN_drewN, Nat.add_assoc]⟩
theorem quiet_add_left {P : Program} {f : FuncId} {args : Array Value} {w : World} {a n : Nat} {v : Value}
    (h : Calls P f args (w.drewN (a + n)) fun e w' => e = .returned v ∧ w.drewN (a + n) = w') :
    Calls P f args (w.drewN (a + n)) fun e w'' => e = .returned v ∧ ∃ m, w'' = w.drewN (a + m) :=
  h.mono fun _ _ ⟨he, hm⟩ => ⟨he, n, hm.symm⟩
theorem quiet_left {P : Program} {f : FuncId} {args : Array Value} {w : World} {n : Nat} {v : Value}
    (h : Calls P f args (w.drewN n) fun e w' => e = .returned v ∧ w.drewN n = w') : Calls P f args (w.drewN n) fun e w'' => e = .returned v ∧ ∃ m, w'' = w.drewN m :=
  h.mono fun _ _ ⟨he, hm⟩ => ⟨he, n, hm.symm⟩
theorem ret1 {a c : Int} (h1 : a = c) : Ending.returned (.int .i64 a) = .returned (i c) := by rw [h1]
theorem ret2 {a b c d : Int} (h1 : a = c) (h2 : b = d) : Ending.returned (.tuple #[.int .i64 a, .int .i64 b]) = .returned (.tuple #[i c, i d]) := by rw [h1, h2]
theorem retB {a c : Bool} (h1 : a = c) : Ending.returned (.bool a) = .returned (.bool c) := by rw [h1]

theorem w64 (n : Int) (h : -9223372036854775808 ≤ n) (h' : n ≤ 9223372036854775807) : wrap64 n = n := IntWalk.wrap64_in n ⟨h, h'⟩

set_option maxHeartbeats 400000 in
theorem divide (a b : Int) (w : World) (hb : 1 ≤ b) (hb' : b ≤ 1000000) (ha : -1000000000000 ≤ a) (ha' : a ≤ 1000000000000) :
    Calls Tryd.prog 88 #[i a, i b] w fun e w' => e = .returned (.tuple #[i (a / b), i (a % b)]) ∧ ∃ n, w' = w.drewN n := by
  have HD : Hid (-1000000000000 ≤ a / b ∧ a / b ≤ 1000000000000) := by
    constructor
    · exact Int.le_trans (by omega) ((Int.le_ediv_iff_mul_le (by omega)).2 (show -1000000000000 * b ≤ a by omega))
    · rcases Int.lt_or_le a 0 with h | h
      · have := Int.ediv_lt_of_lt_mul (show 0 < b by omega) (show a < 1 * b by omega); omega
      · exact Int.le_trans (Int.ediv_le_self _ h) ha'
  go_enter Tryd.func88, Tryd.ntmps88
  go_wp2
  go_quiet (fail)
  go_wp2
  · go_ret2
    rename_i h
    obtain ⟨e1, e2⟩ := div_neg a b hb h
    have := HD.out
    have := Int.emod_lt_of_pos a (show 0 < b by omega)
    have := Int.emod_nonneg a (show b ≠ 0 by omega)
    exact ⟨ret2 (by rw [e1]; exact w64 _ (by omega) (by omega)) (by rw [e2]; exact w64 _ (by omega) (by omega)), _, rfl⟩
  · go_ret2
    rename_i h
    obtain ⟨e1, e2⟩ := div_pos a b hb h
    exact ⟨ret2 e1 e2, _, rfl⟩

set_option maxHeartbeats 400000 in
theorem leap (y : Int) (w : World) (h : 0 ≤ y) (h' : y ≤ 100000) :
    Calls Tryd.prog 95 #[i y] w fun e w' => e = .returned (.bool (Cal.lpB y)) ∧ w = w' := by
  go_enter Tryd.func95, Tryd.ntmps95
  go_wp2
  all_goals go_ret
  all_goals refine ⟨retB ?_, rfl⟩
  all_goals (simp_all [Cal.lpB]; try rfl)

theorem leap_yes (y : Int) (w : World) (h : 0 ≤ y) (h' : y ≤ 100000) (hl : Cal.lpB y = true) :
    Calls Tryd.prog 95 #[i y] w fun e w' => e = .returned (.bool true) ∧ w = w' := by
  have := leap y w h h'
  rwa [hl] at this
theorem leap_no (y : Int) (w : World) (h : 0 ≤ y) (h' : y ≤ 100000) (hl : Cal.lpB y = false) :
    Calls Tryd.prog 95 #[i y] w fun e w' => e = .returned (.bool false) ∧ w = w' := by
  have := leap y w h h'
  rwa [hl] at this

theorem md2_yes {y : Int} (hl : Cal.lpB y = true) : Cal.md y 2 = 29 := by simp [Cal.md, Cal.lp, hl]
theorem md2_no {y : Int} (hl : Cal.lpB y = false) : Cal.md y 2 = 28 := by simp [Cal.md, Cal.lp, hl]

set_option maxHeartbeats 1000000 in
theorem monthDays (y m : Int) (w : World) (h : 0 ≤ y) (h' : y ≤ 100000) (hm : 1 ≤ m) (hm' : m ≤ 12) (ht : Tab w) :
    Calls Tryd.prog 91 #[i y, i m] w fun e w' => e = .returned (i (Cal.md y m)) ∧ w = w' := by
  have hc : m = 1 ∨ m = 2 ∨ m = 3 ∨ m = 4 ∨ m = 5 ∨ m = 6 ∨ m = 7 ∨ m = 8 ∨ m = 9 ∨ m = 10 ∨ m = 11 ∨ m = 12 := by omega
  by_cases h2 : m = 2
  · subst h2
    clear hc
    have c1 : w.cell? ⟨2, 1, none⟩ = some (i 28) := ht 1 (by omega)
    cases hl : Cal.lpB y
    · have HL := Lib.hid hl
      clear hl
      go_enter Tryd.func91, Tryd.ntmps91
      go_wp2_with (go_at_call 95; refine (leap_no y _ (by omega) (by omega) HL.out).mono ?_; rintro e w' ⟨rfl, rfl⟩)
      go_ret
      exact ⟨ret1 (md2_no HL.out).symm, rfl⟩
    · have HL := Lib.hid hl
      clear hl
      go_enter Tryd.func91, Tryd.ntmps91
      go_wp2_with (go_at_call 95; refine (leap_yes y _ (by omega) (by omega) HL.out).mono ?_; rintro e w' ⟨rfl, rfl⟩)
      go_ret
      exact ⟨ret1 (md2_yes HL.out).symm, rfl⟩
  · have key : ∀ k : Nat, k < 12 → m = (k : Int) + 1 → w.cell? ⟨2, k, none⟩ = some (i (Cal.md y m)) := by
      intro k hk e
      rw [ht k hk]
      subst e
      have hk' : k = 0 ∨ k = 2 ∨ k = 3 ∨ k = 4 ∨ k = 5 ∨ k = 6 ∨ k = 7 ∨ k = 8 ∨ k = 9 ∨ k = 10 ∨ k = 11 := by omega
      rcases hk' with rfl | rfl | rfl | rfl | rfl | rfl | rfl | rfl | rfl | rfl | rfl <;> simp [Cal.md]
    obtain ⟨k, rfl⟩ : ∃ k : Nat, m = (k : Int) + 1 := ⟨(m - 1).toNat, by omega⟩
    have hk : k < 12 := by omega
    have c1 := key k hk rfl
    have hne : (((k : Int) + 1) == 2) = false := by simpa using h2
    clear key hc h2 ht
    generalize Cal.md y ((k : Int) + 1) = r at *
    go_enter Tryd.func91, Tryd.ntmps91
    go_wp2_with fail
    go_ret
    exact ⟨rfl, rfl⟩

set_option maxHeartbeats 400000 in
theorem multiples (k n : Int) (w : World) (hn : 1 ≤ n) (hn' : n ≤ 1000) (hk : -200000 ≤ k) (hk' : k ≤ 200000) :
    Calls Tryd.prog 94 #[i k, i n] w fun e w' => e = .returned (i ((k + n - 1) / n)) ∧ ∃ m, w' = w.drewN m := by
  go_enter Tryd.func94, Tryd.ntmps94
  go_wp2_with (go_at_call 88; refine (divide _ _ _ (by omega) (by omega) (by omega) (by omega)).mono ?_; rintro e w' ⟨rfl, m, rfl⟩)
  go_ret
  exact ⟨rfl, _, rfl⟩

set_option maxHeartbeats 400000 in
theorem yearStart (y : Int) (w : World) (h : -100000 ≤ y) (h' : y ≤ 100000) :
    Calls Tryd.prog 90 #[i y] w fun e w' => e = .returned (i (Cal.ys y)) ∧ ∃ m, w' = w.drewN m := by
  go_enter Tryd.func90, Tryd.ntmps90
  go_wp2_with (go_at_call 94; refine (multiples _ _ _ (by omega) (by omega) (by omega) (by omega)).mono ?_; rintro e w' ⟨rfl, m, rfl⟩)
  go_ret
  exact ⟨ret1 (by unfold Cal.ys; omega), _, rfl⟩

set_option maxHeartbeats 400000 in
theorem weekday (d : Int) (w : World) (h : -100000000 ≤ d) (h' : d ≤ 100000000) :
    Calls Tryd.prog 92 #[i d] w fun e w' => e = .returned (i (Cal.wd d)) ∧ ∃ m, w' = w.drewN m := by
  go_enter Tryd.func92, Tryd.ntmps92
  go_wp2_with (go_at_call 88; refine (divide _ _ _ (by omega) (by omega) (by omega) (by omega)).mono ?_; rintro e w' ⟨rfl, m, rfl⟩)
  go_ret
  exact ⟨rfl, _, rfl⟩

theorem yr_up (d y : Int) : Cal.ys (y + 1) ≤ d ↔ y < Cal.yr d := by
  obtain ⟨h1, h2⟩ := Cal.yr_spec d
  constructor
  · intro h
    rcases Int.lt_or_le y (Cal.yr d) with g | g
    · exact g
    · have := Cal.ys_mono (Cal.yr d + 1) (y + 1) (by omega); omega
  · intro h
    have := Cal.ys_mono (y + 1) (Cal.yr d) (by omega); omega
theorem yr_down (d y : Int) : d < Cal.ys y ↔ Cal.yr d < y := by
  have := yr_up d (y - 1)
  rw [show y - 1 + 1 = y by omega] at this
  omega

set_option maxHeartbeats 400000 in
theorem yearOf (d : Int) (w : World) (h : -1000 ≤ d) (h' : d ≤ 300000) :
    Calls Tryd.prog 89 #[i d] w fun e w' => e = .returned (i (Cal.yr d)) ∧ ∃ m, w' = w.drewN m := by
  have hy := Cal.yr_bd d h h'
  go_enter Tryd.func89, Tryd.ntmps89
  go_wp2_with (go_at_call 88; refine (divide _ _ _ (by omega) (by omega) (by omega) (by omega)).mono ?_; rintro e w' ⟨rfl, m, rfl⟩)
  go_loopw [5] (fun t wr => ∃ (y : Int) (m : Nat), 1900 ≤ y ∧ y ≤ 3000 ∧ t = i y ∧ wr = w.drewN m) (fun t _ => (3000 - intOf t).toNat)
  case atStart => exact ⟨_, m, by omega, by omega, rfl, rfl⟩
  case round =>
    obtain ⟨y, m1, h1, h2, rfl, rfl⟩ := hrel
    by_cases hlt : y < Cal.yr d
    · have hle := (yr_up d y).2 hlt
      go_wp2_with (go_at_call 90; refine (yearStart _ _ (by omega) (by omega)).mono ?_; rintro e w' ⟨rfl, m, rfl⟩)
      go_roundw
      case rel => exact ⟨y + 1, _, by omega, by omega, rfl, rfl⟩
      case measure => simp [intOf]; omega
    · have hle : ¬ Cal.ys (y + 1) ≤ d := fun g => hlt ((yr_up d y).1 g)
      go_wp2_with (go_at_call 90; refine (yearStart _ _ (by omega) (by omega)).mono ?_; rintro e w' ⟨rfl, m, rfl⟩)
      go_loopw [5] (fun t wr => ∃ (y : Int) (m : Nat), Cal.yr d ≤ y ∧ y ≤ 3000 ∧ t = i y ∧ wr = w.drewN m) (fun t _ => (intOf t).toNat)
      case atStart => exact ⟨_, _, by omega, by omega, rfl, rfl⟩
      case round =>
        obtain ⟨y, m1, h1, h2, rfl, rfl⟩ := hrel
        by_cases hlt : Cal.yr d < y
        · have hle := (yr_down d y).2 hlt
          go_wp2_with (go_at_call 90; refine (yearStart _ _ (by omega) (by omega)).mono ?_; rintro e w' ⟨rfl, m, rfl⟩)
          go_roundw
          case rel => exact ⟨y - 1, _, by omega, by omega, rfl, rfl⟩
          case measure => simp [intOf]; omega
        · have hle : ¬ d < Cal.ys y := fun g => hlt ((yr_down d y).1 g)
          go_wp2_with (go_at_call 90; refine (yearStart _ _ (by omega) (by omega)).mono ?_; rintro e w' ⟨rfl, m, rfl⟩)
          go_ret
          exact ⟨ret1 (by omega), _, rfl⟩

/-- The table stands in every world that has the same block. -/
theorem Tab.below {w w' : World} (h : Tab w) (hb : Below w.heap.size w w') (hz : 2 < w.heap.size) : Tab w' := fun k hk => (hb.cell (p := ⟨2, k, none⟩) hz).trans (h k hk)
theorem Tab.drewN {w : World} (h : Tab w) (n : Nat) : Tab (w.drewN n) := h
theorem Tab.lt {w : World} (h : Tab w) : 2 < w.heap.size := by
  have := h 0 (by omega)
  rcases Nat.lt_or_ge 2 w.heap.size with hlt | hge
  · exact hlt
  · simp [World.cell?, Array.getElem?_eq_none hge] at this
theorem Tab.alloc {w : World} (h : Tab w) (o : Obj) : Tab (w.alloc o) := h.below ((Below.refl _ _).alloc (Nat.le_refl _) _) h.lt

def date (d mi : Int) : Value := .agg #[i (Cal.yr d), i (Cal.mo d), i (Cal.dy d), i (Cal.wd d), i mi]

set_option maxHeartbeats 400000 in
theorem civil (t : Int) (w : World) (h : -1000 ≤ t) (h' : t ≤ 300000000) (ht : Tab w) :
    Calls Tryd.prog 83 #[i t] w fun e w' => e = .returned (date (t / 1440) (t % 1440)) ∧ Below w.heap.size w w' := by
  have d1 : -1 ≤ t / 1440 := by omega
  have d2 : t / 1440 ≤ 210000 := by omega
  generalize hd : t / 1440 = d at *
  have HD := Lib.hid hd
  clear hd
  have hy := Cal.yr_bd d (by omega) (by omega)
  have hys := Cal.ys_bd (Cal.yr d) (by omega) (by omega)
  go_enter Tryd.func83, Tryd.ntmps83
  go_wp2_with (first | (go_at_call 88; refine (divide _ _ _ (by omega) (by omega) (by omega) (by omega)).mono ?_; rintro e w' ⟨rfl, m, rfl⟩; rw [HD.out]) | (go_at_call 89; refine (yearOf _ _ (by omega) (by omega)).mono ?_; rintro e w' ⟨rfl, m, rfl⟩) | (go_at_call 90; refine (yearStart _ _ (by omega) (by omega)).mono ?_; rintro e w' ⟨rfl, m, rfl⟩))
  generalize hn : (_ + _ + m : Nat) = n
  clear hn
  have hmo := Cal.mo_bd d
  go_loop [6, 7] (fun r k => ∃ m : Int, 1 ≤ m ∧ m ≤ Cal.mo d ∧ k = i m ∧ r = i (d - Cal.ys (Cal.yr d) - Cal.cum (Cal.lp (Cal.yr d)) m)) (fun _ k => (12 - intOf k).toNat)
  case atStart => exact ⟨1, by omega, by omega, rfl, by simp [Cal.cum]⟩
  case round =>
    obtain ⟨m, hm1, hm2, rfl, rfl⟩ := hrel
    have cb := Cal.cum_bd (Cal.lp (Cal.yr d)) m (Cal.lp_01 _).1 (Cal.lp_01 _).2
    have db := Cal.md_bd (Cal.yr d) m
    have HU := Lib.hid (Cal.mo_up d m hm1 hm2)
    by_cases hlt : m < Cal.mo d
    · have hle := HU.out.2 hlt
      have HC := Lib.hid (Cal.cum_succ (Cal.yr d) m hm1 (by omega))
      go_wp2_with (go_at_call 91; refine (monthDays _ _ _ (by omega) (by omega) (by omega) (by omega) (by exact (ht.alloc _).drewN _)).mono ?_; rintro e w' ⟨rfl, rfl⟩)
      go_round
      case rel => exact ⟨m + 1, by omega, by omega, rfl, by rw [HC.out]; go_num⟩
      case measure => simp [intOf]; omega
    · have hle : ¬ Cal.md (Cal.yr d) m ≤ d - Cal.ys (Cal.yr d) - Cal.cum (Cal.lp (Cal.yr d)) m := fun g => hlt (HU.out.1 g)
      have HM : Hid (m = Cal.mo d) := (by omega : m = Cal.mo d)
      go_wp2_with (first | (go_at_call 91; refine (monthDays _ _ _ (by omega) (by omega) (by omega) (by omega) (by exact (ht.alloc _).drewN _)).mono ?_; rintro e w' ⟨rfl, rfl⟩) | (go_at_call 92; refine (weekday _ _ (by omega) (by omega)).mono ?_; rintro e w' ⟨rfl, m3, rfl⟩))
      refine bodyPost_ret (v := date d (t % 1440)) ?_ rfl ⟨rfl, ?_⟩
      · have e := HM.out
        subst e
        simp [results, Tryd.results83, go_sem, date, Cal.dy]
      · repeat (first | (with_reducible exact Below.refl _ _) | (with_reducible refine below_drewN ?_ _) | (with_reducible refine Below.setCell ?_ (by simp) _) | (with_reducible refine Below.alloc ?_ (by simp) _))
end CalW
end Go.Proofs.YtndlhhiifmjieaaDoor
