/-
  The walks of package tariff: restrictions.
-/
import Derived.Test.YtndlhhiifmjieaaDoorTar
import Derived.Test.YtndlhhiifmjieaaDoorLib
import Derived.Test.YtndlhhiifmjieaaDoorCalV
namespace Go.Proofs.YtndlhhiifmjieaaDoor
namespace TarW
set_option linter.unusedSimpArgs false
set_option linter.unusedVariables false
open Go.RowKit CalW

abbrev wh (w : Tar.Wh) : Array Value := #[i w.s, i w.e, i w.d, i w.f, i w.t, i w.e0, i w.e1, i w.p0, i w.p1, i w.t0, i w.t1]

theorem bits_ne (a : Int) (h : 0 ≤ a) (h' : a ≤ 1000000) : (bits .and .i64 a 1 == 1) = (bits .and .i64 a 1 != 0) := by
  rw [and_one a h h']
  rcases (by omega : a % 2 = 0 ∨ a % 2 = 1) with e | e <;> rw [e] <;> rfl

set_option maxHeartbeats 400000 in
theorem onDay (days v : Int) (w : World) (hv : 1 ≤ v) (hv' : v ≤ 7) {b : Bool} (hb : Tar.onW days v = b) :
    Calls Tryd.prog 85 #[i days, i v] w fun e w' => e = .returned (.bool b) ∧ w = w' := by
  subst hb
  have db := Tar.dset_bd days
  by_cases hd : Tar.dset days = 0
  · have hd1 : (bits .and .i64 days 127 == 0) = true := by simpa [Tar.dset] using hd
    have e : Tar.onW days v = true := by unfold Tar.onW; rw [hd]; exact onD_zero _
    rw [e]
    clear hd e
    go_enter Tryd.func85, Tryd.ntmps85
    go_wp2
    all_goals go_ret
    all_goals exact ⟨rfl, rfl⟩
  · have hd1 : (bits .and .i64 days 127 == 0) = false := by simpa [Tar.dset] using hd
    have HD := Lib.hid hd
    clear hd
    unfold Tar.dset at db
    go_enter Tryd.func85, Tryd.ntmps85
    go_wp2
    all_goals go_ret
    all_goals refine ⟨retB ?_, rfl⟩
    all_goals
      unfold Tar.onW
      refine (onD_bits (Tar.dset days) v db.1 db.2 hv HD.out ?_).symm
      exact bits_ne (Tar.dset days / 2 ^ (v.toNat - 1)) (shr_bd _ _ db.1 db.2).1 (by have := (shr_bd (Tar.dset days) (v.toNat - 1) db.1 db.2).2; omega)

theorem hours_eq (w : Tar.Wh) (v mi : Int) (h : w.s = w.e) : Tar.hours w v mi = Tar.onW w.d v := by unfold Tar.hours; rw [if_pos h]
theorem hours_lt (w : Tar.Wh) (v mi : Int) (h : w.s < w.e) : Tar.hours w v mi = (Tar.onW w.d v && decide (w.s ≤ mi) && decide (mi < w.e)) := by unfold Tar.hours; rw [if_neg (by omega), if_pos h]
theorem hours_gt (w : Tar.Wh) (v mi : Int) (h : w.e < w.s) : Tar.hours w v mi = ((Tar.onW w.d v && decide (w.s ≤ mi)) || (Tar.onW w.d ((v + 5) % 7 + 1) && decide (mi < w.e))) := by unfold Tar.hours; rw [if_neg (by omega), if_neg (by omega)]

set_option maxHeartbeats 1600000 in
theorem inHours (x : Tar.Wh) (v mi : Int) (w : World) (hv : 1 ≤ v) (hv' : v ≤ 7) {b : Bool} (hb : Tar.hours x v mi = b) :
    Calls Tryd.prog 76 #[.agg (wh x), i v, i mi] w fun e w' => e = .returned (.bool b) ∧ Below w.heap.size w w' := by
  subst hb
  rcases Int.lt_trichotomy x.s x.e with h | h | h
  · have n1 : (x.s == x.e) = false := by simp; omega
    rw [hours_lt x v mi h]
    cases ho : Tar.onW x.d v
    all_goals
      have HO := Lib.hid ho
      clear ho
      go_enter Tryd.func76, Tryd.ntmps76
      go_wp2_with (go_at_call 85; refine (onDay _ _ _ (by omega) (by omega) HO.out).mono ?_; rintro e w' ⟨rfl, rfl⟩)
    all_goals go_ret
    all_goals refine ⟨retB ?_, below_new _ _⟩
    all_goals first | rfl | (simp; done) | (simp; omega) | (rw [Bool.eq_iff_iff]; simp; omega)
  · have n1 : (x.s == x.e) = true := by simpa using h
    rw [hours_eq x v mi h]
    have HO := Lib.hid (rfl : Tar.onW x.d v = Tar.onW x.d v)
    clear h
    go_enter Tryd.func76, Tryd.ntmps76
    go_wp2_with (go_at_call 85; refine (onDay _ _ _ (by omega) (by omega) HO.out).mono ?_; rintro e w' ⟨rfl, rfl⟩)
    all_goals go_ret
    all_goals exact ⟨rfl, below_new _ _⟩
  · have n1 : (x.s == x.e) = false := by simp; omega
    have hy : 1 ≤ (v + 5) % 7 + 1 := by omega
    have hy' : (v + 5) % 7 + 1 ≤ 7 := by omega
    rw [hours_gt x v mi h]
    cases ho : Tar.onW x.d v <;> cases hq : Tar.onW x.d ((v + 5) % 7 + 1) <;> by_cases hm : x.s ≤ mi
    all_goals
      have HO := Lib.hid ho
      have HQ := Lib.hid hq
      clear ho hq
      go_enter Tryd.func76, Tryd.ntmps76
      go_wp2_with fail
      refine (onDay _ _ _ (by omega) (by omega) HO.out).mono ?_
      rintro e w' ⟨rfl, rfl⟩
      go_wp2_with (go_at_call 85; refine (onDay _ _ _ (by omega) (by omega) HQ.out).mono ?_; rintro e w' ⟨rfl, rfl⟩)
    all_goals go_ret
    all_goals refine ⟨retB ?_, below_new _ _⟩
    all_goals first | rfl | (simp; done) | (simp; omega) | (rw [Bool.eq_iff_iff]; simp; omega)
end TarW
end Go.Proofs.YtndlhhiifmjieaaDoor
