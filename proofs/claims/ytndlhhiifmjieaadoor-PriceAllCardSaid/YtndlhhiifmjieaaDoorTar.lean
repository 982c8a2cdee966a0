/-
  Plain words of tariffs: restrictions.
-/
import Derived.Test.YtndlhhiifmjieaaDoorCalN
namespace Go.Proofs.YtndlhhiifmjieaaDoor
namespace Tar
open Go.RowKit

structure Wh where
  (s e d f t e0 e1 p0 p1 t0 t1 : Int)

/-- The set of weekdays. -/
def dset (days : Int) : Int := bits .and .i64 days 127
def onW (days v : Int) : Bool := Cal.onD (dset days) v
def hours (w : Wh) (v mi : Int) : Bool :=
  if w.s = w.e then onW w.d v else if w.s < w.e then onW w.d v && decide (w.s ≤ mi) && decide (mi < w.e)
  else (onW w.d v && decide (w.s ≤ mi)) || (onW w.d ((v + 5) % 7 + 1) && decide (mi < w.e))
def bnd (x lo hi : Int) : Bool := (decide (lo = -1) || decide (lo ≤ x)) && (decide (hi = -1) || decide (x < hi))
def holds (w : Wh) (z : Int) (s : Bool) (at_ since en po : Int) : Bool :=
  decide (-840 ≤ z ∧ z ≤ 840 ∧ 0 ≤ at_ ∧ at_ ≤ 268435456) && (hours w (Cal.wd ((at_ + Cal.offs z s at_) / 1440)) ((at_ + Cal.offs z s at_) % 1440) &&
    (bnd at_ w.f w.t && (bnd en w.e0 w.e1 && (bnd po w.p0 w.p1 && bnd since w.t0 w.t1))))

theorem dset_bd (days : Int) : 0 ≤ dset days ∧ dset days ≤ 127 := by
  unfold dset
  show 0 ≤ IntKind.i64.wrap ((BitVec.ofInt 64 days &&& BitVec.ofInt 64 127).toNat : Int) ∧ IntKind.i64.wrap ((BitVec.ofInt 64 days &&& BitVec.ofInt 64 127).toNat : Int) ≤ 127
  have h : (BitVec.ofInt 64 days &&& BitVec.ofInt 64 127).toNat ≤ 127 := by
    rw [BitVec.toNat_and]
    have : (BitVec.ofInt 64 127).toNat = 127 := by decide
    rw [this]
    exact Nat.and_le_right
  rw [IntKind.wrap_i64]
  omega
end Tar
end Go.Proofs.YtndlhhiifmjieaaDoor
