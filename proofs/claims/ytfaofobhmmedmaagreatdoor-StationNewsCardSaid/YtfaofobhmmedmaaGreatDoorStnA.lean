/-
  The arguments of the station laws, opened to data.
-/
import Derived.Test.YtfaofobhmmedmaaGreatDoorStnH
import Derived.Lib.SmallJoins
namespace Go.Proofs.YtfaofobhmmedmaaGreatDoor
namespace Stn
set_option linter.unusedSimpArgs false
set_option linter.unusedVariables false
open Go.RowKit Go.ChangeShapes Go.WideShapes Go.Deep Go.Joins

theorem open_in {H : Type} {enc : TypeId × Value → H} {w : World} {base : Nat} {spare : Nat → Bool} {held : Bool} {fuel : Nat} {cs : List Value} {y : DataW H × List MemPlace}
    (h : DataW.trod enc Tryz.prog w base spare held fuel 3 cs = some y) : ∃ x : Int, InR cs x := by
  obtain ⟨n0, e0, _, w0⟩ := DataW.trod_int Tryz.underlying3 h
  exact ⟨n0, e0⟩
section
variable {H : Type} {enc : TypeId × Value → H} {w : World} {base b0 : Nat} {spare : Nat → Bool} {held : Bool} {r : Reach} {v : Value} {d : DataW H} {p : List MemPlace}
set_option maxRecDepth 100000 in
theorem arg_ints (hv : Value.okWide Tryz.prog w r b0 22 v) (h : DataW.Trod enc Tryz.prog w base spare held 22 v d p) : ∃ (A : Option Addr) (n k : Nat) (gs : List Int), v = .slice A n k ∧ IntsAt w (.slice A n k) gs := by
  obtain ⟨a, l, c, rfl⟩ := okWide_slice Tryz.underlying22 hv
  obtain ⟨fuel, hf⟩ := h
  obtain ⟨u, xs, e, hs⟩ := open_sliceAt (R := InR) (size := 1) Tryz.underlying22 (by kernel_rfl) (by omega) (fun _ _ _ h => open_in h) hf
  have e' : u = .slice a l c := by
    have : [Value.slice a l c] = [u] := e
    simpa using this.symm
  subst e'
  exact ⟨a, l, c, xs, rfl, hs⟩
end
end Stn
end Go.Proofs.YtfaofobhmmedmaaGreatDoor
