/-
  The walks of Find: slices.IndexFunc over components, tariff.Find, the reference's Find.
-/
import Derived.Test.YtndlhhiifmjieaaDoorTarD
import Derived.Test.YtndlhhiifmjieaaDoorTarH
import Derived.Test.YtndlhhiifmjieaaDoorTarR
import Derived.Deep.LoopGhost
import Derived.ProofKit
namespace Go.Proofs.YtndlhhiifmjieaaDoor
namespace TarW
set_option linter.unusedSimpArgs false
set_option linter.unusedVariables false
open Go.RowKit CalW

theorem enters_own {P : Program} {f : FuncId} {fn : Func} {c : Code} (hf : P.funcs[f]? = some fn) (hname : (fn.name == "runtime.NumGoroutine") = false) (hb : fn.body = some c) : ∀ args w, (callFunc f args).run P w = .ok (.enter f args) w := by
  intro args w
  have h1 : fn.name ≠ "runtime.NumGoroutine" := by simpa using hname
  simp [callFunc, hf, h1, hb, mark]

def idxN (p : Comp → Bool) (cs : List Comp) : Nat := cs.findIdx p
def idxV (p : Comp → Bool) (cs : List Comp) : Int := if idxN p cs < cs.length then idxN p cs else -1
theorem idxV_hit {p : Comp → Bool} {cs : List Comp} {k : Nat} (hk : k < cs.length) (h : p cs[k] = true) (hno : ∀ j (hj : j < cs.length), j < k → p cs[j] = false) : idxV p cs = k := by
  have e : idxN p cs = k := by
    unfold idxN
    rw [List.findIdx_eq hk]
    exact ⟨h, fun j hj => hno j (by omega) hj⟩
  unfold idxV
  rw [e, if_pos hk]
theorem idxV_miss {p : Comp → Bool} {cs : List Comp} (hno : ∀ j (hj : j < cs.length), p cs[j] = false) : idxV p cs = -1 := by
  have e : idxN p cs = cs.length := by
    unfold idxN
    rw [List.findIdx_eq_length]
    intro x hx
    obtain ⟨j, hj, rfl⟩ := List.getElem_of_mem hx
    exact hno j hj
  unfold idxV
  rw [e, if_neg (by omega)]

set_option maxHeartbeats 1000000 in
theorem indexFunc (p : Comp → Bool) (g : Nat) (lb : Array Value) (eg : ∀ args w, (callFunc g args).run Tryd.prog w = .ok (.enter g args) w) (v : Value) (cs : List Comp) (w : World)
    (hp : ∀ (W : World) (x : Comp), Below w.heap.size w W → Calls Tryd.prog g (#[compV x] ++ lb) W fun e w' => e = .returned (.bool (p x)) ∧ Below w.heap.size w w')
    (h : CompsAt w v cs) :
    Calls Tryd.prog 69 #[v, .func (.func g) #[] lb] w fun e w' => e = .returned (i (idxV p cs)) ∧ Below w.heap.size w w' := by
  obtain ⟨A, c, rfl, h1, h2⟩ := SliceAt.form h
  unfold maxLen at h2
  have HC := Lib.hid h
  have HP := Lib.hid hp
  clear h hp
  go_enter Tryd.func69, Tryd.ntmps69
  go_wp2
  go_loopg [5, 8] cs.length (fun gg _ s8 wr => ∃ kk : Nat, kk ≤ cs.length ∧ cs.length - kk ≤ gg ∧ s8 = i kk ∧ Hid (Below w.heap.size w wr) ∧ Hid (∀ j (hj : j < cs.length), j < kk → p cs[j] = false))
  case atStart => exact ⟨0, Nat.zero_le _, by omega, rfl, Below.refl _ w, fun j hj hk => absurd hk (Nat.not_lt_zero _)⟩
  case round =>
    obtain ⟨kk, hkk, hg, rfl, BW, HA⟩ := hrel
    by_cases hlt : kk < cs.length
    · have hltz : (kk : Int) < (cs.length : Int) := by omega
      obtain ⟨b, off, rfl, _, hrow⟩ := CompsAt.at_ HC.out hlt
      have l2 := hrow wr (Kept.of BW.out)
      clear hrow
      have hcall := HP.out wr cs[kk] BW.out
      generalize hy : cs[kk] = y at l2 hcall
      obtain ⟨l0, l1, l2, l3⟩ := l2
      have HY := Lib.hid hy
      clear hy
      cases hq : p y with
      | true =>
        rw [hq] at hcall
        have HQ := Lib.hid hq
        clear hq
        go_wp2_with fail
        refine hcall.mono ?_
        rintro e w' ⟨rfl, hb'⟩
        go_wp2_with fail
        go_ret
        refine ⟨?_, hb'⟩
        rw [idxV_hit hlt (by rw [HY.out]; exact HQ.out) HA.out]
        rfl
      | false =>
        rw [hq] at hcall
        have HQ := Lib.hid hq
        clear hq
        go_wp2_with fail
        refine hcall.mono ?_
        rintro e w' ⟨rfl, hb'⟩
        go_wp2_with fail
        go_roundg (cs.length - (kk + 1))
        case measure => omega
        case rel =>
          refine ⟨kk + 1, by omega, by omega, by go_num, hb', (show Hid _ from fun j hj hk => ?_)⟩
          by_cases e : j = kk
          · subst e
            rw [HY.out]; exact HQ.out
          · exact HA.out j hj (by omega)
    · have hltz : ¬ (kk : Int) < (cs.length : Int) := by omega
      go_wp2_with fail
      go_ret
      refine ⟨?_, BW.out⟩
      rw [idxV_miss (fun j hj => HA.out j hj (by omega))]
      rfl

def isK (k : Int) (c : Comp) : Bool := c.kind == k
set_option maxHeartbeats 400000 in
theorem find1 (k : Int) (x : Comp) (B : Nat) (W : World) (hc : W.cell? ⟨B, 0, none⟩ = some (i k)) :
    Calls Tryd.prog 70 #[compV x, .pointer (some ⟨B, 0, none⟩)] W fun e w' => e = .returned (.bool (isK k x)) ∧ Below W.heap.size W w' := by
  have hB := World.block_lt_of_cell? W _ hc
  simp only at hB
  have hne : B ≠ W.heap.size := by omega
  go_enter Tryd.func70, Tryd.ntmps70
  go_wp2
  go_ret
  exact ⟨rfl, below_new _ _⟩
end TarW
end Go.Proofs.YtndlhhiifmjieaaDoor
