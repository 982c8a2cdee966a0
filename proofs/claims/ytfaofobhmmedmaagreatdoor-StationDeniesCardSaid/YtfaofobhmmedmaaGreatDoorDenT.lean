/-
  The table of transitions, from what the row lists.
-/
import Derived.Test.YtfaofobhmmedmaaGreatDoorDenI
import Derived.Lib.LaidTab
namespace Go.Proofs.YtfaofobhmmedmaaGreatDoor
namespace Stn
set_option linter.unusedSimpArgs false
set_option linter.unusedVariables false
open Go.RowKit Go.Great

theorem fieldCell {cs : List Value} {a b s : Nat} {v : Value} (hb : b < s) (h : (((cs.drop a).take s).drop b).take 1 = [v]) : cs[a + b]? = some v := by
  have := congrArg (·[0]?) h
  simp [List.getElem?_take, List.getElem?_drop, hb] at this
  exact this
theorem map_at {α β : Type} {f : α → β} {xs : List α} {ys : List β} (h : xs.map f = ys) {i : Nat} {y : β} (hy : ys[i]? = some y) : ∃ x, xs[i]? = some x ∧ f x = y := by
  rw [← h, List.getElem?_map] at hy
  exact Option.map_eq_some_iff.1 hy
theorem fieldInt {H : Type} {enc : TypeId × Value → H} {W : World} {base : Nat} {sp : Nat → Bool} {held : Bool} {m : Nat} {cs : List Value} {zs : List (DataW H × List MemPlace)} {ys : List (DataW H)} {a b : Nat} {n : Int} (hm : zs.map (·.1) = ys) (hy : ys[b]? = some (.lit (.int .i64 n))) (hb : b < 6)
    (h : DataW.trod enc Tryz.prog W base sp held m 3 ((((cs.drop a).take 6).drop b).take 1) = zs[b]?) : cs[a + b]? = some (i n) := by
  obtain ⟨z, hz, hz1⟩ := map_at hm hy
  rw [hz] at h
  obtain ⟨n', hc, hx, -⟩ := DataW.trod_int Tryz.underlying3 h
  have e : n' = n := by
    rw [hx] at hz1
    simpa using hz1
  subst e
  exact fieldCell hb hc
set_option maxRecDepth 100000 in
theorem ptab_of {W : World} {name : String} {ds : List (DataW Unit)} {rest : List (String × DataW Unit)} (hg : Tryz.prog.globalNamed name = some 0) (hty : (Tryz.prog.globals[0]?).map (·.type) = some 236)
    (hd1 : ds[1]? = some (.agg [.lit (.int .i64 0), .lit (.int .i64 0), .lit (.int .i64 1), .lit (.int .i64 1), .lit (.int .i64 0), .lit (.int .i64 0)])) (h : laidMet Tryz.prog ((name, .agg ds) :: rest) W) : PTab W := by
  obtain ⟨ps, ⟨g', t', cs, fuel, p, q, hg', ht', hvar, hd, _, _⟩, _⟩ := h
  obtain rfl := Option.some.inj (hg.symm.trans hg')
  obtain rfl := Option.some.inj (hty.symm.trans ht')
  obtain ⟨xs, m, rfl, hx, hl, hxl, hi⟩ := DataW.trod_array Tryz.underlying236 hd
  have hxm : xs.map (·.1) = ds := by
    have := congrArg Prod.fst hx
    simpa using this.symm
  have h1 := hi 1 (by decide)
  obtain ⟨y, hy, hy1⟩ := map_at hxm hd1
  rw [hy, show Tryz.prog.cellsOf 235 = 6 by kernel_rfl] at h1
  obtain ⟨zs, m2, rfl, hz, hzl, hzn, hj⟩ := DataW.trod_struct Tryz.underlying235 h1
  have hzm : zs.map (·.1) = [.lit (.int .i64 0), .lit (.int .i64 0), .lit (.int .i64 1), .lit (.int .i64 1), .lit (.int .i64 0), .lit (.int .i64 0)] := by
    rw [hz] at hy1
    simpa using hy1
  have hc1 : Tryz.prog.cellsOf 3 = 1 := by kernel_rfl
  have j0 : DataW.trod _ Tryz.prog W _ _ _ m2 3 ((((cs.toList.drop (1 * 6)).take 6).drop 0).take (Tryz.prog.cellsOf 3)) = zs[0]? := hj 0 _ rfl
  have j1 : DataW.trod _ Tryz.prog W _ _ _ m2 3 ((((cs.toList.drop (1 * 6)).take 6).drop 1).take (Tryz.prog.cellsOf 3)) = zs[1]? := hj 1 _ rfl
  have j2 : DataW.trod _ Tryz.prog W _ _ _ m2 3 ((((cs.toList.drop (1 * 6)).take 6).drop 2).take (Tryz.prog.cellsOf 3)) = zs[2]? := hj 2 _ rfl
  have j3 : DataW.trod _ Tryz.prog W _ _ _ m2 3 ((((cs.toList.drop (1 * 6)).take 6).drop 3).take (Tryz.prog.cellsOf 3)) = zs[3]? := hj 3 _ rfl
  have j4 : DataW.trod _ Tryz.prog W _ _ _ m2 3 ((((cs.toList.drop (1 * 6)).take 6).drop 4).take (Tryz.prog.cellsOf 3)) = zs[4]? := hj 4 _ rfl
  have j5 : DataW.trod _ Tryz.prog W _ _ _ m2 3 ((((cs.toList.drop (1 * 6)).take 6).drop 5).take (Tryz.prog.cellsOf 3)) = zs[5]? := hj 5 _ rfl
  have v := fun k => World.var?_cell hg hvar k
  rw [hc1] at j0 j1 j2 j3 j4 j5
  have r0 := fieldInt (a := 1 * 6) (b := 0) hzm rfl (by omega) j0
  have r1 := fieldInt (a := 1 * 6) (b := 1) hzm rfl (by omega) j1
  have r2 := fieldInt (a := 1 * 6) (b := 2) hzm rfl (by omega) j2
  have r3 := fieldInt (a := 1 * 6) (b := 3) hzm rfl (by omega) j3
  have r4 := fieldInt (a := 1 * 6) (b := 4) hzm rfl (by omega) j4
  have r5 := fieldInt (a := 1 * 6) (b := 5) hzm rfl (by omega) j5
  refine ⟨?_, ?_, ?_, ?_, ?_, ?_⟩
  · rw [v 6]; simpa using r0
  · rw [v 7]; simpa using r1
  · rw [v 8]; simpa using r2
  · rw [v 9]; simpa using r3
  · rw [v 10]; simpa using r4
  · rw [v 11]; simpa using r5
end Stn
end Go.Proofs.YtfaofobhmmedmaaGreatDoor
