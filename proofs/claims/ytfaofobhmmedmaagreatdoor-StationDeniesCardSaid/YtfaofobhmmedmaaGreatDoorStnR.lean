/-
  The small functions of station.Step, on the example's station.
-/
import Derived.Test.YtfaofobhmmedmaaGreatDoorStnK
namespace Go.Proofs.YtfaofobhmmedmaaGreatDoor
namespace Stn
set_option linter.unusedSimpArgs false
set_option linter.unusedVariables false
open Go.RowKit Go.Great

/-- The example's station at a minute, with its next attempt. -/
abbrev s1t (n b : Int) : St := ⟨⟨#[83]⟩, n, false, 0, b, 0, [⟨1, false, false, false, 0⟩], [⟨0, 100000, 0, 0⟩], [zTx], 0, 64, 0, 1, 3, 2, 0, 0, 0, 0, 0, 0, 0, 0, 30, 2000, [0], [0], [0]⟩

set_option maxRecDepth 100000 in
theorem charges1 (w : World) : Calls Tryz.prog 215 #[.agg #[i 1, .bool false, .bool false, .bool false, i 0]] w fun e w' => e = .returned (.bool false) ∧ Below w.heap.size w w' := by
  go_enter Tryz.func215, Tryz.ntmps215
  go_wp2_with fail
  go_ret
  exact ⟨rfl, by repeat (first | (with_reducible exact Below.refl _ _) | (with_reducible refine below_drewN' ?_ _) | (with_reducible refine Below.drew ?_) | (with_reducible refine Below.setCell ?_ (by first | (simp; done) | (simp; omega) | omega) _) | (with_reducible refine below_alloc ?_ _) | (with_reducible refine Below.alloc ?_ (by first | (simp; done) | (simp; omega) | omega) _))⟩

set_option maxRecDepth 100000 in
theorem measured1 (w : World) : Calls Tryz.prog 217 #[.agg #[i 0, i 100000, i 0, i 0], i 0, i 0] w fun e w' => e = .returned (i 0) ∧ Below w.heap.size w w' := by
  go_enter Tryz.func217, Tryz.ntmps217
  go_wp2_with fail
  go_ret
  exact ⟨rfl, by repeat (first | (with_reducible exact Below.refl _ _) | (with_reducible refine below_drewN' ?_ _) | (with_reducible refine Below.drew ?_) | (with_reducible refine Below.setCell ?_ (by first | (simp; done) | (simp; omega) | omega) _) | (with_reducible refine below_alloc ?_ _) | (with_reducible refine Below.alloc ?_ (by first | (simp; done) | (simp; omega) | omega) _))⟩

set_option maxRecDepth 100000 in
theorem mcheck1 (w : World) : Calls Tryz.prog 216 #[.agg #[i 0, i 100000, i 0, i 0], i 0] w fun e w' => e = .returned (i 0) ∧ Below w.heap.size w w' := by
  have HM := Lib.hid (meterValid ⟨0, 100000, 0, 0⟩)
  have HB := Lib.hid (below_new w (.cells #[i 0, i 100000, i 0, i 0] 82))
  go_enter Tryz.func216, Tryz.ntmps216
  go_wp2_with fail
  refine (HM.out _).mono ?_
  rintro e w1 ⟨he, hb⟩
  obtain rfl := he.trans (show _ = Ending.returned (i 0) from rfl)
  have HB1 := Lib.hid (below_call HB.out hb)
  clear hb
  go_wp2_with fail
  go_ret
  exact ⟨rfl, HB1.out⟩

theorem blk_self {w : World} {g k : Nat} {t : TypeId} {cs : Array Value} {u : Value} (h : Blk w g t cs) (he : cs[k]? = some u) : w.setCell ⟨g, k, none⟩ u = w := setCell_self ((h.cell k).trans he)

set_option maxRecDepth 100000 in
theorem mcount1 (w : World) : Calls Tryz.prog 156 #[.agg #[i 0, i 100000, i 0, i 0], i 0] w fun e w' => e = .returned (.tuple #[.agg #[i 0, i 100000, i 0, i 0], i 0]) ∧ Below w.heap.size w w' := by
  have HC := Lib.hid mcheck1
  have HE := Lib.hid measured1
  have HB0 := below_new w (.cells #[i 0, i 100000, i 0, i 0] 82)
  have HB := Lib.hid (below_alloc HB0 (.cells #[i 0, i 0, i 0, i 0] 82))
  have HK := Lib.hid ((Blk.new w 82 #[i 0, i 100000, i 0, i 0]).alloc (.cells #[i 0, i 0, i 0, i 0] 82))
  have HZ := Lib.hid (Blk.new (w.alloc (.cells #[i 0, i 100000, i 0, i 0] 82)) 82 #[i 0, i 0, i 0, i 0])
  have hsz : (w.alloc (.cells #[i 0, i 100000, i 0, i 0] 82)).heap.size = w.heap.size + 1 := by simp
  rw [hsz] at HZ
  clear HB0 hsz
  go_enter Tryz.func156, Tryz.ntmps156
  go_upto_region 1 with (fail)
  generalize (w.alloc (.cells #[i 0, i 100000, i 0, i 0] 82)).alloc (.cells #[i 0, i 0, i 0, i 0] 82) = w0 at *
  have kc := HK.out.cell
  go_wp2_with fail
  refine (HC.out _).mono ?_
  rintro e w1 ⟨rfl, hb⟩
  have HB1 := Lib.hid (below_call HB.out hb)
  have HK1 := Lib.hid (HK.out.call hb)
  have HZ1 := Lib.hid (HZ.out.call hb)
  clear hb kc HB HK HZ
  have kc := HK1.out.cell
  go_wp2_with fail
  refine (HE.out _).mono ?_
  rintro e w2 ⟨rfl, hb⟩
  have HB2 := Lib.hid (below_call HB1.out hb)
  have HK2 := Lib.hid (HK1.out.call hb)
  have HZ2 := Lib.hid (HZ1.out.call hb)
  clear hb kc HB1 HK1 HZ1
  have kc := HK2.out.cell
  have kf := HK2.out.frozen
  go_upto_region 6 with (fail)
  rw [show w2.setCell ⟨w.heap.size, 0, none⟩ (i 0) = w2 from blk_self HK2.out rfl]
  go_upto_region 7 with (fail)
  rw [show w2.setCell ⟨w.heap.size, 2, none⟩ (i 0) = w2 from blk_self HK2.out rfl]
  go_wp2_with (refine wpList_store_rowTo rfl 82 (.tmp 4) (.tmp 32) rfl rfl (w.heap.size + 1) #[i 0, i 100000, i 0, i 0] (by kernel_rfl) (by kernel_rfl) 82 #[i 0, i 0, i 0, i 0] HZ2.out (by kernel_rfl) (by kernel_rfl) (by kernel_rfl) ?_)
  refine bodyPost_ret (results_cell2 rfl _ _ (w.heap.size + 1) 82 #[i 0, i 100000, i 0, i 0] (0, 0) _ rfl (row_blk _ HZ2.out) Tryz.underlying82 rfl (by kernel_rfl)) rfl ?_
  exact ⟨rfl, row_below _ HB2.out (by omega)⟩

set_option maxRecDepth 100000 in
theorem charging1 (n b : Int) (l : Sl) (w : World) (h : StAt w (s1t n b) l) : Calls Tryz.prog 155 #[.agg (stA (s1t n b) l), i 1] w fun e w' => e = .returned (.bool false) ∧ Below w.heap.size w w' := by
  obtain ⟨C, M, T, P, LT, CA, RE, IT, Q, O, S, OV, LM, SH⟩ := l
  obtain ⟨AC, cC, rfl, -, -⟩ := SliceAt.form h.C
  obtain ⟨bC, oC, rfl, rC⟩ := CnsAt.at_ (j := 0) h.C (by simp)
  clear h
  simp at rC
  have HC := Lib.hid charges1
  have HB := Lib.hid (below_new w (.cells (stA (s1t n b) ⟨.slice (some ⟨bC, oC, none⟩) 1 cC, M, T, P, LT, CA, RE, IT, Q, O, S, OV, LM, SH⟩) 43))
  have k6 : Hid ((w.alloc (.cells (stA (s1t n b) ⟨.slice (some ⟨bC, oC, none⟩) 1 cC, M, T, P, LT, CA, RE, IT, Q, O, S, OV, LM, SH⟩) 43)).cell? ⟨w.heap.size, 6, none⟩ = some (.slice (some ⟨bC, oC, none⟩) 1 cC)) := (Blk.new w 43 (stA (s1t n b) ⟨.slice (some ⟨bC, oC, none⟩) 1 cC, M, T, P, LT, CA, RE, IT, Q, O, S, OV, LM, SH⟩)).cell 6
  go_enter Tryz.func155, Tryz.ntmps155
  go_upto_region 1 with (fail)
  obtain ⟨x0, x1, x2, x3, x4⟩ := rC _ (Kept.of HB.out)
  have k6 := k6.out
  generalize w.alloc (.cells _ 43) = w0 at *
  go_wp2_with fail
  refine (HC.out _).mono ?_
  rintro e w1 ⟨rfl, hb⟩
  have HB1 := Lib.hid (below_call HB.out hb)
  clear hb
  go_wp2_with fail
  go_ret
  exact ⟨rfl, HB1.out⟩

set_option maxRecDepth 100000 in
theorem divideNil (f : Value) (w : World) : Calls Tryz.prog 218 #[.slice none 0 0, f] w fun e w' => e = .returned (.tuple #[.slice none 0 0, .slice none 0 0]) ∧ Below w.heap.size w w' := by
  go_enter Tryz.func218, Tryz.ntmps218
  go_wp2_with fail
  go_loopg [6, 7, 12] 0 (fun gg s6 s7 s12 wr => s6 = .slice none 0 0 ∧ s7 = .slice none 0 0 ∧ s12 = i 0 ∧ wr = w)
  case atStart => exact ⟨rfl, rfl, rfl, rfl⟩
  case round =>
    obtain ⟨rfl, rfl, rfl, rfl⟩ := hrel
    go_wp2_with fail
    go_ret2
    exact ⟨rfl, by repeat (first | (with_reducible exact Below.refl _ _) | (with_reducible refine below_drewN' ?_ _) | (with_reducible refine Below.drew ?_) | (with_reducible refine Below.setCell ?_ (by first | (simp; done) | (simp; omega) | omega) _) | (with_reducible refine below_alloc ?_ _) | (with_reducible refine Below.alloc ?_ (by first | (simp; done) | (simp; omega) | omega) _))⟩

set_option maxRecDepth 100000 in
theorem expireNil (n : Int) (w : World) : Calls Tryz.prog 158 #[.slice none 0 0, i n] w fun e w' => e = .returned (.tuple #[.slice none 0 0, .slice none 0 0]) ∧ Below w.heap.size w w' := by
  have HD := Lib.hid divideNil
  have HB := Lib.hid (below_new w (.cells #[i n] 3))
  go_enter Tryz.func158, Tryz.ntmps158
  go_upto_region 1 with (fail)
  generalize w.alloc (.cells #[i n] 3) = w0 at *
  go_wp2_with fail
  refine (HD.out _ _).mono ?_
  rintro e w1 ⟨rfl, hb⟩
  have HB1 := Lib.hid (below_call HB.out hb)
  clear hb
  go_wp2_with fail
  go_ret2
  exact ⟨rfl, HB1.out⟩

set_option maxRecDepth 100000 in
theorem fwStep1 (n : Int) (w : World) : Calls Tryz.prog 159 #[.agg #[i 0, i 0, i 0, i 0, i 0], i n, .bool true, .bool false] w fun e w' => e = .returned (.tuple #[.agg #[i 0, i 0, i 0, i 0, i 0], .bool false]) ∧ Below w.heap.size w w' := by
  go_enter Tryz.func159, Tryz.ntmps159
  go_wp2_with fail
  go_region
  all_goals
    go_wp2_with fail
    refine bodyPost_ret (results_cell2 rfl _ _ (w.heap.size + 1) 39 #[i 0, i 0, i 0, i 0, i 0] (0, 0) _ rfl (Blk.drew (Blk.new' (by simp) _ _)) Tryz.underlying39 rfl (by kernel_rfl)) rfl ?_
    exact ⟨rfl, by repeat (first | (with_reducible exact Below.refl _ _) | (with_reducible refine below_drewN' ?_ _) | (with_reducible refine Below.drew ?_) | (with_reducible refine Below.setCell ?_ (by first | (simp; done) | (simp; omega) | omega) _) | (with_reducible refine below_alloc ?_ _) | (with_reducible refine Below.alloc ?_ (by first | (simp; done) | (simp; omega) | omega) _))⟩

set_option maxRecDepth 100000 in
theorem ixMsgNil (f : Value) (w : World) : Calls Tryz.prog 230 #[.slice none 0 0, f] w fun e w' => e = .returned (i (-1)) ∧ Below w.heap.size w w' := by
  go_enter Tryz.func230, Tryz.ntmps230
  go_wp2_with fail
  go_loopg [8] 0 (fun gg s8 wr => s8 = i 0 ∧ wr = w)
  case atStart => exact ⟨rfl, rfl⟩
  case round =>
    obtain ⟨rfl, rfl⟩ := hrel
    go_wp2_with fail
    go_ret
    exact ⟨rfl, by repeat (first | (with_reducible exact Below.refl _ _) | (with_reducible refine below_drewN' ?_ _) | (with_reducible refine Below.drew ?_) | (with_reducible refine Below.setCell ?_ (by first | (simp; done) | (simp; omega) | omega) _) | (with_reducible refine below_alloc ?_ _) | (with_reducible refine Below.alloc ?_ (by first | (simp; done) | (simp; omega) | omega) _))⟩

set_option maxRecDepth 100000 in
theorem hasMsgNil (f : Value) (w : World) : Calls Tryz.prog 180 #[.slice none 0 0, f] w fun e w' => e = .returned (.bool false) ∧ Below w.heap.size w w' := by
  have HI := Lib.hid ixMsgNil
  go_enter Tryz.func180, Tryz.ntmps180
  go_wp2_with fail
  refine (HI.out _ _).mono ?_
  rintro e w1 ⟨rfl, hb⟩
  have HB1 := Lib.hid hb
  clear hb
  go_wp2_with fail
  go_ret
  exact ⟨rfl, HB1.out⟩

set_option maxRecDepth 100000 in
theorem validEnergy1 (A : Option Addr) (c : Nat) (l : Sl) (w : World) (h : StAt w s1 l) (he : IntsAt w (.slice A 1 c) [0]) : Calls Tryz.prog 64 #[.agg (stA s1 l), .slice A 1 c] w fun e w' => e = .returned (.bool true) ∧ Below w.heap.size w w' := by
  obtain ⟨b, off, rfl, hrow⟩ := IntsAt.at_ he (j := 0) (by simp)
  obtain ⟨C, M, T, P, LT, CA, RE, IT, Q, O, S, OV, LM, SH⟩ := l
  obtain ⟨AC, cC, rfl, -, -⟩ := SliceAt.form h.C
  have HB := Lib.hid (below_new w (.cells (stA s1 ⟨.slice AC 1 cC, M, T, P, LT, CA, RE, IT, Q, O, S, OV, LM, SH⟩) 43))
  have k6 : Hid ((w.alloc (.cells (stA s1 ⟨.slice AC 1 cC, M, T, P, LT, CA, RE, IT, Q, O, S, OV, LM, SH⟩) 43)).cell? ⟨w.heap.size, 6, none⟩ = some (.slice AC 1 cC)) := (Blk.new w 43 (stA s1 ⟨.slice AC 1 cC, M, T, P, LT, CA, RE, IT, Q, O, S, OV, LM, SH⟩)).cell 6
  clear h he
  go_enter Tryz.func64, Tryz.ntmps64
  go_upto_region 1 with (fail)
  have k0 : (w.alloc (.cells (stA s1 ⟨.slice AC 1 cC, M, T, P, LT, CA, RE, IT, Q, O, S, OV, LM, SH⟩) 43)).cell? ⟨b, off, none⟩ = some (i 0) := by
    show _ = _
    have := hrow _ (Kept.of HB.out)
    simpa using this
  have k6 := k6.out
  generalize w.alloc (.cells _ 43) = w0 at *
  go_wp2_with fail
  go_loopg [15] 1 (fun gg s15 wr => ∃ kk : Nat, kk ≤ 1 ∧ 1 - kk ≤ gg ∧ s15 = i kk ∧ wr = w0)
  case atStart => exact ⟨0, by omega, by omega, rfl, rfl⟩
  case round =>
    obtain ⟨kk, hkk, hg, rfl, rfl⟩ := hrel
    rcases (show kk = 0 ∨ kk = 1 by omega) with rfl | rfl
    · go_wp2_with fail
      go_roundg 0
      case measure => omega
      case rel => exact ⟨1, by omega, by omega, by rfl, rfl⟩
    · go_wp2_with fail
      go_ret
      exact ⟨rfl, HB.out⟩

end Stn
end Go.Proofs.YtfaofobhmmedmaaGreatDoor
