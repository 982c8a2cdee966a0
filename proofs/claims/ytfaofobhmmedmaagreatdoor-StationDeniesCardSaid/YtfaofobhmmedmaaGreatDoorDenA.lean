/-
  connector.Next: a plug at a free connector; unit.has and unit.input on a station of two connectors.
-/
import Derived.Test.YtfaofobhmmedmaaGreatDoorStnO
import Derived.Test.YtfaofobhmmedmaaGreatDoorStnX
namespace Go.Proofs.YtfaofobhmmedmaaGreatDoor
namespace Stn
set_option linter.unusedSimpArgs false
set_option linter.unusedVariables false
open Go.RowKit Go.Great

/-- The transition of InPlug lies in the table. -/
def PTab (W : World) : Prop := W.cell? ⟨0, 6, none⟩ = some (i 0) ∧ W.cell? ⟨0, 7, none⟩ = some (i 0) ∧ W.cell? ⟨0, 8, none⟩ = some (i 1) ∧ W.cell? ⟨0, 9, none⟩ = some (i 1) ∧ W.cell? ⟨0, 10, none⟩ = some (i 0) ∧ W.cell? ⟨0, 11, none⟩ = some (i 0)
theorem PTab.keep {w W : World} (h : PTab w) (hk : Kept w W) : PTab W := ⟨hk _ _ h.1, hk _ _ h.2.1, hk _ _ h.2.2.1, hk _ _ h.2.2.2.1, hk _ _ h.2.2.2.2.1, hk _ _ h.2.2.2.2.2⟩
set_option maxRecDepth 100000 in
set_option maxHeartbeats 4000000 in
theorem flags1 (w : World) : Calls Tryz.prog 174 #[.agg #[i 1, .bool false, .bool false, .bool false, i 0]] w fun e w' => e = .returned (i 0) ∧ Below w.heap.size w w' := by
  go_enter Tryz.func174, Tryz.ntmps174
  go_wp2_with fail
  go_ret
  exact ⟨rfl, by repeat (first | (with_reducible exact Below.refl _ _) | (with_reducible refine below_drewN' ?_ _) | (with_reducible refine Below.drew ?_) | (with_reducible refine Below.setCell ?_ (by first | (simp; done) | (simp; omega) | omega) _) | (with_reducible refine below_alloc ?_ _) | (with_reducible refine Below.alloc ?_ (by first | (simp; done) | (simp; omega) | omega) _))⟩
set_option maxRecDepth 100000 in
set_option maxHeartbeats 4000000 in
theorem withFlags1 (w : World) : Calls Tryz.prog 175 #[.agg #[i 1, .bool false, .bool false, .bool false, i 0], i 1] w fun e w' => e = .returned (.agg #[i 1, .bool true, .bool false, .bool false, i 0]) ∧ Below w.heap.size w w' := by
  have b1 : bits BinOp.and .i64 1 1 = 1 := by kernel_rfl
  have b2 : bits BinOp.and .i64 1 2 = 0 := by kernel_rfl
  have b4 : bits BinOp.and .i64 1 4 = 0 := by kernel_rfl
  have b8 : bits BinOp.and .i64 1 8 = 0 := by kernel_rfl
  go_enter Tryz.func175, Tryz.ntmps175
  go_wp2_with fail
  refine bodyPost_ret (results_cell_row rfl _ _ (w.heap.size + 1) 80 #[i 1, .bool true, .bool false, .bool false, i 0] (0, 0) _ rfl (Blk.new' (by simp) _ _) Tryz.underlying80 rfl (by kernel_rfl)) rfl ?_
  exact ⟨rfl, by repeat (first | (with_reducible exact Below.refl _ _) | (with_reducible refine below_drewN' ?_ _) | (with_reducible refine Below.drew ?_) | (with_reducible refine Below.setCell ?_ (by first | (simp; done) | (simp; omega) | omega) _) | (with_reducible refine below_alloc ?_ _) | (with_reducible refine Below.alloc ?_ (by first | (simp; done) | (simp; omega) | omega) _))⟩
set_option maxRecDepth 100000 in
set_option maxHeartbeats 4000000 in
theorem base2 (w : World) : Calls Tryz.prog 177 #[.agg #[i 1, .bool true, .bool false, .bool false, i 0]] w fun e w' => e = .returned (i 2) ∧ Below w.heap.size w w' := by
  go_enter Tryz.func177, Tryz.ntmps177
  go_wp2_with fail
  go_ret
  exact ⟨rfl, by repeat (first | (with_reducible exact Below.refl _ _) | (with_reducible refine below_drewN' ?_ _) | (with_reducible refine Below.drew ?_) | (with_reducible refine Below.setCell ?_ (by first | (simp; done) | (simp; omega) | omega) _) | (with_reducible refine below_alloc ?_ _) | (with_reducible refine Below.alloc ?_ (by first | (simp; done) | (simp; omega) | omega) _))⟩

set_option maxRecDepth 100000 in
set_option maxHeartbeats 4000000 in
theorem next1 (w : World) (ht : PTab w) : Calls Tryz.prog 86 #[.agg #[i 1, .bool false, .bool false, .bool false, i 0], i 1] w fun e w' => e = .returned (.tuple #[.agg #[i 2, .bool true, .bool false, .bool false, i 0], i 0]) ∧ Below w.heap.size w w' := by
  have HT := Lib.hid (fun W (hb : Below w.heap.size w W) => ht.keep (Kept.of hb))
  have HV := Lib.hid connValid1
  have HF := Lib.hid flags1
  have HW := Lib.hid withFlags1
  have HBS := Lib.hid base2
  have HB0 := below_new w (.cells #[i 1, .bool false, .bool false, .bool false, i 0] 80)
  have HB := Lib.hid (below_alloc HB0 (.cells #[i 0, .bool false, .bool false, .bool false, i 0] 80))
  have HK := Lib.hid ((Blk.new w 80 #[i 1, .bool false, .bool false, .bool false, i 0]).alloc (.cells #[i 0, .bool false, .bool false, .bool false, i 0] 80))
  have HR := Lib.hid (Blk.new (w.alloc (.cells #[i 1, .bool false, .bool false, .bool false, i 0] 80)) 80 #[i 0, .bool false, .bool false, .bool false, i 0])
  have hsz : (w.alloc (.cells #[i 1, .bool false, .bool false, .bool false, i 0] 80)).heap.size = w.heap.size + 1 := by simp
  rw [hsz] at HR
  clear hsz HB0 ht
  have b1 : bits BinOp.and .i64 0 0 = 0 := by kernel_rfl
  have b2 : bits BinOp.and .i64 0 1 = 0 := by kernel_rfl
  have b3 : bits BinOp.andNot .i64 0 0 = 0 := by kernel_rfl
  have b4 : bits BinOp.or .i64 0 1 = 1 := by kernel_rfl
  go_enter Tryz.func86, Tryz.ntmps86
  go_upto_region 1 with (fail)
  generalize (w.alloc (.cells #[i 1, .bool false, .bool false, .bool false, i 0] 80)).alloc (.cells _ 80) = w1 at *
  have kc := HK.out.cell
  go_wp2_with fail
  refine (HV.out _).mono ?_
  rintro e w2 ⟨rfl, hb⟩
  have HB2 := Lib.hid (below_call HB.out hb)
  have HK2 := Lib.hid (HK.out.call hb)
  have HR2 := Lib.hid (HR.out.call hb)
  clear kc hb HB HK HR
  have kc := HK2.out.cell
  obtain ⟨t0, t1, t2, t3, t4, t5⟩ := HT.out w2 HB2.out
  have HZ := Lib.hid (Blk.new w2 235 #[i 0, i 0, i 1, i 1, i 0, i 0])
  go_upto_region 9 with (fail)
  clear t0 t1 t2 t3 t4 t5 kc
  have hbn := below_new w2 (.cells #[i 0, i 0, i 1, i 1, i 0, i 0] 235)
  have HB3 := Lib.hid (below_call HB2.out hbn)
  have HK3 := Lib.hid (HK2.out.call hbn)
  have HR3 := Lib.hid (HR2.out.call hbn)
  have hgt : Hid (w.heap.size + 1 < w2.heap.size) := HR2.out.lt
  clear hbn HB2 HK2 HR2
  generalize w2.alloc (.cells _ 235) = w3 at *
  generalize w2.heap.size = gT at *
  have kc := HK3.out.cell
  go_wp2_with fail
  refine (HF.out _).mono ?_
  rintro e w4 ⟨rfl, hb⟩
  have HB4 := Lib.hid (below_call HB3.out hb)
  have HK4 := Lib.hid (HK3.out.call hb)
  have HR4 := Lib.hid (HR3.out.call hb)
  have HZ4 := Lib.hid (HZ.out.call hb)
  clear kc hb HB3 HK3 HR3 HZ
  have kc := HK4.out.cell
  have kz := HZ4.out.cell
  go_wp2_with fail
  refine (HW.out _).mono ?_
  rintro e w5 ⟨rfl, hb⟩
  have HB5 := Lib.hid (below_call HB4.out hb)
  have HK5 := Lib.hid (HK4.out.call hb)
  have HR5 := Lib.hid (HR4.out.call hb)
  have HZ5 := Lib.hid (HZ4.out.call hb)
  clear kc kz hb HB4 HK4 HR4 HZ4
  go_upto_region 16 with (fail)
  have hbn := below_new w5 (.cells #[i 1, .bool true, .bool false, .bool false, i 0] 80)
  have HN := Lib.hid (Blk.new w5 80 #[i 1, .bool true, .bool false, .bool false, i 0])
  have HB6 := Lib.hid (below_call HB5.out hbn)
  have HK6 := Lib.hid (HK5.out.call hbn)
  have HR6 := Lib.hid (HR5.out.call hbn)
  have HZ6 := Lib.hid (HZ5.out.call hbn)
  have hgn : Hid (w.heap.size + 1 < w5.heap.size) := HR5.out.lt
  clear hbn HB5 HK5 HR5 HZ5
  generalize w5.alloc (.cells _ 80) = w6 at *
  generalize w5.heap.size = gN at *
  have kn := HN.out.cell
  have kz := HZ6.out.cell
  go_wp2_with fail
  refine (HBS.out _).mono ?_
  rintro e w7 ⟨rfl, hb⟩
  have HB7 := Lib.hid (below_call HB6.out hb)
  have HR7 := Lib.hid (HR6.out.call hb)
  have HN7 := Lib.hid (HN.out.call hb)
  clear kn kz hb HB6 HK6 HR6 HZ6 HN
  have kn := HN7.out.cell
  have kf := HN7.out.frozen
  have e1 : Hid (w7.setCell ⟨gN, 0, none⟩ (i 2) = w7.setRow gN #[i 2, .bool true, .bool false, .bool false, i 0]) := stSet HN7.out rfl
  go_upto_region 19 with (fail)
  rw [show w7.setCell ⟨gN, 0, none⟩ (i 2) = w7.setRow gN #[i 2, .bool true, .bool false, .bool false, i 0] from e1.out]
  have h1 := hgn.out
  have HN8 := Lib.hid (row_blk #[i 2, .bool true, .bool false, .bool false, i 0] HN7.out)
  have HR8 := Lib.hid (row_other #[i 2, .bool true, .bool false, .bool false, i 0] HR7.out (show w.heap.size + 1 ≠ gN by omega))
  have HB8 := Lib.hid (row_below #[i 2, .bool true, .bool false, .bool false, i 0] HB7.out (show w.heap.size ≤ gN by omega))
  clear kn kf e1 h1 HN7 HR7 HB7
  generalize w7.setRow gN #[i 2, .bool true, .bool false, .bool false, i 0] = w8 at *
  go_wp2_with (first
    | (refine wpList_load_row rfl 80 (.tmp 9) rfl gN rfl 80 #[i 2, .bool true, .bool false, .bool false, i 0] (0, 0) _ HN8.out Tryz.underlying80 rfl (by kernel_rfl) ?_)
    | (refine wpList_store_rowTo rfl 80 (.tmp 4) (.tmp 98) rfl rfl (w.heap.size + 1) #[i 2, .bool true, .bool false, .bool false, i 0] (by kernel_rfl) (by kernel_rfl) 80 #[i 0, .bool false, .bool false, .bool false, i 0] HR8.out (by kernel_rfl) (by kernel_rfl) (by kernel_rfl) ?_))
  refine bodyPost_ret (results_cell2 rfl _ _ (w.heap.size + 1) 80 #[i 2, .bool true, .bool false, .bool false, i 0] (0, 0) _ rfl (row_blk _ HR8.out) Tryz.underlying80 rfl (by kernel_rfl)) rfl ?_
  exact ⟨rfl, row_below _ HB8.out (by omega)⟩

end Stn
end Go.Proofs.YtfaofobhmmedmaaGreatDoor
