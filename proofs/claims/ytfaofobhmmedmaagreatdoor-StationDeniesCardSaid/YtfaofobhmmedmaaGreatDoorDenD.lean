/-
  auth.Local where both lists are empty: the token is unknown.
-/
import Derived.Test.YtfaofobhmmedmaaGreatDoorDenC
namespace Go.Proofs.YtfaofobhmmedmaaGreatDoor
namespace Stn
set_option linter.unusedSimpArgs false
set_option linter.unusedVariables false
open Go.RowKit Go.Great

set_option maxRecDepth 100000 in
set_option maxHeartbeats 4000000 in
theorem tokIndex0 (id : ByteArray) (w : World) : Calls Tryz.prog 249 #[.slice none 0 0, .string id] w fun e w' => e = .returned (i (-1)) ∧ w = w' := by
  go_enter Tryz.func249, Tryz.ntmps249
  go_wp2_with fail
  go_loopg [9] 0 (fun gg s9 wr => s9 = i 0 ∧ wr = w)
  case atStart => exact ⟨rfl, rfl⟩
  case round =>
    obtain ⟨rfl, rfl⟩ := hrel
    go_wp2_with fail
    go_ret
    exact ⟨rfl, rfl⟩
set_option maxRecDepth 100000 in
set_option maxHeartbeats 4000000 in
theorem tokFind0 (id : ByteArray) (w : World) : Calls Tryz.prog 228 #[.slice none 0 0, .string id] w fun e w' => e = .returned (.tuple #[.agg #[.string ⟨#[]⟩, .string ⟨#[]⟩, .string ⟨#[]⟩, i 0, i 0, i 0], .bool false]) ∧ Below w.heap.size w w' := by
  have HI := Lib.hid (tokIndex0 id)
  have HZ := Lib.hid (Blk.new w 96 #[.string ⟨#[]⟩, .string ⟨#[]⟩, .string ⟨#[]⟩, i 0, i 0, i 0])
  have HB := Lib.hid (row_below #[.string ⟨#[]⟩, .string ⟨#[]⟩, .string ⟨#[]⟩, i 0, i 0, i 0] (below_new w (.cells #[.string ⟨#[]⟩, .string ⟨#[]⟩, .string ⟨#[]⟩, i 0, i 0, i 0] 96)) (Nat.le_refl w.heap.size))
  go_enter Tryz.func228, Tryz.ntmps228
  go_wp2_with fail
  refine (HI.out _).mono ?_
  rintro e w1 ⟨rfl, rfl⟩
  go_wp2_with (refine wpList_store_rowTo rfl 96 (.tmp 4) (.tmp 16) rfl rfl w.heap.size #[.string ⟨#[]⟩, .string ⟨#[]⟩, .string ⟨#[]⟩, i 0, i 0, i 0] (by kernel_rfl) (by kernel_rfl) 96 #[.string ⟨#[]⟩, .string ⟨#[]⟩, .string ⟨#[]⟩, i 0, i 0, i 0] HZ.out (by kernel_rfl) (by kernel_rfl) (by kernel_rfl) ?_)
  refine bodyPost_ret (results_cell2 rfl _ _ w.heap.size 96 #[.string ⟨#[]⟩, .string ⟨#[]⟩, .string ⟨#[]⟩, i 0, i 0, i 0] (0, 0) _ rfl (row_blk _ HZ.out) Tryz.underlying96 rfl (by kernel_rfl)) rfl ?_
  exact ⟨rfl, HB.out⟩
set_option maxRecDepth 100000 in
set_option maxHeartbeats 4000000 in
theorem qIn0 (id : ByteArray) (src : Int) (w : World) : Calls Tryz.prog 178 #[.agg #[.slice none 0 0, .slice none 0 0, .slice none 0 0, .slice none 0 0, .string id, i 0], .slice none 0 0, i src] w fun e w' => e = .returned (.tuple #[.agg #[i 0, i 0, .string ⟨#[]⟩], .bool false]) ∧ Below w.heap.size w w' := by
  have HF := Lib.hid (tokFind0 id)
  have HK := Lib.hid ((Blk.new w 157 #[.slice none 0 0, .slice none 0 0, .slice none 0 0, .slice none 0 0, .string id, i 0]).alloc (.cells #[i 0, i 0, .string ⟨#[]⟩] 112))
  have HZ := Lib.hid (Blk.new (w.alloc (.cells #[.slice none 0 0, .slice none 0 0, .slice none 0 0, .slice none 0 0, .string id, i 0] 157)) 112 #[i 0, i 0, .string ⟨#[]⟩])
  have hsz : (w.alloc (.cells #[.slice none 0 0, .slice none 0 0, .slice none 0 0, .slice none 0 0, .string id, i 0] 157)).heap.size = w.heap.size + 1 := by simp
  rw [hsz] at HZ
  clear hsz
  have HB := Lib.hid (below_alloc (below_new w (.cells #[.slice none 0 0, .slice none 0 0, .slice none 0 0, .slice none 0 0, .string id, i 0] 157)) (.cells #[i 0, i 0, .string ⟨#[]⟩] 112))
  go_enter Tryz.func178, Tryz.ntmps178
  go_upto_region 1 with (fail)
  generalize (w.alloc (.cells _ 157)).alloc (.cells _ 112) = w1 at *
  have kc := HK.out.cell
  go_wp2_with fail
  refine (HF.out _).mono ?_
  rintro e w2 ⟨rfl, hb⟩
  have hba := below_call (below_call HB.out hb) (below_new w2 (.cells #[.string ⟨#[]⟩, .string ⟨#[]⟩, .string ⟨#[]⟩, i 0, i 0, i 0] 96))
  have HZ2 := Lib.hid ((HZ.out.call hb).alloc (.cells #[.string ⟨#[]⟩, .string ⟨#[]⟩, .string ⟨#[]⟩, i 0, i 0, i 0] 96))
  have HB2 := Lib.hid hba
  clear hba hb kc HK HZ HB
  go_upto_region 2 with (fail)
  generalize w2.alloc (.cells _ 96) = w3 at *
  go_wp2_with (refine wpList_store_rowTo rfl 112 (.tmp 6) (.tmp 19) rfl rfl (w.heap.size + 1) #[i 0, i 0, .string ⟨#[]⟩] (by kernel_rfl) (by kernel_rfl) 112 #[i 0, i 0, .string ⟨#[]⟩] HZ2.out (by kernel_rfl) (by kernel_rfl) (by kernel_rfl) ?_)
  refine bodyPost_ret (results_cell2 rfl _ _ (w.heap.size + 1) 112 #[i 0, i 0, .string ⟨#[]⟩] (0, 0) _ rfl (row_blk _ HZ2.out) Tryz.underlying112 rfl (by kernel_rfl)) rfl ?_
  exact ⟨rfl, row_below _ HB2.out (by omega)⟩
set_option maxRecDepth 100000 in
set_option maxHeartbeats 4000000 in
theorem listed0 (id : ByteArray) (w : World) : Calls Tryz.prog 89 #[.agg #[.slice none 0 0, .slice none 0 0, .slice none 0 0, .slice none 0 0, .string id, i 0]] w fun e w' => e = .returned (.tuple #[.agg #[i 0, i 0, .string ⟨#[]⟩], .bool false]) ∧ Below w.heap.size w w' := by
  have HF := Lib.hid (qIn0 id)
  have HK := Lib.hid ((Blk.new w 157 #[.slice none 0 0, .slice none 0 0, .slice none 0 0, .slice none 0 0, .string id, i 0]).alloc (.cells #[i 0, i 0, .string ⟨#[]⟩] 112))
  have HZ := Lib.hid (Blk.new (w.alloc (.cells #[.slice none 0 0, .slice none 0 0, .slice none 0 0, .slice none 0 0, .string id, i 0] 157)) 112 #[i 0, i 0, .string ⟨#[]⟩])
  have hsz : (w.alloc (.cells #[.slice none 0 0, .slice none 0 0, .slice none 0 0, .slice none 0 0, .string id, i 0] 157)).heap.size = w.heap.size + 1 := by simp
  rw [hsz] at HZ
  clear hsz
  have HB := Lib.hid (below_alloc (below_new w (.cells #[.slice none 0 0, .slice none 0 0, .slice none 0 0, .slice none 0 0, .string id, i 0] 157)) (.cells #[i 0, i 0, .string ⟨#[]⟩] 112))
  go_enter Tryz.func89, Tryz.ntmps89
  go_upto_region 1 with (fail)
  generalize (w.alloc (.cells _ 157)).alloc (.cells _ 112) = w1 at *
  have kc := HK.out.cell
  go_wp2_with fail
  refine (HF.out _ _).mono ?_
  rintro e w2 ⟨rfl, hb⟩
  have HZ2 := Lib.hid (HZ.out.call hb)
  have HB2 := Lib.hid (below_call HB.out hb)
  clear hb kc HK HZ HB
  go_wp2_with (refine wpList_store_rowTo rfl 112 (.tmp 2) (.tmp 8) rfl rfl (w.heap.size + 1) #[i 0, i 0, .string ⟨#[]⟩] (by kernel_rfl) (by kernel_rfl) 112 #[i 0, i 0, .string ⟨#[]⟩] HZ2.out (by kernel_rfl) (by kernel_rfl) (by kernel_rfl) ?_)
  refine bodyPost_ret (results_cell2 rfl _ _ (w.heap.size + 1) 112 #[i 0, i 0, .string ⟨#[]⟩] (0, 0) _ rfl (row_blk _ HZ2.out) Tryz.underlying112 rfl (by kernel_rfl)) rfl ?_
  exact ⟨rfl, row_below _ HB2.out (by omega)⟩
set_option maxRecDepth 100000 in
set_option maxHeartbeats 4000000 in
theorem cached0 (id : ByteArray) (w : World) : Calls Tryz.prog 90 #[.agg #[.slice none 0 0, .slice none 0 0, .slice none 0 0, .slice none 0 0, .string id, i 0]] w fun e w' => e = .returned (.tuple #[.agg #[i 0, i 0, .string ⟨#[]⟩], .bool false]) ∧ Below w.heap.size w w' := by
  have HF := Lib.hid (qIn0 id)
  have HK := Lib.hid ((Blk.new w 157 #[.slice none 0 0, .slice none 0 0, .slice none 0 0, .slice none 0 0, .string id, i 0]).alloc (.cells #[i 0, i 0, .string ⟨#[]⟩] 112))
  have HZ := Lib.hid (Blk.new (w.alloc (.cells #[.slice none 0 0, .slice none 0 0, .slice none 0 0, .slice none 0 0, .string id, i 0] 157)) 112 #[i 0, i 0, .string ⟨#[]⟩])
  have hsz : (w.alloc (.cells #[.slice none 0 0, .slice none 0 0, .slice none 0 0, .slice none 0 0, .string id, i 0] 157)).heap.size = w.heap.size + 1 := by simp
  rw [hsz] at HZ
  clear hsz
  have HB := Lib.hid (below_alloc (below_new w (.cells #[.slice none 0 0, .slice none 0 0, .slice none 0 0, .slice none 0 0, .string id, i 0] 157)) (.cells #[i 0, i 0, .string ⟨#[]⟩] 112))
  go_enter Tryz.func90, Tryz.ntmps90
  go_upto_region 1 with (fail)
  generalize (w.alloc (.cells _ 157)).alloc (.cells _ 112) = w1 at *
  have kc := HK.out.cell
  go_wp2_with fail
  refine (HF.out _ _).mono ?_
  rintro e w2 ⟨rfl, hb⟩
  have HZ2 := Lib.hid (HZ.out.call hb)
  have HB2 := Lib.hid (below_call HB.out hb)
  clear hb kc HK HZ HB
  go_wp2_with (refine wpList_store_rowTo rfl 112 (.tmp 2) (.tmp 8) rfl rfl (w.heap.size + 1) #[i 0, i 0, .string ⟨#[]⟩] (by kernel_rfl) (by kernel_rfl) 112 #[i 0, i 0, .string ⟨#[]⟩] HZ2.out (by kernel_rfl) (by kernel_rfl) (by kernel_rfl) ?_)
  refine bodyPost_ret (results_cell2 rfl _ _ (w.heap.size + 1) 112 #[i 0, i 0, .string ⟨#[]⟩] (0, 0) _ rfl (row_blk _ HZ2.out) Tryz.underlying112 rfl (by kernel_rfl)) rfl ?_
  exact ⟨rfl, row_below _ HB2.out (by omega)⟩
set_option maxRecDepth 100000 in
set_option maxHeartbeats 4000000 in
theorem offline0 (id : ByteArray) (w : World) : Calls Tryz.prog 91 #[.agg #[.slice none 0 0, .slice none 0 0, .slice none 0 0, .slice none 0 0, .string id, i 0]] w fun e w' => e = .returned (.tuple #[.agg #[i 4, i 4, .string ⟨#[]⟩], .bool true]) ∧ Below w.heap.size w w' := by
  have HZ := Lib.hid (Blk.new (w.alloc (.cells #[.slice none 0 0, .slice none 0 0, .slice none 0 0, .slice none 0 0, .string id, i 0] 157)) 112 #[i 0, i 0, .string ⟨#[]⟩])
  have hsz : (w.alloc (.cells #[.slice none 0 0, .slice none 0 0, .slice none 0 0, .slice none 0 0, .string id, i 0] 157)).heap.size = w.heap.size + 1 := by simp
  rw [hsz] at HZ
  clear hsz
  have HB := Lib.hid (below_alloc (below_new w (.cells #[.slice none 0 0, .slice none 0 0, .slice none 0 0, .slice none 0 0, .string id, i 0] 157)) (.cells #[i 0, i 0, .string ⟨#[]⟩] 112))
  go_enter Tryz.func91, Tryz.ntmps91
  go_upto_region 1 with (fail)
  generalize (w.alloc (.cells _ 157)).alloc (.cells _ 112) = w1 at *
  go_wp2_with (refine wpList_store_rowTo rfl 112 (.tmp 2) (.tmp 4) rfl rfl (w.heap.size + 1) #[i 4, i 4, .string ⟨#[]⟩] (by kernel_rfl) (by kernel_rfl) 112 #[i 0, i 0, .string ⟨#[]⟩] HZ.out (by kernel_rfl) (by kernel_rfl) (by kernel_rfl) ?_)
  refine bodyPost_ret (results_cell2 rfl _ _ (w.heap.size + 1) 112 #[i 4, i 4, .string ⟨#[]⟩] (0, 0) _ rfl (row_blk _ HZ.out) Tryz.underlying112 rfl (by kernel_rfl)) rfl ?_
  exact ⟨rfl, row_below _ HB.out (by omega)⟩
set_option maxRecDepth 100000 in
set_option maxHeartbeats 4000000 in
theorem decide0 (id : ByteArray) (g : Nat) (w : World) (h : Blk w g 159 #[.func (.func 89) #[.agg #[.slice none 0 0, .slice none 0 0, .slice none 0 0, .slice none 0 0, .string id, i 0]] #[], .func (.func 90) #[.agg #[.slice none 0 0, .slice none 0 0, .slice none 0 0, .slice none 0 0, .string id, i 0]] #[], .func (.func 91) #[.agg #[.slice none 0 0, .slice none 0 0, .slice none 0 0, .slice none 0 0, .string id, i 0]] #[]]) : Calls Tryz.prog 88 #[.slice (some ⟨g, 0, none⟩) 3 3] w fun e w' => e = .returned (.agg #[i 4, i 4, .string ⟨#[]⟩]) ∧ Below w.heap.size w w' := by
  have HL := Lib.hid (listed0 id)
  have HC := Lib.hid (cached0 id)
  have HO := Lib.hid (offline0 id)
  have HK := Lib.hid (h.alloc (.cells #[i 0, i 0, .string ⟨#[]⟩] 112))
  have HZ := Lib.hid (Blk.new w 112 #[i 0, i 0, .string ⟨#[]⟩])
  have HB := Lib.hid (below_new w (.cells #[i 0, i 0, .string ⟨#[]⟩] 112))
  clear h
  go_enter Tryz.func88, Tryz.ntmps88
  go_upto_region 1 with (fail)
  generalize w.alloc (.cells _ 112) = w1 at *
  go_wp2_with fail
  go_loopg [9] 3 (fun gg s9 wr => ∃ kk : Nat, kk ≤ 2 ∧ 3 - kk ≤ gg ∧ s9 = i kk ∧ Hid (Blk wr g 159 #[.func (.func 89) #[.agg #[.slice none 0 0, .slice none 0 0, .slice none 0 0, .slice none 0 0, .string id, i 0]] #[], .func (.func 90) #[.agg #[.slice none 0 0, .slice none 0 0, .slice none 0 0, .slice none 0 0, .string id, i 0]] #[], .func (.func 91) #[.agg #[.slice none 0 0, .slice none 0 0, .slice none 0 0, .slice none 0 0, .string id, i 0]] #[]] ∧ Blk wr w.heap.size 112 #[i 0, i 0, .string ⟨#[]⟩] ∧ Below w.heap.size w wr))
  case atStart => exact ⟨0, by omega, by omega, rfl, HK.out, HZ.out, HB.out⟩
  case round =>
    clear HK HZ HB
    obtain ⟨kk, hkk, hg, rfl, HH⟩ := hrel
    have kc := HH.out.1.cell
    rcases (show kk = 0 ∨ kk = 1 ∨ kk = 2 by omega) with rfl | rfl | rfl
    · go_wp2_with fail
      refine (HL.out _).mono ?_
      rintro e w2 ⟨rfl, hb⟩
      have hbn := below_call hb (below_new w2 (.cells #[i 0, i 0, .string ⟨#[]⟩] 112))
      have H2 := Lib.hid (HH.out.1.call hbn)
      have H3 := Lib.hid (HH.out.2.1.call hbn)
      have H4 := Lib.hid (below_call HH.out.2.2 hbn)
      have H5 := Lib.hid (Blk.new w2 112 #[i 0, i 0, .string ⟨#[]⟩])
      clear hb hbn kc HH
      go_wp2_with fail
      go_roundg 2
      case measure => omega
      case rel => exact ⟨1, by omega, by omega, by rfl, H2.out, H3.out, H4.out⟩
    · go_wp2_with fail
      refine (HC.out _).mono ?_
      rintro e w2 ⟨rfl, hb⟩
      have hbn := below_call hb (below_new w2 (.cells #[i 0, i 0, .string ⟨#[]⟩] 112))
      have H2 := Lib.hid (HH.out.1.call hbn)
      have H3 := Lib.hid (HH.out.2.1.call hbn)
      have H4 := Lib.hid (below_call HH.out.2.2 hbn)
      have H5 := Lib.hid (Blk.new w2 112 #[i 0, i 0, .string ⟨#[]⟩])
      clear hb hbn kc HH
      go_wp2_with fail
      go_roundg 1
      case measure => omega
      case rel => exact ⟨2, by omega, by omega, by rfl, H2.out, H3.out, H4.out⟩
    · go_wp2_with fail
      refine (HO.out _).mono ?_
      rintro e w2 ⟨rfl, hb⟩
      have hbn := below_call hb (below_new w2 (.cells #[i 4, i 4, .string ⟨#[]⟩] 112))
      have H2 := Lib.hid (HH.out.1.call hbn)
      have H3 := Lib.hid (HH.out.2.1.call hbn)
      have H4 := Lib.hid (below_call HH.out.2.2 hbn)
      have H5 := Lib.hid (Blk.new w2 112 #[i 4, i 4, .string ⟨#[]⟩])
      clear hb hbn kc HH
      go_upto_region 5 with (fail)
      generalize w2.alloc (.cells _ 112) = w3 at *
      generalize w2.heap.size = gz at *
      have kz := H5.out.cell
      go_wp2_with (refine wpList_store_rowTo rfl 112 (.tmp 2) (.tmp 19) rfl rfl w.heap.size #[i 4, i 4, .string ⟨#[]⟩] (by kernel_rfl) (by kernel_rfl) 112 #[i 0, i 0, .string ⟨#[]⟩] H3.out (by kernel_rfl) (by kernel_rfl) (by kernel_rfl) ?_)
      refine bodyPost_ret (results_cell_row rfl _ _ w.heap.size 112 #[i 4, i 4, .string ⟨#[]⟩] (0, 0) _ rfl (row_blk _ H3.out) Tryz.underlying112 rfl (by kernel_rfl)) rfl ?_
      exact ⟨rfl, row_below _ H4.out (Nat.le_refl _)⟩
set_option maxRecDepth 100000 in
set_option maxHeartbeats 4000000 in
theorem local0 (id : ByteArray) (w : World) : Calls Tryz.prog 42 #[.agg #[i 0, .slice none 0 0], .slice none 0 0, .string id, i 0] w fun e w' => e = .returned (.agg #[i 4, i 4, .string ⟨#[]⟩]) ∧ Below w.heap.size w w' := by
  have hmf : ∀ (fn : Fn) (first cap : Array Value) (w : World), (Instr.makeFunc fn first cap).run Tryz.prog w = .ok (.func fn first cap) w := fun _ _ _ _ => rfl
  have HD := Lib.hid (decide0 id)
  have HZ := Lib.hid ((Blk.new (w.alloc (.cells #[i 0, .slice none 0 0] 30)) 112 #[i 0, i 0, .string ⟨#[]⟩]).alloc (.cells #[.slice none 0 0, .slice none 0 0, .slice none 0 0, .slice none 0 0, .string id, i 0] 157))
  have HK := Lib.hid (Blk.new ((w.alloc (.cells #[i 0, .slice none 0 0] 30)).alloc (.cells #[i 0, i 0, .string ⟨#[]⟩] 112)) 157 #[.slice none 0 0, .slice none 0 0, .slice none 0 0, .slice none 0 0, .string id, i 0])
  have HB := Lib.hid (below_alloc (below_alloc (below_new w (.cells #[i 0, .slice none 0 0] 30)) (.cells #[i 0, i 0, .string ⟨#[]⟩] 112)) (.cells #[.slice none 0 0, .slice none 0 0, .slice none 0 0, .slice none 0 0, .string id, i 0] 157))
  have hs1 : (w.alloc (.cells #[i 0, .slice none 0 0] 30)).heap.size = w.heap.size + 1 := by simp
  have hs2 : ((w.alloc (.cells #[i 0, .slice none 0 0] 30)).alloc (.cells #[i 0, i 0, .string ⟨#[]⟩] 112)).heap.size = w.heap.size + 1 + 1 := by simp
  rw [hs1] at HZ
  rw [hs2] at HK
  clear hs1 hs2
  go_enter Tryz.func42, Tryz.ntmps42
  go_upto_region 2 with (fail)
  generalize ((w.alloc (.cells _ 30)).alloc (.cells _ 112)).alloc (.cells _ 157) = w1 at *
  have kc := HK.out.cell
  go_wp2_with (refine wpList_load_row rfl 157 (.tmp 9) rfl (w.heap.size + 1 + 1) rfl 157 #[.slice none 0 0, .slice none 0 0, .slice none 0 0, .slice none 0 0, .string id, i 0] (0, 0) _ HK.out Tryz.underlying157 rfl (by kernel_rfl) ?_)
  refine (HD.out w1.heap.size _ (Blk.new w1 159 #[.func (.func 89) #[.agg #[.slice none 0 0, .slice none 0 0, .slice none 0 0, .slice none 0 0, .string id, i 0]] #[], .func (.func 90) #[.agg #[.slice none 0 0, .slice none 0 0, .slice none 0 0, .slice none 0 0, .string id, i 0]] #[], .func (.func 91) #[.agg #[.slice none 0 0, .slice none 0 0, .slice none 0 0, .slice none 0 0, .string id, i 0]] #[]])).mono ?_
  rintro e w2 ⟨rfl, hb⟩
  have hba := below_call (below_new w1 (.cells #[.func (.func 89) #[.agg #[.slice none 0 0, .slice none 0 0, .slice none 0 0, .slice none 0 0, .string id, i 0]] #[], .func (.func 90) #[.agg #[.slice none 0 0, .slice none 0 0, .slice none 0 0, .slice none 0 0, .string id, i 0]] #[], .func (.func 91) #[.agg #[.slice none 0 0, .slice none 0 0, .slice none 0 0, .slice none 0 0, .string id, i 0]] #[]] 159)) hb
  have HZ2 := Lib.hid (HZ.out.call hba)
  have HB2 := Lib.hid (below_call HB.out hba)
  clear hb hba kc HK HZ HB
  go_wp2_with (refine wpList_store_rowTo rfl 112 (.tmp 8) (.tmp 23) rfl rfl (w.heap.size + 1) #[i 4, i 4, .string ⟨#[]⟩] (by kernel_rfl) (by kernel_rfl) 112 #[i 0, i 0, .string ⟨#[]⟩] HZ2.out (by kernel_rfl) (by kernel_rfl) (by kernel_rfl) ?_)
  refine bodyPost_ret (results_cell_row rfl _ _ (w.heap.size + 1) 112 #[i 4, i 4, .string ⟨#[]⟩] (0, 0) _ rfl (row_blk _ HZ2.out) Tryz.underlying112 rfl (by kernel_rfl)) rfl ?_
  exact ⟨rfl, row_below _ HB2.out (by omega)⟩

end Stn
end Go.Proofs.YtfaofobhmmedmaaGreatDoor
