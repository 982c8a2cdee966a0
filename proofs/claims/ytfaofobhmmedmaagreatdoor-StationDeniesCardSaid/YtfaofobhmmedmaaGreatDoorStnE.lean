/-
  call.Send and unit.send with one call queued.
-/
import Derived.Test.YtfaofobhmmedmaaGreatDoorStnO
namespace Go.Proofs.YtfaofobhmmedmaaGreatDoor
namespace Stn
set_option linter.unusedSimpArgs false
set_option linter.unusedVariables false
open Go.RowKit Go.Great

/-- What Send answers, and leaves. -/
def SPost (w : World) (x : Ms) (w' : World) (v : Value) (W : World) : Prop := ∃ γ : SP × SP × SP × SP, v = .tuple #[.agg (enA 2 3 2 (slv γ.1) (slv γ.2.1) 4 1 (slv γ.2.2.1)), slv γ.2.2.2, .slice none 0 0] ∧ Own MsR 63 25 w.heap.size W (slv γ.2.2.2) [x] ∧ Below w'.heap.size w' W

set_option maxRecDepth 100000 in
set_option maxHeartbeats 4000000 in
theorem sendL (A : Option Addr) (cQ : Nat) (AO AS : Option Addr) (cO cS : Nat) (x : Ms) (w : World) (hq : MsAt w (.slice A 1 cQ) [x]) (ho : MsAt w (.slice AO 0 cO) []) (hs : MsAt w (.slice AS 0 cS) []) :
    Calls Tryz.prog 166 #[.agg (enA 2 3 2 (.slice A 1 cQ) (.slice AO 0 cO) 0 0 (.slice AS 0 cS)), i 1] w fun e w' => ∃ v, e = .returned v ∧ SPost w x w v w' := by
  obtain ⟨iM, hMi, hMz, hMs, hMb⟩ := info_parts infoMs
  obtain ⟨b, off, r, rfl, hr, hR, hrow⟩ := SliceAt.at_ hq (j := 0) (by simp)
  have hrr : r = (msO x).toList := hR
  have hcq : 1 ≤ cQ ∧ cQ ≤ maxLen := by
    obtain ⟨A', c', e, h1, h2, -⟩ := hq
    injection e with e1 e2 e3
    subst e3
    exact ⟨h1, h2⟩
  obtain ⟨hcq1, hcq2⟩ := hcq
  simp only [maxLen] at hcq2
  subst hrr
  have HRG : Hid (∀ W, Below w.heap.size w W → W.rangeAt b off (msO x).toList) := fun W hb j v hj => by
    have := (Kept.of hb) _ _ (hrow j v hj)
    simpa using this
  have HC : Hid (∀ W, Below w.heap.size w W → _) := fun W hb => copiedL 2 3 2 0 0 (.slice (some ⟨b, off, none⟩) 1 cQ) (.slice AO 0 cO) (.slice AS 0 cS) [x] [] [] W (hq.call hb) (ho.call hb) (hs.call hb) (by simp) (by simp) (by simp)
  clear hr hR hrow hq ho hs
  have HK1 := Lib.hid ((Blk.new w 37 (enA 2 3 2 (.slice (some ⟨b, off, none⟩) 1 cQ) (.slice AO 0 cO) 0 0 (.slice AS 0 cS))).alloc (.cells (enA 0 0 0 (.slice none 0 0) (.slice none 0 0) 0 0 (.slice none 0 0)) 37))
  have HR1 := Lib.hid (Blk.new (w.alloc (.cells (enA 2 3 2 (.slice (some ⟨b, off, none⟩) 1 cQ) (.slice AO 0 cO) 0 0 (.slice AS 0 cS)) 37)) 37 (enA 0 0 0 (.slice none 0 0) (.slice none 0 0) 0 0 (.slice none 0 0)))
  have HB1 := Lib.hid (below_alloc (below_new w (.cells (enA 2 3 2 (.slice (some ⟨b, off, none⟩) 1 cQ) (.slice AO 0 cO) 0 0 (.slice AS 0 cS)) 37)) (.cells (enA 0 0 0 (.slice none 0 0) (.slice none 0 0) 0 0 (.slice none 0 0)) 37))
  have hs1 : (w.alloc (.cells (enA 2 3 2 (.slice (some ⟨b, off, none⟩) 1 cQ) (.slice AO 0 cO) 0 0 (.slice AS 0 cS)) 37)).heap.size = w.heap.size + 1 := by simp
  rw [hs1] at HR1
  clear hs1
  go_enter Tryz.func166, Tryz.ntmps166
  go_upto_region 1 with (fail)
  generalize (w.alloc (.cells _ 37)).alloc (.cells _ 37) = w1 at *
  go_upto_region 3 with (fail)
  go_wp2_with (refine wpList_load_row rfl 37 (.tmp 2) rfl w.heap.size rfl 37 (enA 2 3 2 (.slice (some ⟨b, off, none⟩) 1 cQ) (.slice AO 0 cO) 0 0 (.slice AS 0 cS)) (0, 0) _ HK1.out Tryz.underlying37 rfl (by kernel_rfl) ?_)
  refine (HC.out w1 HB1.out).mono ?_
  rintro e w5 ⟨q, o, s, rfl, hq, ho, hs, hb5⟩
  obtain ⟨gq, cq, rfl, -, -⟩ := own_one hq
  obtain ⟨Ao, co, rfl⟩ := own_empty ho
  obtain ⟨As, cs, rfl⟩ := own_empty hs
  clear hq ho hs
  have HZ := Lib.hid (Blk.new w5 37 (enA 0 0 0 (.slice none 0 0) (.slice none 0 0) 0 0 (.slice none 0 0)))
  have hlr := HR1.out.lt
  have hsz := hb5.size
  have HG := Lib.hid (row_blk (enA 2 3 2 (.slice (some ⟨gq, 0, none⟩) 1 cq) (.slice Ao 0 co) 0 0 (.slice As 0 cs)) HZ.out)
  have HK := Lib.hid (row_other (enA 2 3 2 (.slice (some ⟨gq, 0, none⟩) 1 cq) (.slice Ao 0 co) 0 0 (.slice As 0 cs)) ((HK1.out.call hb5).alloc (.cells (enA 0 0 0 (.slice none 0 0) (.slice none 0 0) 0 0 (.slice none 0 0)) 37)) (show w.heap.size ≠ w5.heap.size by omega))
  have HR := Lib.hid (row_other (enA 2 3 2 (.slice (some ⟨gq, 0, none⟩) 1 cq) (.slice Ao 0 co) 0 0 (.slice As 0 cs)) ((HR1.out.call hb5).alloc (.cells (enA 0 0 0 (.slice none 0 0) (.slice none 0 0) 0 0 (.slice none 0 0)) 37)) (show w.heap.size + 1 ≠ w5.heap.size by omega))
  have HB := Lib.hid (row_below (enA 2 3 2 (.slice (some ⟨gq, 0, none⟩) 1 cq) (.slice Ao 0 co) 0 0 (.slice As 0 cs)) (below_alloc (below_call HB1.out hb5) (.cells (enA 0 0 0 (.slice none 0 0) (.slice none 0 0) 0 0 (.slice none 0 0)) 37)) (show w.heap.size ≤ w5.heap.size by omega))
  clear hb5 HK1 HR1 HB1 HC
  go_upto_region 5 with (refine wpList_store_rowTo rfl 37 (.tmp 7) (.tmp 18) rfl rfl w5.heap.size (enA 2 3 2 (.slice (some ⟨gq, 0, none⟩) 1 cq) (.slice Ao 0 co) 0 0 (.slice As 0 cs)) (by kernel_rfl) (by kernel_rfl) 37 (enA 0 0 0 (.slice none 0 0) (.slice none 0 0) 0 0 (.slice none 0 0)) HZ.out (by kernel_rfl) (by kernel_rfl) (by kernel_rfl) ?_)
  generalize (w5.alloc (.cells _ 37)).setRow w5.heap.size (enA 2 3 2 (.slice (some ⟨gq, 0, none⟩) 1 cq) (.slice Ao 0 co) 0 0 (.slice As 0 cs)) = w6 at *
  clear HZ
  have hgB : Hid (w.heap.size + 1 < w5.heap.size) := by show _ < _; omega
  clear hsz hlr
  generalize w5.heap.size = gB at *
  have kc := HK.out.cell
  have kg := HG.out.cell
  have kf := HG.out.frozen
  have e5 := Lib.hid (show w6.setCell ⟨gB, 5, none⟩ (i 0) = w6 from setCell_self (HG.out.cell 5))
  have e6 := Lib.hid (show w6.setCell ⟨gB, 6, none⟩ (i 0) = w6 from setCell_self (HG.out.cell 6))
  go_upto_region 15 with (fail)
  rw [show (w6.setCell ⟨gB, 6, none⟩ (.int .i64 0)) = w6 from e6.out, show w6.setCell ⟨gB, 5, none⟩ (.int .i64 0) = w6 from e5.out]
  have HW := Lib.hid (Blk.new w6 63 (msO x))
  go_wp2_with (first
    | (refine wpList_load_mid rfl 63 (.tmp 71) rfl b off rfl (msO x).toList _ (HRG.out _ HB.out) Tryz.underlying63 rfl (by kernel_rfl) ?_)
    | (refine wpList_buildSlice rfl 35 63 1 _ rfl (msO x) iM _ Tryz.underlying35 hMi hMz (by rw [hMs]; decide) (by rw [hMs]; decide) (by rw [hMs]; kernel_rfl) ?_))
  refine (collect1 _ _ x _ (ms_blk HW.out)).mono ?_
  rintro e w7 ⟨u, rfl, hu, hb7⟩
  have hba := below_call (below_new w6 (.cells (msO x) 63)) hb7
  have hlt := HG.out.lt
  obtain ⟨gu, cu, rfl, -, -⟩ := own_one hu
  have HS7 := Lib.hid (Own.lower hu (show gB + 1 ≤ (w6.alloc (.cells (msO x) 63)).heap.size by simp; omega))
  have HK7 := Lib.hid (HK.out.call hba)
  have HG7 := Lib.hid (HG.out.call hba)
  have HR7 := Lib.hid (HR.out.call hba)
  have HB7 := Lib.hid (below_call HB.out hba)
  clear hu hb7 hba hlt HK HG HR HB kc kg kf e5 e6 HW
  have kc := HK7.out.cell
  have kg := HG7.out.cell
  have kf := HG7.out.frozen
  have HW := Lib.hid (Blk.new w7 63 (msO x))
  go_wp2_with (first
    | (refine wpList_load_mid rfl 63 (.tmp 77) rfl b off rfl (msO x).toList _ (HRG.out _ HB7.out) Tryz.underlying63 rfl (by kernel_rfl) ?_)
    | (refine wpList_buildSlice rfl 35 63 1 _ rfl (msO x) iM _ Tryz.underlying35 hMi hMz (by rw [hMs]; decide) (by rw [hMs]; decide) (by rw [hMs]; kernel_rfl) ?_))
  refine (collect1 _ _ x _ (ms_blk HW.out)).mono ?_
  rintro e w8 ⟨u, rfl, hu, hb8⟩
  have hba := below_call (below_new w7 (.cells (msO x) 63)) hb8
  obtain ⟨gv, cv, rfl, -, -⟩ := own_one hu
  have HS8 := Lib.hid (Own.call HS7.out hba)
  have HK8 := Lib.hid (HK7.out.call hba)
  have HG8 := Lib.hid (HG7.out.call hba)
  have HR8 := Lib.hid (HR7.out.call hba)
  have HB8 := Lib.hid (below_call HB7.out hba)
  clear hu hb8 hba HK7 HG7 HR7 HB7 HS7 kc kg kf HW
  have kc := HK8.out.cell
  have kg := HG8.out.cell
  have kf := HG8.out.frozen
  go_upto_region 18 with (fail)
  rw [stSet (cs' := (enA 2 3 2 (.slice (some ⟨gq, 0, none⟩) 1 cq) (.slice (some ⟨gv, 0, none⟩) 1 cv) 0 0 (.slice As 0 cs))) HG8.out rfl]
  have hgb := hgB.out
  have HS9 := Lib.hid (Own.row_keep HS8.out (show gB < gB + 1 by omega) (enA 2 3 2 (.slice (some ⟨gq, 0, none⟩) 1 cq) (.slice (some ⟨gv, 0, none⟩) 1 cv) 0 0 (.slice As 0 cs)))
  have HK9 := Lib.hid (row_other (enA 2 3 2 (.slice (some ⟨gq, 0, none⟩) 1 cq) (.slice (some ⟨gv, 0, none⟩) 1 cv) 0 0 (.slice As 0 cs)) HK8.out (show w.heap.size ≠ gB by omega))
  have HG9 := Lib.hid (row_blk (enA 2 3 2 (.slice (some ⟨gq, 0, none⟩) 1 cq) (.slice (some ⟨gv, 0, none⟩) 1 cv) 0 0 (.slice As 0 cs)) HG8.out)
  have HR9 := Lib.hid (row_other (enA 2 3 2 (.slice (some ⟨gq, 0, none⟩) 1 cq) (.slice (some ⟨gv, 0, none⟩) 1 cv) 0 0 (.slice As 0 cs)) HR8.out (show w.heap.size + 1 ≠ gB by omega))
  have HB9 := Lib.hid (row_below (enA 2 3 2 (.slice (some ⟨gq, 0, none⟩) 1 cq) (.slice (some ⟨gv, 0, none⟩) 1 cv) 0 0 (.slice As 0 cs)) HB8.out (show w.heap.size ≤ gB by omega))
  clear HS8 HK8 HG8 HR8 HB8 kc kg kf hgb
  generalize w8.setRow gB (enA 2 3 2 (.slice (some ⟨gq, 0, none⟩) 1 cq) (.slice (some ⟨gv, 0, none⟩) 1 cv) 0 0 (.slice As 0 cs)) = w9 at *
  have kc := HK9.out.cell
  have kg := HG9.out.cell
  have kf := HG9.out.frozen
  go_wp2_with fail
  all_goals
    refine (collect0 _ _ _).mono ?_
    rintro e w10 ⟨gz, rfl, -, hbz⟩
    have hgb := hgB.out
    have HSa := Lib.hid (Own.row_keep (Own.call HS9.out hbz) (show gB < gB + 1 by omega) (enA 2 3 2 (.slice (some ⟨gz, 0, none⟩) 0 0) (.slice (some ⟨gv, 0, none⟩) 1 cv) 0 0 (.slice As 0 cs)))
    have HKa := Lib.hid (row_other (enA 2 3 2 (.slice (some ⟨gz, 0, none⟩) 0 0) (.slice (some ⟨gv, 0, none⟩) 1 cv) 0 0 (.slice As 0 cs)) (HK9.out.call hbz) (show w.heap.size ≠ gB by omega))
    have HGx := Lib.hid (HG9.out.call hbz)
    have HGa := Lib.hid (row_blk (enA 2 3 2 (.slice (some ⟨gz, 0, none⟩) 0 0) (.slice (some ⟨gv, 0, none⟩) 1 cv) 0 0 (.slice As 0 cs)) (HG9.out.call hbz))
    have HRa := Lib.hid (row_other (enA 2 3 2 (.slice (some ⟨gz, 0, none⟩) 0 0) (.slice (some ⟨gv, 0, none⟩) 1 cv) 0 0 (.slice As 0 cs)) (HR9.out.call hbz) (show w.heap.size + 1 ≠ gB by omega))
    have HBa := Lib.hid (row_below (enA 2 3 2 (.slice (some ⟨gz, 0, none⟩) 0 0) (.slice (some ⟨gv, 0, none⟩) 1 cv) 0 0 (.slice As 0 cs)) (below_call HB9.out hbz) (show w.heap.size ≤ gB by omega))
    clear HS9 HK9 HG9 HR9 HB9 kc kg kf hgb hbz
    have kg := HGx.out.cell
    have kf := HGx.out.frozen
    go_upto_region 19 with (fail)
    rw [stSet (cs' := (enA 2 3 2 (.slice (some ⟨gz, 0, none⟩) 0 0) (.slice (some ⟨gv, 0, none⟩) 1 cv) 0 0 (.slice As 0 cs))) HGx.out rfl]
    clear kg kf HGx
    generalize w10.setRow gB (enA 2 3 2 (.slice (some ⟨gz, 0, none⟩) 0 0) (.slice (some ⟨gv, 0, none⟩) 1 cv) 0 0 (.slice As 0 cs)) = wa at *
    go_cut [] (fun wd => Hid (Blk wd gB 37 (enA 2 3 2 (.slice (some ⟨gz, 0, none⟩) 0 0) (.slice (some ⟨gv, 0, none⟩) 1 cv) 4 1 (.slice As 0 cs)) ∧ Blk wd (w.heap.size + 1) 37 (enA 0 0 0 (.slice none 0 0) (.slice none 0 0) 0 0 (.slice none 0 0)) ∧ Own MsR 63 25 (gB + 1) wd (.slice (some ⟨gu, 0, none⟩) 1 cu) [x] ∧ Below w.heap.size w wd))
    case first =>
      have kc := HKa.out.cell
      have kg := HGa.out.cell
      have kf := HGa.out.frozen
      have e1 : Hid ((wa.setCell ⟨gB, 6, none⟩ (i 1)).setCell ⟨gB, 5, none⟩ (i 4) = wa.setRow gB (enA 2 3 2 (.slice (some ⟨gz, 0, none⟩) 0 0) (.slice (some ⟨gv, 0, none⟩) 1 cv) 4 1 (.slice As 0 cs))) := by
        show _ = _
        rw [stSet (cs' := (enA 2 3 2 (.slice (some ⟨gz, 0, none⟩) 0 0) (.slice (some ⟨gv, 0, none⟩) 1 cv) 0 1 (.slice As 0 cs))) HGa.out rfl, rowSetTo (cs' := (enA 2 3 2 (.slice (some ⟨gz, 0, none⟩) 0 0) (.slice (some ⟨gv, 0, none⟩) 1 cv) 4 1 (.slice As 0 cs))) HGa.out rfl]
      have hgb := hgB.out
      go_region
      all_goals
        rw [show (wa.setCell ⟨gB, 6, none⟩ (.int .i64 1)).setCell ⟨gB, 5, none⟩ (.int .i64 4) = wa.setRow gB (enA 2 3 2 (.slice (some ⟨gz, 0, none⟩) 0 0) (.slice (some ⟨gv, 0, none⟩) 1 cv) 4 1 (.slice As 0 cs)) from e1.out]
        go_wp2_with fail
        go_meet
        exact ⟨Blk.drew (row_blk _ HGa.out), Blk.drew (row_other _ HRa.out (by omega)), Own.row_keep HSa.out (show gB < gB + 1 by omega) (enA 2 3 2 (.slice (some ⟨gz, 0, none⟩) 0 0) (.slice (some ⟨gv, 0, none⟩) 1 cv) 4 1 (.slice As 0 cs)), Below.drew (row_below _ HBa.out (by omega))⟩
    case rest =>
      obtain ⟨hg, hr, ho, hb⟩ := hcut.out
      clear hcut HSa HKa HGa HRa HBa
      have HG := Lib.hid hg
      have HR := Lib.hid hr
      have HO := Lib.hid ho
      have HB := Lib.hid hb
      clear hg hr ho hb
      go_wp2_with (first
        | (refine wpList_load_row rfl 37 (.tmp 7) rfl gB rfl 37 (enA 2 3 2 (.slice (some ⟨gz, 0, none⟩) 0 0) (.slice (some ⟨gv, 0, none⟩) 1 cv) 4 1 (.slice As 0 cs)) (0, 0) _ HG.out Tryz.underlying37 rfl (by kernel_rfl) ?_)
        | (refine wpList_store_rowTo rfl 37 (.tmp 4) (.tmp 93) rfl rfl (w.heap.size + 1) (enA 2 3 2 (.slice (some ⟨gz, 0, none⟩) 0 0) (.slice (some ⟨gv, 0, none⟩) 1 cv) 4 1 (.slice As 0 cs)) (by kernel_rfl) (by kernel_rfl) 37 (enA 0 0 0 (.slice none 0 0) (.slice none 0 0) 0 0 (.slice none 0 0)) HR.out (by kernel_rfl) (by kernel_rfl) (by kernel_rfl) ?_))
      refine bodyPost_ret (results_cell3 rfl _ _ (w.heap.size + 1) 37 (enA 2 3 2 (.slice (some ⟨gz, 0, none⟩) 0 0) (.slice (some ⟨gv, 0, none⟩) 1 cv) 4 1 (.slice As 0 cs)) (0, 0) _ rfl (row_blk _ HR.out) Tryz.underlying37 rfl (by kernel_rfl)) rfl ?_
      have hgb := hgB.out
      exact ⟨_, rfl, ((some ⟨gz, 0, none⟩, 0, 0), (some ⟨gv, 0, none⟩, 1, cv), (As, 0, cs), (some ⟨gu, 0, none⟩, 1, cu)), rfl, (Own.row_keep HO.out (show w.heap.size + 1 < gB + 1 by omega) (enA 2 3 2 (.slice (some ⟨gz, 0, none⟩) 0 0) (.slice (some ⟨gv, 0, none⟩) 1 cv) 4 1 (.slice As 0 cs))).lower (by omega), row_below _ HB.out (by omega)⟩

/-- What unit.send answers, and leaves. -/
def SendR (w : World) (g : Nat) (l : Sl) (x : Ms) (e : Ending) (w' : World) : Prop := ∃ (w2 : World) (γ : SP × SP × SP × SP), e = .returned (slv γ.2.2.2) ∧ Below w.heap.size w w2 ∧ w' = w2.setRow g (stA { s1t 1 6 with nx := 2, due := 4, tr := 1 } { l with Q := slv γ.1, O := slv γ.2.1, S := slv γ.2.2.1 }) ∧ Own MsR 63 25 w.heap.size w2 (slv γ.2.2.2) [x]

set_option maxRecDepth 100000 in
set_option maxHeartbeats 4000000 in
theorem send1 (g : Nat) (l : Sl) (x : Ms) (w : World) (h : Blk w g 110 (stA { s1t 1 6 with nx := 2 } l)) (hq : MsAt w l.Q [x]) (ho : MsAt w l.O []) (hs : MsAt w l.S []) :
    Calls Tryz.prog 73 #[.pointer (some ⟨g, 0, none⟩)] w (SendR w g l x) := by
  obtain ⟨lC, lM, lT, lP, lLT, lCA, lRE, lIT, lQ, lO, lS, lOV, lLM, lSH⟩ := l
  obtain ⟨AQ, cQ, rfl, -, -⟩ := SliceAt.form hq
  obtain ⟨AO, cO, rfl⟩ := MsAt.nil_form ho
  obtain ⟨AS, cS, rfl⟩ := MsAt.nil_form hs
  have HS : Hid (∀ W, Below w.heap.size w W → _) := fun W hb => sendL AQ cQ AO AS cO cS x W (MsAt.call hq hb) (MsAt.any ho) (MsAt.any hs)
  have HU := Lib.hid (fun W (hb : Below w.heap.size w W) => h.call hb)
  clear h hq ho hs
  go_enter Tryz.func73, Tryz.ntmps73
  go_upto_region 1 with (fail)
  go_cut [3, 4, 5] (fun s3 s4 s5 wd => Hid (∃ (p : Nat) (γ : SP × SP × SP × SP), s3 = .pointer (some ⟨p, 0, none⟩) ∧ s4 = slv γ.2.2.2 ∧ s5 = .slice none 0 0 ∧ Blk wd p 37 (enA 2 3 2 (slv γ.1) (slv γ.2.1) 4 1 (slv γ.2.2.1)) ∧ Own MsR 63 25 w.heap.size wd (slv γ.2.2.2) [x] ∧ Below w.heap.size w wd))
  case first =>
    refine RegA.region (Γ := SP × SP × SP × SP) 19 (fun γ k => match k with | 0 => some (.pointer (some ⟨g, 0, none⟩)) | 1 => some (.pointer (some ⟨g, 0, none⟩)) | 2 => some (.pointer (some ⟨g, 0, none⟩)) | 3 => some (.pointer (some ⟨g, 17, none⟩)) | 4 => some (.agg (enA 2 3 2 (.slice AQ 1 cQ) (.slice AO 0 cO) 0 0 (.slice AS 0 cS))) | 5 => some (.pointer (some ⟨g, 0, none⟩)) | 6 => some (.pointer (some ⟨g, 0, none⟩)) | 7 => some (.pointer (some ⟨g, 0, none⟩)) | 8 => some (.pointer (some ⟨g, 1, none⟩)) | 9 => some (i 1) | 10 => some (.tuple #[.agg (enA 2 3 2 (slv γ.1) (slv γ.2.1) 4 1 (slv γ.2.2.1)), slv γ.2.2.2, .slice none 0 0]) | 11 => some (.tuple #[.agg (enA 2 3 2 (slv γ.1) (slv γ.2.1) 4 1 (slv γ.2.2.1)), slv γ.2.2.2, .slice none 0 0]) | 12 => some (.agg (enA 2 3 2 (slv γ.1) (slv γ.2.1) 4 1 (slv γ.2.2.1))) | 13 => some (slv γ.2.2.2) | 14 => some (.slice none 0 0) | 15 => none | 16 => none | 17 => some (slv γ.2.2.2) | 18 => some (.slice none 0 0) | _ => none) (fun γ W => Own MsR 63 25 w.heap.size W (slv γ.2.2.2) [x]) 37 (enA 0 0 0 (.slice none 0 0) (.slice none 0 0) 0 0 (.slice none 0 0)) (fun γ => (enA 2 3 2 (slv γ.1) (slv γ.2.1) 4 1 (slv γ.2.2.1))) 15 10 16 3 18 12 (by kernel_rfl) (by kernel_rfl) (Reg4.in_of (n := 33) (by kernel_rfl) rfl) (by decide) (fun _ => rfl) (fun _ => rfl) (fun _ => rfl) ?_ (fun _ _ _ h hb => h.call hb) (fun _ _ _ _ h hk _ => own_rowTy h hk (by decide) _) rfl rfl ?_ (fun _ => by kernel_rfl) (fun _ => rfl) (fun _ => by kernel_rfl) ?_ ?_ ?_ ?_
    · intro γ k hk h1 h2
      have hk : k = 0 ∨ k = 1 ∨ k = 2 ∨ k = 3 ∨ k = 4 ∨ k = 5 ∨ k = 6 ∨ k = 7 ∨ k = 8 ∨ k = 9 ∨ k = 10 ∨ k = 11 ∨ k = 12 ∨ k = 13 ∨ k = 14 ∨ k = 15 ∨ k = 16 ∨ k = 17 ∨ k = 18 := by omega
      rcases hk with rfl | rfl | rfl | rfl | rfl | rfl | rfl | rfl | rfl | rfl | rfl | rfl | rfl | rfl | rfl | rfl | rfl | rfl | rfl
      all_goals first | exact ⟨_, rfl⟩ | exact absurd rfl h1 | exact absurd rfl h2
    · intro o ho
      obtain rfl := Option.some.inj ho
      exact ⟨rfl, by first | exact ⟨_, by simp, rfl, rfl⟩ | decide⟩
    · intro γ idx o x hj hne ho hx a' w' hG hop
      have hj' : idx = 0 ∨ idx = 1 ∨ idx = 2 ∨ idx = 3 ∨ idx = 4 ∨ idx = 5 ∨ idx = 6 ∨ idx = 7 ∨ idx = 8 ∨ idx = 9 ∨ idx = 10 ∨ idx = 11 ∨ idx = 12 ∨ idx = 13 ∨ idx = 14 ∨ idx = 15 ∨ idx = 16 ∨ idx = 17 ∨ idx = 18 := by omega
      clear hj
      rcases hj' with rfl | rfl | rfl | rfl | rfl | rfl | rfl | rfl | rfl | rfl | rfl | rfl | rfl | rfl | rfl | rfl | rfl | rfl | rfl
      · obtain rfl := Option.some.inj ho
        obtain rfl := Option.some.inj hx
        have h0 : a'.tmps[0]?.getD undef = _ := (Array.getD_eq_getD_getElem? ..).symm.trans (hop 0 (by simp [Op.operands, Call.operands]))
        go_simp
      · obtain rfl := Option.some.inj ho
        obtain rfl := Option.some.inj hx
        have h7 : a'.tmps[7]?.getD undef = .pointer (some ⟨g, 0, none⟩) := (Array.getD_eq_getD_getElem? ..).symm.trans (hop 7 (by simp [Op.operands, Call.operands]) _ rfl)
        go_simp
      · obtain rfl := Option.some.inj ho
        obtain rfl := Option.some.inj hx
        have h8 : a'.tmps[8]?.getD undef = .pointer (some ⟨g, 0, none⟩) := (Array.getD_eq_getD_getElem? ..).symm.trans (hop 8 (by simp [Op.operands, Call.operands]) _ rfl)
        go_simp
      · obtain rfl := Option.some.inj ho
        obtain rfl := Option.some.inj hx
        have h9 : a'.tmps[9]?.getD undef = .pointer (some ⟨g, 0, none⟩) := (Array.getD_eq_getD_getElem? ..).symm.trans (hop 9 (by simp [Op.operands, Call.operands]) _ rfl)
        go_simp
      · obtain rfl := Option.some.inj ho
        obtain rfl := Option.some.inj hx
        have h10 : a'.tmps[10]?.getD undef = .pointer (some ⟨g, 17, none⟩) := (Array.getD_eq_getD_getElem? ..).symm.trans (hop 10 (by simp [Op.operands, Call.operands]) _ rfl)
        have kc := (HU.out _ hG).cell
        go_simp
      · obtain rfl := Option.some.inj ho
        obtain rfl := Option.some.inj hx
        have h0 : a'.tmps[0]?.getD undef = _ := (Array.getD_eq_getD_getElem? ..).symm.trans (hop 0 (by simp [Op.operands, Call.operands]))
        go_simp
      · obtain rfl := Option.some.inj ho
        obtain rfl := Option.some.inj hx
        have h12 : a'.tmps[12]?.getD undef = .pointer (some ⟨g, 0, none⟩) := (Array.getD_eq_getD_getElem? ..).symm.trans (hop 12 (by simp [Op.operands, Call.operands]) _ rfl)
        go_simp
      · obtain rfl := Option.some.inj ho
        obtain rfl := Option.some.inj hx
        have h13 : a'.tmps[13]?.getD undef = .pointer (some ⟨g, 0, none⟩) := (Array.getD_eq_getD_getElem? ..).symm.trans (hop 13 (by simp [Op.operands, Call.operands]) _ rfl)
        go_simp
      · obtain rfl := Option.some.inj ho
        obtain rfl := Option.some.inj hx
        have h14 : a'.tmps[14]?.getD undef = .pointer (some ⟨g, 0, none⟩) := (Array.getD_eq_getD_getElem? ..).symm.trans (hop 14 (by simp [Op.operands, Call.operands]) _ rfl)
        go_simp
      · obtain rfl := Option.some.inj ho
        obtain rfl := Option.some.inj hx
        have h15 : a'.tmps[15]?.getD undef = .pointer (some ⟨g, 1, none⟩) := (Array.getD_eq_getD_getElem? ..).symm.trans (hop 15 (by simp [Op.operands, Call.operands]) _ rfl)
        have kc := (HU.out _ hG).cell
        go_simp
      · exact absurd rfl hne
      · obtain rfl := Option.some.inj ho
        obtain rfl := Option.some.inj hx
        have h17 : a'.tmps[17]?.getD undef = .tuple #[.agg (enA 2 3 2 (slv γ.1) (slv γ.2.1) 4 1 (slv γ.2.2.1)), slv γ.2.2.2, .slice none 0 0] := (Array.getD_eq_getD_getElem? ..).symm.trans (hop 17 (by simp [Op.operands, Call.operands]) _ rfl)
        go_simp
      · obtain rfl := Option.some.inj ho
        obtain rfl := Option.some.inj hx
        have h6 : a'.tmps[6]?.getD undef = .tuple #[.agg (enA 2 3 2 (slv γ.1) (slv γ.2.1) 4 1 (slv γ.2.2.1)), slv γ.2.2.2, .slice none 0 0] := (Array.getD_eq_getD_getElem? ..).symm.trans (hop 6 (by simp [Op.operands, Call.operands]) _ rfl)
        go_simp
      · obtain rfl := Option.some.inj ho
        obtain rfl := Option.some.inj hx
        have h6 : a'.tmps[6]?.getD undef = .tuple #[.agg (enA 2 3 2 (slv γ.1) (slv γ.2.1) 4 1 (slv γ.2.2.1)), slv γ.2.2.2, .slice none 0 0] := (Array.getD_eq_getD_getElem? ..).symm.trans (hop 6 (by simp [Op.operands, Call.operands]) _ rfl)
        go_simp
      · obtain rfl := Option.some.inj ho
        obtain rfl := Option.some.inj hx
        have h6 : a'.tmps[6]?.getD undef = .tuple #[.agg (enA 2 3 2 (slv γ.1) (slv γ.2.1) 4 1 (slv γ.2.2.1)), slv γ.2.2.2, .slice none 0 0] := (Array.getD_eq_getD_getElem? ..).symm.trans (hop 6 (by simp [Op.operands, Call.operands]) _ rfl)
        go_simp
      · cases hx
      · cases hx
      · obtain rfl := Option.some.inj ho
        obtain rfl := Option.some.inj hx
        have h19 : a'.tmps[19]?.getD undef = slv γ.2.2.2 := (Array.getD_eq_getD_getElem? ..).symm.trans (hop 19 (by simp [Op.operands, Call.operands]) _ rfl)
        go_simp
      · obtain rfl := Option.some.inj ho
        obtain rfl := Option.some.inj hx
        have h20 : a'.tmps[20]?.getD undef = .slice none 0 0 := (Array.getD_eq_getD_getElem? ..).symm.trans (hop 20 (by simp [Op.operands, Call.operands]) _ rfl)
        go_simp
    · intro o ho a' w' hG hop
      obtain rfl := Option.some.inj ho
      have h11 : a'.tmps[11]?.getD undef = .agg (enA 2 3 2 (.slice AQ 1 cQ) (.slice AO 0 cO) 0 0 (.slice AS 0 cS)) := (Array.getD_eq_getD_getElem? ..).symm.trans (hop ((none, 0, 0), (none, 0, 0), (none, 0, 0), (none, 0, 0)) 11 (by simp [Op.operands, Call.operands]) _ rfl)
      have h16 : a'.tmps[16]?.getD undef = i 1 := (Array.getD_eq_getD_getElem? ..).symm.trans (hop ((none, 0, 0), (none, 0, 0), (none, 0, 0), (none, 0, 0)) 16 (by simp [Op.operands, Call.operands]) _ rfl)
      refine Reg4.StepOk.mono (R := fun v W => SPost w x w' v W) ?_ (fun v W h => ?_)
      · go_simp
        refine (HS.out _ hG).mono ?_
        rintro e w5 ⟨v, rfl, γ, h1, h2, h3⟩
        have hsz := hG.size
        exact ⟨_, rfl, (show SPost _ _ _ _ _ from ⟨γ, h1, h2.lower hsz, h3⟩)⟩
      · obtain ⟨γ, e1, h1, hb⟩ := h
        subst e1
        exact ⟨γ, rfl, h1, hb⟩
    · intro o ho a' w'
      obtain rfl := Option.some.inj ho
      first | kernel_rfl | rfl
    · intro γ vals p w' hG hF hK hp hv hpv
      have hv0 : vals 0 = .pointer (some ⟨g, 0, none⟩) := hv 0 _ (by omega) rfl
      have hv1 : vals 1 = .pointer (some ⟨g, 0, none⟩) := hv 1 _ (by omega) rfl
      have hv2 : vals 2 = .pointer (some ⟨g, 0, none⟩) := hv 2 _ (by omega) rfl
      have hv3 : vals 3 = .pointer (some ⟨g, 17, none⟩) := hv 3 _ (by omega) rfl
      have hv4 : vals 4 = .agg (enA 2 3 2 (.slice AQ 1 cQ) (.slice AO 0 cO) 0 0 (.slice AS 0 cS)) := hv 4 _ (by omega) rfl
      have hv5 : vals 5 = .pointer (some ⟨g, 0, none⟩) := hv 5 _ (by omega) rfl
      have hv6 : vals 6 = .pointer (some ⟨g, 0, none⟩) := hv 6 _ (by omega) rfl
      have hv7 : vals 7 = .pointer (some ⟨g, 0, none⟩) := hv 7 _ (by omega) rfl
      have hv8 : vals 8 = .pointer (some ⟨g, 1, none⟩) := hv 8 _ (by omega) rfl
      have hv9 : vals 9 = i 1 := hv 9 _ (by omega) rfl
      have hv10 : vals 10 = .tuple #[.agg (enA 2 3 2 (slv γ.1) (slv γ.2.1) 4 1 (slv γ.2.2.1)), slv γ.2.2.2, .slice none 0 0] := hv 10 _ (by omega) rfl
      have hv11 : vals 11 = .tuple #[.agg (enA 2 3 2 (slv γ.1) (slv γ.2.1) 4 1 (slv γ.2.2.1)), slv γ.2.2.2, .slice none 0 0] := hv 11 _ (by omega) rfl
      have hv12 : vals 12 = .agg (enA 2 3 2 (slv γ.1) (slv γ.2.1) 4 1 (slv γ.2.2.1)) := hv 12 _ (by omega) rfl
      have hv13 : vals 13 = slv γ.2.2.2 := hv 13 _ (by omega) rfl
      have hv14 : vals 14 = .slice none 0 0 := hv 14 _ (by omega) rfl
      have hv17 : vals 17 = slv γ.2.2.2 := hv 17 _ (by omega) rfl
      have hv18 : vals 18 = .slice none 0 0 := hv 18 _ (by omega) rfl
      simp only [Reg4.puts, Reg4.dstOf, List.range, List.range.loop, if_true, List.drop_succ_cons, List.drop_zero, hpv, hv0, hv1, hv2, hv3, hv4, hv5, hv6, hv7, hv8, hv9, hv10, hv11, hv12, hv13, hv14, hv17, hv18]
      clear hv hpv hv0 hv1 hv2 hv3 hv4 hv5 hv6 hv7 hv8 hv9 hv10 hv11 hv12 hv13 hv14 hv17 hv18
      generalize vals 16 = zst
      simp [Act.put]
      go_wp2_with fail
      go_meet
      exact ⟨p, γ, rfl, rfl, rfl, hK, hF, hG⟩
  case rest =>
  obtain ⟨p, γ, rfl, rfl, rfl, hk, ho, hb⟩ := hcut.out
  clear hcut
  have HKP := Lib.hid hk
  have HO := Lib.hid ho
  have HB := Lib.hid hb
  have HUW := Lib.hid (HU.out wc hb)
  clear hk ho hb HU HS
  have kp := HKP.out.cell
  have kc := HUW.out.cell
  have kf := HUW.out.frozen
  have H8 := Lib.hid (put8s (x0 := 2) (x1 := 3) (x2 := 2) (v3 := slv γ.1) (v4 := slv γ.2.1) (x5 := 4) (x6 := 1) (v7 := slv γ.2.2.1) HUW.out)
  go_upto_region 3 with (fail)
  rw [show ((((((((wc.setCell ⟨g, 17, none⟩ (.int .i64 2)).setCell ⟨g, 18, none⟩ (.int .i64 3)).setCell ⟨g, 19, none⟩ (.int .i64 2)).setCell ⟨g, 20, none⟩ (.slice γ.1.1 γ.1.2.1 γ.1.2.2)).setCell ⟨g, 21, none⟩ (.slice γ.2.1.1 γ.2.1.2.1 γ.2.1.2.2)).setCell ⟨g, 22, none⟩ (.int .i64 4)).setCell ⟨g, 23, none⟩ (.int .i64 1)).setCell ⟨g, 24, none⟩ (.slice γ.2.2.1.1 γ.2.2.1.2.1 γ.2.2.1.2.2)) = _ from H8.out]
  clear kp kc kf
  go_wp2_with fail
  go_ret
  exact ⟨wc, γ, rfl, HB.out, rfl, HO.out⟩

end Stn
end Go.Proofs.YtfaofobhmmedmaaGreatDoor
