/-
  has, input and Plug for the connectors 1 and 2.
-/
import Derived.Test.YtfaofobhmmedmaaGreatDoorDenB
namespace Go.Proofs.YtfaofobhmmedmaaGreatDoor
namespace Stn
set_option linter.unusedSimpArgs false
set_option linter.unusedVariables false
open Go.RowKit Go.Great

set_option maxRecDepth 100000 in
set_option maxHeartbeats 4000000 in
theorem has2 (base g : Nat) (s1 s2 : Cn) (ac : Bool) (iv k : Int) (l : Sl) (w : World) (h : UD base w g (dS s1 s2 ac iv) l) (hk : 1 ≤ k ∧ k ≤ 2) : Calls Tryz.prog 85 #[.pointer (some ⟨g, 0, none⟩), i k] w fun e w' => e = .returned (.bool true) ∧ Below w.heap.size w w' := by
  obtain ⟨bC, cC, bM, cM, bT, cT, bO, cO, bL, cL, bS, cS, rfl⟩ := dform h.a
  have k6 : w.cell? ⟨g, 6, none⟩ = some (.slice (some ⟨bC, 0, none⟩) 2 cC) := h.k.cell 6
  have h1 : 1 ≤ k := hk.1
  have h2 : k ≤ 2 := hk.2
  clear h hk
  go_enter Tryz.func85, Tryz.ntmps85
  go_wp2_with fail
  go_ret
  exact ⟨rfl, by repeat (first | (with_reducible exact Below.refl _ _) | (with_reducible refine below_drewN' ?_ _) | (with_reducible refine Below.drew ?_) | (with_reducible refine Below.setCell ?_ (by first | (simp; done) | (simp; omega) | omega) _) | (with_reducible refine below_alloc ?_ _) | (with_reducible refine Below.alloc ?_ (by first | (simp; done) | (simp; omega) | omega) _))⟩

set_option maxRecDepth 100000 in
set_option maxHeartbeats 4000000 in
theorem input1 (base g : Nat) (l : Sl) (w : World) (h : UD base w g (dS cnF cnF false 0) l) (ht : PTab w) (hB : base ≤ w.heap.size) :
    Calls Tryz.prog 40 #[.pointer (some ⟨g, 0, none⟩), i 1, i 1] w fun e w' => e = .returned (i 0) ∧ UD base w' g (dS cnG cnF false 0) l ∧ Below base w w' := by
  obtain ⟨bC, cC, bM, cM, bT, cT, bO, cO, bL, cL, bS, cS, rfl⟩ := dform h.a
  have HU := Lib.hid (fun W (hb : Below w.heap.size w W) => h.call hb)
  have HH : Hid (∀ W, Below w.heap.size w W → _) := fun W hb => has2 base g cnF cnF false 0 1 _ W (h.call hb) ⟨by omega, by omega⟩
  have HT : Hid (∀ W, Below w.heap.size w W → _) := fun W hb => next1 W (ht.keep (Kept.of hb))
  have HR : Hid (∀ W, Below w.heap.size w W → (W.cell? ⟨bC, 0, none⟩ = some (i 1) ∧ W.cell? ⟨bC, 1, none⟩ = some (.bool false) ∧ W.cell? ⟨bC, 2, none⟩ = some (.bool false) ∧ W.cell? ⟨bC, 3, none⟩ = some (.bool false) ∧ W.cell? ⟨bC, 4, none⟩ = some (i 0)) ∧ (∀ j, W.frozen? ⟨bC, j, none⟩ = false) ∧ W.cell? ⟨g, 6, none⟩ = some (.slice (some ⟨bC, 0, none⟩) 2 cC)) := fun W hb => by
    have hu := h.call hb
    obtain ⟨x, o, e, r⟩ := CnsAt.at_ (j := 0) hu.a.at_.C (by simp)
    obtain ⟨rfl, rfl⟩ : bC = x ∧ 0 = o := by simpa using e
    have r0 := r W (Kept.refl _)
    simp at r0
    exact ⟨r0, Own.frz (n := 2) (c := cC) hu.a.C, hu.k.cell 6⟩
  clear h ht
  go_enter Tryz.func40, Tryz.ntmps40
  go_wp2_with fail
  refine (HH.out w (Below.refl _ _)).mono ?_
  rintro e w1 ⟨rfl, hb⟩
  have HB1 := Lib.hid hb
  obtain ⟨⟨r0, r1, r2, r3, r4⟩, fr, k6⟩ := HR.out w1 hb
  clear hb
  go_wp2_with fail
  refine (HT.out w1 HB1.out).mono ?_
  rintro e w2 ⟨rfl, hb⟩
  have hb2 := below_call HB1.out hb
  have HZ := Lib.hid (Blk.new w2 80 #[i 2, .bool true, .bool false, .bool false, i 0])
  have HB3 := Lib.hid (below_call hb2 (below_new w2 (.cells #[i 2, .bool true, .bool false, .bool false, i 0] 80)))
  clear r0 r1 r2 r3 r4 fr k6 hb hb2 HB1 HH HT
  go_upto_region 6 with (fail)
  generalize w2.alloc (.cells _ 80) = wc at *
  generalize w2.heap.size = gz at *
  obtain ⟨⟨r0, r1, r2, r3, r4⟩, fr, k6⟩ := HR.out wc HB3.out
  have kz := HZ.out.cell
  have hsz : base ≤ wc.heap.size := Nat.le_trans hB HB3.out.size
  have HP := Lib.hid (UD.putC (gC := bC) (cC := cC) (j := 0) cnG (HU.out wc HB3.out) rfl (by simp) hsz)
  rw [show (cnA cnG).toList = [i 2, .bool true, .bool false, .bool false, i 0] from rfl, putCells5] at HP
  clear hsz HU HR
  go_region
  all_goals
    have HQ : Hid (UD base (((((wc.setCell ⟨bC, 0, none⟩ (.int .i64 2)).setCell ⟨bC, 1, none⟩ (.bool true)).setCell ⟨bC, 2, none⟩ (.bool false)).setCell ⟨bC, 3, none⟩ (.bool false)).setCell ⟨bC, 4, none⟩ (.int .i64 0)) g (dS cnG cnF false 0) _ ∧ Below base wc (((((wc.setCell ⟨bC, 0, none⟩ (.int .i64 2)).setCell ⟨bC, 1, none⟩ (.bool true)).setCell ⟨bC, 2, none⟩ (.bool false)).setCell ⟨bC, 3, none⟩ (.bool false)).setCell ⟨bC, 4, none⟩ (.int .i64 0))) := HP.out
    clear HP r0 r1 r2 r3 r4 fr k6 kz
    generalize (((((wc.setCell ⟨bC, 0, none⟩ (.int .i64 2)).setCell ⟨bC, 1, none⟩ (.bool true)).setCell ⟨bC, 2, none⟩ (.bool false)).setCell ⟨bC, 3, none⟩ (.bool false)).setCell ⟨bC, 4, none⟩ (.int .i64 0)) = wd at *
    go_wp2_with fail
    go_ret
    exact ⟨rfl, UD.call HQ.out.1 (Below.drew (Below.refl _ _)), (HB3.out.mono hB).trans (Below.drew HQ.out.2)⟩

set_option maxRecDepth 100000 in
set_option maxHeartbeats 4000000 in
theorem input2 (base g : Nat) (l : Sl) (w : World) (h : UD base w g (dS cnG cnF false 0) l) (ht : PTab w) (hB : base ≤ w.heap.size) :
    Calls Tryz.prog 40 #[.pointer (some ⟨g, 0, none⟩), i 2, i 1] w fun e w' => e = .returned (i 0) ∧ UD base w' g (dS cnG cnG false 0) l ∧ Below base w w' := by
  obtain ⟨bC, cC, bM, cM, bT, cT, bO, cO, bL, cL, bS, cS, rfl⟩ := dform h.a
  have HU := Lib.hid (fun W (hb : Below w.heap.size w W) => h.call hb)
  have HH : Hid (∀ W, Below w.heap.size w W → _) := fun W hb => has2 base g cnG cnF false 0 2 _ W (h.call hb) ⟨by omega, by omega⟩
  have HT : Hid (∀ W, Below w.heap.size w W → _) := fun W hb => next1 W (ht.keep (Kept.of hb))
  have HR : Hid (∀ W, Below w.heap.size w W → (W.cell? ⟨bC, 5, none⟩ = some (i 1) ∧ W.cell? ⟨bC, 6, none⟩ = some (.bool false) ∧ W.cell? ⟨bC, 7, none⟩ = some (.bool false) ∧ W.cell? ⟨bC, 8, none⟩ = some (.bool false) ∧ W.cell? ⟨bC, 9, none⟩ = some (i 0)) ∧ (∀ j, W.frozen? ⟨bC, j, none⟩ = false) ∧ W.cell? ⟨g, 6, none⟩ = some (.slice (some ⟨bC, 0, none⟩) 2 cC)) := fun W hb => by
    have hu := h.call hb
    obtain ⟨x, o, e, r⟩ := CnsAt.at_ (j := 1) hu.a.at_.C (by simp)
    obtain ⟨rfl, rfl⟩ : bC = x ∧ 0 = o := by simpa using e
    have r0 := r W (Kept.refl _)
    simp at r0
    exact ⟨r0, Own.frz (n := 2) (c := cC) hu.a.C, hu.k.cell 6⟩
  clear h ht
  go_enter Tryz.func40, Tryz.ntmps40
  go_wp2_with fail
  refine (HH.out w (Below.refl _ _)).mono ?_
  rintro e w1 ⟨rfl, hb⟩
  have HB1 := Lib.hid hb
  obtain ⟨⟨r0, r1, r2, r3, r4⟩, fr, k6⟩ := HR.out w1 hb
  clear hb
  go_wp2_with fail
  refine (HT.out w1 HB1.out).mono ?_
  rintro e w2 ⟨rfl, hb⟩
  have hb2 := below_call HB1.out hb
  have HZ := Lib.hid (Blk.new w2 80 #[i 2, .bool true, .bool false, .bool false, i 0])
  have HB3 := Lib.hid (below_call hb2 (below_new w2 (.cells #[i 2, .bool true, .bool false, .bool false, i 0] 80)))
  clear r0 r1 r2 r3 r4 fr k6 hb hb2 HB1 HH HT
  go_upto_region 6 with (fail)
  generalize w2.alloc (.cells _ 80) = wc at *
  generalize w2.heap.size = gz at *
  obtain ⟨⟨r0, r1, r2, r3, r4⟩, fr, k6⟩ := HR.out wc HB3.out
  have kz := HZ.out.cell
  have hsz : base ≤ wc.heap.size := Nat.le_trans hB HB3.out.size
  have HP := Lib.hid (UD.putC (gC := bC) (cC := cC) (j := 1) cnG (HU.out wc HB3.out) rfl (by simp) hsz)
  rw [show (cnA cnG).toList = [i 2, .bool true, .bool false, .bool false, i 0] from rfl, putCells5] at HP
  clear hsz HU HR
  go_region
  all_goals
    have HQ : Hid (UD base (((((wc.setCell ⟨bC, 5, none⟩ (.int .i64 2)).setCell ⟨bC, 6, none⟩ (.bool true)).setCell ⟨bC, 7, none⟩ (.bool false)).setCell ⟨bC, 8, none⟩ (.bool false)).setCell ⟨bC, 9, none⟩ (.int .i64 0)) g (dS cnG cnG false 0) _ ∧ Below base wc (((((wc.setCell ⟨bC, 5, none⟩ (.int .i64 2)).setCell ⟨bC, 6, none⟩ (.bool true)).setCell ⟨bC, 7, none⟩ (.bool false)).setCell ⟨bC, 8, none⟩ (.bool false)).setCell ⟨bC, 9, none⟩ (.int .i64 0))) := HP.out
    clear HP r0 r1 r2 r3 r4 fr k6 kz
    generalize (((((wc.setCell ⟨bC, 5, none⟩ (.int .i64 2)).setCell ⟨bC, 6, none⟩ (.bool true)).setCell ⟨bC, 7, none⟩ (.bool false)).setCell ⟨bC, 8, none⟩ (.bool false)).setCell ⟨bC, 9, none⟩ (.int .i64 0)) = wd at *
    go_wp2_with fail
    go_ret
    exact ⟨rfl, UD.call HQ.out.1 (Below.drew (Below.refl _ _)), (HB3.out.mono hB).trans (Below.drew HQ.out.2)⟩

set_option maxRecDepth 100000 in
set_option maxHeartbeats 4000000 in
theorem plug1 (l : Sl) (w : World) (h : StAt w (dS cnF cnF false 0) l) (ht : PTab w) :
    Calls Tryz.prog 10 #[.agg (stA (dS cnF cnF false 0) l), i 1, .bool true] w fun e w' => ∃ l', e = .returned (.tuple #[.agg (stA (dS cnG cnF false 0) l'), i 0]) ∧ StO w.heap.size w' (dS cnG cnF false 0) l' ∧ Below w.heap.size w w' := by
  have HO : Hid (∀ W, Below w.heap.size w W → _) := fun W hb => openYes cnF cnF false 0 1 l W (h.call hb) ⟨by omega, by omega⟩
  have HT : Hid (∀ W, Below w.heap.size w W → PTab W) := fun W hb => ht.keep (Kept.of hb)
  obtain ⟨AC, cC, AM, cM, AT, cT, AOV, cOV, ALM, cLM, ASH, cSH, rfl⟩ := formsD h
  clear h ht
  have HS := Lib.hid ((Blk.new w 43 (stA (dS cnF cnF false 0) ⟨.slice AC 2 cC, .slice AM 2 cM, .slice AT 2 cT, .slice none 0 0, .slice none 0 0, .slice none 0 0, .slice none 0 0, .slice none 0 0, .slice none 0 0, .slice none 0 0, .slice none 0 0, .slice AOV 2 cOV, .slice ALM 2 cLM, .slice ASH 2 cSH⟩)).alloc (.cells zA 43))
  have HR := Lib.hid (Blk.new (w.alloc (.cells (stA (dS cnF cnF false 0) ⟨.slice AC 2 cC, .slice AM 2 cM, .slice AT 2 cT, .slice none 0 0, .slice none 0 0, .slice none 0 0, .slice none 0 0, .slice none 0 0, .slice none 0 0, .slice none 0 0, .slice none 0 0, .slice AOV 2 cOV, .slice ALM 2 cLM, .slice ASH 2 cSH⟩) 43)) 43 zA)
  have HB := Lib.hid (below_alloc (below_new w (.cells (stA (dS cnF cnF false 0) ⟨.slice AC 2 cC, .slice AM 2 cM, .slice AT 2 cT, .slice none 0 0, .slice none 0 0, .slice none 0 0, .slice none 0 0, .slice none 0 0, .slice none 0 0, .slice none 0 0, .slice none 0 0, .slice AOV 2 cOV, .slice ALM 2 cLM, .slice ASH 2 cSH⟩) 43)) (.cells zA 43))
  have hs1 : (w.alloc (.cells (stA (dS cnF cnF false 0) ⟨.slice AC 2 cC, .slice AM 2 cM, .slice AT 2 cT, .slice none 0 0, .slice none 0 0, .slice none 0 0, .slice none 0 0, .slice none 0 0, .slice none 0 0, .slice none 0 0, .slice none 0 0, .slice AOV 2 cOV, .slice ALM 2 cLM, .slice ASH 2 cSH⟩) 43)).heap.size = w.heap.size + 1 := by simp
  rw [hs1] at HR
  clear hs1
  go_enter Tryz.func10, Tryz.ntmps10
  go_upto_region 1 with (fail)
  generalize (w.alloc (.cells _ 43)).alloc (.cells _ 43) = w1 at *
  go_wp2_with (refine wpList_load_row rfl 43 (.tmp 3) rfl w.heap.size rfl 43 (stA (dS cnF cnF false 0) ⟨.slice AC 2 cC, .slice AM 2 cM, .slice AT 2 cT, .slice none 0 0, .slice none 0 0, .slice none 0 0, .slice none 0 0, .slice none 0 0, .slice none 0 0, .slice none 0 0, .slice none 0 0, .slice AOV 2 cOV, .slice ALM 2 cLM, .slice ASH 2 cSH⟩) (0, 0) _ HS.out Tryz.underlying43 rfl (by kernel_rfl) ?_)
  refine (HO.out w1 HB.out).mono ?_
  rintro e w2 ⟨g, l', rfl, hu, hg, hb⟩
  have HU := Lib.hid hu
  have HR2 := Lib.hid (HR.out.call hb)
  have HB2 := Lib.hid (below_call HB.out hb)
  have hs1 : w.heap.size + 1 < w1.heap.size := HR.out.lt
  have hgr : Hid (w.heap.size + 1 < g) := by show _ < _; omega
  have hbs := hb.size
  have hsz : Hid (w1.heap.size ≤ w2.heap.size) := hbs
  have hs0 : Hid (w.heap.size + 1 < w1.heap.size) := hs1
  clear hu hg hb hs1 hbs HR HB HS HO
  go_wp2_with fail
  refine (input1 w1.heap.size g l' w2 HU.out (HT.out w2 HB2.out) hsz.out).mono ?_
  rintro e w3 ⟨rfl, hu, hb⟩
  obtain ⟨bC, dC, bM, dM, bT, dT, bO, dO, bL, dL, bS, dS2, rfl⟩ := dform hu.a
  have HU3 := Lib.hid hu
  have h0 := hs0.out
  have HR3 := Lib.hid (HR2.out.below hb h0)
  have HB3 := Lib.hid (HB2.out.trans (hb.mono (by omega)))
  have HK3 := Lib.hid hu.k
  clear hu hb h0 HU HR2 HB2 HT
  go_wp2_with (first
    | (refine wpList_load_row rfl 43 (.tmp 40) rfl g rfl 110 (stA (dS cnG cnF false 0) ⟨.slice (some ⟨bC, 0, none⟩) 2 dC, .slice (some ⟨bM, 0, none⟩) 2 dM, .slice (some ⟨bT, 0, none⟩) 2 dT, .slice none 0 0, .slice none 0 0, .slice none 0 0, .slice none 0 0, .slice none 0 0, .slice none 0 0, .slice none 0 0, .slice none 0 0, .slice (some ⟨bO, 0, none⟩) 2 dO, .slice (some ⟨bL, 0, none⟩) 2 dL, .slice (some ⟨bS, 0, none⟩) 2 dS2⟩) (0, 0) _ HK3.out Tryz.underlying43 rfl (by kernel_rfl) ?_)
    | (refine wpList_store_rowTo rfl 43 (.tmp 6) (.tmp 41) rfl rfl (w.heap.size + 1) (stA (dS cnG cnF false 0) ⟨.slice (some ⟨bC, 0, none⟩) 2 dC, .slice (some ⟨bM, 0, none⟩) 2 dM, .slice (some ⟨bT, 0, none⟩) 2 dT, .slice none 0 0, .slice none 0 0, .slice none 0 0, .slice none 0 0, .slice none 0 0, .slice none 0 0, .slice none 0 0, .slice none 0 0, .slice (some ⟨bO, 0, none⟩) 2 dO, .slice (some ⟨bL, 0, none⟩) 2 dL, .slice (some ⟨bS, 0, none⟩) 2 dS2⟩) (by kernel_rfl) (by kernel_rfl) 43 zA HR3.out (by kernel_rfl) (by kernel_rfl) (by kernel_rfl) ?_))
  refine bodyPost_ret (results_cell2 rfl _ _ (w.heap.size + 1) 43 (stA (dS cnG cnF false 0) ⟨.slice (some ⟨bC, 0, none⟩) 2 dC, .slice (some ⟨bM, 0, none⟩) 2 dM, .slice (some ⟨bT, 0, none⟩) 2 dT, .slice none 0 0, .slice none 0 0, .slice none 0 0, .slice none 0 0, .slice none 0 0, .slice none 0 0, .slice none 0 0, .slice none 0 0, .slice (some ⟨bO, 0, none⟩) 2 dO, .slice (some ⟨bL, 0, none⟩) 2 dL, .slice (some ⟨bS, 0, none⟩) 2 dS2⟩) (0, 0) _ rfl (row_blk _ HR3.out) Tryz.underlying43 rfl (by kernel_rfl)) rfl ?_
  have h0 := hs0.out
  refine ⟨_, rfl, ?_, row_below _ HB3.out (by omega)⟩
  exact (StO.lower (base := w1.heap.size) ⟨Own.row_keep HU3.out.a.C h0 _, Own.row_keep HU3.out.a.M h0 _, Own.row_keep HU3.out.a.T h0 _, rfl, rfl, rfl, rfl, rfl, rfl, rfl, rfl, Own.row_keep HU3.out.a.OV h0 _, Own.row_keep HU3.out.a.LM h0 _, Own.row_keep HU3.out.a.SH h0 _⟩ (by omega))

set_option maxRecDepth 100000 in
set_option maxHeartbeats 4000000 in
theorem plug2 (l : Sl) (w : World) (h : StAt w (dS cnG cnF false 0) l) (ht : PTab w) :
    Calls Tryz.prog 10 #[.agg (stA (dS cnG cnF false 0) l), i 2, .bool true] w fun e w' => ∃ l', e = .returned (.tuple #[.agg (stA (dS cnG cnG false 0) l'), i 0]) ∧ StO w.heap.size w' (dS cnG cnG false 0) l' ∧ Below w.heap.size w w' := by
  have HO : Hid (∀ W, Below w.heap.size w W → _) := fun W hb => openYes cnG cnF false 0 2 l W (h.call hb) ⟨by omega, by omega⟩
  have HT : Hid (∀ W, Below w.heap.size w W → PTab W) := fun W hb => ht.keep (Kept.of hb)
  obtain ⟨AC, cC, AM, cM, AT, cT, AOV, cOV, ALM, cLM, ASH, cSH, rfl⟩ := formsD h
  clear h ht
  have HS := Lib.hid ((Blk.new w 43 (stA (dS cnG cnF false 0) ⟨.slice AC 2 cC, .slice AM 2 cM, .slice AT 2 cT, .slice none 0 0, .slice none 0 0, .slice none 0 0, .slice none 0 0, .slice none 0 0, .slice none 0 0, .slice none 0 0, .slice none 0 0, .slice AOV 2 cOV, .slice ALM 2 cLM, .slice ASH 2 cSH⟩)).alloc (.cells zA 43))
  have HR := Lib.hid (Blk.new (w.alloc (.cells (stA (dS cnG cnF false 0) ⟨.slice AC 2 cC, .slice AM 2 cM, .slice AT 2 cT, .slice none 0 0, .slice none 0 0, .slice none 0 0, .slice none 0 0, .slice none 0 0, .slice none 0 0, .slice none 0 0, .slice none 0 0, .slice AOV 2 cOV, .slice ALM 2 cLM, .slice ASH 2 cSH⟩) 43)) 43 zA)
  have HB := Lib.hid (below_alloc (below_new w (.cells (stA (dS cnG cnF false 0) ⟨.slice AC 2 cC, .slice AM 2 cM, .slice AT 2 cT, .slice none 0 0, .slice none 0 0, .slice none 0 0, .slice none 0 0, .slice none 0 0, .slice none 0 0, .slice none 0 0, .slice none 0 0, .slice AOV 2 cOV, .slice ALM 2 cLM, .slice ASH 2 cSH⟩) 43)) (.cells zA 43))
  have hs1 : (w.alloc (.cells (stA (dS cnG cnF false 0) ⟨.slice AC 2 cC, .slice AM 2 cM, .slice AT 2 cT, .slice none 0 0, .slice none 0 0, .slice none 0 0, .slice none 0 0, .slice none 0 0, .slice none 0 0, .slice none 0 0, .slice none 0 0, .slice AOV 2 cOV, .slice ALM 2 cLM, .slice ASH 2 cSH⟩) 43)).heap.size = w.heap.size + 1 := by simp
  rw [hs1] at HR
  clear hs1
  go_enter Tryz.func10, Tryz.ntmps10
  go_upto_region 1 with (fail)
  generalize (w.alloc (.cells _ 43)).alloc (.cells _ 43) = w1 at *
  go_wp2_with (refine wpList_load_row rfl 43 (.tmp 3) rfl w.heap.size rfl 43 (stA (dS cnG cnF false 0) ⟨.slice AC 2 cC, .slice AM 2 cM, .slice AT 2 cT, .slice none 0 0, .slice none 0 0, .slice none 0 0, .slice none 0 0, .slice none 0 0, .slice none 0 0, .slice none 0 0, .slice none 0 0, .slice AOV 2 cOV, .slice ALM 2 cLM, .slice ASH 2 cSH⟩) (0, 0) _ HS.out Tryz.underlying43 rfl (by kernel_rfl) ?_)
  refine (HO.out w1 HB.out).mono ?_
  rintro e w2 ⟨g, l', rfl, hu, hg, hb⟩
  have HU := Lib.hid hu
  have HR2 := Lib.hid (HR.out.call hb)
  have HB2 := Lib.hid (below_call HB.out hb)
  have hs1 : w.heap.size + 1 < w1.heap.size := HR.out.lt
  have hgr : Hid (w.heap.size + 1 < g) := by show _ < _; omega
  have hbs := hb.size
  have hsz : Hid (w1.heap.size ≤ w2.heap.size) := hbs
  have hs0 : Hid (w.heap.size + 1 < w1.heap.size) := hs1
  clear hu hg hb hs1 hbs HR HB HS HO
  go_wp2_with fail
  refine (input2 w1.heap.size g l' w2 HU.out (HT.out w2 HB2.out) hsz.out).mono ?_
  rintro e w3 ⟨rfl, hu, hb⟩
  obtain ⟨bC, dC, bM, dM, bT, dT, bO, dO, bL, dL, bS, dS2, rfl⟩ := dform hu.a
  have HU3 := Lib.hid hu
  have h0 := hs0.out
  have HR3 := Lib.hid (HR2.out.below hb h0)
  have HB3 := Lib.hid (HB2.out.trans (hb.mono (by omega)))
  have HK3 := Lib.hid hu.k
  clear hu hb h0 HU HR2 HB2 HT
  go_wp2_with (first
    | (refine wpList_load_row rfl 43 (.tmp 40) rfl g rfl 110 (stA (dS cnG cnG false 0) ⟨.slice (some ⟨bC, 0, none⟩) 2 dC, .slice (some ⟨bM, 0, none⟩) 2 dM, .slice (some ⟨bT, 0, none⟩) 2 dT, .slice none 0 0, .slice none 0 0, .slice none 0 0, .slice none 0 0, .slice none 0 0, .slice none 0 0, .slice none 0 0, .slice none 0 0, .slice (some ⟨bO, 0, none⟩) 2 dO, .slice (some ⟨bL, 0, none⟩) 2 dL, .slice (some ⟨bS, 0, none⟩) 2 dS2⟩) (0, 0) _ HK3.out Tryz.underlying43 rfl (by kernel_rfl) ?_)
    | (refine wpList_store_rowTo rfl 43 (.tmp 6) (.tmp 41) rfl rfl (w.heap.size + 1) (stA (dS cnG cnG false 0) ⟨.slice (some ⟨bC, 0, none⟩) 2 dC, .slice (some ⟨bM, 0, none⟩) 2 dM, .slice (some ⟨bT, 0, none⟩) 2 dT, .slice none 0 0, .slice none 0 0, .slice none 0 0, .slice none 0 0, .slice none 0 0, .slice none 0 0, .slice none 0 0, .slice none 0 0, .slice (some ⟨bO, 0, none⟩) 2 dO, .slice (some ⟨bL, 0, none⟩) 2 dL, .slice (some ⟨bS, 0, none⟩) 2 dS2⟩) (by kernel_rfl) (by kernel_rfl) 43 zA HR3.out (by kernel_rfl) (by kernel_rfl) (by kernel_rfl) ?_))
  refine bodyPost_ret (results_cell2 rfl _ _ (w.heap.size + 1) 43 (stA (dS cnG cnG false 0) ⟨.slice (some ⟨bC, 0, none⟩) 2 dC, .slice (some ⟨bM, 0, none⟩) 2 dM, .slice (some ⟨bT, 0, none⟩) 2 dT, .slice none 0 0, .slice none 0 0, .slice none 0 0, .slice none 0 0, .slice none 0 0, .slice none 0 0, .slice none 0 0, .slice none 0 0, .slice (some ⟨bO, 0, none⟩) 2 dO, .slice (some ⟨bL, 0, none⟩) 2 dL, .slice (some ⟨bS, 0, none⟩) 2 dS2⟩) (0, 0) _ rfl (row_blk _ HR3.out) Tryz.underlying43 rfl (by kernel_rfl)) rfl ?_
  have h0 := hs0.out
  refine ⟨_, rfl, ?_, row_below _ HB3.out (by omega)⟩
  exact (StO.lower (base := w1.heap.size) ⟨Own.row_keep HU3.out.a.C h0 _, Own.row_keep HU3.out.a.M h0 _, Own.row_keep HU3.out.a.T h0 _, rfl, rfl, rfl, rfl, rfl, rfl, rfl, rfl, Own.row_keep HU3.out.a.OV h0 _, Own.row_keep HU3.out.a.LM h0 _, Own.row_keep HU3.out.a.SH h0 _⟩ (by omega))


end Stn
end Go.Proofs.YtfaofobhmmedmaaGreatDoor
