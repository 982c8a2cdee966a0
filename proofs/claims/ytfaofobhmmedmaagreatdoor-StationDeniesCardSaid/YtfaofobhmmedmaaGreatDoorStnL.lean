/-
  call.collect and call.copied on no message and on one.
-/
import Derived.Test.YtfaofobhmmedmaaGreatDoorStnM
import Derived.Test.YtfaofobhmmedmaaGreatDoorRegB
import Derived.Deep.MidRow
namespace Go.Proofs.YtfaofobhmmedmaaGreatDoor
namespace Stn
set_option linter.unusedSimpArgs false
set_option linter.unusedVariables false
open Go.RowKit Go.Great

structure Ms where
  (k id ac cn : Int) (tok txt : ByteArray)
abbrev msO (x : Ms) : Array Value := msA x.k x.id x.ac x.cn x.tok x.txt
def MsR (r : List Value) (x : Ms) : Prop := r = (msO x).toList
def MsAt (w : World) (v : Value) (xs : List Ms) : Prop := SliceAt MsR 25 w v xs
theorem MsAt.call {w w' : World} {v : Value} {xs : List Ms} (h : MsAt w v xs) (hb : Below w.heap.size w w') : MsAt w' v xs := SliceAt.keep h (Kept.of hb) (fun _ _ h => h)
theorem infoMs : (Tryz.prog.info? 63).map (fun i => (i.zero, i.size, i.bytes)) = some (some (.agg (msA 0 0 0 0 ⟨#[]⟩ ⟨#[]⟩)), 25, 280) := by kernel_rfl
theorem o1_Ms (x : Ms) : ∀ u ∈ (msO x).toList, u.oneCell' = true := by
  intro u hu
  simp [msA] at hu
  rcases hu with rfl | rfl | rfl | rfl | rfl | rfl | rfl | rfl | rfl | rfl | rfl | rfl | rfl | rfl | rfl | rfl | rfl | rfl | rfl | rfl | rfl | rfl | rfl | rfl | rfl <;> rfl

theorem cloneRdg (w : World) : Calls Tryz.prog 128 #[.slice none 0 0] w fun e w' => e = .returned (.slice none 0 0) ∧ w = w' := by
  have hq := fun (W : World) => Lib.run_eql_slice_nil (P := Tryz.prog) W 56 52 none 0 0 0 0 Tryz.underlying56
  go_enter Tryz.func128, Tryz.ntmps128
  go_wp2
  go_ret
  exact ⟨rfl, rfl⟩
theorem clonePer (w : World) : Calls Tryz.prog 124 #[.slice none 0 0] w fun e w' => e = .returned (.slice none 0 0) ∧ w = w' := by
  have hq := fun (W : World) => Lib.run_eql_slice_nil (P := Tryz.prog) W 59 142 none 0 0 0 0 Tryz.underlying59
  go_enter Tryz.func124, Tryz.ntmps124
  go_wp2
  go_ret
  exact ⟨rfl, rfl⟩

set_option maxRecDepth 100000 in
set_option maxHeartbeats 4000000 in
theorem collect0 (A : Option Addr) (c : Nat) (w : World) : Calls Tryz.prog 135 #[.slice A 0 c] w fun e w' => ∃ g, e = .returned (.slice (some ⟨g, 0, none⟩) 0 0) ∧ Own MsR 63 25 w.heap.size w' (.slice (some ⟨g, 0, none⟩) 0 0) [] ∧ Below w.heap.size w w' := by
  obtain ⟨iM, hMi, hMz, hMs, hMb⟩ := info_parts infoMs
  go_enter Tryz.func135, Tryz.ntmps135
  go_wp2_with (at_make; refine wpList_make_own _ rfl _ _ 35 rfl w.heap.size 63 iM _ 25 Tryz.underlying35 hMi hMz hMs .i64 .i64 0 0 rfl rfl rfl (by omega) (by unfold maxLen; omega) (Nat.le_refl _) ?_)
  intro w1 hown hgrow
  have HO : Hid (Own MsR 63 25 w.heap.size w1 (.slice (some ⟨w.heap.size, 0, none⟩) 0 0) []) := Own.made (n := 0) hown
  have HB := Lib.hid (below_none hgrow)
  clear hown hgrow
  go_wp2_with fail
  go_loopg [3, 11] 0 (fun gg s3 s11 wr => s3 = .slice (some ⟨w.heap.size, 0, none⟩) 0 0 ∧ s11 = i 0 ∧ wr = w1)
  case atStart => exact ⟨rfl, rfl, rfl⟩
  case round =>
    obtain ⟨rfl, rfl, rfl⟩ := hrel
    go_wp2_with fail
    go_ret
    exact ⟨_, rfl, HO.out, HB.out⟩

set_option maxRecDepth 100000 in
set_option maxHeartbeats 4000000 in
theorem collect1 (A : Option Addr) (c : Nat) (x : Ms) (w : World) (h : MsAt w (.slice A 1 c) [x]) : Calls Tryz.prog 135 #[.slice A 1 c] w fun e w' => ∃ u, e = .returned u ∧ Own MsR 63 25 w.heap.size w' u [x] ∧ Below w.heap.size w w' := by
  obtain ⟨iM, hMi, hMz, hMs, hMb⟩ := info_parts infoMs
  obtain ⟨b, off, r, rfl, hr, hR, hrow⟩ := SliceAt.at_ h (j := 0) (by simp)
  have hrr : r = (msO x).toList := hR
  subst hrr
  have HR : Hid (∀ W, Below w.heap.size w W → W.rangeAt b off (msO x).toList) := fun W hb j v hj => by
    have := (Kept.of hb) _ _ (hrow j v hj)
    simpa using this
  have HCR := Lib.hid cloneRdg
  have HCP := Lib.hid clonePer
  have HCT := Lib.hid cloneTok
  have HO1 := Lib.hid (o1_Ms x)
  clear hr hR hrow h
  go_enter Tryz.func135, Tryz.ntmps135
  go_wp2_with (at_make; refine wpList_make_own _ rfl _ _ 35 rfl w.heap.size 63 iM _ 25 Tryz.underlying35 hMi hMz hMs .i64 .i64 1 1 rfl rfl rfl (by omega) (by unfold maxLen; omega) (Nat.le_refl _) ?_)
  intro w1 hown hgrow
  have HO : Hid (Own MsR 63 25 w.heap.size w1 (.slice (some ⟨w.heap.size, 0, none⟩) 0 1) []) := Own.made (n := 0) hown
  have HB := Lib.hid (below_none hgrow)
  clear hown hgrow
  go_wp2_with fail
  go_loopg [3, 11] 1 (fun gg s3 s11 wr => (s11 = i 0 ∧ 1 ≤ gg ∧ s3 = .slice (some ⟨w.heap.size, 0, none⟩) 0 1 ∧ wr = w1) ∨ (s11 = i 1 ∧ Hid (Own MsR 63 25 w.heap.size wr s3 [x] ∧ Below w.heap.size w wr)))
  case atStart => exact .inl ⟨rfl, by omega, rfl, rfl⟩
  case round =>
    rcases hrel with ⟨rfl, hg, rfl, rfl⟩ | ⟨rfl, HF⟩
    · have HZ := Lib.hid (Blk.new wr 63 (msA 0 0 0 0 ⟨#[]⟩ ⟨#[]⟩))
      have HB2 := Lib.hid (row_below (msO x) (below_new wr (.cells (msA 0 0 0 0 ⟨#[]⟩ ⟨#[]⟩) 63)) (Nat.le_refl wr.heap.size))
      have HK := Lib.hid (row_blk (msO x) HZ.out)
      go_upto_region 5 with (first
        | (refine wpList_load_mid rfl 63 (.tmp 13) rfl b off rfl (msO x).toList _ (HR.out _ HB.out) Tryz.underlying63 rfl (by kernel_rfl) ?_)
        | (refine wpList_store_rowTo rfl 63 (.tmp 5) (.tmp 14) rfl rfl wr.heap.size (msO x) (by kernel_rfl) (by kernel_rfl) 63 (msA 0 0 0 0 ⟨#[]⟩ ⟨#[]⟩) HZ.out (by kernel_rfl) (by kernel_rfl) (by kernel_rfl) ?_))
      generalize (wr.alloc (.cells _ 63)).setRow wr.heap.size (msO x) = wy at *
      have HOY := Lib.hid (HO.out.call HB2.out)
      have HBY := Lib.hid (below_call HB.out HB2.out)
      have hgy : Hid (wr.heap.size < wy.heap.size) := HK.out.lt
      clear HZ HB2 HB HO
      have kc := HK.out.cell
      have kf := HK.out.frozen
      have e1 : Hid (wy.setCell ⟨wr.heap.size, 12, none⟩ (.slice none 0 0) = wy) := setCell_self (HK.out.cell 12)
      have e2 : Hid (wy.setCell ⟨wr.heap.size, 23, none⟩ (.slice none 0 0) = wy) := setCell_self (HK.out.cell 23)
      have e3 : Hid (wy.setCell ⟨wr.heap.size, 24, none⟩ (.slice none 0 0) = wy) := setCell_self (HK.out.cell 24)
      generalize wr.heap.size = gB at *
      go_wp2_with fail
      refine (HCR.out _).mono ?_
      rintro e w5 ⟨rfl, rfl⟩
      go_upto_region 6 with (fail)
      rw [e1.out]
      go_wp2_with fail
      refine (HCP.out _).mono ?_
      rintro e w5 ⟨rfl, rfl⟩
      go_upto_region 7 with (fail)
      rw [e2.out]
      go_wp2_with fail
      refine (HCT.out _).mono ?_
      rintro e w5 ⟨rfl, rfl⟩
      go_upto_region 8 with (fail)
      rw [e3.out]
      have HW := Lib.hid (Blk.new wy 63 (msO x))
      have HOW := Lib.hid (HOY.out.call (below_new wy (.cells (msO x) 63)))
      have HBW := Lib.hid (below_alloc HBY.out (.cells (msO x) 63))
      go_wp2_with (first
        | (refine wpList_load_row rfl 63 (.tmp 5) rfl gB rfl 63 (msO x) (0, 0) _ HK.out Tryz.underlying63 rfl (by kernel_rfl) ?_)
        | (refine wpList_buildSlice rfl 35 63 1 _ rfl (msO x) iM _ Tryz.underlying35 hMi hMz (by rw [hMs]; decide) (by rw [hMs]; decide) (by rw [hMs]; kernel_rfl) ?_)
        | (at_builtin; refine wpList_grow rfl (.tmp 29) (.tmp 31) 35 rfl iM _ 280 Tryz.underlying35 hMi hMz hMs hMb rfl (by omega) rfl HOW.out wy.heap.size x (msO x) 63 rfl HW.out rfl rfl HO1.out (by simp) (by omega) HBW.out.size ?_))
      rintro v' w6 hown6 - hbel6 ⟨A6, n6, c6, rfl⟩
      have HX : Hid (Own MsR 63 25 w.heap.size w6 (.slice A6 n6 c6) [x] ∧ Below w.heap.size w w6) := ⟨hown6, HBW.out.trans hbel6⟩
      clear hown6 hbel6
      go_wp2_with fail
      go_roundg 0
      case measure => omega
      case rel => exact .inr ⟨by rfl, HX⟩
    · go_wp2_with fail
      go_ret
      exact ⟨_, rfl, HF.out.1, HF.out.2⟩
theorem own_sl {α : Type} {R : List Value → α → Prop} {e : TypeId} {size base : Nat} {w : World} {v : Value} {xs : List α} (h : Own R e size base w v xs) : ∃ A n c, v = .slice A n c := by
  obtain ⟨rs, ⟨h1, h2⟩, h3⟩ := h
  rcases h2 with ⟨h0, -⟩ | ⟨g, cap, cur, r1, -⟩
  · exact ⟨_, _, _, h0⟩
  · exact ⟨_, _, _, r1⟩
theorem MsAt.nil_form {w : World} {v : Value} (h : MsAt w v []) : ∃ A c, v = .slice A 0 c := by
  obtain ⟨A, c, rfl, -, -⟩ := SliceAt.form h
  exact ⟨A, c, rfl⟩
theorem collectL (v : Value) (xs : List Ms) (w : World) (h : MsAt w v xs) (hl : xs.length ≤ 1) : Calls Tryz.prog 135 #[v] w fun e w' => ∃ u, e = .returned u ∧ Own MsR 63 25 w.heap.size w' u xs ∧ Below w.heap.size w w' := by
  match xs, hl with
  | [], _ =>
    obtain ⟨A, c, rfl⟩ := h.nil_form
    refine (collect0 A c w).mono ?_
    rintro e w' ⟨g, rfl, h1, h2⟩
    exact ⟨_, rfl, h1, h2⟩
  | [x], _ =>
    obtain ⟨A, c, rfl, -, -⟩ := SliceAt.form h
    exact collect1 A c x w h

set_option maxRecDepth 100000 in
set_option maxHeartbeats 4000000 in
theorem copiedL (nx tmo rt due tr : Int) (Q O S : Value) (xq xo xs : List Ms) (w : World) (hq : MsAt w Q xq) (ho : MsAt w O xo) (hs : MsAt w S xs) (lq : xq.length ≤ 1) (lo : xo.length ≤ 1) (ls : xs.length ≤ 1) :
    Calls Tryz.prog 134 #[.agg (enA nx tmo rt Q O due tr S)] w fun e w' => ∃ q o s, e = .returned (.agg (enA nx tmo rt q o due tr s)) ∧ Own MsR 63 25 w.heap.size w' q xq ∧ Own MsR 63 25 w.heap.size w' o xo ∧ Own MsR 63 25 w.heap.size w' s xs ∧ Below w.heap.size w w' := by
  have HQ : Hid (∀ W, Below w.heap.size w W → _) := fun W hb => collectL Q xq W (hq.call hb) lq
  have HO : Hid (∀ W, Below w.heap.size w W → _) := fun W hb => collectL O xo W (ho.call hb) lo
  have HS : Hid (∀ W, Below w.heap.size w W → _) := fun W hb => collectL S xs W (hs.call hb) ls
  clear hq ho hs lq lo ls
  have HB := Lib.hid (below_alloc (below_new w (.cells (enA nx tmo rt Q O due tr S) 37)) (.cells (enA 0 0 0 (.slice none 0 0) (.slice none 0 0) 0 0 (.slice none 0 0)) 37))
  have HK := Lib.hid ((Blk.new w 37 (enA nx tmo rt Q O due tr S)).alloc (.cells (enA 0 0 0 (.slice none 0 0) (.slice none 0 0) 0 0 (.slice none 0 0)) 37))
  have HZ := Lib.hid (Blk.new (w.alloc (.cells (enA nx tmo rt Q O due tr S) 37)) 37 (enA 0 0 0 (.slice none 0 0) (.slice none 0 0) 0 0 (.slice none 0 0)))
  have hsz : (w.alloc (.cells (enA nx tmo rt Q O due tr S) 37)).heap.size = w.heap.size + 1 := by simp
  rw [hsz] at HZ
  clear hsz
  go_enter Tryz.func134, Tryz.ntmps134
  go_upto_region 1 with (fail)
  generalize (w.alloc (.cells _ 37)).alloc (.cells _ 37) = w0 at *
  go_cut [] (fun wd => Hid (∃ q o s, Blk wd w.heap.size 37 (enA nx tmo rt q o due tr s) ∧ Blk wd (w.heap.size + 1) 37 (enA 0 0 0 (.slice none 0 0) (.slice none 0 0) 0 0 (.slice none 0 0)) ∧ Own MsR 63 25 (w.heap.size + 2) wd q xq ∧ Own MsR 63 25 (w.heap.size + 2) wd o xo ∧ Own MsR 63 25 (w.heap.size + 2) wd s xs ∧ Below w.heap.size w wd))
  case first =>
    refine RegB.region 15 w w.heap.size w.heap.size 37 (fun L vals => enA nx tmo rt (if L 10 = true then vals 2 else Q) (if L 12 = true then vals 5 else O) due tr (if L 14 = true then vals 8 else S)) (fun k => match k with | 0 => fun v _ => v = .pointer (some ⟨w.heap.size, 3, none⟩) | 1 => fun v _ => v = Q | 2 => fun v W => Own MsR 63 25 (w.heap.size + 2) W v xq | 3 => fun v _ => v = .pointer (some ⟨w.heap.size, 4, none⟩) | 4 => fun v _ => v = O | 5 => fun v W => Own MsR 63 25 (w.heap.size + 2) W v xo | 6 => fun v _ => v = .pointer (some ⟨w.heap.size, 7, none⟩) | 7 => fun v _ => v = S | 8 => fun v W => Own MsR 63 25 (w.heap.size + 2) W v xs | 9 => fun v _ => v = .pointer (some ⟨w.heap.size, 3, none⟩) | 10 => fun _ _ => True | 11 => fun v _ => v = .pointer (some ⟨w.heap.size, 4, none⟩) | 12 => fun _ _ => True | 13 => fun v _ => v = .pointer (some ⟨w.heap.size, 7, none⟩) | 14 => fun _ _ => True | _ => fun _ _ => True) (by kernel_rfl) (by kernel_rfl) (Reg4.in_of (n := 16) (by kernel_rfl) rfl) (HB.out) (HK.out) ?_ ?_ ?_
    · intro k v W W' hbt h
      have hk : k = 0 ∨ k = 1 ∨ k = 2 ∨ k = 3 ∨ k = 4 ∨ k = 5 ∨ k = 6 ∨ k = 7 ∨ k = 8 ∨ k = 9 ∨ k = 10 ∨ k = 11 ∨ k = 12 ∨ k = 13 ∨ k = 14 ∨ 15 ≤ k := by omega
      rcases hk with rfl | rfl | rfl | rfl | rfl | rfl | rfl | rfl | rfl | rfl | rfl | rfl | rfl | rfl | rfl | hk
      · exact h
      · exact h
      · exact hbt.own h (by omega)
      · exact h
      · exact h
      · exact hbt.own h (by omega)
      · exact h
      · exact h
      · exact hbt.own h (by omega)
      · exact h
      · exact h
      · exact h
      · exact h
      · exact h
      · exact h
      · split at h <;> first | omega | trivial
    · intro idx o hj ho L vals a' w' hLi hb hbt hk hop hno hwt
      have hj' : idx = 0 ∨ idx = 1 ∨ idx = 2 ∨ idx = 3 ∨ idx = 4 ∨ idx = 5 ∨ idx = 6 ∨ idx = 7 ∨ idx = 8 ∨ idx = 9 ∨ idx = 10 ∨ idx = 11 ∨ idx = 12 ∨ idx = 13 ∨ idx = 14 := by omega
      clear hj
      rcases hj' with rfl | rfl | rfl | rfl | rfl | rfl | rfl | rfl | rfl | rfl | rfl | rfl | rfl | rfl | rfl
      · obtain rfl := Option.some.inj ho
        have h1 : a'.tmps[1]?.getD undef = _ := (Array.getD_eq_getD_getElem? ..).symm.trans (hop 1 (by simp [Op.operands, Call.operands]))
        have nl10 : L 10 = false := hno 10 (by kernel_rfl)
        have nl12 : L 12 = false := hno 12 (by kernel_rfl)
        have nl14 : L 14 = false := hno 14 (by kernel_rfl)
        refine Reg4.StepOk.mono (R := fun v W => v = .pointer (some ⟨w.heap.size, 3, none⟩) ∧ W = w') ?_ (fun v W h => ?_)
        · go_simp
          all_goals (try exact ⟨rfl, rfl⟩)
        · obtain ⟨rfl, rfl⟩ := h
          exact ⟨hb, by simpa [nl10, nl12, nl14] using hk, rfl, RegB.But.refl _ _⟩
      · obtain rfl := Option.some.inj ho
        obtain ⟨lo3, eo3, fo3⟩ := hop 3 (by simp [Op.operands, Call.operands])
        have h3 : a'.tmps[3]?.getD undef = .pointer (some ⟨w.heap.size, 3, none⟩) := (Array.getD_eq_getD_getElem? ..).symm.trans (eo3.trans fo3)
        clear eo3 fo3
        have nl10 : L 10 = false := hno 10 (by kernel_rfl)
        have nl12 : L 12 = false := hno 12 (by kernel_rfl)
        have nl14 : L 14 = false := hno 14 (by kernel_rfl)
        have kc := hk.cell
        simp only [nl10, nl12, nl14, Bool.false_eq_true, if_false] at kc
        refine Reg4.StepOk.mono (R := fun v W => v = Q ∧ W = w') ?_ (fun v W h => ?_)
        · go_simp
          all_goals (try exact ⟨rfl, rfl⟩)
        · obtain ⟨rfl, rfl⟩ := h
          exact ⟨hb, by simpa [nl10, nl12, nl14] using hk, rfl, RegB.But.refl _ _⟩
      · obtain rfl := Option.some.inj ho
        obtain ⟨lo4, eo4, fo4⟩ := hop 4 (by simp [Op.operands, Call.operands])
        have h4 : a'.tmps[4]?.getD undef = Q := (Array.getD_eq_getD_getElem? ..).symm.trans (eo4.trans fo4)
        clear eo4 fo4
        have nl10 : L 10 = false := hno 10 (by kernel_rfl)
        have nl12 : L 12 = false := hno 12 (by kernel_rfl)
        have nl14 : L 14 = false := hno 14 (by kernel_rfl)
        refine Reg4.StepOk.mono (R := fun v W => (fun v W => Own MsR 63 25 (w.heap.size + 2) W v xq) v W ∧ Hid (Below w'.heap.size w' W)) ?_ (fun v W h => ?_)
        · go_simp
          refine (HQ.out w' hb).mono ?_
          rintro e w5 ⟨u, rfl, hown, hbc⟩
          exact ⟨_, rfl, hown.lower (by have := hbt.1; have := HZ.out.lt; omega), hbc⟩
        · obtain ⟨hf, hbc⟩ := h
          exact ⟨hb.trans (hbc.out.mono hb.size), by simpa [nl10, nl12, nl14] using hk.call hbc.out, hf, RegB.But.of hbc.out⟩
      · obtain rfl := Option.some.inj ho
        have h1 : a'.tmps[1]?.getD undef = _ := (Array.getD_eq_getD_getElem? ..).symm.trans (hop 1 (by simp [Op.operands, Call.operands]))
        have nl10 : L 10 = false := hno 10 (by kernel_rfl)
        have nl12 : L 12 = false := hno 12 (by kernel_rfl)
        have nl14 : L 14 = false := hno 14 (by kernel_rfl)
        refine Reg4.StepOk.mono (R := fun v W => v = .pointer (some ⟨w.heap.size, 4, none⟩) ∧ W = w') ?_ (fun v W h => ?_)
        · go_simp
          all_goals (try exact ⟨rfl, rfl⟩)
        · obtain ⟨rfl, rfl⟩ := h
          exact ⟨hb, by simpa [nl10, nl12, nl14] using hk, rfl, RegB.But.refl _ _⟩
      · obtain rfl := Option.some.inj ho
        obtain ⟨lo6, eo6, fo6⟩ := hop 6 (by simp [Op.operands, Call.operands])
        have h6 : a'.tmps[6]?.getD undef = .pointer (some ⟨w.heap.size, 4, none⟩) := (Array.getD_eq_getD_getElem? ..).symm.trans (eo6.trans fo6)
        clear eo6 fo6
        have nl10 : L 10 = false := hno 10 (by kernel_rfl)
        have nl12 : L 12 = false := hno 12 (by kernel_rfl)
        have nl14 : L 14 = false := hno 14 (by kernel_rfl)
        have kc := hk.cell
        simp only [nl10, nl12, nl14, Bool.false_eq_true, if_false] at kc
        refine Reg4.StepOk.mono (R := fun v W => v = O ∧ W = w') ?_ (fun v W h => ?_)
        · go_simp
          all_goals (try exact ⟨rfl, rfl⟩)
        · obtain ⟨rfl, rfl⟩ := h
          exact ⟨hb, by simpa [nl10, nl12, nl14] using hk, rfl, RegB.But.refl _ _⟩
      · obtain rfl := Option.some.inj ho
        obtain ⟨lo7, eo7, fo7⟩ := hop 7 (by simp [Op.operands, Call.operands])
        have h7 : a'.tmps[7]?.getD undef = O := (Array.getD_eq_getD_getElem? ..).symm.trans (eo7.trans fo7)
        clear eo7 fo7
        have nl10 : L 10 = false := hno 10 (by kernel_rfl)
        have nl12 : L 12 = false := hno 12 (by kernel_rfl)
        have nl14 : L 14 = false := hno 14 (by kernel_rfl)
        refine Reg4.StepOk.mono (R := fun v W => (fun v W => Own MsR 63 25 (w.heap.size + 2) W v xo) v W ∧ Hid (Below w'.heap.size w' W)) ?_ (fun v W h => ?_)
        · go_simp
          refine (HO.out w' hb).mono ?_
          rintro e w5 ⟨u, rfl, hown, hbc⟩
          exact ⟨_, rfl, hown.lower (by have := hbt.1; have := HZ.out.lt; omega), hbc⟩
        · obtain ⟨hf, hbc⟩ := h
          exact ⟨hb.trans (hbc.out.mono hb.size), by simpa [nl10, nl12, nl14] using hk.call hbc.out, hf, RegB.But.of hbc.out⟩
      · obtain rfl := Option.some.inj ho
        have h1 : a'.tmps[1]?.getD undef = _ := (Array.getD_eq_getD_getElem? ..).symm.trans (hop 1 (by simp [Op.operands, Call.operands]))
        have nl10 : L 10 = false := hno 10 (by kernel_rfl)
        have nl12 : L 12 = false := hno 12 (by kernel_rfl)
        have nl14 : L 14 = false := hno 14 (by kernel_rfl)
        refine Reg4.StepOk.mono (R := fun v W => v = .pointer (some ⟨w.heap.size, 7, none⟩) ∧ W = w') ?_ (fun v W h => ?_)
        · go_simp
          all_goals (try exact ⟨rfl, rfl⟩)
        · obtain ⟨rfl, rfl⟩ := h
          exact ⟨hb, by simpa [nl10, nl12, nl14] using hk, rfl, RegB.But.refl _ _⟩
      · obtain rfl := Option.some.inj ho
        obtain ⟨lo9, eo9, fo9⟩ := hop 9 (by simp [Op.operands, Call.operands])
        have h9 : a'.tmps[9]?.getD undef = .pointer (some ⟨w.heap.size, 7, none⟩) := (Array.getD_eq_getD_getElem? ..).symm.trans (eo9.trans fo9)
        clear eo9 fo9
        have nl10 : L 10 = false := hno 10 (by kernel_rfl)
        have nl12 : L 12 = false := hno 12 (by kernel_rfl)
        have nl14 : L 14 = false := hno 14 (by kernel_rfl)
        have kc := hk.cell
        simp only [nl10, nl12, nl14, Bool.false_eq_true, if_false] at kc
        refine Reg4.StepOk.mono (R := fun v W => v = S ∧ W = w') ?_ (fun v W h => ?_)
        · go_simp
          all_goals (try exact ⟨rfl, rfl⟩)
        · obtain ⟨rfl, rfl⟩ := h
          exact ⟨hb, by simpa [nl10, nl12, nl14] using hk, rfl, RegB.But.refl _ _⟩
      · obtain rfl := Option.some.inj ho
        obtain ⟨lo10, eo10, fo10⟩ := hop 10 (by simp [Op.operands, Call.operands])
        have h10 : a'.tmps[10]?.getD undef = S := (Array.getD_eq_getD_getElem? ..).symm.trans (eo10.trans fo10)
        clear eo10 fo10
        have nl14 : L 14 = false := hno 14 (by kernel_rfl)
        refine Reg4.StepOk.mono (R := fun v W => (fun v W => Own MsR 63 25 (w.heap.size + 2) W v xs) v W ∧ Hid (Below w'.heap.size w' W)) ?_ (fun v W h => ?_)
        · go_simp
          refine (HS.out w' hb).mono ?_
          rintro e w5 ⟨u, rfl, hown, hbc⟩
          exact ⟨_, rfl, hown.lower (by have := hbt.1; have := HZ.out.lt; omega), hbc⟩
        · obtain ⟨hf, hbc⟩ := h
          exact ⟨hb.trans (hbc.out.mono hb.size), by simpa [nl14] using hk.call hbc.out, hf, RegB.But.of hbc.out⟩
      · obtain rfl := Option.some.inj ho
        have h1 : a'.tmps[1]?.getD undef = _ := (Array.getD_eq_getD_getElem? ..).symm.trans (hop 1 (by simp [Op.operands, Call.operands]))
        have nl10 : L 10 = false := hno 10 (by kernel_rfl)
        have nl12 : L 12 = false := hno 12 (by kernel_rfl)
        have nl14 : L 14 = false := hno 14 (by kernel_rfl)
        refine Reg4.StepOk.mono (R := fun v W => v = .pointer (some ⟨w.heap.size, 3, none⟩) ∧ W = w') ?_ (fun v W h => ?_)
        · go_simp
          all_goals (try exact ⟨rfl, rfl⟩)
        · obtain ⟨rfl, rfl⟩ := h
          exact ⟨hb, by simpa [nl10, nl12, nl14] using hk, rfl, RegB.But.refl _ _⟩
      · obtain rfl := Option.some.inj ho
        obtain ⟨lo5, eo5, fo5⟩ := hop 5 (by simp [Op.operands, Call.operands])
        obtain ⟨A5, n5, c5, es5⟩ := own_sl fo5
        have h5 : a'.tmps[5]?.getD undef = .slice A5 n5 c5 := (Array.getD_eq_getD_getElem? ..).symm.trans (eo5.trans es5)
        have HS5 := Lib.hid es5
        clear es5
        clear eo5
        obtain ⟨lo12, eo12, fo12⟩ := hop 12 (by simp [Op.operands, Call.operands])
        have h12 : a'.tmps[12]?.getD undef = .pointer (some ⟨w.heap.size, 3, none⟩) := (Array.getD_eq_getD_getElem? ..).symm.trans (eo12.trans fo12)
        clear eo12 fo12
        have nl10 : L 10 = false := hLi
        have nl12 : L 12 = false := hno 12 (by kernel_rfl)
        have nl14 : L 14 = false := hno 14 (by kernel_rfl)
        have kc := hk.cell
        have kf := hk.frozen
        refine Reg4.StepOk.mono (R := fun v W => W = w'.setCell ⟨w.heap.size, 3, none⟩ (vals 2)) ?_ (fun v W h => ?_)
        · go_simp
          rw [HS5.out]
          simp only [Reg4.StepOk]
        · subst h
          rw [stSet hk rfl]
          refine ⟨row_below _ hb (by first | omega | simp), ?_, trivial, RegB.But.row _ _ _⟩
          have hq := row_blk (Array.setIfInBounds ((fun L vals => enA nx tmo rt (if L 10 = true then vals 2 else Q) (if L 12 = true then vals 5 else O) due tr (if L 14 = true then vals 8 else S)) L vals) 3 ((vals 2))) hk
          simpa [nl10, nl12, nl14, lo5, lo12] using hq
      · obtain rfl := Option.some.inj ho
        have h1 : a'.tmps[1]?.getD undef = _ := (Array.getD_eq_getD_getElem? ..).symm.trans (hop 1 (by simp [Op.operands, Call.operands]))
        have nl12 : L 12 = false := hno 12 (by kernel_rfl)
        have nl14 : L 14 = false := hno 14 (by kernel_rfl)
        refine Reg4.StepOk.mono (R := fun v W => v = .pointer (some ⟨w.heap.size, 4, none⟩) ∧ W = w') ?_ (fun v W h => ?_)
        · go_simp
          all_goals (try exact ⟨rfl, rfl⟩)
        · obtain ⟨rfl, rfl⟩ := h
          exact ⟨hb, by simpa [nl12, nl14] using hk, rfl, RegB.But.refl _ _⟩
      · obtain rfl := Option.some.inj ho
        obtain ⟨lo8, eo8, fo8⟩ := hop 8 (by simp [Op.operands, Call.operands])
        obtain ⟨A8, n8, c8, es8⟩ := own_sl fo8
        have h8 : a'.tmps[8]?.getD undef = .slice A8 n8 c8 := (Array.getD_eq_getD_getElem? ..).symm.trans (eo8.trans es8)
        have HS8 := Lib.hid es8
        clear es8
        clear eo8
        obtain ⟨lo13, eo13, fo13⟩ := hop 13 (by simp [Op.operands, Call.operands])
        have h13 : a'.tmps[13]?.getD undef = .pointer (some ⟨w.heap.size, 4, none⟩) := (Array.getD_eq_getD_getElem? ..).symm.trans (eo13.trans fo13)
        clear eo13 fo13
        have nl12 : L 12 = false := hLi
        have nl14 : L 14 = false := hno 14 (by kernel_rfl)
        have kc := hk.cell
        have kf := hk.frozen
        refine Reg4.StepOk.mono (R := fun v W => W = w'.setCell ⟨w.heap.size, 4, none⟩ (vals 5)) ?_ (fun v W h => ?_)
        · go_simp
          rw [HS8.out]
          simp only [Reg4.StepOk]
        · subst h
          rw [stSet hk rfl]
          refine ⟨row_below _ hb (by first | omega | simp), ?_, trivial, RegB.But.row _ _ _⟩
          have hq := row_blk (Array.setIfInBounds ((fun L vals => enA nx tmo rt (if L 10 = true then vals 2 else Q) (if L 12 = true then vals 5 else O) due tr (if L 14 = true then vals 8 else S)) L vals) 4 ((vals 5))) hk
          simpa [nl12, nl14, lo8, lo13] using hq
      · obtain rfl := Option.some.inj ho
        have h1 : a'.tmps[1]?.getD undef = _ := (Array.getD_eq_getD_getElem? ..).symm.trans (hop 1 (by simp [Op.operands, Call.operands]))
        have nl14 : L 14 = false := hno 14 (by kernel_rfl)
        refine Reg4.StepOk.mono (R := fun v W => v = .pointer (some ⟨w.heap.size, 7, none⟩) ∧ W = w') ?_ (fun v W h => ?_)
        · go_simp
          all_goals (try exact ⟨rfl, rfl⟩)
        · obtain ⟨rfl, rfl⟩ := h
          exact ⟨hb, by simpa [nl14] using hk, rfl, RegB.But.refl _ _⟩
      · obtain rfl := Option.some.inj ho
        obtain ⟨lo11, eo11, fo11⟩ := hop 11 (by simp [Op.operands, Call.operands])
        obtain ⟨A11, n11, c11, es11⟩ := own_sl fo11
        have h11 : a'.tmps[11]?.getD undef = .slice A11 n11 c11 := (Array.getD_eq_getD_getElem? ..).symm.trans (eo11.trans es11)
        have HS11 := Lib.hid es11
        clear es11
        clear eo11
        obtain ⟨lo14, eo14, fo14⟩ := hop 14 (by simp [Op.operands, Call.operands])
        have h14 : a'.tmps[14]?.getD undef = .pointer (some ⟨w.heap.size, 7, none⟩) := (Array.getD_eq_getD_getElem? ..).symm.trans (eo14.trans fo14)
        clear eo14 fo14
        have nl14 : L 14 = false := hLi
        have kc := hk.cell
        have kf := hk.frozen
        refine Reg4.StepOk.mono (R := fun v W => W = w'.setCell ⟨w.heap.size, 7, none⟩ (vals 8)) ?_ (fun v W h => ?_)
        · go_simp
          rw [HS11.out]
          simp only [Reg4.StepOk]
        · subst h
          rw [stSet hk rfl]
          refine ⟨row_below _ hb (by first | omega | simp), ?_, trivial, RegB.But.row _ _ _⟩
          have hq := row_blk (Array.setIfInBounds ((fun L vals => enA nx tmo rt (if L 10 = true then vals 2 else Q) (if L 12 = true then vals 5 else O) due tr (if L 14 = true then vals 8 else S)) L vals) 7 ((vals 8))) hk
          simpa [nl14, lo11, lo14] using hq
    · intro L vals w' hall hb hbt hk hv
      have hv0 : (fun v _ => v = .pointer (some ⟨w.heap.size, 3, none⟩)) (vals 0) w' := hv 0 (by omega)
      have hv1 : (fun v _ => v = Q) (vals 1) w' := hv 1 (by omega)
      have hv2 : (fun v W => Own MsR 63 25 (w.heap.size + 2) W v xq) (vals 2) w' := hv 2 (by omega)
      have hv3 : (fun v _ => v = .pointer (some ⟨w.heap.size, 4, none⟩)) (vals 3) w' := hv 3 (by omega)
      have hv4 : (fun v _ => v = O) (vals 4) w' := hv 4 (by omega)
      have hv5 : (fun v W => Own MsR 63 25 (w.heap.size + 2) W v xo) (vals 5) w' := hv 5 (by omega)
      have hv6 : (fun v _ => v = .pointer (some ⟨w.heap.size, 7, none⟩)) (vals 6) w' := hv 6 (by omega)
      have hv7 : (fun v _ => v = S) (vals 7) w' := hv 7 (by omega)
      have hv8 : (fun v W => Own MsR 63 25 (w.heap.size + 2) W v xs) (vals 8) w' := hv 8 (by omega)
      have hv9 : (fun v _ => v = .pointer (some ⟨w.heap.size, 3, none⟩)) (vals 9) w' := hv 9 (by omega)
      have hv11 : (fun v _ => v = .pointer (some ⟨w.heap.size, 4, none⟩)) (vals 11) w' := hv 11 (by omega)
      have hv13 : (fun v _ => v = .pointer (some ⟨w.heap.size, 7, none⟩)) (vals 13) w' := hv 13 (by omega)
      simp only [hall 10 (by omega), hall 12 (by omega), hall 14 (by omega), if_true] at hk
      simp only [Reg4.puts, Reg4.dstOf, List.range, List.range.loop, if_true, List.drop_succ_cons, List.drop_zero, hv0, hv1, hv3, hv4, hv6, hv7, hv9, hv11, hv13]
      clear hv hall hv0 hv1 hv3 hv4 hv6 hv7 hv9 hv11 hv13
      simp [Act.put]
      go_wp2_with fail
      go_meet
      exact ⟨vals 2, vals 5, vals 8, hk, hbt.blk HZ.out (by omega), hv2, hv5, hv8, hb⟩
  case rest =>
    obtain ⟨q, o, s, hk, hz, h1, h2, h3, hb⟩ := hcut.out
    clear hcut
    obtain ⟨Aq, nq, cq, rfl⟩ := own_sl h1
    obtain ⟨Ao, no, co, rfl⟩ := own_sl h2
    obtain ⟨As, ns, cs, rfl⟩ := own_sl h3
    have HK := Lib.hid hk
    have HZ := Lib.hid hz
    have HB := Lib.hid hb
    have H1 := Lib.hid h1
    have H2 := Lib.hid h2
    have H3 := Lib.hid h3
    clear hk hz hb h1 h2 h3
    go_wp2_with (first
      | (refine wpList_load_row rfl 37 (.tmp 1) rfl w.heap.size rfl 37 (enA nx tmo rt (.slice Aq nq cq) (.slice Ao no co) due tr (.slice As ns cs)) (0, 0) _ HK.out Tryz.underlying37 rfl (by kernel_rfl) ?_)
      | (refine wpList_store_rowTo rfl 37 (.tmp 2) (.tmp 15) rfl rfl (w.heap.size + 1) (enA nx tmo rt (.slice Aq nq cq) (.slice Ao no co) due tr (.slice As ns cs)) (by kernel_rfl) (by kernel_rfl) 37 (enA 0 0 0 (.slice none 0 0) (.slice none 0 0) 0 0 (.slice none 0 0)) HZ.out (by kernel_rfl) (by kernel_rfl) (by kernel_rfl) ?_))
    refine bodyPost_ret (results_cell_row rfl _ _ (w.heap.size + 1) 37 (enA nx tmo rt (.slice Aq nq cq) (.slice Ao no co) due tr (.slice As ns cs)) (0, 0) _ rfl (row_blk _ HZ.out) Tryz.underlying37 rfl (by kernel_rfl)) rfl ?_
    have P1 := (Own.row_keep H1.out (show w.heap.size + 1 < w.heap.size + 2 by omega) (enA nx tmo rt (.slice Aq nq cq) (.slice Ao no co) due tr (.slice As ns cs))).lower (show w.heap.size ≤ w.heap.size + 2 by omega)
    have P2 := (Own.row_keep H2.out (show w.heap.size + 1 < w.heap.size + 2 by omega) (enA nx tmo rt (.slice Aq nq cq) (.slice Ao no co) due tr (.slice As ns cs))).lower (show w.heap.size ≤ w.heap.size + 2 by omega)
    have P3 := (Own.row_keep H3.out (show w.heap.size + 1 < w.heap.size + 2 by omega) (enA nx tmo rt (.slice Aq nq cq) (.slice Ao no co) due tr (.slice As ns cs))).lower (show w.heap.size ≤ w.heap.size + 2 by omega)
    exact ⟨_, _, _, rfl, P1, P2, P3, row_below _ HB.out (by omega)⟩
end Stn
end Go.Proofs.YtfaofobhmmedmaaGreatDoor
