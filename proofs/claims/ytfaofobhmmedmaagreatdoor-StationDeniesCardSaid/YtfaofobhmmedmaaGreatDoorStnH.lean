/-
  The example of the chapter holds; the walk of StationNews.
-/
import Derived.Test.YtfaofobhmmedmaaGreatDoorStnT
import Derived.Test.YtfaofobhmmedmaaGreatDoorStnQ
namespace Go.Proofs.YtfaofobhmmedmaaGreatDoor
namespace Stn
set_option linter.unusedSimpArgs false
set_option linter.unusedVariables false
open Go.RowKit Go.Great

theorem new1 : newR ⟨#[83]⟩ 1 100000 [0] = (s1, 0) := by
  have h : newE ⟨#[83]⟩ 1 100000 [0] = 0 := by decide
  unfold newR
  rw [if_pos h]
  rfl
theorem ints_blk {w : World} {g : Nat} (h : Blk w g 3 #[i 0]) : IntsAt w (.slice (some ⟨g, 0, none⟩) 1 1) [0] := by
  refine ⟨some ⟨g, 0, none⟩, 1, rfl, Nat.le_refl _, (by unfold maxLen; show (1 : Nat) ≤ _; omega), (fun h => by cases h), fun j y hy => ?_⟩
  have hj : j = 0 := by
    rcases j with _ | j
    · rfl
    · simp at hy
  subst hj
  obtain rfl := Option.some.inj hy
  refine ⟨g, 0, [i 0], rfl, rfl, rfl, fun o u hu => ?_⟩
  have := blk_cells h o u hu
  rw [Addr.add_lit] at this
  simpa using this

set_option maxRecDepth 100000 in
set_option maxHeartbeats 4000000 in
theorem example1 (w : World) : Calls Tryz.prog 6 #[] w fun e w' => e = .returned (.bool true) ∧ Below w.heap.size w w' := by
  obtain ⟨iI, hIi, hIz, hIs, hIb⟩ := info_parts infoI
  have HN := Lib.hid (fun A n k W h => stationNew ⟨#[83]⟩ 1 100000 A n k [0] W h (by unfold maxLen; decide))
  have HW := Lib.hid (Blk.new w 3 #[i 0])
  have HB := Lib.hid (below_new w (.cells #[i 0] 3))
  go_enter Tryz.func6, Tryz.ntmps6
  go_wp2_with (refine wpList_buildSlice rfl 22 3 1 _ rfl #[i 0] iI _ Tryz.underlying22 hIi hIz (by rw [hIs]; decide) (by rw [hIs]; decide) (by rw [hIs]; kernel_rfl) ?_)
  refine (HN.out _ _ _ _ (ints_blk HW.out)).mono ?_
  rw [new1]
  rintro e w1 ⟨l, rfl, hl, hb⟩
  obtain ⟨AC, cC, AM, cM, AT, cT, AP, cP, ALT, cLT, ACA, cCA, ARE, cRE, AIT, cIT, AQ, cQ, AO, cO, AS, cS, AOV, cOV, ALM, cLM, ASH, cSH, rfl⟩ := forms hl
  have HL := Lib.hid hl
  have HBx := Lib.hid (below_call HB.out hb)
  clear hl hb HB HW
  have HB := HBx
  clear HBx
  have HZ := Lib.hid (Blk.new w1 43 zA)
  have HB2 := Lib.hid (row_below (stA s1 ⟨.slice AC 1 cC, .slice AM 1 cM, .slice AT 1 cT, .slice AP 0 cP, .slice ALT 0 cLT, .slice ACA 0 cCA, .slice ARE 0 cRE, .slice AIT 0 cIT, .slice AQ 0 cQ, .slice AO 0 cO, .slice AS 0 cS, .slice AOV 1 cOV, .slice ALM 1 cLM, .slice ASH 1 cSH⟩) (below_new w1 (.cells zA 43)) (Nat.le_refl w1.heap.size))
  have HK := Lib.hid (row_blk (stA s1 ⟨.slice AC 1 cC, .slice AM 1 cM, .slice AT 1 cT, .slice AP 0 cP, .slice ALT 0 cLT, .slice ACA 0 cCA, .slice ARE 0 cRE, .slice AIT 0 cIT, .slice AQ 0 cQ, .slice AO 0 cO, .slice AS 0 cS, .slice AOV 1 cOV, .slice ALM 1 cLM, .slice ASH 1 cSH⟩) HZ.out)
  go_upto_region 2 with (refine wpList_store_rowTo rfl 43 (.tmp 1) (.tmp 7) rfl rfl w1.heap.size (stA s1 ⟨.slice AC 1 cC, .slice AM 1 cM, .slice AT 1 cT, .slice AP 0 cP, .slice ALT 0 cLT, .slice ACA 0 cCA, .slice ARE 0 cRE, .slice AIT 0 cIT, .slice AQ 0 cQ, .slice AO 0 cO, .slice AS 0 cS, .slice AOV 1 cOV, .slice ALM 1 cLM, .slice ASH 1 cSH⟩) (by kernel_rfl) (by kernel_rfl) 43 zA HZ.out (by kernel_rfl) (by kernel_rfl) (by kernel_rfl) ?_)
  have HL2 := Lib.hid (HL.out.call HB2.out)
  have HB3 := Lib.hid (below_call HB.out HB2.out)
  have hg : Hid (w.heap.size ≤ w1.heap.size) := HB.out.size
  clear HL HB HB2 HZ
  generalize (w1.alloc (.cells _ 43)).setRow w1.heap.size _ = w2 at *
  generalize w1.heap.size = g at *
  go_upto_region 4 with (fail)
  have HW := Lib.hid (Blk.new w2 3 #[i 0])
  have hbn := below_new w2 (.cells #[i 0] 3)
  go_wp2_with (first
    | (refine wpList_load_row rfl 43 (.tmp 1) rfl g rfl 43 (stA s1 ⟨.slice AC 1 cC, .slice AM 1 cM, .slice AT 1 cT, .slice AP 0 cP, .slice ALT 0 cLT, .slice ACA 0 cCA, .slice ARE 0 cRE, .slice AIT 0 cIT, .slice AQ 0 cQ, .slice AO 0 cO, .slice AS 0 cS, .slice AOV 1 cOV, .slice ALM 1 cLM, .slice ASH 1 cSH⟩) (0, 0) _ HK.out Tryz.underlying43 rfl (by kernel_rfl) ?_)
    | (refine wpList_buildSlice rfl 22 3 1 _ rfl #[i 0] iI _ Tryz.underlying22 hIi hIz (by rw [hIs]; decide) (by rw [hIs]; decide) (by rw [hIs]; kernel_rfl) ?_))
  refine (step1 _ _ _ _ (HL2.out.call hbn) (ints_blk HW.out)).mono ?_
  rintro e w3 ⟨s', l', u, rfl, hu, hb, h1⟩
  obtain ⟨gu, cu, eu, -, -⟩ := own_one hu
  have hx : MsAt w3 (slv u) [⟨1, 1, 1, 0, ⟨#[]⟩, ⟨#[83]⟩⟩] := Own.at_ hu (by omega)
  rw [eu] at hx
  obtain ⟨b, off, r, e1, hr, hR, hrow⟩ := SliceAt.at_ hx (j := 0) (by simp)
  obtain ⟨rfl, rfl⟩ : gu = b ∧ 0 = off := by simpa using e1
  have hrr : r = (msO ⟨1, 1, 1, 0, ⟨#[]⟩, ⟨#[83]⟩⟩).toList := hR
  subst hrr
  have HR : Hid (∀ W, Kept w3 W → W.cell? ⟨gu, 2, none⟩ = some (i 1) ∧ W.cell? ⟨gu, 10, none⟩ = some (.string ⟨#[83]⟩)) := fun W hk => ⟨hk _ _ (by simpa using hrow 2 _ rfl), hk _ _ (by simpa using hrow 10 _ rfl)⟩
  have hba := below_call hbn hb
  have HK3 := Lib.hid (HK.out.call hba)
  have HB4 := Lib.hid (below_call HB3.out hba)
  have H1 := Lib.hid h1
  have HE := Lib.hid eu
  have hne : Hid (gu ≠ g) := fun e => by
    subst e
    have := Own.row hu gu (by rw [eu]; rfl)
    have h2 := HK.out.lt
    have h3 := hbn.size
    omega
  clear hu hb h1 eu hx hr hR hrow e1 hba hbn HK HB3 HL2 HW
  rw [HE.out]
  go_upto_region 5 with (refine wpList_store_rowTo rfl 43 (.tmp 1) (.tmp 15) rfl rfl g (stA s' l') (by kernel_rfl) (by kernel_rfl) 43 (stA s1 ⟨.slice AC 1 cC, .slice AM 1 cM, .slice AT 1 cT, .slice AP 0 cP, .slice ALT 0 cLT, .slice ACA 0 cCA, .slice ARE 0 cRE, .slice AIT 0 cIT, .slice AQ 0 cQ, .slice AO 0 cO, .slice AS 0 cS, .slice AOV 1 cOV, .slice ALM 1 cLM, .slice ASH 1 cSH⟩) HK3.out (by kernel_rfl) (by kernel_rfl) H1.out ?_)
  have HB5 := Lib.hid (row_below (stA s' l') HB4.out hg.out)
  have kq : (w3.setRow g (stA s' l')).cell? ⟨gu, 2, none⟩ = some (i 1) ∧ (w3.setRow g (stA s' l')).cell? ⟨gu, 10, none⟩ = some (.string ⟨#[83]⟩) := by
    obtain ⟨q1, q2⟩ := HR.out w3 (Kept.refl _)
    have hb : (w3.setRow g (stA s' l')).heap[gu]? = w3.heap[gu]? := setRow_other w3 g gu _ hne.out
    exact ⟨(World.cell?_of_block hb).trans q1, (World.cell?_of_block hb).trans q2⟩
  obtain ⟨k2, k10⟩ := kq
  generalize w3.setRow g (stA s' l') = w4 at *
  go_wp2_with fail
  go_ret
  exact ⟨rfl, HB5.out⟩

/-- The slices of any station. -/
theorem formsG {w : World} {s : St} {l : Sl} (h : StAt w s l) : ∃ AC nC cC AM nM cM AT nT cT AOV nOV cOV ALM nLM cLM ASH nSH cSH, l = ⟨.slice AC nC cC, .slice AM nM cM, .slice AT nT cT, .slice none 0 0, .slice none 0 0, .slice none 0 0, .slice none 0 0, .slice none 0 0, .slice none 0 0, .slice none 0 0, .slice none 0 0, .slice AOV nOV cOV, .slice ALM nLM cLM, .slice ASH nSH cSH⟩ := by
  obtain ⟨C, M, T, P, LT, CA, RE, IT, Q, O, S, OV, LM, SH⟩ := l
  obtain ⟨hC, hM, hT, hP, hLT, hCA, hRE, hIT, hQ, hO, hS, hOV, hLM, hSH⟩ := h
  simp only [EmpS] at hC hM hT hP hLT hCA hRE hIT hQ hO hS hOV hLM hSH
  subst hP hLT hCA hRE hIT hQ hO hS
  obtain ⟨AC, cC, rfl, -, -⟩ := SliceAt.form hC
  obtain ⟨AM, cM, rfl, -, -⟩ := SliceAt.form hM
  obtain ⟨AT, cT, rfl, -, -⟩ := SliceAt.form hT
  obtain ⟨AOV, cOV, rfl, -, -⟩ := SliceAt.form hOV
  obtain ⟨ALM, cLM, rfl, -, -⟩ := SliceAt.form hLM
  obtain ⟨ASH, cSH, rfl, -, -⟩ := SliceAt.form hSH
  exact ⟨_, _, _, _, _, _, _, _, _, _, _, _, _, _, _, _, _, _, rfl⟩

set_option maxRecDepth 100000 in
set_option maxHeartbeats 4000000 in
theorem law_news (name : ByteArray) (conns m : Int) (A : Option Addr) (n k : Nat) (gs : List Int) (w : World) (h : IntsAt w (.slice A n k) gs) (hs : name.size ≤ maxLen) :
    Calls Tryz.prog 3 #[.string name, i conns, i m, .slice A n k] w fun e w' => e = .returned (.bool true) ∧ Below w.heap.size w w' := by
  have hn : n = gs.length := by
    obtain ⟨A', c', e, -⟩ := SliceAt.form h
    injection e
  have hk : n ≤ maxLen := by
    obtain ⟨A', c', e, h1, h2⟩ := SliceAt.form h
    injection e with e1 e2 e3
    subst e3
    rw [hn]
    exact Nat.le_trans h1 h2
  have HX := Lib.hid (example1 w)
  have HN : Hid (∀ W, Below w.heap.size w W → _) := fun W hb => stationNew name conns m A n k gs W (h.call hb) hs
  have HNr : Hid (∀ W, Below w.heap.size w W → _) := fun W hb => rstationNew name conns m A n k gs W (h.call hb) hs
  simp only [maxLen] at hs hk
  clear h hn
  generalize newR name conns m gs = R at *
  obtain ⟨s, E⟩ := R
  by_cases c1 : 12 < n
  · have c1z : (12 : Int) < (n : Int) := by omega
    go_enter Tryz.func3, Tryz.ntmps3
    go_wp2_with fail
    refine HX.out.mono ?_
    rintro e w1 ⟨rfl, hb⟩
    have HB := Lib.hid hb
    clear hb
    go_wp2_with fail
    go_ret
    exact ⟨rfl, HB.out⟩
  by_cases c2 : 100 < name.size
  · have c1z : ¬ (12 : Int) < (n : Int) := by omega
    have c2z : (100 : Int) < (name.size : Int) := by omega
    go_enter Tryz.func3, Tryz.ntmps3
    go_wp2_with fail
    refine HX.out.mono ?_
    rintro e w1 ⟨rfl, hb⟩
    have HB := Lib.hid hb
    clear hb
    go_wp2_with fail
    go_ret
    exact ⟨rfl, HB.out⟩
  have c1z : ¬ (12 : Int) < (n : Int) := by omega
  have c2z : ¬ (100 : Int) < (name.size : Int) := by omega
  clear HX
  go_enter Tryz.func3, Tryz.ntmps3
  go_wp2_with fail
  refine (HN.out w (Below.refl _ _)).mono ?_
  rintro e w1 ⟨l1, rfl, hl, hb⟩
  obtain ⟨AC, nC, cC, AM, nM, cM, AT, nT, cT, AOV, nOV, cOV, ALM, nLM, cLM, ASH, nSH, cSH, rfl⟩ := formsG hl
  have HZ := Lib.hid (Blk.new w1 43 zA)
  have HB2 := Lib.hid (row_below (stA s ⟨.slice AC nC cC, .slice AM nM cM, .slice AT nT cT, .slice none 0 0, .slice none 0 0, .slice none 0 0, .slice none 0 0, .slice none 0 0, .slice none 0 0, .slice none 0 0, .slice none 0 0, .slice AOV nOV cOV, .slice ALM nLM cLM, .slice ASH nSH cSH⟩) (below_new w1 (.cells zA 43)) (Nat.le_refl w1.heap.size))
  have HK := Lib.hid (row_blk (stA s ⟨.slice AC nC cC, .slice AM nM cM, .slice AT nT cT, .slice none 0 0, .slice none 0 0, .slice none 0 0, .slice none 0 0, .slice none 0 0, .slice none 0 0, .slice none 0 0, .slice none 0 0, .slice AOV nOV cOV, .slice ALM nLM cLM, .slice ASH nSH cSH⟩) HZ.out)
  have HL := Lib.hid (hl.call HB2.out)
  have HB := Lib.hid (below_call hb HB2.out)
  have hg : Hid (w.heap.size ≤ w1.heap.size) := hb.size
  clear hl hb
  go_upto_region 4 with (refine wpList_store_rowTo rfl 43 (.tmp 9) (.tmp 28) rfl rfl w1.heap.size (stA s ⟨.slice AC nC cC, .slice AM nM cM, .slice AT nT cT, .slice none 0 0, .slice none 0 0, .slice none 0 0, .slice none 0 0, .slice none 0 0, .slice none 0 0, .slice none 0 0, .slice none 0 0, .slice AOV nOV cOV, .slice ALM nLM cLM, .slice ASH nSH cSH⟩) (by kernel_rfl) (by kernel_rfl) 43 zA HZ.out (by kernel_rfl) (by kernel_rfl) (by kernel_rfl) ?_)
  clear HZ HB2
  generalize (w1.alloc (.cells _ 43)).setRow w1.heap.size _ = w2 at *
  generalize w1.heap.size = g at *
  go_wp2_with fail
  refine (HNr.out w2 HB.out).mono ?_
  rintro e w3 ⟨l2, rfl, hl, hb⟩
  obtain ⟨BC, mC, dC, BM, mM, dM, BT, mT, dT, BOV, mOV, dOV, BLM, mLM, dLM, BSH, mSH, dSH, rfl⟩ := formsG hl
  have HZ := Lib.hid (Blk.new w3 43 zA)
  have HB4 := Lib.hid (row_below (stA s ⟨.slice BC mC dC, .slice BM mM dM, .slice BT mT dT, .slice none 0 0, .slice none 0 0, .slice none 0 0, .slice none 0 0, .slice none 0 0, .slice none 0 0, .slice none 0 0, .slice none 0 0, .slice BOV mOV dOV, .slice BLM mLM dLM, .slice BSH mSH dSH⟩) (below_new w3 (.cells zA 43)) (Nat.le_refl w3.heap.size))
  have HKb := Lib.hid (row_blk (stA s ⟨.slice BC mC dC, .slice BM mM dM, .slice BT mT dT, .slice none 0 0, .slice none 0 0, .slice none 0 0, .slice none 0 0, .slice none 0 0, .slice none 0 0, .slice none 0 0, .slice none 0 0, .slice BOV mOV dOV, .slice BLM mLM dLM, .slice BSH mSH dSH⟩) HZ.out)
  have HLb := Lib.hid (hl.call HB4.out)
  have HKa := Lib.hid ((HK.out.call hb).call HB4.out)
  have HLa := Lib.hid ((HL.out.call hb).call HB4.out)
  have HBb := Lib.hid (below_call (below_call HB.out hb) HB4.out)
  clear hl hb HK HL HB
  go_upto_region 5 with (refine wpList_store_rowTo rfl 43 (.tmp 11) (.tmp 36) rfl rfl w3.heap.size (stA s ⟨.slice BC mC dC, .slice BM mM dM, .slice BT mT dT, .slice none 0 0, .slice none 0 0, .slice none 0 0, .slice none 0 0, .slice none 0 0, .slice none 0 0, .slice none 0 0, .slice none 0 0, .slice BOV mOV dOV, .slice BLM mLM dLM, .slice BSH mSH dSH⟩) (by kernel_rfl) (by kernel_rfl) 43 zA HZ.out (by kernel_rfl) (by kernel_rfl) (by kernel_rfl) ?_)
  clear HZ HB4
  generalize (w3.alloc (.cells _ 43)).setRow w3.heap.size _ = w4 at *
  generalize w3.heap.size = g' at *
  go_wp2_with (first
    | (refine wpList_load_rowW rfl 43 (.tmp 9) rfl g rfl 43 (stA s ⟨.slice AC nC cC, .slice AM nM cM, .slice AT nT cT, .slice none 0 0, .slice none 0 0, .slice none 0 0, .slice none 0 0, .slice none 0 0, .slice none 0 0, .slice none 0 0, .slice none 0 0, .slice AOV nOV cOV, .slice ALM nLM cLM, .slice ASH nSH cSH⟩) (0, 0) _ HKa.out Tryz.underlying43 rfl (by kernel_rfl) ?_)
    | (refine wpList_load_rowW rfl 43 (.tmp 11) rfl g' rfl 43 (stA s ⟨.slice BC mC dC, .slice BM mM dM, .slice BT mT dT, .slice none 0 0, .slice none 0 0, .slice none 0 0, .slice none 0 0, .slice none 0 0, .slice none 0 0, .slice none 0 0, .slice none 0 0, .slice BOV mOV dOV, .slice BLM mLM dLM, .slice BSH mSH dSH⟩) (0, 0) _ HKb.out Tryz.underlying43 rfl (by kernel_rfl) ?_))
  refine (same s ⟨.slice AC nC cC, .slice AM nM cM, .slice AT nT cT, .slice none 0 0, .slice none 0 0, .slice none 0 0, .slice none 0 0, .slice none 0 0, .slice none 0 0, .slice none 0 0, .slice none 0 0, .slice AOV nOV cOV, .slice ALM nLM cLM, .slice ASH nSH cSH⟩ ⟨.slice BC mC dC, .slice BM mM dM, .slice BT mT dT, .slice none 0 0, .slice none 0 0, .slice none 0 0, .slice none 0 0, .slice none 0 0, .slice none 0 0, .slice none 0 0, .slice none 0 0, .slice BOV mOV dOV, .slice BLM mLM dLM, .slice BSH mSH dSH⟩ w4 HLa.out HLb.out).mono ?_
  rintro e w5 ⟨rfl, hb⟩
  have HB6 := Lib.hid (below_call HBb.out hb)
  clear hb
  go_wp2_with fail
  go_ret
  exact ⟨rfl, HB6.out⟩

end Stn
end Go.Proofs.YtfaofobhmmedmaaGreatDoor
