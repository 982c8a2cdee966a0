/-
  The walk of StationDenies.
-/
import Derived.Test.YtfaofobhmmedmaaGreatDoorDenH
namespace Go.Proofs.YtfaofobhmmedmaaGreatDoor
namespace Stn
set_option linter.unusedSimpArgs false
set_option linter.unusedVariables false
open Go.RowKit Go.Great

theorem newD : newR ⟨#[83]⟩ 2 100000 [0, 0] = (dS cnF cnF false 0, 0) := by
  have h : newE ⟨#[83]⟩ 2 100000 [0, 0] = 0 := by decide
  unfold newR
  rw [if_pos h]
  rfl
theorem ints_blk2 {w : World} {g : Nat} (h : Blk w g 3 #[i 0, i 0]) : IntsAt w (.slice (some ⟨g, 0, none⟩) 2 2) [0, 0] := by
  refine ⟨some ⟨g, 0, none⟩, 2, rfl, Nat.le_refl _, (by unfold maxLen; show (2 : Nat) ≤ _; omega), (fun h => by cases h), fun j y hy => ?_⟩
  have hj : j = 0 ∨ j = 1 := by
    rcases j with _ | _ | j
    · exact .inl rfl
    · exact .inr rfl
    · simp at hy
  refine ⟨g, 0, [i 0], rfl, rfl, ?_, fun o u hu => ?_⟩
  · rcases hj with rfl | rfl <;> (obtain rfl := Option.some.inj hy; rfl)
  · have ho : o = 0 := by
      rcases o with _ | o
      · rfl
      · simp at hu
    subst ho
    obtain rfl := Option.some.inj hu
    rcases hj with rfl | rfl
    · exact h.cell 0
    · exact h.cell 1
theorem StO.stRow {base p : Nat} {W : World} {s : St} {l : Sl} (h : StO base W s l) (hp : p < base) (cs : Array Value) : StO base (W.setRow p cs) s l :=
  ⟨Own.row_keep h.C hp _, Own.row_keep h.M hp _, Own.row_keep h.T hp _, h.P, h.LT, h.CA, h.RE, h.IT, h.Q, h.O, h.S, Own.row_keep h.OV hp _, Own.row_keep h.LM hp _, Own.row_keep h.SH hp _⟩
theorem StO.same {base : Nat} {W : World} {c1 c2 : Cn} {a a' : Bool} {v v' : Int} {l : Sl} (h : StO base W (dS c1 c2 a v) l) : StO base W (dS c1 c2 a' v') l :=
  ⟨h.C, h.M, h.T, h.P, h.LT, h.CA, h.RE, h.IT, h.Q, h.O, h.S, h.OV, h.LM, h.SH⟩

set_option maxRecDepth 100000 in
set_option maxHeartbeats 4000000 in
theorem law_denies (id : ByteArray) (b : Bool) (conn : Int) (w : World) (hs : id.size ≤ maxLen) (ht : PTab w) :
    Calls Tryz.prog 4 #[.string id, .bool b, i conn] w fun e w' => e = .returned (.bool true) ∧ Below w.heap.size w w' := by
  have HSZ := Lib.hid hs
  simp only [maxLen] at hs
  by_cases c2 : 100 < id.size
  · have HX := Lib.hid (example1 w)
    have c2z : (100 : Int) < (id.size : Int) := by omega
    clear ht
    go_enter Tryz.func4, Tryz.ntmps4
    go_wp2_with fail
    refine HX.out.mono ?_
    rintro e w1 ⟨rfl, hb⟩
    have HB := Lib.hid hb
    clear hb
    go_wp2_with fail
    go_ret
    exact ⟨rfl, HB.out⟩
  have c2z : ¬ (100 : Int) < (id.size : Int) := by omega
  obtain ⟨iI, hIi, hIz, hIs, hIb⟩ := info_parts infoI
  have HT : Hid (∀ W, Below w.heap.size w W → PTab W) := fun W hb => ht.keep (Kept.of hb)
  have HN := Lib.hid (fun A n k W h => stationNew ⟨#[83]⟩ 2 100000 A n k [0, 0] W h (by unfold maxLen; decide))
  have HW := Lib.hid (Blk.new w 3 #[i 0, i 0])
  have HB0 := Lib.hid (below_new w (.cells #[i 0, i 0] 3))
  clear ht
  go_enter Tryz.func4, Tryz.ntmps4
  go_wp2_with (refine wpList_buildSlice rfl 22 3 2 _ rfl #[i 0, i 0] iI _ Tryz.underlying22 hIi hIz (by rw [hIs]; decide) (by rw [hIs]; decide) (by rw [hIs]; kernel_rfl) ?_)
  refine (HN.out _ _ _ _ (ints_blk2 HW.out)).mono ?_
  rw [newD]
  rintro e w1 ⟨l, rfl, hl, hb⟩
  obtain ⟨AC, cAC, AM, cAM, AT, cAT, AOV, cAOV, ALM, cALM, ASH, cASH, rfl⟩ := formsD hl
  have HZ := Lib.hid (Blk.new w1 43 zA)
  have hb2 := row_below (stA (dS cnF cnF false 0) ⟨.slice AC 2 cAC, .slice AM 2 cAM, .slice AT 2 cAT, .slice none 0 0, .slice none 0 0, .slice none 0 0, .slice none 0 0, .slice none 0 0, .slice none 0 0, .slice none 0 0, .slice none 0 0, .slice AOV 2 cAOV, .slice ALM 2 cALM, .slice ASH 2 cASH⟩) (below_new w1 (.cells zA 43)) (Nat.le_refl w1.heap.size)
  have HB := Lib.hid (below_call (below_call HB0.out hb) hb2)
  have HK := Lib.hid (row_blk (stA (dS cnF cnF false 0) ⟨.slice AC 2 cAC, .slice AM 2 cAM, .slice AT 2 cAT, .slice none 0 0, .slice none 0 0, .slice none 0 0, .slice none 0 0, .slice none 0 0, .slice none 0 0, .slice none 0 0, .slice none 0 0, .slice AOV 2 cAOV, .slice ALM 2 cALM, .slice ASH 2 cASH⟩) HZ.out)
  have HL := Lib.hid (hl.call hb2)
  have hg : Hid (w.heap.size ≤ w1.heap.size) := (below_call HB0.out hb).size
  clear hl hb hb2 HB0 HW HN
  go_upto_region 4 with (refine wpList_store_rowTo rfl 43 (.tmp 7) (.tmp 19) rfl rfl w1.heap.size (stA (dS cnF cnF false 0) ⟨.slice AC 2 cAC, .slice AM 2 cAM, .slice AT 2 cAT, .slice none 0 0, .slice none 0 0, .slice none 0 0, .slice none 0 0, .slice none 0 0, .slice none 0 0, .slice none 0 0, .slice none 0 0, .slice AOV 2 cAOV, .slice ALM 2 cALM, .slice ASH 2 cASH⟩) (by kernel_rfl) (by kernel_rfl) 43 zA HZ.out (by kernel_rfl) (by kernel_rfl) (by kernel_rfl) ?_)
  clear HZ
  generalize (w1.alloc (.cells _ 43)).setRow w1.heap.size _ = w2 at *
  generalize w1.heap.size = g at *
  go_upto_region 6 with (fail)
  go_wp2_with (refine wpList_load_row rfl 43 (.tmp 7) rfl g rfl 43 (stA (dS cnF cnF false 0) ⟨.slice AC 2 cAC, .slice AM 2 cAM, .slice AT 2 cAT, .slice none 0 0, .slice none 0 0, .slice none 0 0, .slice none 0 0, .slice none 0 0, .slice none 0 0, .slice none 0 0, .slice none 0 0, .slice AOV 2 cAOV, .slice ALM 2 cALM, .slice ASH 2 cASH⟩) (0, 0) _ HK.out Tryz.underlying43 rfl (by kernel_rfl) ?_)
  refine (plug1 _ w2 HL.out (HT.out w2 HB.out)).mono ?_
  rintro e w3 ⟨l, rfl, ho, hb⟩
  obtain ⟨BC, cBC, BM, cBM, BT, cBT, BOV, cBOV, BLM, cBLM, BSH, cBSH, rfl⟩ := formsD ho.at_
  have hgl := HK.out.lt
  have HK3 := Lib.hid (HK.out.call hb)
  have h0 := hg.out
  have HKx := Lib.hid (row_blk (stA (dS cnG cnF false 0) ⟨.slice BC 2 cBC, .slice BM 2 cBM, .slice BT 2 cBT, .slice none 0 0, .slice none 0 0, .slice none 0 0, .slice none 0 0, .slice none 0 0, .slice none 0 0, .slice none 0 0, .slice none 0 0, .slice BOV 2 cBOV, .slice BLM 2 cBLM, .slice BSH 2 cBSH⟩) HK3.out)
  have HOx := Lib.hid (StO.stRow ho hgl (stA (dS cnG cnF false 0) ⟨.slice BC 2 cBC, .slice BM 2 cBM, .slice BT 2 cBT, .slice none 0 0, .slice none 0 0, .slice none 0 0, .slice none 0 0, .slice none 0 0, .slice none 0 0, .slice none 0 0, .slice none 0 0, .slice BOV 2 cBOV, .slice BLM 2 cBLM, .slice BSH 2 cBSH⟩))
  have HBx := Lib.hid (row_below (stA (dS cnG cnF false 0) ⟨.slice BC 2 cBC, .slice BM 2 cBM, .slice BT 2 cBT, .slice none 0 0, .slice none 0 0, .slice none 0 0, .slice none 0 0, .slice none 0 0, .slice none 0 0, .slice none 0 0, .slice none 0 0, .slice BOV 2 cBOV, .slice BLM 2 cBLM, .slice BSH 2 cBSH⟩) (below_call HB.out hb) h0)
  clear ho hb hgl h0 HK HL HB
  go_upto_region 7 with (refine wpList_store_rowTo rfl 43 (.tmp 7) (.tmp 26) rfl rfl g (stA (dS cnG cnF false 0) ⟨.slice BC 2 cBC, .slice BM 2 cBM, .slice BT 2 cBT, .slice none 0 0, .slice none 0 0, .slice none 0 0, .slice none 0 0, .slice none 0 0, .slice none 0 0, .slice none 0 0, .slice none 0 0, .slice BOV 2 cBOV, .slice BLM 2 cBLM, .slice BSH 2 cBSH⟩) (by kernel_rfl) (by kernel_rfl) 43 (stA (dS cnF cnF false 0) ⟨.slice AC 2 cAC, .slice AM 2 cAM, .slice AT 2 cAT, .slice none 0 0, .slice none 0 0, .slice none 0 0, .slice none 0 0, .slice none 0 0, .slice none 0 0, .slice none 0 0, .slice none 0 0, .slice AOV 2 cAOV, .slice ALM 2 cALM, .slice ASH 2 cASH⟩) HK3.out (by kernel_rfl) (by kernel_rfl) (by kernel_rfl) ?_)
  clear HK3
  generalize w3.setRow g _ = w4 at *
  go_wp2_with (refine wpList_load_row rfl 43 (.tmp 7) rfl g rfl 43 (stA (dS cnG cnF false 0) ⟨.slice BC 2 cBC, .slice BM 2 cBM, .slice BT 2 cBT, .slice none 0 0, .slice none 0 0, .slice none 0 0, .slice none 0 0, .slice none 0 0, .slice none 0 0, .slice none 0 0, .slice none 0 0, .slice BOV 2 cBOV, .slice BLM 2 cBLM, .slice BSH 2 cBSH⟩) (0, 0) _ HKx.out Tryz.underlying43 rfl (by kernel_rfl) ?_)
  refine (plug2 _ w4 HOx.out.at_ (HT.out w4 HBx.out)).mono ?_
  rintro e w5 ⟨l, rfl, ho, hb⟩
  obtain ⟨CC, cCC, CM, cCM, CT, cCT, COV, cCOV, CLM, cCLM, CSH, cCSH, rfl⟩ := formsD ho.at_
  have hgl := HKx.out.lt
  have HK5 := Lib.hid (HKx.out.call hb)
  have h0 := hg.out
  have HK6 := Lib.hid (row_blk (stA (dS cnG cnG false 0) ⟨.slice CC 2 cCC, .slice CM 2 cCM, .slice CT 2 cCT, .slice none 0 0, .slice none 0 0, .slice none 0 0, .slice none 0 0, .slice none 0 0, .slice none 0 0, .slice none 0 0, .slice none 0 0, .slice COV 2 cCOV, .slice CLM 2 cCLM, .slice CSH 2 cCSH⟩) HK5.out)
  have HO6 := Lib.hid (StO.stRow ho hgl (stA (dS cnG cnG false 0) ⟨.slice CC 2 cCC, .slice CM 2 cCM, .slice CT 2 cCT, .slice none 0 0, .slice none 0 0, .slice none 0 0, .slice none 0 0, .slice none 0 0, .slice none 0 0, .slice none 0 0, .slice none 0 0, .slice COV 2 cCOV, .slice CLM 2 cCLM, .slice CSH 2 cCSH⟩))
  have HB6 := Lib.hid (row_below (stA (dS cnG cnG false 0) ⟨.slice CC 2 cCC, .slice CM 2 cCM, .slice CT 2 cCT, .slice none 0 0, .slice none 0 0, .slice none 0 0, .slice none 0 0, .slice none 0 0, .slice none 0 0, .slice none 0 0, .slice none 0 0, .slice COV 2 cCOV, .slice CLM 2 cCLM, .slice CSH 2 cCSH⟩) (below_call HBx.out hb) h0)
  have hgl6 := Lib.hid hgl
  clear ho hb hgl h0 HKx HOx HBx HT
  go_upto_region 8 with (refine wpList_store_rowTo rfl 43 (.tmp 7) (.tmp 31) rfl rfl g (stA (dS cnG cnG false 0) ⟨.slice CC 2 cCC, .slice CM 2 cCM, .slice CT 2 cCT, .slice none 0 0, .slice none 0 0, .slice none 0 0, .slice none 0 0, .slice none 0 0, .slice none 0 0, .slice none 0 0, .slice none 0 0, .slice COV 2 cCOV, .slice CLM 2 cCLM, .slice CSH 2 cCSH⟩) (by kernel_rfl) (by kernel_rfl) 43 (stA (dS cnG cnF false 0) ⟨.slice BC 2 cBC, .slice BM 2 cBM, .slice BT 2 cBT, .slice none 0 0, .slice none 0 0, .slice none 0 0, .slice none 0 0, .slice none 0 0, .slice none 0 0, .slice none 0 0, .slice none 0 0, .slice BOV 2 cBOV, .slice BLM 2 cBLM, .slice BSH 2 cBSH⟩) HK5.out (by kernel_rfl) (by kernel_rfl) (by kernel_rfl) ?_)
  clear HK5
  generalize w5.setRow g _ = w6 at *
  have kc := HK6.out.cell
  have kf := HK6.out.frozen
  have e1 : Hid ((w6.setCell ⟨g, 2, none⟩ (.bool b)).setCell ⟨g, 3, none⟩ (i 5) = w6.setRow g (stA (dS cnG cnG b 5) ⟨.slice CC 2 cCC, .slice CM 2 cCM, .slice CT 2 cCT, .slice none 0 0, .slice none 0 0, .slice none 0 0, .slice none 0 0, .slice none 0 0, .slice none 0 0, .slice none 0 0, .slice none 0 0, .slice COV 2 cCOV, .slice CLM 2 cCLM, .slice CSH 2 cCSH⟩)) := by
    show _ = _
    rw [stSet HK6.out rfl, rowSetTo (cs' := (stA (dS cnG cnG b 5) ⟨.slice CC 2 cCC, .slice CM 2 cCM, .slice CT 2 cCT, .slice none 0 0, .slice none 0 0, .slice none 0 0, .slice none 0 0, .slice none 0 0, .slice none 0 0, .slice none 0 0, .slice none 0 0, .slice COV 2 cCOV, .slice CLM 2 cCLM, .slice CSH 2 cCSH⟩)) HK6.out rfl]
  have HK7 := Lib.hid (row_blk (stA (dS cnG cnG b 5) ⟨.slice CC 2 cCC, .slice CM 2 cCM, .slice CT 2 cCT, .slice none 0 0, .slice none 0 0, .slice none 0 0, .slice none 0 0, .slice none 0 0, .slice none 0 0, .slice none 0 0, .slice none 0 0, .slice COV 2 cCOV, .slice CLM 2 cCLM, .slice CSH 2 cCSH⟩) HK6.out)
  have HO7 := Lib.hid (StO.same (a' := b) (v' := 5) (StO.stRow HO6.out hgl6.out (stA (dS cnG cnG b 5) ⟨.slice CC 2 cCC, .slice CM 2 cCM, .slice CT 2 cCT, .slice none 0 0, .slice none 0 0, .slice none 0 0, .slice none 0 0, .slice none 0 0, .slice none 0 0, .slice none 0 0, .slice none 0 0, .slice COV 2 cCOV, .slice CLM 2 cCLM, .slice CSH 2 cCSH⟩)))
  have HB7 := Lib.hid (row_below (stA (dS cnG cnG b 5) ⟨.slice CC 2 cCC, .slice CM 2 cCM, .slice CT 2 cCT, .slice none 0 0, .slice none 0 0, .slice none 0 0, .slice none 0 0, .slice none 0 0, .slice none 0 0, .slice none 0 0, .slice none 0 0, .slice COV 2 cCOV, .slice CLM 2 cCLM, .slice CSH 2 cCSH⟩) HB6.out hg.out)
  go_upto_region 9 with (fail)
  rw [show (w6.setCell ⟨g, 2, none⟩ (.bool b)).setCell ⟨g, 3, none⟩ (.int .i64 5) = w6.setRow g (stA (dS cnG cnG b 5) ⟨.slice CC 2 cCC, .slice CM 2 cCM, .slice CT 2 cCT, .slice none 0 0, .slice none 0 0, .slice none 0 0, .slice none 0 0, .slice none 0 0, .slice none 0 0, .slice none 0 0, .slice none 0 0, .slice COV 2 cCOV, .slice CLM 2 cCLM, .slice CSH 2 cCSH⟩) from e1.out]
  clear kc kf e1 HK6 HO6 HB6
  generalize w6.setRow g _ = w7 at *
  go_wp2_with (refine wpList_load_row rfl 43 (.tmp 7) rfl g rfl 43 (stA (dS cnG cnG b 5) ⟨.slice CC 2 cCC, .slice CM 2 cCM, .slice CT 2 cCT, .slice none 0 0, .slice none 0 0, .slice none 0 0, .slice none 0 0, .slice none 0 0, .slice none 0 0, .slice none 0 0, .slice none 0 0, .slice COV 2 cCOV, .slice CLM 2 cCLM, .slice CSH 2 cCSH⟩) (0, 0) _ HK7.out Tryz.underlying43 rfl (by kernel_rfl) ?_)
  refine (presentAll b conn _ id w7 HO7.out.at_ HSZ.out).mono ?_
  rintro e w8 (⟨E, hE, rfl, hb⟩ | ⟨rfl, hid, hc1, hc2, l', q, o, t, rfl, hst, hq, ho, htt, hb, h1⟩)
  · -- an error
    have hEz : (E != 0) = true := by simpa using hE
    have HZ := Lib.hid (Blk.new w8 43 zA)
    have hb2 := row_below (stA (dS cnG cnG b 5) ⟨.slice CC 2 cCC, .slice CM 2 cCM, .slice CT 2 cCT, .slice none 0 0, .slice none 0 0, .slice none 0 0, .slice none 0 0, .slice none 0 0, .slice none 0 0, .slice none 0 0, .slice none 0 0, .slice COV 2 cCOV, .slice CLM 2 cCLM, .slice CSH 2 cCSH⟩) (below_new w8 (.cells zA 43)) (Nat.le_refl w8.heap.size)
    have HK9 := Lib.hid (row_blk (stA (dS cnG cnG b 5) ⟨.slice CC 2 cCC, .slice CM 2 cCM, .slice CT 2 cCT, .slice none 0 0, .slice none 0 0, .slice none 0 0, .slice none 0 0, .slice none 0 0, .slice none 0 0, .slice none 0 0, .slice none 0 0, .slice COV 2 cCOV, .slice CLM 2 cCLM, .slice CSH 2 cCSH⟩) HZ.out)
    have HKs := Lib.hid ((HK7.out.call hb).call hb2)
    have HA9 := Lib.hid ((HO7.out.at_.call hb).call hb2)
    have HB9 := Lib.hid (below_call (below_call HB7.out hb) hb2)
    clear hb hb2 HK7 HO7 HB7 hE
    go_upto_region 10 with (refine wpList_store_rowTo rfl 43 (.tmp 9) (.tmp 41) rfl rfl w8.heap.size (stA (dS cnG cnG b 5) ⟨.slice CC 2 cCC, .slice CM 2 cCM, .slice CT 2 cCT, .slice none 0 0, .slice none 0 0, .slice none 0 0, .slice none 0 0, .slice none 0 0, .slice none 0 0, .slice none 0 0, .slice none 0 0, .slice COV 2 cCOV, .slice CLM 2 cCLM, .slice CSH 2 cCSH⟩) (by kernel_rfl) (by kernel_rfl) 43 zA HZ.out (by kernel_rfl) (by kernel_rfl) (by kernel_rfl) ?_)
    clear HZ
    generalize (w8.alloc (.cells _ 43)).setRow w8.heap.size _ = w9 at *
    generalize w8.heap.size = g9 at *
    have k8 : w9.cell? ⟨g9, 8, none⟩ = some (.slice CT 2 cCT) := HK9.out.cell 8
    go_wp2_with fail
    have HTX : Hid (∃ bT oT, CT = some ⟨bT, oT, none⟩ ∧ ∀ W, Below w9.heap.size w9 W → W.rangeAt bT oT #[.string ⟨#[]⟩, i 0, .string ⟨#[]⟩, .string ⟨#[]⟩, i 0, i 0, .bool false, i 0, i 0].toList ∧ W.rangeAt bT (oT + 9) #[.string ⟨#[]⟩, i 0, .string ⟨#[]⟩, .string ⟨#[]⟩, i 0, i 0, .bool false, i 0, i 0].toList) := by
      obtain ⟨b0, o0, r0, e0, -, hR0, hr0⟩ := SliceAt.at_ HA9.out.T (j := 0) (by simp)
      obtain ⟨b1, o1, r1, e1, -, hR1, hr1⟩ := SliceAt.at_ HA9.out.T (j := 1) (by simp)
      obtain ⟨rfl, rfl⟩ : b0 = b1 ∧ o0 = o1 := by
        have := e0.symm.trans e1
        simpa using this
      have q0 : r0 = #[.string ⟨#[]⟩, i 0, .string ⟨#[]⟩, .string ⟨#[]⟩, i 0, i 0, .bool false, i 0, i 0].toList := hR0
      have q1 : r1 = #[.string ⟨#[]⟩, i 0, .string ⟨#[]⟩, .string ⟨#[]⟩, i 0, i 0, .bool false, i 0, i 0].toList := hR1
      subst q0 q1
      refine ⟨b0, o0, e0, fun W hb => ⟨fun j v hj => ?_, fun j v hj => ?_⟩⟩
      · have := (Kept.of hb) _ _ (hr0 j v hj)
        simpa using this
      · have := (Kept.of hb) _ _ (hr1 j v hj)
        simpa [Nat.add_assoc] using this
    obtain ⟨bT, oT, rfl, hTX⟩ := HTX.out
    have HTR := Lib.hid hTX
    clear HTX hTX k8
    go_loopg [46] 2 (fun gg s46 wr => ∃ kk : Nat, kk ≤ 2 ∧ 2 - kk ≤ gg ∧ s46 = i kk ∧ Hid (Below w9.heap.size w9 wr))
    case atStart => exact ⟨0, by omega, by omega, rfl, Below.refl _ _⟩
    case round =>
      obtain ⟨kk, hkk, hg9, rfl, HBR⟩ := hrel
      rcases (show kk = 0 ∨ kk = 1 ∨ kk = 2 by omega) with rfl | rfl | rfl
      · have HN9 := Lib.hid (below_call HBR.out (below_new wr (.cells #[.string ⟨#[]⟩, i 0, .string ⟨#[]⟩, .string ⟨#[]⟩, i 0, i 0, .bool false, i 0, i 0] 54)))
        go_wp2_with (refine wpList_load_mid rfl 54 (.tmp 48) rfl bT oT rfl #[.string ⟨#[]⟩, i 0, .string ⟨#[]⟩, .string ⟨#[]⟩, i 0, i 0, .bool false, i 0, i 0].toList _ (HTR.out _ HBR.out).1 Tryz.underlying54 rfl (by kernel_rfl) ?_)
        go_roundg 1
        case measure => omega
        case rel => exact ⟨1, by omega, by omega, by rfl, HN9⟩
      · have HN9 := Lib.hid (below_call HBR.out (below_new wr (.cells #[.string ⟨#[]⟩, i 0, .string ⟨#[]⟩, .string ⟨#[]⟩, i 0, i 0, .bool false, i 0, i 0] 54)))
        go_wp2_with (refine wpList_load_mid rfl 54 (.tmp 48) rfl bT (oT + 9) rfl #[.string ⟨#[]⟩, i 0, .string ⟨#[]⟩, .string ⟨#[]⟩, i 0, i 0, .bool false, i 0, i 0].toList _ (HTR.out _ HBR.out).2 Tryz.underlying54 rfl (by kernel_rfl) ?_)
        go_roundg 0
        case measure => omega
        case rel => exact ⟨2, by omega, by omega, by rfl, HN9⟩
      · have HKx := Lib.hid (HKs.out.call HBR.out)
        have HKy := Lib.hid (HK9.out.call HBR.out)
        have HAx := Lib.hid (HA9.out.call HBR.out)
        have HBx := Lib.hid (below_call HB9.out HBR.out)
        clear HKs HK9 HA9 HB9 HBR HTR
        go_wp2_with (first
          | (refine wpList_load_row rfl 43 (.tmp 7) rfl g rfl 43 (stA (dS cnG cnG b 5) ⟨.slice CC 2 cCC, .slice CM 2 cCM, .slice (some ⟨bT, oT, none⟩) 2 cCT, .slice none 0 0, .slice none 0 0, .slice none 0 0, .slice none 0 0, .slice none 0 0, .slice none 0 0, .slice none 0 0, .slice none 0 0, .slice COV 2 cCOV, .slice CLM 2 cCLM, .slice CSH 2 cCSH⟩) (0, 0) _ HKx.out Tryz.underlying43 rfl (by kernel_rfl) ?_)
          | (refine wpList_load_row rfl 43 (.tmp 9) rfl g9 rfl 43 (stA (dS cnG cnG b 5) ⟨.slice CC 2 cCC, .slice CM 2 cCM, .slice (some ⟨bT, oT, none⟩) 2 cCT, .slice none 0 0, .slice none 0 0, .slice none 0 0, .slice none 0 0, .slice none 0 0, .slice none 0 0, .slice none 0 0, .slice none 0 0, .slice COV 2 cCOV, .slice CLM 2 cCLM, .slice CSH 2 cCSH⟩) (0, 0) _ HKy.out Tryz.underlying43 rfl (by kernel_rfl) ?_))
        refine (same _ _ _ wr HAx.out HAx.out).mono ?_
        rintro e wz ⟨rfl, hb⟩
        have HBz := Lib.hid (below_call HBx.out hb)
        clear hb
        go_wp2_with fail
        go_ret
        exact ⟨rfl, HBz.out⟩
  · -- the call is queued
    obtain ⟨DC, cDC, DM, cDM, DT, cDT, DOV, cDOV, DLM, cDLM, DSH, cDSH, rfl⟩ := formsD hst
    obtain ⟨AQ, cQ, rfl, -, -⟩ := SliceAt.form hq
    obtain ⟨AO, cO, eo, -, -, hAO⟩ := SliceAt.form' ho
    obtain rfl : o = .slice AO 0 cO := eo
    obtain ⟨AS, cS, rfl⟩ := MsAt.nil_form htt
    have HZ := Lib.hid (Blk.new w8 43 zA)
    have hb2 := row_below (stA { dS cnG cnG true 5 with nx := 2 } { (⟨.slice DC 2 cDC, .slice DM 2 cDM, .slice DT 2 cDT, .slice none 0 0, .slice none 0 0, .slice none 0 0, .slice none 0 0, .slice none 0 0, .slice none 0 0, .slice none 0 0, .slice none 0 0, .slice DOV 2 cDOV, .slice DLM 2 cDLM, .slice DSH 2 cDSH⟩ : Sl) with Q := .slice AQ 1 cQ, O := .slice AO 0 cO, S := .slice AS 0 cS }) (below_new w8 (.cells zA 43)) (Nat.le_refl w8.heap.size)
    have HK9 := Lib.hid (row_blk (stA { dS cnG cnG true 5 with nx := 2 } { (⟨.slice DC 2 cDC, .slice DM 2 cDM, .slice DT 2 cDT, .slice none 0 0, .slice none 0 0, .slice none 0 0, .slice none 0 0, .slice none 0 0, .slice none 0 0, .slice none 0 0, .slice none 0 0, .slice DOV 2 cDOV, .slice DLM 2 cDLM, .slice DSH 2 cDSH⟩ : Sl) with Q := .slice AQ 1 cQ, O := .slice AO 0 cO, S := .slice AS 0 cS }) HZ.out)
    have HA9 := Lib.hid (hst.call hb2)
    have HQ9 := Lib.hid (hq.call hb2)
    have HAO := Lib.hid hAO
    have HB9 := Lib.hid (below_call (below_call HB7.out hb) hb2)
    have HID := Lib.hid hid
    clear hb hb2 hst hq ho htt h1 hAO HK7 HO7 HB7 hid
    go_upto_region 10 with (refine wpList_store_rowTo rfl 43 (.tmp 9) (.tmp 41) rfl rfl w8.heap.size (stA { dS cnG cnG true 5 with nx := 2 } { (⟨.slice DC 2 cDC, .slice DM 2 cDM, .slice DT 2 cDT, .slice none 0 0, .slice none 0 0, .slice none 0 0, .slice none 0 0, .slice none 0 0, .slice none 0 0, .slice none 0 0, .slice none 0 0, .slice DOV 2 cDOV, .slice DLM 2 cDLM, .slice DSH 2 cDSH⟩ : Sl) with Q := .slice AQ 1 cQ, O := .slice AO 0 cO, S := .slice AS 0 cS }) (by kernel_rfl) (by kernel_rfl) 43 zA HZ.out (by kernel_rfl) (by kernel_rfl) (by kernel_rfl) ?_)
    clear HZ
    generalize (w8.alloc (.cells _ 43)).setRow w8.heap.size _ = w9 at *
    generalize w8.heap.size = g9 at *
    have k8 : w9.cell? ⟨g9, 8, none⟩ = some (.slice DT 2 cDT) := HK9.out.cell 8
    go_wp2_with fail
    have HTX : Hid (∃ bT oT, DT = some ⟨bT, oT, none⟩ ∧ ∀ W, Below w9.heap.size w9 W → W.rangeAt bT oT #[.string ⟨#[]⟩, i 0, .string ⟨#[]⟩, .string ⟨#[]⟩, i 0, i 0, .bool false, i 0, i 0].toList ∧ W.rangeAt bT (oT + 9) #[.string ⟨#[]⟩, i 0, .string ⟨#[]⟩, .string ⟨#[]⟩, i 0, i 0, .bool false, i 0, i 0].toList) := by
      obtain ⟨b0, o0, r0, e0, -, hR0, hr0⟩ := SliceAt.at_ HA9.out.T (j := 0) (by simp)
      obtain ⟨b1, o1, r1, e1, -, hR1, hr1⟩ := SliceAt.at_ HA9.out.T (j := 1) (by simp)
      obtain ⟨rfl, rfl⟩ : b0 = b1 ∧ o0 = o1 := by
        have := e0.symm.trans e1
        simpa using this
      have q0 : r0 = #[.string ⟨#[]⟩, i 0, .string ⟨#[]⟩, .string ⟨#[]⟩, i 0, i 0, .bool false, i 0, i 0].toList := hR0
      have q1 : r1 = #[.string ⟨#[]⟩, i 0, .string ⟨#[]⟩, .string ⟨#[]⟩, i 0, i 0, .bool false, i 0, i 0].toList := hR1
      subst q0 q1
      refine ⟨b0, o0, e0, fun W hb => ⟨fun j v hj => ?_, fun j v hj => ?_⟩⟩
      · have := (Kept.of hb) _ _ (hr0 j v hj)
        simpa using this
      · have := (Kept.of hb) _ _ (hr1 j v hj)
        simpa [Nat.add_assoc] using this
    obtain ⟨bT, oT, rfl, hTX⟩ := HTX.out
    have HTR := Lib.hid hTX
    clear HTX hTX k8
    go_loopg [46] 2 (fun gg s46 wr => ∃ kk : Nat, kk ≤ 2 ∧ 2 - kk ≤ gg ∧ s46 = i kk ∧ Hid (Below w9.heap.size w9 wr))
    case atStart => exact ⟨0, by omega, by omega, rfl, Below.refl _ _⟩
    case round =>
      obtain ⟨kk, hkk, hg9, rfl, HBR⟩ := hrel
      rcases (show kk = 0 ∨ kk = 1 ∨ kk = 2 by omega) with rfl | rfl | rfl
      · have HN9 := Lib.hid (below_call HBR.out (below_new wr (.cells #[.string ⟨#[]⟩, i 0, .string ⟨#[]⟩, .string ⟨#[]⟩, i 0, i 0, .bool false, i 0, i 0] 54)))
        go_wp2_with (refine wpList_load_mid rfl 54 (.tmp 48) rfl bT oT rfl #[.string ⟨#[]⟩, i 0, .string ⟨#[]⟩, .string ⟨#[]⟩, i 0, i 0, .bool false, i 0, i 0].toList _ (HTR.out _ HBR.out).1 Tryz.underlying54 rfl (by kernel_rfl) ?_)
        go_roundg 1
        case measure => omega
        case rel => exact ⟨1, by omega, by omega, by rfl, HN9⟩
      · have HN9 := Lib.hid (below_call HBR.out (below_new wr (.cells #[.string ⟨#[]⟩, i 0, .string ⟨#[]⟩, .string ⟨#[]⟩, i 0, i 0, .bool false, i 0, i 0] 54)))
        go_wp2_with (refine wpList_load_mid rfl 54 (.tmp 48) rfl bT (oT + 9) rfl #[.string ⟨#[]⟩, i 0, .string ⟨#[]⟩, .string ⟨#[]⟩, i 0, i 0, .bool false, i 0, i 0].toList _ (HTR.out _ HBR.out).2 Tryz.underlying54 rfl (by kernel_rfl) ?_)
        go_roundg 0
        case measure => omega
        case rel => exact ⟨2, by omega, by omega, by rfl, HN9⟩
      · have HKy := Lib.hid (HK9.out.call HBR.out)
        have HQx := Lib.hid (HQ9.out.call HBR.out)
        have HBx := Lib.hid (below_call HB9.out HBR.out)
        have HV : Hid (∀ W, Below wr.heap.size wr W → _) := fun W hb => r27valid conn id AQ AO AS cQ cO cS W ⟨hc1, hc2⟩ HID.out HSZ.out (HQx.out.call hb) HAO.out
        clear HK9 HA9 HQ9 HB9 HBR HTR
        have kc := HKy.out.cell
        go_wp2_with fail
        refine (HV.out wr (Below.refl _ _)).mono ?_
        rintro e wz ⟨rfl, hb⟩
        have HBz := Lib.hid (below_call HBx.out hb)
        have HQz := Lib.hid (HQx.out.call hb)
        clear kc
        have kc := (HKy.out.call hb).cell
        obtain ⟨bq, oq, rq, rfl, -, hRq, hrq⟩ := SliceAt.at_ HQz.out (j := 0) (by simp)
        have q0 : rq = (msO ⟨1, 1, 4, conn, id, ⟨#[]⟩⟩).toList := hRq
        subst q0
        have m9 : wz.cell? ⟨bq, oq + 9, none⟩ = some (.string id) := by simpa using hrq 9 _ rfl
        have m3 : wz.cell? ⟨bq, oq + 3, none⟩ = some (i conn) := by simpa using hrq 3 _ rfl
        clear hb hrq HV HQx HKy HBx hRq
        go_wp2_with fail
        go_ret
        exact ⟨rfl, HBz.out⟩
end Stn
end Go.Proofs.YtfaofobhmmedmaaGreatDoor
