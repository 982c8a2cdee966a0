/-
  The statement PriceAnytime: the charges of a tariff of one element that is not restricted do not hang on the zone and the start; the walk.
-/
import Derived.Test.YtndlhhiifmjieaaDoorPriX
namespace Go.Proofs.YtndlhhiifmjieaaDoor
namespace PriW
set_option linter.unusedSimpArgs false
set_option linter.unusedVariables false
open Go.RowKit CalW TarW Prc

theorem free_hours (v mi : Int) : Tar.hours freeW v mi = true := by
  have e : Tar.onW 0 v = true := by
    unfold Tar.onW
    rw [show Tar.dset 0 = 0 by decide]
    simp [Cal.onD]
  show (if (0 : Int) = 0 then Tar.onW 0 v else _) = true
  rw [if_pos rfl, e]
theorem free_holds {z : Int} {s : Bool} {a since en po : Int} (hz : -840 ≤ z ∧ z ≤ 840) (ha : 0 ≤ a ∧ a ≤ 268435456) : Tar.holds freeW z s a since en po = true := by
  unfold Tar.holds
  rw [free_hours, decide_eq_true ⟨hz.1, hz.2, ha.1, ha.2⟩]
  rfl
/-- A context in which nothing is out of range, for n minutes. -/
def CxOk (c : Cx) (n : Nat) : Prop := (-840 ≤ c.z ∧ c.z ≤ 840) ∧ 0 ≤ c.start ∧ c.start + n ≤ 268435456
theorem place_free {c : Cx} {n m : Nat} (h : CxOk c n) (hm : m ≤ n) (en po k : Int) (cs : List Comp) : place (c.P m en po) k [⟨cs, freeW⟩] 0 = (cs.find? (isK k)).map (fun x => (0, x)) := by
  have hf : c.P m en po freeW = true := free_holds h.1 ⟨by have := h.2.1; omega, by have := h.2.2; omega⟩
  unfold place elemC
  rw [if_pos hf]
  cases cs.find? (isK k) with
  | none => rfl
  | some x => rfl
theorem add_free {c d : Cx} {n m : Nat} (h : CxOk c n) (h2 : CxOk d n) (hm : m ≤ n) (en po k q : Int) (cs : List Comp) (st : St) : addS [⟨cs, freeW⟩] (c.P m en po) k q st = addS [⟨cs, freeW⟩] (d.P m en po) k q st := by
  unfold addS
  rw [place_free h hm, place_free h2 hm]
theorem run_free {c d : Cx} (us : List Prc.Use) (h : CxOk c us.length) (h2 : CxOk d us.length) (cs : List Comp) : ∀ k, k ≤ us.length → runTo [⟨cs, freeW⟩] c us k = runTo [⟨cs, freeW⟩] d us k
  | 0, _ => add_free (m := 0) h h2 (Nat.zero_le _) 0 (pow0 us) 1 1 cs st0
  | k + 1, hk => by
    rw [runTo_succ (show k < us.length by omega), runTo_succ (show k < us.length by omega), run_free us h h2 cs k (by omega)]
    unfold minuteS
    rw [add_free h h2 (show k ≤ us.length by omega), add_free h h2 (show k ≤ us.length by omega)]
theorem cx_ok {t : Trf} {c : Cx} {us : List Prc.Use} (h : runE t c us = 0) : CxOk c us.length := by
  obtain ⟨_, h2, h3, _, h5, h6, _⟩ := runE_zero h
  exact ⟨⟨h2, h3⟩, h5, h6⟩
/-- THE PLAIN LAW. -/
theorem any_same {t : Trf} {cs : List Comp} (ht : t.els = [⟨cs, freeW⟩]) {c d : Cx} {us : List Prc.Use} (h : runE t c us = 0) (h2 : runE t d us = 0) : runV t c us = runV t d us := by
  unfold runV
  rw [if_pos h, if_pos h2, ht, run_free us (cx_ok h) (cx_ok h2) cs us.length (Nat.le_refl _)]

abbrev fE (u : Value) : Array Value := #[u, i 0, i 0, i 0, i (-1), i (-1), i (-1), i (-1), i (-1), i (-1), i (-1), i (-1)]
def yΦ (B g3 g7 b off n cp : Nat) (u1 : Value) (k : Nat) (y : Value) (w : World) : Prop := match k with
  | 0 => y = .agg freeA
  | 1 => y = .pointer (some ⟨g3, 0, none⟩)
  | 2 => y = .pointer (some ⟨g3, 5, none⟩)
  | 3 => y = .slice (some ⟨b, off, none⟩) n cp
  | 4 => y = .pointer (some ⟨b, off, none⟩)
  | 5 => y = .pointer (some ⟨b, off, none⟩)
  | 6 => y = u1
  | 7 => y = .agg (fE u1)
  | 8 => ∃ g, y = .slice (some ⟨g, 0, none⟩) 1 1 ∧ B ≤ g ∧ Blk w g 55 (fE u1)
  | 9 => y = .pointer (some ⟨g7, 5, none⟩)
  | _ => True
theorem yΦ_keep {B g3 g7 b off n cp : Nat} {u1 : Value} {w w' : World} (h : Below w.heap.size w w') : ∀ k u, yΦ B g3 g7 b off n cp u1 k u w → yΦ B g3 g7 b off n cp u1 k u w' := by
  intro k u hk
  unfold yΦ at *
  split at hk
  all_goals first | exact hk | trivial | (obtain ⟨g, a, c, d⟩ := hk; exact ⟨g, a, c, d.call h⟩)
/-- Behind 't.Elements = []api.Element{{..}}'. -/
def YR (W : World) (t : Trf) (cs : List Comp) (g7 : Nat) (wc : World) : Prop := ∃ u, Blk wc g7 26 (trA t u) ∧ ElemsAt wc u [⟨cs, freeW⟩] ∧ (∀ g tt cc, Blk W g tt cc → g ≠ g7 → Blk wc g tt cc) ∧ ∀ B0 W0, Below B0 W0 W → B0 ≤ g7 → B0 ≤ W.heap.size → Below B0 W0 wc

set_option maxRecDepth 100000 in
set_option maxHeartbeats 1000000 in
theorem law_anytime (t : Trf) (u : Value) (c : Cx) (v : Value) (us : List Prc.Use) (start z : Int) (s : Bool) (w : World) (ht : Tab w) (hE : ElemsAt w u t.els) (hid : t.id.size ≤ maxLen) (hcur : t.cur.size ≤ maxLen) (hU : UsesAt w v us) :
    Calls Tryd.prog 7 #[.agg (caseA t u c v), i start, zone z s] w (LawPost w) := by
  have hb0 := below_alloc (below_new w (.cells (caseA t u c v) 31)) (.cells #[i z, .bool s] 28)
  have HSM := Lib.hid (small t u c v us _ (hE.call hb0) (hU.call hb0))
  have HT := Lib.hid (fun W (hb : Below w.heap.size w W) => example_holds W (ht.below hb ht.lt))
  have HTT := Lib.hid ht
  have HE := Lib.hid hE
  have HU := Lib.hid hU
  have HI := Lib.hid (And.intro hid hcur)
  have HB := Lib.hid hb0
  have hk := (Blk.new w 31 (caseA t u c v)).alloc (.cells #[i z, .bool s] 28)
  have hz := Blk.new' (w := w.alloc (.cells (caseA t u c v) 31)) (g := w.heap.size + 1) (by simp) 28 #[i z, .bool s]
  have HK := Lib.hid hk
  have HZ := Lib.hid hz
  have kc := hk.cell
  have kl := hz.lt
  clear hk hz hb0 ht hE hid hcur hU
  go_enter Tryd.func7, Tryd.ntmps7
  go_upto_region 1 with (fail)
  generalize (w.alloc (.cells (caseA t u c v) 31)).alloc (.cells #[i z, .bool s] 28) = w0 at *
  go_wp2_with fail
  refine HSM.out.mono ?_
  rintro e w1 ⟨b, rfl, -, hb1⟩
  have HB1 := Lib.hid (below_call HB.out hb1)
  have HK1 := Lib.hid (HK.out.call hb1)
  have HZ1 := Lib.hid (HZ.out.call hb1)
  have kl1 : w.heap.size + 1 < w1.heap.size := by have := hb1.size; omega
  have kc1 := HK1.out.cell
  clear kc hb1 HK HZ kl HSM
  cases b with
  | false =>
    go_wp2_with fail
    refine (HT.out _ HB1.out).mono ?_
    rintro e w2 ⟨rfl, hb2⟩
    go_wp2_with fail
    go_ret
    exact ⟨rfl, below_call HB1.out hb2⟩
  | true =>
    obtain ⟨A, cp, rfl, h3, h4⟩ := SliceAt.form HE.out
    unfold maxLen at h4
    by_cases hn : t.els.length < 1
    · have hnz : (t.els.length : Int) < 1 := by omega
      go_wp2_with fail
      refine (HT.out _ HB1.out).mono ?_
      rintro e w2 ⟨rfl, hb2⟩
      go_wp2_with fail
      go_ret
      exact ⟨rfl, below_call HB1.out hb2⟩
    · have hnz : ¬ (t.els.length : Int) < 1 := by omega
      have hn0 : 0 < t.els.length := by omega
      have hn1 : (0 : Int) < (t.els.length : Int) := by omega
      obtain ⟨b, off, u1, rfl, hbl, hu1, hrow⟩ := ElemsAt.at_ HE.out hn0
      obtain ⟨A2, c2, rfl, h5, h6⟩ := SliceAt.form hu1
      have HU1 := Lib.hid hu1
      have HROW := Lib.hid hrow
      clear hu1 hrow
      generalize t.els[0].cs = cs0 at *
      go_upto_region 4 with (fail)
      have HB2 := Lib.hid (below_alloc HB1.out (.cells (trA t (.slice (some ⟨b, off, none⟩) t.els.length cp)) 26))
      have HK2 := Lib.hid (HK1.out.alloc (.cells (trA t (.slice (some ⟨b, off, none⟩) t.els.length cp)) 26))
      have HZ2 := Lib.hid (HZ1.out.alloc (.cells (trA t (.slice (some ⟨b, off, none⟩) t.els.length cp)) 26))
      have H7 := Lib.hid (Blk.new w1 26 (trA t (.slice (some ⟨b, off, none⟩) t.els.length cp)))
      have hl7 : w1.heap.size < (w1.alloc (.cells (trA t (.slice (some ⟨b, off, none⟩) t.els.length cp)) 26)).heap.size := H7.out.lt
      have hs1 := HB1.out.size
      clear kc1 HB1 HK1 HZ1
      generalize w1.alloc (.cells (trA t (.slice (some ⟨b, off, none⟩) t.els.length cp)) 26) = w2 at *
      generalize w1.heap.size = g7 at *
      generalize hg3 : w.heap.size = g3 at *
      have HG3 := Lib.hid hg3
      clear hg3
      go_cut [] (fun wc => YR w2 t cs0 g7 wc)
      case first =>
        refine Reg3.region 10 (fun w' => Below w2.heap.size w2 w') (yΦ w2.heap.size g3 g7 b off t.els.length cp (.slice A2 cs0.length c2)) (by kernel_rfl) (by kernel_rfl) ?_ (Below.drew (Below.refl _ _)) ?_ ?_
        · exact Reg3.in_of (n := 68) (by kernel_rfl) rfl
        · intro idx o hj0 ho a' w' hG hop
          have hj' : idx = 0 ∨ idx = 1 ∨ idx = 2 ∨ idx = 3 ∨ idx = 4 ∨ idx = 5 ∨ idx = 6 ∨ idx = 7 ∨ idx = 8 ∨ idx = 9 := by omega
          have k3 := (HK2.out.call hG).cell
          have hbw : Below w.heap.size w w' := by rw [HG3.out]; exact HB2.out.trans (hG.mono (by omega))
          obtain ⟨l0, -⟩ := HROW.out w' (Kept.of hbw)
          simp only [Nat.zero_mul, Nat.add_zero] at l0
          clear hbw
          rcases hj' with rfl | rfl | rfl | rfl | rfl | rfl | rfl | rfl | rfl | rfl
          all_goals
            obtain rfl := Option.some.inj ho
            clear ho hj0
          · skip
            go_simp
            refine (always_ w').mono ?_
            rintro e w'' ⟨rfl, rfl⟩
            exact ⟨_, rfl, below_alloc hG _, rfl, fun k u _ _ _ h => yΦ_keep (below_new _ _) k u h⟩
          · skip
            have h3 : a'.tmps[3]?.getD undef = .pointer (some ⟨g3, 0, none⟩) := (Array.getD_eq_getD_getElem? ..).symm.trans (hop 3 (by simp [Op.operands]))
            go_simp
            exact ⟨hG, rfl, fun k u _ _ _ h => h⟩
          · skip
            have h26 : a'.tmps[26]?.getD undef = .pointer (some ⟨g3, 0, none⟩) := (Array.getD_eq_getD_getElem? ..).symm.trans (hop 26 (by simp [Op.operands]))
            go_simp
            exact ⟨hG, rfl, fun k u _ _ _ h => h⟩
          · skip
            have h27 : a'.tmps[27]?.getD undef = .pointer (some ⟨g3, 5, none⟩) := (Array.getD_eq_getD_getElem? ..).symm.trans (hop 27 (by simp [Op.operands]))
            go_simp
            exact ⟨hG, rfl, fun k u _ _ _ h => h⟩
          · skip
            have h28 : a'.tmps[28]?.getD undef = .slice (some ⟨b, off, none⟩) t.els.length cp := (Array.getD_eq_getD_getElem? ..).symm.trans (hop 28 (by simp [Op.operands]))
            go_simp
            exact ⟨hG, rfl, fun k u _ _ _ h => h⟩
          · skip
            have h29 : a'.tmps[29]?.getD undef = .pointer (some ⟨b, off, none⟩) := (Array.getD_eq_getD_getElem? ..).symm.trans (hop 29 (by simp [Op.operands]))
            go_simp
            exact ⟨hG, rfl, fun k u _ _ _ h => h⟩
          · skip
            have h30 : a'.tmps[30]?.getD undef = .pointer (some ⟨b, off, none⟩) := (Array.getD_eq_getD_getElem? ..).symm.trans (hop 30 (by simp [Op.operands]))
            go_simp
            exact ⟨hG, rfl, fun k u _ _ _ h => h⟩
          · skip
            have h25 : a'.tmps[25]?.getD undef = .agg freeA := (Array.getD_eq_getD_getElem? ..).symm.trans (hop 25 (by simp [Op.operands]))
            have h31 : a'.tmps[31]?.getD undef = .slice A2 cs0.length c2 := (Array.getD_eq_getD_getElem? ..).symm.trans (hop 31 (by simp [Op.operands]))
            go_simp
            exact ⟨hG, rfl, fun k u _ _ _ h => h⟩
          · skip
            have h32 : a'.tmps[32]?.getD undef = .agg (fE (.slice A2 cs0.length c2)) := (Array.getD_eq_getD_getElem? ..).symm.trans (hop 32 (by simp [Op.operands]))
            go_simp
            exact ⟨below_alloc hG _, ⟨_, rfl, hG.size, Blk.new _ _ _⟩, fun k u _ _ _ h => yΦ_keep (below_new _ _) k u h⟩
          · skip
            have h7 : a'.tmps[7]?.getD undef = .pointer (some ⟨g7, 0, none⟩) := (Array.getD_eq_getD_getElem? ..).symm.trans (hop 7 (by simp [Op.operands]))
            go_simp
            exact ⟨hG, rfl, fun k u _ _ _ h => h⟩
        · intro vals w' hG hΦ
          obtain ⟨g8, hv8, hg8, b8⟩ := hΦ 8 (by omega)
          have hv9 : vals 9 = .pointer (some ⟨g7, 5, none⟩) := hΦ 9 (by omega)
          have b7 := H7.out.call hG
          have c7 := b7.cell
          have f7 := b7.frozen
          have HR : Hid (YR w2 t cs0 g7 (w'.setCell ⟨g7, 5, none⟩ (.slice (some ⟨g8, 0, none⟩) 1 1))) := by
            have hb : Below w.heap.size w w' := by rw [HG3.out]; exact HB2.out.trans (hG.mono (by omega))
            refine ⟨_, b7.set_ 5 _, ?_, fun g tt cc hb hg => Blk.far (hb.call hG) hg _, fun B0 W0 hb hg hs => ((hb.trans (hG.mono hs))).setCell (p := ⟨g7, 5, none⟩) hg _⟩
            have h88 : g8 ≠ g7 := by omega
            have hx : CompsAt (w'.setCell ⟨g7, 5, none⟩ (.slice (some ⟨g8, 0, none⟩) 1 1)) (.slice A2 cs0.length c2) cs0 := by
              refine HU1.out.keep (fun p x hp => ?_)
              have hlt := World.block_lt_of_cell? w p hp
              have hg3 := HG3.out
              rw [World.cell?_setCell_far _ _ _ _ (show g7 ≠ p.block by omega)]
              exact Kept.of hb p x hp
            exact slice_of_blk (rs := [.slice A2 cs0.length c2 :: whL freeW]) (by omega) (b8.far (p := ⟨g7, 5, none⟩) h88 _) rfl (rows_c rfl ⟨_, rfl, hx⟩ rows_nil) rfl (by unfold maxLen; omega)
          simp only [Reg3.puts, Reg3.dstOf, List.range, List.range.loop, if_true, List.drop_succ_cons, List.drop_zero, hv8, hv9]
          clear hG hΦ b8 b7 hv8 hv9
          go_wp2_with fail
          go_meet
          exact HR.out
      case rest =>
        obtain ⟨uu, b7, hEE, hkp, hbl2⟩ := hcut
        have hb7 : w.heap.size ≤ g7 := by rw [HG3.out]; exact hs1
        have hb2 : Below w.heap.size w w2 := by rw [HG3.out]; exact HB2.out
        have HBC : Hid (Below w.heap.size w wc) := hbl2 w.heap.size w hb2 hb7 hb2.size
        have HKC := Lib.hid (hkp g3 _ _ HK2.out (by omega))
        have HZC := Lib.hid (hkp (g3 + 1) _ _ HZ2.out (by omega))
        have H7C := Lib.hid b7
        have HEC := Lib.hid hEE
        clear hkp hbl2 hb7 hb2 b7 hEE HK2 HZ2 H7 HB2
        have HT2 := HT
        rw [← HG3.out] at HT2
        obtain ⟨t2, ht2⟩ : ∃ t2 : Trf, t2 = ⟨t.id, t.cur, t.ver, t.fr, t.to, [⟨cs0, freeW⟩], t.least, t.most⟩ := ⟨_, rfl⟩
        have HR1 : Hid (∀ W, Below w.heap.size w W → ElemsAt W uu [⟨cs0, freeW⟩] → Calls Tryd.prog 10 #[.agg (trA t uu), zone c.z c.s, i c.start, v] W (RunPost t2 c us W)) := by
          intro W hb hx
          subst ht2
          exact run ⟨t.id, t.cur, t.ver, t.fr, t.to, [⟨cs0, freeW⟩], t.least, t.most⟩ uu c us v W (HTT.out.below hb HTT.out.lt) hx HI.out.1 HI.out.2 (HU.out.call hb)
        have HR2 : Hid (∀ W, Below w.heap.size w W → ElemsAt W uu [⟨cs0, freeW⟩] → Calls Tryd.prog 10 #[.agg (trA t uu), zone z s, i start, v] W (RunPost t2 ⟨z, s, start⟩ us W)) := by
          intro W hb hx
          subst ht2
          exact run ⟨t.id, t.cur, t.ver, t.fr, t.to, [⟨cs0, freeW⟩], t.least, t.most⟩ uu ⟨z, s, start⟩ us v W (HTT.out.below hb HTT.out.lt) hx HI.out.1 HI.out.2 (HU.out.call hb)
        have HSAME : Hid (runE t2 c us = 0 → runE t2 ⟨z, s, start⟩ us = 0 → runV t2 c us = runV t2 ⟨z, s, start⟩ us) := fun a b => any_same (by rw [ht2]) a b
        clear ht2
        have kc := HKC.out.cell
        have c7 := H7C.out.cell
        go_wp2_with fail
        refine (HR1.out _ HBC.out HEC.out).mono ?_
        rintro e w4 ⟨va, rfl, hva, hb4⟩
        have HB4 := Lib.hid (below_call HBC.out hb4)
        have HVA := Lib.hid hva
        have HE4 := Lib.hid (HEC.out.call hb4)
        have kc4 := (HKC.out.call hb4).cell
        have c74 := (H7C.out.call hb4).cell
        have z4 := (HZC.out.call hb4).cell
        clear kc c7 hva hb4 HKC HZC H7C HEC
        go_wp2_with fail
        refine (HR2.out _ HB4.out HE4.out).mono ?_
        rintro e w5 ⟨vb, rfl, hvb, hb5⟩
        have HB5 := Lib.hid (below_call HB4.out hb5)
        have HVB := Lib.hid hvb
        have HV5 := Lib.hid (HVA.out.call hb5)
        clear kc4 c74 z4 hb5 hvb HR1 HR2
        generalize runV t2 c us = va1 at *
        generalize runV t2 ⟨z, s, start⟩ us = va2 at *
        generalize runE t2 c us = E1 at *
        generalize runE t2 ⟨z, s, start⟩ us = E2 at *
        by_cases hE1 : E1 = 0
        · subst hE1
          by_cases hE2 : E2 = 0
          · subst hE2
            have hva := HSAME.out rfl rfl
            subst hva
            have HS := Lib.hid (rsame va vb _ w5 HV5.out HVB.out)
            clear HSAME
            go_wp2_with fail
            refine HS.out.mono ?_
            rintro e w6 ⟨rfl, n6, rfl⟩
            go_wp2_with fail
            refine (HT2.out _ (below_drewN' HB5.out _)).mono ?_
            rintro e w7 ⟨rfl, hb7⟩
            go_wp2_with fail
            go_ret
            exact ⟨rfl, below_call (below_drewN' HB5.out _) hb7⟩
          · have hE2b : (E2 != 0) = true := bne_iff_ne.2 hE2
            clear hE2 HSAME
            go_wp2_with fail
            refine (HT2.out _ HB5.out).mono ?_
            rintro e w6 ⟨rfl, hb6⟩
            go_wp2_with fail
            go_ret
            exact ⟨rfl, below_call HB5.out hb6⟩
        · have hE1b : (E1 != 0) = true := bne_iff_ne.2 hE1
          clear hE1 HSAME
          go_wp2_with fail
          refine (HT2.out _ HB5.out).mono ?_
          rintro e w6 ⟨rfl, hb6⟩
          go_wp2_with fail
          go_ret
          exact ⟨rfl, below_call HB5.out hb6⟩
end PriW
end Go.Proofs.YtndlhhiifmjieaaDoor
