/-
  The walks of tariff.Valid and of the reference's Valid.
-/
import Derived.Test.YtndlhhiifmjieaaDoorTarY
namespace Go.Proofs.YtndlhhiifmjieaaDoor
namespace TarW
set_option linter.unusedSimpArgs false
set_option linter.unusedVariables false
open Go.RowKit CalW

def moneyOk (t : Trf) : Bool := optOk t.least 0 1099511627776 && optOk t.most 0 1099511627776
def crossed (t : Trf) : Bool := decide (t.least ≠ -1 ∧ t.most ≠ -1 ∧ t.most < t.least)
structure VT (t : Trf) (V : Int) : Prop where
  a : IdW.identOk t.id = false → V = 4
  b : IdW.identOk t.id = true → curOk t.cur = false → V = 21
  c : IdW.identOk t.id = true → curOk t.cur = true → headOk t = false → V = 2
  d : IdW.identOk t.id = true → curOk t.cur = true → headOk t = true → moneyOk t = false → V = 2
  e : IdW.identOk t.id = true → curOk t.cur = true → headOk t = true → moneyOk t = true → crossed t = true → V = 1
  f : IdW.identOk t.id = true → curOk t.cur = true → headOk t = true → moneyOk t = true → crossed t = false → t.els.length = 0 → V = 1
  g : IdW.identOk t.id = true → curOk t.cur = true → headOk t = true → moneyOk t = true → crossed t = false → 0 < t.els.length → 16 < t.els.length → V = 3
  h : IdW.identOk t.id = true → curOk t.cur = true → headOk t = true → moneyOk t = true → crossed t = false → 0 < t.els.length → t.els.length ≤ 16 → V = scan (elE t.els) t.els.length 0
theorem validT_vt (t : Trf) : VT t (validT t) := by
  constructor
  all_goals intros
  all_goals unfold validT
  · rw [if_pos (by assumption)]
  · rw [if_neg (by simp_all), if_pos (by assumption)]
  · rw [if_neg (by simp_all), if_neg (by simp_all), if_pos (by assumption)]
  · rw [if_neg (by simp_all), if_neg (by simp_all), if_neg (by simp_all), if_pos (by assumption)]
  · rename_i h1 h2 h3 h4 h5
    unfold moneyOk at h4
    rw [if_neg (by simp_all), if_neg (by simp_all), if_neg (by simp_all), if_neg (by simp_all), if_pos (of_decide_eq_true h5)]
  · rename_i h1 h2 h3 h4 h5 h6
    unfold moneyOk at h4
    rw [if_neg (by simp_all), if_neg (by simp_all), if_neg (by simp_all), if_neg (by simp_all), if_neg (of_decide_eq_false h5), if_pos h6]
  · rename_i h1 h2 h3 h4 h5 h6 h7
    unfold moneyOk at h4
    rw [if_neg (by simp_all), if_neg (by simp_all), if_neg (by simp_all), if_neg (by simp_all), if_neg (of_decide_eq_false h5), if_neg (by omega), if_pos h7]
  · rename_i h1 h2 h3 h4 h5 h6 h7
    unfold moneyOk at h4
    rw [if_neg (by simp_all), if_neg (by simp_all), if_neg (by simp_all), if_neg (by simp_all), if_neg (of_decide_eq_false h5), if_neg (by omega), if_neg (by omega)]

theorem elE_at {es : List Elem} {k : Nat} (hk : k < es.length) : elE es k = elemE es[k] := by
  unfold elE
  rw [List.getElem?_eq_getElem hk]

abbrev trfC (t : Trf) (v : Value) : Array Value := #[.string t.id, .string t.cur, i t.ver, i t.fr, i t.to, v, i t.least, i t.most]

set_option maxRecDepth 100000 in
set_option maxHeartbeats 4000000 in
theorem valid_ (t : Trf) (v : Value) (w : World) (h : ElemsAt w v t.els) (hid : t.id.size ≤ maxLen) (hcur : t.cur.size ≤ maxLen) :
    Calls Tryd.prog 20 #[trfV t v] w fun r w' => r = .returned (i (validT t)) ∧ Below w.heap.size w w' := by
  obtain ⟨A, c, rfl, h1, h2⟩ := SliceAt.form h
  unfold maxLen at h2
  have HVT := Lib.hid (validT_vt t)
  generalize validT t = V at *
  have b0 := Blk.new w 26 (trfC t (.slice A t.els.length c))
  have hb0 := below_new w (.cells (trfC t (.slice A t.els.length c)) 26)
  have HI := Lib.hid hid
  have HC := Lib.hid hcur
  clear hid hcur
  go_enter Tryd.func20, Tryd.ntmps20
  go_wp2_with fail
  refine (IdW.valid_ t.id _ HI.out).mono ?_
  rintro r w1 ⟨rfl, hb1⟩
  have b1 := b0.call hb1
  have hb2 := below_call hb0 hb1
  have hE := h.call hb2
  have HE := Lib.hid hE
  have c1 := b1.cell
  have s1 := b1.lt
  clear h hE hb0 hb1 b0
  cases g1 : IdW.identOk t.id with
  | false =>
    have HV := Lib.hid (HVT.out.a g1)
    clear g1
    go_wp2_with fail
    go_ret
    exact ⟨ret1 HV.out.symm, hb2⟩
  | true =>
  have G1 := Lib.hid g1
  clear g1
  go_wp2_with fail
  refine (currency t.cur _ HC.out).mono ?_
  rintro r w' ⟨rfl, rfl⟩
  cases g2 : curOk t.cur with
  | false =>
    have HV := Lib.hid (HVT.out.b G1.out g2)
    clear g2
    go_wp2_with fail
    go_ret
    exact ⟨ret1 HV.out.symm, hb2⟩
  | true =>
  have G2 := Lib.hid g2
  clear g2
  go_upto_region 5 with (fail)
  go_cut [43] (fun s43 wc => s43 = .bool (!headOk t) ∧ wc = w1)
  case first =>
    go_wp2_with (go_at_call 33; refine (optional _ _ _ _ rfl).mono ?_; rintro r w' ⟨rfl, rfl⟩)
    all_goals go_meet
    all_goals
      refine ⟨valB' ?_, rfl⟩
      go_light
      clear c1 HVT HE
      unfold headOk
      rw [Bool.eq_iff_iff]
      simp_all
    all_goals omega
  case rest =>
  obtain ⟨rfl, rfl⟩ := hcut
  cases g3 : headOk t with
  | false =>
    have HV := Lib.hid (HVT.out.c G1.out G2.out g3)
    clear g3
    go_wp2_with fail
    go_ret
    exact ⟨ret1 HV.out.symm, hb2⟩
  | true =>
  have G3 := Lib.hid g3
  clear g3
  go_upto_region 7 with (fail)
  go_cut [53] (fun s53 wd => s53 = .bool (!moneyOk t) ∧ wd = wc)
  case first =>
    go_wp2_with (go_at_call 33; refine (optional _ _ _ _ rfl).mono ?_; rintro r w' ⟨rfl, rfl⟩)
    all_goals go_meet
    all_goals
      refine ⟨valB' ?_, rfl⟩
      go_light
      clear c1 HVT HE
      unfold moneyOk
      rw [Bool.eq_iff_iff]
      simp_all
  case rest =>
  obtain ⟨rfl, rfl⟩ := hcut
  cases g4 : moneyOk t with
  | false =>
    have HV := Lib.hid (HVT.out.d G1.out G2.out G3.out g4)
    clear g4
    go_wp2_with fail
    go_ret
    exact ⟨ret1 HV.out.symm, hb2⟩
  | true =>
  have G4 := Lib.hid g4
  clear g4
  go_upto_region 9 with (fail)
  go_cut [68] (fun s68 we => s68 = .bool (crossed t) ∧ we = wc)
  case first =>
    go_wp2_with fail
    all_goals go_meet
    all_goals
      refine ⟨valB' ?_, rfl⟩
      go_light
      clear c1 HVT HE
      unfold crossed
      rw [Bool.eq_iff_iff]
      simp_all
  case rest =>
  obtain ⟨rfl, rfl⟩ := hcut
  cases g5 : crossed t with
  | true =>
    have HV := Lib.hid (HVT.out.e G1.out G2.out G3.out G4.out g5)
    clear g5
    go_wp2_with fail
    go_ret
    exact ⟨ret1 HV.out.symm, hb2⟩
  | false =>
  have G5 := Lib.hid g5
  clear g5
  by_cases g6 : t.els.length = 0
  · have HV := Lib.hid (HVT.out.f G1.out G2.out G3.out G4.out G5.out g6)
    have q : ((t.els.length : Int) == 0) = true := by rw [beq_iff_eq]; omega
    clear g6
    go_wp2_with fail
    go_ret
    exact ⟨ret1 HV.out.symm, hb2⟩
  have g7 : 0 < t.els.length := by omega
  have q : ((t.els.length : Int) == 0) = false := beq_eq_false_iff_ne.2 (by omega)
  clear g6
  by_cases g8 : 16 < t.els.length
  · have HV := Lib.hid (HVT.out.g G1.out G2.out G3.out G4.out G5.out g7 g8)
    have q1 : (16 : Int) < (t.els.length : Int) := by omega
    go_wp2_with fail
    go_ret
    exact ⟨ret1 HV.out.symm, hb2⟩
  have HV := Lib.hid (HVT.out.h G1.out G2.out G3.out G4.out G5.out g7 (by omega))
  have q1 : (t.els.length : Int) ≤ 16 := by omega
  clear HVT G1 G2 G3 G4 G5 g8
  go_wp2_with fail
  generalize t.els = es at *
  go_loopg [80] es.length (fun gg s80 wr => ∃ kk : Nat, kk ≤ es.length ∧ es.length - kk ≤ gg ∧ s80 = i kk ∧ Hid (Below wc.heap.size wc wr) ∧ Hid (scan (elE es) es.length 0 = scan (elE es) es.length kk))
  case atStart => exact ⟨0, Nat.zero_le _, by omega, rfl, Below.refl _ _, rfl⟩
  case round =>
    obtain ⟨kk, hkk, hg, rfl, BW, HA⟩ := hrel
    by_cases hlt : kk < es.length
    · have hltz : (kk : Int) < (es.length : Int) := by omega
      obtain ⟨b, off, u, rfl, _, hu, hrow⟩ := ElemsAt.at_ HE.out hlt
      have hcells := hrow wr (Kept.of BW.out)
      have hu1 := hu.call BW.out
      have hel := elE_at hlt
      clear hrow hu
      generalize es[kk] = y at *
      obtain ⟨A1, c1', rfl, h3, h4⟩ := SliceAt.form hu1
      unfold maxLen at h4
      obtain ⟨l0, l1, l2, l3, l4, l5, l6, l7, l8, l9, l10, l11⟩ := hcells
      have hu2 := hu1.call (below_new wr (.cells #[.slice A1 y.cs.length c1', i y.wh.s, i y.wh.e, i y.wh.d, i y.wh.f, i y.wh.t, i y.wh.e0, i y.wh.e1, i y.wh.p0, i y.wh.p1, i y.wh.t0, i y.wh.t1] 55))
      have hbw := below_alloc BW.out (.cells #[.slice A1 y.cs.length c1', i y.wh.s, i y.wh.e, i y.wh.d, i y.wh.f, i y.wh.t, i y.wh.e0, i y.wh.e1, i y.wh.p0, i y.wh.p1, i y.wh.t0, i y.wh.t1] 55)
      have HEL := Lib.hid hel
      clear hel
      go_wp2_with fail
      refine (validElement y _ _ hu2).mono ?_
      rintro r w2 ⟨rfl, hb3⟩
      have bb := below_call hbw hb3
      cases hz : (elemE y != 0) with
      | true =>
        have hz' : elE es kk ≠ 0 := by rw [HEL.out]; simpa using hz
        have HV2 := Lib.hid (HV.out.trans (HA.out.trans ((scan_hit hlt hz').trans HEL.out)))
        clear hz'
        go_wp2_with fail
        go_ret
        exact ⟨ret1 HV2.out.symm, below_call hb2 bb⟩
      | false =>
        have HN := Lib.hid (HA.out.trans (scan_next hlt (by rw [HEL.out]; simpa using hz)))
        go_wp2_with fail
        go_roundg (es.length - (kk + 1))
        case measure => omega
        case rel => exact ⟨kk + 1, by omega, by omega, by go_num, bb, HN.out⟩
    · have hltz : ¬ (kk : Int) < (es.length : Int) := by omega
      have HV2 := Lib.hid (HV.out.trans (HA.out.trans (scan_end (by omega))))
      go_wp2_with fail
      go_ret
      exact ⟨ret1 HV2.out.symm, below_call hb2 BW.out⟩

set_option maxRecDepth 100000 in
set_option maxHeartbeats 4000000 in
theorem rvalid_ (t : Trf) (v : Value) (w : World) (h : ElemsAt w v t.els) (hid : t.id.size ≤ maxLen) (hcur : t.cur.size ≤ maxLen) :
    Calls Tryd.prog 36 #[trfV t v] w fun r w' => r = .returned (i (validT t)) ∧ Below w.heap.size w w' := by
  obtain ⟨A, c, rfl, h1, h2⟩ := SliceAt.form h
  unfold maxLen at h2
  have HVT := Lib.hid (validT_vt t)
  generalize validT t = V at *
  have b0 := Blk.new w 26 (trfC t (.slice A t.els.length c))
  have hb0 := below_new w (.cells (trfC t (.slice A t.els.length c)) 26)
  have HI := Lib.hid hid
  have HC := Lib.hid hcur
  clear hid hcur
  go_enter Tryd.func36, Tryd.ntmps36
  go_wp2_with fail
  refine (IdW.rvalid t.id _ HI.out).mono ?_
  rintro r w1 ⟨rfl, m1, hm1⟩
  have hb1 : Below (w.alloc (.cells (trfC t (.slice A t.els.length c)) 26)).heap.size (w.alloc (.cells (trfC t (.slice A t.els.length c)) 26)) w1 := by rw [hm1]; exact below_drewN' (Below.refl _ _) _
  clear hm1
  have b1 := b0.call hb1
  have hb2 := below_call hb0 hb1
  have hE := h.call hb2
  have HE := Lib.hid hE
  have c1 := b1.cell
  have s1 := b1.lt
  clear h hE hb0 hb1 b0
  cases g1 : IdW.identOk t.id with
  | false =>
    have HV := Lib.hid (HVT.out.a g1)
    clear g1
    go_wp2_with fail
    go_ret
    exact ⟨ret1 HV.out.symm, hb2⟩
  | true =>
  have G1 := Lib.hid g1
  clear g1
  go_wp2_with fail
  refine (rcurrency t.cur _ HC.out).mono ?_
  rintro r w' ⟨rfl, rfl⟩
  cases g2 : curOk t.cur with
  | false =>
    have HV := Lib.hid (HVT.out.b G1.out g2)
    clear g2
    go_wp2_with fail
    go_ret
    exact ⟨ret1 HV.out.symm, hb2⟩
  | true =>
  have G2 := Lib.hid g2
  clear g2
  go_upto_region 5 with (fail)
  go_cut [39] (fun s43 wc => s43 = .bool (!headOk t) ∧ wc = w1)
  case first =>
    cases ht : (t.to != -1)
    all_goals
      have HTO := Lib.hid ht
      go_wp2_with (go_at_call 56; refine (rin _ _ _ _ rfl).mono ?_; rintro r w' ⟨rfl, rfl⟩)
    all_goals go_meet
    all_goals
      refine ⟨valB' ?_, rfl⟩
      go_light
      have hto := HTO.out
      clear c1 HVT HE HTO
      unfold headOk optOk
      rw [Bool.eq_iff_iff]
      simp_all
    all_goals omega
  case rest =>
  obtain ⟨rfl, rfl⟩ := hcut
  cases g3 : headOk t with
  | false =>
    have HV := Lib.hid (HVT.out.c G1.out G2.out g3)
    clear g3
    go_wp2_with fail
    go_ret
    exact ⟨ret1 HV.out.symm, hb2⟩
  | true =>
  have G3 := Lib.hid g3
  clear g3
  go_upto_region 7 with (fail)
  go_cut [49] (fun s53 wd => s53 = .bool (!moneyOk t) ∧ wd = wc)
  case first =>
    go_wp2_with (go_at_call 57; refine (rlimit _ _ _ rfl).mono ?_; rintro r w' ⟨rfl, rfl⟩)
    all_goals go_meet
    all_goals
      refine ⟨valB' ?_, rfl⟩
      go_light
      clear c1 HVT HE
      unfold moneyOk
      rw [Bool.eq_iff_iff]
      simp_all
  case rest =>
  obtain ⟨rfl, rfl⟩ := hcut
  cases g4 : moneyOk t with
  | false =>
    have HV := Lib.hid (HVT.out.d G1.out G2.out G3.out g4)
    clear g4
    go_wp2_with fail
    go_ret
    exact ⟨ret1 HV.out.symm, hb2⟩
  | true =>
  have G4 := Lib.hid g4
  clear g4
  go_upto_region 9 with (fail)
  go_cut [70] (fun s68 we => s68 = .bool (crossed t || (t.els.length : Int) == 0) ∧ we = wc)
  case first =>
    go_wp2_with fail
    all_goals go_meet
    all_goals
      refine ⟨valB' ?_, rfl⟩
      go_light
      clear c1 HVT HE
      unfold crossed
      rw [Bool.eq_iff_iff]
      simp_all
  case rest =>
  obtain ⟨rfl, rfl⟩ := hcut
  cases g5 : crossed t with
  | true =>
    have HV := Lib.hid (HVT.out.e G1.out G2.out G3.out G4.out g5)
    clear g5
    rw [Bool.true_or]
    go_wp2_with fail
    go_ret
    exact ⟨ret1 HV.out.symm, hb2⟩
  | false =>
  have G5 := Lib.hid g5
  clear g5
  rw [Bool.false_or]
  by_cases g6 : t.els.length = 0
  · have HV := Lib.hid (HVT.out.f G1.out G2.out G3.out G4.out G5.out g6)
    have q : ((t.els.length : Int) == 0) = true := by rw [beq_iff_eq]; omega
    rw [q]
    clear g6
    go_wp2_with fail
    go_ret
    exact ⟨ret1 HV.out.symm, hb2⟩
  have g7 : 0 < t.els.length := by omega
  have q : ((t.els.length : Int) == 0) = false := beq_eq_false_iff_ne.2 (by omega)
  rw [q]
  clear g6
  by_cases g8 : 16 < t.els.length
  · have HV := Lib.hid (HVT.out.g G1.out G2.out G3.out G4.out G5.out g7 g8)
    have q1 : (16 : Int) < (t.els.length : Int) := by omega
    go_wp2_with fail
    go_ret
    exact ⟨ret1 HV.out.symm, hb2⟩
  have HV := Lib.hid (HVT.out.h G1.out G2.out G3.out G4.out G5.out g7 (by omega))
  have q1 : (t.els.length : Int) ≤ 16 := by omega
  clear HVT G1 G2 G3 G4 G5 g8
  go_wp2_with fail
  generalize t.els = es at *
  go_loopg [3] es.length (fun gg s80 wr => ∃ kk : Nat, kk ≤ es.length ∧ es.length - kk ≤ gg ∧ s80 = i kk ∧ Hid (Below wc.heap.size wc wr) ∧ Hid (scan (elE es) es.length 0 = scan (elE es) es.length kk))
  case atStart => exact ⟨0, Nat.zero_le _, by omega, rfl, Below.refl _ _, rfl⟩
  case round =>
    obtain ⟨kk, hkk, hg, rfl, BW, HA⟩ := hrel
    have c2 := (b1.call BW.out).cell
    by_cases hlt : kk < es.length
    · have hltz : (kk : Int) < (es.length : Int) := by omega
      obtain ⟨b, off, u, rfl, _, hu, hrow⟩ := ElemsAt.at_ HE.out hlt
      have hcells := hrow wr (Kept.of BW.out)
      have hu1 := hu.call BW.out
      have hel := elE_at hlt
      clear hrow hu
      generalize es[kk] = y at *
      obtain ⟨A1, c1', rfl, h3, h4⟩ := SliceAt.form hu1
      unfold maxLen at h4
      obtain ⟨l0, l1, l2, l3, l4, l5, l6, l7, l8, l9, l10, l11⟩ := hcells
      have HEL := Lib.hid hel
      clear hel
      go_wp2_with fail
      refine (relement y _ _ hu1).mono ?_
      rintro r w2 ⟨rfl, hb3⟩
      have bb := below_call BW.out hb3
      cases hz : (elemE y != 0) with
      | true =>
        have hz' : elE es kk ≠ 0 := by rw [HEL.out]; simpa using hz
        have HV2 := Lib.hid (HV.out.trans (HA.out.trans ((scan_hit hlt hz').trans HEL.out)))
        clear hz'
        go_wp2_with fail
        go_ret
        exact ⟨ret1 HV2.out.symm, below_call hb2 bb⟩
      | false =>
        have HN := Lib.hid (HA.out.trans (scan_next hlt (by rw [HEL.out]; simpa using hz)))
        go_wp2_with fail
        go_roundg (es.length - (kk + 1))
        case measure => omega
        case rel => exact ⟨kk + 1, by omega, by omega, by go_num, bb, HN.out⟩
    · have hltz : ¬ (kk : Int) < (es.length : Int) := by omega
      have HV2 := Lib.hid (HV.out.trans (HA.out.trans (scan_end (by omega))))
      go_wp2_with fail
      go_ret
      exact ⟨ret1 HV2.out.symm, below_call hb2 BW.out⟩
end TarW
end Go.Proofs.YtndlhhiifmjieaaDoor
