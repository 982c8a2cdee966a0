/-
  The walks of the reference's when and element.
-/
import Derived.Test.YtndlhhiifmjieaaDoorTarX
import Derived.Deep.DeepCutAuto
namespace Go.Proofs.YtndlhhiifmjieaaDoor
namespace TarW
set_option linter.unusedSimpArgs false
set_option linter.unusedVariables false
open Go.RowKit CalW

theorem valB' {a b : Bool} (h : a = b) : Value.bool a = .bool b := by rw [h]
set_option maxRecDepth 100000 in
set_option maxHeartbeats 2000000 in
theorem rwhen (x : Tar.Wh) (w : World) {b : Bool} (hb : whenOk x = b) :
    Calls Tryd.prog 64 #[.agg (wh x)] w fun e w' => e = .returned (.bool b) ∧ Below w.heap.size w w' := by
  subst hb
  have c0 := (Blk.new w 51 (wh x)).cell
  have hb0 := below_new w (.cells (wh x) 51)
  go_enter Tryd.func64, Tryd.ntmps64
  go_upto_region 1 with (fail)
  generalize w.alloc (.cells (wh x) 51) = W at *
  go_cut [3] (fun s3 wc => s3 = .bool (hourOk x) ∧ wc = W)
  case first =>
    go_wp2_with (go_at_call 56; refine (rin _ _ _ _ rfl).mono ?_; rintro r w' ⟨rfl, rfl⟩)
    all_goals go_meet
    all_goals
      refine ⟨valB' ?_, rfl⟩
      go_light
      unfold hourOk
      rw [Bool.eq_iff_iff]
      simp_all
    all_goals omega
  case rest =>
    obtain ⟨rfl, rfl⟩ := hcut
    go_upto_region 2 with (fail)
    go_cut [4] (fun s4 wd => s4 = .bool (timeOk x) ∧ wd = wc)
    case first =>
      go_wp2_with (go_at_call 57; refine (rlimit _ _ _ rfl).mono ?_; rintro r w' ⟨rfl, rfl⟩)
      all_goals go_meet
      all_goals
        refine ⟨valB' ?_, rfl⟩
        go_light
        unfold timeOk
        simp_all
    case rest =>
      obtain ⟨rfl, rfl⟩ := hcut
      cases h1 : hourOk x <;> cases h2 : timeOk x
      all_goals
        have H1 := Lib.hid h1
        have H2 := Lib.hid h2
        clear h1 h2
        go_wp2_with (go_at_call 57; refine (rlimit _ _ _ rfl).mono ?_; rintro r w' ⟨rfl, rfl⟩)
        all_goals go_ret
        all_goals
          refine ⟨retB ?_, hb0⟩
          go_light
          have h1 := H1.out
          have h2 := H2.out
          clear H1 H2 c0 hb0
          unfold whenOk powOk
          simp_all

theorem compOk_parts {y : Comp} (h : compOk y = true) : decide (1 ≤ y.kind ∧ y.kind ≤ 4) = true ∧ decide (0 ≤ y.price ∧ y.price ≤ 1073741824) = true ∧ decide (0 ≤ y.tax ∧ y.tax ≤ 10000) = true ∧
    ((y.kind == 1) = true ∧ (y.step == 0) = true ∨ (y.kind == 1) = false ∧ decide (1 ≤ y.step ∧ y.step ≤ 1073741824) = true) := by
  have := of_decide_eq_true h
  refine ⟨decide_eq_true (by omega), decide_eq_true (by omega), decide_eq_true (by omega), ?_⟩
  rcases this.2.2.2.2.2.2 with ⟨a, b⟩ | ⟨a, b, c⟩
  · exact .inl ⟨by simpa using a, by simpa using b⟩
  · exact .inr ⟨by simpa using a, decide_eq_true ⟨b, c⟩⟩
theorem compOk_mk1 {y : Comp} (h : compOk y = false) (hk : (y.kind == 1) = true) (h1 : y.step = 0) (h2 : 1 ≤ y.kind ∧ y.kind ≤ 4) (h3 : 0 ≤ y.price ∧ y.price ≤ 1073741824) (h4 : (!decide (0 ≤ y.tax)) = false ∧ (!decide (y.tax ≤ 10000)) = false) : False := by
  have := of_decide_eq_false h
  simp only [beq_iff_eq] at hk
  simp at h4
  omega
theorem compOk_mk2 {y : Comp} (h : compOk y = false) (hk : (y.kind == 1) = false) (h1 : 1 ≤ y.step ∧ y.step ≤ 1073741824) (h2 : 1 ≤ y.kind ∧ y.kind ≤ 4) (h3 : 0 ≤ y.price ∧ y.price ≤ 1073741824) (h4 : (!decide (0 ≤ y.tax)) = false ∧ (!decide (y.tax ≤ 10000)) = false) : False := by
  have := of_decide_eq_false h
  simp at h4
  simp only [beq_eq_false_iff_ne, ne_eq] at hk
  omega

set_option maxRecDepth 100000 in
set_option maxHeartbeats 4000000 in
theorem relement (e : Elem) (v : Value) (w : World) (h : CompsAt w v e.cs) :
    Calls Tryd.prog 58 #[elemV v e.wh] w fun r w' => r = .returned (i (elemE e)) ∧ Below w.heap.size w w' := by
  obtain ⟨A, c, rfl, h1, h2⟩ := SliceAt.form h
  unfold maxLen at h2
  obtain ⟨E, hE⟩ : ∃ E, elemE e = E := ⟨_, rfl⟩
  rw [hE]
  have H0 : Hid (e.cs.length = 0 → E = 1) := fun h0 => by rw [← hE]; unfold elemE; rw [if_pos h0]
  have HBAD : Hid (0 < e.cs.length → ∀ n : Int, scan (compE e.cs) e.cs.length 0 = n → n ≠ 0 → E = n) := fun h0 n hn hz => by rw [← hE]; exact elemE_bad h0 hn hz
  have HW : Hid (0 < e.cs.length → scan (compE e.cs) e.cs.length 0 = 0 → E = if whenOk e.wh then 0 else 2) := fun h0 hn => by rw [← hE]; exact elemE_when h0 hn
  clear hE
  have b0 := Blk.new w 55 #[.slice A e.cs.length c, i e.wh.s, i e.wh.e, i e.wh.d, i e.wh.f, i e.wh.t, i e.wh.e0, i e.wh.e1, i e.wh.p0, i e.wh.p1, i e.wh.t0, i e.wh.t1]
  have hb0 := below_new w (.cells #[.slice A e.cs.length c, i e.wh.s, i e.wh.e, i e.wh.d, i e.wh.f, i e.wh.t, i e.wh.e0, i e.wh.e1, i e.wh.p0, i e.wh.p1, i e.wh.t0, i e.wh.t1] 55)
  obtain ⟨x, hx⟩ : ∃ x : Tar.Wh, e.wh = x := ⟨_, rfl⟩
  rw [hx] at HW b0 hb0 ⊢
  clear hx
  obtain ⟨cs, hcs⟩ : ∃ cs : List Comp, e.cs = cs := ⟨_, rfl⟩
  rw [hcs] at HW H0 HBAD h h1 b0 hb0 ⊢
  clear hcs
  by_cases hz : cs.length = 0
  · have H1 := Lib.hid (H0.out hz)
    have q : ((cs.length : Int) == 0) = true := by rw [beq_iff_eq]; omega
    clear hz H0
    go_enter Tryd.func58, Tryd.ntmps58
    go_wp2_with fail
    go_ret
    exact ⟨ret1 H1.out.symm, hb0⟩
  · have hz0 : 0 < cs.length := by omega
    have q : ((cs.length : Int) == 0) = false := beq_eq_false_iff_ne.2 (by omega)
    have HBAD' := Lib.hid (HBAD.out hz0)
    have HW' := Lib.hid (HW.out hz0)
    clear hz H0 HBAD HW
    go_enter Tryd.func58, Tryd.ntmps58
    go_wp2_with fail
    generalize w.alloc (.cells #[.slice A cs.length c, i x.s, i x.e, i x.d, i x.f, i x.t, i x.e0, i x.e1, i x.p0, i x.p1, i x.t0, i x.t1] 55) = W0 at *
    have HE := Lib.hid (h.call hb0)
    have s0 := b0.lt
    clear h
    go_loopg [3] cs.length (fun gg s3 wr => ∃ kk : Nat, kk ≤ cs.length ∧ cs.length - kk ≤ gg ∧ s3 = i kk ∧ Hid (Below W0.heap.size W0 wr) ∧ Hid (scan (compE cs) cs.length 0 = scan (compE cs) cs.length kk))
    case atStart => exact ⟨0, Nat.zero_le _, by omega, rfl, Below.refl _ _, rfl⟩
    case round =>
      obtain ⟨wo, rfl⟩ : ∃ wo : World, wo = wr := ⟨_, rfl⟩
      obtain ⟨kk, hkk, hg, rfl, BW, HA⟩ := hrel
      have c0 := (b0.call BW.out).cell
      by_cases hlt : kk < cs.length
      · have hltz : (kk : Int) < (cs.length : Int) := by omega
        obtain ⟨b, off, rfl, _, hrow⟩ := CompsAt.at_ HE.out hlt
        have hcells := hrow wo (Kept.of BW.out)
        clear hrow
        have HN1 := Lib.hid (@compE_bad cs kk hlt)
        have HN2 := Lib.hid (fun j hj => @compE_twice cs kk j hlt hj)
        have HN3 := Lib.hid (@compE_good cs kk hlt)
        generalize cs[kk] = y at *
        obtain ⟨l0, l1, l2, l3⟩ := hcells
        have sw := BW.out.size
        have f1 := Blk.new wo 58 #[i y.kind, i y.price, i y.step, i y.tax]
        have hbw := below_alloc BW.out (.cells #[i y.kind, i y.price, i y.step, i y.tax] 58)
        have f0 := (b0.call BW.out).alloc (.cells #[i y.kind, i y.price, i y.step, i y.tax] 58)
        cases hok : compOk y with
        | false =>
          have HOK := Lib.hid hok
          clear hok
          have HE2 := Lib.hid (HBAD'.out 2 (by rw [HA.out, scan_hit hlt (by rw [HN1.out HOK.out]; omega)]; exact HN1.out HOK.out) (by omega))
          cases hk : (y.kind == 1) <;> cases hs : (y.step == 0)
          all_goals
            go_wp2_with (go_at_call 56; refine (rin _ _ _ _ rfl).mono ?_; rintro r w' ⟨rfl, rfl⟩)
          all_goals first
            | (go_ret; exact ⟨ret1 HE2.out.symm, hb0.trans (hbw.mono (by omega))⟩)
            | (exfalso; exact compOk_mk2 HOK.out hk ‹_› ‹_› ‹_› ‹_›)
            | (exfalso; exact compOk_mk1 HOK.out hk (by simpa using hs) ‹_› ‹_› ‹_›)
        | true =>
          obtain ⟨p1, p2, p3, p4⟩ := compOk_parts hok
          have HOK := Lib.hid hok
          have P1 := Lib.hid p1
          have P2 := Lib.hid p2
          have P3 := Lib.hid p3
          clear hok p1 p2 p3
          obtain ⟨bk, st, hk1, hk2, hk3⟩ : ∃ bk st : Bool, (y.kind == 1) = bk ∧ decide (1 ≤ y.step ∧ y.step ≤ 1073741824) = st ∧ (bk = true ∧ (y.step == 0) = true ∨ bk = false ∧ st = true) := by
            rcases p4 with ⟨a, b⟩ | ⟨a, b⟩
            · exact ⟨_, _, a, rfl, .inl ⟨rfl, b⟩⟩
            · exact ⟨_, _, a, b, .inr ⟨rfl, rfl⟩⟩
          clear p4
          have HST := Lib.hid hk2
          clear hk2
          have cyc := (f1.cell)
          have cec := (f0.cell)
          rcases hk3 with ⟨rfl, hs0⟩ | ⟨rfl, rfl⟩
          all_goals
            go_wp2_with fail
            refine (rin _ _ _ _ HST.out).mono ?_
            rintro r w' ⟨rfl, rfl⟩
            go_wp2_with fail
            refine (rin _ _ _ _ P1.out).mono ?_
            rintro r w' ⟨rfl, rfl⟩
            go_wp2_with fail
            refine (rin _ _ _ _ P2.out).mono ?_
            rintro r w' ⟨rfl, rfl⟩
            go_wp2_with fail
            refine (rin _ _ _ _ P3.out).mono ?_
            rintro r w' ⟨rfl, rfl⟩
            go_wp2_with fail
            have bb := hbw
            have hne : w.heap.size ≠ wo.heap.size := by omega
            clear l0 l1 l2 l3
            generalize wo.alloc (.cells #[i y.kind, i y.price, i y.step, i y.tax] 58) = w1 at *
            go_loopg [6] kk (fun gg s6 wr => ∃ j m : Nat, j ≤ kk ∧ kk - j ≤ gg ∧ s6 = i j ∧ wr = w1.drewN m ∧ Hid (∀ q (hq : q < cs.length), q < j → (cs[q].kind == y.kind) = false))
            case atStart => exact ⟨0, 0, Nat.zero_le _, by omega, rfl, rfl, fun q hq h => by omega⟩
            case round =>
              obtain ⟨j, m, hj, hgj, rfl, rfl, HJ⟩ := hrel
              by_cases hjl : j < kk
              · have hjz : (j : Int) < (kk : Int) := by omega
                have hjc : j < cs.length := by omega
                have hjcz : (j : Int) < (cs.length : Int) := by omega
                have hj0 : (0 : Int) ≤ (j : Int) := by omega
                obtain ⟨b', off', hA', _, hrow⟩ := CompsAt.at_ HE.out hjc
                obtain ⟨rfl, rfl⟩ : b = b' ∧ off = off' := by simpa using hA'
                obtain ⟨m0, m1, m2, m3⟩ := hrow w1 (Kept.of bb)
                have HN2' := Lib.hid (HN2.out j hjl HOK.out)
                have HNX : Hid ((cs[j].kind == y.kind) = false → ∀ q (hq : q < cs.length), q < j + 1 → (cs[q].kind == y.kind) = false) := by
                  intro h0 q hq hlq
                  by_cases e : q = j
                  · subst e; exact h0
                  · exact HJ.out q hq (by omega)
                clear hrow m1 m2 m3
                generalize cs[j] = p at *
                by_cases hq : (p.kind == y.kind) = true
                · have H2 := Lib.hid (HN2'.out hq)
                  go_wp2_with fail
                  go_quiet (fail)
                  go_wp2_with fail
                  go_ret
                  refine ⟨ret1 (HBAD'.out 9 ?_ (by omega)).symm, below_drewN' (below_drewN' (hb0.trans (bb.mono (by omega))) _) _⟩
                  rw [HA.out, scan_hit hlt (by rw [H2.out]; omega)]
                  exact H2.out
                · have hq' : (p.kind == y.kind) = false := by simpa using hq
                  clear hq
                  have HNX' := Lib.hid (HNX.out hq')
                  go_wp2_with fail
                  go_quiet (fail)
                  go_wp2_with fail
                  go_roundg (kk - (j + 1))
                  case measure => omega
                  case rel => exact ⟨j + 1, m + nq, by omega, by omega, by go_num, rfl, HNX'.out⟩
              · have hjz : ¬ (j : Int) < (kk : Int) := by omega
                go_wp2_with fail
                go_roundg (cs.length - (kk + 1))
                case measure => omega
                case rel =>
                  exact ⟨kk + 1, by omega, by omega, by go_num, below_drewN' bb _, HA.out.trans (scan_next hlt (HN3.out HOK.out (fun q hq h => HJ.out q hq (by omega))))⟩
      · have hltz : ¬ (kk : Int) < (cs.length : Int) := by omega
        have HF := Lib.hid (HW'.out (HA.out.trans (scan_end (by omega))))
        cases hw : whenOk x with
        | false =>
          have HF2 := Lib.hid (HF.out.trans (when_no hw))
          have HWO := Lib.hid hw
          clear hw
          go_wp2_with fail
          refine (rwhen x _ HWO.out).mono ?_
          rintro r w1 ⟨rfl, hb1⟩
          go_wp2_with fail
          go_ret
          exact ⟨ret1 HF2.out.symm, hb0.trans ((below_call BW.out hb1).mono (by omega))⟩
        | true =>
          have HF2 := Lib.hid (HF.out.trans (when_yes hw))
          have HWO := Lib.hid hw
          clear hw
          go_wp2_with fail
          refine (rwhen x _ HWO.out).mono ?_
          rintro r w1 ⟨rfl, hb1⟩
          go_wp2_with fail
          go_ret
          exact ⟨ret1 HF2.out.symm, hb0.trans ((below_call BW.out hb1).mono (by omega))⟩
end TarW
end Go.Proofs.YtndlhhiifmjieaaDoor
