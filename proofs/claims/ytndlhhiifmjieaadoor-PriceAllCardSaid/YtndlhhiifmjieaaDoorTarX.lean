/-
  The walks of validElement and of the reference's element.
-/
import Derived.Test.YtndlhhiifmjieaaDoorTarV
import Derived.Deep.Light
namespace Go.Proofs.YtndlhhiifmjieaaDoor
namespace TarW
set_option linter.unusedSimpArgs false
set_option linter.unusedVariables false
open Go.RowKit CalW

theorem compE_bad {cs : List Comp} {k : Nat} (hk : k < cs.length) (h : compOk cs[k] = false) : compE cs k = 2 := by
  unfold compE
  rw [List.getElem?_eq_getElem hk]
  simp [h]
theorem compE_twice {cs : List Comp} {k j : Nat} (hk : k < cs.length) (hj : j < k) (h : compOk cs[k] = true) (he : (cs[j].kind == cs[k].kind) = true) : compE cs k = 9 := by
  unfold compE
  rw [List.getElem?_eq_getElem hk]
  have : (cs.take k).any (fun x => x.kind == cs[k].kind) = true := by
    rw [List.any_eq_true]
    exact ⟨cs[j], by rw [List.mem_take_iff_getElem]; exact ⟨j, by omega, rfl⟩, he⟩
  simp [h, this]
theorem compE_good {cs : List Comp} {k : Nat} (hk : k < cs.length) (h : compOk cs[k] = true) (he : ∀ j (hj : j < cs.length), j < k → (cs[j].kind == cs[k].kind) = false) : compE cs k = 0 := by
  unfold compE
  rw [List.getElem?_eq_getElem hk]
  have : (cs.take k).any (fun x => x.kind == cs[k].kind) = false := by
    rw [List.any_eq_false]
    intro x hx
    rw [List.mem_take_iff_getElem] at hx
    obtain ⟨j, hj, rfl⟩ := hx
    rw [he j (by omega) (by omega)]
    simp
  simp [h, this]
theorem elemE_bad {e : Elem} (h0 : 0 < e.cs.length) {n : Int} (h : scan (compE e.cs) e.cs.length 0 = n) (hn : n ≠ 0) : elemE e = n := by
  unfold elemE
  rw [if_neg (by omega), if_neg (by rw [h]; exact hn), h]
theorem elemE_when {e : Elem} (h0 : 0 < e.cs.length) (h : scan (compE e.cs) e.cs.length 0 = 0) : elemE e = if whenOk e.wh then 0 else 2 := by
  unfold elemE
  rw [if_neg (by omega), if_pos h]
theorem when_no {w : Tar.Wh} (h : whenOk w = false) : (if whenOk w = true then (0 : Int) else 2) = 2 := by rw [h]; rfl
theorem when_yes {w : Tar.Wh} (h : whenOk w = true) : (if whenOk w = true then (0 : Int) else 2) = 0 := by rw [h]; rfl

set_option maxRecDepth 100000 in
set_option maxHeartbeats 4000000 in
theorem validElement (e : Elem) (v : Value) (w : World) (h : CompsAt w v e.cs) :
    Calls Tryd.prog 34 #[elemV v e.wh] w fun r w' => r = .returned (i (elemE e)) ∧ Below w.heap.size w w' := by
  obtain ⟨A, c, rfl, h1, h2⟩ := SliceAt.form h
  unfold maxLen at h2
  obtain ⟨E, hE⟩ : ∃ E, elemE e = E := ⟨_, rfl⟩
  rw [hE]
  have H0 : Hid (e.cs.length = 0 → E = 1) := fun h0 => by rw [← hE]; unfold elemE; rw [if_pos h0]
  have HBAD : Hid (0 < e.cs.length → ∀ n : Int, scan (compE e.cs) e.cs.length 0 = n → n ≠ 0 → E = n) := fun h0 n hn hz => by rw [← hE]; exact elemE_bad h0 hn hz
  have HW : Hid (0 < e.cs.length → scan (compE e.cs) e.cs.length 0 = 0 → E = if whenOk e.wh then 0 else 2) := fun h0 hn => by rw [← hE]; exact elemE_when h0 hn
  clear hE
  have b0 := Blk.new w 55 #[.slice A e.cs.length c, i e.wh.s, i e.wh.e, i e.wh.d, i e.wh.f, i e.wh.t, i e.wh.e0, i e.wh.e1, i e.wh.p0, i e.wh.p1, i e.wh.t0, i e.wh.t1]
  have hb0 := below_new w (.cells #[.slice A e.cs.length c, i e.wh.s, i e.wh.e, i e.wh.d, i e.wh.f, i e.wh.t, i e.wh.e0, i e.wh.e1, i e.wh.p0, i e.wh.p1, i e.wh.t0, i e.wh.t1] 55)
  obtain ⟨x, hx⟩ : ∃ x : Tar.Wh, e.wh = x := ⟨_, rfl⟩
  rw [hx] at HW b0 hb0 ⊢
  clear hx
  obtain ⟨cs, hcs⟩ : ∃ cs : List Comp, e.cs = cs := ⟨_, rfl⟩
  rw [hcs] at HW H0 HBAD h h1 b0 hb0 ⊢
  clear hcs
  by_cases hz : cs.length = 0
  · have H1 := Lib.hid (H0.out hz)
    have q : ((cs.length : Int) == 0) = true := by rw [beq_iff_eq]; omega
    clear hz H0
    go_enter Tryd.func34, Tryd.ntmps34
    go_wp2_with fail
    go_ret
    exact ⟨ret1 H1.out.symm, hb0⟩
  · have hz0 : 0 < cs.length := by omega
    have q : ((cs.length : Int) == 0) = false := beq_eq_false_iff_ne.2 (by omega)
    have HBAD' := Lib.hid (HBAD.out hz0)
    have HW' := Lib.hid (HW.out hz0)
    clear hz H0 HBAD HW
    go_enter Tryd.func34, Tryd.ntmps34
    go_wp2_with fail
    generalize w.alloc (.cells #[.slice A cs.length c, i x.s, i x.e, i x.d, i x.f, i x.t, i x.e0, i x.e1, i x.p0, i x.p1, i x.t0, i x.t1] 55) = W0 at *
    have HE := Lib.hid (h.call hb0)
    have s0 := b0.lt
    clear h
    go_loopg [15] cs.length (fun gg s15 wr => ∃ kk : Nat, kk ≤ cs.length ∧ cs.length - kk ≤ gg ∧ s15 = i kk ∧ Hid (Below W0.heap.size W0 wr) ∧ Hid (scan (compE cs) cs.length 0 = scan (compE cs) cs.length kk))
    case atStart => exact ⟨0, Nat.zero_le _, by omega, rfl, Below.refl _ _, rfl⟩
    case round =>
      obtain ⟨wo, rfl⟩ : ∃ wo : World, wo = wr := ⟨_, rfl⟩
      obtain ⟨kk, hkk, hg, rfl, BW, HA⟩ := hrel
      by_cases hlt : kk < cs.length
      · have hltz : (kk : Int) < (cs.length : Int) := by omega
        obtain ⟨b, off, rfl, _, hrow⟩ := CompsAt.at_ HE.out hlt
        have hcells := hrow wo (Kept.of BW.out)
        clear hrow
        have HN1 := Lib.hid (@compE_bad cs kk hlt)
        have HN2 := Lib.hid (fun j hj => @compE_twice cs kk j hlt hj)
        have HN3 := Lib.hid (@compE_good cs kk hlt)
        generalize cs[kk] = y at *
        obtain ⟨l0, l1, l2, l3⟩ := hcells
        have sw := BW.out.size
        have f1 := Blk.new wo 58 #[i y.kind, i y.price, i y.step, i y.tax]
        have hbw := below_alloc BW.out (.cells #[i y.kind, i y.price, i y.step, i y.tax] 58)
        have f0 := (b0.call BW.out).alloc (.cells #[i y.kind, i y.price, i y.step, i y.tax] 58)
        cases hok : compOk y with
        | false =>
          have HOK := Lib.hid hok
          clear hok
          go_wp2_with fail
          refine (validComponent y _ HOK.out).mono ?_
          rintro r w1 ⟨rfl, hb1⟩
          go_wp2_with fail
          go_ret
          refine ⟨ret1 (HBAD'.out 2 ?_ (by omega)).symm, hb0.trans ((below_call hbw hb1).mono (by omega))⟩
          rw [HA.out, scan_hit hlt (by rw [HN1.out HOK.out]; omega)]
          exact HN1.out HOK.out
        | true =>
          have HOK := Lib.hid hok
          clear hok
          go_wp2_with fail
          refine (validComponent y _ HOK.out).mono ?_
          rintro r w1 ⟨rfl, hb1⟩
          have ce := (f0.call hb1).cell
          have cy := (f1.call hb1).cell
          have bb := below_call hbw hb1
          have sw1 := (below_call hbw hb1).size
          have hk1 : kk ≤ c := by omega
          have hk2 : (kk : Int) ≤ (c : Int) := by omega
          clear l0 l1 l2 l3
          go_wp2_with fail
          go_loopg [28] kk (fun gg s28 wq => ∃ j : Nat, j ≤ kk ∧ kk - j ≤ gg ∧ s28 = i j ∧ Hid (Below w1.heap.size w1 wq) ∧ Hid (∀ q (hq : q < cs.length), q < j → (cs[q].kind == y.kind) = false))
          case atStart => exact ⟨0, Nat.zero_le _, by omega, rfl, Below.refl _ _, fun q hq h => by omega⟩
          case round =>
            obtain ⟨j, hj, hgj, rfl, BQ, HJ⟩ := hrel
            by_cases hjl : j < kk
            · have hjz : (j : Int) < (kk : Int) := by omega
              have hjc : j < cs.length := by omega
              obtain ⟨b', off', hA', _, hrow⟩ := CompsAt.at_ HE.out hjc
              obtain ⟨rfl, rfl⟩ : b = b' ∧ off = off' := by simpa using hA'
              obtain ⟨m0, m1, m2, m3⟩ := hrow wr (Kept.of (below_call bb BQ.out))
              have HN2' := Lib.hid (HN2.out j hjl HOK.out)
              have HNX : Hid ((cs[j].kind == y.kind) = false → ∀ q (hq : q < cs.length), q < j + 1 → (cs[q].kind == y.kind) = false) := by
                intro h0 q hq hlq
                by_cases e : q = j
                · subst e; exact h0
                · exact HJ.out q hq (by omega)
              clear hrow
              generalize cs[j] = p at *
              have cy' := ((f1.call hb1).call BQ.out).alloc (.cells #[i p.kind, i p.price, i p.step, i p.tax] 58)
              have cyc := cy'.cell
              by_cases hq : (p.kind == y.kind) = true
              · have H2 := Lib.hid (HN2'.out hq)
                go_wp2_with fail
                go_ret
                refine ⟨ret1 (HBAD'.out 9 ?_ (by omega)).symm, hb0.trans ((below_alloc (below_call bb BQ.out) _).mono (by omega))⟩
                rw [HA.out, scan_hit hlt (by rw [H2.out]; omega)]
                exact H2.out
              · have hq' : (p.kind == y.kind) = false := by simpa using hq
                clear hq
                have HNX' := Lib.hid (HNX.out hq')
                go_wp2_with fail
                go_roundg (kk - (j + 1))
                case measure => omega
                case rel => exact ⟨j + 1, by omega, by omega, by go_num, below_alloc BQ.out _, HNX'.out⟩
            · have hjz : ¬ (j : Int) < (kk : Int) := by omega
              go_wp2_with fail
              go_roundg (cs.length - (kk + 1))
              case measure => omega
              case rel =>
                exact ⟨kk + 1, by omega, by omega, by go_num, below_call bb BQ.out, HA.out.trans (scan_next hlt (HN3.out HOK.out (fun q hq h => HJ.out q hq (by omega))))⟩
      · have hltz : ¬ (kk : Int) < (cs.length : Int) := by omega
        have HF := Lib.hid (HW'.out (HA.out.trans (scan_end (by omega))))
        have ce := (b0.call BW.out).cell
        have bbe := hb0.trans ((below_alloc BW.out (.cells #[i x.s, i x.e, i x.d, i x.f, i x.t, i x.e0, i x.e1, i x.p0, i x.p1, i x.t0, i x.t1] 51)).mono (by omega : w.heap.size ≤ W0.heap.size))
        cases hh : hourOk x with
        | false =>
          have hh' := of_decide_eq_false hh
          have HF2 := Lib.hid (HF.out.trans (when_no (by unfold whenOk; rw [hh]; rfl)))
          clear hh
          go_wp2_with fail
          all_goals first
            | (exfalso; omega)
            | (go_ret; exact ⟨ret1 HF2.out.symm, bbe⟩)
        | true =>
          obtain ⟨g1, g2, g3, g4, g5, g6⟩ := of_decide_eq_true hh
          have HHO := Lib.hid hh
          clear hh
          go_wp2_with (go_at_call 33; refine (optional _ _ _ _ rfl).mono ?_; rintro r w' ⟨rfl, rfl⟩)
          all_goals
            go_ret
            refine ⟨ret1 ?_, bbe⟩
            go_light
            rw [HF.out]
            have HH := HHO.out
            clear HF HHO bbe
            unfold whenOk timeOk powOk
            simp_all
end TarW
end Go.Proofs.YtndlhhiifmjieaaDoor
