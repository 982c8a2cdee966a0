/-
  The walks of validElement and of the reference's element.
  The walks of the reference's when and element.
  The walks of tariff.Valid and of the reference's Valid.
-/
import Derived.Test.YtpmcdjpfolgpiaaGreatDoorTarV
import Derived.Deep.Light
import Derived.Deep.DeepCutAuto
namespace Go.Proofs.YtpmcdjpfolgpiaaGreatDoor
namespace TarW
set_option linter.unusedSimpArgs false
set_option linter.unusedVariables false
open Go.RowKit CalW

theorem compE_bad {cs : List Comp} {k : Nat} (hk : k < cs.length) (h : compOk cs[k] = false) : compE cs k = 2 := by
  unfold compE
  rw [List.getElem?_eq_getElem hk]
  simp [h]
theorem compE_twice {cs : List Comp} {k j : Nat} (hk : k < cs.length) (hj : j < k) (h : compOk cs[k] = true) (he : (cs[j].kind == cs[k].kind) = true) : compE cs k = 9 := by
  unfold compE
  rw [List.getElem?_eq_getElem hk]
  have : (cs.take k).any (fun x => x.kind == cs[k].kind) = true := by
    rw [List.any_eq_true]
    exact ⟨cs[j], by rw [List.mem_take_iff_getElem]; exact ⟨j, by omega, rfl⟩, he⟩
  simp [h, this]
theorem compE_good {cs : List Comp} {k : Nat} (hk : k < cs.length) (h : compOk cs[k] = true) (he : ∀ j (hj : j < cs.length), j < k → (cs[j].kind == cs[k].kind) = false) : compE cs k = 0 := by
  unfold compE
  rw [List.getElem?_eq_getElem hk]
  have : (cs.take k).any (fun x => x.kind == cs[k].kind) = false := by
    rw [List.any_eq_false]
    intro x hx
    rw [List.mem_take_iff_getElem] at hx
    obtain ⟨j, hj, rfl⟩ := hx
    rw [he j (by omega) (by omega)]
    simp
  simp [h, this]
theorem elemE_bad {e : Elem} (h0 : 0 < e.cs.length) {n : Int} (h : scan (compE e.cs) e.cs.length 0 = n) (hn : n ≠ 0) : elemE e = n := by
  unfold elemE
  rw [if_neg (by omega), if_neg (by rw [h]; exact hn), h]
theorem elemE_when {e : Elem} (h0 : 0 < e.cs.length) (h : scan (compE e.cs) e.cs.length 0 = 0) : elemE e = if whenOk e.wh then 0 else 2 := by
  unfold elemE
  rw [if_neg (by omega), if_pos h]
theorem when_no {w : Tar.Wh} (h : whenOk w = false) : (if whenOk w = true then (0 : Int) else 2) = 2 := by rw [h]; rfl
theorem when_yes {w : Tar.Wh} (h : whenOk w = true) : (if whenOk w = true then (0 : Int) else 2) = 0 := by rw [h]; rfl

set_option maxRecDepth 100000 in
set_option maxHeartbeats 4000000 in
theorem validElement (e : Elem) (v : Value) (w : World) (h : CompsAt w v e.cs) :
    Calls Tryz.prog 123 #[elemV v e.wh] w fun r w' => r = .returned (i (elemE e)) ∧ Below w.heap.size w w' := by
  obtain ⟨A, c, rfl, h1, h2⟩ := SliceAt.form h
  unfold maxLen at h2
  obtain ⟨E, hE⟩ : ∃ E, elemE e = E := ⟨_, rfl⟩
  rw [hE]
  have H0 : Hid (e.cs.length = 0 → E = 1) := fun h0 => by rw [← hE]; unfold elemE; rw [if_pos h0]
  have HBAD : Hid (0 < e.cs.length → ∀ n : Int, scan (compE e.cs) e.cs.length 0 = n → n ≠ 0 → E = n) := fun h0 n hn hz => by rw [← hE]; exact elemE_bad h0 hn hz
  have HW : Hid (0 < e.cs.length → scan (compE e.cs) e.cs.length 0 = 0 → E = if whenOk e.wh then 0 else 2) := fun h0 hn => by rw [← hE]; exact elemE_when h0 hn
  clear hE
  have b0 := Blk.new w 65 #[.slice A e.cs.length c, i e.wh.s, i e.wh.e, i e.wh.d, i e.wh.f, i e.wh.t, i e.wh.e0, i e.wh.e1, i e.wh.p0, i e.wh.p1, i e.wh.t0, i e.wh.t1]
  have hb0 := below_new w (.cells #[.slice A e.cs.length c, i e.wh.s, i e.wh.e, i e.wh.d, i e.wh.f, i e.wh.t, i e.wh.e0, i e.wh.e1, i e.wh.p0, i e.wh.p1, i e.wh.t0, i e.wh.t1] 65)
  obtain ⟨x, hx⟩ : ∃ x : Tar.Wh, e.wh = x := ⟨_, rfl⟩
  rw [hx] at HW b0 hb0 ⊢
  clear hx
  obtain ⟨cs, hcs⟩ : ∃ cs : List Comp, e.cs = cs := ⟨_, rfl⟩
  rw [hcs] at HW H0 HBAD h h1 b0 hb0 ⊢
  clear hcs
  by_cases hz : cs.length = 0
  · have H1 := Lib.hid (H0.out hz)
    have q : ((cs.length : Int) == 0) = true := by rw [beq_iff_eq]; omega
    clear hz H0
    go_enter Tryz.func123, Tryz.ntmps123
    go_wp2_with fail
    go_ret
    exact ⟨ret1 H1.out.symm, hb0⟩
  · have hz0 : 0 < cs.length := by omega
    have q : ((cs.length : Int) == 0) = false := beq_eq_false_iff_ne.2 (by omega)
    have HBAD' := Lib.hid (HBAD.out hz0)
    have HW' := Lib.hid (HW.out hz0)
    clear hz H0 HBAD HW
    go_enter Tryz.func123, Tryz.ntmps123
    go_wp2_with fail
    generalize w.alloc (.cells #[.slice A cs.length c, i x.s, i x.e, i x.d, i x.f, i x.t, i x.e0, i x.e1, i x.p0, i x.p1, i x.t0, i x.t1] 65) = W0 at *
    have HE := Lib.hid (h.call hb0)
    have s0 := b0.lt
    clear h
    go_loopg [15] cs.length (fun gg s15 wr => ∃ kk : Nat, kk ≤ cs.length ∧ cs.length - kk ≤ gg ∧ s15 = i kk ∧ Hid (Below W0.heap.size W0 wr) ∧ Hid (scan (compE cs) cs.length 0 = scan (compE cs) cs.length kk))
    case atStart => exact ⟨0, Nat.zero_le _, by omega, rfl, Below.refl _ _, rfl⟩
    case round =>
      obtain ⟨wo, rfl⟩ : ∃ wo : World, wo = wr := ⟨_, rfl⟩
      obtain ⟨kk, hkk, hg, rfl, BW, HA⟩ := hrel
      by_cases hlt : kk < cs.length
      · have hltz : (kk : Int) < (cs.length : Int) := by omega
        obtain ⟨b, off, rfl, _, hrow⟩ := CompsAt.at_ HE.out hlt
        have hcells := hrow wo (Kept.of BW.out)
        clear hrow
        have HN1 := Lib.hid (@compE_bad cs kk hlt)
        have HN2 := Lib.hid (fun j hj => @compE_twice cs kk j hlt hj)
        have HN3 := Lib.hid (@compE_good cs kk hlt)
        generalize cs[kk] = y at *
        obtain ⟨l0, l1, l2, l3⟩ := hcells
        have sw := BW.out.size
        have f1 := Blk.new wo 82 #[i y.kind, i y.price, i y.step, i y.tax]
        have hbw := below_alloc BW.out (.cells #[i y.kind, i y.price, i y.step, i y.tax] 82)
        have f0 := (b0.call BW.out).alloc (.cells #[i y.kind, i y.price, i y.step, i y.tax] 82)
        cases hok : compOk y with
        | false =>
          have HOK := Lib.hid hok
          clear hok
          go_wp2_with fail
          refine (validComponent y _ HOK.out).mono ?_
          rintro r w1 ⟨rfl, hb1⟩
          go_wp2_with fail
          go_ret
          refine ⟨ret1 (HBAD'.out 2 ?_ (by omega)).symm, hb0.trans ((below_call hbw hb1).mono (by omega))⟩
          rw [HA.out, scan_hit hlt (by rw [HN1.out HOK.out]; omega)]
          exact HN1.out HOK.out
        | true =>
          have HOK := Lib.hid hok
          clear hok
          go_wp2_with fail
          refine (validComponent y _ HOK.out).mono ?_
          rintro r w1 ⟨rfl, hb1⟩
          have ce := (f0.call hb1).cell
          have cy := (f1.call hb1).cell
          have bb := below_call hbw hb1
          have sw1 := (below_call hbw hb1).size
          have hk1 : kk ≤ c := by omega
          have hk2 : (kk : Int) ≤ (c : Int) := by omega
          clear l0 l1 l2 l3
          go_wp2_with fail
          go_loopg [28] kk (fun gg s28 wq => ∃ j : Nat, j ≤ kk ∧ kk - j ≤ gg ∧ s28 = i j ∧ Hid (Below w1.heap.size w1 wq) ∧ Hid (∀ q (hq : q < cs.length), q < j → (cs[q].kind == y.kind) = false))
          case atStart => exact ⟨0, Nat.zero_le _, by omega, rfl, Below.refl _ _, fun q hq h => by omega⟩
          case round =>
            obtain ⟨j, hj, hgj, rfl, BQ, HJ⟩ := hrel
            by_cases hjl : j < kk
            · have hjz : (j : Int) < (kk : Int) := by omega
              have hjc : j < cs.length := by omega
              obtain ⟨b', off', hA', _, hrow⟩ := CompsAt.at_ HE.out hjc
              obtain ⟨rfl, rfl⟩ : b = b' ∧ off = off' := by simpa using hA'
              obtain ⟨m0, m1, m2, m3⟩ := hrow wr (Kept.of (below_call bb BQ.out))
              have HN2' := Lib.hid (HN2.out j hjl HOK.out)
              have HNX : Hid ((cs[j].kind == y.kind) = false → ∀ q (hq : q < cs.length), q < j + 1 → (cs[q].kind == y.kind) = false) := by
                intro h0 q hq hlq
                by_cases e : q = j
                · subst e; exact h0
                · exact HJ.out q hq (by omega)
              clear hrow
              generalize cs[j] = p at *
              have cy' := ((f1.call hb1).call BQ.out).alloc (.cells #[i p.kind, i p.price, i p.step, i p.tax] 82)
              have cyc := cy'.cell
              by_cases hq : (p.kind == y.kind) = true
              · have H2 := Lib.hid (HN2'.out hq)
                go_wp2_with fail
                go_ret
                refine ⟨ret1 (HBAD'.out 9 ?_ (by omega)).symm, hb0.trans ((below_alloc (below_call bb BQ.out) _).mono (by omega))⟩
                rw [HA.out, scan_hit hlt (by rw [H2.out]; omega)]
                exact H2.out
              · have hq' : (p.kind == y.kind) = false := by simpa using hq
                clear hq
                have HNX' := Lib.hid (HNX.out hq')
                go_wp2_with fail
                go_roundg (kk - (j + 1))
                case measure => omega
                case rel => exact ⟨j + 1, by omega, by omega, by go_num, below_alloc BQ.out _, HNX'.out⟩
            · have hjz : ¬ (j : Int) < (kk : Int) := by omega
              go_wp2_with fail
              go_roundg (cs.length - (kk + 1))
              case measure => omega
              case rel =>
                exact ⟨kk + 1, by omega, by omega, by go_num, below_call bb BQ.out, HA.out.trans (scan_next hlt (HN3.out HOK.out (fun q hq h => HJ.out q hq (by omega))))⟩
      · have hltz : ¬ (kk : Int) < (cs.length : Int) := by omega
        have HF := Lib.hid (HW'.out (HA.out.trans (scan_end (by omega))))
        have ce := (b0.call BW.out).cell
        have bbe := hb0.trans ((below_alloc BW.out (.cells #[i x.s, i x.e, i x.d, i x.f, i x.t, i x.e0, i x.e1, i x.p0, i x.p1, i x.t0, i x.t1] 63)).mono (by omega : w.heap.size ≤ W0.heap.size))
        cases hh : hourOk x with
        | false =>
          have hh' := of_decide_eq_false hh
          have HF2 := Lib.hid (HF.out.trans (when_no (by unfold whenOk; rw [hh]; rfl)))
          clear hh
          go_wp2_with fail
          all_goals first
            | (exfalso; omega)
            | (go_ret; exact ⟨ret1 HF2.out.symm, bbe⟩)
        | true =>
          obtain ⟨g1, g2, g3, g4, g5, g6⟩ := of_decide_eq_true hh
          have HHO := Lib.hid hh
          clear hh
          go_wp2_with (go_at_call 122; refine (optional _ _ _ _ rfl).mono ?_; rintro r w' ⟨rfl, rfl⟩)
          all_goals
            go_ret
            refine ⟨ret1 ?_, bbe⟩
            go_light
            rw [HF.out]
            have HH := HHO.out
            clear HF HHO bbe
            unfold whenOk timeOk powOk
            simp_all
end TarW
end Go.Proofs.YtpmcdjpfolgpiaaGreatDoor

namespace Go.Proofs.YtpmcdjpfolgpiaaGreatDoor
namespace TarW
set_option linter.unusedSimpArgs false
set_option linter.unusedVariables false
open Go.RowKit CalW

theorem valB' {a b : Bool} (h : a = b) : Value.bool a = .bool b := by rw [h]
set_option maxRecDepth 100000 in
set_option maxHeartbeats 2000000 in
theorem rwhen (x : Tar.Wh) (w : World) {b : Bool} (hb : whenOk x = b) :
    Calls Tryz.prog 153 #[.agg (wh x)] w fun e w' => e = .returned (.bool b) ∧ Below w.heap.size w w' := by
  subst hb
  have c0 := (Blk.new w 63 (wh x)).cell
  have hb0 := below_new w (.cells (wh x) 63)
  go_enter Tryz.func153, Tryz.ntmps153
  go_upto_region 1 with (fail)
  generalize w.alloc (.cells (wh x) 63) = W at *
  go_cut [3] (fun s3 wc => s3 = .bool (hourOk x) ∧ wc = W)
  case first =>
    go_wp2_with (go_at_call 132; refine (rin _ _ _ _ rfl).mono ?_; rintro r w' ⟨rfl, rfl⟩)
    all_goals go_meet
    all_goals
      refine ⟨valB' ?_, rfl⟩
      go_light
      unfold hourOk
      rw [Bool.eq_iff_iff]
      simp_all
    all_goals omega
  case rest =>
    obtain ⟨rfl, rfl⟩ := hcut
    go_upto_region 2 with (fail)
    go_cut [4] (fun s4 wd => s4 = .bool (timeOk x) ∧ wd = wc)
    case first =>
      go_wp2_with (go_at_call 133; refine (rlimit _ _ _ rfl).mono ?_; rintro r w' ⟨rfl, rfl⟩)
      all_goals go_meet
      all_goals
        refine ⟨valB' ?_, rfl⟩
        go_light
        unfold timeOk
        simp_all
    case rest =>
      obtain ⟨rfl, rfl⟩ := hcut
      cases h1 : hourOk x <;> cases h2 : timeOk x
      all_goals
        have H1 := Lib.hid h1
        have H2 := Lib.hid h2
        clear h1 h2
        go_wp2_with (go_at_call 133; refine (rlimit _ _ _ rfl).mono ?_; rintro r w' ⟨rfl, rfl⟩)
        all_goals go_ret
        all_goals
          refine ⟨retB ?_, hb0⟩
          go_light
          have h1 := H1.out
          have h2 := H2.out
          clear H1 H2 c0 hb0
          unfold whenOk powOk
          simp_all

theorem compOk_parts {y : Comp} (h : compOk y = true) : decide (1 ≤ y.kind ∧ y.kind ≤ 4) = true ∧ decide (0 ≤ y.price ∧ y.price ≤ 1073741824) = true ∧ decide (0 ≤ y.tax ∧ y.tax ≤ 10000) = true ∧
    ((y.kind == 1) = true ∧ (y.step == 0) = true ∨ (y.kind == 1) = false ∧ decide (1 ≤ y.step ∧ y.step ≤ 1073741824) = true) := by
  have := of_decide_eq_true h
  refine ⟨decide_eq_true (by omega), decide_eq_true (by omega), decide_eq_true (by omega), ?_⟩
  rcases this.2.2.2.2.2.2 with ⟨a, b⟩ | ⟨a, b, c⟩
  · exact .inl ⟨by simpa using a, by simpa using b⟩
  · exact .inr ⟨by simpa using a, decide_eq_true ⟨b, c⟩⟩
theorem compOk_mk1 {y : Comp} (h : compOk y = false) (hk : (y.kind == 1) = true) (h1 : y.step = 0) (h2 : 1 ≤ y.kind ∧ y.kind ≤ 4) (h3 : 0 ≤ y.price ∧ y.price ≤ 1073741824) (h4 : (!decide (0 ≤ y.tax)) = false ∧ (!decide (y.tax ≤ 10000)) = false) : False := by
  have := of_decide_eq_false h
  simp only [beq_iff_eq] at hk
  simp at h4
  omega
theorem compOk_mk2 {y : Comp} (h : compOk y = false) (hk : (y.kind == 1) = false) (h1 : 1 ≤ y.step ∧ y.step ≤ 1073741824) (h2 : 1 ≤ y.kind ∧ y.kind ≤ 4) (h3 : 0 ≤ y.price ∧ y.price ≤ 1073741824) (h4 : (!decide (0 ≤ y.tax)) = false ∧ (!decide (y.tax ≤ 10000)) = false) : False := by
  have := of_decide_eq_false h
  simp at h4
  simp only [beq_eq_false_iff_ne, ne_eq] at hk
  omega

set_option maxRecDepth 100000 in
set_option maxHeartbeats 4000000 in
theorem relement (e : Elem) (v : Value) (w : World) (h : CompsAt w v e.cs) :
    Calls Tryz.prog 134 #[elemV v e.wh] w fun r w' => r = .returned (i (elemE e)) ∧ Below w.heap.size w w' := by
  obtain ⟨A, c, rfl, h1, h2⟩ := SliceAt.form h
  unfold maxLen at h2
  obtain ⟨E, hE⟩ : ∃ E, elemE e = E := ⟨_, rfl⟩
  rw [hE]
  have H0 : Hid (e.cs.length = 0 → E = 1) := fun h0 => by rw [← hE]; unfold elemE; rw [if_pos h0]
  have HBAD : Hid (0 < e.cs.length → ∀ n : Int, scan (compE e.cs) e.cs.length 0 = n → n ≠ 0 → E = n) := fun h0 n hn hz => by rw [← hE]; exact elemE_bad h0 hn hz
  have HW : Hid (0 < e.cs.length → scan (compE e.cs) e.cs.length 0 = 0 → E = if whenOk e.wh then 0 else 2) := fun h0 hn => by rw [← hE]; exact elemE_when h0 hn
  clear hE
  have b0 := Blk.new w 65 #[.slice A e.cs.length c, i e.wh.s, i e.wh.e, i e.wh.d, i e.wh.f, i e.wh.t, i e.wh.e0, i e.wh.e1, i e.wh.p0, i e.wh.p1, i e.wh.t0, i e.wh.t1]
  have hb0 := below_new w (.cells #[.slice A e.cs.length c, i e.wh.s, i e.wh.e, i e.wh.d, i e.wh.f, i e.wh.t, i e.wh.e0, i e.wh.e1, i e.wh.p0, i e.wh.p1, i e.wh.t0, i e.wh.t1] 65)
  obtain ⟨x, hx⟩ : ∃ x : Tar.Wh, e.wh = x := ⟨_, rfl⟩
  rw [hx] at HW b0 hb0 ⊢
  clear hx
  obtain ⟨cs, hcs⟩ : ∃ cs : List Comp, e.cs = cs := ⟨_, rfl⟩
  rw [hcs] at HW H0 HBAD h h1 b0 hb0 ⊢
  clear hcs
  by_cases hz : cs.length = 0
  · have H1 := Lib.hid (H0.out hz)
    have q : ((cs.length : Int) == 0) = true := by rw [beq_iff_eq]; omega
    clear hz H0
    go_enter Tryz.func134, Tryz.ntmps134
    go_wp2_with fail
    go_ret
    exact ⟨ret1 H1.out.symm, hb0⟩
  · have hz0 : 0 < cs.length := by omega
    have q : ((cs.length : Int) == 0) = false := beq_eq_false_iff_ne.2 (by omega)
    have HBAD' := Lib.hid (HBAD.out hz0)
    have HW' := Lib.hid (HW.out hz0)
    clear hz H0 HBAD HW
    go_enter Tryz.func134, Tryz.ntmps134
    go_wp2_with fail
    generalize w.alloc (.cells #[.slice A cs.length c, i x.s, i x.e, i x.d, i x.f, i x.t, i x.e0, i x.e1, i x.p0, i x.p1, i x.t0, i x.t1] 65) = W0 at *
    have HE := Lib.hid (h.call hb0)
    have s0 := b0.lt
    clear h
    go_loopg [3] cs.length (fun gg s3 wr => ∃ kk : Nat, kk ≤ cs.length ∧ cs.length - kk ≤ gg ∧ s3 = i kk ∧ Hid (Below W0.heap.size W0 wr) ∧ Hid (scan (compE cs) cs.length 0 = scan (compE cs) cs.length kk))
    case atStart => exact ⟨0, Nat.zero_le _, by omega, rfl, Below.refl _ _, rfl⟩
    case round =>
      obtain ⟨wo, rfl⟩ : ∃ wo : World, wo = wr := ⟨_, rfl⟩
      obtain ⟨kk, hkk, hg, rfl, BW, HA⟩ := hrel
      have c0 := (b0.call BW.out).cell
      by_cases hlt : kk < cs.length
      · have hltz : (kk : Int) < (cs.length : Int) := by omega
        obtain ⟨b, off, rfl, _, hrow⟩ := CompsAt.at_ HE.out hlt
        have hcells := hrow wo (Kept.of BW.out)
        clear hrow
        have HN1 := Lib.hid (@compE_bad cs kk hlt)
        have HN2 := Lib.hid (fun j hj => @compE_twice cs kk j hlt hj)
        have HN3 := Lib.hid (@compE_good cs kk hlt)
        generalize cs[kk] = y at *
        obtain ⟨l0, l1, l2, l3⟩ := hcells
        have sw := BW.out.size
        have f1 := Blk.new wo 82 #[i y.kind, i y.price, i y.step, i y.tax]
        have hbw := below_alloc BW.out (.cells #[i y.kind, i y.price, i y.step, i y.tax] 82)
        have f0 := (b0.call BW.out).alloc (.cells #[i y.kind, i y.price, i y.step, i y.tax] 82)
        cases hok : compOk y with
        | false =>
          have HOK := Lib.hid hok
          clear hok
          have HE2 := Lib.hid (HBAD'.out 2 (by rw [HA.out, scan_hit hlt (by rw [HN1.out HOK.out]; omega)]; exact HN1.out HOK.out) (by omega))
          cases hk : (y.kind == 1) <;> cases hs : (y.step == 0)
          all_goals
            go_wp2_with (go_at_call 132; refine (rin _ _ _ _ rfl).mono ?_; rintro r w' ⟨rfl, rfl⟩)
          all_goals first
            | (go_ret; exact ⟨ret1 HE2.out.symm, hb0.trans (hbw.mono (by omega))⟩)
            | (exfalso; exact compOk_mk2 HOK.out hk ‹_› ‹_› ‹_› ‹_›)
            | (exfalso; exact compOk_mk1 HOK.out hk (by simpa using hs) ‹_› ‹_› ‹_›)
        | true =>
          obtain ⟨p1, p2, p3, p4⟩ := compOk_parts hok
          have HOK := Lib.hid hok
          have P1 := Lib.hid p1
          have P2 := Lib.hid p2
          have P3 := Lib.hid p3
          clear hok p1 p2 p3
          obtain ⟨bk, st, hk1, hk2, hk3⟩ : ∃ bk st : Bool, (y.kind == 1) = bk ∧ decide (1 ≤ y.step ∧ y.step ≤ 1073741824) = st ∧ (bk = true ∧ (y.step == 0) = true ∨ bk = false ∧ st = true) := by
            rcases p4 with ⟨a, b⟩ | ⟨a, b⟩
            · exact ⟨_, _, a, rfl, .inl ⟨rfl, b⟩⟩
            · exact ⟨_, _, a, b, .inr ⟨rfl, rfl⟩⟩
          clear p4
          have HST := Lib.hid hk2
          clear hk2
          have cyc := (f1.cell)
          have cec := (f0.cell)
          rcases hk3 with ⟨rfl, hs0⟩ | ⟨rfl, rfl⟩
          all_goals
            go_wp2_with fail
            refine (rin _ _ _ _ HST.out).mono ?_
            rintro r w' ⟨rfl, rfl⟩
            go_wp2_with fail
            refine (rin _ _ _ _ P1.out).mono ?_
            rintro r w' ⟨rfl, rfl⟩
            go_wp2_with fail
            refine (rin _ _ _ _ P2.out).mono ?_
            rintro r w' ⟨rfl, rfl⟩
            go_wp2_with fail
            refine (rin _ _ _ _ P3.out).mono ?_
            rintro r w' ⟨rfl, rfl⟩
            go_wp2_with fail
            have bb := hbw
            have hne : w.heap.size ≠ wo.heap.size := by omega
            clear l0 l1 l2 l3
            generalize wo.alloc (.cells #[i y.kind, i y.price, i y.step, i y.tax] 82) = w1 at *
            go_loopg [6] kk (fun gg s6 wr => ∃ j m : Nat, j ≤ kk ∧ kk - j ≤ gg ∧ s6 = i j ∧ wr = w1.drewN m ∧ Hid (∀ q (hq : q < cs.length), q < j → (cs[q].kind == y.kind) = false))
            case atStart => exact ⟨0, 0, Nat.zero_le _, by omega, rfl, rfl, fun q hq h => by omega⟩
            case round =>
              obtain ⟨j, m, hj, hgj, rfl, rfl, HJ⟩ := hrel
              by_cases hjl : j < kk
              · have hjz : (j : Int) < (kk : Int) := by omega
                have hjc : j < cs.length := by omega
                have hjcz : (j : Int) < (cs.length : Int) := by omega
                have hj0 : (0 : Int) ≤ (j : Int) := by omega
                obtain ⟨b', off', hA', _, hrow⟩ := CompsAt.at_ HE.out hjc
                obtain ⟨rfl, rfl⟩ : b = b' ∧ off = off' := by simpa using hA'
                obtain ⟨m0, m1, m2, m3⟩ := hrow w1 (Kept.of bb)
                have HN2' := Lib.hid (HN2.out j hjl HOK.out)
                have HNX : Hid ((cs[j].kind == y.kind) = false → ∀ q (hq : q < cs.length), q < j + 1 → (cs[q].kind == y.kind) = false) := by
                  intro h0 q hq hlq
                  by_cases e : q = j
                  · subst e; exact h0
                  · exact HJ.out q hq (by omega)
                clear hrow m1 m2 m3
                generalize cs[j] = p at *
                by_cases hq : (p.kind == y.kind) = true
                · have H2 := Lib.hid (HN2'.out hq)
                  go_wp2_with fail
                  go_quiet (fail)
                  go_wp2_with fail
                  go_ret
                  refine ⟨ret1 (HBAD'.out 9 ?_ (by omega)).symm, below_drewN' (below_drewN' (hb0.trans (bb.mono (by omega))) _) _⟩
                  rw [HA.out, scan_hit hlt (by rw [H2.out]; omega)]
                  exact H2.out
                · have hq' : (p.kind == y.kind) = false := by simpa using hq
                  clear hq
                  have HNX' := Lib.hid (HNX.out hq')
                  go_wp2_with fail
                  go_quiet (fail)
                  go_wp2_with fail
                  go_roundg (kk - (j + 1))
                  case measure => omega
                  case rel => exact ⟨j + 1, m + nq, by omega, by omega, by go_num, rfl, HNX'.out⟩
              · have hjz : ¬ (j : Int) < (kk : Int) := by omega
                go_wp2_with fail
                go_roundg (cs.length - (kk + 1))
                case measure => omega
                case rel =>
                  exact ⟨kk + 1, by omega, by omega, by go_num, below_drewN' bb _, HA.out.trans (scan_next hlt (HN3.out HOK.out (fun q hq h => HJ.out q hq (by omega))))⟩
      · have hltz : ¬ (kk : Int) < (cs.length : Int) := by omega
        have HF := Lib.hid (HW'.out (HA.out.trans (scan_end (by omega))))
        cases hw : whenOk x with
        | false =>
          have HF2 := Lib.hid (HF.out.trans (when_no hw))
          have HWO := Lib.hid hw
          clear hw
          go_wp2_with fail
          refine (rwhen x _ HWO.out).mono ?_
          rintro r w1 ⟨rfl, hb1⟩
          go_wp2_with fail
          go_ret
          exact ⟨ret1 HF2.out.symm, hb0.trans ((below_call BW.out hb1).mono (by omega))⟩
        | true =>
          have HF2 := Lib.hid (HF.out.trans (when_yes hw))
          have HWO := Lib.hid hw
          clear hw
          go_wp2_with fail
          refine (rwhen x _ HWO.out).mono ?_
          rintro r w1 ⟨rfl, hb1⟩
          go_wp2_with fail
          go_ret
          exact ⟨ret1 HF2.out.symm, hb0.trans ((below_call BW.out hb1).mono (by omega))⟩
end TarW
end Go.Proofs.YtpmcdjpfolgpiaaGreatDoor

namespace Go.Proofs.YtpmcdjpfolgpiaaGreatDoor
namespace TarW
set_option linter.unusedSimpArgs false
set_option linter.unusedVariables false
open Go.RowKit CalW

def moneyOk (t : Trf) : Bool := optOk t.least 0 1099511627776 && optOk t.most 0 1099511627776
def crossed (t : Trf) : Bool := decide (t.least ≠ -1 ∧ t.most ≠ -1 ∧ t.most < t.least)
structure VT (t : Trf) (V : Int) : Prop where
  a : IdW.identOk t.id = false → V = 4
  b : IdW.identOk t.id = true → curOk t.cur = false → V = 21
  c : IdW.identOk t.id = true → curOk t.cur = true → headOk t = false → V = 2
  d : IdW.identOk t.id = true → curOk t.cur = true → headOk t = true → moneyOk t = false → V = 2
  e : IdW.identOk t.id = true → curOk t.cur = true → headOk t = true → moneyOk t = true → crossed t = true → V = 1
  f : IdW.identOk t.id = true → curOk t.cur = true → headOk t = true → moneyOk t = true → crossed t = false → t.els.length = 0 → V = 1
  g : IdW.identOk t.id = true → curOk t.cur = true → headOk t = true → moneyOk t = true → crossed t = false → 0 < t.els.length → 16 < t.els.length → V = 3
  h : IdW.identOk t.id = true → curOk t.cur = true → headOk t = true → moneyOk t = true → crossed t = false → 0 < t.els.length → t.els.length ≤ 16 → V = scan (elE t.els) t.els.length 0
theorem validT_vt (t : Trf) : VT t (validT t) := by
  constructor
  all_goals intros
  all_goals unfold validT
  · rw [if_pos (by assumption)]
  · rw [if_neg (by simp_all), if_pos (by assumption)]
  · rw [if_neg (by simp_all), if_neg (by simp_all), if_pos (by assumption)]
  · rw [if_neg (by simp_all), if_neg (by simp_all), if_neg (by simp_all), if_pos (by assumption)]
  · rename_i h1 h2 h3 h4 h5
    unfold moneyOk at h4
    rw [if_neg (by simp_all), if_neg (by simp_all), if_neg (by simp_all), if_neg (by simp_all), if_pos (of_decide_eq_true h5)]
  · rename_i h1 h2 h3 h4 h5 h6
    unfold moneyOk at h4
    rw [if_neg (by simp_all), if_neg (by simp_all), if_neg (by simp_all), if_neg (by simp_all), if_neg (of_decide_eq_false h5), if_pos h6]
  · rename_i h1 h2 h3 h4 h5 h6 h7
    unfold moneyOk at h4
    rw [if_neg (by simp_all), if_neg (by simp_all), if_neg (by simp_all), if_neg (by simp_all), if_neg (of_decide_eq_false h5), if_neg (by omega), if_pos h7]
  · rename_i h1 h2 h3 h4 h5 h6 h7
    unfold moneyOk at h4
    rw [if_neg (by simp_all), if_neg (by simp_all), if_neg (by simp_all), if_neg (by simp_all), if_neg (of_decide_eq_false h5), if_neg (by omega), if_neg (by omega)]

theorem elE_at {es : List Elem} {k : Nat} (hk : k < es.length) : elE es k = elemE es[k] := by
  unfold elE
  rw [List.getElem?_eq_getElem hk]

abbrev trfC (t : Trf) (v : Value) : Array Value := #[.string t.id, .string t.cur, i t.ver, i t.fr, i t.to, v, i t.least, i t.most]

set_option maxRecDepth 100000 in
set_option maxHeartbeats 4000000 in
theorem valid_ (t : Trf) (v : Value) (w : World) (h : ElemsAt w v t.els) (hid : t.id.size ≤ maxLen) (hcur : t.cur.size ≤ maxLen) :
    Calls Tryz.prog 93 #[trfV t v] w fun r w' => r = .returned (i (validT t)) ∧ Below w.heap.size w w' := by
  obtain ⟨A, c, rfl, h1, h2⟩ := SliceAt.form h
  unfold maxLen at h2
  have HVT := Lib.hid (validT_vt t)
  generalize validT t = V at *
  have b0 := Blk.new w 36 (trfC t (.slice A t.els.length c))
  have hb0 := below_new w (.cells (trfC t (.slice A t.els.length c)) 36)
  have HI := Lib.hid hid
  have HC := Lib.hid hcur
  clear hid hcur
  go_enter Tryz.func93, Tryz.ntmps93
  go_wp2_with fail
  refine (IdW.valid_ t.id _ HI.out).mono ?_
  rintro r w1 ⟨rfl, hb1⟩
  have b1 := b0.call hb1
  have hb2 := below_call hb0 hb1
  have hE := h.call hb2
  have HE := Lib.hid hE
  have c1 := b1.cell
  have s1 := b1.lt
  clear h hE hb0 hb1 b0
  cases g1 : IdW.identOk t.id with
  | false =>
    have HV := Lib.hid (HVT.out.a g1)
    clear g1
    go_wp2_with fail
    go_ret
    exact ⟨ret1 HV.out.symm, hb2⟩
  | true =>
  have G1 := Lib.hid g1
  clear g1
  go_wp2_with fail
  refine (currency t.cur _ HC.out).mono ?_
  rintro r w' ⟨rfl, rfl⟩
  cases g2 : curOk t.cur with
  | false =>
    have HV := Lib.hid (HVT.out.b G1.out g2)
    clear g2
    go_wp2_with fail
    go_ret
    exact ⟨ret1 HV.out.symm, hb2⟩
  | true =>
  have G2 := Lib.hid g2
  clear g2
  go_upto_region 5 with (fail)
  go_cut [43] (fun s43 wc => s43 = .bool (!headOk t) ∧ wc = w1)
  case first =>
    go_wp2_with (go_at_call 122; refine (optional _ _ _ _ rfl).mono ?_; rintro r w' ⟨rfl, rfl⟩)
    all_goals go_meet
    all_goals
      refine ⟨valB' ?_, rfl⟩
      go_light
      clear c1 HVT HE
      unfold headOk
      rw [Bool.eq_iff_iff]
      simp_all
    all_goals omega
  case rest =>
  obtain ⟨rfl, rfl⟩ := hcut
  cases g3 : headOk t with
  | false =>
    have HV := Lib.hid (HVT.out.c G1.out G2.out g3)
    clear g3
    go_wp2_with fail
    go_ret
    exact ⟨ret1 HV.out.symm, hb2⟩
  | true =>
  have G3 := Lib.hid g3
  clear g3
  go_upto_region 7 with (fail)
  go_cut [53] (fun s53 wd => s53 = .bool (!moneyOk t) ∧ wd = wc)
  case first =>
    go_wp2_with (go_at_call 122; refine (optional _ _ _ _ rfl).mono ?_; rintro r w' ⟨rfl, rfl⟩)
    all_goals go_meet
    all_goals
      refine ⟨valB' ?_, rfl⟩
      go_light
      clear c1 HVT HE
      unfold moneyOk
      rw [Bool.eq_iff_iff]
      simp_all
  case rest =>
  obtain ⟨rfl, rfl⟩ := hcut
  cases g4 : moneyOk t with
  | false =>
    have HV := Lib.hid (HVT.out.d G1.out G2.out G3.out g4)
    clear g4
    go_wp2_with fail
    go_ret
    exact ⟨ret1 HV.out.symm, hb2⟩
  | true =>
  have G4 := Lib.hid g4
  clear g4
  go_upto_region 9 with (fail)
  go_cut [68] (fun s68 we => s68 = .bool (crossed t) ∧ we = wc)
  case first =>
    go_wp2_with fail
    all_goals go_meet
    all_goals
      refine ⟨valB' ?_, rfl⟩
      go_light
      clear c1 HVT HE
      unfold crossed
      rw [Bool.eq_iff_iff]
      simp_all
  case rest =>
  obtain ⟨rfl, rfl⟩ := hcut
  cases g5 : crossed t with
  | true =>
    have HV := Lib.hid (HVT.out.e G1.out G2.out G3.out G4.out g5)
    clear g5
    go_wp2_with fail
    go_ret
    exact ⟨ret1 HV.out.symm, hb2⟩
  | false =>
  have G5 := Lib.hid g5
  clear g5
  by_cases g6 : t.els.length = 0
  · have HV := Lib.hid (HVT.out.f G1.out G2.out G3.out G4.out G5.out g6)
    have q : ((t.els.length : Int) == 0) = true := by rw [beq_iff_eq]; omega
    clear g6
    go_wp2_with fail
    go_ret
    exact ⟨ret1 HV.out.symm, hb2⟩
  have g7 : 0 < t.els.length := by omega
  have q : ((t.els.length : Int) == 0) = false := beq_eq_false_iff_ne.2 (by omega)
  clear g6
  by_cases g8 : 16 < t.els.length
  · have HV := Lib.hid (HVT.out.g G1.out G2.out G3.out G4.out G5.out g7 g8)
    have q1 : (16 : Int) < (t.els.length : Int) := by omega
    go_wp2_with fail
    go_ret
    exact ⟨ret1 HV.out.symm, hb2⟩
  have HV := Lib.hid (HVT.out.h G1.out G2.out G3.out G4.out G5.out g7 (by omega))
  have q1 : (t.els.length : Int) ≤ 16 := by omega
  clear HVT G1 G2 G3 G4 G5 g8
  go_wp2_with fail
  generalize t.els = es at *
  go_loopg [80] es.length (fun gg s80 wr => ∃ kk : Nat, kk ≤ es.length ∧ es.length - kk ≤ gg ∧ s80 = i kk ∧ Hid (Below wc.heap.size wc wr) ∧ Hid (scan (elE es) es.length 0 = scan (elE es) es.length kk))
  case atStart => exact ⟨0, Nat.zero_le _, by omega, rfl, Below.refl _ _, rfl⟩
  case round =>
    obtain ⟨kk, hkk, hg, rfl, BW, HA⟩ := hrel
    by_cases hlt : kk < es.length
    · have hltz : (kk : Int) < (es.length : Int) := by omega
      obtain ⟨b, off, u, rfl, _, hu, hrow⟩ := ElemsAt.at_ HE.out hlt
      have hcells := hrow wr (Kept.of BW.out)
      have hu1 := hu.call BW.out
      have hel := elE_at hlt
      clear hrow hu
      generalize es[kk] = y at *
      obtain ⟨A1, c1', rfl, h3, h4⟩ := SliceAt.form hu1
      unfold maxLen at h4
      obtain ⟨l0, l1, l2, l3, l4, l5, l6, l7, l8, l9, l10, l11⟩ := hcells
      have hu2 := hu1.call (below_new wr (.cells #[.slice A1 y.cs.length c1', i y.wh.s, i y.wh.e, i y.wh.d, i y.wh.f, i y.wh.t, i y.wh.e0, i y.wh.e1, i y.wh.p0, i y.wh.p1, i y.wh.t0, i y.wh.t1] 65))
      have hbw := below_alloc BW.out (.cells #[.slice A1 y.cs.length c1', i y.wh.s, i y.wh.e, i y.wh.d, i y.wh.f, i y.wh.t, i y.wh.e0, i y.wh.e1, i y.wh.p0, i y.wh.p1, i y.wh.t0, i y.wh.t1] 65)
      have HEL := Lib.hid hel
      clear hel
      go_wp2_with fail
      refine (validElement y _ _ hu2).mono ?_
      rintro r w2 ⟨rfl, hb3⟩
      have bb := below_call hbw hb3
      cases hz : (elemE y != 0) with
      | true =>
        have hz' : elE es kk ≠ 0 := by rw [HEL.out]; simpa using hz
        have HV2 := Lib.hid (HV.out.trans (HA.out.trans ((scan_hit hlt hz').trans HEL.out)))
        clear hz'
        go_wp2_with fail
        go_ret
        exact ⟨ret1 HV2.out.symm, below_call hb2 bb⟩
      | false =>
        have HN := Lib.hid (HA.out.trans (scan_next hlt (by rw [HEL.out]; simpa using hz)))
        go_wp2_with fail
        go_roundg (es.length - (kk + 1))
        case measure => omega
        case rel => exact ⟨kk + 1, by omega, by omega, by go_num, bb, HN.out⟩
    · have hltz : ¬ (kk : Int) < (es.length : Int) := by omega
      have HV2 := Lib.hid (HV.out.trans (HA.out.trans (scan_end (by omega))))
      go_wp2_with fail
      go_ret
      exact ⟨ret1 HV2.out.symm, below_call hb2 BW.out⟩

set_option maxRecDepth 100000 in
set_option maxHeartbeats 4000000 in
theorem rvalid_ (t : Trf) (v : Value) (w : World) (h : ElemsAt w v t.els) (hid : t.id.size ≤ maxLen) (hcur : t.cur.size ≤ maxLen) :
    Calls Tryz.prog 107 #[trfV t v] w fun r w' => r = .returned (i (validT t)) ∧ Below w.heap.size w w' := by
  obtain ⟨A, c, rfl, h1, h2⟩ := SliceAt.form h
  unfold maxLen at h2
  have HVT := Lib.hid (validT_vt t)
  generalize validT t = V at *
  have b0 := Blk.new w 36 (trfC t (.slice A t.els.length c))
  have hb0 := below_new w (.cells (trfC t (.slice A t.els.length c)) 36)
  have HI := Lib.hid hid
  have HC := Lib.hid hcur
  clear hid hcur
  go_enter Tryz.func107, Tryz.ntmps107
  go_wp2_with fail
  refine (IdW.rvalid t.id _ HI.out).mono ?_
  rintro r w1 ⟨rfl, m1, hm1⟩
  have hb1 : Below (w.alloc (.cells (trfC t (.slice A t.els.length c)) 36)).heap.size (w.alloc (.cells (trfC t (.slice A t.els.length c)) 36)) w1 := by rw [hm1]; exact below_drewN' (Below.refl _ _) _
  clear hm1
  have b1 := b0.call hb1
  have hb2 := below_call hb0 hb1
  have hE := h.call hb2
  have HE := Lib.hid hE
  have c1 := b1.cell
  have s1 := b1.lt
  clear h hE hb0 hb1 b0
  cases g1 : IdW.identOk t.id with
  | false =>
    have HV := Lib.hid (HVT.out.a g1)
    clear g1
    go_wp2_with fail
    go_ret
    exact ⟨ret1 HV.out.symm, hb2⟩
  | true =>
  have G1 := Lib.hid g1
  clear g1
  go_wp2_with fail
  refine (rcurrency t.cur _ HC.out).mono ?_
  rintro r w' ⟨rfl, rfl⟩
  cases g2 : curOk t.cur with
  | false =>
    have HV := Lib.hid (HVT.out.b G1.out g2)
    clear g2
    go_wp2_with fail
    go_ret
    exact ⟨ret1 HV.out.symm, hb2⟩
  | true =>
  have G2 := Lib.hid g2
  clear g2
  go_upto_region 5 with (fail)
  go_cut [39] (fun s43 wc => s43 = .bool (!headOk t) ∧ wc = w1)
  case first =>
    cases ht : (t.to != -1)
    all_goals
      have HTO := Lib.hid ht
      go_wp2_with (go_at_call 132; refine (rin _ _ _ _ rfl).mono ?_; rintro r w' ⟨rfl, rfl⟩)
    all_goals go_meet
    all_goals
      refine ⟨valB' ?_, rfl⟩
      go_light
      have hto := HTO.out
      clear c1 HVT HE HTO
      unfold headOk optOk
      rw [Bool.eq_iff_iff]
      simp_all
    all_goals omega
  case rest =>
  obtain ⟨rfl, rfl⟩ := hcut
  cases g3 : headOk t with
  | false =>
    have HV := Lib.hid (HVT.out.c G1.out G2.out g3)
    clear g3
    go_wp2_with fail
    go_ret
    exact ⟨ret1 HV.out.symm, hb2⟩
  | true =>
  have G3 := Lib.hid g3
  clear g3
  go_upto_region 7 with (fail)
  go_cut [49] (fun s53 wd => s53 = .bool (!moneyOk t) ∧ wd = wc)
  case first =>
    go_wp2_with (go_at_call 133; refine (rlimit _ _ _ rfl).mono ?_; rintro r w' ⟨rfl, rfl⟩)
    all_goals go_meet
    all_goals
      refine ⟨valB' ?_, rfl⟩
      go_light
      clear c1 HVT HE
      unfold moneyOk
      rw [Bool.eq_iff_iff]
      simp_all
  case rest =>
  obtain ⟨rfl, rfl⟩ := hcut
  cases g4 : moneyOk t with
  | false =>
    have HV := Lib.hid (HVT.out.d G1.out G2.out G3.out g4)
    clear g4
    go_wp2_with fail
    go_ret
    exact ⟨ret1 HV.out.symm, hb2⟩
  | true =>
  have G4 := Lib.hid g4
  clear g4
  go_upto_region 9 with (fail)
  go_cut [70] (fun s68 we => s68 = .bool (crossed t || (t.els.length : Int) == 0) ∧ we = wc)
  case first =>
    go_wp2_with fail
    all_goals go_meet
    all_goals
      refine ⟨valB' ?_, rfl⟩
      go_light
      clear c1 HVT HE
      unfold crossed
      rw [Bool.eq_iff_iff]
      simp_all
  case rest =>
  obtain ⟨rfl, rfl⟩ := hcut
  cases g5 : crossed t with
  | true =>
    have HV := Lib.hid (HVT.out.e G1.out G2.out G3.out G4.out g5)
    clear g5
    rw [Bool.true_or]
    go_wp2_with fail
    go_ret
    exact ⟨ret1 HV.out.symm, hb2⟩
  | false =>
  have G5 := Lib.hid g5
  clear g5
  rw [Bool.false_or]
  by_cases g6 : t.els.length = 0
  · have HV := Lib.hid (HVT.out.f G1.out G2.out G3.out G4.out G5.out g6)
    have q : ((t.els.length : Int) == 0) = true := by rw [beq_iff_eq]; omega
    rw [q]
    clear g6
    go_wp2_with fail
    go_ret
    exact ⟨ret1 HV.out.symm, hb2⟩
  have g7 : 0 < t.els.length := by omega
  have q : ((t.els.length : Int) == 0) = false := beq_eq_false_iff_ne.2 (by omega)
  rw [q]
  clear g6
  by_cases g8 : 16 < t.els.length
  · have HV := Lib.hid (HVT.out.g G1.out G2.out G3.out G4.out G5.out g7 g8)
    have q1 : (16 : Int) < (t.els.length : Int) := by omega
    go_wp2_with fail
    go_ret
    exact ⟨ret1 HV.out.symm, hb2⟩
  have HV := Lib.hid (HVT.out.h G1.out G2.out G3.out G4.out G5.out g7 (by omega))
  have q1 : (t.els.length : Int) ≤ 16 := by omega
  clear HVT G1 G2 G3 G4 G5 g8
  go_wp2_with fail
  generalize t.els = es at *
  go_loopg [3] es.length (fun gg s80 wr => ∃ kk : Nat, kk ≤ es.length ∧ es.length - kk ≤ gg ∧ s80 = i kk ∧ Hid (Below wc.heap.size wc wr) ∧ Hid (scan (elE es) es.length 0 = scan (elE es) es.length kk))
  case atStart => exact ⟨0, Nat.zero_le _, by omega, rfl, Below.refl _ _, rfl⟩
  case round =>
    obtain ⟨kk, hkk, hg, rfl, BW, HA⟩ := hrel
    have c2 := (b1.call BW.out).cell
    by_cases hlt : kk < es.length
    · have hltz : (kk : Int) < (es.length : Int) := by omega
      obtain ⟨b, off, u, rfl, _, hu, hrow⟩ := ElemsAt.at_ HE.out hlt
      have hcells := hrow wr (Kept.of BW.out)
      have hu1 := hu.call BW.out
      have hel := elE_at hlt
      clear hrow hu
      generalize es[kk] = y at *
      obtain ⟨A1, c1', rfl, h3, h4⟩ := SliceAt.form hu1
      unfold maxLen at h4
      obtain ⟨l0, l1, l2, l3, l4, l5, l6, l7, l8, l9, l10, l11⟩ := hcells
      have HEL := Lib.hid hel
      clear hel
      go_wp2_with fail
      refine (relement y _ _ hu1).mono ?_
      rintro r w2 ⟨rfl, hb3⟩
      have bb := below_call BW.out hb3
      cases hz : (elemE y != 0) with
      | true =>
        have hz' : elE es kk ≠ 0 := by rw [HEL.out]; simpa using hz
        have HV2 := Lib.hid (HV.out.trans (HA.out.trans ((scan_hit hlt hz').trans HEL.out)))
        clear hz'
        go_wp2_with fail
        go_ret
        exact ⟨ret1 HV2.out.symm, below_call hb2 bb⟩
      | false =>
        have HN := Lib.hid (HA.out.trans (scan_next hlt (by rw [HEL.out]; simpa using hz)))
        go_wp2_with fail
        go_roundg (es.length - (kk + 1))
        case measure => omega
        case rel => exact ⟨kk + 1, by omega, by omega, by go_num, bb, HN.out⟩
    · have hltz : ¬ (kk : Int) < (es.length : Int) := by omega
      have HV2 := Lib.hid (HV.out.trans (HA.out.trans (scan_end (by omega))))
      go_wp2_with fail
      go_ret
      exact ⟨ret1 HV2.out.symm, below_call hb2 BW.out⟩
end TarW
end Go.Proofs.YtpmcdjpfolgpiaaGreatDoor
