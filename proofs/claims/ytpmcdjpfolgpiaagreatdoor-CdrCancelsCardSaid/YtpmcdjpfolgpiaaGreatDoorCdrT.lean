/-
  The walk of the reference's Valid of a charge detail record.
-/
import Derived.Test.YtpmcdjpfolgpiaaGreatDoorCdrA
namespace Go.Proofs.YtpmcdjpfolgpiaaGreatDoor
namespace Cdr
set_option linter.unusedSimpArgs false
set_option linter.unusedVariables false
open Go.RowKit MonW TarW Usg CdrW

theorem of_ritem (x : Itm) (W : World) {r : Bool} (hr : itemOk x = r) : Calls Tryz.prog 30 #[itmV x] W fun e w' => e = .returned (.bool r) ∧ Below W.heap.size W w' := by
  obtain ⟨kd, pr, tx, qt, nt, vt, gr⟩ := x
  exact CdrW.ritem kd pr tx qt nt vt gr W hr
theorem rid (s : ByteArray) (W : World) (hs : s.size ≤ maxLen) {r : Bool} (hr : IdW.identOk s = r) : Calls Tryz.prog 27 #[.string s] W fun e w' => e = .returned (.bool r) ∧ Below W.heap.size W w' :=
  (IdW.rvalid s W hs).mono fun e w' h => by
    obtain ⟨he, m, rfl⟩ := h
    exact ⟨by rw [he, hr], below_drewN' (Below.refl _ _) _⟩

set_option maxRecDepth 100000 in
set_option maxHeartbeats 4000000 in
theorem rvalid (c : CDR) (A : Option Addr) (n k : Nat) (w : World) (ho : c.ok) (hi : ItmsAt w (.slice A n k) c.items) {r : Int} (hr : cdrE c = r) :
    Calls Tryz.prog 11 #[.agg (cdrA c (.slice A n k))] w fun e w' => e = .returned (i r) ∧ Below w.heap.size w w' := by
  have HE := cdrE_re c
  rw [hr] at HE
  clear hr
  obtain ⟨hn, hnk, hkm⟩ := SliceAt.len hi
  subst hn
  unfold maxLen at hkm
  have hI := itemsE_re c
  have hR := refE_re c
  have hnm : nmE c = (IdW.identOk c.id && (IdW.identOk c.oper && (IdW.identOk c.prov && (IdW.identOk c.sess && IdW.identOk c.tar)))) := by
    unfold nmE; simp only [List.all_cons, List.all_nil, Bool.and_true]
  obtain ⟨Ea, Eb, Ec, Ed, Ee, Ef⟩ := HE
  rw [hnm] at Ea Eb Ec Ed Ee Ef
  rw [← rg_eq c] at Ec Ed Ee Ef
  generalize itemsE c = ie at *
  generalize refE c = re at *
  obtain ⟨b1, h1⟩ : ∃ b, IdW.identOk c.id = b := ⟨_, rfl⟩
  obtain ⟨b2, h2⟩ : ∃ b, IdW.identOk c.oper = b := ⟨_, rfl⟩
  obtain ⟨b3, h3⟩ : ∃ b, IdW.identOk c.prov = b := ⟨_, rfl⟩
  obtain ⟨b4, h4⟩ : ∃ b, IdW.identOk c.sess = b := ⟨_, rfl⟩
  obtain ⟨b5, h5⟩ : ∃ b, IdW.identOk c.tar = b := ⟨_, rfl⟩
  obtain ⟨b6, h6⟩ : ∃ b, decide (1 ≤ c.ver ∧ c.ver ≤ 2147483647) = b := ⟨_, rfl⟩
  obtain ⟨b7, h7⟩ : ∃ b, decide (0 ≤ c.en ∧ c.en ≤ 36028797018963968) = b := ⟨_, rfl⟩
  obtain ⟨b8, h8⟩ : ∃ b, curOk c.cur = b := ⟨_, rfl⟩
  obtain ⟨b9, h9⟩ : ∃ b, IdW.identOk c.ref = b := ⟨_, rfl⟩
  have C1 := Lib.hid (fun W => rid c.id W ho.s1 h1)
  have C2 := Lib.hid (fun W => rid c.oper W ho.s2 h2)
  have C3 := Lib.hid (fun W => rid c.prov W ho.s3 h3)
  have C4 := Lib.hid (fun W => rid c.sess W ho.s4 h4)
  have C5 := Lib.hid (fun W => rid c.tar W ho.s5 h5)
  have C6 := Lib.hid (fun W => CdrW.rin c.ver 1 2147483647 W h6)
  have C7 := Lib.hid (fun W => CdrW.rin c.en 0 36028797018963968 W h7)
  have C8 : Hid (∀ (W : World), Calls Tryz.prog 29 #[.string c.cur] W fun e w' => e = .returned (.bool b8) ∧ W = w') := fun W => by have := CdrW.rcurrency c.cur W ho.s6; rw [h8] at this; exact this
  have C9 := Lib.hid (fun W => rid c.ref W ho.s7 h9)
  rw [h1, h2, h3, h4, h5] at Ea Eb Ec Ed Ee Ef
  rw [h8] at Ed Ee Ef
  obtain ⟨Ra, Rb, Rc, Rd, Re⟩ := hR
  rw [h9] at Rc Rd Re
  obtain ⟨Ia, Ib, Ic, Id⟩ := hI
  have EA := Lib.hid Ea
  have EB := Lib.hid Eb
  have EC := Lib.hid Ec
  have ED := Lib.hid Ed
  have EE := Lib.hid Ee
  have EF := Lib.hid Ef
  have RA := Lib.hid Ra
  have RB := Lib.hid Rb
  have RC := Lib.hid Rc
  have RD := Lib.hid Rd
  have RE := Lib.hid Re
  have IA := Lib.hid Ia
  have IB := Lib.hid Ib
  have IC := Lib.hid Ic
  have ID := Lib.hid Id
  have H6 := Lib.hid h6
  have H7 := Lib.hid h7
  have n5 := ho.n5
  clear Ea Eb Ec Ed Ee Ef Ra Rb Rc Rd Re Ia Ib Ic Id h1 h2 h3 h4 h5 h6 h7 h8 h9 hnm ho
  have HI := Lib.hid hi
  have HB0 := Lib.hid (below_new w (.cells (cdrA c (.slice A c.items.length k)) 24))
  have HK0 := Lib.hid (cdr_new w c (.slice A c.items.length k))
  clear hi
  go_enter Tryz.func11, Tryz.ntmps11
  go_wp2_with fail
  refine (C1.out _).mono ?_
  rintro e w1 ⟨rfl, hb⟩
  have HK1 := Lib.hid (HK0.out.call hb)
  have HB1 := Lib.hid (below_call HB0.out hb)
  clear hb HK0 HB0
  obtain ⟨c0, c1, c2, c3, c4, c5, c6, c7, c8, c9, c10, c11, c12, c13⟩ := cdr_cells HK1.out
  cases b1
  case false =>
    go_wp2_with fail
    go_ret
    exact ⟨by rw [EA.out rfl]; rfl, HB1.out⟩
  go_wp2_with fail
  refine (C2.out _).mono ?_
  rintro e w2 ⟨rfl, hb⟩
  have HK2 := Lib.hid (HK1.out.call hb)
  have HB2 := Lib.hid (below_call HB1.out hb)
  clear hb HK1 HB1 c0 c1 c2 c3 c4 c5 c6 c7 c8 c9 c10 c11 c12 c13
  obtain ⟨c0, c1, c2, c3, c4, c5, c6, c7, c8, c9, c10, c11, c12, c13⟩ := cdr_cells HK2.out
  cases b2
  case false =>
    go_wp2_with fail
    go_ret
    exact ⟨by rw [EA.out rfl]; rfl, HB2.out⟩
  go_wp2_with fail
  refine (C3.out _).mono ?_
  rintro e w3 ⟨rfl, hb⟩
  have HK3 := Lib.hid (HK2.out.call hb)
  have HB3 := Lib.hid (below_call HB2.out hb)
  clear hb HK2 HB2 c0 c1 c2 c3 c4 c5 c6 c7 c8 c9 c10 c11 c12 c13
  obtain ⟨c0, c1, c2, c3, c4, c5, c6, c7, c8, c9, c10, c11, c12, c13⟩ := cdr_cells HK3.out
  cases b3
  case false =>
    go_wp2_with fail
    go_ret
    exact ⟨by rw [EA.out rfl]; rfl, HB3.out⟩
  go_wp2_with fail
  refine (C4.out _).mono ?_
  rintro e w4 ⟨rfl, hb⟩
  have HK4 := Lib.hid (HK3.out.call hb)
  have HB4 := Lib.hid (below_call HB3.out hb)
  clear hb HK3 HB3 c0 c1 c2 c3 c4 c5 c6 c7 c8 c9 c10 c11 c12 c13
  obtain ⟨c0, c1, c2, c3, c4, c5, c6, c7, c8, c9, c10, c11, c12, c13⟩ := cdr_cells HK4.out
  cases b4
  case false =>
    go_wp2_with fail
    go_ret
    exact ⟨by rw [EA.out rfl]; rfl, HB4.out⟩
  go_wp2_with fail
  refine (C5.out _).mono ?_
  rintro e w5 ⟨rfl, hb⟩
  have HK5 := Lib.hid (HK4.out.call hb)
  have HB5 := Lib.hid (below_call HB4.out hb)
  clear hb HK4 HB4 c0 c1 c2 c3 c4 c5 c6 c7 c8 c9 c10 c11 c12 c13
  obtain ⟨c0, c1, c2, c3, c4, c5, c6, c7, c8, c9, c10, c11, c12, c13⟩ := cdr_cells HK5.out
  cases b5
  case false =>
    go_wp2_with fail
    go_ret
    exact ⟨by rw [EA.out rfl]; rfl, HB5.out⟩
  by_cases hq : c.oper = c.prov
  case pos =>
    have hqz : (c.oper.toList == c.prov.toList) = true := by rw [hq]; simp
    have HV := Lib.hid (EB.out rfl hq)
    clear hq
    go_wp2_with fail
    go_ret
    exact ⟨by rw [HV.out]; rfl, HB5.out⟩
  have hqz := str_ne hq
  have EC := Lib.hid (EC.out rfl hq)
  have ED := Lib.hid (ED.out rfl hq)
  have EE := Lib.hid (EE.out rfl hq)
  have EF := Lib.hid (EF.out rfl hq)
  clear EA EB hq
  go_wp2_with fail
  refine (C6.out _).mono ?_
  rintro e w6 ⟨rfl, rfl⟩
  cases b6
  case false =>
    have HV := Lib.hid (EC.out (fun h => of_decide_eq_false H6.out ⟨h.1, h.2.1⟩))
    go_wp2_with fail
    go_ret
    exact ⟨by rw [HV.out]; rfl, HB5.out⟩
  by_cases g1 : c.start < 0
  case pos =>
    have HV := Lib.hid (EC.out (fun h => by omega))
    go_wp2_with fail
    go_ret
    exact ⟨by rw [HV.out]; rfl, HB5.out⟩
  by_cases g2 : c.stop < c.start
  case pos =>
    have HV := Lib.hid (EC.out (fun h => by omega))
    go_wp2_with fail
    go_ret
    exact ⟨by rw [HV.out]; rfl, HB5.out⟩
  by_cases g3 : 268435456 < c.stop
  case pos =>
    have HV := Lib.hid (EC.out (fun h => by omega))
    go_wp2_with fail
    go_ret
    exact ⟨by rw [HV.out]; rfl, HB5.out⟩
  go_wp2_with fail
  refine (C7.out _).mono ?_
  rintro e w6 ⟨rfl, rfl⟩
  cases b7
  case false =>
    have HV := Lib.hid (EC.out (fun h => of_decide_eq_false H7.out ⟨h.2.2.2.2.2.1, h.2.2.2.2.2.2⟩))
    go_wp2_with fail
    go_ret
    exact ⟨by rw [HV.out]; rfl, HB5.out⟩
  have hrg : 1 ≤ c.ver ∧ c.ver ≤ 2147483647 ∧ 0 ≤ c.start ∧ c.start ≤ c.stop ∧ c.stop ≤ 268435456 ∧ 0 ≤ c.en ∧ c.en ≤ 36028797018963968 := by
    have q6 := of_decide_eq_true H6.out
    have q7 := of_decide_eq_true H7.out
    omega
  have ED := Lib.hid (ED.out hrg)
  have EE := Lib.hid (EE.out hrg)
  have EF := Lib.hid (EF.out hrg)
  clear hrg EC
  go_wp2_with fail
  refine (C8.out _).mono ?_
  rintro e w6 ⟨rfl, rfl⟩
  cases b8
  case false =>
    have HV := Lib.hid (ED.out rfl)
    go_wp2_with fail
    go_ret
    exact ⟨by rw [HV.out]; rfl, HB5.out⟩
  have EE := Lib.hid (EE.out rfl)
  have EF := Lib.hid (EF.out rfl)
  clear ED
  by_cases hl : 32 < c.items.length
  case pos =>
    have hlz : (32 : Int) < (c.items.length : Int) := by omega
    have HV := Lib.hid ((by first | exact EE.out (by rw [IA.out hl]; decide) | exact EE.out trivial (by rw [IA.out hl]; decide) : r = ie).trans (IA.out hl))
    go_wp2_with fail
    go_ret
    exact ⟨by rw [HV.out]; rfl, HB5.out⟩
  have hlz : ¬ (32 : Int) < (c.items.length : Int) := by omega
  have IB := Lib.hid (IB.out hl)
  have IC := Lib.hid (IC.out hl)
  have ID := Lib.hid (ID.out hl)
  clear IA
  go_wp2_with fail
  go_loopg [3, 4] c.items.length (fun gg s3 s4 wr => ∃ kk : Nat, kk ≤ c.items.length ∧ c.items.length - kk ≤ gg ∧ s3 = i (grossTo c.items kk) ∧ s4 = i kk ∧ Hid (Blk wr w.heap.size 24 (cdrA c (.slice A c.items.length k))) ∧ Hid (Below w.heap.size w wr) ∧ Hid (∀ j (hj : j < c.items.length), j < kk → itemOk c.items[j] = true))
  case atStart => exact ⟨0, Nat.zero_le _, by omega, by rw [gross_zero], rfl, HK5.out, HB5.out, fun j hj h => by omega⟩
  case round =>
    clear c0 c1 c2 c3 c4 c5 c6 c7 c8 c9 c10 c11 c12 c13
    obtain ⟨kk, hkk, hg, rfl, rfl, BK, BW, HA⟩ := hrel
    obtain ⟨c0, c1, c2, c3, c4, c5, c6, c7, c8, c9, c10, c11, c12, c13⟩ := cdr_cells BK.out
    by_cases hlt : kk < c.items.length
    · have hltz : (kk : Int) < (c.items.length : Int) := by omega
      have hk0 : (0 : Int) ≤ (kk : Int) := by omega
      obtain ⟨b, off, rfl, _, hok, hrow⟩ := ItmsAt.at_ HI.out hlt
      have HROW := Lib.hid hrow
      obtain ⟨l1, l2, l3, l4, l5, l6, l7⟩ := hrow wr (Kept.of BW.out)
      clear hrow
      have hgb := gross_bd (l := c.items) kk hkk HA.out
      have HS := Lib.hid (gross_succ hlt)
      have HC := fun W (r : Bool) (hr : itemOk c.items[kk] = r) => of_ritem c.items[kk] W hr
      have hgw := fun (h : itemOk c.items[kk] = true) => itemOk_gross h
      have HHb := Lib.hid (IB.out kk hlt)
      have HG : Hid (itemOk c.items[kk] = true → ∀ j (hj : j < c.items.length), j < kk + 1 → itemOk c.items[j] = true) := by
        intro hg j hj hlt
        by_cases e : j = kk
        · subst e; exact hg
        · exact HA.out j hj (by omega)
      generalize c.items[kk] = y at *
      generalize hyk : itemOk y = ok at *
      have HC := fun W => HC W ok rfl
      cases ok with
      | false =>
        have HV := Lib.hid ((by first | exact EE.out (by rw [HHb.out rfl]; decide) | exact EE.out trivial (by rw [HHb.out rfl]; decide) : r = ie).trans (HHb.out rfl))
        obtain ⟨y1, y2, y3, y4, y5, y6, y7⟩ := y
        simp only at *
        go_wp2_with fail
        refine (HC _).mono ?_
        rintro e w7 ⟨rfl, hb1⟩
        have hb := below_call BW.out hb1
        go_wp2_with fail
        go_ret
        exact ⟨by rw [HV.out]; rfl, hb⟩
      | true =>
        have hgw := hgw rfl
        have HG' := Lib.hid (HG.out rfl)
        have hw6 : IntKind.i64.wrap (grossTo c.items kk + y.gross) = grossTo c.items kk + y.gross := IntWalk.i64_in _ (by omega)
        clear hgb hgw HG HHb
        obtain ⟨y1, y2, y3, y4, y5, y6, y7⟩ := y
        simp only at *
        generalize grossTo c.items kk = G at *
        go_wp2_with fail
        refine (HC _).mono ?_
        rintro e w7 ⟨rfl, hb1⟩
        have HB7 := Lib.hid (below_call BW.out hb1)
        have HK7 := Lib.hid (BK.out.call hb1)
        clear hb1 c0 c1 c2 c3 c4 c5 c6 c7 c8 c9 c10 c11 c12 c13 l1 l2 l3 l4 l5 l6 l7
        obtain ⟨l1, l2, l3, l4, l5, l6, l7⟩ := HROW.out w7 (Kept.of HB7.out)
        obtain ⟨c0, c1, c2, c3, c4, c5, c6, c7, c8, c9, c10, c11, c12, c13⟩ := cdr_cells HK7.out
        go_wp2_with fail
        go_roundg (c.items.length - (kk + 1))
        case measure => omega
        case rel => exact ⟨kk + 1, by omega, by omega, by rw [HS.out], by go_num, HK7.out, HB7.out, HG'.out⟩
    · have hltz : ¬ (kk : Int) < (c.items.length : Int) := by omega
      have hkl : kk = c.items.length := by omega
      subst hkl
      have HA' : Hid (∀ j (hj : j < c.items.length), itemOk c.items[j] = true) := fun j hj => HA.out j hj hj
      have HHc := Lib.hid (IC.out HA'.out)
      have HHd := Lib.hid (ID.out HA'.out)
      clear HI IB IC ID HA HA'
      generalize grossTo c.items c.items.length = G at *
      by_cases hq : c.total = G
      case neg =>
        have HV := Lib.hid ((by first | exact EE.out (by rw [HHc.out hq]; decide) | exact EE.out trivial (by rw [HHc.out hq]; decide) : r = ie).trans (HHc.out hq))
        have hqz : (c.total != G) = true := by simpa using hq
        go_wp2_with fail
        go_ret
        exact ⟨by rw [HV.out]; rfl, BW.out⟩
      have HV := Lib.hid (by first | exact EF.out (HHd.out hq) | exact EF.out trivial (HHd.out hq) : r = re)
      have hqz : (c.total != G) = false := by simpa using hq
      clear hq EE EF HHc HHd
      cases hcr : c.credit with
      | false =>
        rw [hcr] at c12
        by_cases h0 : c.ref.size = 0
        · have hq : c.ref = ⟨#[]⟩ := by
            have : c.ref.data.size = 0 := h0
            generalize c.ref = x at this
            cases x; simp at this; simp [this]
          have HV := Lib.hid (HV.out.trans (RA.out hcr h0))
          rw [hq] at c13
          clear hq hcr h0
          go_wp2_with fail
          go_ret
          exact ⟨by rw [HV.out]; rfl, BW.out⟩
        · have HV := Lib.hid (HV.out.trans (RB.out hcr h0))
          have hq2 := str_some h0
          clear hcr h0
          go_wp2_with fail
          go_ret
          exact ⟨by rw [HV.out]; rfl, BW.out⟩
      | true =>
        rw [hcr] at c12
        have RC := Lib.hid (RC.out hcr)
        have RD := Lib.hid (RD.out hcr)
        have RE := Lib.hid (RE.out hcr)
        clear hcr
        go_wp2_with fail
        refine (C9.out _).mono ?_
        rintro e w7 ⟨rfl, hb⟩
        have HK7 := Lib.hid (BK.out.call hb)
        have HB7 := Lib.hid (below_call BW.out hb)
        have c12' : w7.cell? ⟨w.heap.size, 12, none⟩ = some (.bool true) := hb.cell (p := ⟨w.heap.size, 12, none⟩) (by have := BK.out.lt; exact this) |>.trans c12
        clear hb c0 c1 c2 c3 c4 c5 c6 c7 c8 c9 c10 c11 c12 c13
        obtain ⟨c0, c1, c2, c3, c4, c5, c6, c7, c8, c9, c10, c11, -, c13⟩ := cdr_cells HK7.out
        cases b9
        case false =>
          have HV := Lib.hid (HV.out.trans (RC.out rfl))
          go_wp2_with fail
          go_ret
          exact ⟨by rw [HV.out]; rfl, HB7.out⟩
        by_cases hq : c.ref = c.id
        · have HV := Lib.hid (HV.out.trans (RD.out rfl hq))
          have hqz : (c.ref.toList == c.id.toList) = true := by rw [hq]; simp
          clear hq
          go_wp2_with fail
          go_ret
          exact ⟨by rw [HV.out]; rfl, HB7.out⟩
        · have HV := Lib.hid (HV.out.trans (RE.out rfl hq))
          have hqz := str_ne hq
          clear hq
          go_wp2_with fail
          go_ret
          exact ⟨by rw [HV.out]; rfl, HB7.out⟩
end Cdr
end Go.Proofs.YtpmcdjpfolgpiaaGreatDoor
