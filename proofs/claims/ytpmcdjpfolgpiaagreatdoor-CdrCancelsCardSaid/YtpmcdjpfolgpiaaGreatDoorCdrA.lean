/-
  The walks of cdr.validItems, cdr.validRef and cdr.Valid.
-/
import Derived.Test.YtpmcdjpfolgpiaaGreatDoorCdrV
namespace Go.Proofs.YtpmcdjpfolgpiaaGreatDoor
namespace Cdr
set_option linter.unusedSimpArgs false
set_option linter.unusedVariables false
open Go.RowKit MonW TarW Usg CdrW

theorem str_ne {a b : ByteArray} (h : ¬ a = b) : (a.toList == b.toList) = false := by
  refine beq_eq_false_iff_ne.2 (fun e => h ?_)
  rw [ByteArray.toList_eq, ByteArray.toList_eq] at e
  obtain ⟨⟨x⟩⟩ := a
  obtain ⟨⟨y⟩⟩ := b
  simp at e
  rw [e]
theorem str_some {a : ByteArray} (h : ¬ a.size = 0) : a.toList.isEmpty = false := by
  rw [ByteArray.toList_eq]
  obtain ⟨⟨x⟩⟩ := a
  cases x with
  | nil => exact absurd rfl h
  | cons x l => rfl
theorem cdr_cells {w : World} {B : Nat} {c : CDR} {u : Value} (h : Blk w B 24 (cdrA c u)) : w.cell? ⟨B, 0, none⟩ = some (.string c.id) ∧ w.cell? ⟨B, 1, none⟩ = some (.string c.oper) ∧ w.cell? ⟨B, 2, none⟩ = some (.string c.prov) ∧ w.cell? ⟨B, 3, none⟩ = some (.string c.sess) ∧ w.cell? ⟨B, 4, none⟩ = some (i c.ver) ∧ w.cell? ⟨B, 5, none⟩ = some (i c.start) ∧ w.cell? ⟨B, 6, none⟩ = some (i c.stop) ∧ w.cell? ⟨B, 7, none⟩ = some (i c.en) ∧ w.cell? ⟨B, 8, none⟩ = some (.string c.tar) ∧ w.cell? ⟨B, 9, none⟩ = some (.string c.cur) ∧ w.cell? ⟨B, 10, none⟩ = some (u) ∧ w.cell? ⟨B, 11, none⟩ = some (i c.total) ∧ w.cell? ⟨B, 12, none⟩ = some (.bool c.credit) ∧ w.cell? ⟨B, 13, none⟩ = some (.string c.ref) :=
  ⟨h.cell 0, h.cell 1, h.cell 2, h.cell 3, h.cell 4, h.cell 5, h.cell 6, h.cell 7, h.cell 8, h.cell 9, h.cell 10, h.cell 11, h.cell 12, h.cell 13⟩
theorem cdr_new (w : World) (c : CDR) (u : Value) : Blk (w.alloc (.cells (cdrA c u) 24)) w.heap.size 24 (cdrA c u) := Blk.new _ _ _

set_option maxRecDepth 100000 in
set_option maxHeartbeats 1000000 in
theorem validRef (c : CDR) (A : Option Addr) (n k : Nat) (w : World) (ho : c.ok) {r : Int} (hr : refE c = r) :
    Calls Tryz.prog 26 #[.agg (cdrA c (.slice A n k))] w fun e w' => e = .returned (i r) ∧ Below w.heap.size w w' := by
  have HE := refE_re c
  rw [hr] at HE
  clear hr
  have hs7 := ho.s7
  obtain ⟨id, oper, prov, sess, ver, start, stop, en, tar, cur, items, total, credit, ref⟩ := c
  cases credit with
  | false =>
    by_cases h0 : ref.size = 0
    · have HV := Lib.hid (HE.qa rfl h0)
      have hq : ref = ⟨#[]⟩ := by
        have : ref.data.size = 0 := h0
        cases ref; simp at this; simp [this]
      subst hq
      clear HE ho
      go_enter Tryz.func26, Tryz.ntmps26
      go_wp2_with fail
      go_ret
      exact ⟨by rw [HV.out]; rfl, below_new _ _⟩
    · have HV := Lib.hid (HE.qb rfl h0)
      have hq2 := str_some h0
      clear HE ho
      go_enter Tryz.func26, Tryz.ntmps26
      go_wp2_with fail
      go_ret
      exact ⟨by rw [HV.out]; rfl, below_new _ _⟩
  | true =>
    have HI := Lib.hid (fun W => IdW.valid_ ref W hs7)
    generalize hok : IdW.identOk ref = ok at *
    cases ok with
    | false =>
      have HV := Lib.hid (HE.qc rfl hok)
      clear HE ho
      go_enter Tryz.func26, Tryz.ntmps26
      go_wp2_with fail
      refine (HI.out _).mono ?_
      rintro e w1 ⟨rfl, hb1⟩
      have hb := below_call (below_new w (.cells #[.string id, .string oper, .string prov, .string sess, i ver, i start, i stop, i en, .string tar, .string cur, .slice A n k, i total, .bool true, .string ref] 24)) hb1
      go_wp2_with fail
      go_ret
      exact ⟨by rw [HV.out]; rfl, hb⟩
    | true =>
      by_cases hq : ref = id
      · have HV := Lib.hid (HE.qd rfl hok hq)
        subst hq
        clear HE ho
        go_enter Tryz.func26, Tryz.ntmps26
        go_wp2_with fail
        refine (HI.out _).mono ?_
        rintro e w1 ⟨rfl, hb1⟩
        have hb := below_call (below_new w (.cells #[.string ref, .string oper, .string prov, .string sess, i ver, i start, i stop, i en, .string tar, .string cur, .slice A n k, i total, .bool true, .string ref] 24)) hb1
        have q0 := sCell hb1 (o := 0) (v := .string ref) rfl
        have q13 := sCell hb1 (o := 13) (v := .string ref) rfl
        go_wp2_with fail
        go_ret
        exact ⟨by rw [HV.out]; rfl, hb⟩
      · have HV := Lib.hid (HE.qe rfl hok hq)
        have hq2 := str_ne hq
        clear HE ho
        go_enter Tryz.func26, Tryz.ntmps26
        go_wp2_with fail
        refine (HI.out _).mono ?_
        rintro e w1 ⟨rfl, hb1⟩
        have hb := below_call (below_new w (.cells #[.string id, .string oper, .string prov, .string sess, i ver, i start, i stop, i en, .string tar, .string cur, .slice A n k, i total, .bool true, .string ref] 24)) hb1
        have q0 := sCell hb1 (o := 0) (v := .string id) rfl
        have q13 := sCell hb1 (o := 13) (v := .string ref) rfl
        go_wp2_with fail
        go_ret
        exact ⟨by rw [HV.out]; rfl, hb⟩

theorem of_item (x : Itm) (W : World) {r : Bool} (hr : itemOk x = r) : Calls Tryz.prog 46 #[itmV x] W fun e w' => e = .returned (.bool r) ∧ Below W.heap.size W w' := by
  obtain ⟨kd, pr, tx, qt, nt, vt, gr⟩ := x
  exact CdrW.item kd pr tx qt nt vt gr W hr

set_option maxRecDepth 100000 in
set_option maxHeartbeats 1000000 in
theorem validItems (c : CDR) (u : Value) (w : World) (ho : c.ok) (hi : ItmsAt w u c.items) {r : Int} (hr : itemsE c = r) :
    Calls Tryz.prog 25 #[.agg (cdrA c u)] w fun e w' => e = .returned (i r) ∧ Below w.heap.size w w' := by
  have HE := itemsE_re c
  rw [hr] at HE
  clear hr
  have ht := ho.n5
  obtain ⟨id, oper, prov, sess, ver, start, stop, en, tar, cur, items, total, credit, ref⟩ := c
  simp only at *
  obtain ⟨A, k, rfl, h1, h2⟩ := SliceAt.form hi
  unfold maxLen at h2
  have HI := Lib.hid hi
  clear hi ho
  by_cases hn : 32 < items.length
  · have HV := Lib.hid (HE.qa hn)
    have hnz : (32 : Int) < (items.length : Int) := by omega
    clear HE
    go_enter Tryz.func25, Tryz.ntmps25
    go_wp2_with fail
    go_ret
    exact ⟨by rw [HV.out]; rfl, below_new _ _⟩
  · have hnz : ¬ (32 : Int) < (items.length : Int) := by omega
    have HH := Lib.hid HE
    have hk1 := below_new w (.cells #[.string id, .string oper, .string prov, .string sess, i ver, i start, i stop, i en, .string tar, .string cur, .slice A items.length k, i total, .bool credit, .string ref] 24)
    have HB0 := Lib.hid hk1
    clear HE hk1
    go_enter Tryz.func25, Tryz.ntmps25
    go_wp2_with fail
    go_loopg [3, 13] items.length (fun gg s3 s13 wr => ∃ kk : Nat, kk ≤ items.length ∧ items.length - kk ≤ gg ∧ s3 = i (grossTo items kk) ∧ s13 = i kk ∧ Hid (Below (w.heap.size + 1) (w.alloc (.cells #[.string id, .string oper, .string prov, .string sess, i ver, i start, i stop, i en, .string tar, .string cur, .slice A items.length k, i total, .bool credit, .string ref] 24)) wr) ∧ Hid (∀ j (hj : j < items.length), j < kk → itemOk items[j] = true))
    case atStart => exact ⟨0, Nat.zero_le _, by omega, by rw [gross_zero], rfl, Below.refl _ _, fun j hj h => by omega⟩
    case round =>
      obtain ⟨kk, hkk, hg, rfl, rfl, BW, HA⟩ := hrel
      have BWW : Hid (Below w.heap.size w wr) := HB0.out.trans (BW.out.mono (by omega))
      by_cases hlt : kk < items.length
      · have hltz : (kk : Int) < (items.length : Int) := by omega
        obtain ⟨b, off, rfl, _, hok, hrow⟩ := ItmsAt.at_ HI.out hlt
        obtain ⟨l1, l2, l3, l4, l5, l6, l7⟩ := hrow wr (Kept.of BWW.out)
        clear hrow
        have hgb := gross_bd (l := items) kk hkk HA.out
        have HS := Lib.hid (gross_succ hlt)
        have HC := fun W (r : Bool) (hr : itemOk items[kk] = r) => of_item items[kk] W hr
        have hgw := fun (h : itemOk items[kk] = true) => itemOk_gross h
        have HHb := Lib.hid (HH.out.qb hn kk hlt)
        have HG : Hid (itemOk items[kk] = true → ∀ j (hj : j < items.length), j < kk + 1 → itemOk items[j] = true) := by
          intro hg j hj hlt
          by_cases e : j = kk
          · subst e; exact hg
          · exact HA.out j hj (by omega)
        generalize items[kk] = y at *
        generalize hyk : itemOk y = ok at *
        have HC := fun W => HC W ok rfl
        cases ok with
        | false =>
          have HV := Lib.hid (HHb.out rfl)
          obtain ⟨y1, y2, y3, y4, y5, y6, y7⟩ := y
          simp only at *
          go_wp2_with fail
          refine (HC _).mono ?_
          rintro e w1 ⟨rfl, hb1⟩
          have hb := below_call (below_alloc BWW.out _) hb1
          go_wp2_with fail
          go_ret
          exact ⟨by rw [HV.out]; rfl, hb⟩
        | true =>
          have hgw := hgw rfl
          have HG' := Lib.hid (HG.out rfl)
          have hw6 : IntKind.i64.wrap (grossTo items kk + y.gross) = grossTo items kk + y.gross := IntWalk.i64_in _ (by omega)
          clear hgb hgw HG HHb
          obtain ⟨y1, y2, y3, y4, y5, y6, y7⟩ := y
          simp only at *
          generalize grossTo items kk = G at *
          go_wp2_with fail
          refine (HC _).mono ?_
          rintro e w1 ⟨rfl, hb1⟩
          have q6 := sCell hb1 (o := 6) (v := i y7) rfl
          have hb : Hid (Below (w.heap.size + 1) _ w1) := (BW.out.alloc (by have := BW.out.size; simpa using this) _).trans (hb1.mono (by have := BW.out.size; simp at this; simp; omega))
          clear hb1
          go_wp2_with fail
          go_roundg (items.length - (kk + 1))
          case measure => omega
          case rel => exact ⟨kk + 1, by omega, by omega, by rw [HS.out], by go_num, hb, HG'.out⟩
      · have hltz : ¬ (kk : Int) < (items.length : Int) := by omega
        have q11 : wr.cell? ⟨w.heap.size, 11, none⟩ = some (i total) := (BW.out.cell (p := ⟨w.heap.size, 11, none⟩) (by show w.heap.size < _; omega)).trans (by rw [World.cell?_alloc_new]; rfl)
        have hkl : kk = items.length := by omega
        subst hkl
        have HA' : Hid (∀ j (hj : j < items.length), itemOk items[j] = true) := fun j hj => HA.out j hj hj
        have HHc := Lib.hid (HH.out.qc hn HA'.out)
        have HHd := Lib.hid (HH.out.qd hn HA'.out)
        clear HI
        generalize grossTo items items.length = G at *
        by_cases hq : total = G
        · have HV := Lib.hid (HHd.out hq)
          have hqz : (total != G) = false := by simpa using hq
          go_wp2_with fail
          go_ret
          exact ⟨by rw [HV.out]; rfl, BWW.out⟩
        · have HV := Lib.hid (HHc.out hq)
          have hqz : (total != G) = true := by simpa using hq
          go_wp2_with fail
          go_ret
          exact ⟨by rw [HV.out]; rfl, BWW.out⟩

set_option maxRecDepth 100000 in
set_option maxHeartbeats 2000000 in
theorem valid (c : CDR) (A : Option Addr) (n k : Nat) (w : World) (ho : c.ok) (hi : ItmsAt w (.slice A n k) c.items) {r : Int} (hr : cdrE c = r) :
    Calls Tryz.prog 10 #[.agg (cdrA c (.slice A n k))] w fun e w' => e = .returned (i r) ∧ Below w.heap.size w w' := by
  have HE := cdrE_re c
  rw [hr] at HE
  clear hr
  have HO := Lib.hid ho
  have HI := Lib.hid hi
  have HB0 := Lib.hid (below_new w (.cells (cdrA c (.slice A n k)) 24))
  have HK0 := Lib.hid (cdr_new w c (.slice A n k))
  obtain ⟨nm, hnm⟩ : ∃ b, nmE c = b := ⟨_, rfl⟩
  obtain ⟨rb, hrb⟩ : ∃ b, rgB c = b := ⟨_, rfl⟩
  obtain ⟨rt, hrt⟩ : ∃ b, rgT c = b := ⟨_, rfl⟩
  obtain ⟨rn, hrn⟩ : ∃ b, rgN c = b := ⟨_, rfl⟩
  obtain ⟨cu, hcu⟩ : ∃ b, curOk c.cur = b := ⟨_, rfl⟩
  have hz : ∀ x ∈ [c.id, c.oper, c.prov, c.sess, c.tar], x.size ≤ maxLen := by
    intro x hx; simp at hx; rcases hx with rfl | rfl | rfl | rfl | rfl
    all_goals first | exact ho.s1 | exact ho.s2 | exact ho.s3 | exact ho.s4 | exact ho.s5
  have HNM : Hid (∀ (W : World) (v : Value), NamesAt W v [c.id, c.oper, c.prov, c.sess, c.tar] → Calls Tryz.prog 22 #[v] W fun e w' => e = .returned (i (if nm then 0 else 4)) ∧ Below W.heap.size W w') := fun W v h => names v _ W h (by rw [← hnm]; rfl)
  have HRB : Hid (∀ (W : World) (v : Value), CdrW.IntsAt W v [c.ver] → Calls Tryz.prog 23 #[i 1, i 2147483647, v] W fun e w' => e = .returned (.bool rb) ∧ Below W.heap.size W w') := fun W v h => within _ _ v _ W h hrb
  have HRT : Hid (∀ (W : World) (v : Value), CdrW.IntsAt W v [c.start, c.stop] → Calls Tryz.prog 23 #[i 0, i 268435456, v] W fun e w' => e = .returned (.bool rt) ∧ Below W.heap.size W w') := fun W v h => within _ _ v _ W h hrt
  have HRN : Hid (∀ (W : World) (v : Value), CdrW.IntsAt W v [c.en] → Calls Tryz.prog 23 #[i 0, i 36028797018963968, v] W fun e w' => e = .returned (.bool rn) ∧ Below W.heap.size W w') := fun W v h => within _ _ v _ W h hrn
  have HCU : Hid (∀ (W : World), Calls Tryz.prog 24 #[.string c.cur] W fun e w' => e = .returned (.bool cu) ∧ W = w') := fun W => by have := CdrW.currency c.cur W ho.s6; rw [hcu] at this; exact this
  have HIT : Hid (∀ (W : World), Kept w W → Calls Tryz.prog 25 #[.agg (cdrA c (.slice A n k))] W fun e w' => e = .returned (i (itemsE c)) ∧ Below W.heap.size W w') := fun W h => validItems c _ W HO.out (ItmsAt.keep HI.out h) rfl
  have HRF : Hid (∀ (W : World), Calls Tryz.prog 26 #[.agg (cdrA c (.slice A n k))] W fun e w' => e = .returned (i (refE c)) ∧ Below W.heap.size W w') := fun W => validRef c A n k W HO.out rfl
  have HZ := Lib.hid hz
  obtain ⟨Ea, Eb, Ec, Ed, Ee, Ef⟩ := HE
  rw [hnm] at Ea Eb Ec Ed Ee Ef
  rw [hrb, hrt, hrn] at Ec Ed Ee Ef
  rw [hcu] at Ed Ee Ef
  have HE := trivial
  clear hnm hrb hrt hrn hcu hz ho hi
  cases nm with
  | false =>
    have HV := Lib.hid (Ea rfl)
    try clear Ea Eb Ec Ed Ee Ef
    go_enter Tryz.func10, Tryz.ntmps10
    go_wp2_with fail
    refine (HNM.out _ _ ?_).mono ?_
    · exact namesL _ _ _ _ rfl HZ.out (by unfold maxLen; simp) (by first | rfl | simp) rfl rfl
    rintro e w1 ⟨rfl, hb⟩
    have HK1 := Lib.hid ((HK0.out.alloc _).call hb)
    have HB1 := Lib.hid (below_call (below_alloc HB0.out _) hb)
    obtain ⟨c0, c1, c2, c3, c4, c5, c6, c7, c8, c9, c10, c11, c12, c13⟩ := cdr_cells HK1.out
    clear hb
    go_wp2_with fail
    go_ret
    exact ⟨by rw [HV.out]; rfl, HB1.out⟩
  | true =>
    by_cases hq : c.oper = c.prov
    · have hqz : (c.oper.toList == c.prov.toList) = true := by rw [hq]; simp
      have HV := Lib.hid (Eb rfl hq)
      clear hq
      try clear Ea Eb Ec Ed Ee Ef
      go_enter Tryz.func10, Tryz.ntmps10
      go_wp2_with fail
      refine (HNM.out _ _ ?_).mono ?_
      · exact namesL _ _ _ _ rfl HZ.out (by unfold maxLen; simp) (by first | rfl | simp) rfl rfl
      rintro e w1 ⟨rfl, hb⟩
      have HK1 := Lib.hid ((HK0.out.alloc _).call hb)
      have HB1 := Lib.hid (below_call (below_alloc HB0.out _) hb)
      obtain ⟨c0, c1, c2, c3, c4, c5, c6, c7, c8, c9, c10, c11, c12, c13⟩ := cdr_cells HK1.out
      clear hb
      go_wp2_with fail
      go_ret
      exact ⟨by rw [HV.out]; rfl, HB1.out⟩
    · have hqz := str_ne hq
      cases rb with
      | false =>
        have HV := Lib.hid (Ec rfl hq (by simp))
        try clear Ea Eb Ec Ed Ee Ef
        go_enter Tryz.func10, Tryz.ntmps10
        go_wp2_with fail
        refine (HNM.out _ _ ?_).mono ?_
        · exact namesL _ _ _ _ rfl HZ.out (by unfold maxLen; simp) (by first | rfl | simp) rfl rfl
        rintro e w1 ⟨rfl, hb⟩
        have HK1 := Lib.hid ((HK0.out.alloc _).call hb)
        have HB1 := Lib.hid (below_call (below_alloc HB0.out _) hb)
        obtain ⟨c0, c1, c2, c3, c4, c5, c6, c7, c8, c9, c10, c11, c12, c13⟩ := cdr_cells HK1.out
        clear hb
        go_wp2_with fail
        refine (HRB.out _ _ ?_).mono ?_
        · exact intsL _ _ _ _ rfl (by unfold maxLen; simp) (by first | rfl | simp) rfl rfl
        rintro e w2 ⟨rfl, hb⟩
        have HK2 := Lib.hid ((HK1.out.alloc _).call hb)
        have HB2 := Lib.hid (below_call (below_alloc HB1.out _) hb)
        clear c0 c1 c2 c3 c4 c5 c6 c7 c8 c9 c10 c11 c12 c13
        obtain ⟨c0, c1, c2, c3, c4, c5, c6, c7, c8, c9, c10, c11, c12, c13⟩ := cdr_cells HK2.out
        clear hb
        go_wp2_with fail
        go_ret
        exact ⟨by rw [HV.out]; rfl, HB2.out⟩
      | true =>
        cases rt with
        | false =>
          have HV := Lib.hid (Ec rfl hq (by simp))
          try clear Ea Eb Ec Ed Ee Ef
          go_enter Tryz.func10, Tryz.ntmps10
          go_wp2_with fail
          refine (HNM.out _ _ ?_).mono ?_
          · exact namesL _ _ _ _ rfl HZ.out (by unfold maxLen; simp) (by first | rfl | simp) rfl rfl
          rintro e w1 ⟨rfl, hb⟩
          have HK1 := Lib.hid ((HK0.out.alloc _).call hb)
          have HB1 := Lib.hid (below_call (below_alloc HB0.out _) hb)
          obtain ⟨c0, c1, c2, c3, c4, c5, c6, c7, c8, c9, c10, c11, c12, c13⟩ := cdr_cells HK1.out
          clear hb
          go_wp2_with fail
          refine (HRB.out _ _ ?_).mono ?_
          · exact intsL _ _ _ _ rfl (by unfold maxLen; simp) (by first | rfl | simp) rfl rfl
          rintro e w2 ⟨rfl, hb⟩
          have HK2 := Lib.hid ((HK1.out.alloc _).call hb)
          have HB2 := Lib.hid (below_call (below_alloc HB1.out _) hb)
          clear c0 c1 c2 c3 c4 c5 c6 c7 c8 c9 c10 c11 c12 c13
          obtain ⟨c0, c1, c2, c3, c4, c5, c6, c7, c8, c9, c10, c11, c12, c13⟩ := cdr_cells HK2.out
          clear hb
          go_wp2_with fail
          refine (HRT.out _ _ ?_).mono ?_
          · exact intsL _ _ _ _ rfl (by unfold maxLen; simp) (by first | rfl | simp) rfl rfl
          rintro e w3 ⟨rfl, hb⟩
          have HK3 := Lib.hid ((HK2.out.alloc _).call hb)
          have HB3 := Lib.hid (below_call (below_alloc HB2.out _) hb)
          clear c0 c1 c2 c3 c4 c5 c6 c7 c8 c9 c10 c11 c12 c13
          obtain ⟨c0, c1, c2, c3, c4, c5, c6, c7, c8, c9, c10, c11, c12, c13⟩ := cdr_cells HK3.out
          clear hb
          go_wp2_with fail
          go_ret
          exact ⟨by rw [HV.out]; rfl, HB3.out⟩
        | true =>
          by_cases hs : c.stop < c.start
          · skip
            have HV := Lib.hid (Ec rfl hq (by simp [hs]))
            try clear Ea Eb Ec Ed Ee Ef
            go_enter Tryz.func10, Tryz.ntmps10
            go_wp2_with fail
            refine (HNM.out _ _ ?_).mono ?_
            · exact namesL _ _ _ _ rfl HZ.out (by unfold maxLen; simp) (by first | rfl | simp) rfl rfl
            rintro e w1 ⟨rfl, hb⟩
            have HK1 := Lib.hid ((HK0.out.alloc _).call hb)
            have HB1 := Lib.hid (below_call (below_alloc HB0.out _) hb)
            obtain ⟨c0, c1, c2, c3, c4, c5, c6, c7, c8, c9, c10, c11, c12, c13⟩ := cdr_cells HK1.out
            clear hb
            go_wp2_with fail
            refine (HRB.out _ _ ?_).mono ?_
            · exact intsL _ _ _ _ rfl (by unfold maxLen; simp) (by first | rfl | simp) rfl rfl
            rintro e w2 ⟨rfl, hb⟩
            have HK2 := Lib.hid ((HK1.out.alloc _).call hb)
            have HB2 := Lib.hid (below_call (below_alloc HB1.out _) hb)
            clear c0 c1 c2 c3 c4 c5 c6 c7 c8 c9 c10 c11 c12 c13
            obtain ⟨c0, c1, c2, c3, c4, c5, c6, c7, c8, c9, c10, c11, c12, c13⟩ := cdr_cells HK2.out
            clear hb
            go_wp2_with fail
            refine (HRT.out _ _ ?_).mono ?_
            · exact intsL _ _ _ _ rfl (by unfold maxLen; simp) (by first | rfl | simp) rfl rfl
            rintro e w3 ⟨rfl, hb⟩
            have HK3 := Lib.hid ((HK2.out.alloc _).call hb)
            have HB3 := Lib.hid (below_call (below_alloc HB2.out _) hb)
            clear c0 c1 c2 c3 c4 c5 c6 c7 c8 c9 c10 c11 c12 c13
            obtain ⟨c0, c1, c2, c3, c4, c5, c6, c7, c8, c9, c10, c11, c12, c13⟩ := cdr_cells HK3.out
            clear hb
            go_wp2_with fail
            go_ret
            exact ⟨by rw [HV.out]; rfl, HB3.out⟩
          · cases rn with
            | false =>
              have HV := Lib.hid (Ec rfl hq (by simp))
              try clear Ea Eb Ec Ed Ee Ef
              go_enter Tryz.func10, Tryz.ntmps10
              go_wp2_with fail
              refine (HNM.out _ _ ?_).mono ?_
              · exact namesL _ _ _ _ rfl HZ.out (by unfold maxLen; simp) (by first | rfl | simp) rfl rfl
              rintro e w1 ⟨rfl, hb⟩
              have HK1 := Lib.hid ((HK0.out.alloc _).call hb)
              have HB1 := Lib.hid (below_call (below_alloc HB0.out _) hb)
              obtain ⟨c0, c1, c2, c3, c4, c5, c6, c7, c8, c9, c10, c11, c12, c13⟩ := cdr_cells HK1.out
              clear hb
              go_wp2_with fail
              refine (HRB.out _ _ ?_).mono ?_
              · exact intsL _ _ _ _ rfl (by unfold maxLen; simp) (by first | rfl | simp) rfl rfl
              rintro e w2 ⟨rfl, hb⟩
              have HK2 := Lib.hid ((HK1.out.alloc _).call hb)
              have HB2 := Lib.hid (below_call (below_alloc HB1.out _) hb)
              clear c0 c1 c2 c3 c4 c5 c6 c7 c8 c9 c10 c11 c12 c13
              obtain ⟨c0, c1, c2, c3, c4, c5, c6, c7, c8, c9, c10, c11, c12, c13⟩ := cdr_cells HK2.out
              clear hb
              go_wp2_with fail
              refine (HRT.out _ _ ?_).mono ?_
              · exact intsL _ _ _ _ rfl (by unfold maxLen; simp) (by first | rfl | simp) rfl rfl
              rintro e w3 ⟨rfl, hb⟩
              have HK3 := Lib.hid ((HK2.out.alloc _).call hb)
              have HB3 := Lib.hid (below_call (below_alloc HB2.out _) hb)
              clear c0 c1 c2 c3 c4 c5 c6 c7 c8 c9 c10 c11 c12 c13
              obtain ⟨c0, c1, c2, c3, c4, c5, c6, c7, c8, c9, c10, c11, c12, c13⟩ := cdr_cells HK3.out
              clear hb
              go_wp2_with fail
              refine (HRN.out _ _ ?_).mono ?_
              · exact intsL _ _ _ _ rfl (by unfold maxLen; simp) (by first | rfl | simp) rfl rfl
              rintro e w4 ⟨rfl, hb⟩
              have HK4 := Lib.hid ((HK3.out.alloc _).call hb)
              have HB4 := Lib.hid (below_call (below_alloc HB3.out _) hb)
              clear c0 c1 c2 c3 c4 c5 c6 c7 c8 c9 c10 c11 c12 c13
              obtain ⟨c0, c1, c2, c3, c4, c5, c6, c7, c8, c9, c10, c11, c12, c13⟩ := cdr_cells HK4.out
              clear hb
              go_wp2_with fail
              go_ret
              exact ⟨by rw [HV.out]; rfl, HB4.out⟩
            | true =>
              cases cu with
              | false =>
                have HV := Lib.hid (Ed rfl hq ⟨rfl, rfl, hs, rfl⟩ rfl)
                try clear Ea Eb Ec Ed Ee Ef
                go_enter Tryz.func10, Tryz.ntmps10
                go_wp2_with fail
                refine (HNM.out _ _ ?_).mono ?_
                · exact namesL _ _ _ _ rfl HZ.out (by unfold maxLen; simp) (by first | rfl | simp) rfl rfl
                rintro e w1 ⟨rfl, hb⟩
                have HK1 := Lib.hid ((HK0.out.alloc _).call hb)
                have HB1 := Lib.hid (below_call (below_alloc HB0.out _) hb)
                obtain ⟨c0, c1, c2, c3, c4, c5, c6, c7, c8, c9, c10, c11, c12, c13⟩ := cdr_cells HK1.out
                clear hb
                go_wp2_with fail
                refine (HRB.out _ _ ?_).mono ?_
                · exact intsL _ _ _ _ rfl (by unfold maxLen; simp) (by first | rfl | simp) rfl rfl
                rintro e w2 ⟨rfl, hb⟩
                have HK2 := Lib.hid ((HK1.out.alloc _).call hb)
                have HB2 := Lib.hid (below_call (below_alloc HB1.out _) hb)
                clear c0 c1 c2 c3 c4 c5 c6 c7 c8 c9 c10 c11 c12 c13
                obtain ⟨c0, c1, c2, c3, c4, c5, c6, c7, c8, c9, c10, c11, c12, c13⟩ := cdr_cells HK2.out
                clear hb
                go_wp2_with fail
                refine (HRT.out _ _ ?_).mono ?_
                · exact intsL _ _ _ _ rfl (by unfold maxLen; simp) (by first | rfl | simp) rfl rfl
                rintro e w3 ⟨rfl, hb⟩
                have HK3 := Lib.hid ((HK2.out.alloc _).call hb)
                have HB3 := Lib.hid (below_call (below_alloc HB2.out _) hb)
                clear c0 c1 c2 c3 c4 c5 c6 c7 c8 c9 c10 c11 c12 c13
                obtain ⟨c0, c1, c2, c3, c4, c5, c6, c7, c8, c9, c10, c11, c12, c13⟩ := cdr_cells HK3.out
                clear hb
                go_wp2_with fail
                refine (HRN.out _ _ ?_).mono ?_
                · exact intsL _ _ _ _ rfl (by unfold maxLen; simp) (by first | rfl | simp) rfl rfl
                rintro e w4 ⟨rfl, hb⟩
                have HK4 := Lib.hid ((HK3.out.alloc _).call hb)
                have HB4 := Lib.hid (below_call (below_alloc HB3.out _) hb)
                clear c0 c1 c2 c3 c4 c5 c6 c7 c8 c9 c10 c11 c12 c13
                obtain ⟨c0, c1, c2, c3, c4, c5, c6, c7, c8, c9, c10, c11, c12, c13⟩ := cdr_cells HK4.out
                clear hb
                go_wp2_with fail
                refine (HCU.out _).mono ?_
                rintro e w5 ⟨rfl, rfl⟩
                go_wp2_with fail
                go_ret
                exact ⟨by rw [HV.out]; rfl, HB4.out⟩
              | true =>
                have HX := Lib.hid (Ee rfl hq ⟨rfl, rfl, hs, rfl⟩ rfl)
                have HY := Lib.hid (Ef rfl hq ⟨rfl, rfl, hs, rfl⟩ rfl)
                clear Ea Eb Ec Ed Ee Ef
                generalize itemsE c = it at *
                generalize refE c = rf at *
                by_cases h0 : it = 0
                · subst h0
                  have HE := trivial
                  have HV := Lib.hid (HY.out rfl)
                  try clear Ea Eb Ec Ed Ee Ef
                  go_enter Tryz.func10, Tryz.ntmps10
                  go_wp2_with fail
                  refine (HNM.out _ _ ?_).mono ?_
                  · exact namesL _ _ _ _ rfl HZ.out (by unfold maxLen; simp) (by first | rfl | simp) rfl rfl
                  rintro e w1 ⟨rfl, hb⟩
                  have HK1 := Lib.hid ((HK0.out.alloc _).call hb)
                  have HB1 := Lib.hid (below_call (below_alloc HB0.out _) hb)
                  obtain ⟨c0, c1, c2, c3, c4, c5, c6, c7, c8, c9, c10, c11, c12, c13⟩ := cdr_cells HK1.out
                  clear hb
                  go_wp2_with fail
                  refine (HRB.out _ _ ?_).mono ?_
                  · exact intsL _ _ _ _ rfl (by unfold maxLen; simp) (by first | rfl | simp) rfl rfl
                  rintro e w2 ⟨rfl, hb⟩
                  have HK2 := Lib.hid ((HK1.out.alloc _).call hb)
                  have HB2 := Lib.hid (below_call (below_alloc HB1.out _) hb)
                  clear c0 c1 c2 c3 c4 c5 c6 c7 c8 c9 c10 c11 c12 c13
                  obtain ⟨c0, c1, c2, c3, c4, c5, c6, c7, c8, c9, c10, c11, c12, c13⟩ := cdr_cells HK2.out
                  clear hb
                  go_wp2_with fail
                  refine (HRT.out _ _ ?_).mono ?_
                  · exact intsL _ _ _ _ rfl (by unfold maxLen; simp) (by first | rfl | simp) rfl rfl
                  rintro e w3 ⟨rfl, hb⟩
                  have HK3 := Lib.hid ((HK2.out.alloc _).call hb)
                  have HB3 := Lib.hid (below_call (below_alloc HB2.out _) hb)
                  clear c0 c1 c2 c3 c4 c5 c6 c7 c8 c9 c10 c11 c12 c13
                  obtain ⟨c0, c1, c2, c3, c4, c5, c6, c7, c8, c9, c10, c11, c12, c13⟩ := cdr_cells HK3.out
                  clear hb
                  go_wp2_with fail
                  refine (HRN.out _ _ ?_).mono ?_
                  · exact intsL _ _ _ _ rfl (by unfold maxLen; simp) (by first | rfl | simp) rfl rfl
                  rintro e w4 ⟨rfl, hb⟩
                  have HK4 := Lib.hid ((HK3.out.alloc _).call hb)
                  have HB4 := Lib.hid (below_call (below_alloc HB3.out _) hb)
                  clear c0 c1 c2 c3 c4 c5 c6 c7 c8 c9 c10 c11 c12 c13
                  obtain ⟨c0, c1, c2, c3, c4, c5, c6, c7, c8, c9, c10, c11, c12, c13⟩ := cdr_cells HK4.out
                  clear hb
                  go_wp2_with fail
                  refine (HCU.out _).mono ?_
                  rintro e w5 ⟨rfl, rfl⟩
                  go_wp2_with fail
                  refine (HIT.out _ (Kept.of HB4.out)).mono ?_
                  rintro e w6 ⟨rfl, hb⟩
                  have HK6 := Lib.hid (HK4.out.call hb)
                  have HB6 := Lib.hid (below_call HB4.out hb)
                  clear c0 c1 c2 c3 c4 c5 c6 c7 c8 c9 c10 c11 c12 c13
                  obtain ⟨c0, c1, c2, c3, c4, c5, c6, c7, c8, c9, c10, c11, c12, c13⟩ := cdr_cells HK6.out
                  clear hb
                  go_wp2_with fail
                  refine (HRF.out _).mono ?_
                  rintro e w7 ⟨rfl, hb⟩
                  have HB7 := Lib.hid (below_call HB6.out hb)
                  clear hb
                  go_wp2_with fail
                  go_ret
                  exact ⟨by rw [HV.out]; rfl, HB7.out⟩
                · have hz : (it != 0) = true := by simpa using h0
                  have HE := trivial
                  have HV := Lib.hid (HX.out h0)
                  try clear Ea Eb Ec Ed Ee Ef
                  go_enter Tryz.func10, Tryz.ntmps10
                  go_wp2_with fail
                  refine (HNM.out _ _ ?_).mono ?_
                  · exact namesL _ _ _ _ rfl HZ.out (by unfold maxLen; simp) (by first | rfl | simp) rfl rfl
                  rintro e w1 ⟨rfl, hb⟩
                  have HK1 := Lib.hid ((HK0.out.alloc _).call hb)
                  have HB1 := Lib.hid (below_call (below_alloc HB0.out _) hb)
                  obtain ⟨c0, c1, c2, c3, c4, c5, c6, c7, c8, c9, c10, c11, c12, c13⟩ := cdr_cells HK1.out
                  clear hb
                  go_wp2_with fail
                  refine (HRB.out _ _ ?_).mono ?_
                  · exact intsL _ _ _ _ rfl (by unfold maxLen; simp) (by first | rfl | simp) rfl rfl
                  rintro e w2 ⟨rfl, hb⟩
                  have HK2 := Lib.hid ((HK1.out.alloc _).call hb)
                  have HB2 := Lib.hid (below_call (below_alloc HB1.out _) hb)
                  clear c0 c1 c2 c3 c4 c5 c6 c7 c8 c9 c10 c11 c12 c13
                  obtain ⟨c0, c1, c2, c3, c4, c5, c6, c7, c8, c9, c10, c11, c12, c13⟩ := cdr_cells HK2.out
                  clear hb
                  go_wp2_with fail
                  refine (HRT.out _ _ ?_).mono ?_
                  · exact intsL _ _ _ _ rfl (by unfold maxLen; simp) (by first | rfl | simp) rfl rfl
                  rintro e w3 ⟨rfl, hb⟩
                  have HK3 := Lib.hid ((HK2.out.alloc _).call hb)
                  have HB3 := Lib.hid (below_call (below_alloc HB2.out _) hb)
                  clear c0 c1 c2 c3 c4 c5 c6 c7 c8 c9 c10 c11 c12 c13
                  obtain ⟨c0, c1, c2, c3, c4, c5, c6, c7, c8, c9, c10, c11, c12, c13⟩ := cdr_cells HK3.out
                  clear hb
                  go_wp2_with fail
                  refine (HRN.out _ _ ?_).mono ?_
                  · exact intsL _ _ _ _ rfl (by unfold maxLen; simp) (by first | rfl | simp) rfl rfl
                  rintro e w4 ⟨rfl, hb⟩
                  have HK4 := Lib.hid ((HK3.out.alloc _).call hb)
                  have HB4 := Lib.hid (below_call (below_alloc HB3.out _) hb)
                  clear c0 c1 c2 c3 c4 c5 c6 c7 c8 c9 c10 c11 c12 c13
                  obtain ⟨c0, c1, c2, c3, c4, c5, c6, c7, c8, c9, c10, c11, c12, c13⟩ := cdr_cells HK4.out
                  clear hb
                  go_wp2_with fail
                  refine (HCU.out _).mono ?_
                  rintro e w5 ⟨rfl, rfl⟩
                  go_wp2_with fail
                  refine (HIT.out _ (Kept.of HB4.out)).mono ?_
                  rintro e w6 ⟨rfl, hb⟩
                  have HK6 := Lib.hid (HK4.out.call hb)
                  have HB6 := Lib.hid (below_call HB4.out hb)
                  clear c0 c1 c2 c3 c4 c5 c6 c7 c8 c9 c10 c11 c12 c13
                  obtain ⟨c0, c1, c2, c3, c4, c5, c6, c7, c8, c9, c10, c11, c12, c13⟩ := cdr_cells HK6.out
                  clear hb
                  go_wp2_with fail
                  go_ret
                  exact ⟨by rw [HV.out]; rfl, HB6.out⟩
end Cdr
end Go.Proofs.YtpmcdjpfolgpiaaGreatDoor
