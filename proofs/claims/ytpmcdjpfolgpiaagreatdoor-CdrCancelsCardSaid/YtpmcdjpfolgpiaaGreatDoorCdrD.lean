/-
  The walk of cdr.Credit (where it gives none).
-/
import Derived.Test.YtpmcdjpfolgpiaaGreatDoorCdrM
namespace Go.Proofs.YtpmcdjpfolgpiaaGreatDoor
namespace Cdr
set_option linter.unusedSimpArgs false
set_option linter.unusedVariables false
open Go.RowKit MonW TarW Usg UsgW Prc PriW CdrW

def crd (c : CDR) (id : ByteArray) : CDR := ⟨id, c.oper, c.prov, c.sess, c.ver, c.start, c.stop, c.en, c.tar, c.cur, c.items.map ngi, IntKind.i64.wrap (-c.total), true, c.id⟩
def creditR (c : CDR) (id : ByteArray) : CDR × Int :=
  if cdrE c ≠ 0 then (noCdr, cdrE c) else if c.credit = true then (noCdr, 10) else if IdW.identOk id = false then (noCdr, 4) else if id = c.id then (noCdr, 9) else (crd c id, 0)
structure CreditR (c : CDR) (id : ByteArray) (R : CDR × Int) : Prop where
  qa : cdrE c ≠ 0 → R = (noCdr, cdrE c)
  qb : cdrE c = 0 → c.credit = true → R = (noCdr, 10)
  qc : cdrE c = 0 → c.credit = false → IdW.identOk id = false → R = (noCdr, 4)
  qd : cdrE c = 0 → c.credit = false → IdW.identOk id = true → id = c.id → R = (noCdr, 9)
  qe : cdrE c = 0 → c.credit = false → IdW.identOk id = true → id ≠ c.id → R = (crd c id, 0)
theorem creditR_re (c : CDR) (id : ByteArray) : CreditR c id (creditR c id) := by
  constructor
  all_goals intros
  all_goals unfold creditR
  · rw [if_pos (by assumption)]
  · rename_i h1 h2
    rw [if_neg (fun e => e h1), if_pos h2]
  · rename_i h1 h2 h3
    rw [if_neg (fun e => e h1), if_neg (by rw [h2]; decide), if_pos h3]
  · rename_i h1 h2 h3 h4
    rw [if_neg (fun e => e h1), if_neg (by rw [h2]; decide), if_neg (by rw [h3]; decide), if_pos h4]
  · rename_i h1 h2 h3 h4
    rw [if_neg (fun e => e h1), if_neg (by rw [h2]; decide), if_neg (by rw [h3]; decide), if_neg h4]
theorem cdr_short {c : CDR} (h : cdrE c = 0) : c.items.length ≤ 32 := by
  have hE := cdrE_re c
  rw [h] at hE
  by_cases h1 : nmE c = true
  · by_cases h2 : c.oper = c.prov
    · have := hE.qb h1 h2; cases this
    · by_cases h3 : (rgB c = true ∧ rgT c = true ∧ ¬ c.stop < c.start ∧ rgN c = true)
      · by_cases h4 : curOk c.cur = true
        · by_cases h5 : itemsE c = 0
          · unfold itemsE at h5
            by_cases h6 : 32 < c.items.length
            · rw [if_pos h6] at h5; cases h5
            · omega
          · have := hE.qe h1 h2 h3 h4 h5; exact absurd this.symm h5
        · have := hE.qd h1 h2 h3 (by simpa using h4); cases this
      · have := hE.qc h1 h2 h3; cases this
  · have := hE.qa (by simpa using h1); cases this
theorem retC {W : World} {tmps : Array Value} {B : Nat} {c : CDR} {A : Option Addr} {n k : Nat} {E : Int} (h1 : tmps.getD 4 undef = .pointer (some ⟨B, 0, none⟩)) (h2 : tmps.getD 5 undef = i E) (hk : Blk W B 24 (cdrA c (.slice A n k))) :
    (results Tryz.f16 tmps).run Tryz.prog W = .ok (.tuple #[.agg (cdrA c (.slice A n k)), i E]) W := by
  obtain ⟨c0, c1, c2, c3, c4, c5, c6, c7, c8, c9, c10, c11, c12, c13⟩ := cdr_cells hk
  rw [Array.getD_eq_getD_getElem?] at h1 h2
  simp [results, Tryz.f16, go_sem, h1, h2, c0, c1, c2, c3, c4, c5, c6, c7, c8, c9, c10, c11, c12, c13]

structure CX (s0 : Nat) (c : CDR) (u : Value) (w : World) : Prop where
  ka : Blk w s0 24 (cdrA c u)
  kc : Blk w (s0 + 1) 24 (cdrA noCdr (.slice none 0 0))
theorem CX.new (c : CDR) (u : Value) (w : World) : CX w.heap.size c u ((w.alloc (.cells (cdrA c u) 24)).alloc (.cells (cdrA noCdr (.slice none 0 0)) 24)) := by
  have k := Blk.new (w.alloc (.cells (cdrA c u) 24)) 24 (cdrA noCdr (.slice none 0 0))
  rw [World.size_alloc] at k
  exact ⟨(Blk.new w _ _).alloc _, k⟩
theorem CX.call {s0 : Nat} {c : CDR} {u : Value} {w w' : World} (h : CX s0 c u w) (hb : Below w.heap.size w w') : CX s0 c u w' := ⟨h.ka.call hb, h.kc.call hb⟩
theorem CX.res {s0 : Nat} {c : CDR} {u : Value} {w : World} (h : CX s0 c u w) : (∀ o, w.cell? ⟨s0 + 1, o, none⟩ = (cdrA noCdr (.slice none 0 0))[o]?) ∧ (∀ o, w.frozen? ⟨s0 + 1, o, none⟩ = false) := ⟨h.kc.cell, h.kc.frozen⟩


set_option maxRecDepth 100000 in
set_option maxHeartbeats 4000000 in
theorem credit_no (c : CDR) (id : ByteArray) (A : Option Addr) (n k : Nat) (w : World) (ho : c.ok) (hi : ItmsAt w (.slice A n k) c.items) (hz : id.size ≤ maxLen) (HY : ¬ (cdrE c = 0 ∧ c.credit = false ∧ IdW.identOk id = true ∧ id ≠ c.id)) :
    Calls Tryz.prog 16 #[.agg (cdrA c (.slice A n k)), .string id] w (MakePost (creditR c id) w) := by
  obtain ⟨Ea, Eb, Ec, Ed, Ee⟩ := creditR_re c id
  have HB0 := Lib.hid (below_alloc (below_alloc (Below.refl w.heap.size w) (.cells (cdrA c (.slice A n k)) 24)) (.cells (cdrA noCdr (.slice none 0 0)) 24))
  have HX0 := Lib.hid (CX.new c (.slice A n k) w)
  have HV : Hid (∀ W, Below w.heap.size w W → Calls Tryz.prog 10 #[.agg (cdrA c (.slice A n k))] W fun e w' => e = .returned (i (cdrE c)) ∧ Below W.heap.size W w') := fun W hb => valid c A n k W ho (ItmsAt.call hi hb) rfl
  have HID := Lib.hid (fun W => IdW.valid_ id W hz)
  have HNG : Hid (cdrE c = 0 → ∀ W, Below w.heap.size w W → Calls Tryz.prog 36 #[.slice A n k] W (NegPost c.items W)) := fun h W hb => negate _ c.items W (ItmsAt.call hi hb) (by have := cdr_short h; omega)
  unfold NegPost at HNG
  clear ho hi hz
  obtain ⟨R, hRR⟩ : ∃ R, creditR c id = R := ⟨_, rfl⟩
  rw [hRR] at Ea Eb Ec Ed Ee ⊢
  clear hRR
  have HRc := Lib.hid (rfl : crd c id = crd c id)
  obtain ⟨cid, oper, prov, sess, ver, start, stop, en, tar, cur, items, total, cr, ref⟩ := c
  simp only at HY Ea Eb Ec Ed Ee HNG
  generalize cdrE ⟨cid, oper, prov, sess, ver, start, stop, en, tar, cur, items, total, cr, ref⟩ = e1 at *
  generalize IdW.identOk id = ok at *
  clear HRc
  by_cases h1 : e1 = 0
  case neg =>
    have hz : (e1 != 0) = true := by simpa using h1
    have HW := Lib.hid (Ea h1)
    clear Ea Eb Ec Ed Ee
    go_enter Tryz.func16, Tryz.ntmps16
    go_wp2_with fail
    refine (HV.out _ HB0.out).mono ?_
    rintro e w1 ⟨rfl, hb⟩
    have HX1 := Lib.hid (HX0.out.call hb)
    have HB1 := Lib.hid (below_call HB0.out hb)
    clear hb
    obtain ⟨c0, c1, c2, c3, c4, c5, c6, c7, c8, c9, c10, c11, c12, c13⟩ := cdr_cells HX1.out.ka
    obtain ⟨d, fz⟩ := HX1.out.res
    go_wp2_with fail
    refine bodyPost_ret (retC rfl rfl (put14_blk noCdr (.slice none 0 0) HX1.out.kc)) rfl ?_
    exact MakePost.no HW.out (put14_below noCdr (.slice none 0 0) HB1.out (by omega))
  subst h1
  cases cr with
  | true =>
    have HW := Lib.hid (Eb rfl rfl)
    clear Ea Eb Ec Ed Ee
    go_enter Tryz.func16, Tryz.ntmps16
    go_wp2_with fail
    refine (HV.out _ HB0.out).mono ?_
    rintro e w1 ⟨rfl, hb⟩
    have HX1 := Lib.hid (HX0.out.call hb)
    have HB1 := Lib.hid (below_call HB0.out hb)
    clear hb
    obtain ⟨c0, c1, c2, c3, c4, c5, c6, c7, c8, c9, c10, c11, c12, c13⟩ := cdr_cells HX1.out.ka
    obtain ⟨d, fz⟩ := HX1.out.res
    go_wp2_with fail
    refine bodyPost_ret (retC rfl rfl (put14_blk noCdr (.slice none 0 0) HX1.out.kc)) rfl ?_
    exact MakePost.no HW.out (put14_below noCdr (.slice none 0 0) HB1.out (by omega))
  | false =>
    cases ok with
    | false =>
      have HW := Lib.hid (Ec rfl rfl rfl)
      clear Ea Eb Ec Ed Ee
      go_enter Tryz.func16, Tryz.ntmps16
      go_wp2_with fail
      refine (HV.out _ HB0.out).mono ?_
      rintro e w1 ⟨rfl, hb⟩
      have HX1 := Lib.hid (HX0.out.call hb)
      have HB1 := Lib.hid (below_call HB0.out hb)
      clear hb
      obtain ⟨c0, c1, c2, c3, c4, c5, c6, c7, c8, c9, c10, c11, c12, c13⟩ := cdr_cells HX1.out.ka
      obtain ⟨d, fz⟩ := HX1.out.res
      go_wp2_with fail
      refine (HID.out _).mono ?_
      rintro e w2 ⟨rfl, hb⟩
      have HX2 := Lib.hid (HX1.out.call hb)
      have HB2 := Lib.hid (below_call HB1.out hb)
      clear hb
      clear c0 c1 c2 c3 c4 c5 c6 c7 c8 c9 c10 c11 c12 c13 d fz
      obtain ⟨c0, c1, c2, c3, c4, c5, c6, c7, c8, c9, c10, c11, c12, c13⟩ := cdr_cells HX2.out.ka
      obtain ⟨d, fz⟩ := HX2.out.res
      go_wp2_with fail
      refine bodyPost_ret (retC rfl rfl (put14_blk noCdr (.slice none 0 0) HX2.out.kc)) rfl ?_
      exact MakePost.no HW.out (put14_below noCdr (.slice none 0 0) HB2.out (by omega))
    | true =>
      have hq : id = cid := Classical.byContradiction fun e => HY ⟨rfl, rfl, rfl, e⟩
      clear HY
      have HW := Lib.hid (Ed rfl rfl rfl hq)
      clear Ea Eb Ec Ed Ee
      subst hq
      have hqz : (id.toList == id.toList) = true := by simp
      go_enter Tryz.func16, Tryz.ntmps16
      go_wp2_with fail
      refine (HV.out _ HB0.out).mono ?_
      rintro e w1 ⟨rfl, hb⟩
      have HX1 := Lib.hid (HX0.out.call hb)
      have HB1 := Lib.hid (below_call HB0.out hb)
      clear hb
      obtain ⟨c0, c1, c2, c3, c4, c5, c6, c7, c8, c9, c10, c11, c12, c13⟩ := cdr_cells HX1.out.ka
      obtain ⟨d, fz⟩ := HX1.out.res
      go_wp2_with fail
      refine (HID.out _).mono ?_
      rintro e w2 ⟨rfl, hb⟩
      have HX2 := Lib.hid (HX1.out.call hb)
      have HB2 := Lib.hid (below_call HB1.out hb)
      clear hb
      clear c0 c1 c2 c3 c4 c5 c6 c7 c8 c9 c10 c11 c12 c13 d fz
      obtain ⟨c0, c1, c2, c3, c4, c5, c6, c7, c8, c9, c10, c11, c12, c13⟩ := cdr_cells HX2.out.ka
      obtain ⟨d, fz⟩ := HX2.out.res
      go_wp2_with fail
      refine bodyPost_ret (retC rfl rfl (put14_blk noCdr (.slice none 0 0) HX2.out.kc)) rfl ?_
      exact MakePost.no HW.out (put14_below noCdr (.slice none 0 0) HB2.out (by omega))
end Cdr
end Go.Proofs.YtpmcdjpfolgpiaaGreatDoor
