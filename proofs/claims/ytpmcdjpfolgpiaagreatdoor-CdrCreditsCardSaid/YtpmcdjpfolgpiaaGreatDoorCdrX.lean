/-
  The walk of the reference's Credit.
-/
import Derived.Test.YtpmcdjpfolgpiaaGreatDoorCdrT
import Derived.Test.YtpmcdjpfolgpiaaGreatDoorCdrE
import Derived.Deep.RegionHeld3
namespace Go.Proofs.YtpmcdjpfolgpiaaGreatDoor
namespace Cdr
set_option linter.unusedSimpArgs false
set_option linter.unusedVariables false
open Go.RowKit MonW TarW Usg UsgW Prc PriW CdrW

theorem retR {W : World} {tmps : Array Value} {B : Nat} {c : CDR} {A : Option Addr} {n k : Nat} {E : Int} (h1 : tmps.getD 4 undef = .pointer (some ⟨B, 0, none⟩)) (h2 : tmps.getD 5 undef = i E) (hk : Blk W B 24 (cdrA c (.slice A n k))) :
    (results Tryz.f17 tmps).run Tryz.prog W = .ok (.tuple #[.agg (cdrA c (.slice A n k)), i E]) W := by
  obtain ⟨c0, c1, c2, c3, c4, c5, c6, c7, c8, c9, c10, c11, c12, c13⟩ := cdr_cells hk
  rw [Array.getD_eq_getD_getElem?] at h1 h2
  simp [results, Tryz.f17, go_sem, h1, h2, c0, c1, c2, c3, c4, c5, c6, c7, c8, c9, c10, c11, c12, c13]
structure FinS (B : Nat) (w0 w' : World) : Prop where
  below : Below B w0 w'
theorem rcrd_blk {w : World} {g : Nat} {t : TypeId} {cid oper prov sess tar cur ref id : ByteArray} {ver start stop en total : Int} {items : List Itm} {u u' : Value}
    (h : Blk w g t #[.string cid, .string oper, .string prov, .string sess, i ver, i start, i stop, i en, .string tar, .string cur, u, i total, .bool false, .string ref]) :
    Blk (((((w.setCell ⟨g, 0, none⟩ (.string id)).setCell ⟨g, 12, none⟩ (.bool true)).setCell ⟨g, 13, none⟩ (.string cid)).setCell ⟨g, 11, none⟩ (.int .i64 (IntKind.i64.wrap (-total)))).setCell ⟨g, 10, none⟩ u') g t (cdrA (crd ⟨cid, oper, prov, sess, ver, start, stop, en, tar, cur, items, total, false, ref⟩ id) u') := by
  simpa [crd] using ((((h.set_ 0 (.string id)).set_ 12 (.bool true)).set_ 13 (.string cid)).set_ 11 (.int .i64 (IntKind.i64.wrap (-total)))).set_ 10 u'

set_option maxRecDepth 100000 in
set_option maxHeartbeats 4000000 in
theorem rcredit_no (c : CDR) (id : ByteArray) (A : Option Addr) (n k : Nat) (w : World) (ho : c.ok) (hi : ItmsAt w (.slice A n k) c.items) (hz : id.size ≤ maxLen) (HY : ¬ (cdrE c = 0 ∧ c.credit = false ∧ IdW.identOk id = true ∧ id ≠ c.id)) :
    Calls Tryz.prog 17 #[.agg (cdrA c (.slice A n k)), .string id] w (MakePost (creditR c id) w) := by
  obtain ⟨Ea, Eb, Ec, Ed, Ee⟩ := creditR_re c id
  have HB0 := Lib.hid (below_alloc (below_alloc (Below.refl w.heap.size w) (.cells (cdrA c (.slice A n k)) 24)) (.cells (cdrA noCdr (.slice none 0 0)) 24))
  have HX0 := Lib.hid (CX.new c (.slice A n k) w)
  have HV : Hid (∀ W, Below w.heap.size w W → Calls Tryz.prog 11 #[.agg (cdrA c (.slice A n k))] W fun e w' => e = .returned (i (cdrE c)) ∧ Below W.heap.size W w') := fun W hb => rvalid c A n k W ho (ItmsAt.call hi hb) rfl
  have HID := Lib.hid (fun W => rid id W hz rfl)
  have HNG : Hid (cdrE c = 0 → ∀ W, Below w.heap.size w W → Calls Tryz.prog 37 #[.slice A n k] W (NegPost c.items W)) := fun h W hb => rnegate _ c.items W (ItmsAt.call hi hb) (by have := cdr_short h; omega)
  unfold NegPost at HNG
  clear ho hi hz
  obtain ⟨R, hRR⟩ : ∃ R, creditR c id = R := ⟨_, rfl⟩
  rw [hRR] at Ea Eb Ec Ed Ee ⊢
  clear hRR
  have HRc := Lib.hid (rfl : crd c id = crd c id)
  obtain ⟨cid, oper, prov, sess, ver, start, stop, en, tar, cur, items, total, cr, ref⟩ := c
  simp only at HY Ea Eb Ec Ed Ee HNG
  generalize cdrE ⟨cid, oper, prov, sess, ver, start, stop, en, tar, cur, items, total, cr, ref⟩ = e1 at *
  generalize IdW.identOk id = ok at *
  clear HRc
  by_cases h1 : e1 = 0
  case neg =>
    have hz : (e1 != 0) = true := by simpa using h1
    have HW := Lib.hid (Ea h1)
    clear Ea Eb Ec Ed Ee
    go_enter Tryz.func17, Tryz.ntmps17
    go_wp2_with fail
    refine (HV.out _ HB0.out).mono ?_
    rintro e w1 ⟨rfl, hb⟩
    have HX1 := Lib.hid (HX0.out.call hb)
    have HB1 := Lib.hid (below_call HB0.out hb)
    clear hb
    obtain ⟨c0, c1, c2, c3, c4, c5, c6, c7, c8, c9, c10, c11, c12, c13⟩ := cdr_cells HX1.out.ka
    obtain ⟨d, fz⟩ := HX1.out.res
    go_wp2_with fail
    refine bodyPost_ret (retR rfl rfl (put14_blk noCdr (.slice none 0 0) HX1.out.kc)) rfl ?_
    exact MakePost.no HW.out (put14_below noCdr (.slice none 0 0) HB1.out (by omega))
  subst h1
  cases cr with
  | true =>
    have HW := Lib.hid (Eb rfl rfl)
    clear Ea Eb Ec Ed Ee
    go_enter Tryz.func17, Tryz.ntmps17
    go_wp2_with fail
    refine (HV.out _ HB0.out).mono ?_
    rintro e w1 ⟨rfl, hb⟩
    have HX1 := Lib.hid (HX0.out.call hb)
    have HB1 := Lib.hid (below_call HB0.out hb)
    clear hb
    obtain ⟨c0, c1, c2, c3, c4, c5, c6, c7, c8, c9, c10, c11, c12, c13⟩ := cdr_cells HX1.out.ka
    obtain ⟨d, fz⟩ := HX1.out.res
    go_wp2_with fail
    refine bodyPost_ret (retR rfl rfl (put14_blk noCdr (.slice none 0 0) HX1.out.kc)) rfl ?_
    exact MakePost.no HW.out (put14_below noCdr (.slice none 0 0) HB1.out (by omega))
  | false =>
    cases ok with
    | false =>
      have HW := Lib.hid (Ec rfl rfl rfl)
      clear Ea Eb Ec Ed Ee
      go_enter Tryz.func17, Tryz.ntmps17
      go_wp2_with fail
      refine (HV.out _ HB0.out).mono ?_
      rintro e w1 ⟨rfl, hb⟩
      have HX1 := Lib.hid (HX0.out.call hb)
      have HB1 := Lib.hid (below_call HB0.out hb)
      clear hb
      obtain ⟨c0, c1, c2, c3, c4, c5, c6, c7, c8, c9, c10, c11, c12, c13⟩ := cdr_cells HX1.out.ka
      obtain ⟨d, fz⟩ := HX1.out.res
      go_wp2_with fail
      refine (HID.out _).mono ?_
      rintro e w2 ⟨rfl, hb⟩
      have HX2 := Lib.hid (HX1.out.call hb)
      have HB2 := Lib.hid (below_call HB1.out hb)
      clear hb
      clear c0 c1 c2 c3 c4 c5 c6 c7 c8 c9 c10 c11 c12 c13 d fz
      obtain ⟨c0, c1, c2, c3, c4, c5, c6, c7, c8, c9, c10, c11, c12, c13⟩ := cdr_cells HX2.out.ka
      obtain ⟨d, fz⟩ := HX2.out.res
      go_wp2_with fail
      refine bodyPost_ret (retR rfl rfl (put14_blk noCdr (.slice none 0 0) HX2.out.kc)) rfl ?_
      exact MakePost.no HW.out (put14_below noCdr (.slice none 0 0) HB2.out (by omega))
    | true =>
      have hq : id = cid := Classical.byContradiction fun e => HY ⟨rfl, rfl, rfl, e⟩
      clear HY
      have HW := Lib.hid (Ed rfl rfl rfl hq)
      clear Ea Eb Ec Ed Ee
      subst hq
      have hqz : (id.toList == id.toList) = true := by simp
      go_enter Tryz.func17, Tryz.ntmps17
      go_wp2_with fail
      refine (HV.out _ HB0.out).mono ?_
      rintro e w1 ⟨rfl, hb⟩
      have HX1 := Lib.hid (HX0.out.call hb)
      have HB1 := Lib.hid (below_call HB0.out hb)
      clear hb
      obtain ⟨c0, c1, c2, c3, c4, c5, c6, c7, c8, c9, c10, c11, c12, c13⟩ := cdr_cells HX1.out.ka
      obtain ⟨d, fz⟩ := HX1.out.res
      go_wp2_with fail
      refine (HID.out _).mono ?_
      rintro e w2 ⟨rfl, hb⟩
      have HX2 := Lib.hid (HX1.out.call hb)
      have HB2 := Lib.hid (below_call HB1.out hb)
      clear hb
      clear c0 c1 c2 c3 c4 c5 c6 c7 c8 c9 c10 c11 c12 c13 d fz
      obtain ⟨c0, c1, c2, c3, c4, c5, c6, c7, c8, c9, c10, c11, c12, c13⟩ := cdr_cells HX2.out.ka
      obtain ⟨d, fz⟩ := HX2.out.res
      go_wp2_with fail
      refine bodyPost_ret (retR rfl rfl (put14_blk noCdr (.slice none 0 0) HX2.out.kc)) rfl ?_
      exact MakePost.no HW.out (put14_below noCdr (.slice none 0 0) HB2.out (by omega))
set_option maxRecDepth 100000 in
set_option maxHeartbeats 4000000 in
theorem rcredit_yes (c : CDR) (id : ByteArray) (A : Option Addr) (n k : Nat) (w : World) (ho : c.ok) (hi : ItmsAt w (.slice A n k) c.items) (hz : id.size ≤ maxLen) (HY : cdrE c = 0 ∧ c.credit = false ∧ IdW.identOk id = true ∧ id ≠ c.id) :
    Calls Tryz.prog 17 #[.agg (cdrA c (.slice A n k)), .string id] w (MakePost (creditR c id) w) := by
  obtain ⟨Ea, Eb, Ec, Ed, Ee⟩ := creditR_re c id
  have HB0 := Lib.hid (below_alloc (below_alloc (Below.refl w.heap.size w) (.cells (cdrA c (.slice A n k)) 24)) (.cells (cdrA noCdr (.slice none 0 0)) 24))
  have HX0 := Lib.hid (CX.new c (.slice A n k) w)
  have HV : Hid (∀ W, Below w.heap.size w W → Calls Tryz.prog 11 #[.agg (cdrA c (.slice A n k))] W fun e w' => e = .returned (i (cdrE c)) ∧ Below W.heap.size W w') := fun W hb => rvalid c A n k W ho (ItmsAt.call hi hb) rfl
  have HID := Lib.hid (fun W => rid id W hz rfl)
  have HNG : Hid (cdrE c = 0 → ∀ W, Below w.heap.size w W → Calls Tryz.prog 37 #[.slice A n k] W (NegPost c.items W)) := fun h W hb => rnegate _ c.items W (ItmsAt.call hi hb) (by have := cdr_short h; omega)
  unfold NegPost at HNG
  clear ho hi hz
  obtain ⟨R, hRR⟩ : ∃ R, creditR c id = R := ⟨_, rfl⟩
  rw [hRR] at Ea Eb Ec Ed Ee ⊢
  clear hRR
  have HRc := Lib.hid (rfl : crd c id = crd c id)
  obtain ⟨cid, oper, prov, sess, ver, start, stop, en, tar, cur, items, total, cr, ref⟩ := c
  simp only at HY Ea Eb Ec Ed Ee HNG
  generalize cdrE ⟨cid, oper, prov, sess, ver, start, stop, en, tar, cur, items, total, cr, ref⟩ = e1 at *
  generalize IdW.identOk id = ok at *
  clear HRc
  obtain ⟨y1, y2, y3, y4⟩ := HY
  subst y1
  subst y2
  subst y3
  have hqz := str_ne y4
  have HW := Lib.hid (Ee rfl rfl rfl y4)
  clear Ea Eb Ec Ed Ee
  go_enter Tryz.func17, Tryz.ntmps17
  go_wp2_with fail
  refine (HV.out _ HB0.out).mono ?_
  rintro e w1 ⟨rfl, hb⟩
  have HX1 := Lib.hid (HX0.out.call hb)
  have HB1 := Lib.hid (below_call HB0.out hb)
  clear hb
  obtain ⟨c0, c1, c2, c3, c4, c5, c6, c7, c8, c9, c10, c11, c12, c13⟩ := cdr_cells HX1.out.ka
  obtain ⟨d, fz⟩ := HX1.out.res
  go_wp2_with fail
  refine (HID.out _).mono ?_
  rintro e w2 ⟨rfl, hb⟩
  have HX2 := Lib.hid (HX1.out.call hb)
  have HB2 := Lib.hid (below_call HB1.out hb)
  clear hb
  clear c0 c1 c2 c3 c4 c5 c6 c7 c8 c9 c10 c11 c12 c13 d fz
  obtain ⟨c0, c1, c2, c3, c4, c5, c6, c7, c8, c9, c10, c11, c12, c13⟩ := cdr_cells HX2.out.ka
  obtain ⟨d, fz⟩ := HX2.out.res
  go_wp2_with fail
  have ko := Blk.new w2 24 #[.string cid, .string oper, .string prov, .string sess, i ver, i start, i stop, i en, .string tar, .string cur, .slice A n k, i total, .bool false, .string ref]
  have KO := Lib.hid ko
  have HB3 := Lib.hid (below_alloc HB2.out (.cells #[.string cid, .string oper, .string prov, .string sess, i ver, i start, i stop, i en, .string tar, .string cur, .slice A n k, i total, .bool false, .string ref] 24))
  have KA := Lib.hid (HX2.out.ka.alloc (.cells #[.string cid, .string oper, .string prov, .string sess, i ver, i start, i stop, i en, .string tar, .string cur, .slice A n k, i total, .bool false, .string ref] 24))
  have KC := Lib.hid (HX2.out.kc.alloc (.cells #[.string cid, .string oper, .string prov, .string sess, i ver, i start, i stop, i en, .string tar, .string cur, .slice A n k, i total, .bool false, .string ref] 24))
  have KN := Lib.hid (show w.heap.size < w2.heap.size ∧ w.heap.size + 1 < w2.heap.size from ⟨HX2.out.ka.lt, HX2.out.kc.lt⟩)
  have HSZ3 : Hid ((w2.alloc (.cells #[.string cid, .string oper, .string prov, .string sess, .int .i64 ver, .int .i64 start, .int .i64 stop, .int .i64 en, .string tar, .string cur, .slice A n k, .int .i64 total, .bool false, .string ref] 24)).heap.size = w2.heap.size + 1) := by show _ = _; simp
  generalize hW : w2.alloc (.cells #[.string cid, .string oper, .string prov, .string sess, .int .i64 ver, .int .i64 start, .int .i64 stop, .int .i64 en, .string tar, .string cur, .slice A n k, .int .i64 total, .bool false, .string ref] 24) = W3 at *
  clear hW ko c0 c1 c2 c3 c4 c5 c6 c7 c8 c9 c10 c11 c12 c13 d fz
  have c0 := KA.out.cell 0
  have c10 := KA.out.cell 10
  have c11 := KA.out.cell 11
  simp at c0 c10 c11
  have hKN := KN.out.1
  have hsz3 : W3.heap.size = w2.heap.size + 1 := HSZ3.out
  have hS : ∀ w', Below (w.heap.size + 1) W3 w' → (∀ o, w'.cell? ⟨w.heap.size, o, none⟩ = (cdrA ⟨cid, oper, prov, sess, ver, start, stop, en, tar, cur, items, total, false, ref⟩ (.slice A n k))[o]?) ∧ FinS (w.heap.size + 1) W3 w' :=
    fun w' hb => ⟨fun o => (hb.cell (p := ⟨w.heap.size, o, none⟩) (by show w.heap.size < _; omega)).trans (KA.out.cell o), ⟨hb⟩⟩
  have HSS := Lib.hid hS
  have HSZ := Lib.hid hsz3
  clear hS hsz3 c0 c10 c11
  go_region_held3 (fun w' => (∀ o, w'.cell? ⟨w.heap.size, o, none⟩ = (cdrA ⟨cid, oper, prov, sess, ver, start, stop, en, tar, cur, items, total, false, ref⟩ (.slice A n k))[o]?) ∧ FinS (w.heap.size + 1) W3 w')
    (((with_reducible refine HSS.out _ ?_); (repeat (first | (with_reducible exact Below.refl _ _) | (with_reducible refine below_drewN' ?_ _) | (with_reducible refine Below.drew ?_) | (with_reducible refine Below.setCell ?_ (by show _ ≤ w2.heap.size; omega) _) | (with_reducible exact hwy) | (with_reducible refine Below.trans ?_ hwy))); done))
    ((go_at_call 37; refine (HNG.out (by first | rfl | trivial) _ (by repeat (first | (with_reducible exact HB3.out) | (with_reducible refine Below.drew ?_) | (with_reducible refine below_drewN' ?_ _)))).mono ?_; rintro e w5 ⟨v, rfl, hv, hb⟩; obtain ⟨VA, vk, rfl, _, _⟩ := SliceAt.form hv; have hb2 : Below W3.heap.size W3 w5 := ⟨hb.os, hb.tape, hb.output, hb.size, hb.block⟩; have hwy : Below (w.heap.size + 1) W3 w5 := hb2.mono (by have := HSZ.out; omega); have ka5 := KA.out.call hb2; have ko5 := KO.out.call hb2; have kc5 := KC.out.call hb2; have HB5 := Lib.hid (below_call HB3.out hb2); have HV5 := Lib.hid hv; have HA5 := Lib.hid ka5; have HO5 := Lib.hid ko5; have HC5 := Lib.hid kc5; have o0 := ko5.cell 0; have o10 := ko5.cell 10; have o11 := ko5.cell 11; have o12 := ko5.cell 12; have o13 := ko5.cell 13; have of := ko5.frozen; simp at o0 o10 o11 o12 o13; clear hv hb hb2 ka5 ko5 kc5))
  all_goals
    have KO6 := Lib.hid (rcrd_blk (cid := cid) (items := items) (id := id) (u' := .slice VA items.length vk) HO5.out)
    have KC6 := Lib.hid (((((HC5.out.far (p := ⟨w2.heap.size, 0, none⟩) (by have := KN.out; show _ ≠ w2.heap.size; omega) (.string id)).far (p := ⟨w2.heap.size, 12, none⟩) (by have := KN.out; show _ ≠ w2.heap.size; omega) (.bool true)).far (p := ⟨w2.heap.size, 13, none⟩) (by have := KN.out; show _ ≠ w2.heap.size; omega) (.string cid)).far (p := ⟨w2.heap.size, 11, none⟩) (by have := KN.out; show _ ≠ w2.heap.size; omega) (.int .i64 (IntKind.i64.wrap (-total)))).far (p := ⟨w2.heap.size, 10, none⟩) (by have := KN.out; show _ ≠ w2.heap.size; omega) (.slice VA items.length vk))
    have HB6 := Lib.hid (((((HB5.out.setCell (p := ⟨w2.heap.size, 0, none⟩) (by have := KN.out; show _ ≤ w2.heap.size; omega) (.string id)).setCell (p := ⟨w2.heap.size, 12, none⟩) (by have := KN.out; show _ ≤ w2.heap.size; omega) (.bool true)).setCell (p := ⟨w2.heap.size, 13, none⟩) (by have := KN.out; show _ ≤ w2.heap.size; omega) (.string cid)).setCell (p := ⟨w2.heap.size, 11, none⟩) (by have := KN.out; show _ ≤ w2.heap.size; omega) (.int .i64 (IntKind.i64.wrap (-total)))).setCell (p := ⟨w2.heap.size, 10, none⟩) (by have := KN.out; show _ ≤ w2.heap.size; omega) (.slice VA items.length vk))
    clear o0 o10 o11 o12 o13 of
    obtain ⟨c0, c1, c2, c3, c4, c5, c6, c7, c8, c9, c10, c11, c12, c13⟩ := cdr_cells KO6.out
    have d := KC6.out.cell
    have fz := KC6.out.frozen
    have HI6 : Hid (∀ c u, ItmsAt (put14 (((((w5.setCell ⟨w2.heap.size, 0, none⟩ (.string id)).setCell ⟨w2.heap.size, 12, none⟩ (.bool true)).setCell ⟨w2.heap.size, 13, none⟩ (.string cid)).setCell ⟨w2.heap.size, 11, none⟩ (.int .i64 (IntKind.i64.wrap (-total)))).setCell ⟨w2.heap.size, 10, none⟩ (.slice VA items.length vk)) (w.heap.size + 1) c u) (.slice VA items.length vk) (items.map ngi)) := fun c u => items_keep (by have := HV5.out; simpa using this) (c1 := ⟨cid, oper, prov, sess, ver, start, stop, en, tar, cur, items, total, false, ref⟩) HO5.out HC5.out (fun b hb1 hb2 => by rw [put14_heap c u hb2, Below.heap_setCell _ _ _ _ hb1, Below.heap_setCell _ _ _ _ hb1, Below.heap_setCell _ _ _ _ hb1, Below.heap_setCell _ _ _ _ hb1, Below.heap_setCell _ _ _ _ hb1])
    generalize ((((w5.setCell ⟨w2.heap.size, 0, none⟩ (.string id)).setCell ⟨w2.heap.size, 12, none⟩ (.bool true)).setCell ⟨w2.heap.size, 13, none⟩ (.string cid)).setCell ⟨w2.heap.size, 11, none⟩ (.int .i64 (IntKind.i64.wrap (-total)))).setCell ⟨w2.heap.size, 10, none⟩ (.slice VA items.length vk) = w6 at *
    go_wp2_with fail
    refine bodyPost_ret (retR rfl rfl (put14_blk (crd ⟨cid, oper, prov, sess, ver, start, stop, en, tar, cur, items, total, false, ref⟩ id) (.slice VA items.length vk) KC6.out)) rfl ?_
    exact MakePost.yes HW.out (HI6.out _ _) (put14_below _ _ HB6.out (by omega))
theorem rcredit (c : CDR) (id : ByteArray) (A : Option Addr) (n k : Nat) (w : World) (ho : c.ok) (hi : ItmsAt w (.slice A n k) c.items) (hz : id.size ≤ maxLen) : Calls Tryz.prog 17 #[.agg (cdrA c (.slice A n k)), .string id] w (MakePost (creditR c id) w) := by
  by_cases h : cdrE c = 0 ∧ c.credit = false ∧ IdW.identOk id = true ∧ id ≠ c.id
  · exact rcredit_yes c id A n k w ho hi hz h
  · exact rcredit_no c id A n k w ho hi hz h
end Cdr
end Go.Proofs.YtpmcdjpfolgpiaaGreatDoor
