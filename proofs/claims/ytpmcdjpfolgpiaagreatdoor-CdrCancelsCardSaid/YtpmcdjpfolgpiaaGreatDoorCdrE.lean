/-
  The walk of cdr.Credit, where it gives a credit.
-/
import Derived.Test.YtpmcdjpfolgpiaaGreatDoorCdrD
import Derived.Test.YtpmcdjpfolgpiaaGreatDoorCdrN
import Derived.BigRegion
namespace Go.Proofs.YtpmcdjpfolgpiaaGreatDoor
namespace Cdr
set_option linter.unusedSimpArgs false
set_option linter.unusedVariables false
open Go.RowKit MonW TarW Usg UsgW Prc PriW CdrW

theorem items_keep {w w' : World} {g1 g2 : Nat} {v : Value} {its : List Itm} {c1 c2 : CDR} {A1 : Option Addr} {n1 k1 : Nat} {A2 : Option Addr} {n2 k2 : Nat} (h : ItmsAt w v its) (hk1 : Blk w g1 24 (cdrA c1 (.slice A1 n1 k1))) (hk2 : Blk w g2 24 (cdrA c2 (.slice A2 n2 k2)))
    (hh : ∀ b, b ≠ g1 → b ≠ g2 → w'.heap[b]? = w.heap[b]?) : ItmsAt w' v its := by
  obtain ⟨B1, m1, rfl, h1, h2, h3, h4⟩ := h
  refine ⟨B1, m1, rfl, h1, h2, h3, fun j x hx => ?_⟩
  obtain ⟨b, off, r, e1, e2, e3, e4⟩ := h4 j x hx
  refine ⟨b, off, r, e1, e2, e3, fun o v hv => ?_⟩
  have key : ∀ (g : Nat) (c0 : CDR) (A : Option Addr) (n k : Nat), Blk w g 24 (cdrA c0 (.slice A n k)) → b ≠ g := by
    rintro g c0 A n k hk rfl
    have hc : ∀ o v, r[o]? = some v → (cdrA c0 (.slice A n k))[off + j * 7 + o]? = some v := fun o v hv => (hk.cell _).symm.trans (e4 o v hv)
    obtain ⟨hr, _⟩ := e3
    subst hr
    have q0 := hc 0 _ rfl
    have q1 := hc 1 _ rfl
    have q2 := hc 2 _ rfl
    have q3 := hc 3 _ rfl
    have q4 := hc 4 _ rfl
    generalize off + j * 7 = p at *
    rcases p with _ | _ | _ | _ | _ | _ | _ | _ | _ | _ | _ | _ | _ | _ | p
    all_goals simp at q0 q1 q2 q3 q4
  have := e4 o v hv
  unfold World.cell? at *
  simp only [hh b (key _ _ _ _ _ hk1) (key _ _ _ _ _ hk2)]
  exact this
theorem crd_blk {w : World} {g : Nat} {t : TypeId} {cid oper prov sess tar cur ref id : ByteArray} {ver start stop en total : Int} {items : List Itm} {u u' : Value}
    (h : Blk w g t #[.string id, .string oper, .string prov, .string sess, i ver, i start, i stop, i en, .string tar, .string cur, u, i total, .bool true, .string cid]) :
    Blk ((w.setCell ⟨g, 10, none⟩ u').setCell ⟨g, 11, none⟩ (.int .i64 (IntKind.i64.wrap (-total)))) g t (cdrA (crd ⟨cid, oper, prov, sess, ver, start, stop, en, tar, cur, items, total, false, ref⟩ id) u') := by
  simpa [crd] using (h.set_ 10 u').set_ 11 (.int .i64 (IntKind.i64.wrap (-total)))

set_option maxRecDepth 100000 in
set_option maxHeartbeats 4000000 in
theorem credit_yes (c : CDR) (id : ByteArray) (A : Option Addr) (n k : Nat) (w : World) (ho : c.ok) (hi : ItmsAt w (.slice A n k) c.items) (hz : id.size ≤ maxLen) (HY : cdrE c = 0 ∧ c.credit = false ∧ IdW.identOk id = true ∧ id ≠ c.id) :
    Calls Tryz.prog 16 #[.agg (cdrA c (.slice A n k)), .string id] w (MakePost (creditR c id) w) := by
  obtain ⟨Ea, Eb, Ec, Ed, Ee⟩ := creditR_re c id
  have HB0 := Lib.hid (below_alloc (below_alloc (Below.refl w.heap.size w) (.cells (cdrA c (.slice A n k)) 24)) (.cells (cdrA noCdr (.slice none 0 0)) 24))
  have HX0 := Lib.hid (CX.new c (.slice A n k) w)
  have HV : Hid (∀ W, Below w.heap.size w W → Calls Tryz.prog 10 #[.agg (cdrA c (.slice A n k))] W fun e w' => e = .returned (i (cdrE c)) ∧ Below W.heap.size W w') := fun W hb => valid c A n k W ho (ItmsAt.call hi hb) rfl
  have HID := Lib.hid (fun W => IdW.valid_ id W hz)
  have HNG : Hid (cdrE c = 0 → ∀ W, Below w.heap.size w W → Calls Tryz.prog 36 #[.slice A n k] W (NegPost c.items W)) := fun h W hb => negate _ c.items W (ItmsAt.call hi hb) (by have := cdr_short h; omega)
  unfold NegPost at HNG
  clear ho hi hz
  obtain ⟨R, hRR⟩ : ∃ R, creditR c id = R := ⟨_, rfl⟩
  rw [hRR] at Ea Eb Ec Ed Ee ⊢
  clear hRR
  have HRc := Lib.hid (rfl : crd c id = crd c id)
  obtain ⟨cid, oper, prov, sess, ver, start, stop, en, tar, cur, items, total, cr, ref⟩ := c
  simp only at HY Ea Eb Ec Ed Ee HNG
  generalize cdrE ⟨cid, oper, prov, sess, ver, start, stop, en, tar, cur, items, total, cr, ref⟩ = e1 at *
  generalize IdW.identOk id = ok at *
  clear HRc
  obtain ⟨y1, y2, y3, y4⟩ := HY
  subst y1
  subst y2
  subst y3
  have hqz := str_ne y4
  have HW := Lib.hid (Ee rfl rfl rfl y4)
  clear Ea Eb Ec Ed Ee
  go_enter Tryz.func16, Tryz.ntmps16
  go_wp2_with fail
  refine (HV.out _ HB0.out).mono ?_
  rintro e w1 ⟨rfl, hb⟩
  have HX1 := Lib.hid (HX0.out.call hb)
  have HB1 := Lib.hid (below_call HB0.out hb)
  clear hb
  obtain ⟨c0, c1, c2, c3, c4, c5, c6, c7, c8, c9, c10, c11, c12, c13⟩ := cdr_cells HX1.out.ka
  obtain ⟨d, fz⟩ := HX1.out.res
  go_wp2_with fail
  refine (HID.out _).mono ?_
  rintro e w2 ⟨rfl, hb⟩
  have HX2 := Lib.hid (HX1.out.call hb)
  have HB2 := Lib.hid (below_call HB1.out hb)
  clear hb
  clear c0 c1 c2 c3 c4 c5 c6 c7 c8 c9 c10 c11 c12 c13 d fz
  obtain ⟨c0, c1, c2, c3, c4, c5, c6, c7, c8, c9, c10, c11, c12, c13⟩ := cdr_cells HX2.out.ka
  obtain ⟨d, fz⟩ := HX2.out.res
  go_wp2_with fail
  have k0 : ∀ ob, (w2.alloc ob).cell? ⟨w.heap.size, 0, none⟩ = some (.string cid) := fun ob => (HX2.out.ka.alloc ob).cell 0
  have k10 : ∀ ob, (w2.alloc ob).cell? ⟨w.heap.size, 10, none⟩ = some (.slice A n k) := fun ob => (HX2.out.ka.alloc ob).cell 10
  have k11 : ∀ ob, (w2.alloc ob).cell? ⟨w.heap.size, 11, none⟩ = some (i total) := fun ob => (HX2.out.ka.alloc ob).cell 11
  go_region
  all_goals go_wp2_with fail
  have ko := Blk.new w2 24 #[.string id, .string oper, .string prov, .string sess, i ver, i start, i stop, i en, .string tar, .string cur, .slice A n k, i total, .bool true, .string cid]
  have KO := Lib.hid ko
  have HB3 := Lib.hid (below_alloc HB2.out (.cells #[.string id, .string oper, .string prov, .string sess, i ver, i start, i stop, i en, .string tar, .string cur, .slice A n k, i total, .bool true, .string cid] 24))
  have KA := Lib.hid (HX2.out.ka.alloc (.cells #[.string id, .string oper, .string prov, .string sess, i ver, i start, i stop, i en, .string tar, .string cur, .slice A n k, i total, .bool true, .string cid] 24))
  have KC := Lib.hid (HX2.out.kc.alloc (.cells #[.string id, .string oper, .string prov, .string sess, i ver, i start, i stop, i en, .string tar, .string cur, .slice A n k, i total, .bool true, .string cid] 24))
  have KN := Lib.hid (show w.heap.size < w2.heap.size ∧ w.heap.size + 1 < w2.heap.size from ⟨HX2.out.ka.lt, HX2.out.kc.lt⟩)
  generalize hW : w2.alloc (.cells #[.string id, .string oper, .string prov, .string sess, .int .i64 ver, .int .i64 start, .int .i64 stop, .int .i64 en, .string tar, .string cur, .slice A n k, .int .i64 total, .bool true, .string cid] 24) = W3 at *
  clear hW ko k0 k10 k11 c0 c1 c2 c3 c4 c5 c6 c7 c8 c9 c10 c11 c12 c13 d fz
  have c10 := KA.out.cell 10
  have c11 := KA.out.cell 11
  simp at c10 c11
  go_region_with (go_at_call 36; go_loud (refine (HNG.out (by first | rfl | trivial) _ (by repeat (first | exact HB3.out | refine Below.drew ?_))).mono ?_; rintro e w5 ⟨v, rfl, hv, hb⟩; obtain ⟨VA, vk, rfl, _, _⟩ := SliceAt.form hv; have hb2 : Below W3.heap.size W3 w5 := ⟨hb.os, hb.tape, hb.output, hb.size, hb.block⟩; have ka5 := KA.out.call hb2; have ko5 := KO.out.call hb2; have kc5 := KC.out.call hb2; have HB5 := Lib.hid (below_call HB3.out hb2); have HV5 := Lib.hid hv; have HA5 := Lib.hid ka5; have HO5 := Lib.hid ko5; have HC5 := Lib.hid kc5; have g11 := ka5.cell 11; have o10 := ko5.cell 10; have o11 := ko5.cell 11; have of := ko5.frozen; simp at g11 o10 o11; clear hv hb hb2 ka5 ko5 kc5))
  all_goals
    have KO6 := Lib.hid (crd_blk (items := items) (ref := ref) (u' := .slice VA items.length vk) HO5.out)
    have KC6 := Lib.hid ((HC5.out.far (p := ⟨w2.heap.size, 10, none⟩) (by have := KN.out; show _ ≠ w2.heap.size; omega) (.slice VA items.length vk)).far (p := ⟨w2.heap.size, 11, none⟩) (by have := KN.out; show _ ≠ w2.heap.size; omega) (.int .i64 (IntKind.i64.wrap (-total))))
    have HB6 := Lib.hid ((HB5.out.setCell (p := ⟨w2.heap.size, 10, none⟩) (by have := KN.out; show _ ≤ w2.heap.size; omega) (.slice VA items.length vk)).setCell (p := ⟨w2.heap.size, 11, none⟩) (by have := KN.out; show _ ≤ w2.heap.size; omega) (.int .i64 (IntKind.i64.wrap (-total))))
    clear g11 o10 o11 of c10 c11
    obtain ⟨c0, c1, c2, c3, c4, c5, c6, c7, c8, c9, c10, c11, c12, c13⟩ := cdr_cells KO6.out
    have d := KC6.out.cell
    have fz := KC6.out.frozen
    have HI6 : Hid (∀ c u, ItmsAt (put14 ((w5.setCell ⟨w2.heap.size, 10, none⟩ (.slice VA items.length vk)).setCell ⟨w2.heap.size, 11, none⟩ (.int .i64 (IntKind.i64.wrap (-total)))) (w.heap.size + 1) c u) (.slice VA items.length vk) (items.map ngi)) := fun c u => items_keep (by have := HV5.out; simpa using this) (c1 := ⟨id, oper, prov, sess, ver, start, stop, en, tar, cur, items, total, true, cid⟩) HO5.out HC5.out (fun b hb1 hb2 => by rw [put14_heap c u hb2, Below.heap_setCell _ _ _ _ hb1, Below.heap_setCell _ _ _ _ hb1])
    generalize (w5.setCell ⟨w2.heap.size, 10, none⟩ (.slice VA items.length vk)).setCell ⟨w2.heap.size, 11, none⟩ (.int .i64 (IntKind.i64.wrap (-total))) = w6 at *
    go_wp2_with fail
    refine bodyPost_ret (retC rfl rfl (put14_blk (crd ⟨cid, oper, prov, sess, ver, start, stop, en, tar, cur, items, total, false, ref⟩ id) (.slice VA items.length vk) KC6.out)) rfl ?_
    exact MakePost.yes HW.out (HI6.out _ _) (put14_below _ _ HB6.out (by omega))
theorem credit (c : CDR) (id : ByteArray) (A : Option Addr) (n k : Nat) (w : World) (ho : c.ok) (hi : ItmsAt w (.slice A n k) c.items) (hz : id.size ≤ maxLen) : Calls Tryz.prog 16 #[.agg (cdrA c (.slice A n k)), .string id] w (MakePost (creditR c id) w) := by
  by_cases h : cdrE c = 0 ∧ c.credit = false ∧ IdW.identOk id = true ∧ id ≠ c.id
  · exact credit_yes c id A n k w ho hi hz h
  · exact credit_no c id A n k w ho hi hz h
end Cdr
end Go.Proofs.YtpmcdjpfolgpiaaGreatDoor
