/-
  The walk of cdr.Make.
-/
import Derived.Test.YtpmcdjpfolgpiaaGreatDoorCdrM
namespace Go.Proofs.YtpmcdjpfolgpiaaGreatDoor
namespace Cdr
set_option linter.unusedSimpArgs false
set_option linter.unusedVariables false
open Go.RowKit MonW TarW Usg UsgW Prc PriW CdrW

abbrev nil0 : Value := .slice none 0 0
structure MX (s0 : Nat) (r : Rec) (u : Value) (t : Trf) (ue : Value) (z : Int) (s : Bool) (w : World) : Prop where
  bx : Bx s0 r u t ue z s w
  kc : Blk w (s0 + 3) 24 (cdrA noCdr nil0)
theorem MX.new (r : Rec) (u : Value) (t : Trf) (ue : Value) (z : Int) (s : Bool) (w : World) : MX w.heap.size r u t ue z s ((((w.alloc (.cells (recA r u) 31)).alloc (.cells (trA t ue) 36)).alloc (.cells #[i z, .bool s] 38)).alloc (.cells (cdrA noCdr nil0) 24)) := by
  have k := Blk.new (((w.alloc (.cells (recA r u) 31)).alloc (.cells (trA t ue) 36)).alloc (.cells #[i z, .bool s] 38)) 24 (cdrA noCdr nil0)
  simp only [World.size_alloc] at k
  have h := Bx.new r u t ue z s w
  exact ⟨⟨h.kr.alloc _, h.kt.alloc _, h.kz.alloc _⟩, k⟩
theorem MX.call {s0 : Nat} {r : Rec} {u : Value} {t : Trf} {ue : Value} {z : Int} {s : Bool} {w w' : World} (h : MX s0 r u t ue z s w) (hb : Below w.heap.size w w') : MX s0 r u t ue z s w' := ⟨h.bx.call hb, h.kc.call hb⟩
theorem MX.alloc {s0 : Nat} {r : Rec} {u : Value} {t : Trf} {ue : Value} {z : Int} {s : Bool} {w : World} (h : MX s0 r u t ue z s w) (o : Obj) : MX s0 r u t ue z s (w.alloc o) := h.call (below_new w o)
theorem MX.res {s0 : Nat} {r : Rec} {u : Value} {t : Trf} {ue : Value} {z : Int} {s : Bool} {w : World} (h : MX s0 r u t ue z s w) : (∀ o, w.cell? ⟨s0 + 1 + 1 + 1, o, none⟩ = (cdrA noCdr nil0)[o]?) ∧ (∀ o, w.frozen? ⟨s0 + 1 + 1 + 1, o, none⟩ = false) := ⟨h.kc.cell, h.kc.frozen⟩
theorem bill_I64 (r : Rec) (t : Trf) (z : Int) (s : Bool) (m : Int) : I64 (billR r t z s m).2.1 := by
  have h0 : I64 0 := by unfold I64; omega
  unfold billR
  split
  · exact h0
  split
  · exact h0
  split
  · exact h0
  split
  · exact h0
  split
  · exact h0
  · rename_i h
    have h2 : totOk (adj (allV (chgsOf r t z s m)) t.least t.most).1 = true := by simpa using h
    unfold totOk at h2
    rw [Bool.and_eq_true] at h2
    have h3 := of_decide_eq_true h2.2
    exact h3
theorem put14_heap {w : World} {g b : Nat} (c : CDR) (u : Value) (h : b ≠ g) : (put14 w g c u).heap[b]? = w.heap[b]? := by
  simp only [put14]
  rw [Below.heap_setCell _ _ _ _ h]
  rw [Below.heap_setCell _ _ _ _ h]
  rw [Below.heap_setCell _ _ _ _ h]
  rw [Below.heap_setCell _ _ _ _ h]
  rw [Below.heap_setCell _ _ _ _ h]
  rw [Below.heap_setCell _ _ _ _ h]
  rw [Below.heap_setCell _ _ _ _ h]
  rw [Below.heap_setCell _ _ _ _ h]
  rw [Below.heap_setCell _ _ _ _ h]
  rw [Below.heap_setCell _ _ _ _ h]
  rw [Below.heap_setCell _ _ _ _ h]
  rw [Below.heap_setCell _ _ _ _ h]
  rw [Below.heap_setCell _ _ _ _ h]
  rw [Below.heap_setCell _ _ _ _ h]
theorem items_far {w : World} {g : Nat} {v : Value} {its : List Itm} {c0 : CDR} {A : Option Addr} {n k : Nat} (c : CDR) (u : Value) (h : ItmsAt w v its) (hk : Blk w g 24 (cdrA c0 (.slice A n k))) : ItmsAt (put14 w g c u) v its := by
  obtain ⟨A1, c1, rfl, h1, h2, h3, h4⟩ := h
  refine ⟨A1, c1, rfl, h1, h2, h3, fun j x hx => ?_⟩
  obtain ⟨b, off, r, e1, e2, e3, e4⟩ := h4 j x hx
  refine ⟨b, off, r, e1, e2, e3, fun o v hv => ?_⟩
  have hne : b ≠ g := by
    rintro rfl
    have hc : ∀ o v, r[o]? = some v → (cdrA c0 (.slice A n k))[off + j * 7 + o]? = some v := fun o v hv => (hk.cell _).symm.trans (e4 o v hv)
    obtain ⟨hr, _⟩ := e3
    subst hr
    have q0 := hc 0 _ rfl
    have q1 := hc 1 _ rfl
    have q2 := hc 2 _ rfl
    have q3 := hc 3 _ rfl
    have q4 := hc 4 _ rfl
    generalize off + j * 7 = p at *
    rcases p with _ | _ | _ | _ | _ | _ | _ | _ | _ | _ | _ | _ | _ | _ | p
    all_goals simp at q0 q1 q2 q3 q4
  have := e4 o v hv
  unfold World.cell? at *
  simp only [put14_heap c u hne]
  exact this


set_option maxRecDepth 100000 in
set_option maxHeartbeats 4000000 in
theorem make_a (id op pr : ByteArray) (r : Rec) (A : Option Addr) (n k : Nat) (t : Trf) (A' : Option Addr) (n' k' : Nat) (z : Int) (s : Bool) (m : Int) (w : World) (ht : CalW.Tab w) (hR : RdgsAt w (.slice A n k) r.rds) (hE : ElemsAt w (.slice A' n' k') t.els)
    (h1 : id.size ≤ maxLen) (h2 : op.size ≤ maxLen) (h3 : pr.size ≤ maxLen) (ho : r.ok) (hid : t.id.size ≤ maxLen) (hcur : t.cur.size ≤ maxLen) (hm : I64 m) (hl : I64 t.least) (hmo : I64 t.most) (hs1 : I64 r.start) (hs2 : I64 r.stop) (hs3 : I64 r.en) (hnm : [id, op, pr].all IdW.identOk = false) :
    Calls Tryz.prog 31 #[.string id, .string op, .string pr, .agg (recA r (.slice A n k)), trfV t (.slice A' n' k'), CalW.zone z s, i m] w (MakePost (makeR id op pr r t z s m) w) := by
  obtain ⟨Ra, Rb, Rc, Rd, Re, Rf, Rg⟩ := makeR_re id op pr r t z s m
  have HB0 := Lib.hid (below_alloc (below_alloc (below_alloc (below_alloc (Below.refl w.heap.size w) (.cells (recA r (.slice A n k)) 31)) (.cells (trA t (.slice A' n' k')) 36)) (.cells #[i z, .bool s] 38)) (.cells (cdrA noCdr nil0) 24))
  have HX0 := Lib.hid (MX.new r (.slice A n k) t (.slice A' n' k') z s w)
  have HZ : Hid (∀ x ∈ [id, op, pr], x.size ≤ maxLen) := by
    intro x hx; simp at hx; rcases hx with rfl | rfl | rfl <;> assumption
  obtain ⟨nm, hnm'⟩ : ∃ b, [id, op, pr].all IdW.identOk = b := ⟨_, rfl⟩
  have HNM : Hid (∀ (W : World) (v : Value), NamesAt W v [id, op, pr] → Calls Tryz.prog 22 #[v] W fun e w' => e = .returned (i (if nm then 0 else 4)) ∧ Below W.heap.size W w') := fun W v h => names v _ W h (by rw [← hnm'])
  rw [hnm'] at Ra Rb Rc Rd Re Rf Rg hnm
  have HRV : Hid (∀ W, Below w.heap.size w W → Calls Tryz.prog 48 #[.agg (recA r (.slice A n k))] W fun e w' => e = .returned (i (recE r)) ∧ Below W.heap.size W w') := fun W hb => recValid r A n k W ho (hR.call hb) rfl
  have HBI : Hid (∀ W, Below w.heap.size w W → Calls Tryz.prog 49 #[.agg (recA r (.slice A n k)), trfV t (.slice A' n' k'), CalW.zone z s, i m] W (BillPost (billR r t z s m) W)) := fun W hb => bill r A n k t A' n' k' z s m W (ht.below hb ht.lt) (hR.call hb) (hE.call hb) hid hcur hm hl hmo
  have HCV : Hid (∀ W B q q', ItmsAt W (.slice B q q') (billR r t z s m).1 → Calls Tryz.prog 10 #[.agg (cdrA (mkCdr id op pr r t (billR r t z s m)) (.slice B q q'))] W fun e w' => e = .returned (i (cdrE (mkCdr id op pr r t (billR r t z s m)))) ∧ Below W.heap.size W w') := fun W B q q' h => valid _ B q q' W ⟨h1, h2, h3, ho.s2, hid, hcur, by show 0 ≤ maxLen; omega, by show I64 1; unfold I64; omega, hs1, hs2, hs3, bill_I64 r t z s m⟩ h rfl
  unfold BillPost at HBI
  clear ht hR hE h1 h2 h3 ho hid hcur hm hl hmo hs1 hs2 hs3 hnm'
  generalize makeR id op pr r t z s m = R at *
  generalize recE r = e1 at *
  generalize billR r t z s m = b at *
  obtain ⟨its, gr, e2⟩ := b
  simp only at *
  generalize hcc : cdrE (mkCdr id op pr r t (its, gr, e2)) = e3 at *
  clear hcc
  obtain ⟨sta, txn, conn, tok, start, stop, rds, en, reason, off, den⟩ := r
  subst hnm
  have HV := Lib.hid (Ra rfl)
  clear Ra Rb Rc Rd Re Rf Rg
  go_enter Tryz.func31, Tryz.ntmps31
  go_wp2_with fail
  refine (HNM.out _ _ ?_).mono ?_
  · exact namesL _ _ _ _ rfl HZ.out (by unfold maxLen; simp) (by first | rfl | simp) rfl rfl
  rintro e w1 ⟨rfl, hb⟩
  have HX1 := Lib.hid ((HX0.out.alloc _).call hb)
  have HB1 := Lib.hid (below_call (below_alloc HB0.out _) hb)
  clear hb
  obtain ⟨c0, c1, c2, c3, c4, c5, c6, c7, c8, c9, c10⟩ := rec_cells HX1.out.bx.kr
  obtain ⟨-, -, ⟨t0, t1, t2, t3, t4, t5, t6, t7⟩, z0, z1⟩ := HX1.out.bx.cells
  obtain ⟨d, fz⟩ := HX1.out.res
  go_wp2_with fail
  refine bodyPost_ret (retM rfl rfl (put14_blk noCdr nil0 HX1.out.kc)) rfl ?_
  exact MakePost.no HV.out (put14_below noCdr nil0 HB1.out (by omega))
set_option maxRecDepth 100000 in
set_option maxHeartbeats 4000000 in
theorem make_b (id op pr : ByteArray) (r : Rec) (A : Option Addr) (n k : Nat) (t : Trf) (A' : Option Addr) (n' k' : Nat) (z : Int) (s : Bool) (m : Int) (w : World) (ht : CalW.Tab w) (hR : RdgsAt w (.slice A n k) r.rds) (hE : ElemsAt w (.slice A' n' k') t.els)
    (h1 : id.size ≤ maxLen) (h2 : op.size ≤ maxLen) (h3 : pr.size ≤ maxLen) (ho : r.ok) (hid : t.id.size ≤ maxLen) (hcur : t.cur.size ≤ maxLen) (hm : I64 m) (hl : I64 t.least) (hmo : I64 t.most) (hs1 : I64 r.start) (hs2 : I64 r.stop) (hs3 : I64 r.en) (hnm : [id, op, pr].all IdW.identOk = true) (hq : op = pr) :
    Calls Tryz.prog 31 #[.string id, .string op, .string pr, .agg (recA r (.slice A n k)), trfV t (.slice A' n' k'), CalW.zone z s, i m] w (MakePost (makeR id op pr r t z s m) w) := by
  obtain ⟨Ra, Rb, Rc, Rd, Re, Rf, Rg⟩ := makeR_re id op pr r t z s m
  have HB0 := Lib.hid (below_alloc (below_alloc (below_alloc (below_alloc (Below.refl w.heap.size w) (.cells (recA r (.slice A n k)) 31)) (.cells (trA t (.slice A' n' k')) 36)) (.cells #[i z, .bool s] 38)) (.cells (cdrA noCdr nil0) 24))
  have HX0 := Lib.hid (MX.new r (.slice A n k) t (.slice A' n' k') z s w)
  have HZ : Hid (∀ x ∈ [id, op, pr], x.size ≤ maxLen) := by
    intro x hx; simp at hx; rcases hx with rfl | rfl | rfl <;> assumption
  obtain ⟨nm, hnm'⟩ : ∃ b, [id, op, pr].all IdW.identOk = b := ⟨_, rfl⟩
  have HNM : Hid (∀ (W : World) (v : Value), NamesAt W v [id, op, pr] → Calls Tryz.prog 22 #[v] W fun e w' => e = .returned (i (if nm then 0 else 4)) ∧ Below W.heap.size W w') := fun W v h => names v _ W h (by rw [← hnm'])
  rw [hnm'] at Ra Rb Rc Rd Re Rf Rg hnm
  have HRV : Hid (∀ W, Below w.heap.size w W → Calls Tryz.prog 48 #[.agg (recA r (.slice A n k))] W fun e w' => e = .returned (i (recE r)) ∧ Below W.heap.size W w') := fun W hb => recValid r A n k W ho (hR.call hb) rfl
  have HBI : Hid (∀ W, Below w.heap.size w W → Calls Tryz.prog 49 #[.agg (recA r (.slice A n k)), trfV t (.slice A' n' k'), CalW.zone z s, i m] W (BillPost (billR r t z s m) W)) := fun W hb => bill r A n k t A' n' k' z s m W (ht.below hb ht.lt) (hR.call hb) (hE.call hb) hid hcur hm hl hmo
  have HCV : Hid (∀ W B q q', ItmsAt W (.slice B q q') (billR r t z s m).1 → Calls Tryz.prog 10 #[.agg (cdrA (mkCdr id op pr r t (billR r t z s m)) (.slice B q q'))] W fun e w' => e = .returned (i (cdrE (mkCdr id op pr r t (billR r t z s m)))) ∧ Below W.heap.size W w') := fun W B q q' h => valid _ B q q' W ⟨h1, h2, h3, ho.s2, hid, hcur, by show 0 ≤ maxLen; omega, by show I64 1; unfold I64; omega, hs1, hs2, hs3, bill_I64 r t z s m⟩ h rfl
  unfold BillPost at HBI
  clear ht hR hE h1 h2 h3 ho hid hcur hm hl hmo hs1 hs2 hs3 hnm'
  generalize makeR id op pr r t z s m = R at *
  generalize recE r = e1 at *
  generalize billR r t z s m = b at *
  obtain ⟨its, gr, e2⟩ := b
  simp only at *
  generalize hcc : cdrE (mkCdr id op pr r t (its, gr, e2)) = e3 at *
  clear hcc
  obtain ⟨sta, txn, conn, tok, start, stop, rds, en, reason, off, den⟩ := r
  subst hnm
  have HV := Lib.hid (Rb rfl hq)
  clear Ra Rb Rc Rd Re Rf Rg
  subst hq
  have hqz : (op.toList == op.toList) = true := by simp
  go_enter Tryz.func31, Tryz.ntmps31
  go_wp2_with fail
  refine (HNM.out _ _ ?_).mono ?_
  · exact namesL _ _ _ _ rfl HZ.out (by unfold maxLen; simp) (by first | rfl | simp) rfl rfl
  rintro e w1 ⟨rfl, hb⟩
  have HX1 := Lib.hid ((HX0.out.alloc _).call hb)
  have HB1 := Lib.hid (below_call (below_alloc HB0.out _) hb)
  clear hb
  obtain ⟨c0, c1, c2, c3, c4, c5, c6, c7, c8, c9, c10⟩ := rec_cells HX1.out.bx.kr
  obtain ⟨-, -, ⟨t0, t1, t2, t3, t4, t5, t6, t7⟩, z0, z1⟩ := HX1.out.bx.cells
  obtain ⟨d, fz⟩ := HX1.out.res
  go_wp2_with fail
  refine bodyPost_ret (retM rfl rfl (put14_blk noCdr nil0 HX1.out.kc)) rfl ?_
  exact MakePost.no HV.out (put14_below noCdr nil0 HB1.out (by omega))
set_option maxRecDepth 100000 in
set_option maxHeartbeats 4000000 in
theorem make_c (id op pr : ByteArray) (r : Rec) (A : Option Addr) (n k : Nat) (t : Trf) (A' : Option Addr) (n' k' : Nat) (z : Int) (s : Bool) (m : Int) (w : World) (ht : CalW.Tab w) (hR : RdgsAt w (.slice A n k) r.rds) (hE : ElemsAt w (.slice A' n' k') t.els)
    (h1 : id.size ≤ maxLen) (h2 : op.size ≤ maxLen) (h3 : pr.size ≤ maxLen) (ho : r.ok) (hid : t.id.size ≤ maxLen) (hcur : t.cur.size ≤ maxLen) (hm : I64 m) (hl : I64 t.least) (hmo : I64 t.most) (hs1 : I64 r.start) (hs2 : I64 r.stop) (hs3 : I64 r.en) (hnm : [id, op, pr].all IdW.identOk = true) (hq : op ≠ pr) (he1 : recE r ≠ 0) :
    Calls Tryz.prog 31 #[.string id, .string op, .string pr, .agg (recA r (.slice A n k)), trfV t (.slice A' n' k'), CalW.zone z s, i m] w (MakePost (makeR id op pr r t z s m) w) := by
  obtain ⟨Ra, Rb, Rc, Rd, Re, Rf, Rg⟩ := makeR_re id op pr r t z s m
  have HB0 := Lib.hid (below_alloc (below_alloc (below_alloc (below_alloc (Below.refl w.heap.size w) (.cells (recA r (.slice A n k)) 31)) (.cells (trA t (.slice A' n' k')) 36)) (.cells #[i z, .bool s] 38)) (.cells (cdrA noCdr nil0) 24))
  have HX0 := Lib.hid (MX.new r (.slice A n k) t (.slice A' n' k') z s w)
  have HZ : Hid (∀ x ∈ [id, op, pr], x.size ≤ maxLen) := by
    intro x hx; simp at hx; rcases hx with rfl | rfl | rfl <;> assumption
  obtain ⟨nm, hnm'⟩ : ∃ b, [id, op, pr].all IdW.identOk = b := ⟨_, rfl⟩
  have HNM : Hid (∀ (W : World) (v : Value), NamesAt W v [id, op, pr] → Calls Tryz.prog 22 #[v] W fun e w' => e = .returned (i (if nm then 0 else 4)) ∧ Below W.heap.size W w') := fun W v h => names v _ W h (by rw [← hnm'])
  rw [hnm'] at Ra Rb Rc Rd Re Rf Rg hnm
  have HRV : Hid (∀ W, Below w.heap.size w W → Calls Tryz.prog 48 #[.agg (recA r (.slice A n k))] W fun e w' => e = .returned (i (recE r)) ∧ Below W.heap.size W w') := fun W hb => recValid r A n k W ho (hR.call hb) rfl
  have HBI : Hid (∀ W, Below w.heap.size w W → Calls Tryz.prog 49 #[.agg (recA r (.slice A n k)), trfV t (.slice A' n' k'), CalW.zone z s, i m] W (BillPost (billR r t z s m) W)) := fun W hb => bill r A n k t A' n' k' z s m W (ht.below hb ht.lt) (hR.call hb) (hE.call hb) hid hcur hm hl hmo
  have HCV : Hid (∀ W B q q', ItmsAt W (.slice B q q') (billR r t z s m).1 → Calls Tryz.prog 10 #[.agg (cdrA (mkCdr id op pr r t (billR r t z s m)) (.slice B q q'))] W fun e w' => e = .returned (i (cdrE (mkCdr id op pr r t (billR r t z s m)))) ∧ Below W.heap.size W w') := fun W B q q' h => valid _ B q q' W ⟨h1, h2, h3, ho.s2, hid, hcur, by show 0 ≤ maxLen; omega, by show I64 1; unfold I64; omega, hs1, hs2, hs3, bill_I64 r t z s m⟩ h rfl
  unfold BillPost at HBI
  clear ht hR hE h1 h2 h3 ho hid hcur hm hl hmo hs1 hs2 hs3 hnm'
  generalize makeR id op pr r t z s m = R at *
  generalize recE r = e1 at *
  generalize billR r t z s m = b at *
  obtain ⟨its, gr, e2⟩ := b
  simp only at *
  generalize hcc : cdrE (mkCdr id op pr r t (its, gr, e2)) = e3 at *
  clear hcc
  obtain ⟨sta, txn, conn, tok, start, stop, rds, en, reason, off, den⟩ := r
  subst hnm
  have hqz := str_ne hq
  have hz : (e1 != 0) = true := by simpa using he1
  have HV := Lib.hid (Rc rfl hq he1)
  clear Ra Rb Rc Rd Re Rf Rg
  go_enter Tryz.func31, Tryz.ntmps31
  go_wp2_with fail
  refine (HNM.out _ _ ?_).mono ?_
  · exact namesL _ _ _ _ rfl HZ.out (by unfold maxLen; simp) (by first | rfl | simp) rfl rfl
  rintro e w1 ⟨rfl, hb⟩
  have HX1 := Lib.hid ((HX0.out.alloc _).call hb)
  have HB1 := Lib.hid (below_call (below_alloc HB0.out _) hb)
  clear hb
  obtain ⟨c0, c1, c2, c3, c4, c5, c6, c7, c8, c9, c10⟩ := rec_cells HX1.out.bx.kr
  obtain ⟨-, -, ⟨t0, t1, t2, t3, t4, t5, t6, t7⟩, z0, z1⟩ := HX1.out.bx.cells
  obtain ⟨d, fz⟩ := HX1.out.res
  go_wp2_with fail
  refine (HRV.out _ HB1.out).mono ?_
  rintro e w2 ⟨rfl, hb⟩
  have HX2 := Lib.hid (HX1.out.call hb)
  have HB2 := Lib.hid (below_call HB1.out hb)
  clear hb
  clear c0 c1 c2 c3 c4 c5 c6 c7 c8 c9 c10 t0 t1 t2 t3 t4 t5 t6 t7 z0 z1 d fz
  obtain ⟨c0, c1, c2, c3, c4, c5, c6, c7, c8, c9, c10⟩ := rec_cells HX2.out.bx.kr
  obtain ⟨-, -, ⟨t0, t1, t2, t3, t4, t5, t6, t7⟩, z0, z1⟩ := HX2.out.bx.cells
  obtain ⟨d, fz⟩ := HX2.out.res
  go_wp2_with fail
  refine bodyPost_ret (retM rfl rfl (put14_blk noCdr nil0 HX2.out.kc)) rfl ?_
  exact MakePost.no HV.out (put14_below noCdr nil0 HB2.out (by omega))
set_option maxRecDepth 100000 in
set_option maxHeartbeats 4000000 in
theorem make_d (id op pr : ByteArray) (r : Rec) (A : Option Addr) (n k : Nat) (t : Trf) (A' : Option Addr) (n' k' : Nat) (z : Int) (s : Bool) (m : Int) (w : World) (ht : CalW.Tab w) (hR : RdgsAt w (.slice A n k) r.rds) (hE : ElemsAt w (.slice A' n' k') t.els)
    (h1 : id.size ≤ maxLen) (h2 : op.size ≤ maxLen) (h3 : pr.size ≤ maxLen) (ho : r.ok) (hid : t.id.size ≤ maxLen) (hcur : t.cur.size ≤ maxLen) (hm : I64 m) (hl : I64 t.least) (hmo : I64 t.most) (hs1 : I64 r.start) (hs2 : I64 r.stop) (hs3 : I64 r.en) (hnm : [id, op, pr].all IdW.identOk = true) (hq : op ≠ pr) (he1 : recE r = 0) (hd : r.den = true ∧ r.en = 0) :
    Calls Tryz.prog 31 #[.string id, .string op, .string pr, .agg (recA r (.slice A n k)), trfV t (.slice A' n' k'), CalW.zone z s, i m] w (MakePost (makeR id op pr r t z s m) w) := by
  obtain ⟨Ra, Rb, Rc, Rd, Re, Rf, Rg⟩ := makeR_re id op pr r t z s m
  have HB0 := Lib.hid (below_alloc (below_alloc (below_alloc (below_alloc (Below.refl w.heap.size w) (.cells (recA r (.slice A n k)) 31)) (.cells (trA t (.slice A' n' k')) 36)) (.cells #[i z, .bool s] 38)) (.cells (cdrA noCdr nil0) 24))
  have HX0 := Lib.hid (MX.new r (.slice A n k) t (.slice A' n' k') z s w)
  have HZ : Hid (∀ x ∈ [id, op, pr], x.size ≤ maxLen) := by
    intro x hx; simp at hx; rcases hx with rfl | rfl | rfl <;> assumption
  obtain ⟨nm, hnm'⟩ : ∃ b, [id, op, pr].all IdW.identOk = b := ⟨_, rfl⟩
  have HNM : Hid (∀ (W : World) (v : Value), NamesAt W v [id, op, pr] → Calls Tryz.prog 22 #[v] W fun e w' => e = .returned (i (if nm then 0 else 4)) ∧ Below W.heap.size W w') := fun W v h => names v _ W h (by rw [← hnm'])
  rw [hnm'] at Ra Rb Rc Rd Re Rf Rg hnm
  have HRV : Hid (∀ W, Below w.heap.size w W → Calls Tryz.prog 48 #[.agg (recA r (.slice A n k))] W fun e w' => e = .returned (i (recE r)) ∧ Below W.heap.size W w') := fun W hb => recValid r A n k W ho (hR.call hb) rfl
  have HBI : Hid (∀ W, Below w.heap.size w W → Calls Tryz.prog 49 #[.agg (recA r (.slice A n k)), trfV t (.slice A' n' k'), CalW.zone z s, i m] W (BillPost (billR r t z s m) W)) := fun W hb => bill r A n k t A' n' k' z s m W (ht.below hb ht.lt) (hR.call hb) (hE.call hb) hid hcur hm hl hmo
  have HCV : Hid (∀ W B q q', ItmsAt W (.slice B q q') (billR r t z s m).1 → Calls Tryz.prog 10 #[.agg (cdrA (mkCdr id op pr r t (billR r t z s m)) (.slice B q q'))] W fun e w' => e = .returned (i (cdrE (mkCdr id op pr r t (billR r t z s m)))) ∧ Below W.heap.size W w') := fun W B q q' h => valid _ B q q' W ⟨h1, h2, h3, ho.s2, hid, hcur, by show 0 ≤ maxLen; omega, by show I64 1; unfold I64; omega, hs1, hs2, hs3, bill_I64 r t z s m⟩ h rfl
  unfold BillPost at HBI
  clear ht hR hE h1 h2 h3 ho hid hcur hm hl hmo hs1 hs2 hs3 hnm'
  generalize makeR id op pr r t z s m = R at *
  generalize recE r = e1 at *
  generalize billR r t z s m = b at *
  obtain ⟨its, gr, e2⟩ := b
  simp only at *
  generalize hcc : cdrE (mkCdr id op pr r t (its, gr, e2)) = e3 at *
  clear hcc
  obtain ⟨sta, txn, conn, tok, start, stop, rds, en, reason, off, den⟩ := r
  subst hnm
  subst he1
  have hqz := str_ne hq
  obtain ⟨hd1, hd2⟩ := hd
  simp only at hd1 hd2
  subst hd1
  subst hd2
  have hz : ((0 : Int) == 0) = true := rfl
  have HV := Lib.hid (Rd rfl hq rfl ⟨rfl, rfl⟩)
  clear Ra Rb Rc Rd Re Rf Rg
  go_enter Tryz.func31, Tryz.ntmps31
  go_wp2_with fail
  refine (HNM.out _ _ ?_).mono ?_
  · exact namesL _ _ _ _ rfl HZ.out (by unfold maxLen; simp) (by first | rfl | simp) rfl rfl
  rintro e w1 ⟨rfl, hb⟩
  have HX1 := Lib.hid ((HX0.out.alloc _).call hb)
  have HB1 := Lib.hid (below_call (below_alloc HB0.out _) hb)
  clear hb
  obtain ⟨c0, c1, c2, c3, c4, c5, c6, c7, c8, c9, c10⟩ := rec_cells HX1.out.bx.kr
  obtain ⟨-, -, ⟨t0, t1, t2, t3, t4, t5, t6, t7⟩, z0, z1⟩ := HX1.out.bx.cells
  obtain ⟨d, fz⟩ := HX1.out.res
  go_wp2_with fail
  refine (HRV.out _ HB1.out).mono ?_
  rintro e w2 ⟨rfl, hb⟩
  have HX2 := Lib.hid (HX1.out.call hb)
  have HB2 := Lib.hid (below_call HB1.out hb)
  clear hb
  clear c0 c1 c2 c3 c4 c5 c6 c7 c8 c9 c10 t0 t1 t2 t3 t4 t5 t6 t7 z0 z1 d fz
  obtain ⟨c0, c1, c2, c3, c4, c5, c6, c7, c8, c9, c10⟩ := rec_cells HX2.out.bx.kr
  obtain ⟨-, -, ⟨t0, t1, t2, t3, t4, t5, t6, t7⟩, z0, z1⟩ := HX2.out.bx.cells
  obtain ⟨d, fz⟩ := HX2.out.res
  go_wp2_with fail
  refine bodyPost_ret (retM rfl rfl (put14_blk noCdr nil0 HX2.out.kc)) rfl ?_
  exact MakePost.no HV.out (put14_below noCdr nil0 HB2.out (by omega))
set_option maxRecDepth 100000 in
set_option maxHeartbeats 4000000 in
theorem make_e0 (id op pr : ByteArray) (r : Rec) (A : Option Addr) (n k : Nat) (t : Trf) (A' : Option Addr) (n' k' : Nat) (z : Int) (s : Bool) (m : Int) (w : World) (ht : CalW.Tab w) (hR : RdgsAt w (.slice A n k) r.rds) (hE : ElemsAt w (.slice A' n' k') t.els)
    (h1 : id.size ≤ maxLen) (h2 : op.size ≤ maxLen) (h3 : pr.size ≤ maxLen) (ho : r.ok) (hid : t.id.size ≤ maxLen) (hcur : t.cur.size ≤ maxLen) (hm : I64 m) (hl : I64 t.least) (hmo : I64 t.most) (hs1 : I64 r.start) (hs2 : I64 r.stop) (hs3 : I64 r.en) (hnm : [id, op, pr].all IdW.identOk = true) (hq : op ≠ pr) (he1 : recE r = 0) (hd : ¬ (r.den = true ∧ r.en = 0)) (hdn : r.den = false) (he2 : (billR r t z s m).2.2 ≠ 0) :
    Calls Tryz.prog 31 #[.string id, .string op, .string pr, .agg (recA r (.slice A n k)), trfV t (.slice A' n' k'), CalW.zone z s, i m] w (MakePost (makeR id op pr r t z s m) w) := by
  obtain ⟨Ra, Rb, Rc, Rd, Re, Rf, Rg⟩ := makeR_re id op pr r t z s m
  have HB0 := Lib.hid (below_alloc (below_alloc (below_alloc (below_alloc (Below.refl w.heap.size w) (.cells (recA r (.slice A n k)) 31)) (.cells (trA t (.slice A' n' k')) 36)) (.cells #[i z, .bool s] 38)) (.cells (cdrA noCdr nil0) 24))
  have HX0 := Lib.hid (MX.new r (.slice A n k) t (.slice A' n' k') z s w)
  have HZ : Hid (∀ x ∈ [id, op, pr], x.size ≤ maxLen) := by
    intro x hx; simp at hx; rcases hx with rfl | rfl | rfl <;> assumption
  obtain ⟨nm, hnm'⟩ : ∃ b, [id, op, pr].all IdW.identOk = b := ⟨_, rfl⟩
  have HNM : Hid (∀ (W : World) (v : Value), NamesAt W v [id, op, pr] → Calls Tryz.prog 22 #[v] W fun e w' => e = .returned (i (if nm then 0 else 4)) ∧ Below W.heap.size W w') := fun W v h => names v _ W h (by rw [← hnm'])
  rw [hnm'] at Ra Rb Rc Rd Re Rf Rg hnm
  have HRV : Hid (∀ W, Below w.heap.size w W → Calls Tryz.prog 48 #[.agg (recA r (.slice A n k))] W fun e w' => e = .returned (i (recE r)) ∧ Below W.heap.size W w') := fun W hb => recValid r A n k W ho (hR.call hb) rfl
  have HBI : Hid (∀ W, Below w.heap.size w W → Calls Tryz.prog 49 #[.agg (recA r (.slice A n k)), trfV t (.slice A' n' k'), CalW.zone z s, i m] W (BillPost (billR r t z s m) W)) := fun W hb => bill r A n k t A' n' k' z s m W (ht.below hb ht.lt) (hR.call hb) (hE.call hb) hid hcur hm hl hmo
  have HCV : Hid (∀ W B q q', ItmsAt W (.slice B q q') (billR r t z s m).1 → Calls Tryz.prog 10 #[.agg (cdrA (mkCdr id op pr r t (billR r t z s m)) (.slice B q q'))] W fun e w' => e = .returned (i (cdrE (mkCdr id op pr r t (billR r t z s m)))) ∧ Below W.heap.size W w') := fun W B q q' h => valid _ B q q' W ⟨h1, h2, h3, ho.s2, hid, hcur, by show 0 ≤ maxLen; omega, by show I64 1; unfold I64; omega, hs1, hs2, hs3, bill_I64 r t z s m⟩ h rfl
  unfold BillPost at HBI
  clear ht hR hE h1 h2 h3 ho hid hcur hm hl hmo hs1 hs2 hs3 hnm'
  generalize makeR id op pr r t z s m = R at *
  generalize recE r = e1 at *
  generalize billR r t z s m = b at *
  obtain ⟨its, gr, e2⟩ := b
  simp only at *
  generalize hcc : cdrE (mkCdr id op pr r t (its, gr, e2)) = e3 at *
  clear hcc
  obtain ⟨sta, txn, conn, tok, start, stop, rds, en, reason, off, den⟩ := r
  subst hnm
  subst he1
  have hqz := str_ne hq
  simp only at hdn hd
  subst hdn
  have Re := Re rfl hq rfl hd
  have Rf := Rf rfl hq rfl hd
  have Rg := Rg rfl hq rfl hd
  clear hd
  have hz2 : (e2 != 0) = true := by simpa using he2
  have HV := Lib.hid (Re he2)
  clear Ra Rb Rc Rd Re Rf Rg
  go_enter Tryz.func31, Tryz.ntmps31
  go_wp2_with fail
  refine (HNM.out _ _ ?_).mono ?_
  · exact namesL _ _ _ _ rfl HZ.out (by unfold maxLen; simp) (by first | rfl | simp) rfl rfl
  rintro e w1 ⟨rfl, hb⟩
  have HX1 := Lib.hid ((HX0.out.alloc _).call hb)
  have HB1 := Lib.hid (below_call (below_alloc HB0.out _) hb)
  clear hb
  obtain ⟨c0, c1, c2, c3, c4, c5, c6, c7, c8, c9, c10⟩ := rec_cells HX1.out.bx.kr
  obtain ⟨-, -, ⟨t0, t1, t2, t3, t4, t5, t6, t7⟩, z0, z1⟩ := HX1.out.bx.cells
  obtain ⟨d, fz⟩ := HX1.out.res
  go_wp2_with fail
  refine (HRV.out _ HB1.out).mono ?_
  rintro e w2 ⟨rfl, hb⟩
  have HX2 := Lib.hid (HX1.out.call hb)
  have HB2 := Lib.hid (below_call HB1.out hb)
  clear hb
  clear c0 c1 c2 c3 c4 c5 c6 c7 c8 c9 c10 t0 t1 t2 t3 t4 t5 t6 t7 z0 z1 d fz
  obtain ⟨c0, c1, c2, c3, c4, c5, c6, c7, c8, c9, c10⟩ := rec_cells HX2.out.bx.kr
  obtain ⟨-, -, ⟨t0, t1, t2, t3, t4, t5, t6, t7⟩, z0, z1⟩ := HX2.out.bx.cells
  obtain ⟨d, fz⟩ := HX2.out.res
  go_wp2_with fail
  refine (HBI.out _ HB2.out).mono ?_
  rintro e w3 ⟨v, rfl, hv, hb⟩
  obtain ⟨VA, vk, rfl, _, _⟩ := SliceAt.form hv
  have HV3 := Lib.hid hv
  have HX3 := Lib.hid (HX2.out.call hb)
  have HB3 := Lib.hid (below_call HB2.out hb)
  clear hb hv
  clear c0 c1 c2 c3 c4 c5 c6 c7 c8 c9 c10 t0 t1 t2 t3 t4 t5 t6 t7 z0 z1 d fz
  obtain ⟨c0, c1, c2, c3, c4, c5, c6, c7, c8, c9, c10⟩ := rec_cells HX3.out.bx.kr
  obtain ⟨-, -, ⟨t0, t1, t2, t3, t4, t5, t6, t7⟩, z0, z1⟩ := HX3.out.bx.cells
  obtain ⟨d, fz⟩ := HX3.out.res
  go_wp2_with fail
  refine bodyPost_ret (retM rfl rfl (put14_blk noCdr nil0 HX3.out.kc)) rfl ?_
  exact MakePost.no HV.out (put14_below noCdr nil0 HB3.out (by omega))
set_option maxRecDepth 100000 in
set_option maxHeartbeats 4000000 in
theorem make_e1 (id op pr : ByteArray) (r : Rec) (A : Option Addr) (n k : Nat) (t : Trf) (A' : Option Addr) (n' k' : Nat) (z : Int) (s : Bool) (m : Int) (w : World) (ht : CalW.Tab w) (hR : RdgsAt w (.slice A n k) r.rds) (hE : ElemsAt w (.slice A' n' k') t.els)
    (h1 : id.size ≤ maxLen) (h2 : op.size ≤ maxLen) (h3 : pr.size ≤ maxLen) (ho : r.ok) (hid : t.id.size ≤ maxLen) (hcur : t.cur.size ≤ maxLen) (hm : I64 m) (hl : I64 t.least) (hmo : I64 t.most) (hs1 : I64 r.start) (hs2 : I64 r.stop) (hs3 : I64 r.en) (hnm : [id, op, pr].all IdW.identOk = true) (hq : op ≠ pr) (he1 : recE r = 0) (hd : ¬ (r.den = true ∧ r.en = 0)) (hdn : r.den = true) (he2 : (billR r t z s m).2.2 ≠ 0) :
    Calls Tryz.prog 31 #[.string id, .string op, .string pr, .agg (recA r (.slice A n k)), trfV t (.slice A' n' k'), CalW.zone z s, i m] w (MakePost (makeR id op pr r t z s m) w) := by
  obtain ⟨Ra, Rb, Rc, Rd, Re, Rf, Rg⟩ := makeR_re id op pr r t z s m
  have HB0 := Lib.hid (below_alloc (below_alloc (below_alloc (below_alloc (Below.refl w.heap.size w) (.cells (recA r (.slice A n k)) 31)) (.cells (trA t (.slice A' n' k')) 36)) (.cells #[i z, .bool s] 38)) (.cells (cdrA noCdr nil0) 24))
  have HX0 := Lib.hid (MX.new r (.slice A n k) t (.slice A' n' k') z s w)
  have HZ : Hid (∀ x ∈ [id, op, pr], x.size ≤ maxLen) := by
    intro x hx; simp at hx; rcases hx with rfl | rfl | rfl <;> assumption
  obtain ⟨nm, hnm'⟩ : ∃ b, [id, op, pr].all IdW.identOk = b := ⟨_, rfl⟩
  have HNM : Hid (∀ (W : World) (v : Value), NamesAt W v [id, op, pr] → Calls Tryz.prog 22 #[v] W fun e w' => e = .returned (i (if nm then 0 else 4)) ∧ Below W.heap.size W w') := fun W v h => names v _ W h (by rw [← hnm'])
  rw [hnm'] at Ra Rb Rc Rd Re Rf Rg hnm
  have HRV : Hid (∀ W, Below w.heap.size w W → Calls Tryz.prog 48 #[.agg (recA r (.slice A n k))] W fun e w' => e = .returned (i (recE r)) ∧ Below W.heap.size W w') := fun W hb => recValid r A n k W ho (hR.call hb) rfl
  have HBI : Hid (∀ W, Below w.heap.size w W → Calls Tryz.prog 49 #[.agg (recA r (.slice A n k)), trfV t (.slice A' n' k'), CalW.zone z s, i m] W (BillPost (billR r t z s m) W)) := fun W hb => bill r A n k t A' n' k' z s m W (ht.below hb ht.lt) (hR.call hb) (hE.call hb) hid hcur hm hl hmo
  have HCV : Hid (∀ W B q q', ItmsAt W (.slice B q q') (billR r t z s m).1 → Calls Tryz.prog 10 #[.agg (cdrA (mkCdr id op pr r t (billR r t z s m)) (.slice B q q'))] W fun e w' => e = .returned (i (cdrE (mkCdr id op pr r t (billR r t z s m)))) ∧ Below W.heap.size W w') := fun W B q q' h => valid _ B q q' W ⟨h1, h2, h3, ho.s2, hid, hcur, by show 0 ≤ maxLen; omega, by show I64 1; unfold I64; omega, hs1, hs2, hs3, bill_I64 r t z s m⟩ h rfl
  unfold BillPost at HBI
  clear ht hR hE h1 h2 h3 ho hid hcur hm hl hmo hs1 hs2 hs3 hnm'
  generalize makeR id op pr r t z s m = R at *
  generalize recE r = e1 at *
  generalize billR r t z s m = b at *
  obtain ⟨its, gr, e2⟩ := b
  simp only at *
  generalize hcc : cdrE (mkCdr id op pr r t (its, gr, e2)) = e3 at *
  clear hcc
  obtain ⟨sta, txn, conn, tok, start, stop, rds, en, reason, off, den⟩ := r
  subst hnm
  subst he1
  have hqz := str_ne hq
  simp only at hdn hd
  subst hdn
  have hz : (en == 0) = false := by simpa using hd
  have Re := Re rfl hq rfl hd
  have Rf := Rf rfl hq rfl hd
  have Rg := Rg rfl hq rfl hd
  clear hd
  have hz2 : (e2 != 0) = true := by simpa using he2
  have HV := Lib.hid (Re he2)
  clear Ra Rb Rc Rd Re Rf Rg
  go_enter Tryz.func31, Tryz.ntmps31
  go_wp2_with fail
  refine (HNM.out _ _ ?_).mono ?_
  · exact namesL _ _ _ _ rfl HZ.out (by unfold maxLen; simp) (by first | rfl | simp) rfl rfl
  rintro e w1 ⟨rfl, hb⟩
  have HX1 := Lib.hid ((HX0.out.alloc _).call hb)
  have HB1 := Lib.hid (below_call (below_alloc HB0.out _) hb)
  clear hb
  obtain ⟨c0, c1, c2, c3, c4, c5, c6, c7, c8, c9, c10⟩ := rec_cells HX1.out.bx.kr
  obtain ⟨-, -, ⟨t0, t1, t2, t3, t4, t5, t6, t7⟩, z0, z1⟩ := HX1.out.bx.cells
  obtain ⟨d, fz⟩ := HX1.out.res
  go_wp2_with fail
  refine (HRV.out _ HB1.out).mono ?_
  rintro e w2 ⟨rfl, hb⟩
  have HX2 := Lib.hid (HX1.out.call hb)
  have HB2 := Lib.hid (below_call HB1.out hb)
  clear hb
  clear c0 c1 c2 c3 c4 c5 c6 c7 c8 c9 c10 t0 t1 t2 t3 t4 t5 t6 t7 z0 z1 d fz
  obtain ⟨c0, c1, c2, c3, c4, c5, c6, c7, c8, c9, c10⟩ := rec_cells HX2.out.bx.kr
  obtain ⟨-, -, ⟨t0, t1, t2, t3, t4, t5, t6, t7⟩, z0, z1⟩ := HX2.out.bx.cells
  obtain ⟨d, fz⟩ := HX2.out.res
  go_wp2_with fail
  refine (HBI.out _ HB2.out).mono ?_
  rintro e w3 ⟨v, rfl, hv, hb⟩
  obtain ⟨VA, vk, rfl, _, _⟩ := SliceAt.form hv
  have HV3 := Lib.hid hv
  have HX3 := Lib.hid (HX2.out.call hb)
  have HB3 := Lib.hid (below_call HB2.out hb)
  clear hb hv
  clear c0 c1 c2 c3 c4 c5 c6 c7 c8 c9 c10 t0 t1 t2 t3 t4 t5 t6 t7 z0 z1 d fz
  obtain ⟨c0, c1, c2, c3, c4, c5, c6, c7, c8, c9, c10⟩ := rec_cells HX3.out.bx.kr
  obtain ⟨-, -, ⟨t0, t1, t2, t3, t4, t5, t6, t7⟩, z0, z1⟩ := HX3.out.bx.cells
  obtain ⟨d, fz⟩ := HX3.out.res
  go_wp2_with fail
  refine bodyPost_ret (retM rfl rfl (put14_blk noCdr nil0 HX3.out.kc)) rfl ?_
  exact MakePost.no HV.out (put14_below noCdr nil0 HB3.out (by omega))
set_option maxRecDepth 100000 in
set_option maxHeartbeats 4000000 in
theorem make_f0 (id op pr : ByteArray) (r : Rec) (A : Option Addr) (n k : Nat) (t : Trf) (A' : Option Addr) (n' k' : Nat) (z : Int) (s : Bool) (m : Int) (w : World) (ht : CalW.Tab w) (hR : RdgsAt w (.slice A n k) r.rds) (hE : ElemsAt w (.slice A' n' k') t.els)
    (h1 : id.size ≤ maxLen) (h2 : op.size ≤ maxLen) (h3 : pr.size ≤ maxLen) (ho : r.ok) (hid : t.id.size ≤ maxLen) (hcur : t.cur.size ≤ maxLen) (hm : I64 m) (hl : I64 t.least) (hmo : I64 t.most) (hs1 : I64 r.start) (hs2 : I64 r.stop) (hs3 : I64 r.en) (hnm : [id, op, pr].all IdW.identOk = true) (hq : op ≠ pr) (he1 : recE r = 0) (hd : ¬ (r.den = true ∧ r.en = 0)) (hdn : r.den = false) (he2 : (billR r t z s m).2.2 = 0) (he3 : cdrE (mkCdr id op pr r t (billR r t z s m)) ≠ 0) :
    Calls Tryz.prog 31 #[.string id, .string op, .string pr, .agg (recA r (.slice A n k)), trfV t (.slice A' n' k'), CalW.zone z s, i m] w (MakePost (makeR id op pr r t z s m) w) := by
  obtain ⟨Ra, Rb, Rc, Rd, Re, Rf, Rg⟩ := makeR_re id op pr r t z s m
  have HB0 := Lib.hid (below_alloc (below_alloc (below_alloc (below_alloc (Below.refl w.heap.size w) (.cells (recA r (.slice A n k)) 31)) (.cells (trA t (.slice A' n' k')) 36)) (.cells #[i z, .bool s] 38)) (.cells (cdrA noCdr nil0) 24))
  have HX0 := Lib.hid (MX.new r (.slice A n k) t (.slice A' n' k') z s w)
  have HZ : Hid (∀ x ∈ [id, op, pr], x.size ≤ maxLen) := by
    intro x hx; simp at hx; rcases hx with rfl | rfl | rfl <;> assumption
  obtain ⟨nm, hnm'⟩ : ∃ b, [id, op, pr].all IdW.identOk = b := ⟨_, rfl⟩
  have HNM : Hid (∀ (W : World) (v : Value), NamesAt W v [id, op, pr] → Calls Tryz.prog 22 #[v] W fun e w' => e = .returned (i (if nm then 0 else 4)) ∧ Below W.heap.size W w') := fun W v h => names v _ W h (by rw [← hnm'])
  rw [hnm'] at Ra Rb Rc Rd Re Rf Rg hnm
  have HRV : Hid (∀ W, Below w.heap.size w W → Calls Tryz.prog 48 #[.agg (recA r (.slice A n k))] W fun e w' => e = .returned (i (recE r)) ∧ Below W.heap.size W w') := fun W hb => recValid r A n k W ho (hR.call hb) rfl
  have HBI : Hid (∀ W, Below w.heap.size w W → Calls Tryz.prog 49 #[.agg (recA r (.slice A n k)), trfV t (.slice A' n' k'), CalW.zone z s, i m] W (BillPost (billR r t z s m) W)) := fun W hb => bill r A n k t A' n' k' z s m W (ht.below hb ht.lt) (hR.call hb) (hE.call hb) hid hcur hm hl hmo
  have HCV : Hid (∀ W B q q', ItmsAt W (.slice B q q') (billR r t z s m).1 → Calls Tryz.prog 10 #[.agg (cdrA (mkCdr id op pr r t (billR r t z s m)) (.slice B q q'))] W fun e w' => e = .returned (i (cdrE (mkCdr id op pr r t (billR r t z s m)))) ∧ Below W.heap.size W w') := fun W B q q' h => valid _ B q q' W ⟨h1, h2, h3, ho.s2, hid, hcur, by show 0 ≤ maxLen; omega, by show I64 1; unfold I64; omega, hs1, hs2, hs3, bill_I64 r t z s m⟩ h rfl
  unfold BillPost at HBI
  clear ht hR hE h1 h2 h3 ho hid hcur hm hl hmo hs1 hs2 hs3 hnm'
  generalize makeR id op pr r t z s m = R at *
  generalize recE r = e1 at *
  generalize billR r t z s m = b at *
  obtain ⟨its, gr, e2⟩ := b
  simp only at *
  generalize hcc : cdrE (mkCdr id op pr r t (its, gr, e2)) = e3 at *
  clear hcc
  obtain ⟨sta, txn, conn, tok, start, stop, rds, en, reason, off, den⟩ := r
  subst hnm
  subst he1
  have hqz := str_ne hq
  simp only at hdn hd
  subst hdn
  have Re := Re rfl hq rfl hd
  have Rf := Rf rfl hq rfl hd
  have Rg := Rg rfl hq rfl hd
  clear hd
  subst he2
  have hz2 : (e3 != 0) = true := by simpa using he3
  have HV := Lib.hid (Rf rfl he3)
  clear Ra Rb Rc Rd Re Rf Rg
  go_enter Tryz.func31, Tryz.ntmps31
  go_wp2_with fail
  refine (HNM.out _ _ ?_).mono ?_
  · exact namesL _ _ _ _ rfl HZ.out (by unfold maxLen; simp) (by first | rfl | simp) rfl rfl
  rintro e w1 ⟨rfl, hb⟩
  have HX1 := Lib.hid ((HX0.out.alloc _).call hb)
  have HB1 := Lib.hid (below_call (below_alloc HB0.out _) hb)
  clear hb
  obtain ⟨c0, c1, c2, c3, c4, c5, c6, c7, c8, c9, c10⟩ := rec_cells HX1.out.bx.kr
  obtain ⟨-, -, ⟨t0, t1, t2, t3, t4, t5, t6, t7⟩, z0, z1⟩ := HX1.out.bx.cells
  obtain ⟨d, fz⟩ := HX1.out.res
  go_wp2_with fail
  refine (HRV.out _ HB1.out).mono ?_
  rintro e w2 ⟨rfl, hb⟩
  have HX2 := Lib.hid (HX1.out.call hb)
  have HB2 := Lib.hid (below_call HB1.out hb)
  clear hb
  clear c0 c1 c2 c3 c4 c5 c6 c7 c8 c9 c10 t0 t1 t2 t3 t4 t5 t6 t7 z0 z1 d fz
  obtain ⟨c0, c1, c2, c3, c4, c5, c6, c7, c8, c9, c10⟩ := rec_cells HX2.out.bx.kr
  obtain ⟨-, -, ⟨t0, t1, t2, t3, t4, t5, t6, t7⟩, z0, z1⟩ := HX2.out.bx.cells
  obtain ⟨d, fz⟩ := HX2.out.res
  go_wp2_with fail
  refine (HBI.out _ HB2.out).mono ?_
  rintro e w3 ⟨v, rfl, hv, hb⟩
  obtain ⟨VA, vk, rfl, _, _⟩ := SliceAt.form hv
  have HV3 := Lib.hid hv
  have HX3 := Lib.hid (HX2.out.call hb)
  have HB3 := Lib.hid (below_call HB2.out hb)
  clear hb hv
  clear c0 c1 c2 c3 c4 c5 c6 c7 c8 c9 c10 t0 t1 t2 t3 t4 t5 t6 t7 z0 z1 d fz
  obtain ⟨c0, c1, c2, c3, c4, c5, c6, c7, c8, c9, c10⟩ := rec_cells HX3.out.bx.kr
  obtain ⟨-, -, ⟨t0, t1, t2, t3, t4, t5, t6, t7⟩, z0, z1⟩ := HX3.out.bx.cells
  obtain ⟨d, fz⟩ := HX3.out.res
  go_wp2_with fail
  have HVA := Lib.hid (ItmsAt.call HV3.out (below_new w3 (.cells (cdrA (mkCdr id op pr ⟨sta, txn, conn, tok, start, stop, rds, en, reason, off, false⟩ t (its, gr, 0)) (.slice VA its.length vk)) 24)))
  refine (HCV.out _ _ _ _ HVA.out).mono ?_
  rintro e w4 ⟨rfl, hb⟩
  have HV4 := Lib.hid (ItmsAt.call HVA.out hb)
  have HK4 := Lib.hid ((Blk.new w3 24 (cdrA (mkCdr id op pr ⟨sta, txn, conn, tok, start, stop, rds, en, reason, off, false⟩ t (its, gr, 0)) (.slice VA its.length vk))).call hb)
  have HX4 := Lib.hid ((HX3.out.alloc _).call hb)
  have HB4 := Lib.hid (below_call (below_alloc HB3.out _) hb)
  clear hb
  clear c0 c1 c2 c3 c4 c5 c6 c7 c8 c9 c10 t0 t1 t2 t3 t4 t5 t6 t7 z0 z1 d fz
  obtain ⟨c0, c1, c2, c3, c4, c5, c6, c7, c8, c9, c10⟩ := rec_cells HX4.out.bx.kr
  obtain ⟨-, -, ⟨t0, t1, t2, t3, t4, t5, t6, t7⟩, z0, z1⟩ := HX4.out.bx.cells
  obtain ⟨d, fz⟩ := HX4.out.res
  obtain ⟨g0, g1, g2, g3, g4, g5, g6, g7, g8, g9, g10, g11, g12, g13⟩ := cdr_cells HK4.out
  go_wp2_with fail
  refine bodyPost_ret (retM rfl rfl (put14_blk noCdr nil0 HX4.out.kc)) rfl ?_
  exact MakePost.no HV.out (put14_below noCdr nil0 HB4.out (by omega))
set_option maxRecDepth 100000 in
set_option maxHeartbeats 4000000 in
theorem make_f1 (id op pr : ByteArray) (r : Rec) (A : Option Addr) (n k : Nat) (t : Trf) (A' : Option Addr) (n' k' : Nat) (z : Int) (s : Bool) (m : Int) (w : World) (ht : CalW.Tab w) (hR : RdgsAt w (.slice A n k) r.rds) (hE : ElemsAt w (.slice A' n' k') t.els)
    (h1 : id.size ≤ maxLen) (h2 : op.size ≤ maxLen) (h3 : pr.size ≤ maxLen) (ho : r.ok) (hid : t.id.size ≤ maxLen) (hcur : t.cur.size ≤ maxLen) (hm : I64 m) (hl : I64 t.least) (hmo : I64 t.most) (hs1 : I64 r.start) (hs2 : I64 r.stop) (hs3 : I64 r.en) (hnm : [id, op, pr].all IdW.identOk = true) (hq : op ≠ pr) (he1 : recE r = 0) (hd : ¬ (r.den = true ∧ r.en = 0)) (hdn : r.den = true) (he2 : (billR r t z s m).2.2 = 0) (he3 : cdrE (mkCdr id op pr r t (billR r t z s m)) ≠ 0) :
    Calls Tryz.prog 31 #[.string id, .string op, .string pr, .agg (recA r (.slice A n k)), trfV t (.slice A' n' k'), CalW.zone z s, i m] w (MakePost (makeR id op pr r t z s m) w) := by
  obtain ⟨Ra, Rb, Rc, Rd, Re, Rf, Rg⟩ := makeR_re id op pr r t z s m
  have HB0 := Lib.hid (below_alloc (below_alloc (below_alloc (below_alloc (Below.refl w.heap.size w) (.cells (recA r (.slice A n k)) 31)) (.cells (trA t (.slice A' n' k')) 36)) (.cells #[i z, .bool s] 38)) (.cells (cdrA noCdr nil0) 24))
  have HX0 := Lib.hid (MX.new r (.slice A n k) t (.slice A' n' k') z s w)
  have HZ : Hid (∀ x ∈ [id, op, pr], x.size ≤ maxLen) := by
    intro x hx; simp at hx; rcases hx with rfl | rfl | rfl <;> assumption
  obtain ⟨nm, hnm'⟩ : ∃ b, [id, op, pr].all IdW.identOk = b := ⟨_, rfl⟩
  have HNM : Hid (∀ (W : World) (v : Value), NamesAt W v [id, op, pr] → Calls Tryz.prog 22 #[v] W fun e w' => e = .returned (i (if nm then 0 else 4)) ∧ Below W.heap.size W w') := fun W v h => names v _ W h (by rw [← hnm'])
  rw [hnm'] at Ra Rb Rc Rd Re Rf Rg hnm
  have HRV : Hid (∀ W, Below w.heap.size w W → Calls Tryz.prog 48 #[.agg (recA r (.slice A n k))] W fun e w' => e = .returned (i (recE r)) ∧ Below W.heap.size W w') := fun W hb => recValid r A n k W ho (hR.call hb) rfl
  have HBI : Hid (∀ W, Below w.heap.size w W → Calls Tryz.prog 49 #[.agg (recA r (.slice A n k)), trfV t (.slice A' n' k'), CalW.zone z s, i m] W (BillPost (billR r t z s m) W)) := fun W hb => bill r A n k t A' n' k' z s m W (ht.below hb ht.lt) (hR.call hb) (hE.call hb) hid hcur hm hl hmo
  have HCV : Hid (∀ W B q q', ItmsAt W (.slice B q q') (billR r t z s m).1 → Calls Tryz.prog 10 #[.agg (cdrA (mkCdr id op pr r t (billR r t z s m)) (.slice B q q'))] W fun e w' => e = .returned (i (cdrE (mkCdr id op pr r t (billR r t z s m)))) ∧ Below W.heap.size W w') := fun W B q q' h => valid _ B q q' W ⟨h1, h2, h3, ho.s2, hid, hcur, by show 0 ≤ maxLen; omega, by show I64 1; unfold I64; omega, hs1, hs2, hs3, bill_I64 r t z s m⟩ h rfl
  unfold BillPost at HBI
  clear ht hR hE h1 h2 h3 ho hid hcur hm hl hmo hs1 hs2 hs3 hnm'
  generalize makeR id op pr r t z s m = R at *
  generalize recE r = e1 at *
  generalize billR r t z s m = b at *
  obtain ⟨its, gr, e2⟩ := b
  simp only at *
  generalize hcc : cdrE (mkCdr id op pr r t (its, gr, e2)) = e3 at *
  clear hcc
  obtain ⟨sta, txn, conn, tok, start, stop, rds, en, reason, off, den⟩ := r
  subst hnm
  subst he1
  have hqz := str_ne hq
  simp only at hdn hd
  subst hdn
  have hz : (en == 0) = false := by simpa using hd
  have Re := Re rfl hq rfl hd
  have Rf := Rf rfl hq rfl hd
  have Rg := Rg rfl hq rfl hd
  clear hd
  subst he2
  have hz2 : (e3 != 0) = true := by simpa using he3
  have HV := Lib.hid (Rf rfl he3)
  clear Ra Rb Rc Rd Re Rf Rg
  go_enter Tryz.func31, Tryz.ntmps31
  go_wp2_with fail
  refine (HNM.out _ _ ?_).mono ?_
  · exact namesL _ _ _ _ rfl HZ.out (by unfold maxLen; simp) (by first | rfl | simp) rfl rfl
  rintro e w1 ⟨rfl, hb⟩
  have HX1 := Lib.hid ((HX0.out.alloc _).call hb)
  have HB1 := Lib.hid (below_call (below_alloc HB0.out _) hb)
  clear hb
  obtain ⟨c0, c1, c2, c3, c4, c5, c6, c7, c8, c9, c10⟩ := rec_cells HX1.out.bx.kr
  obtain ⟨-, -, ⟨t0, t1, t2, t3, t4, t5, t6, t7⟩, z0, z1⟩ := HX1.out.bx.cells
  obtain ⟨d, fz⟩ := HX1.out.res
  go_wp2_with fail
  refine (HRV.out _ HB1.out).mono ?_
  rintro e w2 ⟨rfl, hb⟩
  have HX2 := Lib.hid (HX1.out.call hb)
  have HB2 := Lib.hid (below_call HB1.out hb)
  clear hb
  clear c0 c1 c2 c3 c4 c5 c6 c7 c8 c9 c10 t0 t1 t2 t3 t4 t5 t6 t7 z0 z1 d fz
  obtain ⟨c0, c1, c2, c3, c4, c5, c6, c7, c8, c9, c10⟩ := rec_cells HX2.out.bx.kr
  obtain ⟨-, -, ⟨t0, t1, t2, t3, t4, t5, t6, t7⟩, z0, z1⟩ := HX2.out.bx.cells
  obtain ⟨d, fz⟩ := HX2.out.res
  go_wp2_with fail
  refine (HBI.out _ HB2.out).mono ?_
  rintro e w3 ⟨v, rfl, hv, hb⟩
  obtain ⟨VA, vk, rfl, _, _⟩ := SliceAt.form hv
  have HV3 := Lib.hid hv
  have HX3 := Lib.hid (HX2.out.call hb)
  have HB3 := Lib.hid (below_call HB2.out hb)
  clear hb hv
  clear c0 c1 c2 c3 c4 c5 c6 c7 c8 c9 c10 t0 t1 t2 t3 t4 t5 t6 t7 z0 z1 d fz
  obtain ⟨c0, c1, c2, c3, c4, c5, c6, c7, c8, c9, c10⟩ := rec_cells HX3.out.bx.kr
  obtain ⟨-, -, ⟨t0, t1, t2, t3, t4, t5, t6, t7⟩, z0, z1⟩ := HX3.out.bx.cells
  obtain ⟨d, fz⟩ := HX3.out.res
  go_wp2_with fail
  have HVA := Lib.hid (ItmsAt.call HV3.out (below_new w3 (.cells (cdrA (mkCdr id op pr ⟨sta, txn, conn, tok, start, stop, rds, en, reason, off, true⟩ t (its, gr, 0)) (.slice VA its.length vk)) 24)))
  refine (HCV.out _ _ _ _ HVA.out).mono ?_
  rintro e w4 ⟨rfl, hb⟩
  have HV4 := Lib.hid (ItmsAt.call HVA.out hb)
  have HK4 := Lib.hid ((Blk.new w3 24 (cdrA (mkCdr id op pr ⟨sta, txn, conn, tok, start, stop, rds, en, reason, off, true⟩ t (its, gr, 0)) (.slice VA its.length vk))).call hb)
  have HX4 := Lib.hid ((HX3.out.alloc _).call hb)
  have HB4 := Lib.hid (below_call (below_alloc HB3.out _) hb)
  clear hb
  clear c0 c1 c2 c3 c4 c5 c6 c7 c8 c9 c10 t0 t1 t2 t3 t4 t5 t6 t7 z0 z1 d fz
  obtain ⟨c0, c1, c2, c3, c4, c5, c6, c7, c8, c9, c10⟩ := rec_cells HX4.out.bx.kr
  obtain ⟨-, -, ⟨t0, t1, t2, t3, t4, t5, t6, t7⟩, z0, z1⟩ := HX4.out.bx.cells
  obtain ⟨d, fz⟩ := HX4.out.res
  obtain ⟨g0, g1, g2, g3, g4, g5, g6, g7, g8, g9, g10, g11, g12, g13⟩ := cdr_cells HK4.out
  go_wp2_with fail
  refine bodyPost_ret (retM rfl rfl (put14_blk noCdr nil0 HX4.out.kc)) rfl ?_
  exact MakePost.no HV.out (put14_below noCdr nil0 HB4.out (by omega))
set_option maxRecDepth 100000 in
set_option maxHeartbeats 4000000 in
theorem make_g0 (id op pr : ByteArray) (r : Rec) (A : Option Addr) (n k : Nat) (t : Trf) (A' : Option Addr) (n' k' : Nat) (z : Int) (s : Bool) (m : Int) (w : World) (ht : CalW.Tab w) (hR : RdgsAt w (.slice A n k) r.rds) (hE : ElemsAt w (.slice A' n' k') t.els)
    (h1 : id.size ≤ maxLen) (h2 : op.size ≤ maxLen) (h3 : pr.size ≤ maxLen) (ho : r.ok) (hid : t.id.size ≤ maxLen) (hcur : t.cur.size ≤ maxLen) (hm : I64 m) (hl : I64 t.least) (hmo : I64 t.most) (hs1 : I64 r.start) (hs2 : I64 r.stop) (hs3 : I64 r.en) (hnm : [id, op, pr].all IdW.identOk = true) (hq : op ≠ pr) (he1 : recE r = 0) (hd : ¬ (r.den = true ∧ r.en = 0)) (hdn : r.den = false) (he2 : (billR r t z s m).2.2 = 0) (he3 : cdrE (mkCdr id op pr r t (billR r t z s m)) = 0) :
    Calls Tryz.prog 31 #[.string id, .string op, .string pr, .agg (recA r (.slice A n k)), trfV t (.slice A' n' k'), CalW.zone z s, i m] w (MakePost (makeR id op pr r t z s m) w) := by
  obtain ⟨Ra, Rb, Rc, Rd, Re, Rf, Rg⟩ := makeR_re id op pr r t z s m
  have HB0 := Lib.hid (below_alloc (below_alloc (below_alloc (below_alloc (Below.refl w.heap.size w) (.cells (recA r (.slice A n k)) 31)) (.cells (trA t (.slice A' n' k')) 36)) (.cells #[i z, .bool s] 38)) (.cells (cdrA noCdr nil0) 24))
  have HX0 := Lib.hid (MX.new r (.slice A n k) t (.slice A' n' k') z s w)
  have HZ : Hid (∀ x ∈ [id, op, pr], x.size ≤ maxLen) := by
    intro x hx; simp at hx; rcases hx with rfl | rfl | rfl <;> assumption
  obtain ⟨nm, hnm'⟩ : ∃ b, [id, op, pr].all IdW.identOk = b := ⟨_, rfl⟩
  have HNM : Hid (∀ (W : World) (v : Value), NamesAt W v [id, op, pr] → Calls Tryz.prog 22 #[v] W fun e w' => e = .returned (i (if nm then 0 else 4)) ∧ Below W.heap.size W w') := fun W v h => names v _ W h (by rw [← hnm'])
  rw [hnm'] at Ra Rb Rc Rd Re Rf Rg hnm
  have HRV : Hid (∀ W, Below w.heap.size w W → Calls Tryz.prog 48 #[.agg (recA r (.slice A n k))] W fun e w' => e = .returned (i (recE r)) ∧ Below W.heap.size W w') := fun W hb => recValid r A n k W ho (hR.call hb) rfl
  have HBI : Hid (∀ W, Below w.heap.size w W → Calls Tryz.prog 49 #[.agg (recA r (.slice A n k)), trfV t (.slice A' n' k'), CalW.zone z s, i m] W (BillPost (billR r t z s m) W)) := fun W hb => bill r A n k t A' n' k' z s m W (ht.below hb ht.lt) (hR.call hb) (hE.call hb) hid hcur hm hl hmo
  have HCV : Hid (∀ W B q q', ItmsAt W (.slice B q q') (billR r t z s m).1 → Calls Tryz.prog 10 #[.agg (cdrA (mkCdr id op pr r t (billR r t z s m)) (.slice B q q'))] W fun e w' => e = .returned (i (cdrE (mkCdr id op pr r t (billR r t z s m)))) ∧ Below W.heap.size W w') := fun W B q q' h => valid _ B q q' W ⟨h1, h2, h3, ho.s2, hid, hcur, by show 0 ≤ maxLen; omega, by show I64 1; unfold I64; omega, hs1, hs2, hs3, bill_I64 r t z s m⟩ h rfl
  unfold BillPost at HBI
  clear ht hR hE h1 h2 h3 ho hid hcur hm hl hmo hs1 hs2 hs3 hnm'
  generalize makeR id op pr r t z s m = R at *
  generalize recE r = e1 at *
  generalize billR r t z s m = b at *
  obtain ⟨its, gr, e2⟩ := b
  simp only at *
  generalize hcc : cdrE (mkCdr id op pr r t (its, gr, e2)) = e3 at *
  clear hcc
  obtain ⟨sta, txn, conn, tok, start, stop, rds, en, reason, off, den⟩ := r
  subst hnm
  subst he1
  have hqz := str_ne hq
  simp only at hdn hd
  subst hdn
  have Re := Re rfl hq rfl hd
  have Rf := Rf rfl hq rfl hd
  have Rg := Rg rfl hq rfl hd
  clear hd
  subst he2
  subst he3
  have HV := Lib.hid (Rg rfl rfl)
  clear Ra Rb Rc Rd Re Rf Rg
  go_enter Tryz.func31, Tryz.ntmps31
  go_wp2_with fail
  refine (HNM.out _ _ ?_).mono ?_
  · exact namesL _ _ _ _ rfl HZ.out (by unfold maxLen; simp) (by first | rfl | simp) rfl rfl
  rintro e w1 ⟨rfl, hb⟩
  have HX1 := Lib.hid ((HX0.out.alloc _).call hb)
  have HB1 := Lib.hid (below_call (below_alloc HB0.out _) hb)
  clear hb
  obtain ⟨c0, c1, c2, c3, c4, c5, c6, c7, c8, c9, c10⟩ := rec_cells HX1.out.bx.kr
  obtain ⟨-, -, ⟨t0, t1, t2, t3, t4, t5, t6, t7⟩, z0, z1⟩ := HX1.out.bx.cells
  obtain ⟨d, fz⟩ := HX1.out.res
  go_wp2_with fail
  refine (HRV.out _ HB1.out).mono ?_
  rintro e w2 ⟨rfl, hb⟩
  have HX2 := Lib.hid (HX1.out.call hb)
  have HB2 := Lib.hid (below_call HB1.out hb)
  clear hb
  clear c0 c1 c2 c3 c4 c5 c6 c7 c8 c9 c10 t0 t1 t2 t3 t4 t5 t6 t7 z0 z1 d fz
  obtain ⟨c0, c1, c2, c3, c4, c5, c6, c7, c8, c9, c10⟩ := rec_cells HX2.out.bx.kr
  obtain ⟨-, -, ⟨t0, t1, t2, t3, t4, t5, t6, t7⟩, z0, z1⟩ := HX2.out.bx.cells
  obtain ⟨d, fz⟩ := HX2.out.res
  go_wp2_with fail
  refine (HBI.out _ HB2.out).mono ?_
  rintro e w3 ⟨v, rfl, hv, hb⟩
  obtain ⟨VA, vk, rfl, _, _⟩ := SliceAt.form hv
  have HV3 := Lib.hid hv
  have HX3 := Lib.hid (HX2.out.call hb)
  have HB3 := Lib.hid (below_call HB2.out hb)
  clear hb hv
  clear c0 c1 c2 c3 c4 c5 c6 c7 c8 c9 c10 t0 t1 t2 t3 t4 t5 t6 t7 z0 z1 d fz
  obtain ⟨c0, c1, c2, c3, c4, c5, c6, c7, c8, c9, c10⟩ := rec_cells HX3.out.bx.kr
  obtain ⟨-, -, ⟨t0, t1, t2, t3, t4, t5, t6, t7⟩, z0, z1⟩ := HX3.out.bx.cells
  obtain ⟨d, fz⟩ := HX3.out.res
  go_wp2_with fail
  have HVA := Lib.hid (ItmsAt.call HV3.out (below_new w3 (.cells (cdrA (mkCdr id op pr ⟨sta, txn, conn, tok, start, stop, rds, en, reason, off, false⟩ t (its, gr, 0)) (.slice VA its.length vk)) 24)))
  refine (HCV.out _ _ _ _ HVA.out).mono ?_
  rintro e w4 ⟨rfl, hb⟩
  have HV4 := Lib.hid (ItmsAt.call HVA.out hb)
  have HK4 := Lib.hid ((Blk.new w3 24 (cdrA (mkCdr id op pr ⟨sta, txn, conn, tok, start, stop, rds, en, reason, off, false⟩ t (its, gr, 0)) (.slice VA its.length vk))).call hb)
  have HX4 := Lib.hid ((HX3.out.alloc _).call hb)
  have HB4 := Lib.hid (below_call (below_alloc HB3.out _) hb)
  clear hb
  clear c0 c1 c2 c3 c4 c5 c6 c7 c8 c9 c10 t0 t1 t2 t3 t4 t5 t6 t7 z0 z1 d fz
  obtain ⟨c0, c1, c2, c3, c4, c5, c6, c7, c8, c9, c10⟩ := rec_cells HX4.out.bx.kr
  obtain ⟨-, -, ⟨t0, t1, t2, t3, t4, t5, t6, t7⟩, z0, z1⟩ := HX4.out.bx.cells
  obtain ⟨d, fz⟩ := HX4.out.res
  obtain ⟨g0, g1, g2, g3, g4, g5, g6, g7, g8, g9, g10, g11, g12, g13⟩ := cdr_cells HK4.out
  go_wp2_with fail
  refine bodyPost_ret (retM rfl rfl (put14_blk (mkCdr id op pr ⟨sta, txn, conn, tok, start, stop, rds, en, reason, off, false⟩ t (its, gr, 0)) (.slice VA its.length vk) HX4.out.kc)) rfl ?_
  exact MakePost.yes HV.out (items_far _ _ HV4.out HX4.out.kc) (put14_below _ _ HB4.out (by omega))
set_option maxRecDepth 100000 in
set_option maxHeartbeats 4000000 in
theorem make_g1 (id op pr : ByteArray) (r : Rec) (A : Option Addr) (n k : Nat) (t : Trf) (A' : Option Addr) (n' k' : Nat) (z : Int) (s : Bool) (m : Int) (w : World) (ht : CalW.Tab w) (hR : RdgsAt w (.slice A n k) r.rds) (hE : ElemsAt w (.slice A' n' k') t.els)
    (h1 : id.size ≤ maxLen) (h2 : op.size ≤ maxLen) (h3 : pr.size ≤ maxLen) (ho : r.ok) (hid : t.id.size ≤ maxLen) (hcur : t.cur.size ≤ maxLen) (hm : I64 m) (hl : I64 t.least) (hmo : I64 t.most) (hs1 : I64 r.start) (hs2 : I64 r.stop) (hs3 : I64 r.en) (hnm : [id, op, pr].all IdW.identOk = true) (hq : op ≠ pr) (he1 : recE r = 0) (hd : ¬ (r.den = true ∧ r.en = 0)) (hdn : r.den = true) (he2 : (billR r t z s m).2.2 = 0) (he3 : cdrE (mkCdr id op pr r t (billR r t z s m)) = 0) :
    Calls Tryz.prog 31 #[.string id, .string op, .string pr, .agg (recA r (.slice A n k)), trfV t (.slice A' n' k'), CalW.zone z s, i m] w (MakePost (makeR id op pr r t z s m) w) := by
  obtain ⟨Ra, Rb, Rc, Rd, Re, Rf, Rg⟩ := makeR_re id op pr r t z s m
  have HB0 := Lib.hid (below_alloc (below_alloc (below_alloc (below_alloc (Below.refl w.heap.size w) (.cells (recA r (.slice A n k)) 31)) (.cells (trA t (.slice A' n' k')) 36)) (.cells #[i z, .bool s] 38)) (.cells (cdrA noCdr nil0) 24))
  have HX0 := Lib.hid (MX.new r (.slice A n k) t (.slice A' n' k') z s w)
  have HZ : Hid (∀ x ∈ [id, op, pr], x.size ≤ maxLen) := by
    intro x hx; simp at hx; rcases hx with rfl | rfl | rfl <;> assumption
  obtain ⟨nm, hnm'⟩ : ∃ b, [id, op, pr].all IdW.identOk = b := ⟨_, rfl⟩
  have HNM : Hid (∀ (W : World) (v : Value), NamesAt W v [id, op, pr] → Calls Tryz.prog 22 #[v] W fun e w' => e = .returned (i (if nm then 0 else 4)) ∧ Below W.heap.size W w') := fun W v h => names v _ W h (by rw [← hnm'])
  rw [hnm'] at Ra Rb Rc Rd Re Rf Rg hnm
  have HRV : Hid (∀ W, Below w.heap.size w W → Calls Tryz.prog 48 #[.agg (recA r (.slice A n k))] W fun e w' => e = .returned (i (recE r)) ∧ Below W.heap.size W w') := fun W hb => recValid r A n k W ho (hR.call hb) rfl
  have HBI : Hid (∀ W, Below w.heap.size w W → Calls Tryz.prog 49 #[.agg (recA r (.slice A n k)), trfV t (.slice A' n' k'), CalW.zone z s, i m] W (BillPost (billR r t z s m) W)) := fun W hb => bill r A n k t A' n' k' z s m W (ht.below hb ht.lt) (hR.call hb) (hE.call hb) hid hcur hm hl hmo
  have HCV : Hid (∀ W B q q', ItmsAt W (.slice B q q') (billR r t z s m).1 → Calls Tryz.prog 10 #[.agg (cdrA (mkCdr id op pr r t (billR r t z s m)) (.slice B q q'))] W fun e w' => e = .returned (i (cdrE (mkCdr id op pr r t (billR r t z s m)))) ∧ Below W.heap.size W w') := fun W B q q' h => valid _ B q q' W ⟨h1, h2, h3, ho.s2, hid, hcur, by show 0 ≤ maxLen; omega, by show I64 1; unfold I64; omega, hs1, hs2, hs3, bill_I64 r t z s m⟩ h rfl
  unfold BillPost at HBI
  clear ht hR hE h1 h2 h3 ho hid hcur hm hl hmo hs1 hs2 hs3 hnm'
  generalize makeR id op pr r t z s m = R at *
  generalize recE r = e1 at *
  generalize billR r t z s m = b at *
  obtain ⟨its, gr, e2⟩ := b
  simp only at *
  generalize hcc : cdrE (mkCdr id op pr r t (its, gr, e2)) = e3 at *
  clear hcc
  obtain ⟨sta, txn, conn, tok, start, stop, rds, en, reason, off, den⟩ := r
  subst hnm
  subst he1
  have hqz := str_ne hq
  simp only at hdn hd
  subst hdn
  have hz : (en == 0) = false := by simpa using hd
  have Re := Re rfl hq rfl hd
  have Rf := Rf rfl hq rfl hd
  have Rg := Rg rfl hq rfl hd
  clear hd
  subst he2
  subst he3
  have HV := Lib.hid (Rg rfl rfl)
  clear Ra Rb Rc Rd Re Rf Rg
  go_enter Tryz.func31, Tryz.ntmps31
  go_wp2_with fail
  refine (HNM.out _ _ ?_).mono ?_
  · exact namesL _ _ _ _ rfl HZ.out (by unfold maxLen; simp) (by first | rfl | simp) rfl rfl
  rintro e w1 ⟨rfl, hb⟩
  have HX1 := Lib.hid ((HX0.out.alloc _).call hb)
  have HB1 := Lib.hid (below_call (below_alloc HB0.out _) hb)
  clear hb
  obtain ⟨c0, c1, c2, c3, c4, c5, c6, c7, c8, c9, c10⟩ := rec_cells HX1.out.bx.kr
  obtain ⟨-, -, ⟨t0, t1, t2, t3, t4, t5, t6, t7⟩, z0, z1⟩ := HX1.out.bx.cells
  obtain ⟨d, fz⟩ := HX1.out.res
  go_wp2_with fail
  refine (HRV.out _ HB1.out).mono ?_
  rintro e w2 ⟨rfl, hb⟩
  have HX2 := Lib.hid (HX1.out.call hb)
  have HB2 := Lib.hid (below_call HB1.out hb)
  clear hb
  clear c0 c1 c2 c3 c4 c5 c6 c7 c8 c9 c10 t0 t1 t2 t3 t4 t5 t6 t7 z0 z1 d fz
  obtain ⟨c0, c1, c2, c3, c4, c5, c6, c7, c8, c9, c10⟩ := rec_cells HX2.out.bx.kr
  obtain ⟨-, -, ⟨t0, t1, t2, t3, t4, t5, t6, t7⟩, z0, z1⟩ := HX2.out.bx.cells
  obtain ⟨d, fz⟩ := HX2.out.res
  go_wp2_with fail
  refine (HBI.out _ HB2.out).mono ?_
  rintro e w3 ⟨v, rfl, hv, hb⟩
  obtain ⟨VA, vk, rfl, _, _⟩ := SliceAt.form hv
  have HV3 := Lib.hid hv
  have HX3 := Lib.hid (HX2.out.call hb)
  have HB3 := Lib.hid (below_call HB2.out hb)
  clear hb hv
  clear c0 c1 c2 c3 c4 c5 c6 c7 c8 c9 c10 t0 t1 t2 t3 t4 t5 t6 t7 z0 z1 d fz
  obtain ⟨c0, c1, c2, c3, c4, c5, c6, c7, c8, c9, c10⟩ := rec_cells HX3.out.bx.kr
  obtain ⟨-, -, ⟨t0, t1, t2, t3, t4, t5, t6, t7⟩, z0, z1⟩ := HX3.out.bx.cells
  obtain ⟨d, fz⟩ := HX3.out.res
  go_wp2_with fail
  have HVA := Lib.hid (ItmsAt.call HV3.out (below_new w3 (.cells (cdrA (mkCdr id op pr ⟨sta, txn, conn, tok, start, stop, rds, en, reason, off, true⟩ t (its, gr, 0)) (.slice VA its.length vk)) 24)))
  refine (HCV.out _ _ _ _ HVA.out).mono ?_
  rintro e w4 ⟨rfl, hb⟩
  have HV4 := Lib.hid (ItmsAt.call HVA.out hb)
  have HK4 := Lib.hid ((Blk.new w3 24 (cdrA (mkCdr id op pr ⟨sta, txn, conn, tok, start, stop, rds, en, reason, off, true⟩ t (its, gr, 0)) (.slice VA its.length vk))).call hb)
  have HX4 := Lib.hid ((HX3.out.alloc _).call hb)
  have HB4 := Lib.hid (below_call (below_alloc HB3.out _) hb)
  clear hb
  clear c0 c1 c2 c3 c4 c5 c6 c7 c8 c9 c10 t0 t1 t2 t3 t4 t5 t6 t7 z0 z1 d fz
  obtain ⟨c0, c1, c2, c3, c4, c5, c6, c7, c8, c9, c10⟩ := rec_cells HX4.out.bx.kr
  obtain ⟨-, -, ⟨t0, t1, t2, t3, t4, t5, t6, t7⟩, z0, z1⟩ := HX4.out.bx.cells
  obtain ⟨d, fz⟩ := HX4.out.res
  obtain ⟨g0, g1, g2, g3, g4, g5, g6, g7, g8, g9, g10, g11, g12, g13⟩ := cdr_cells HK4.out
  go_wp2_with fail
  refine bodyPost_ret (retM rfl rfl (put14_blk (mkCdr id op pr ⟨sta, txn, conn, tok, start, stop, rds, en, reason, off, true⟩ t (its, gr, 0)) (.slice VA its.length vk) HX4.out.kc)) rfl ?_
  exact MakePost.yes HV.out (items_far _ _ HV4.out HX4.out.kc) (put14_below _ _ HB4.out (by omega))
theorem make (id op pr : ByteArray) (r : Rec) (A : Option Addr) (n k : Nat) (t : Trf) (A' : Option Addr) (n' k' : Nat) (z : Int) (s : Bool) (m : Int) (w : World) (ht : CalW.Tab w) (hR : RdgsAt w (.slice A n k) r.rds) (hE : ElemsAt w (.slice A' n' k') t.els)
    (h1 : id.size ≤ maxLen) (h2 : op.size ≤ maxLen) (h3 : pr.size ≤ maxLen) (ho : r.ok) (hid : t.id.size ≤ maxLen) (hcur : t.cur.size ≤ maxLen) (hm : I64 m) (hl : I64 t.least) (hmo : I64 t.most) (hs1 : I64 r.start) (hs2 : I64 r.stop) (hs3 : I64 r.en) :
    Calls Tryz.prog 31 #[.string id, .string op, .string pr, .agg (recA r (.slice A n k)), trfV t (.slice A' n' k'), CalW.zone z s, i m] w (MakePost (makeR id op pr r t z s m) w) := by
  rcases bool_cases ([id, op, pr].all IdW.identOk) with hnm | hnm
  case inr => exact make_a id op pr r A n k t A' n' k' z s m w ht hR hE h1 h2 h3 ho hid hcur hm hl hmo hs1 hs2 hs3 hnm
  by_cases hq : op = pr
  case pos => exact make_b id op pr r A n k t A' n' k' z s m w ht hR hE h1 h2 h3 ho hid hcur hm hl hmo hs1 hs2 hs3 hnm hq
  by_cases he1 : recE r = 0
  case neg => exact make_c id op pr r A n k t A' n' k' z s m w ht hR hE h1 h2 h3 ho hid hcur hm hl hmo hs1 hs2 hs3 hnm hq he1
  by_cases hd : r.den = true ∧ r.en = 0
  case pos => exact make_d id op pr r A n k t A' n' k' z s m w ht hR hE h1 h2 h3 ho hid hcur hm hl hmo hs1 hs2 hs3 hnm hq he1 hd
  rcases bool_cases r.den with hdn | hdn
  ·
    by_cases he2 : (billR r t z s m).2.2 = 0
    case neg => exact make_e1 id op pr r A n k t A' n' k' z s m w ht hR hE h1 h2 h3 ho hid hcur hm hl hmo hs1 hs2 hs3 hnm hq he1 hd hdn he2
    by_cases he3 : cdrE (mkCdr id op pr r t (billR r t z s m)) = 0
    case neg => exact make_f1 id op pr r A n k t A' n' k' z s m w ht hR hE h1 h2 h3 ho hid hcur hm hl hmo hs1 hs2 hs3 hnm hq he1 hd hdn he2 he3
    exact make_g1 id op pr r A n k t A' n' k' z s m w ht hR hE h1 h2 h3 ho hid hcur hm hl hmo hs1 hs2 hs3 hnm hq he1 hd hdn he2 he3
  ·
    by_cases he2 : (billR r t z s m).2.2 = 0
    case neg => exact make_e0 id op pr r A n k t A' n' k' z s m w ht hR hE h1 h2 h3 ho hid hcur hm hl hmo hs1 hs2 hs3 hnm hq he1 hd hdn he2
    by_cases he3 : cdrE (mkCdr id op pr r t (billR r t z s m)) = 0
    case neg => exact make_f0 id op pr r A n k t A' n' k' z s m w ht hR hE h1 h2 h3 ho hid hcur hm hl hmo hs1 hs2 hs3 hnm hq he1 hd hdn he2 he3
    exact make_g0 id op pr r A n k t A' n' k' z s m w ht hR hE h1 h2 h3 ho hid hcur hm hl hmo hs1 hs2 hs3 hnm hq he1 hd hdn he2 he3
end Cdr
end Go.Proofs.YtpmcdjpfolgpiaaGreatDoor
