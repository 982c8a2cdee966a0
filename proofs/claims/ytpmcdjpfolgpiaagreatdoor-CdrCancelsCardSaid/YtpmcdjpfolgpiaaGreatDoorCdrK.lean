/-
  A record of a session and its credit cancel each other; a record does not depend on the station, the token, the reason and whether the session was offline; no program in sight.
-/
import Derived.Test.YtpmcdjpfolgpiaaGreatDoorCdrE
namespace Go.Proofs.YtpmcdjpfolgpiaaGreatDoor
namespace Cdr
set_option linter.unusedSimpArgs false
set_option linter.unusedVariables false
open Go.RowKit MonW TarW Usg UsgW Prc PriW CdrW

/-- The session with another station, token and reason. -/
def othR (r : Rec) : Rec := ⟨⟨#[111, 116, 104, 101, 114]⟩, r.txn, r.conn, ⟨#[84]⟩, r.start, r.stop, r.rds, r.en, 6, !r.off, r.den⟩
theorem othR_E {r : Rec} (h : recE r = 0) : recE (othR r) = 0 := by
  unfold recE at h
  by_cases h1 : (IdW.identOk r.sta && IdW.identOk r.txn && IdW.identOk r.tok) = false
  · rw [if_pos h1] at h; exact absurd h (by decide)
  rw [if_neg h1] at h
  by_cases h2 : (recHead r && decide (headAt r.rds = r.start) && decide (lastAt r.rds = r.stop) && decide (scan (ascF r.rds) r.rds.length 0 = 0)) = true
  · have e1 : IdW.identOk r.txn = true := by
      cases ht : IdW.identOk r.txn with
      | true => rfl
      | false => rw [ht] at h1; simp at h1
    rw [Bool.and_eq_true, Bool.and_eq_true, Bool.and_eq_true] at h2
    obtain ⟨⟨⟨q1, q2⟩, q3⟩, q4⟩ := h2
    have e2 : recHead (othR r) = true := by
      unfold recHead at q1 ⊢
      have q1 := of_decide_eq_true q1
      exact decide_eq_true (show 1 ≤ r.conn ∧ r.start ≤ r.stop ∧ 1 ≤ r.rds.length ∧ r.rds.length ≤ 1024 ∧ 0 ≤ r.en ∧ r.en ≤ 1099511627776 ∧ 1 ≤ (6 : Int) ∧ (6 : Int) ≤ 6 by omega)
    have e3 : IdW.identOk (othR r).sta = true := by kernel_rfl
    have e4 : IdW.identOk (othR r).tok = true := by kernel_rfl
    have e5 : IdW.identOk (othR r).txn = true := e1
    unfold recE
    rw [if_neg (by rw [e3, e4, e5]; decide), if_pos]
    rw [Bool.and_eq_true, Bool.and_eq_true, Bool.and_eq_true]
    exact ⟨⟨⟨e2, q2⟩, q3⟩, q4⟩
  · rw [if_neg h2] at h; exact absurd h (by decide)
structure Made (id op pr : ByteArray) (r : Rec) (t : Trf) (z : Int) (s : Bool) (m : Int) : Prop where
  nm : [id, op, pr].all IdW.identOk = true
  q : op ≠ pr
  re : recE r = 0
  dn : ¬ (r.den = true ∧ r.en = 0)
  b : (billR r t z s m).2.2 = 0
  c : cdrE (mkCdr id op pr r t (billR r t z s m)) = 0
theorem made {id op pr : ByteArray} {r : Rec} {t : Trf} {z : Int} {s : Bool} {m : Int} (h : (makeR id op pr r t z s m).2 = 0) : Made id op pr r t z s m := by
  obtain ⟨a, b, c, d, e, f, g⟩ := makeR_re id op pr r t z s m
  generalize makeR id op pr r t z s m = R at *
  cases hn : [id, op, pr].all IdW.identOk with
  | false => rw [a hn] at h; exact absurd h (by decide)
  | true =>
    by_cases hq : op = pr
    · rw [b hn hq] at h; exact absurd h (by decide)
    by_cases hr : recE r = 0
    case neg => rw [c hn hq hr] at h; exact absurd h hr
    by_cases hd : r.den = true ∧ r.en = 0
    · rw [d hn hq hr hd] at h; exact absurd h (by decide)
    by_cases hb : (billR r t z s m).2.2 = 0
    case neg => rw [e hn hq hr hd hb] at h; exact absurd h hb
    by_cases hc : cdrE (mkCdr id op pr r t (billR r t z s m)) = 0
    case neg => rw [f hn hq hr hd hb hc] at h; exact absurd h hc
    exact ⟨hn, hq, hr, hd, hb, hc⟩
theorem made_is {id op pr : ByteArray} {r : Rec} {t : Trf} {z : Int} {s : Bool} {m : Int} (h : Made id op pr r t z s m) : makeR id op pr r t z s m = (mkCdr id op pr r t (billR r t z s m), 0) :=
  (makeR_re id op pr r t z s m).g h.nm h.q h.re h.dn h.b h.c
theorem make_oth {id op pr : ByteArray} {r : Rec} {t : Trf} {z : Int} {s : Bool} {m : Int} (h : (makeR id op pr r t z s m).2 = 0) : makeR id op pr (othR r) t z s m = makeR id op pr r t z s m := by
  have H := made h
  have h1 : Made id op pr (othR r) t z s m := ⟨H.nm, H.q, othR_E H.re, H.dn, H.b, H.c⟩
  exact (made_is h1).trans (made_is H).symm
theorem make_ok {id op pr : ByteArray} {r : Rec} {t : Trf} {z : Int} {s : Bool} {m : Int} (h : (makeR id op pr r t z s m).2 = 0) : cdrE (makeR id op pr r t z s m).1 = 0 := by
  rw [made_is (made h)]
  exact (made h).c

/-! ### A record and its credit -/
structure CdrOk (c : CDR) : Prop where
  nm : nmE c = true
  q : c.oper ≠ c.prov
  rg : rgB c = true ∧ rgT c = true ∧ ¬ c.stop < c.start ∧ rgN c = true
  cu : curOk c.cur = true
  it : itemsE c = 0
  rf : refE c = 0
theorem cdrE_ok {c : CDR} (h : cdrE c = 0) : CdrOk c := by
  have hE := cdrE_re c
  rw [h] at hE
  by_cases h1 : nmE c = true
  case neg => have := hE.qa (by simpa using h1); cases this
  by_cases h2 : c.oper = c.prov
  · have := hE.qb h1 h2; cases this
  by_cases h3 : (rgB c = true ∧ rgT c = true ∧ ¬ c.stop < c.start ∧ rgN c = true)
  case neg => have := hE.qc h1 h2 h3; cases this
  by_cases h4 : curOk c.cur = true
  case neg => have := hE.qd h1 h2 h3 (by simpa using h4); cases this
  by_cases h5 : itemsE c = 0
  case neg => have := hE.qe h1 h2 h3 h4 h5; exact absurd this.symm h5
  exact ⟨h1, h2, h3, h4, h5, (hE.qf h1 h2 h3 h4 h5).symm⟩
structure ItsOk (c : CDR) : Prop where
  l : c.items.length ≤ 32
  a : ∀ k (hk : k < c.items.length), itemOk c.items[k] = true
  g : c.total = grossTo c.items c.items.length
theorem itemsE_ok {c : CDR} (h : itemsE c = 0) : ItsOk c := by
  have hE := itemsE_re c
  rw [h] at hE
  by_cases h1 : 32 < c.items.length
  · have := hE.qa h1; cases this
  by_cases h2 : ∀ k (hk : k < c.items.length), itemOk c.items[k] = true
  · by_cases h3 : c.total = grossTo c.items c.items.length
    · exact ⟨by omega, h2, h3⟩
    · have := hE.qc h1 h2 h3; cases this
  · exfalso
    apply h2
    intro k hk
    cases hi : itemOk c.items[k] with
    | true => rfl
    | false => have := hE.qb h1 k hk hi; cases this
/-- An item and its opposite. -/
structure Opp (x y : Itm) : Prop where
  kd : y.kind = x.kind
  qt : y.qty = x.qty
  nt : y.net = -x.net
  vt : y.vat = -x.vat
  gr : y.gross = -x.gross
  ok : itemOk y = true
theorem opp {x : Itm} (h : itemOk x = true) : Opp x (ngi x) := by
  unfold itemOk at h
  have h := of_decide_eq_true h
  have e1 : wrap64 (-x.net) = -x.net := by unfold wrap64; omega
  have e2 : wrap64 (-x.vat) = -x.vat := by unfold wrap64; omega
  have e3 : wrap64 (-x.gross) = -x.gross := by unfold wrap64; omega
  have e4 : wrap64 (-x.price) = -x.price := by unfold wrap64; omega
  refine ⟨rfl, rfl, e1, e2, e3, ?_⟩
  unfold itemOk ngi
  rw [e1, e2, e3, e4]
  exact decide_eq_true (by simp only; omega)
theorem gross_opp {l : List Itm} (h : ∀ k (hk : k < l.length), itemOk l[k] = true) : ∀ k, k ≤ l.length → grossTo (l.map ngi) k = -grossTo l k := by
  intro k
  induction k with
  | zero => intro _; rw [gross_zero, gross_zero]; rfl
  | succ k ih =>
    intro hk
    rw [gross_succ (by rw [List.length_map]; omega), gross_succ (by omega), ih (by omega), List.getElem_map, (opp (h k (by omega))).gr]
    omega
theorem crd_total {c : CDR} (h : ItsOk c) (id : ByteArray) : (crd c id).total = -c.total ∧ -72057594037927936 * 32 ≤ c.total ∧ c.total ≤ 72057594037927936 * 32 := by
  have hb := gross_bd (l := c.items) c.items.length (Nat.le_refl _) (fun j hj _ => h.a j hj)
  rw [← h.g] at hb
  have hl := h.l
  refine ⟨?_, by omega, by omega⟩
  show IntKind.i64.wrap (-c.total) = -c.total
  rw [IntKind.wrap_i64]
  omega
theorem crd_items {c : CDR} (h : ItsOk c) (id : ByteArray) : itemsE (crd c id) = 0 := by
  have hl : (crd c id).items.length = c.items.length := by show (c.items.map ngi).length = _; simp
  refine (itemsE_re (crd c id)).qd (by rw [hl]; have := h.l; omega) (fun k hk => ?_) ?_
  · have hk2 : k < (c.items.map ngi).length := hk
    show itemOk ((c.items.map ngi)[k]'hk2) = true
    rw [List.getElem_map]
    exact (opp (h.a k (by rw [hl] at hk; exact hk))).ok
  · rw [(crd_total h id).1, hl]
    show _ = grossTo (c.items.map ngi) _
    rw [gross_opp h.a _ (Nat.le_refl _), h.g]
theorem crd_ok {c : CDR} {id : ByteArray} (h : cdrE c = 0) (h2 : IdW.identOk id = true) (h3 : id ≠ c.id) : cdrE (crd c id) = 0 := by
  have H := cdrE_ok h
  have HI := itemsE_ok H.it
  have e1 : nmE (crd c id) = true := by
    have := H.nm
    unfold nmE at this ⊢
    simp only [List.all_cons, List.all_nil, Bool.and_true, Bool.and_eq_true] at this ⊢
    exact ⟨h2, this.2⟩
  have e2 : IdW.identOk c.id = true := by
    have := H.nm
    unfold nmE at this
    simp only [List.all_cons, List.all_nil, Bool.and_true, Bool.and_eq_true] at this
    exact this.1
  have e3 : cdrE (crd c id) = refE (crd c id) := (cdrE_re (crd c id)).qf e1 H.q H.rg H.cu (crd_items HI id)
  rw [e3]
  exact (refE_re (crd c id)).qe rfl e2 (fun e => h3 e.symm)
/-- What a credit is, where there is one. -/
theorem credited {c : CDR} {id : ByteArray} (h : (creditR c id).2 = 0) : cdrE c = 0 ∧ c.credit = false ∧ IdW.identOk id = true ∧ id ≠ c.id ∧ creditR c id = (crd c id, 0) := by
  obtain ⟨a, b, c', d, e⟩ := creditR_re c id
  generalize creditR c id = R at *
  by_cases h1 : cdrE c = 0
  case neg => rw [a h1] at h; exact absurd h h1
  cases h2 : c.credit with
  | true => rw [b h1 h2] at h; exact absurd h (by decide)
  | false =>
    cases h3 : IdW.identOk id with
    | false => rw [c' h1 h2 h3] at h; exact absurd h (by decide)
    | true =>
      by_cases h4 : id = c.id
      · rw [d h1 h2 h3 h4] at h; exact absurd h (by decide)
      · exact ⟨h1, rfl, rfl, h4, e h1 h2 h3 h4⟩
end Cdr
end Go.Proofs.YtpmcdjpfolgpiaaGreatDoor
