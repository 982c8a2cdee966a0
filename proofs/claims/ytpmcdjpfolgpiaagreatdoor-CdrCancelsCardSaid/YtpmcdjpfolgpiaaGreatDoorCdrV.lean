/-
  A charge detail record as a value; the ways of its check.
-/
import Derived.Test.YtpmcdjpfolgpiaaGreatDoorCdrP
import Derived.Test.YtpmcdjpfolgpiaaGreatDoorCdrY
namespace Go.Proofs.YtpmcdjpfolgpiaaGreatDoor
namespace Cdr
set_option linter.unusedSimpArgs false
set_option linter.unusedVariables false
open Go.RowKit MonW TarW Usg CdrW

/-- A slice of one-cell rows made in place. -/
theorem sl1 {α : Type} {R : List Value → α → Prop} (f : α → Value) (w : World) (xs : List α) (t : TypeId) (cs : Array Value) (hc : cs.toList = xs.map f) (hR : ∀ x ∈ xs, R [f x] x) (hl : xs.length ≤ maxLen) {n m k : Nat} (hn : n = w.heap.size) (hm : m = xs.length) (hk : k = xs.length) :
    SliceAt R 1 (w.alloc (.cells cs t)) (.slice (some ⟨n, 0, none⟩) m k) xs := by
  subst hn hm hk
  refine ⟨_, _, rfl, Nat.le_refl _, hl, fun h => (by cases h), fun j x h => ?_⟩
  obtain ⟨hj, rfl⟩ := List.getElem?_eq_some_iff.1 h
  refine ⟨w.heap.size, 0, [f xs[j]], rfl, rfl, hR _ (List.getElem_mem hj), fun o u ho => ?_⟩
  rcases o with _ | o
  · rw [World.cell?_alloc_new]
    obtain rfl : f xs[j] = u := by simpa using ho
    have : cs.toList[j]? = some (f xs[j]) := by rw [hc, List.getElem?_map, h]; rfl
    simpa using this
  · simp at ho
theorem namesL (w : World) (xs : List ByteArray) (t : TypeId) (cs : Array Value) (hc : cs.toList = xs.map Value.string) (hz : ∀ x ∈ xs, x.size ≤ maxLen) (hl : xs.length ≤ maxLen) {n m k : Nat} (hn : n = w.heap.size) (hm : m = xs.length) (hk : k = xs.length) :
    NamesAt (w.alloc (.cells cs t)) (.slice (some ⟨n, 0, none⟩) m k) xs := sl1 Value.string w xs t cs hc (fun x hx => ⟨rfl, hz x hx⟩) hl hn hm hk
theorem intsL (w : World) (xs : List Int) (t : TypeId) (cs : Array Value) (hc : cs.toList = xs.map i) (hl : xs.length ≤ maxLen) {n m k : Nat} (hn : n = w.heap.size) (hm : m = xs.length) (hk : k = xs.length) :
    CdrW.IntsAt (w.alloc (.cells cs t)) (.slice (some ⟨n, 0, none⟩) m k) xs := sl1 i w xs t cs hc (fun x hx => rfl) hl hn hm hk

/-- The value of a record; u: its items' slice. -/
abbrev cdrA (c : CDR) (u : Value) : Array Value := #[.string c.id, .string c.oper, .string c.prov, .string c.sess, i c.ver, i c.start, i c.stop, i c.en, .string c.tar, .string c.cur, u, i c.total, .bool c.credit, .string c.ref]
structure CDR.ok (c : CDR) : Prop where
  s1 : c.id.size ≤ maxLen
  s2 : c.oper.size ≤ maxLen
  s3 : c.prov.size ≤ maxLen
  s4 : c.sess.size ≤ maxLen
  s5 : c.tar.size ≤ maxLen
  s6 : c.cur.size ≤ maxLen
  s7 : c.ref.size ≤ maxLen
  n1 : I64 c.ver
  n2 : I64 c.start
  n3 : I64 c.stop
  n4 : I64 c.en
  n5 : I64 c.total

/-- The ways of an item list's check. -/
structure ItE (c : CDR) (E : Int) : Prop where
  qa : 32 < c.items.length → E = 3
  qb : ¬ 32 < c.items.length → ∀ k (hk : k < c.items.length), itemOk c.items[k] = false → E = 1
  qc : ¬ 32 < c.items.length → (∀ k (hk : k < c.items.length), itemOk c.items[k] = true) → c.total ≠ grossTo c.items c.items.length → E = 1
  qd : ¬ 32 < c.items.length → (∀ k (hk : k < c.items.length), itemOk c.items[k] = true) → c.total = grossTo c.items c.items.length → E = 0
theorem its_hit {l : List Itm} {k : Nat} (hk : k < l.length) (h : itemOk l[k] = false) : l.all itemOk = false := by
  rw [List.all_eq_false]
  exact ⟨l[k], List.getElem_mem hk, by simp [h]⟩
theorem its_all {l : List Itm} (h : ∀ k (hk : k < l.length), itemOk l[k] = true) : l.all itemOk = true := by
  rw [List.all_eq_true]
  intro x hx
  obtain ⟨k, hk, rfl⟩ := List.getElem_of_mem hx
  exact h k hk
theorem itemsE_re (c : CDR) : ItE c (itemsE c) := by
  constructor
  all_goals intros
  all_goals unfold itemsE
  · rw [if_pos (by assumption)]
  · rename_i k hk h
    rw [if_neg (by assumption), if_pos (its_hit hk h)]
  · rename_i h _
    rw [if_neg (by assumption), if_neg (by rw [its_all h]; decide), if_pos (by assumption)]
  · rename_i h _
    rw [if_neg (by assumption), if_neg (by rw [its_all h]; decide), if_neg (by rename_i h; exact fun e => e h)]
theorem gross_zero (l : List Itm) : grossTo l 0 = 0 := by simp [grossTo]
theorem gross_app (l m : List Itm) : (((l ++ m).map (·.gross)).foldr (· + ·) 0 : Int) = (l.map (·.gross)).foldr (· + ·) 0 + (m.map (·.gross)).foldr (· + ·) 0 := by
  induction l with
  | nil => simp
  | cons x l ih => simp only [List.cons_append, List.map_cons, List.foldr_cons]; rw [ih]; omega
theorem gross_succ {l : List Itm} {k : Nat} (hk : k < l.length) : grossTo l (k + 1) = grossTo l k + l[k].gross := by
  unfold grossTo
  rw [List.take_succ_eq_append_getElem hk, gross_app]
  simp
theorem itemOk_gross {x : Itm} (h : itemOk x = true) : -72057594037927936 ≤ x.gross ∧ x.gross ≤ 72057594037927936 := by
  unfold itemOk at h
  have := of_decide_eq_true h
  omega
theorem gross_bd {l : List Itm} : ∀ k, k ≤ l.length → (∀ j (hj : j < l.length), j < k → itemOk l[j] = true) → -72057594037927936 * (k : Int) ≤ grossTo l k ∧ grossTo l k ≤ 72057594037927936 * (k : Int) := by
  intro k
  induction k with
  | zero => intro _ _; rw [gross_zero]; omega
  | succ k ih =>
    intro hk h
    have h1 := ih (by omega) (fun j hj hl => h j hj (by omega))
    have h2 := itemOk_gross (h k (by omega) (by omega))
    rw [gross_succ (by omega)]
    omega
/-- The ways of what a record says about another one. -/
structure RfE (c : CDR) (E : Int) : Prop where
  qa : c.credit = false → c.ref.size = 0 → E = 0
  qb : c.credit = false → c.ref.size ≠ 0 → E = 1
  qc : c.credit = true → IdW.identOk c.ref = false → E = 4
  qd : c.credit = true → IdW.identOk c.ref = true → c.ref = c.id → E = 1
  qe : c.credit = true → IdW.identOk c.ref = true → c.ref ≠ c.id → E = 0
theorem refE_re (c : CDR) : RfE c (refE c) := by
  constructor
  all_goals intros
  all_goals unfold refE
  all_goals simp_all

/-- The ways of a record's check, in the program's order. -/
def nmE (c : CDR) : Bool := [c.id, c.oper, c.prov, c.sess, c.tar].all IdW.identOk
def rgB (c : CDR) : Bool := [c.ver].all (fun x => decide ((1 : Int) ≤ x ∧ x ≤ 2147483647))
def rgT (c : CDR) : Bool := [c.start, c.stop].all (fun x => decide ((0 : Int) ≤ x ∧ x ≤ 268435456))
def rgN (c : CDR) : Bool := [c.en].all (fun x => decide ((0 : Int) ≤ x ∧ x ≤ 36028797018963968))
theorem nm_eq (c : CDR) : namesOk c = nmE c := by unfold namesOk nmE; simp only [List.all_cons, List.all_nil, Bool.and_true, Bool.and_assoc]
theorem rg_eq (c : CDR) : (1 ≤ c.ver ∧ c.ver ≤ 2147483647 ∧ 0 ≤ c.start ∧ c.start ≤ c.stop ∧ c.stop ≤ 268435456 ∧ 0 ≤ c.en ∧ c.en ≤ 36028797018963968) ↔ (rgB c = true ∧ rgT c = true ∧ ¬ c.stop < c.start ∧ rgN c = true) := by
  unfold rgB rgT rgN
  simp
  omega
structure CE (c : CDR) (E : Int) : Prop where
  qa : nmE c = false → E = 4
  qb : nmE c = true → c.oper = c.prov → E = 1
  qc : nmE c = true → c.oper ≠ c.prov → ¬ (rgB c = true ∧ rgT c = true ∧ ¬ c.stop < c.start ∧ rgN c = true) → E = 2
  qd : nmE c = true → c.oper ≠ c.prov → (rgB c = true ∧ rgT c = true ∧ ¬ c.stop < c.start ∧ rgN c = true) → curOk c.cur = false → E = 21
  qe : nmE c = true → c.oper ≠ c.prov → (rgB c = true ∧ rgT c = true ∧ ¬ c.stop < c.start ∧ rgN c = true) → curOk c.cur = true → itemsE c ≠ 0 → E = itemsE c
  qf : nmE c = true → c.oper ≠ c.prov → (rgB c = true ∧ rgT c = true ∧ ¬ c.stop < c.start ∧ rgN c = true) → curOk c.cur = true → itemsE c = 0 → E = refE c
theorem cdrE_re (c : CDR) : CE c (cdrE c) := by
  constructor
  all_goals intros
  all_goals unfold cdrE
  all_goals rw [nm_eq]
  · rw [if_pos (by assumption)]
  · rename_i h _
    rw [if_neg (by rw [h]; decide), if_pos (by assumption)]
  · rename_i h _ h2
    rw [if_neg (by rw [h]; decide), if_neg (by assumption), if_pos (fun e => h2 ((rg_eq c).1 e))]
  · rename_i h _ h2 h3
    rw [if_neg (by rw [h]; decide), if_neg (by assumption), if_neg (fun e => e ((rg_eq c).2 h2)), if_pos h3]
  · rename_i h _ h2 h3 h4
    rw [if_neg (by rw [h]; decide), if_neg (by assumption), if_neg (fun e => e ((rg_eq c).2 h2)), if_neg (by rw [h3]; decide), if_pos h4]
  · rename_i h _ h2 h3 h4
    rw [if_neg (by rw [h]; decide), if_neg (by assumption), if_neg (fun e => e ((rg_eq c).2 h2)), if_neg (by rw [h3]; decide), if_neg (fun e => e h4)]
end Cdr
end Go.Proofs.YtpmcdjpfolgpiaaGreatDoor
