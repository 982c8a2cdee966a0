/-
  The walk of cdr.Make.
-/
import Derived.Test.YtpmcdjpfolgpiaaGreatDoorCdrA
import Derived.Test.YtpmcdjpfolgpiaaGreatDoorCdrB
import Derived.Test.YtpmcdjpfolgpiaaGreatDoorCdrR
namespace Go.Proofs.YtpmcdjpfolgpiaaGreatDoor
namespace Cdr
set_option linter.unusedSimpArgs false
set_option linter.unusedVariables false
open Go.RowKit MonW TarW Usg UsgW Prc PriW CdrW

/-- A record written over another one. -/
abbrev put14 (w : World) (g : Nat) (c : CDR) (u : Value) : World := ((((((((((((((w).setCell ⟨g, 0, none⟩ (.string c.id)).setCell ⟨g, 1, none⟩ (.string c.oper)).setCell ⟨g, 2, none⟩ (.string c.prov)).setCell ⟨g, 3, none⟩ (.string c.sess)).setCell ⟨g, 4, none⟩ (i c.ver)).setCell ⟨g, 5, none⟩ (i c.start)).setCell ⟨g, 6, none⟩ (i c.stop)).setCell ⟨g, 7, none⟩ (i c.en)).setCell ⟨g, 8, none⟩ (.string c.tar)).setCell ⟨g, 9, none⟩ (.string c.cur)).setCell ⟨g, 10, none⟩ (u)).setCell ⟨g, 11, none⟩ (i c.total)).setCell ⟨g, 12, none⟩ (.bool c.credit)).setCell ⟨g, 13, none⟩ (.string c.ref)
theorem put14_blk {w : World} {g : Nat} {t : TypeId} {c0 : CDR} {u0 : Value} (c : CDR) (u : Value) (h : Blk w g t (cdrA c0 u0)) : Blk (put14 w g c u) g t (cdrA c u) := by
  simpa using ((((((((((((((h).set_ 0 (.string c.id)).set_ 1 (.string c.oper)).set_ 2 (.string c.prov)).set_ 3 (.string c.sess)).set_ 4 (i c.ver)).set_ 5 (i c.start)).set_ 6 (i c.stop)).set_ 7 (i c.en)).set_ 8 (.string c.tar)).set_ 9 (.string c.cur)).set_ 10 (u)).set_ 11 (i c.total)).set_ 12 (.bool c.credit)).set_ 13 (.string c.ref)
theorem put14_below {s0 : Nat} {a w : World} {g : Nat} (c : CDR) (u : Value) (h : Below s0 a w) (hg : s0 ≤ g) : Below s0 a (put14 w g c u) := ((((((((((((((h).setCell (p := ⟨g, 0, none⟩) hg _).setCell (p := ⟨g, 1, none⟩) hg _).setCell (p := ⟨g, 2, none⟩) hg _).setCell (p := ⟨g, 3, none⟩) hg _).setCell (p := ⟨g, 4, none⟩) hg _).setCell (p := ⟨g, 5, none⟩) hg _).setCell (p := ⟨g, 6, none⟩) hg _).setCell (p := ⟨g, 7, none⟩) hg _).setCell (p := ⟨g, 8, none⟩) hg _).setCell (p := ⟨g, 9, none⟩) hg _).setCell (p := ⟨g, 10, none⟩) hg _).setCell (p := ⟨g, 11, none⟩) hg _).setCell (p := ⟨g, 12, none⟩) hg _).setCell (p := ⟨g, 13, none⟩) hg _
theorem put14_other {w : World} {g g' : Nat} {t : TypeId} {cs : Array Value} (c : CDR) (u : Value) (h : Blk w g' t cs) (hg : g' ≠ g) : Blk (put14 w g c u) g' t cs := ((((((((((((((h).far (p := ⟨g, 0, none⟩) hg _).far (p := ⟨g, 1, none⟩) hg _).far (p := ⟨g, 2, none⟩) hg _).far (p := ⟨g, 3, none⟩) hg _).far (p := ⟨g, 4, none⟩) hg _).far (p := ⟨g, 5, none⟩) hg _).far (p := ⟨g, 6, none⟩) hg _).far (p := ⟨g, 7, none⟩) hg _).far (p := ⟨g, 8, none⟩) hg _).far (p := ⟨g, 9, none⟩) hg _).far (p := ⟨g, 10, none⟩) hg _).far (p := ⟨g, 11, none⟩) hg _).far (p := ⟨g, 12, none⟩) hg _).far (p := ⟨g, 13, none⟩) hg _

def noCdr : CDR := ⟨⟨#[]⟩, ⟨#[]⟩, ⟨#[]⟩, ⟨#[]⟩, 0, 0, 0, 0, ⟨#[]⟩, ⟨#[]⟩, [], 0, false, ⟨#[]⟩⟩
def mkCdr (id op pr : ByteArray) (r : Rec) (t : Trf) (b : List Itm × Int × Int) : CDR := ⟨id, op, pr, r.txn, 1, r.start, r.stop, r.en, t.id, t.cur, b.1, b.2.1, false, ⟨#[]⟩⟩
def makeR (id op pr : ByteArray) (r : Rec) (t : Trf) (z : Int) (s : Bool) (m : Int) : CDR × Int :=
  if [id, op, pr].all IdW.identOk = false then (noCdr, 4) else if op = pr then (noCdr, 1) else if recE r ≠ 0 then (noCdr, recE r)
  else if r.den = true ∧ r.en = 0 then (noCdr, 10) else if (billR r t z s m).2.2 ≠ 0 then (noCdr, (billR r t z s m).2.2)
  else if cdrE (mkCdr id op pr r t (billR r t z s m)) ≠ 0 then (noCdr, cdrE (mkCdr id op pr r t (billR r t z s m))) else (mkCdr id op pr r t (billR r t z s m), 0)
structure MakeR (id op pr : ByteArray) (r : Rec) (t : Trf) (z : Int) (s : Bool) (m : Int) (R : CDR × Int) : Prop where
  a : [id, op, pr].all IdW.identOk = false → R = (noCdr, 4)
  b : [id, op, pr].all IdW.identOk = true → op = pr → R = (noCdr, 1)
  c : [id, op, pr].all IdW.identOk = true → op ≠ pr → recE r ≠ 0 → R = (noCdr, recE r)
  d : [id, op, pr].all IdW.identOk = true → op ≠ pr → recE r = 0 → (r.den = true ∧ r.en = 0) → R = (noCdr, 10)
  e : [id, op, pr].all IdW.identOk = true → op ≠ pr → recE r = 0 → ¬ (r.den = true ∧ r.en = 0) → (billR r t z s m).2.2 ≠ 0 → R = (noCdr, (billR r t z s m).2.2)
  f : [id, op, pr].all IdW.identOk = true → op ≠ pr → recE r = 0 → ¬ (r.den = true ∧ r.en = 0) → (billR r t z s m).2.2 = 0 → cdrE (mkCdr id op pr r t (billR r t z s m)) ≠ 0 → R = (noCdr, cdrE (mkCdr id op pr r t (billR r t z s m)))
  g : [id, op, pr].all IdW.identOk = true → op ≠ pr → recE r = 0 → ¬ (r.den = true ∧ r.en = 0) → (billR r t z s m).2.2 = 0 → cdrE (mkCdr id op pr r t (billR r t z s m)) = 0 → R = (mkCdr id op pr r t (billR r t z s m), 0)
theorem makeR_re (id op pr : ByteArray) (r : Rec) (t : Trf) (z : Int) (s : Bool) (m : Int) : MakeR id op pr r t z s m (makeR id op pr r t z s m) := by
  constructor
  all_goals intros
  all_goals unfold makeR
  · rw [if_pos (by assumption)]
  · rename_i h1 h2
    rw [if_neg (by rw [h1]; decide), if_pos h2]
  · rename_i h1 h2 h3
    rw [if_neg (by rw [h1]; decide), if_neg h2, if_pos h3]
  · rename_i h1 h2 h3 h4
    rw [if_neg (by rw [h1]; decide), if_neg h2, if_neg (fun e => e h3), if_pos h4]
  · rename_i h1 h2 h3 h4 h5
    rw [if_neg (by rw [h1]; decide), if_neg h2, if_neg (fun e => e h3), if_neg h4, if_pos h5]
  · rename_i h1 h2 h3 h4 h5 h6
    rw [if_neg (by rw [h1]; decide), if_neg h2, if_neg (fun e => e h3), if_neg h4, if_neg (fun e => e h5), if_pos h6]
  · rename_i h1 h2 h3 h4 h5 h6
    rw [if_neg (by rw [h1]; decide), if_neg h2, if_neg (fun e => e h3), if_neg h4, if_neg (fun e => e h5), if_neg (fun e => e h6)]
def MakePost (R : CDR × Int) (w : World) (e : Ending) (w' : World) : Prop := ∃ u, e = .returned (.tuple #[.agg (cdrA R.1 u), i R.2]) ∧ ItmsAt w' u R.1.items ∧ Below w.heap.size w w'
theorem MakePost.no {R : CDR × Int} {w w' : World} {n : Int} (h : R = (noCdr, n)) (hb : Below w.heap.size w w') : MakePost R w (.returned (.tuple #[.agg (cdrA noCdr (.slice none 0 0)), i n])) w' := by
  subst h
  exact ⟨_, rfl, SliceAt.nil, hb⟩
theorem MakePost.yes {R : CDR × Int} {c : CDR} {u : Value} {w w' : World} (h : R = (c, 0)) (hi : ItmsAt w' u c.items) (hb : Below w.heap.size w w') : MakePost R w (.returned (.tuple #[.agg (cdrA c u), i 0])) w' := by
  subst h
  exact ⟨_, rfl, hi, hb⟩
theorem retM {W : World} {tmps : Array Value} {B : Nat} {c : CDR} {A : Option Addr} {n k : Nat} {E : Int} (h1 : tmps.getD 14 undef = .pointer (some ⟨B, 0, none⟩)) (h2 : tmps.getD 15 undef = i E) (hk : Blk W B 24 (cdrA c (.slice A n k))) :
    (results Tryz.f31 tmps).run Tryz.prog W = .ok (.tuple #[.agg (cdrA c (.slice A n k)), i E]) W := by
  obtain ⟨c0, c1, c2, c3, c4, c5, c6, c7, c8, c9, c10, c11, c12, c13⟩ := cdr_cells hk
  rw [Array.getD_eq_getD_getElem?] at h1 h2
  simp [results, Tryz.f31, go_sem, h1, h2, c0, c1, c2, c3, c4, c5, c6, c7, c8, c9, c10, c11, c12, c13]

end Cdr
end Go.Proofs.YtpmcdjpfolgpiaaGreatDoor
