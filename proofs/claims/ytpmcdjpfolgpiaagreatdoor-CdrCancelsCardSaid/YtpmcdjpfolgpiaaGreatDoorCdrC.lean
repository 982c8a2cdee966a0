/-
  What is made of a session: the charges are of the machine's size; the walk of cdr.bill.
-/
import Derived.Test.YtpmcdjpfolgpiaaGreatDoorCdrP
import Derived.Test.YtpmcdjpfolgpiaaGreatDoorUsgU
import Derived.Test.YtpmcdjpfolgpiaaGreatDoorTaxF
import Derived.Test.YtpmcdjpfolgpiaaGreatDoorPriI
namespace Go.Proofs.YtpmcdjpfolgpiaaGreatDoor
namespace Cdr
set_option linter.unusedSimpArgs false
set_option linter.unusedVariables false
open Go.RowKit MonW TarW Usg Prc PriW

theorem roundK_bd {k M : Int} {st : Prc.St} (h : ∀ a b, st.q a b ≤ M) (hl : ∀ (k : Int) (j : Nat) (s : Int), st.last k = some (j, s) → s ≤ 1099511627776) : (∀ a b, (roundK k st).q a b ≤ M + 1099511627776) ∧ (roundK k st).last = st.last := by
  unfold roundK
  split
  · exact ⟨fun a b => by have := h a b; omega, rfl⟩
  · rename_i j s hs
    split
    · exact ⟨fun a b => by have := h a b; omega, rfl⟩
    · refine ⟨fun a b => ?_, rfl⟩
      have h1 := hl _ _ _ hs
      have h2 := h a b
      simp only
      split
      · unfold up
        split
        · omega
        · have := Int.emod_nonneg (st.q a b) (show s ≠ 0 by omega)
          omega
      · omega
theorem chgOf_ok {e : Elem} {x k : Int} {q : Int → Int → Int} {M : Int} (hM : M ≤ 4611686018427387904) (hq : ∀ a b, q a b ≤ M) (hk : 1 ≤ k ∧ k ≤ 4) (hc : ∀ k c, e.cs.find? (isK k) = some c → compOk c = true) : ∀ y ∈ chgOf e x q k, y.ok := by
  intro y hy
  unfold chgOf at hy
  split at hy
  · cases hy
  · split at hy
    · rename_i c hf
      obtain rfl : y = _ := by simpa using hy
      have h1 := hc _ _ hf
      unfold compOk at h1
      have h2 := of_decide_eq_true h1
      have h3 := hq x k
      unfold Chg.ok I64
      simp only
      omega
    · cases hy
theorem chgs_ok {q : Int → Int → Int} {M : Int} (hM : M ≤ 4611686018427387904) (hq : ∀ a b, q a b ≤ M) : ∀ (es : List Elem) (o : Nat), (∀ e ∈ es, ∀ k c, e.cs.find? (isK k) = some c → compOk c = true) → ∀ y ∈ chgs q es o, y.ok
  | [], _, _, y, hy => by cases hy
  | e :: es, o, hc, y, hy => by
    unfold chgs chgsE at hy
    have h1 := hc e (by simp)
    rcases List.mem_append.1 hy with hy | hy
    · rcases List.mem_append.1 hy with hy | hy
      · exact chgOf_ok hM hq (by omega) h1 y hy
      rcases List.mem_append.1 hy with hy | hy
      · exact chgOf_ok hM hq (by omega) h1 y hy
      rcases List.mem_append.1 hy with hy | hy
      · exact chgOf_ok hM hq (by omega) h1 y hy
      · exact chgOf_ok hM hq (by omega) h1 y hy
    · exact chgs_ok hM hq es (o + 1) (fun e he => hc e (by simp [he])) y hy
theorem runV_ok (t : Trf) (c : Cx) (us : List Prc.Use) : ∀ y ∈ runV t c us, y.ok := by
  unfold runV
  by_cases h0 : runE t c us = 0
  · rw [if_pos h0]
    unfold runE at h0
    by_cases hv : validT t ≠ 0
    · rw [if_pos hv] at h0; exact absurd h0 hv
    rw [if_neg hv] at h0
    by_cases h1 : c.z < -840 ∨ 840 < c.z
    · rw [if_pos h1] at h0; cases h0
    rw [if_neg h1] at h0
    by_cases h2 : 20160 < us.length
    · rw [if_pos h2] at h0; cases h0
    rw [if_neg h2] at h0
    by_cases h3 : c.start < 0 ∨ 268435456 < c.start ∨ 268435456 < c.start + us.length
    · rw [if_pos h3] at h0; cases h0
    rw [if_neg h3] at h0
    by_cases h4 : us.any useBad
    · rw [if_pos h4] at h0; cases h0
    have hu := any_uses (us := us) (by simpa using h4)
    obtain ⟨p1, p2⟩ := valid_parts (by omega : validT t = 0)
    have hI := runTo_inv t.els c us hu us.length (Nat.le_refl _)
    have hl := round_l hI p2 (by omega)
    have a1 := roundK_bd (k := 2) hI.high (fun k j s h => (hl k j s h).2)
    have a2 := roundK_bd (k := 3) a1.1 (fun k j s h => (hl k j s (by rw [a1.2] at h; exact h)).2)
    have a3 := roundK_bd (k := 4) a2.1 (fun k j s h => (hl k j s (by rw [a2.2, a1.2] at h; exact h)).2)
    refine chgs_ok (M := 1 + us.length * 1099511627777 + 1099511627776 + 1099511627776 + 1099511627776) (by omega) a3.1 t.els 0 (fun e he k c hc => ?_)
    obtain ⟨j, hj, rfl⟩ := List.getElem_of_mem he
    exact (p2 j hj k c hc).2
  · rw [if_neg h0]; intro y hy; cases hy
theorem chgs_at {w : World} {v : Value} {cs : List Chg} (h : Chgs0At w v cs) (hk : ∀ y ∈ cs, y.ok) : ChgsAt w v cs := by
  obtain ⟨A, c, rfl, h1, h2, h3, h4⟩ := h
  refine ⟨A, c, rfl, h1, h2, h3, fun j x hx => ?_⟩
  obtain ⟨b, off, r, e1, e2, e3, e4⟩ := h4 j x hx
  exact ⟨b, off, r, e1, e2, ⟨e3, hk x (List.mem_of_getElem? hx)⟩, e4⟩

/-- What a session is billed: the items, the gross amount, the error. -/
def billR (r : Rec) (t : Trf) (z : Int) (s : Bool) (m : Int) : List Itm × Int × Int :=
  if minE r.rds m ≠ 0 then ([], 0, minE r.rds m)
  else if runE t ⟨z, s, r.start⟩ (useV r.rds m) ≠ 0 then ([], 0, runE t ⟨z, s, r.start⟩ (useV r.rds m))
  else if allE (chgsOf r t z s m) ≠ 0 then ([], 0, allE (chgsOf r t z s m))
  else if (adj (allV (chgsOf r t z s m)) t.least t.most).2 ≠ 0 then ([], 0, (adj (allV (chgsOf r t z s m)) t.least t.most).2)
  else if totOk (adj (allV (chgsOf r t z s m)) t.least t.most).1 = false then ([], 0, 20)
  else ((adj (allV (chgsOf r t z s m)) t.least t.most).1, sGross (adj (allV (chgsOf r t z s m)) t.least t.most).1, 0)
structure BillR (r : Rec) (t : Trf) (z : Int) (s : Bool) (m : Int) (R : List Itm × Int × Int) : Prop where
  a : minE r.rds m ≠ 0 → R = ([], 0, minE r.rds m)
  b : minE r.rds m = 0 → runE t ⟨z, s, r.start⟩ (useV r.rds m) ≠ 0 → R = ([], 0, runE t ⟨z, s, r.start⟩ (useV r.rds m))
  c : minE r.rds m = 0 → runE t ⟨z, s, r.start⟩ (useV r.rds m) = 0 → allE (chgsOf r t z s m) ≠ 0 → R = ([], 0, allE (chgsOf r t z s m))
  d : minE r.rds m = 0 → runE t ⟨z, s, r.start⟩ (useV r.rds m) = 0 → allE (chgsOf r t z s m) = 0 → (adj (allV (chgsOf r t z s m)) t.least t.most).2 ≠ 0 → R = ([], 0, (adj (allV (chgsOf r t z s m)) t.least t.most).2)
  e : minE r.rds m = 0 → runE t ⟨z, s, r.start⟩ (useV r.rds m) = 0 → allE (chgsOf r t z s m) = 0 → (adj (allV (chgsOf r t z s m)) t.least t.most).2 = 0 → totOk (adj (allV (chgsOf r t z s m)) t.least t.most).1 = false → R = ([], 0, 20)
  f : minE r.rds m = 0 → runE t ⟨z, s, r.start⟩ (useV r.rds m) = 0 → allE (chgsOf r t z s m) = 0 → (adj (allV (chgsOf r t z s m)) t.least t.most).2 = 0 → totOk (adj (allV (chgsOf r t z s m)) t.least t.most).1 = true → R = ((adj (allV (chgsOf r t z s m)) t.least t.most).1, sGross (adj (allV (chgsOf r t z s m)) t.least t.most).1, 0)
theorem billR_re (r : Rec) (t : Trf) (z : Int) (s : Bool) (m : Int) : BillR r t z s m (billR r t z s m) := by
  constructor
  all_goals intros
  all_goals unfold billR
  all_goals simp_all
def BillPost (R : List Itm × Int × Int) (w : World) (e : Ending) (w' : World) : Prop := ∃ v, e = .returned (.tuple #[v, i R.2.1, i R.2.2]) ∧ ItmsAt w' v R.1 ∧ Below w.heap.size w w'
theorem BillPost.no {R : List Itm × Int × Int} {w w' : World} {n : Int} (h : R = ([], 0, n)) (hb : Below w.heap.size w w') : BillPost R w (.returned (.tuple #[.slice none 0 0, i 0, i n])) w' := by
  subst h
  exact ⟨_, rfl, SliceAt.nil, hb⟩
theorem all_len (cs : List Chg) : (allV cs).length ≤ 64 := by
  unfold allV
  by_cases h : allE cs = 0
  · rw [if_pos h, List.length_map]
    unfold allE at h
    by_cases h1 : 64 < cs.length
    · rw [if_pos h1] at h; cases h
    · omega
  · rw [if_neg h]; simp
theorem adj_len (cs : List Itm) (least most : Int) : (adj cs least most).1.length ≤ cs.length + 1 := by
  unfold adj
  split
  · exact Nat.le_succ _
  split
  · exact Nat.le_succ _
  split
  · exact Nat.le_succ _
  split
  · exact Nat.le_succ _
  split
  · exact Nat.le_succ _
  split
  · simp
  · exact Nat.le_succ _

abbrev recA (r : Rec) (u : Value) : Array Value := #[.string r.sta, .string r.txn, i r.conn, .string r.tok, i r.start, i r.stop, u, i r.en, i r.reason, .bool r.off, .bool r.den]
end Cdr
end Go.Proofs.YtpmcdjpfolgpiaaGreatDoor
