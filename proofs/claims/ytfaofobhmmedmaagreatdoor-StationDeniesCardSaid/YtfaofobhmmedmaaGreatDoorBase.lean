/-
  Words for memory (after the guide's extra-words, extra-small): a block known whole, kept over draws, new blocks, stores elsewhere and calls that only make memory; the row's last step behind 'Below'.
  The row's last step for a law: it returns true, and has only made memory: so each argument reads as it did. For arguments of any type.
  Opening a struct of five one-cell fields by value (after the guide's extra-structs).
  Slices in memory that read as lists: each element is a row of cells. Kept over calls that only make memory; opened from a reading.
  A slice that the call itself grows: rows of cells that read as a list; one element more by append.
  A slice that the call itself has made: one element overwritten, cell by cell.
  A region that draws its order and whose operations make memory: each operation is shown once, whatever order is drawn. Each yields a value of which a fact holds that later operations keep; the operations of the tail wait for all of the head.
  A region that draws its order and whose operations make memory: each operation is shown once, whatever order is drawn. Each yields a value of which a fact holds that later operations keep; the operations of the tail wait for all of the head.
  (As Reg3, for regions with edges that do not bind.) A region that draws its order and whose operations make memory: each operation is shown once, whatever order is drawn. Each yields a value of which a fact holds that later operations keep; the operations of the tail wait for all of the head.
-/
import Derived.Below
import Derived.Laws.OwnMore
import Derived.Deep.Draws
import Derived.Laws.Rows
import Derived.ChangeSame
import Derived.Lib.Hide
import Derived.Carry
import Derived.ProofKit
import Derived.OpenShut
import Derived.Lib.SmallJoins
import Derived.Laws.Cells
import Derived.Deep.Slices
import Derived.Deep.Fields
import Derived.OwnWalk
import Derived.WalkKit
import Derived.Maps.AppendAt
import Derived.StillTail
namespace Go.Proofs.YtfaofobhmmedmaaGreatDoor
open Go.RowKit Go.WideShapes Go.ChangeShapes

def Blk (w : World) (g : Nat) (t : TypeId) (cs : Array Value) : Prop := w.heap[g]? = some (.cells cs t (0, 0))

section
variable {w w' : World} {g : Nat} {t : TypeId} {cs : Array Value}
theorem Blk.lt (h : Blk w g t cs) : g < w.heap.size := by
  rcases Nat.lt_or_ge g w.heap.size with hlt | hge
  · exact hlt
  · unfold Blk at h; rw [Array.getElem?_eq_none hge] at h; cases h
theorem Blk.cell (h : Blk w g t cs) (i : Nat) : w.cell? ⟨g, i, none⟩ = cs[i]? := cell_of_row w g i cs t (0, 0) h
theorem Blk.frozen (h : Blk w g t cs) (i : Nat) : w.frozen? ⟨g, i, none⟩ = false := by
  unfold Blk at h
  simp [World.frozen?, h]
theorem Blk.new (w : World) (t : TypeId) (cs : Array Value) : Blk (w.alloc (.cells cs t)) w.heap.size t cs := heap_alloc_new w _
theorem Blk.drewN (h : Blk w g t cs) (n : Nat) : Blk (w.drewN n) g t cs := h
theorem Blk.drew (h : Blk w g t cs) : Blk w.drew g t cs := h
theorem Blk.alloc (h : Blk w g t cs) (o : Obj) : Blk (w.alloc o) g t cs := (Below.heap_alloc w o g h.lt).trans h
theorem Blk.set_ (h : Blk w g t cs) (i : Nat) (u : Value) : Blk (w.setCell ⟨g, i, none⟩ u) g t (cs.setIfInBounds i u) := by
  unfold Blk at h ⊢
  simp [World.setCell, Array.getElem?_modify, h]
theorem Blk.far (h : Blk w g t cs) {p : Addr} (hp : g ≠ p.block) (u : Value) : Blk (w.setCell p u) g t cs := (Below.heap_setCell w p u g hp).trans h
theorem Blk.below {B : Nat} (h : Blk w g t cs) (hb : Below B w w') (hg : g < B) : Blk w' g t cs := (hb.block g hg).trans h
theorem Blk.call (h : Blk w g t cs) (hb : Below w.heap.size w w') : Blk w' g t cs := h.below hb h.lt
end

theorem below_drewN' {B : Nat} {a w : World} (h : Below B a w) (n : Nat) : Below B a (w.drewN n) := ⟨h.os, h.tape, h.output, h.size, h.block⟩
theorem below_new (w : World) (o : Obj) : Below w.heap.size w (w.alloc o) := (Below.refl _ _).alloc (Nat.le_refl _) _
theorem below_alloc {a w : World} (h : Below a.heap.size a w) (o : Obj) : Below a.heap.size a (w.alloc o) := h.alloc h.size _
theorem below_call {a w w' : World} (h : Below a.heap.size a w) (hb : Below w.heap.size w w') : Below a.heap.size a w' := h.trans (hb.mono h.size)

section
variable {H : Type} {enc : TypeId × Value → H} {P : Program}
theorem post_of_below {f : Func} {s : ChangeSpec} {apart fresh handsOn again : Bool} {W W' : World} {args : Array Value} {v : Value} {ds gs : List (DataW H)} {before pa pv : List MemPlace}
    (hW : DataW.Whole enc P f.params.toList s.vars apart W args.toList ds gs before)
    (hres : ∀ (b : Nat) (sp : Nat → Bool) (hd : Bool), DataW.TrodAll enc P W' b sp hd f.resultTypes.toList (v.resultList f.resultTypes.size) (s.fn H (ds ++ gs)).results [])
    (hargs : ∀ sp : Nat → Bool, (∀ p ∈ before, sp p.block = true) → DataW.TrodAll enc P W' 0 sp true f.params.toList args.toList (s.fn H (ds ++ gs)).args pa)
    (hvars : ∀ sp : Nat → Bool, (∀ p ∈ before, sp p.block = true) → DataW.TrodVars enc P W' sp s.vars (s.fn H (ds ++ gs)).vars pv)
    (hps : before = pa ++ pv) (hb : Below W.heap.size W W')
    (hok : ∀ (j : Nat) (t : TypeId) (r : Value), f.resultTypes[j]? = some t → (v.resultList f.resultTypes.size)[j]? = some r → Value.okWide P W' .any 0 t r) :
    s.post enc P f apart fresh handsOn again W args v W' := by
  have hlt : ∀ p ∈ before, p.block < W.heap.size := fun p hp => hW.lt p hp
  have hold : ∀ p ∈ before, (fun b => decide (b < W.heap.size)) p.block = true := fun p hp => by simpa using hlt p hp
  refine ⟨ds, gs, before, [], pa, pv, hW, hres _ _ _, hargs _ hold, hvars _ hold, World.keptBut_mono (fun p hp => ⟨hp, ?_⟩) (hb.frame (· ∈ before)), fun _ => ?_⟩
  · rw [hps, List.mem_append] at hp
    exact Or.inr hp
  · obtain ⟨_, _, _, _, _, hz, hn⟩ := hW
    refine ⟨hok, _, _, ([] ++ pa) ++ pv, ⟨[] ++ pa, pv, trodAll_append (hargs _ (fun _ _ => rfl)) (hres _ _ _), hvars _ (fun _ _ => rfl), rfl, ?_, ?_⟩, ?_⟩
    · intro b off hp
      have hin : MemPlace.cell b off ∈ before := by rw [hps]; simpa using hp
      rw [hb.frozen (hlt _ hin)]
      exact hz b off hin
    · intro ha
      have := hn ha
      rw [hps] at this
      simpa using this
    · intro p hp _
      rw [hps]
      simpa using hp
end
end Go.Proofs.YtfaofobhmmedmaaGreatDoor

namespace Go.Proofs.YtfaofobhmmedmaaGreatDoor
open Go.RowKit Go.WideShapes Go.ChangeShapes

section
variable {H : Type} {enc : TypeId × Value → H} {P : Program}

theorem trodAll_stays (hl : laidOutB P = true) {W W' : World} (hb : Below W.heap.size W W') {sp : Nat → Bool} :
    ∀ {ts : List TypeId} {vs : List Value} {ds : List (DataW H)} {p : List MemPlace}, (∀ t ∈ ts, P.readableRec t = true ∧ t < P.types.size) → DataW.TrodAll enc P W 0 (fun _ => true) true ts vs ds p →
      (∀ x ∈ p, x.block < W.heap.size) → (∀ x ∈ p, sp x.block = true) → DataW.TrodAll enc P W' 0 sp true ts vs ds p
  | [], _, _, _, _, h, _, _ => by
    obtain ⟨rfl, rfl, rfl⟩ := trodAll_nil h
    exact h
  | t :: ts, _, _, _, hr, h, hlt, hsp => by
    obtain ⟨v, vs1, d, ds1, a, b, rfl, rfl, rfl, h1, h2⟩ := trodAll_cons h
    have ht := hr t (by simp)
    exact ⟨a, b, WideElems.Trod_stays hl ht.1 ht.2 h1 (fun x hx => hb.same (hlt x (by simp [hx]))) (fun x hx => hsp x (by simp [hx])),
      trodAll_stays hl hb (fun t ht => hr t (by simp [ht])) h2 (fun x hx => hlt x (by simp [hx])) (fun x hx => hsp x (by simp [hx])), rfl⟩

theorem law_post {f : Func} {s : ChangeSpec} {apart fresh handsOn again : Bool} {W W' : World} {args : Array Value} {ds gs : List (DataW H)} {before : List MemPlace} {tb : TypeId}
    (hl : laidOutB P = true) (hr : f.params.toList.all (fun t => P.readableRec t && decide (t < P.types.size)) = true) (hv : s.vars = []) (hfn : s.fn H ds = { results := [.lit (.bool true)], args := ds })
    (hrt : f.resultTypes = #[tb]) (htb : P.underlying tb = some .bool)
    (hW : DataW.Whole enc P f.params.toList s.vars apart W args.toList ds gs before) (hb : Below W.heap.size W W') :
    s.post enc P f apart fresh handsOn again W args (.bool true) W' := by
  have hW' := hW
  have hlt : ∀ p ∈ before, p.block < W.heap.size := fun p hp => hW.lt p hp
  obtain ⟨p, q, hA, hV, rfl, hfz, hnd⟩ := hW
  rw [hv] at hV
  obtain ⟨rfl, rfl⟩ := trodVars_none hV
  simp only [List.append_nil] at hlt
  have hr' : ∀ t ∈ f.params.toList, P.readableRec t = true ∧ t < P.types.size := by
    intro t ht
    have := List.all_eq_true.1 hr t ht
    simpa using this
  refine post_of_below (pa := p) (pv := []) hW' (fun _ _ _ => ?_) (fun sp hsp => ?_) (fun _ _ => ?_) rfl hb ?_
  · rw [List.append_nil, hfn, hrt]
    exact trodAll_cons_mk (shut_bool htb _) trodAll_mk0
  · rw [List.append_nil, hfn]
    exact trodAll_stays hl hb hr' hA hlt (fun x hx => hsp x (by simp [hx]))
  · rw [hv, List.append_nil, hfn]
    rfl
  · exact ok_one hrt rfl (okWide_bool_mk htb _)
end
end Go.Proofs.YtfaofobhmmedmaaGreatDoor

namespace Go.Proofs.YtfaofobhmmedmaaGreatDoor
open Go.Joins Go.ChangeShapes Go.WideShapes Go.RowKit Go.Deep
section
variable {H : Type} {enc : TypeId × Value → H} {P : Program} {w : World} {base : Nat} {spare : Nat → Bool} {held : Bool}
end
end Go.Proofs.YtfaofobhmmedmaaGreatDoor

namespace Go.Proofs.YtfaofobhmmedmaaGreatDoor
set_option linter.unusedVariables false
open Go.RowKit Go.ChangeShapes Go.WideShapes Go.Deep

/-- All that was there is there. -/
def Kept (w w' : World) : Prop := ∀ p u, w.cell? p = some u → w'.cell? p = some u
theorem Kept.refl (w : World) : Kept w w := fun _ _ h => h
theorem Kept.trans {a b c : World} (h : Kept a b) (k : Kept b c) : Kept a c := fun p u hp => k p u (h p u hp)
theorem Kept.of {w w' : World} (h : Below w.heap.size w w') : Kept w w' := fun p u hp => (h.cell (World.block_lt_of_cell? w p hp)).trans hp

/-- A slice value reads as xs: element j's cells are a row that R ties to xs[j]. -/
def SliceAt {α : Type} (R : List Value → α → Prop) (size : Nat) (w : World) (v : Value) (xs : List α) : Prop :=
  ∃ (A : Option Addr) (c : Nat), v = .slice A xs.length c ∧ xs.length ≤ c ∧ c ≤ maxLen ∧ (A = none → c = 0) ∧
    ∀ j x, xs[j]? = some x → ∃ (b off : Nat) (r : List Value), A = some ⟨b, off, none⟩ ∧ r.length = size ∧ R r x ∧ ∀ o u, r[o]? = some u → w.cell? ⟨b, off + j * size + o, none⟩ = some u

section
variable {α : Type} {R R' : List Value → α → Prop} {size : Nat} {w w' : World} {v : Value} {xs : List α}

theorem SliceAt.keep (h : SliceAt R size w v xs) (hk : Kept w w') (hR : ∀ r x, R r x → R' r x) : SliceAt R' size w' v xs := by
  obtain ⟨A, c, e, h1, h2, h0, h3⟩ := h
  refine ⟨A, c, e, h1, h2, h0, fun j x hx => ?_⟩
  obtain ⟨b, off, r, hA, hr, hR0, hc⟩ := h3 j x hx
  exact ⟨b, off, r, hA, hr, hR _ _ hR0, fun o u hu => hk _ _ (hc o u hu)⟩

theorem SliceAt.form (h : SliceAt R size w v xs) : ∃ (A : Option Addr) (c : Nat), v = .slice A xs.length c ∧ xs.length ≤ c ∧ c ≤ maxLen := by
  obtain ⟨A, c, e, h1, h2, _⟩ := h
  exact ⟨A, c, e, h1, h2⟩

theorem SliceAt.form' (h : SliceAt R size w v xs) : ∃ (A : Option Addr) (c : Nat), v = .slice A xs.length c ∧ xs.length ≤ c ∧ c ≤ maxLen ∧ (A = none → c = 0) := by
  obtain ⟨A, c, e, h1, h2, h0, _⟩ := h
  exact ⟨A, c, e, h1, h2, h0⟩

/-- Element j: where it lies, its row. -/
theorem SliceAt.at_ {A : Option Addr} {n c : Nat} (h : SliceAt R size w (.slice A n c) xs) {j : Nat} (hj : j < xs.length) :
    ∃ (b off : Nat) (r : List Value), A = some ⟨b, off, none⟩ ∧ r.length = size ∧ R r xs[j] ∧ ∀ o u, r[o]? = some u → w.cell? ⟨b, off + j * size + o, none⟩ = some u := by
  obtain ⟨A', c', e, h1, h2, h0, h3⟩ := h
  injection e with eA en ec
  subst eA
  exact h3 j xs[j] (List.getElem?_eq_getElem hj)

theorem SliceAt.len {A : Option Addr} {n c : Nat} (h : SliceAt R size w (.slice A n c) xs) : n = xs.length ∧ n ≤ c ∧ c ≤ maxLen := by
  obtain ⟨A', c', e, h1, h2, _⟩ := h
  injection e with eA en ec
  subst en; subst ec
  exact ⟨rfl, h1, h2⟩

theorem SliceAt.nil : SliceAt R size w (.slice none 0 0) ([] : List α) := ⟨none, 0, rfl, Nat.le_refl _, by unfold maxLen; omega, fun _ => rfl, fun j x h => by simp at h⟩
end

/-- Rows that R ties to xs. -/
def RowsOf {α : Type} (R : List Value → α → Prop) (size : Nat) (rs : List (List Value)) (xs : List α) : Prop :=
  rs.length = xs.length ∧ ∀ (j : Nat) (r : List Value) (x : α), rs[j]? = some r → xs[j]? = some x → r.length = size ∧ R r x

theorem RowsOf.each {α : Type} {R : List Value → α → Prop} {size : Nat} {rs : List (List Value)} {xs : List α} (h : RowsOf R size rs xs) : ∀ r ∈ rs, r.length = size := by
  intro r hr
  obtain ⟨j, hj, rfl⟩ := List.getElem_of_mem hr
  exact (h.2 j rs[j] (xs[j]'(by rw [← h.1]; exact hj)) (List.getElem?_eq_getElem hj) (List.getElem?_eq_getElem _)).1

theorem flat_len {size : Nat} : ∀ (rs : List (List Value)), (∀ r ∈ rs, r.length = size) → rs.flatten.length = rs.length * size
  | [], _ => by simp
  | r :: rs, h => by
    rw [List.flatten_cons, List.length_append, flat_len rs (fun x hx => h x (by simp [hx])), h r (by simp), List.length_cons, Nat.add_mul, Nat.one_mul, Nat.add_comm]
theorem flat_get {size : Nat} : ∀ (rs : List (List Value)), (∀ r ∈ rs, r.length = size) → ∀ j o, o < size → rs.flatten[j * size + o]? = (rs[j]?).bind (fun r => r[o]?)
  | [], _, j, o, _ => by simp
  | r :: rs, h, 0, o, ho => by
    rw [List.flatten_cons, List.getElem?_append_left (by rw [h r (by simp)]; omega)]
    simp
  | r :: rs, h, j + 1, o, ho => by
    have hr := h r (by simp)
    rw [List.flatten_cons, List.getElem?_append_right (by rw [hr, Nat.add_mul]; omega), hr, show (j + 1) * size + o - size = j * size + o by rw [Nat.add_mul]; omega,
      flat_get rs (fun x hx => h x (by simp [hx])) j o ho]
    simp
theorem flat_set {size : Nat} (u : Value) : ∀ (rs : List (List Value)), (∀ r ∈ rs, r.length = size) → ∀ j o, o < size → ∀ r, rs[j]? = some r → rs.flatten.set (j * size + o) u = (rs.set j (r.set o u)).flatten
  | [], _, j, o, _, r, hr => by simp at hr
  | r0 :: rs, h, 0, o, ho, r, hr => by
    have e : r0 = r := by simpa using hr
    subst e
    rw [List.flatten_cons, List.set_cons_zero, List.flatten_cons, List.set_append, if_pos (by rw [h r0 (by simp)]; omega)]
    simp
  | r0 :: rs, h, j + 1, o, ho, r, hr => by
    have h0 := h r0 (by simp)
    rw [List.flatten_cons, List.set_cons_succ, List.flatten_cons, List.set_append, if_neg (by rw [h0, Nat.add_mul]; omega), h0, show (j + 1) * size + o - size = j * size + o by rw [Nat.add_mul]; omega,
      flat_set u rs (fun x hx => h x (by simp [hx])) j o ho r (by simpa using hr)]

section
variable {α : Type} {R : List Value → α → Prop} {size : Nat} {w : World} {v : Value} {xs : List α}

/-- The rows of a slice. -/
theorem SliceAt.rows {A : Option Addr} {n c : Nat} (hs : 0 < size) (h : SliceAt R size w (.slice A n c) xs) :
    ∃ rs, RowsOf R size rs xs ∧ ∀ ad, A = some ad → ∀ j u, rs.flatten[j]? = some u → w.cell? (ad.add j) = some u := by
  obtain ⟨A', c', e, h1, h2, h0, h3⟩ := h
  injection e with eA en ec
  subst eA
  have hz : ∀ m, m ≤ xs.length → ∃ rs : List (List Value), rs.length = m ∧ ∀ (j : Nat) (r : List Value) (x : α), rs[j]? = some r → xs[j]? = some x → r.length = size ∧ R r x ∧ ∃ b off, A = some ⟨b, off, none⟩ ∧ ∀ o u, r[o]? = some u → w.cell? ⟨b, off + j * size + o, none⟩ = some u := by
    intro m
    induction m with
    | zero => exact fun _ => ⟨[], rfl, fun j r x h => by simp at h⟩
    | succ k ih =>
      intro hk
      obtain ⟨rs, hl, hx⟩ := ih (by omega)
      obtain ⟨b, off, r, hA, hr, hR, hc⟩ := h3 k xs[k] (List.getElem?_eq_getElem (by omega))
      refine ⟨rs ++ [r], by simp [hl], fun j r' x hj hxj => ?_⟩
      by_cases hjk : j < k
      · rw [List.getElem?_append_left (by omega)] at hj
        exact hx j r' x hj hxj
      · rw [List.getElem?_append_right (by omega)] at hj
        have h0' : j - rs.length = 0 := by
          rcases Nat.eq_zero_or_pos (j - rs.length) with h0 | h0
          · exact h0
          · rw [List.getElem?_eq_none (by simp; omega)] at hj; cases hj
        rw [h0'] at hj
        have e1 : r = r' := by simpa using hj
        have e2 : j = k := by omega
        subst e1; subst e2
        have e3 : xs[j] = x := by rw [List.getElem?_eq_getElem (by omega)] at hxj; simpa using hxj
        subst e3
        exact ⟨hr, hR, b, off, hA, hc⟩
  obtain ⟨rs, hl, hx⟩ := hz xs.length (Nat.le_refl _)
  have hrow : RowsOf R size rs xs := ⟨hl, fun j r x hr hxj => ⟨(hx j r x hr hxj).1, (hx j r x hr hxj).2.1⟩⟩
  refine ⟨rs, hrow, fun ad hA q u hu => ?_⟩
  have hq : q = q / size * size + q % size := by rw [Nat.mul_comm]; exact (Nat.div_add_mod q size).symm
  rw [hq, flat_get rs hrow.each (q / size) (q % size) (Nat.mod_lt _ hs)] at hu
  cases hr : rs[q / size]? with
  | none => rw [hr] at hu; cases hu
  | some r =>
    rw [hr] at hu
    have hjl : q / size < xs.length := by rw [← hl]; exact (List.getElem?_eq_some_iff.1 hr).1
    obtain ⟨_, _, b, off, hA', hc⟩ := hx (q / size) r xs[q / size] hr (List.getElem?_eq_getElem hjl)
    rw [hA] at hA'
    injection hA' with e1
    subst e1
    have := hc (q % size) u hu
    rw [Nat.add_assoc, ← hq] at this
    rw [Addr.add_lit]
    exact this

/-- A row that the call owns, read as a slice. -/
theorem SliceAt.of_own {base : Nat} {e : TypeId} {n : Nat} {rs : List (List Value)} (hs : 0 < size) (h : w.ownsRow base e size v n rs.flatten) (hr : RowsOf R size rs xs) (hn : n = xs.length) : SliceAt R size w v xs := by
  subst hn
  rcases h.2 with ⟨rfl, h0⟩ | ⟨g, cap, cur, rfl, hb, hg, hnc, hcm, hcs, ht⟩
  · have : xs = [] := List.eq_nil_of_length_eq_zero h0
    subst this
    exact SliceAt.nil
  · refine ⟨some ⟨g, 0, none⟩, cap, rfl, hnc, hcm, (fun h => by cases h), fun j x hx => ?_⟩
    have hj : j < rs.length := by rw [hr.1]; exact (List.getElem?_eq_some_iff.1 hx).1
    obtain ⟨hl, hR⟩ := hr.2 j rs[j] x (List.getElem?_eq_getElem hj) hx
    refine ⟨g, 0, rs[j], rfl, hl, hR, fun o u hu => ?_⟩
    have ho : o < size := by rw [← hl]; exact (List.getElem?_eq_some_iff.1 hu).1
    have := h.cells (g := g) rfl (j * size + o) u (by rw [flat_get rs hr.each j o ho, List.getElem?_eq_getElem hj]; exact hu)
    rw [Addr.add_lit] at this
    simpa [Nat.add_assoc] using this
end

section
variable {H : Type} {enc : TypeId × Value → H} {P : Program} {w : World} {base : Nat} {spare : Nat → Bool} {held : Bool}

/-- One field of a struct that is read. -/
theorem trod_field {t : TypeId} {fs : Array Field} {fuel : Nat} {cs : List Value} {x : DataW H × List MemPlace} (ht : P.underlying t = some (.struct fs)) (h : DataW.trod enc P w base spare held fuel t cs = some x)
    (j : Nat) (f : Field) (hf : fs[j]? = some f) : ∃ m y, DataW.trod enc P w base spare held m f.type ((cs.drop f.offset).take (P.cellsOf f.type)) = some y := by
  obtain ⟨xs, n, _, _, _, hlen, hg⟩ := DataW.trod_struct ht h
  have hj : j < fs.size := (Array.getElem?_eq_some_iff.1 hf).1
  exact ⟨n, xs[j]'(by omega), (hg j f hf).trans (List.getElem?_eq_getElem (by omega))⟩
theorem trod_fieldT {t : TypeId} {fs : Array Field} {fuel : Nat} {cs : List Value} {x : DataW H × List MemPlace} (ht : P.underlying t = some (.struct fs)) (h : DataW.trod enc P w base spare held fuel t cs = some x)
    (j : Nat) (f : Field) (hf : fs[j]? = some f) (tf : TypeId) (o k : Nat) (h1 : f.type = tf) (h2 : f.offset = o) (h3 : P.cellsOf tf = k) : ∃ m y, DataW.trod enc P w base spare held m tf ((cs.drop o).take k) = some y := by
  obtain ⟨m, y, hy⟩ := trod_field ht h j f hf
  rw [h2, h1, h3] at hy
  exact ⟨m, y, hy⟩
theorem trod_len {t : TypeId} {fs : Array Field} {fuel : Nat} {cs : List Value} {x : DataW H × List MemPlace} (ht : P.underlying t = some (.struct fs)) (h : DataW.trod enc P w base spare held fuel t cs = some x) : cs.length = P.cellsOf t := by
  obtain ⟨xs, n, _, _, hl, _⟩ := DataW.trod_struct ht h
  exact hl

/-- A slice that is read: each element by its own opening. -/
theorem open_sliceAt {α : Type} {R : List Value → α → Prop} {t e : TypeId} {size fuel : Nat} {cs : List Value} {x : DataW H × List MemPlace} (ht : P.underlying t = some (.slice e)) (hsz : P.cellsOf e = size) (hpos : 0 < size)
    (hR : ∀ n cs y, DataW.trod enc P w base spare held n e cs = some y → ∃ z : α, R cs z)
    (h : DataW.trod enc P w base spare held fuel t cs = some x) : ∃ (v : Value) (xs : List α), cs = [v] ∧ SliceAt R size w v xs := by
  rcases open_slice ht h with ⟨rfl, _⟩ | ⟨a, len, cap, m, n, D, Pl, rfl, hb, hl, hm, hmm, hx, hi⟩
  · exact ⟨_, [], rfl, SliceAt.nil⟩
  · have hlm : len ≤ m := by rw [hmm]; split <;> omega
    have hz : ∀ i, i < len → ∃ z : α × List Value, R z.2 z.1 ∧ z.2.length = size ∧ w.cells? base (a.add (i * size)) size = some z.2 := fun i hil => by
      obtain ⟨cs', hc, ht'⟩ := hi i (by omega)
      obtain ⟨z, hz⟩ := hR _ _ _ ht'
      rw [hsz] at hc
      obtain ⟨_, hcl, _⟩ := World.cells?_some hc
      exact ⟨(z, cs'), hz, hcl, hc⟩
    obtain ⟨xs, hxl, hxs⟩ : ∃ xs : List (α × List Value), xs.length = len ∧ ∀ i z, xs[i]? = some z → R z.2 z.1 ∧ z.2.length = size ∧ w.cells? base (a.add (i * size)) size = some z.2 := by
      clear hi hx hmm hlm hl h
      induction len with
      | zero => exact ⟨[], rfl, fun i z h => by simp at h⟩
      | succ k ih =>
        obtain ⟨xs, hl, hx⟩ := ih (fun i h => hz i (by omega))
        obtain ⟨z, hz1⟩ := hz k (by omega)
        refine ⟨xs ++ [z], by simp [hl], fun i y hy => ?_⟩
        by_cases hik : i < k
        · rw [List.getElem?_append_left (by omega)] at hy
          exact hx i y hy
        · rw [List.getElem?_append_right (by omega)] at hy
          have : i - xs.length = 0 := by
            rcases Nat.eq_zero_or_pos (i - xs.length) with h0 | h0
            · exact h0
            · rw [List.getElem?_eq_none (by simp; omega)] at hy; cases hy
          rw [this] at hy
          have e : z = y := by simpa using hy
          have : i = k := by omega
          subst e; subst this
          exact hz1
    refine ⟨_, xs.map (·.1), rfl, some a, cap, by rw [List.length_map, hxl], by rw [List.length_map, hxl]; exact hl, hm, (fun h => by cases h), fun j x hj => ?_⟩
    have hjl : j < xs.length := by
      rcases Nat.lt_or_ge j xs.length with h0 | h0
      · exact h0
      · rw [List.getElem?_eq_none (by simpa using h0)] at hj; cases hj
    obtain ⟨y, hy, rfl⟩ : ∃ y, xs[j]? = some y ∧ y.1 = x := by
      rw [List.getElem?_map] at hj
      cases hh : xs[j]? with
      | none => rw [hh] at hj; cases hj
      | some y => rw [hh] at hj; exact ⟨y, rfl, by simpa using hj⟩
    obtain ⟨r1, r2, r3⟩ := hxs j y hy
    obtain ⟨b, off, sp⟩ := a
    have hsp : sp = none := by
      obtain ⟨z0, hz0⟩ := hz 0 (by omega)
      obtain ⟨_, hl0, hc0⟩ := World.cells?_some hz0.2.2
      have := hc0 0 hpos
      rw [List.getElem?_eq_getElem (by omega)] at this
      have := World.cell?_spot this
      simpa [Addr.add] using this
    subst hsp
    refine ⟨b, off, y.2, rfl, r2, r1, fun o u hu => ?_⟩
    obtain ⟨_, hl0, hc0⟩ := World.cells?_some r3
    have ho : o < size := by
      rcases Nat.lt_or_ge o size with h0 | h0
      · exact h0
      · rw [List.getElem?_eq_none (by omega)] at hu; cases hu
    have := hc0 o ho
    rw [hu, Addr.add_lit, Addr.add_lit] at this
    exact this
end
end Go.Proofs.YtfaofobhmmedmaaGreatDoor

namespace Go.Proofs.YtfaofobhmmedmaaGreatDoor
set_option linter.unusedVariables false
open Go.RowKit Go.ChangeShapes Go.WideShapes Go.Deep

theorem rows_nil {α : Type} {R : List Value → α → Prop} {size : Nat} : RowsOf R size [] [] := ⟨rfl, fun j r x h => by simp at h⟩
theorem rows_snoc' {α : Type} {R : List Value → α → Prop} {size : Nat} {r : List Value} {x : α} {rs : List (List Value)} {xs : List α} (hr : RowsOf R size rs xs) (hl : r.length = size) (h : R r x) : RowsOf R size (rs ++ [r]) (xs ++ [x]) := by
  refine ⟨by simp [hr.1], fun j r' x' h1 h2 => ?_⟩
  by_cases hj : j < rs.length
  · rw [List.getElem?_append_left hj] at h1
    rw [List.getElem?_append_left (by rw [← hr.1]; exact hj)] at h2
    exact hr.2 j r' x' h1 h2
  · rw [List.getElem?_append_right (by omega)] at h1
    rw [List.getElem?_append_right (by rw [← hr.1]; omega), ← hr.1] at h2
    have h0 : j - rs.length = 0 := by
      rcases Nat.eq_zero_or_pos (j - rs.length) with h0 | h0
      · exact h0
      · rw [List.getElem?_eq_none (by simp; omega)] at h1; cases h1
    rw [h0] at h1 h2
    have e1 : r = r' := by simpa using h1
    have e2 : x = x' := by simpa using h2
    subst e1; subst e2
    exact ⟨hl, h⟩
theorem rows_append {α : Type} {R : List Value → α → Prop} {size : Nat} {rs qs : List (List Value)} {xs ys : List α} (hr : RowsOf R size rs xs) (hq : RowsOf R size qs ys) : RowsOf R size (rs ++ qs) (xs ++ ys) := by
  refine ⟨by simp [hr.1, hq.1], fun j r' x' h1 h2 => ?_⟩
  by_cases hj : j < rs.length
  · rw [List.getElem?_append_left hj] at h1
    rw [List.getElem?_append_left (by rw [← hr.1]; exact hj)] at h2
    exact hr.2 j r' x' h1 h2
  · rw [List.getElem?_append_right (by omega)] at h1
    rw [List.getElem?_append_right (by rw [← hr.1]; omega), ← hr.1] at h2
    exact hq.2 _ r' x' h1 h2
theorem rows_one {α : Type} {R : List Value → α → Prop} {size : Nat} {rs : List (List Value)} {xs : List α} (h : RowsOf R size rs xs) (hR : ∀ r x, R r x → ∀ u ∈ r, u.oneCell' = true) : ∀ u ∈ rs.flatten, u.oneCell' = true := by
  intro u hu
  obtain ⟨r, hr, hur⟩ := List.mem_flatten.1 hu
  obtain ⟨j, hj, rfl⟩ := List.getElem_of_mem hr
  exact hR _ _ (h.2 j rs[j] (xs[j]'(by rw [← h.1]; exact hj)) (List.getElem?_eq_getElem hj) (List.getElem?_eq_getElem _)).2 u hur

/-- The value v is a row of the call's own (in a block from base on), which reads as xs. -/
def Own {α : Type} (R : List Value → α → Prop) (e : TypeId) (size base : Nat) (w : World) (v : Value) (xs : List α) : Prop :=
  ∃ rs, w.ownsRow base e size v xs.length rs.flatten ∧ RowsOf R size rs xs

theorem ownsRow_call {w w' : World} {base : Nat} {e : TypeId} {size : Nat} {v : Value} {n : Nat} {xs : List Value} (h : w.ownsRow base e size v n xs) (hb : Below w.heap.size w w') : w'.ownsRow base e size v n xs := by
  refine ⟨h.1, ?_⟩
  rcases h.2 with h0 | ⟨g, cap, cur, r1, r2, r3, r4⟩
  · exact .inl h0
  · exact .inr ⟨g, cap, cur, r1, r2, (hb.block g (Array.getElem?_eq_some_iff.1 r3).1).trans r3, r4⟩
theorem ownsRow_base {w : World} {base base' : Nat} {e : TypeId} {size : Nat} {v : Value} {n : Nat} {xs : List Value} (h : w.ownsRow base e size v n xs) (hk : base' ≤ base) : w.ownsRow base' e size v n xs := by
  refine ⟨h.1, ?_⟩
  rcases h.2 with h0 | ⟨g, cap, cur, r1, r2, r3, r4⟩
  · exact .inl h0
  · exact .inr ⟨g, cap, cur, r1, by omega, r3, r4⟩

section
variable {α : Type} {R : List Value → α → Prop} {e : TypeId} {size base : Nat} {w w' : World} {v : Value} {xs : List α}
theorem Own.nil : Own R e size base w (.slice none 0 0) ([] : List α) := ⟨[], World.ownsRow_nil _ _ _ _, rows_nil⟩
theorem Own.made {n : Nat} (h : w.ownsRow base e size v 0 []) : Own R e size base w v ([] : List α) := ⟨[], h, rows_nil⟩
theorem Own.call (h : Own R e size base w v xs) (hb : Below w.heap.size w w') : Own R e size base w' v xs := by
  obtain ⟨rs, h1, h2⟩ := h
  exact ⟨rs, ownsRow_call h1 hb, h2⟩
theorem Own.lower {base' : Nat} (h : Own R e size base w v xs) (hk : base' ≤ base) : Own R e size base' w v xs := by
  obtain ⟨rs, h1, h2⟩ := h
  exact ⟨rs, ownsRow_base h1 hk, h2⟩
theorem Own.at_ (h : Own R e size base w v xs) (hs : 0 < size) : SliceAt R size w v xs := by
  obtain ⟨rs, h1, h2⟩ := h
  exact SliceAt.of_own hs h1 h2 rfl
theorem Own.row (h : Own R e size base w v xs) : ∀ k, v.ownBlock = some k → base ≤ k ∧ k < w.heap.size := by
  obtain ⟨rs, h1, h2⟩ := h
  exact h1.lt

theorem blk_cells {g : Nat} {t : TypeId} {cs : Array Value} (h : Blk w g t cs) : ∀ j u, cs.toList[j]? = some u → w.cell? ((⟨g, 0, none⟩ : Addr).add j) = some u := by
  intro j u hu
  rw [Addr.add_lit, Nat.zero_add, h.cell j]
  simpa using hu

/-- A slice value. -/
def IsSl (v : Value) : Prop := ∃ A n c, v = .slice A n c

/-- 'v = append(v, y)', y laid in a block of its own. -/
theorem wpList_grow {P : Program} {ops : Array Oper} {rest : List Oper} {o : Oper} {a : Act} {Q : Exit → Act → World → Prop} (hgd : o.guard = none) (s x : Operand) (t : TypeId)
    (ho : o.op = .call { callee := .builtin .append, args := #[s, x], argTypes := #[t, t] })
    (i : TypeInfo) (z : Value) (bytes : Nat) (ht : P.underlying t = some (.slice e)) (hi : P.info? e = some i) (hz : i.zero = some z)
    (hsize : i.size = size) (hby : i.bytes = bytes) (hzs : z.cells.size = size) (hsz : 0 < size)
    (hs : a.eval s = v) (hown : Own R e size base w v xs) (g : Nat) (y : α) (r : Array Value) (tt : TypeId) (hx : a.eval x = .slice (some ⟨g, 0, none⟩) 1 1)
    (hblk : Blk w g tt r) (hl : r.size = size) (hR : R r.toList y) (h1 : ∀ u ∈ r.toList, u.oneCell' = true) (hn : xs.length ≤ 16777216) (hb8 : bytes ≤ 4096) (hbase : base ≤ w.heap.size)
    (h : ∀ v' w', Own R e size base w' v' (xs ++ [y]) → w.grownBy w' v.ownBlock → Below base w w' → IsSl v' → wpList P ops Q rest (a.put o.dst v') w') : wpList P ops Q (o :: rest) a w := by
  obtain ⟨rs, k1, k2⟩ := hown
  refine wpList_append_own w hgd s x t ho base e i z size bytes ht hi hz hsize hby hzs hsz v xs.length rs.flatten hs k1 ⟨g, 0, none⟩ 1 1 r.toList hx (by simpa using hl) (blk_cells hblk) h1 (by unfold maxLen; omega) ?_ hbase ?_
  · exact Nat.le_trans (Nat.mul_le_mul (show xs.length + 1 ≤ 16777217 by omega) hb8) (by decide)
  · intro v' w' ho hg _
    refine h v' w' ⟨rs ++ [r.toList], ?_, rows_snoc' k2 (by simpa using hl) hR⟩ hg ((Below.refl _ _).grown hg hbase (fun k hk => (k1.lt k hk).1)) ?_
    · simpa using ho
    · rcases ho.2 with ⟨h0, _⟩ | ⟨g', cap, cur, h0, _⟩
      · exact ⟨_, _, _, h0⟩
      · exact ⟨_, _, _, h0⟩

/-- The same, with the block in which the new row lies. -/
theorem wpList_growAt {P : Program} {ops : Array Oper} {rest : List Oper} {o : Oper} {a : Act} {Q : Exit → Act → World → Prop} (hgd : o.guard = none) (s x : Operand) (t : TypeId)
    (ho : o.op = .call { callee := .builtin .append, args := #[s, x], argTypes := #[t, t] })
    (i : TypeInfo) (z : Value) (bytes : Nat) (ht : P.underlying t = some (.slice e)) (hi : P.info? e = some i) (hz : i.zero = some z)
    (hsize : i.size = size) (hby : i.bytes = bytes) (hzs : z.cells.size = size) (hsz : 0 < size)
    (hs : a.eval s = v) (hown : Own R e size base w v xs) (g : Nat) (y : α) (r : Array Value) (tt : TypeId) (hx : a.eval x = .slice (some ⟨g, 0, none⟩) 1 1)
    (hblk : Blk w g tt r) (hl : r.size = size) (hR : R r.toList y) (h1 : ∀ u ∈ r.toList, u.oneCell' = true) (hn : xs.length ≤ 16777216) (hb8 : bytes ≤ 4096) (hbase : base ≤ w.heap.size)
    (h : ∀ v' w', Own R e size base w' v' (xs ++ [y]) → w.grownBy w' v.ownBlock → Below base w w' → IsSl v' → (v'.ownBlock = v.ownBlock ∨ v'.ownBlock = some w.heap.size) → wpList P ops Q rest (a.put o.dst v') w') : wpList P ops Q (o :: rest) a w := by
  obtain ⟨rs, k1, k2⟩ := hown
  refine wpList_append_own_at w hgd s x t ho base e i z size bytes ht hi hz hsize hby hzs hsz v xs.length rs.flatten hs k1 ⟨g, 0, none⟩ 1 1 r.toList hx (by simpa using hl) (blk_cells hblk) h1 (by unfold maxLen; omega) ?_ hbase ?_
  · exact Nat.le_trans (Nat.mul_le_mul (show xs.length + 1 ≤ 16777217 by omega) hb8) (by decide)
  · intro v' w' ho hg _ hat
    refine h v' w' ⟨rs ++ [r.toList], ?_, rows_snoc' k2 (by simpa using hl) hR⟩ hg ((Below.refl _ _).grown hg hbase (fun k hk => (k1.lt k hk).1)) ?_ hat
    · simpa using ho
    · rcases ho.2 with ⟨h0, _⟩ | ⟨g', cap, cur, h0, _⟩
      · exact ⟨_, _, _, h0⟩
      · exact ⟨_, _, _, h0⟩

/-- Two rows that lie apart. -/
def ApartB (v v' : Value) : Prop := ∀ k, v.ownBlock = some k → v'.ownBlock ≠ some k
theorem ApartB.symm {v v' : Value} (h : ApartB v v') : ApartB v' v := fun k hk e => h k e hk
theorem ApartB.nil {v : Value} : ApartB (.slice none 0 0) v := fun k hk => by simp [Value.ownBlock] at hk
/-- A row is kept while another one grows. -/
theorem Own.grow {v2 : Value} (h : Own R e size base w v xs) (hg : w.grownBy w' v2.ownBlock) (ha : ApartB v v2) : Own R e size base w' v xs := by
  obtain ⟨rs, h1, h2⟩ := h
  refine ⟨rs, h1.kept hg ?_, h2⟩
  cases hv : v.ownBlock with
  | none => exact .inl rfl
  | some k => exact .inr (fun e => ha k hv e.symm)
theorem ApartB.next {v2 v2' : Value} (h : Own R e size base w v xs) (ha : ApartB v v2) (hat : v2'.ownBlock = v2.ownBlock ∨ v2'.ownBlock = some w.heap.size) : ApartB v v2' := by
  intro k hk e
  rcases hat with h1 | h1
  · exact ha k hk (h1 ▸ e)
  · have := (h.row k hk).2
    rw [h1] at e
    injection e with e
    omega
end
end Go.Proofs.YtfaofobhmmedmaaGreatDoor

namespace Go.Proofs.YtfaofobhmmedmaaGreatDoor
set_option linter.unusedVariables false
open Go.RowKit Go.ChangeShapes Go.WideShapes Go.Deep

def putCells (w : World) (g p : Nat) : List Value → World
  | [] => w
  | u :: us => putCells (w.setCell ⟨g, p, none⟩ u) g (p + 1) us
def splice (r : List Value) (o : Nat) : List Value → List Value
  | [] => r
  | u :: us => splice (r.set o u) (o + 1) us
theorem splice_eq : ∀ (us r : List Value) (o : Nat), o + us.length ≤ r.length → splice r o us = r.take o ++ us ++ r.drop (o + us.length)
  | [], r, o, h => by simp [splice]
  | u :: us, r, o, h => by
    rw [List.length_cons] at h
    rw [splice, splice_eq us (r.set o u) (o + 1) (by rw [List.length_set]; omega)]
    rw [List.take_succ_eq_append_getElem (by rw [List.length_set]; omega), List.take_set_of_le (by omega), List.getElem_set_self, List.drop_set_of_lt (by omega)]
    simp [Nat.add_comm, Nat.add_left_comm]
theorem splice_all (us r : List Value) (h : us.length = r.length) : splice r 0 us = us := by
  rw [splice_eq us r 0 (by omega)]
  simp [h]
theorem grownBy_trans {a b c : World} {row : Option Nat} (h : a.grownBy b row) (k : b.grownBy c row) : a.grownBy c row :=
  ⟨k.os.trans h.os, k.tape.trans h.tape, k.output.trans h.output, Nat.le_trans h.size k.size, fun q hq hn => (k.block q (Nat.lt_of_lt_of_le hq h.size) hn).trans (h.block q hq hn)⟩

section
variable {base : Nat} {e : TypeId} {size g n cap : Nat}
theorem own_put {j : Nat} : ∀ (us : List Value) (w : World) (rs : List (List Value)) (r : List Value) (o : Nat), w.ownsRow base e size (.slice (some ⟨g, 0, none⟩) n cap) n rs.flatten → (∀ r ∈ rs, r.length = size) → rs[j]? = some r → o + us.length ≤ size →
    (putCells w g (j * size + o) us).ownsRow base e size (.slice (some ⟨g, 0, none⟩) n cap) n (rs.set j (splice r o us)).flatten ∧ w.grownBy (putCells w g (j * size + o) us) (some g)
  | [], w, rs, r, o, h, he, hr, hl => by
    refine ⟨?_, World.grownBy.refl w _⟩
    rw [splice, putCells]
    have : rs.set j r = rs := by
      apply List.ext_getElem?
      intro k
      rw [List.getElem?_set]
      split
      · subst_vars; split
        · exact hr.symm
        · rename_i hk; rw [List.getElem?_eq_none (by omega)] at hr; cases hr
      · rfl
    rw [this]
    exact h
  | u :: us, w, rs, r, o, h, he, hr, hl => by
    rw [List.length_cons] at hl
    have hj : j < rs.length := (List.getElem?_eq_some_iff.1 hr).1
    have hrl : r.length = size := he r (List.mem_of_getElem? hr)
    have hs := h.stored (j * size + o) u
    rw [flat_set u rs he j o (by omega) r hr] at hs
    have hih := own_put us (w.setCell ⟨g, j * size + o, none⟩ u) (rs.set j (r.set o u)) (r.set o u) (o + 1) hs.1
      (fun x hx => by
        rcases List.mem_or_eq_of_mem_set hx with hx | hx
        · exact he x hx
        · rw [hx, List.length_set]; exact hrl)
      (by rw [List.getElem?_set_self hj]) (by omega)
    rw [List.set_set] at hih
    exact ⟨hih.1, grownBy_trans hs.2 hih.2⟩

variable {α : Type} {R : List Value → α → Prop}
theorem rows_set {rs : List (List Value)} {xs : List α} {j : Nat} {r : List Value} {x : α} (h : RowsOf R size rs xs) (hl : r.length = size) (hR : R r x) : RowsOf R size (rs.set j r) (xs.set j x) := by
  refine ⟨by simp [h.1], fun k r' x' h1 h2 => ?_⟩
  rw [List.getElem?_set] at h1 h2
  split at h1
  · rename_i e
    subst e
    split at h1
    · rename_i hk
      rw [if_pos rfl, if_pos (by rw [← h.1]; exact hk)] at h2
      have e1 : r = r' := by simpa using h1
      have e2 : x = x' := by simpa using h2
      subst e1; subst e2
      exact ⟨hl, hR⟩
    · cases h1
  · rename_i e
    rw [if_neg e] at h2
    exact h.2 k r' x' h1 h2
/-- Element j overwritten. -/
theorem Own.put {w : World} {xs : List α} {us : List Value} {x : α} {j : Nat} (h : Own R e size base w (.slice (some ⟨g, 0, none⟩) n cap) xs) (hn : n = xs.length) (hj : j < xs.length) (hl : us.length = size) (hR : R us x) :
    Own R e size base (putCells w g (j * size) us) (.slice (some ⟨g, 0, none⟩) n cap) (xs.set j x) ∧ w.grownBy (putCells w g (j * size) us) (some g) := by
  subst hn
  obtain ⟨rs, h1, h2⟩ := h
  have hjr : j < rs.length := by rw [h2.1]; exact hj
  have hp := own_put us w rs rs[j] 0 h1 h2.each (List.getElem?_eq_getElem hjr) (by omega)
  rw [splice_all us rs[j] (by rw [hl]; exact (h2.each _ (List.getElem_mem hjr)).symm), Nat.add_zero] at hp
  refine ⟨⟨rs.set j us, ?_, rows_set h2 hl hR⟩, hp.2⟩
  rw [List.length_set]
  exact hp.1
/-- Where element j lies: its cells are there and may be written. -/
theorem Own.there {w : World} {xs : List α} {j o : Nat} (h : Own R e size base w (.slice (some ⟨g, 0, none⟩) n cap) xs) (hn : n = xs.length) (hj : j < xs.length) (ho : o < size) :
    (∃ u, w.cell? ⟨g, j * size + o, none⟩ = some u) ∧ w.frozen? ⟨g, j * size + o, none⟩ = false := by
  subst hn
  obtain ⟨rs, h1, h2⟩ := h
  have hlt : j * size + o < xs.length * size := by
    have : (j + 1) * size ≤ xs.length * size := Nat.mul_le_mul_right _ hj
    rw [Nat.add_mul] at this
    omega
  refine ⟨?_, h1.frozenAt _⟩
  rw [h1.cellAt _ hlt]
  have : j * size + o < rs.flatten.length := by rw [h1.1]; exact hlt
  exact ⟨_, List.getElem?_eq_getElem this⟩
theorem own_made {w : World} {z : Value} {x : α} {v : Value} (hs : 0 < size) (hz : z.cells.size = size) (hR : R z.cells.toList x) (h : w.ownsRow base e size v n (madeCells z.cells (n * size)).toList) : Own R e size base w v (List.replicate n x) := by
  have hf : (madeCells z.cells (n * size)).toList = (List.replicate n z.cells.toList).flatten := by
    have hlen : (List.replicate n z.cells.toList).flatten.length = n * size := by rw [flat_len (size := size) _ (fun r hr => by rw [(List.mem_replicate.1 hr).2]; simpa using hz)]; simp
    apply List.ext_getElem?
    intro q
    by_cases hq : q < n * size
    · have e1 : q = q / size * size + q % size := by rw [Nat.mul_comm]; exact (Nat.div_add_mod q size).symm
      have hm := Nat.mod_lt q hs
      have hd : q / size < n := (Nat.div_lt_iff_lt_mul hs).2 hq
      have : (List.replicate n z.cells.toList).flatten[q]? = z.cells.toList[q % size]? := by
        rw [e1, flat_get (size := size) _ (fun r hr => by rw [(List.mem_replicate.1 hr).2]; simpa using hz) (q / size) (q % size) hm, List.getElem?_replicate, if_pos hd]
        rw [← e1]
        rfl
      rw [this]
      simp [madeCells, hq, hz]
      rw [Array.getElem?_eq_getElem (by omega), getElem!_pos z.cells (q % size) (by omega)]
    · have l2 : (madeCells z.cells (n * size)).toList.length = n * size := by rw [Array.length_toList, size_madeCells]
      rw [List.getElem?_eq_none (by omega), List.getElem?_eq_none (by omega)]
  refine ⟨List.replicate n z.cells.toList, ?_, ?_⟩
  · rw [List.length_replicate, ← hf]; exact h
  · refine ⟨by simp, fun j r y h1 h2 => ?_⟩
    have e1 := (List.mem_replicate.1 (List.mem_of_getElem? h1)).2
    have e2 := (List.mem_replicate.1 (List.mem_of_getElem? h2)).2
    subst e1; subst e2
    exact ⟨by simpa using hz, hR⟩
end
end Go.Proofs.YtfaofobhmmedmaaGreatDoor

namespace Go.Proofs.YtfaofobhmmedmaaGreatDoor
namespace Reg4
set_option linter.unusedVariables false
open Go.RowKit

def dstOf (ops : Array Oper) (k : Nat) : Option Tmp := (ops[k]?).bind (·.dst)
def idxOf (ops : Array Oper) (m : Nat) (d : Tmp) : Option Nat := (List.range m).find? (fun k => dstOf ops k == some d)
def waits (o : Oper) (k : Nat) : Bool := o.after.any (fun e => Region.binds .any e && e.on == k)
def opB (ops : Array Oper) (m i : Nat) : Bool := match ops[i]? with
  | some o => o.guard.isNone && o.after.all (fun e => !Region.binds .any e || decide (e.on < i)) &&
      o.op.operands.all (fun x => match x with | .tmp d => (List.range m).all (fun k => dstOf ops k != some d || waits o k) | _ => true) &&
      (List.range m).all (fun k => k == i || dstOf ops i == none || dstOf ops k != dstOf ops i)
  | none => false
def reaches (ops : Array Oper) : Nat → Nat → Nat → Bool
  | 0, _, _ => false
  | f + 1, i, k => match ops[i]? with
    | some o => waits o k || o.after.any (fun e => Region.binds .any e && reaches ops f e.on k)
    | none => false
def tailB (ops : Array Oper) (m i : Nat) : Bool := (List.range m).all (fun k => reaches ops ops.size i k)
def marks (m n : Nat) : Array Bool := Array.replicate m true ++ Array.replicate (n - m) false
def headB (ops : Array Oper) (m : Nat) : Bool :=
  decide (m ≤ ops.size) && (List.range m).all (opB ops m) && (List.range ops.size).all (fun i => decide (i < m) || tailB ops m i) && Region.seqB .any ops (ops.size - m) m (marks m ops.size)

def puts (ops : Array Oper) (vals : Nat → Value) (L : Nat → Bool) : List Nat → Act → Act
  | [], a => a
  | k :: ks, a => puts ops vals L ks (if L k then a.put (dstOf ops k) (vals k) else a)

theorem puts_put {ops : Array Oper} {vals : Nat → Value} {L : Nat → Bool} {x : Option Tmp} {v : Value} : ∀ (ks : List Nat) (a : Act), (∀ k ∈ ks, ∀ d, x = some d → dstOf ops k ≠ some d) → puts ops vals L ks (a.put x v) = (puts ops vals L ks a).put x v
  | [], _, _ => rfl
  | k :: ks, a, h => by
    unfold puts
    split
    · rw [Act.put_comm a v (vals k) (h k (by simp))]
      exact puts_put ks _ (fun j hj => h j (by simp [hj]))
    · exact puts_put ks _ (fun j hj => h j (by simp [hj]))
theorem puts_congr {ops : Array Oper} {vals vals' : Nat → Value} {L L' : Nat → Bool} : ∀ (ks : List Nat) (a : Act), (∀ k ∈ ks, L k = L' k ∧ vals k = vals' k) → puts ops vals L ks a = puts ops vals' L' ks a
  | [], _, _ => rfl
  | k :: ks, a, h => by
    unfold puts
    rw [(h k (by simp)).1, (h k (by simp)).2]
    exact puts_congr ks _ (fun j hj => h j (by simp [hj]))
theorem puts_ins {ops : Array Oper} {vals : Nat → Value} {L : Nat → Bool} {i : Nat} {v : Value} : ∀ (ks : List Nat) (a : Act), ks.Nodup → i ∈ ks → L i = false → (∀ k ∈ ks, k ≠ i → ∀ d, dstOf ops i = some d → dstOf ops k ≠ some d) →
    puts ops (fun k => if k = i then v else vals k) (fun k => L k || k == i) ks a = (puts ops vals L ks a).put (dstOf ops i) v
  | [], _, _, h, _, _ => by simp at h
  | k :: ks, a, hn, hm, hL, hd => by
    have hn' := List.nodup_cons.1 hn
    unfold puts
    by_cases e : k = i
    · subst e
      simp only [hL, beq_self_eq_true, Bool.or_true, if_true, Bool.false_eq_true, if_false]
      rw [← puts_put ks a (fun j hj d h1 => hd j (by simp [hj]) (fun e => hn'.1 (e ▸ hj)) d h1)]
      refine puts_congr ks _ (fun j hj => ?_)
      have hne : j ≠ k := fun e => hn'.1 (e ▸ hj)
      simp [hne]
    · have hm' : i ∈ ks := by
        rcases List.mem_cons.1 hm with h | h
        · exact absurd h.symm e
        · exact h
      have he : (k == i) = false := by simpa using e
      simp only [he, Bool.or_false, if_neg e]
      exact puts_ins ks _ hn'.2 hm' hL (fun j hj => hd j (by simp [hj]))
theorem put_size (a : Act) (x : Option Tmp) (v : Value) : (a.put x v).tmps.size = a.tmps.size := by cases x <;> simp [Act.put]
theorem puts_size {ops : Array Oper} {vals : Nat → Value} {L : Nat → Bool} : ∀ (ks : List Nat) (a : Act), (puts ops vals L ks a).tmps.size = a.tmps.size
  | [], _ => rfl
  | k :: ks, a => by
    unfold puts
    rw [puts_size ks]
    split
    · exact put_size _ _ _
    · rfl
theorem put_other (a : Act) (x : Option Tmp) (v : Value) (d : Tmp) (h : x ≠ some d) : (a.put x v).tmps.getD d undef = a.tmps.getD d undef := by
  cases x with
  | none => rfl
  | some c =>
    have : c ≠ d := fun e => h (by rw [e])
    simp [Act.put, Array.getD_eq_getD_getElem?, this]
theorem put_same (a : Act) (v : Value) (d : Tmp) (h : d < a.tmps.size) : (a.put (some d) v).tmps.getD d undef = v := by
  simp [Act.put, Array.getD_eq_getD_getElem?, h]
theorem puts_none {ops : Array Oper} {vals : Nat → Value} {L : Nat → Bool} {d : Tmp} : ∀ (ks : List Nat) (a : Act), (∀ k ∈ ks, dstOf ops k ≠ some d) → (puts ops vals L ks a).tmps.getD d undef = a.tmps.getD d undef
  | [], _, _ => rfl
  | k :: ks, a, h => by
    unfold puts
    rw [puts_none ks _ (fun j hj => h j (by simp [hj]))]
    split
    · exact put_other _ _ _ _ (h k (by simp))
    · rfl
theorem puts_at {ops : Array Oper} {vals : Nat → Value} {L : Nat → Bool} {d : Tmp} {i : Nat} (hi : dstOf ops i = some d) (hL : L i = true) : ∀ (ks : List Nat) (a : Act), ks.Nodup → i ∈ ks → d < a.tmps.size → (∀ k ∈ ks, k ≠ i → dstOf ops k ≠ some d) →
    (puts ops vals L ks a).tmps.getD d undef = vals i
  | [], _, _, h, _, _ => by simp at h
  | k :: ks, a, hn, hm, hs, hd => by
    have hn' := List.nodup_cons.1 hn
    unfold puts
    by_cases e : k = i
    · subst e
      rw [hL, if_pos rfl, puts_none ks _ (fun j hj => hd j (by simp [hj]) (fun e => hn'.1 (e ▸ hj))), hi]
      exact put_same _ _ _ hs
    · have hm' : i ∈ ks := by
        rcases List.mem_cons.1 hm with h | h
        · exact absurd h.symm e
        · exact h
      refine puts_at hi hL ks _ hn'.2 hm' ?_ (fun j hj => hd j (by simp [hj]))
      split
      · rw [put_size]; exact hs
      · exact hs

def StepOk (P : Program) (R : Value → World → Prop) : Result Next → Prop
  | .ok (.value v) w' => R v w'
  | .ok .skip w' => R undef w'
  | .ok (.enter f args) w' => Calls P f args w' fun e w'' => ∃ v, e = .returned v ∧ R v w''
  | _ => False
def TmpOk (ops : Array Oper) (m : Nat) (a0 : Act) (Φ : Nat → Value → World → Prop) (w : World) (d : Tmp) (v : Value) : Prop := match idxOf ops m d with
  | some k => Φ k v w
  | none => v = a0.tmps.getD d undef

section
variable {P : Program} {ops : Array Oper} {Q : Exit → Act → World → Prop} {m : Nat} {a0 : Act} {G : World → Prop} {Φ : Nat → Value → World → Prop}

def left (m : Nat) (listed : Array Bool) : Nat := ((List.range m).filter (fun k => !listed.getD k false)).length

theorem getD_set (listed : Array Bool) (i k : Nat) (b : Bool) (hi : i < listed.size) : (listed.setIfInBounds i true).getD k b = (if k = i then true else listed.getD k b) := by
  rw [Array.getD_eq_getD_getElem?, Array.getD_eq_getD_getElem?, Array.getElem?_setIfInBounds]
  by_cases e : k = i
  · subst e; simp [hi]
  · have : i ≠ k := fun h => e h.symm
    simp [e, this]
theorem getD_tf (listed : Array Bool) (i : Nat) (hi : i < listed.size) : listed.getD i true = listed.getD i false := by
  rw [Array.getD_eq_getD_getElem?, Array.getD_eq_getD_getElem?, Array.getElem?_eq_getElem hi]; rfl

theorem left_set {listed : Array Bool} {i : Nat} (hi : i < m) (his : i < listed.size) (hu : listed.getD i false = false) : left m (listed.setIfInBounds i true) + 1 = left m listed := by
  unfold left
  have key : ∀ (ks : List Nat), ks.Nodup → i ∈ ks → (ks.filter (fun k => !(listed.setIfInBounds i true).getD k false)).length + 1 = (ks.filter (fun k => !listed.getD k false)).length := by
    intro ks
    induction ks with
    | nil => intro _ h; simp at h
    | cons k ks ih =>
      intro hn hm
      have hn' := List.nodup_cons.1 hn
      by_cases e : k = i
      · subst e
        have h1 : (!(listed.setIfInBounds k true).getD k false) = false := by rw [getD_set _ _ _ _ his, if_pos rfl]; rfl
        have h2 : (!listed.getD k false) = true := by rw [hu]; rfl
        rw [List.filter_cons_of_neg (by rw [h1]; simp), List.filter_cons_of_pos (by rw [h2])]
        rw [List.length_cons]
        congr 2
        refine List.filter_congr (fun j hj => ?_)
        rw [getD_set _ _ _ _ his, if_neg (fun (e : j = k) => hn'.1 (e ▸ hj))]
      · have hm' : i ∈ ks := by
          rcases List.mem_cons.1 hm with h | h
          · exact absurd h.symm e
          · exact h
        have ih' := ih hn'.2 hm'
        have hk : (listed.setIfInBounds i true).getD k false = listed.getD k false := by rw [getD_set _ _ _ _ his, if_neg e]
        rw [List.filter_cons, List.filter_cons, hk]
        split
        · simp only [List.length_cons]; omega
        · exact ih'
  exact key (List.range m) List.nodup_range (List.mem_range.2 hi)

theorem reach_listed {listed : Array Bool} (down : ∀ (k : Nat) (o : Oper), ops[k]? = some o → listed.getD k false = true → ∀ e ∈ o.after, Region.binds .any e = true → listed.getD e.on false = true) :
    ∀ (f i : Nat) (o : Oper) (k : Nat), ops[i]? = some o → (∀ e ∈ o.after, Region.binds .any e = true → listed.getD e.on false = true) → reaches ops f i k = true → listed.getD k false = true
  | 0, _, _, _, _, _, h => by simp [reaches] at h
  | f + 1, i, o, k, ho, hd, h => by
    unfold reaches at h
    rw [ho] at h
    simp only [Bool.or_eq_true] at h
    rcases h with h | h
    · unfold waits at h
      rw [Array.any_eq_true'] at h
      obtain ⟨e, he, hb⟩ := h
      simp only [Bool.and_eq_true, beq_iff_eq] at hb
      have := hd e he hb.1
      rw [hb.2] at this
      exact this
    · rw [Array.any_eq_true'] at h
      obtain ⟨e, he, hb⟩ := h
      simp only [Bool.and_eq_true] at hb
      have hl := hd e he hb.1
      rcases ho' : ops[e.on]? with _ | o'
      · have := hb.2
        cases f with
        | zero => simp [reaches] at this
        | succ f => unfold reaches at this; rw [ho'] at this; simp at this
      · exact reach_listed down f e.on o' k ho' (down e.on o' ho' hl) hb.2

theorem in_of {n : Nat} (h : (List.range m).all (fun k => match dstOf ops k with | some d => decide (d < n) | none => true) = true) (hn : a0.tmps.size = n) : ∀ k d, k < m → dstOf ops k = some d → d < a0.tmps.size := by
  intro k d hk hd
  have := List.all_eq_true.1 h k (List.mem_range.2 hk)
  rw [hd] at this
  rw [hn]
  simpa using this
theorem StepOk.mono {R R' : Value → World → Prop} : ∀ {r : Result Next}, StepOk P R r → (∀ v w, R v w → R' v w) → StepOk P R' r := by
  intro r h hR
  cases r with
  | ok nx w =>
    cases nx
    all_goals simp only [StepOk] at h ⊢
    all_goals first | exact hR _ _ h | exact Calls.mono h fun e w' ⟨v, he, hv⟩ => ⟨v, he, hR _ _ hv⟩
  | halt x w => simp only [StepOk] at h
end
end Reg4
namespace Reg8
set_option linter.unusedVariables false
open Go.RowKit Reg4

section
variable {P : Program} {ops : Array Oper} {Q : Exit → Act → World → Prop} {m : Nat} {a0 : Act} {G : (Nat → Bool) → World → Prop} {Φ : (Nat → Bool) → Nat → Value → World → Prop}

structure Inv (ops : Array Oper) (m : Nat) (a0 : Act) (G : (Nat → Bool) → World → Prop) (Φ : (Nat → Bool) → Nat → Value → World → Prop) (vals : Nat → Value) (listed : Array Bool) (a : Act) (w : World) : Prop where
  size : listed.size = ops.size
  tail : ∀ i, m ≤ i → i < ops.size → listed.getD i true = false
  act : a = puts ops vals (fun k => listed.getD k false) (List.range m) a0
  g : G (fun k => listed.getD k false) w
  phi : ∀ k, k < m → listed.getD k false = true → Φ (fun k => listed.getD k false) k (vals k) w
  down : ∀ (k : Nat) (o : Oper), ops[k]? = some o → listed.getD k false = true → ∀ e ∈ o.after, Region.binds .any e = true → listed.getD e.on false = true

theorem main (hH : headB ops m = true) (hin : ∀ k d, k < m → dstOf ops k = some d → d < a0.tmps.size)
    (hstep : ∀ i o, i < m → ops[i]? = some o → ∀ (L : Nat → Bool) (a : Act) (w : World), L i = false → G L w → (∀ d, Operand.tmp d ∈ o.op.operands → TmpOk ops m a0 (Φ L) w d (a.tmps.getD d undef)) →
      StepOk P (fun v w' => G (fun k => if k = i then true else L k) w' ∧ Φ (fun k => if k = i then true else L k) i v w' ∧ ∀ k u, k < m → k ≠ i → L k = true → reaches ops ops.size k i = false → Φ L k u w → Φ (fun k => if k = i then true else L k) k u w') ((execOp a.eval o).run P w))
    (hfin : ∀ (L : Nat → Bool) (vals : Nat → Value) (w : World), (∀ k, k < m → L k = true) → G L w → (∀ k, k < m → Φ L k (vals k) w) → wpList P ops Q (ops.toList.drop m) (puts ops vals (fun _ => true) (List.range m) a0) w) :
    ∀ (c : Nat) (vals : Nat → Value) (listed : Array Bool) (a : Act) (w : World), Inv ops m a0 G Φ vals listed a w → left m listed = c → wpAny P .any ops Q (c + (ops.size - m)) listed a w := by
  simp only [headB, Bool.and_eq_true, decide_eq_true_eq, List.all_eq_true, List.mem_range, Bool.or_eq_true] at hH
  obtain ⟨⟨⟨hmn, hop⟩, htail⟩, hseq⟩ := hH
  have hopx : ∀ i o, i < m → ops[i]? = some o → o.guard = none ∧ (∀ e ∈ o.after, Region.binds .any e = true → e.on < i) ∧ (∀ d, Operand.tmp d ∈ o.op.operands → ∀ k, k < m → dstOf ops k = some d → waits o k = true) ∧ (∀ k, k < m → k ≠ i → ∀ d, dstOf ops i = some d → dstOf ops k ≠ some d) := by
    intro i o hi ho
    have h := hop i hi
    unfold opB at h
    rw [ho] at h
    simp only [Bool.and_eq_true, Option.isNone_iff_eq_none, Array.all_eq_true_iff_forall_mem, decide_eq_true_eq, List.all_eq_true, List.mem_range, Bool.or_eq_true, bne_iff_ne, beq_iff_eq] at h
    obtain ⟨⟨⟨h1, h2⟩, h3⟩, h4⟩ := h
    refine ⟨h1, fun e he hb => (h2 e he).resolve_left (by rw [hb]; decide), fun d hd k hk hkd => ?_, fun k hk hne d hd hkd => ?_⟩
    · have := h3 _ hd
      simp only [List.all_eq_true, List.mem_range, Bool.or_eq_true, bne_iff_ne] at this
      rcases this k hk with h | h
      · exact absurd hkd h
      · exact h
    · rcases h4 k hk with (h | h) | h
      · exact hne h
      · rw [h] at hd; cases hd
      · rw [hd, hkd] at h; exact h rfl
  intro c
  induction c with
  | zero =>
    intro vals listed a w inv hc
    have hall : ∀ k, k < m → listed.getD k false = true := by
      intro k hk
      unfold left at hc
      have := List.eq_nil_of_length_eq_zero hc
      have h2 := List.filter_eq_nil_iff.1 this k (List.mem_range.2 hk)
      simpa using h2
    have hl : listed = marks m ops.size := by
      refine Array.ext (by simp [marks, inv.size]; omega) (fun k h1 h2 => ?_)
      by_cases hk : k < m
      · have e1 := hall k hk
        rw [Array.getD_eq_getD_getElem?, Array.getElem?_eq_getElem h1] at e1
        have e2 : (marks m ops.size)[k] = true := by simp [marks, hk]
        rw [e2]; simpa using e1
      · have e1 := inv.tail k (by omega) (by rw [← inv.size]; exact h1)
        rw [Array.getD_eq_getD_getElem?, Array.getElem?_eq_getElem h1] at e1
        have e2 : (marks m ops.size)[k] = false := by simp [marks, Array.getElem_append, hk]
        rw [e2]; simpa using e1
    have ha : a = puts ops vals (fun _ => true) (List.range m) a0 := by
      rw [inv.act]
      exact puts_congr _ _ (fun k hk => ⟨hall k (List.mem_range.1 hk), rfl⟩)
    subst ha
    have hlen : (ops.toList.drop m).length = ops.size - m := by simp
    have := wpAny_of_seq (md := .any) (Q' := Q) (P := P) (ops := ops) (ops.toList.drop m) m listed _ w (fun j => by simp) (by rw [hlen, hl]; exact hseq) (hfin _ vals w hall inv.g (fun k hk => inv.phi k hk (hall k hk)))
    rw [hlen] at this
    rw [Nat.zero_add]
    exact this
  | succ c ih =>
    intro vals listed a w inv hc
    rw [show c + 1 + (ops.size - m) = (c + (ops.size - m)) + 1 by omega]
    have hex : ∃ i, i < m ∧ listed.getD i false = false := by
      unfold left at hc
      rcases hl : (List.range m).filter (fun k => !listed.getD k false) with _ | ⟨i, l⟩
      · rw [hl] at hc; simp at hc
      · have : i ∈ (List.range m).filter (fun k => !listed.getD k false) := by rw [hl]; simp
        rw [List.mem_filter, List.mem_range] at this
        exact ⟨i, this.1, by simpa using this.2⟩
    refine ⟨fun hr => ?_, fun i hi => ?_⟩
    · -- the least that has not come up may come up
      exfalso
      obtain ⟨i, ⟨hi, hu⟩, hmin⟩ : ∃ i, (i < m ∧ listed.getD i false = false) ∧ ∀ j, j < i → listed.getD j false = true := by
        obtain ⟨i, hi, hu⟩ := hex
        induction i using Nat.strongRecOn with
        | _ i ihs =>
          by_cases hb : ∃ j, j < i ∧ listed.getD j false = false
          · obtain ⟨j, hj, hju⟩ := hb
            exact ihs j hj (by omega) hju
          · exact ⟨i, ⟨hi, hu⟩, fun j hj => by
              cases hv : listed.getD j false with
              | true => rfl
              | false => exact absurd ⟨j, hj, hv⟩ hb⟩
      have ho : ∃ o, ops[i]? = some o := ⟨ops[i]'(by omega), Array.getElem?_eq_getElem _⟩
      obtain ⟨o, ho⟩ := ho
      have : i ∈ Region.ready .any ops listed := mem_ready.2 ⟨by rw [getD_tf _ _ (by rw [inv.size]; omega)]; exact hu, o, ho, fun e he hb => hmin _ ((hopx i o hi ho).2.1 e he hb)⟩
      rw [hr] at this
      cases this
    · obtain ⟨hu, o, ho, hed⟩ := mem_ready.1 hi
      have hin' : i < ops.size := (Array.getElem?_eq_some_iff.1 ho).1
      have his : i < listed.size := by rw [inv.size]; exact hin'
      have hu' : listed.getD i false = false := by rw [← getD_tf _ _ his]; exact hu
      have him : i < m := by
        rcases Nat.lt_or_ge i m with h | h
        · exact h
        · exfalso
          obtain ⟨k, hk, hku⟩ := hex
          have ht := htail i hin'
          rcases ht with ht | ht
          · omega
          · unfold tailB at ht
            simp only [List.all_eq_true, List.mem_range] at ht
            have := reach_listed inv.down _ i o k ho hed (ht k hk)
            rw [hku] at this
            cases this
      obtain ⟨g1, g2, g3, g4⟩ := hopx i o him ho
      have hstep' := hstep i o him ho _ a w hu' inv.g (fun d hx => by
        unfold TmpOk
        split
        · rename_i k hk
          unfold idxOf at hk
          have hkm : k < m := List.mem_range.1 (List.mem_of_find?_eq_some hk)
          have hkd : dstOf ops k = some d := by simpa using List.find?_some hk
          have hw := g3 d hx k hkm hkd
          unfold waits at hw
          rw [Array.any_eq_true'] at hw
          obtain ⟨e, he, hb⟩ := hw
          simp only [Bool.and_eq_true, beq_iff_eq] at hb
          have hlk := hed e he hb.1
          rw [hb.2] at hlk
          have : a.tmps.getD d undef = vals k := by
            rw [inv.act]
            refine puts_at hkd hlk (List.range m) a0 List.nodup_range (List.mem_range.2 hkm) (hin k d hkm hkd) (fun j hj hne hjd => ?_)
            have hj' : j < m := List.mem_range.1 hj
            have hoj : ∃ oj, ops[j]? = some oj := ⟨ops[j]'(by omega), Array.getElem?_eq_getElem _⟩
            obtain ⟨oj, hoj⟩ := hoj
            exact (hopx j oj hj' hoj).2.2.2 k hkm (fun e => hne e.symm) d hjd hkd
          rw [this]
          exact inv.phi k hkm hlk
        · rename_i hk
          unfold idxOf at hk
          have hno : ∀ k ∈ List.range m, dstOf ops k ≠ some d := fun k hk' => by
            have := List.find?_eq_none.1 hk k hk'
            simpa using this
          rw [inv.act]
          exact puts_none _ _ hno)
      have hGe : (fun k => (listed.setIfInBounds i true).getD k false) = (fun k => if k = i then true else listed.getD k false) := funext fun k => getD_set _ _ _ _ his
      have hK : ∀ (v : Value) (w' : World), (G (fun k => if k = i then true else listed.getD k false) w' ∧ Φ (fun k => if k = i then true else listed.getD k false) i v w' ∧ ∀ k u, k < m → k ≠ i → listed.getD k false = true → reaches ops ops.size k i = false → Φ (fun k => listed.getD k false) k u w → Φ (fun k => if k = i then true else listed.getD k false) k u w') → wpAny P .any ops Q (c + (ops.size - m)) (listed.setIfInBounds i true) (a.put o.dst v) w' := by
        rintro v w' ⟨hG, hΦ, hkeep⟩
        refine ih (fun k => if k = i then v else vals k) _ _ _ ⟨by simp [inv.size], fun j hj hjn => ?_, ?_, by rw [hGe]; exact hG, fun k hk hlk => ?_, fun k ok hok hlk e he hbe => ?_⟩ ?_
        · rw [getD_set _ _ _ _ his, if_neg (by omega)]
          exact inv.tail j hj hjn
        · have hdst : o.dst = dstOf ops i := by unfold dstOf; rw [ho]; rfl
          rw [hdst, inv.act, ← puts_ins (List.range m) a0 List.nodup_range (List.mem_range.2 him) hu' (fun k hk hne d h1 => g4 k (List.mem_range.1 hk) hne d h1)]
          refine puts_congr _ _ (fun k hk => ⟨?_, rfl⟩)
          rw [getD_set _ _ _ _ his]
          by_cases e : k = i
          · simp [e]
          · simp [e]
        · rw [hGe]
          by_cases e : k = i
          · subst e; simpa using hΦ
          · rw [getD_set _ _ _ _ his, if_neg e] at hlk
            simp only [if_neg e]
            refine hkeep k _ hk e hlk ?_ (inv.phi k hk hlk)
            cases hr : reaches ops ops.size k i with
            | false => rfl
            | true =>
              have hok : ∃ ok, ops[k]? = some ok := ⟨ops[k]'(by omega), Array.getElem?_eq_getElem _⟩
              obtain ⟨ok, hok⟩ := hok
              have := reach_listed inv.down _ k ok i hok (fun e he hb => inv.down k ok hok hlk e he hb) hr
              rw [hu'] at this
              cases this
        · have hlo : listed.getD e.on false = true := by
            by_cases ek : k = i
            · subst ek
              rw [ho] at hok
              injection hok with hok
              subst hok
              exact hed e he hbe
            · rw [getD_set _ _ _ _ his, if_neg ek] at hlk
              exact inv.down k ok hok hlk e he hbe
          rw [getD_set _ _ _ _ his]
          split
          · rfl
          · exact hlo
        · have := left_set (m := m) him his hu'
          omega
      unfold wpOp
      rw [ho]
      have hwant : Region.wanted o (yielded ops a.tmps) = true := by simp [Region.wanted, g1]
      simp only [hwant, if_true]
      left
      unfold Oper.wp
      generalize (execOp a.eval o).run P w = r at hstep'
      cases r with
      | ok nx w' =>
        cases nx <;> simp only [StepOk] at hstep' <;> simp only [Oper.upon]
        · exact hK _ _ hstep'
        · exact hK _ _ hstep'
        · exact hstep'.mono fun e w'' ⟨v, he, hR⟩ => by subst he; exact hK v w'' hR
      | halt x w' => simp only [StepOk] at hstep'

/-- The law. -/
theorem region {id : Nat} {w : World} (m : Nat) (G : (Nat → Bool) → World → Prop) (Φ : (Nat → Bool) → Nat → Value → World → Prop) (hm : P.follows .mixedOrders = true) (hH : headB ops m = true) (hin : ∀ k d, k < m → dstOf ops k = some d → d < a0.tmps.size) (hG : G (fun _ => false) w.drew)
    (hstep : ∀ i o, i < m → ops[i]? = some o → ∀ (L : Nat → Bool) (a : Act) (w : World), L i = false → G L w → (∀ d, Operand.tmp d ∈ o.op.operands → TmpOk ops m a0 (Φ L) w d (a.tmps.getD d undef)) →
      StepOk P (fun v w' => G (fun k => if k = i then true else L k) w' ∧ Φ (fun k => if k = i then true else L k) i v w' ∧ ∀ k u, k < m → k ≠ i → L k = true → reaches ops ops.size k i = false → Φ L k u w → Φ (fun k => if k = i then true else L k) k u w') ((execOp a.eval o).run P w))
    (hfin : ∀ (L : Nat → Bool) (vals : Nat → Value) (w : World), (∀ k, k < m → L k = true) → G L w → (∀ k, k < m → Φ L k (vals k) w) → wpList P ops Q (ops.toList.drop m) (puts ops vals (fun _ => true) (List.range m) a0) w) :
    (Code.region id ops true).wp P Q a0 w := by
  refine wp_region_any hm ?_
  have hmn : m ≤ ops.size := by
    simp only [headB, Bool.and_eq_true, decide_eq_true_eq] at hH
    exact hH.1.1.1
  have hz : ∀ k b, k < ops.size → (Array.replicate ops.size false).getD k b = false := fun k b hk => by
    rw [Array.getD_eq_getD_getElem?, Array.getElem?_replicate, if_pos hk]; rfl
  have hl : left m (Array.replicate ops.size false) = m := by
    unfold left
    rw [List.filter_eq_self.2 (fun k hk => by rw [hz k false (by have := List.mem_range.1 hk; omega)]; rfl), List.length_range]
  have hGz : G (fun _ => false) w.drew → G (fun k => (Array.replicate ops.size false).getD k false) w.drew := fun h => by
    have e : (fun k => (Array.replicate ops.size false).getD k false) = (fun _ => false) := funext fun k => by
      rw [Array.getD_eq_getD_getElem?, Array.getElem?_replicate]
      split <;> rfl
    rw [e]; exact h
  have := main (P := P) (Q := Q) (a0 := a0) (G := G) (Φ := Φ) hH hin hstep hfin m (fun _ => undef) (Array.replicate ops.size false) a0 w.drew ⟨by simp, fun i _ hi => hz i true hi, ?_, hGz hG, fun k hk h => ?_, fun k o ho h => ?_⟩ hl
  · rw [show m + (ops.size - m) = ops.size by omega] at this
    exact this
  · have : ∀ (ks : List Nat) (a : Act), (∀ k ∈ ks, k < ops.size) → puts ops (fun _ => undef) (fun k => (Array.replicate ops.size false).getD k false) ks a = a := by
      intro ks
      induction ks with
      | nil => intro a _; rfl
      | cons k ks ih =>
        intro a h
        unfold puts
        rw [hz k false (h k (by simp))]
        exact ih a (fun j hj => h j (by simp [hj]))
    exact (this _ _ (fun k hk => by have := List.mem_range.1 hk; omega)).symm
  · rw [hz k false (by omega)] at h; cases h
  · rw [hz k false (Array.getElem?_eq_some_iff.1 ho).1] at h; cases h
end
end Reg8
namespace Reg4
set_option linter.unusedVariables false
open Go.RowKit
section
variable {P : Program} {ops : Array Oper} {Q : Exit → Act → World → Prop} {a0 : Act}
/-- The law where neither the state nor the values' facts hang on what is done. -/
theorem region {id : Nat} {w : World} (m : Nat) (G : World → Prop) (Φ : Nat → Value → World → Prop) (hm : P.follows .mixedOrders = true) (hH : headB ops m = true) (hin : ∀ k d, k < m → dstOf ops k = some d → d < a0.tmps.size) (hG : G w.drew)
    (hstep : ∀ i o, i < m → ops[i]? = some o → ∀ (a : Act) (w : World), G w → (∀ d, Operand.tmp d ∈ o.op.operands → TmpOk ops m a0 Φ w d (a.tmps.getD d undef)) →
      StepOk P (fun v w' => G w' ∧ Φ i v w' ∧ ∀ k u, k < m → k ≠ i → reaches ops ops.size k i = false → Φ k u w → Φ k u w') ((execOp a.eval o).run P w))
    (hfin : ∀ (vals : Nat → Value) (w : World), G w → (∀ k, k < m → Φ k (vals k) w) → wpList P ops Q (ops.toList.drop m) (puts ops vals (fun _ => true) (List.range m) a0) w) :
    (Code.region id ops true).wp P Q a0 w :=
  Reg8.region m (fun _ => G) (fun _ => Φ) hm hH hin hG
    (fun i o hi ho L a w _ hg hop => (hstep i o hi ho a w hg hop).mono fun v w' h => ⟨h.1, h.2.1, fun k u h1 h2 _ h4 h5 => h.2.2 k u h1 h2 h4 h5⟩)
    (fun L vals w _ hg hp => hfin vals w hg hp)
end
end Reg4
namespace Reg7
set_option linter.unusedVariables false
open Go.RowKit Reg4
section
variable {P : Program} {ops : Array Oper} {Q : Exit → Act → World → Prop} {a0 : Act}
/-- The law where the values' facts do not hang on what is done. -/
theorem region {id : Nat} {w : World} (m : Nat) (G : (Nat → Bool) → World → Prop) (Φ : Nat → Value → World → Prop) (hm : P.follows .mixedOrders = true) (hH : headB ops m = true) (hin : ∀ k d, k < m → dstOf ops k = some d → d < a0.tmps.size) (hG : G (fun _ => false) w.drew)
    (hstep : ∀ i o, i < m → ops[i]? = some o → ∀ (L : Nat → Bool) (a : Act) (w : World), L i = false → G L w → (∀ d, Operand.tmp d ∈ o.op.operands → TmpOk ops m a0 Φ w d (a.tmps.getD d undef)) →
      StepOk P (fun v w' => G (fun k => if k = i then true else L k) w' ∧ Φ i v w' ∧ ∀ k u, k < m → k ≠ i → reaches ops ops.size k i = false → Φ k u w → Φ k u w') ((execOp a.eval o).run P w))
    (hfin : ∀ (L : Nat → Bool) (vals : Nat → Value) (w : World), (∀ k, k < m → L k = true) → G L w → (∀ k, k < m → Φ k (vals k) w) → wpList P ops Q (ops.toList.drop m) (puts ops vals (fun _ => true) (List.range m) a0) w) :
    (Code.region id ops true).wp P Q a0 w :=
  Reg8.region m G (fun _ => Φ) hm hH hin hG
    (fun i o hi ho L a w hl hg hop => (hstep i o hi ho L a w hl hg hop).mono fun v w' h => ⟨h.1, h.2.1, fun k u h1 h2 _ h4 h5 => h.2.2 k u h1 h2 h4 h5⟩)
    hfin
end
end Reg7
end Go.Proofs.YtfaofobhmmedmaaGreatDoor
