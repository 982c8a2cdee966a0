/-
  Slices in memory that read as lists: each element is a row of cells. Kept over calls that only make memory; opened from a reading.
-/
import Derived.Test.YtndlhhiifmjieaaDoorLib
import Derived.Laws.Cells
import Derived.Deep.Slices
import Derived.Deep.Fields
namespace Go.Proofs.YtndlhhiifmjieaaDoor
set_option linter.unusedVariables false
open Go.RowKit Go.ChangeShapes Go.WideShapes Go.Deep

/-- All that was there is there. -/
def Kept (w w' : World) : Prop := ∀ p u, w.cell? p = some u → w'.cell? p = some u
theorem Kept.refl (w : World) : Kept w w := fun _ _ h => h
theorem Kept.trans {a b c : World} (h : Kept a b) (k : Kept b c) : Kept a c := fun p u hp => k p u (h p u hp)
theorem Kept.of {w w' : World} (h : Below w.heap.size w w') : Kept w w' := fun p u hp => (h.cell (World.block_lt_of_cell? w p hp)).trans hp

/-- A slice value reads as xs: element j's cells are a row that R ties to xs[j]. -/
def SliceAt {α : Type} (R : List Value → α → Prop) (size : Nat) (w : World) (v : Value) (xs : List α) : Prop :=
  ∃ (A : Option Addr) (c : Nat), v = .slice A xs.length c ∧ xs.length ≤ c ∧ c ≤ maxLen ∧ (A = none → c = 0) ∧
    ∀ j x, xs[j]? = some x → ∃ (b off : Nat) (r : List Value), A = some ⟨b, off, none⟩ ∧ r.length = size ∧ R r x ∧ ∀ o u, r[o]? = some u → w.cell? ⟨b, off + j * size + o, none⟩ = some u

section
variable {α : Type} {R R' : List Value → α → Prop} {size : Nat} {w w' : World} {v : Value} {xs : List α}

theorem SliceAt.keep (h : SliceAt R size w v xs) (hk : Kept w w') (hR : ∀ r x, R r x → R' r x) : SliceAt R' size w' v xs := by
  obtain ⟨A, c, e, h1, h2, h0, h3⟩ := h
  refine ⟨A, c, e, h1, h2, h0, fun j x hx => ?_⟩
  obtain ⟨b, off, r, hA, hr, hR0, hc⟩ := h3 j x hx
  exact ⟨b, off, r, hA, hr, hR _ _ hR0, fun o u hu => hk _ _ (hc o u hu)⟩

theorem SliceAt.form (h : SliceAt R size w v xs) : ∃ (A : Option Addr) (c : Nat), v = .slice A xs.length c ∧ xs.length ≤ c ∧ c ≤ maxLen := by
  obtain ⟨A, c, e, h1, h2, _⟩ := h
  exact ⟨A, c, e, h1, h2⟩

theorem SliceAt.form' (h : SliceAt R size w v xs) : ∃ (A : Option Addr) (c : Nat), v = .slice A xs.length c ∧ xs.length ≤ c ∧ c ≤ maxLen ∧ (A = none → c = 0) := by
  obtain ⟨A, c, e, h1, h2, h0, _⟩ := h
  exact ⟨A, c, e, h1, h2, h0⟩

/-- Element j: where it lies, its row. -/
theorem SliceAt.at_ {A : Option Addr} {n c : Nat} (h : SliceAt R size w (.slice A n c) xs) {j : Nat} (hj : j < xs.length) :
    ∃ (b off : Nat) (r : List Value), A = some ⟨b, off, none⟩ ∧ r.length = size ∧ R r xs[j] ∧ ∀ o u, r[o]? = some u → w.cell? ⟨b, off + j * size + o, none⟩ = some u := by
  obtain ⟨A', c', e, h1, h2, h0, h3⟩ := h
  injection e with eA en ec
  subst eA
  exact h3 j xs[j] (List.getElem?_eq_getElem hj)

theorem SliceAt.len {A : Option Addr} {n c : Nat} (h : SliceAt R size w (.slice A n c) xs) : n = xs.length ∧ n ≤ c ∧ c ≤ maxLen := by
  obtain ⟨A', c', e, h1, h2, _⟩ := h
  injection e with eA en ec
  subst en; subst ec
  exact ⟨rfl, h1, h2⟩

theorem SliceAt.nil : SliceAt R size w (.slice none 0 0) ([] : List α) := ⟨none, 0, rfl, Nat.le_refl _, by unfold maxLen; omega, fun _ => rfl, fun j x h => by simp at h⟩
end

/-- Rows that R ties to xs. -/
def RowsOf {α : Type} (R : List Value → α → Prop) (size : Nat) (rs : List (List Value)) (xs : List α) : Prop :=
  rs.length = xs.length ∧ ∀ (j : Nat) (r : List Value) (x : α), rs[j]? = some r → xs[j]? = some x → r.length = size ∧ R r x

theorem RowsOf.each {α : Type} {R : List Value → α → Prop} {size : Nat} {rs : List (List Value)} {xs : List α} (h : RowsOf R size rs xs) : ∀ r ∈ rs, r.length = size := by
  intro r hr
  obtain ⟨j, hj, rfl⟩ := List.getElem_of_mem hr
  exact (h.2 j rs[j] (xs[j]'(by rw [← h.1]; exact hj)) (List.getElem?_eq_getElem hj) (List.getElem?_eq_getElem _)).1

theorem flat_len {size : Nat} : ∀ (rs : List (List Value)), (∀ r ∈ rs, r.length = size) → rs.flatten.length = rs.length * size
  | [], _ => by simp
  | r :: rs, h => by
    rw [List.flatten_cons, List.length_append, flat_len rs (fun x hx => h x (by simp [hx])), h r (by simp), List.length_cons, Nat.add_mul, Nat.one_mul, Nat.add_comm]
theorem flat_get {size : Nat} : ∀ (rs : List (List Value)), (∀ r ∈ rs, r.length = size) → ∀ j o, o < size → rs.flatten[j * size + o]? = (rs[j]?).bind (fun r => r[o]?)
  | [], _, j, o, _ => by simp
  | r :: rs, h, 0, o, ho => by
    rw [List.flatten_cons, List.getElem?_append_left (by rw [h r (by simp)]; omega)]
    simp
  | r :: rs, h, j + 1, o, ho => by
    have hr := h r (by simp)
    rw [List.flatten_cons, List.getElem?_append_right (by rw [hr, Nat.add_mul]; omega), hr, show (j + 1) * size + o - size = j * size + o by rw [Nat.add_mul]; omega,
      flat_get rs (fun x hx => h x (by simp [hx])) j o ho]
    simp
theorem flat_set {size : Nat} (u : Value) : ∀ (rs : List (List Value)), (∀ r ∈ rs, r.length = size) → ∀ j o, o < size → ∀ r, rs[j]? = some r → rs.flatten.set (j * size + o) u = (rs.set j (r.set o u)).flatten
  | [], _, j, o, _, r, hr => by simp at hr
  | r0 :: rs, h, 0, o, ho, r, hr => by
    have e : r0 = r := by simpa using hr
    subst e
    rw [List.flatten_cons, List.set_cons_zero, List.flatten_cons, List.set_append, if_pos (by rw [h r0 (by simp)]; omega)]
    simp
  | r0 :: rs, h, j + 1, o, ho, r, hr => by
    have h0 := h r0 (by simp)
    rw [List.flatten_cons, List.set_cons_succ, List.flatten_cons, List.set_append, if_neg (by rw [h0, Nat.add_mul]; omega), h0, show (j + 1) * size + o - size = j * size + o by rw [Nat.add_mul]; omega,
      flat_set u rs (fun x hx => h x (by simp [hx])) j o ho r (by simpa using hr)]

section
variable {α : Type} {R : List Value → α → Prop} {size : Nat} {w : World} {v : Value} {xs : List α}

/-- The rows of a slice. -/
theorem SliceAt.rows {A : Option Addr} {n c : Nat} (hs : 0 < size) (h : SliceAt R size w (.slice A n c) xs) :
    ∃ rs, RowsOf R size rs xs ∧ ∀ ad, A = some ad → ∀ j u, rs.flatten[j]? = some u → w.cell? (ad.add j) = some u := by
  obtain ⟨A', c', e, h1, h2, h0, h3⟩ := h
  injection e with eA en ec
  subst eA
  have hz : ∀ m, m ≤ xs.length → ∃ rs : List (List Value), rs.length = m ∧ ∀ (j : Nat) (r : List Value) (x : α), rs[j]? = some r → xs[j]? = some x → r.length = size ∧ R r x ∧ ∃ b off, A = some ⟨b, off, none⟩ ∧ ∀ o u, r[o]? = some u → w.cell? ⟨b, off + j * size + o, none⟩ = some u := by
    intro m
    induction m with
    | zero => exact fun _ => ⟨[], rfl, fun j r x h => by simp at h⟩
    | succ k ih =>
      intro hk
      obtain ⟨rs, hl, hx⟩ := ih (by omega)
      obtain ⟨b, off, r, hA, hr, hR, hc⟩ := h3 k xs[k] (List.getElem?_eq_getElem (by omega))
      refine ⟨rs ++ [r], by simp [hl], fun j r' x hj hxj => ?_⟩
      by_cases hjk : j < k
      · rw [List.getElem?_append_left (by omega)] at hj
        exact hx j r' x hj hxj
      · rw [List.getElem?_append_right (by omega)] at hj
        have h0' : j - rs.length = 0 := by
          rcases Nat.eq_zero_or_pos (j - rs.length) with h0 | h0
          · exact h0
          · rw [List.getElem?_eq_none (by simp; omega)] at hj; cases hj
        rw [h0'] at hj
        have e1 : r = r' := by simpa using hj
        have e2 : j = k := by omega
        subst e1; subst e2
        have e3 : xs[j] = x := by rw [List.getElem?_eq_getElem (by omega)] at hxj; simpa using hxj
        subst e3
        exact ⟨hr, hR, b, off, hA, hc⟩
  obtain ⟨rs, hl, hx⟩ := hz xs.length (Nat.le_refl _)
  have hrow : RowsOf R size rs xs := ⟨hl, fun j r x hr hxj => ⟨(hx j r x hr hxj).1, (hx j r x hr hxj).2.1⟩⟩
  refine ⟨rs, hrow, fun ad hA q u hu => ?_⟩
  have hq : q = q / size * size + q % size := by rw [Nat.mul_comm]; exact (Nat.div_add_mod q size).symm
  rw [hq, flat_get rs hrow.each (q / size) (q % size) (Nat.mod_lt _ hs)] at hu
  cases hr : rs[q / size]? with
  | none => rw [hr] at hu; cases hu
  | some r =>
    rw [hr] at hu
    have hjl : q / size < xs.length := by rw [← hl]; exact (List.getElem?_eq_some_iff.1 hr).1
    obtain ⟨_, _, b, off, hA', hc⟩ := hx (q / size) r xs[q / size] hr (List.getElem?_eq_getElem hjl)
    rw [hA] at hA'
    injection hA' with e1
    subst e1
    have := hc (q % size) u hu
    rw [Nat.add_assoc, ← hq] at this
    rw [Addr.add_lit]
    exact this

/-- A row that the call owns, read as a slice. -/
theorem SliceAt.of_own {base : Nat} {e : TypeId} {n : Nat} {rs : List (List Value)} (hs : 0 < size) (h : w.ownsRow base e size v n rs.flatten) (hr : RowsOf R size rs xs) (hn : n = xs.length) : SliceAt R size w v xs := by
  subst hn
  rcases h.2 with ⟨rfl, h0⟩ | ⟨g, cap, cur, rfl, hb, hg, hnc, hcm, hcs, ht⟩
  · have : xs = [] := List.eq_nil_of_length_eq_zero h0
    subst this
    exact SliceAt.nil
  · refine ⟨some ⟨g, 0, none⟩, cap, rfl, hnc, hcm, (fun h => by cases h), fun j x hx => ?_⟩
    have hj : j < rs.length := by rw [hr.1]; exact (List.getElem?_eq_some_iff.1 hx).1
    obtain ⟨hl, hR⟩ := hr.2 j rs[j] x (List.getElem?_eq_getElem hj) hx
    refine ⟨g, 0, rs[j], rfl, hl, hR, fun o u hu => ?_⟩
    have ho : o < size := by rw [← hl]; exact (List.getElem?_eq_some_iff.1 hu).1
    have := h.cells (g := g) rfl (j * size + o) u (by rw [flat_get rs hr.each j o ho, List.getElem?_eq_getElem hj]; exact hu)
    rw [Addr.add_lit] at this
    simpa [Nat.add_assoc] using this
end

/-- A whole row, loaded at once: in the form at which the walk stands still. -/
theorem run_row (P : Program) (W : World) (b off : Nat) (cs : List Value) (k : Nat) (hk : cs.length = k) (h : ∀ j v, cs[j]? = some v → W.cell? ⟨b, off + j, none⟩ = some v) :
    Sem.run P (loadCellsFrom ⟨b, off, none⟩ 0 k #[]) W = .ok cs.toArray W := by
  have := run_loadCells_list (P := P) (w := W) ⟨b, off, none⟩ cs (fun j v hv => by
    have := h j v hv
    unfold Addr.add
    split
    · subst_vars; simpa using this
    · simpa using this)
  rw [hk] at this
  simpa [loadCells] using this

section
variable {H : Type} {enc : TypeId × Value → H} {P : Program} {w : World} {base : Nat} {spare : Nat → Bool} {held : Bool}

/-- One field of a struct that is read. -/
theorem trod_field {t : TypeId} {fs : Array Field} {fuel : Nat} {cs : List Value} {x : DataW H × List MemPlace} (ht : P.underlying t = some (.struct fs)) (h : DataW.trod enc P w base spare held fuel t cs = some x)
    (j : Nat) (f : Field) (hf : fs[j]? = some f) : ∃ m y, DataW.trod enc P w base spare held m f.type ((cs.drop f.offset).take (P.cellsOf f.type)) = some y := by
  obtain ⟨xs, n, _, _, _, hlen, hg⟩ := DataW.trod_struct ht h
  have hj : j < fs.size := (Array.getElem?_eq_some_iff.1 hf).1
  exact ⟨n, xs[j]'(by omega), (hg j f hf).trans (List.getElem?_eq_getElem (by omega))⟩
theorem trod_fieldT {t : TypeId} {fs : Array Field} {fuel : Nat} {cs : List Value} {x : DataW H × List MemPlace} (ht : P.underlying t = some (.struct fs)) (h : DataW.trod enc P w base spare held fuel t cs = some x)
    (j : Nat) (f : Field) (hf : fs[j]? = some f) (tf : TypeId) (o k : Nat) (h1 : f.type = tf) (h2 : f.offset = o) (h3 : P.cellsOf tf = k) : ∃ m y, DataW.trod enc P w base spare held m tf ((cs.drop o).take k) = some y := by
  obtain ⟨m, y, hy⟩ := trod_field ht h j f hf
  rw [h2, h1, h3] at hy
  exact ⟨m, y, hy⟩
theorem trod_len {t : TypeId} {fs : Array Field} {fuel : Nat} {cs : List Value} {x : DataW H × List MemPlace} (ht : P.underlying t = some (.struct fs)) (h : DataW.trod enc P w base spare held fuel t cs = some x) : cs.length = P.cellsOf t := by
  obtain ⟨xs, n, _, _, hl, _⟩ := DataW.trod_struct ht h
  exact hl

/-- A slice that is read: each element by its own opening. -/
theorem open_sliceAt {α : Type} {R : List Value → α → Prop} {t e : TypeId} {size fuel : Nat} {cs : List Value} {x : DataW H × List MemPlace} (ht : P.underlying t = some (.slice e)) (hsz : P.cellsOf e = size) (hpos : 0 < size)
    (hR : ∀ n cs y, DataW.trod enc P w base spare held n e cs = some y → ∃ z : α, R cs z)
    (h : DataW.trod enc P w base spare held fuel t cs = some x) : ∃ (v : Value) (xs : List α), cs = [v] ∧ SliceAt R size w v xs := by
  rcases open_slice ht h with ⟨rfl, _⟩ | ⟨a, len, cap, m, n, D, Pl, rfl, hb, hl, hm, hmm, hx, hi⟩
  · exact ⟨_, [], rfl, SliceAt.nil⟩
  · have hlm : len ≤ m := by rw [hmm]; split <;> omega
    have hz : ∀ i, i < len → ∃ z : α × List Value, R z.2 z.1 ∧ z.2.length = size ∧ w.cells? base (a.add (i * size)) size = some z.2 := fun i hil => by
      obtain ⟨cs', hc, ht'⟩ := hi i (by omega)
      obtain ⟨z, hz⟩ := hR _ _ _ ht'
      rw [hsz] at hc
      obtain ⟨_, hcl, _⟩ := World.cells?_some hc
      exact ⟨(z, cs'), hz, hcl, hc⟩
    obtain ⟨xs, hxl, hxs⟩ : ∃ xs : List (α × List Value), xs.length = len ∧ ∀ i z, xs[i]? = some z → R z.2 z.1 ∧ z.2.length = size ∧ w.cells? base (a.add (i * size)) size = some z.2 := by
      clear hi hx hmm hlm hl h
      induction len with
      | zero => exact ⟨[], rfl, fun i z h => by simp at h⟩
      | succ k ih =>
        obtain ⟨xs, hl, hx⟩ := ih (fun i h => hz i (by omega))
        obtain ⟨z, hz1⟩ := hz k (by omega)
        refine ⟨xs ++ [z], by simp [hl], fun i y hy => ?_⟩
        by_cases hik : i < k
        · rw [List.getElem?_append_left (by omega)] at hy
          exact hx i y hy
        · rw [List.getElem?_append_right (by omega)] at hy
          have : i - xs.length = 0 := by
            rcases Nat.eq_zero_or_pos (i - xs.length) with h0 | h0
            · exact h0
            · rw [List.getElem?_eq_none (by simp; omega)] at hy; cases hy
          rw [this] at hy
          have e : z = y := by simpa using hy
          have : i = k := by omega
          subst e; subst this
          exact hz1
    refine ⟨_, xs.map (·.1), rfl, some a, cap, by rw [List.length_map, hxl], by rw [List.length_map, hxl]; exact hl, hm, (fun h => by cases h), fun j x hj => ?_⟩
    have hjl : j < xs.length := by
      rcases Nat.lt_or_ge j xs.length with h0 | h0
      · exact h0
      · rw [List.getElem?_eq_none (by simpa using h0)] at hj; cases hj
    obtain ⟨y, hy, rfl⟩ : ∃ y, xs[j]? = some y ∧ y.1 = x := by
      rw [List.getElem?_map] at hj
      cases hh : xs[j]? with
      | none => rw [hh] at hj; cases hj
      | some y => rw [hh] at hj; exact ⟨y, rfl, by simpa using hj⟩
    obtain ⟨r1, r2, r3⟩ := hxs j y hy
    obtain ⟨b, off, sp⟩ := a
    have hsp : sp = none := by
      obtain ⟨z0, hz0⟩ := hz 0 (by omega)
      obtain ⟨_, hl0, hc0⟩ := World.cells?_some hz0.2.2
      have := hc0 0 hpos
      rw [List.getElem?_eq_getElem (by omega)] at this
      have := World.cell?_spot this
      simpa [Addr.add] using this
    subst hsp
    refine ⟨b, off, y.2, rfl, r2, r1, fun o u hu => ?_⟩
    obtain ⟨_, hl0, hc0⟩ := World.cells?_some r3
    have ho : o < size := by
      rcases Nat.lt_or_ge o size with h0 | h0
      · exact h0
      · rw [List.getElem?_eq_none (by omega)] at hu; cases hu
    have := hc0 o ho
    rw [hu, Addr.add_lit, Addr.add_lit] at this
    exact this
end
end Go.Proofs.YtndlhhiifmjieaaDoor
