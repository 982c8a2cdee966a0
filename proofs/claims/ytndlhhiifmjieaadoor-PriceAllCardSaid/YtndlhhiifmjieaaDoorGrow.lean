/-
  A slice that the call itself grows: rows of cells that read as a list; one element more by append.
-/
import Derived.Test.YtndlhhiifmjieaaDoorSl
import Derived.OwnWalk
import Derived.WalkKit
import Derived.Maps.AppendAt
namespace Go.Proofs.YtndlhhiifmjieaaDoor
set_option linter.unusedVariables false
open Go.RowKit Go.ChangeShapes Go.WideShapes Go.Deep

theorem rows_nil {α : Type} {R : List Value → α → Prop} {size : Nat} : RowsOf R size [] [] := ⟨rfl, fun j r x h => by simp at h⟩
theorem rows_snoc' {α : Type} {R : List Value → α → Prop} {size : Nat} {r : List Value} {x : α} {rs : List (List Value)} {xs : List α} (hr : RowsOf R size rs xs) (hl : r.length = size) (h : R r x) : RowsOf R size (rs ++ [r]) (xs ++ [x]) := by
  refine ⟨by simp [hr.1], fun j r' x' h1 h2 => ?_⟩
  by_cases hj : j < rs.length
  · rw [List.getElem?_append_left hj] at h1
    rw [List.getElem?_append_left (by rw [← hr.1]; exact hj)] at h2
    exact hr.2 j r' x' h1 h2
  · rw [List.getElem?_append_right (by omega)] at h1
    rw [List.getElem?_append_right (by rw [← hr.1]; omega), ← hr.1] at h2
    have h0 : j - rs.length = 0 := by
      rcases Nat.eq_zero_or_pos (j - rs.length) with h0 | h0
      · exact h0
      · rw [List.getElem?_eq_none (by simp; omega)] at h1; cases h1
    rw [h0] at h1 h2
    have e1 : r = r' := by simpa using h1
    have e2 : x = x' := by simpa using h2
    subst e1; subst e2
    exact ⟨hl, h⟩
theorem rows_append {α : Type} {R : List Value → α → Prop} {size : Nat} {rs qs : List (List Value)} {xs ys : List α} (hr : RowsOf R size rs xs) (hq : RowsOf R size qs ys) : RowsOf R size (rs ++ qs) (xs ++ ys) := by
  refine ⟨by simp [hr.1, hq.1], fun j r' x' h1 h2 => ?_⟩
  by_cases hj : j < rs.length
  · rw [List.getElem?_append_left hj] at h1
    rw [List.getElem?_append_left (by rw [← hr.1]; exact hj)] at h2
    exact hr.2 j r' x' h1 h2
  · rw [List.getElem?_append_right (by omega)] at h1
    rw [List.getElem?_append_right (by rw [← hr.1]; omega), ← hr.1] at h2
    exact hq.2 _ r' x' h1 h2
theorem rows_one {α : Type} {R : List Value → α → Prop} {size : Nat} {rs : List (List Value)} {xs : List α} (h : RowsOf R size rs xs) (hR : ∀ r x, R r x → ∀ u ∈ r, u.oneCell' = true) : ∀ u ∈ rs.flatten, u.oneCell' = true := by
  intro u hu
  obtain ⟨r, hr, hur⟩ := List.mem_flatten.1 hu
  obtain ⟨j, hj, rfl⟩ := List.getElem_of_mem hr
  exact hR _ _ (h.2 j rs[j] (xs[j]'(by rw [← h.1]; exact hj)) (List.getElem?_eq_getElem hj) (List.getElem?_eq_getElem _)).2 u hur

/-- The value v is a row of the call's own (in a block from base on), which reads as xs. -/
def Own {α : Type} (R : List Value → α → Prop) (e : TypeId) (size base : Nat) (w : World) (v : Value) (xs : List α) : Prop :=
  ∃ rs, w.ownsRow base e size v xs.length rs.flatten ∧ RowsOf R size rs xs

theorem ownsRow_call {w w' : World} {base : Nat} {e : TypeId} {size : Nat} {v : Value} {n : Nat} {xs : List Value} (h : w.ownsRow base e size v n xs) (hb : Below w.heap.size w w') : w'.ownsRow base e size v n xs := by
  refine ⟨h.1, ?_⟩
  rcases h.2 with h0 | ⟨g, cap, cur, r1, r2, r3, r4⟩
  · exact .inl h0
  · exact .inr ⟨g, cap, cur, r1, r2, (hb.block g (Array.getElem?_eq_some_iff.1 r3).1).trans r3, r4⟩
theorem ownsRow_base {w : World} {base base' : Nat} {e : TypeId} {size : Nat} {v : Value} {n : Nat} {xs : List Value} (h : w.ownsRow base e size v n xs) (hk : base' ≤ base) : w.ownsRow base' e size v n xs := by
  refine ⟨h.1, ?_⟩
  rcases h.2 with h0 | ⟨g, cap, cur, r1, r2, r3, r4⟩
  · exact .inl h0
  · exact .inr ⟨g, cap, cur, r1, by omega, r3, r4⟩

section
variable {α : Type} {R : List Value → α → Prop} {e : TypeId} {size base : Nat} {w w' : World} {v : Value} {xs : List α}
theorem Own.nil : Own R e size base w (.slice none 0 0) ([] : List α) := ⟨[], World.ownsRow_nil _ _ _ _, rows_nil⟩
theorem Own.made {n : Nat} (h : w.ownsRow base e size v 0 []) : Own R e size base w v ([] : List α) := ⟨[], h, rows_nil⟩
theorem Own.call (h : Own R e size base w v xs) (hb : Below w.heap.size w w') : Own R e size base w' v xs := by
  obtain ⟨rs, h1, h2⟩ := h
  exact ⟨rs, ownsRow_call h1 hb, h2⟩
theorem Own.lower {base' : Nat} (h : Own R e size base w v xs) (hk : base' ≤ base) : Own R e size base' w v xs := by
  obtain ⟨rs, h1, h2⟩ := h
  exact ⟨rs, ownsRow_base h1 hk, h2⟩
theorem Own.at_ (h : Own R e size base w v xs) (hs : 0 < size) : SliceAt R size w v xs := by
  obtain ⟨rs, h1, h2⟩ := h
  exact SliceAt.of_own hs h1 h2 rfl
theorem Own.row (h : Own R e size base w v xs) : ∀ k, v.ownBlock = some k → base ≤ k ∧ k < w.heap.size := by
  obtain ⟨rs, h1, h2⟩ := h
  exact h1.lt

theorem blk_cells {g : Nat} {t : TypeId} {cs : Array Value} (h : Blk w g t cs) : ∀ j u, cs.toList[j]? = some u → w.cell? ((⟨g, 0, none⟩ : Addr).add j) = some u := by
  intro j u hu
  rw [Addr.add_lit, Nat.zero_add, h.cell j]
  simpa using hu

/-- A slice value. -/
def IsSl (v : Value) : Prop := ∃ A n c, v = .slice A n c

/-- 'v = append(v, y)', y laid in a block of its own. -/
theorem wpList_grow {P : Program} {ops : Array Oper} {rest : List Oper} {o : Oper} {a : Act} {Q : Exit → Act → World → Prop} (hgd : o.guard = none) (s x : Operand) (t : TypeId)
    (ho : o.op = .call { callee := .builtin .append, args := #[s, x], argTypes := #[t, t] })
    (i : TypeInfo) (z : Value) (bytes : Nat) (ht : P.underlying t = some (.slice e)) (hi : P.info? e = some i) (hz : i.zero = some z)
    (hsize : i.size = size) (hby : i.bytes = bytes) (hzs : z.cells.size = size) (hsz : 0 < size)
    (hs : a.eval s = v) (hown : Own R e size base w v xs) (g : Nat) (y : α) (r : Array Value) (tt : TypeId) (hx : a.eval x = .slice (some ⟨g, 0, none⟩) 1 1)
    (hblk : Blk w g tt r) (hl : r.size = size) (hR : R r.toList y) (h1 : ∀ u ∈ r.toList, u.oneCell' = true) (hn : xs.length ≤ 16777216) (hb8 : bytes ≤ 4096) (hbase : base ≤ w.heap.size)
    (h : ∀ v' w', Own R e size base w' v' (xs ++ [y]) → w.grownBy w' v.ownBlock → Below base w w' → IsSl v' → wpList P ops Q rest (a.put o.dst v') w') : wpList P ops Q (o :: rest) a w := by
  obtain ⟨rs, k1, k2⟩ := hown
  refine wpList_append_own w hgd s x t ho base e i z size bytes ht hi hz hsize hby hzs hsz v xs.length rs.flatten hs k1 ⟨g, 0, none⟩ 1 1 r.toList hx (by simpa using hl) (blk_cells hblk) h1 (by unfold maxLen; omega) ?_ hbase ?_
  · exact Nat.le_trans (Nat.mul_le_mul (show xs.length + 1 ≤ 16777217 by omega) hb8) (by decide)
  · intro v' w' ho hg _
    refine h v' w' ⟨rs ++ [r.toList], ?_, rows_snoc' k2 (by simpa using hl) hR⟩ hg ((Below.refl _ _).grown hg hbase (fun k hk => (k1.lt k hk).1)) ?_
    · simpa using ho
    · rcases ho.2 with ⟨h0, _⟩ | ⟨g', cap, cur, h0, _⟩
      · exact ⟨_, _, _, h0⟩
      · exact ⟨_, _, _, h0⟩

/-- The same, with the block in which the new row lies. -/
theorem wpList_growAt {P : Program} {ops : Array Oper} {rest : List Oper} {o : Oper} {a : Act} {Q : Exit → Act → World → Prop} (hgd : o.guard = none) (s x : Operand) (t : TypeId)
    (ho : o.op = .call { callee := .builtin .append, args := #[s, x], argTypes := #[t, t] })
    (i : TypeInfo) (z : Value) (bytes : Nat) (ht : P.underlying t = some (.slice e)) (hi : P.info? e = some i) (hz : i.zero = some z)
    (hsize : i.size = size) (hby : i.bytes = bytes) (hzs : z.cells.size = size) (hsz : 0 < size)
    (hs : a.eval s = v) (hown : Own R e size base w v xs) (g : Nat) (y : α) (r : Array Value) (tt : TypeId) (hx : a.eval x = .slice (some ⟨g, 0, none⟩) 1 1)
    (hblk : Blk w g tt r) (hl : r.size = size) (hR : R r.toList y) (h1 : ∀ u ∈ r.toList, u.oneCell' = true) (hn : xs.length ≤ 16777216) (hb8 : bytes ≤ 4096) (hbase : base ≤ w.heap.size)
    (h : ∀ v' w', Own R e size base w' v' (xs ++ [y]) → w.grownBy w' v.ownBlock → Below base w w' → IsSl v' → (v'.ownBlock = v.ownBlock ∨ v'.ownBlock = some w.heap.size) → wpList P ops Q rest (a.put o.dst v') w') : wpList P ops Q (o :: rest) a w := by
  obtain ⟨rs, k1, k2⟩ := hown
  refine wpList_append_own_at w hgd s x t ho base e i z size bytes ht hi hz hsize hby hzs hsz v xs.length rs.flatten hs k1 ⟨g, 0, none⟩ 1 1 r.toList hx (by simpa using hl) (blk_cells hblk) h1 (by unfold maxLen; omega) ?_ hbase ?_
  · exact Nat.le_trans (Nat.mul_le_mul (show xs.length + 1 ≤ 16777217 by omega) hb8) (by decide)
  · intro v' w' ho hg _ hat
    refine h v' w' ⟨rs ++ [r.toList], ?_, rows_snoc' k2 (by simpa using hl) hR⟩ hg ((Below.refl _ _).grown hg hbase (fun k hk => (k1.lt k hk).1)) ?_ hat
    · simpa using ho
    · rcases ho.2 with ⟨h0, _⟩ | ⟨g', cap, cur, h0, _⟩
      · exact ⟨_, _, _, h0⟩
      · exact ⟨_, _, _, h0⟩

/-- Two rows that lie apart. -/
def ApartB (v v' : Value) : Prop := ∀ k, v.ownBlock = some k → v'.ownBlock ≠ some k
theorem ApartB.symm {v v' : Value} (h : ApartB v v') : ApartB v' v := fun k hk e => h k e hk
theorem ApartB.nil {v : Value} : ApartB (.slice none 0 0) v := fun k hk => by simp [Value.ownBlock] at hk
/-- A row is kept while another one grows. -/
theorem Own.grow {v2 : Value} (h : Own R e size base w v xs) (hg : w.grownBy w' v2.ownBlock) (ha : ApartB v v2) : Own R e size base w' v xs := by
  obtain ⟨rs, h1, h2⟩ := h
  refine ⟨rs, h1.kept hg ?_, h2⟩
  cases hv : v.ownBlock with
  | none => exact .inl rfl
  | some k => exact .inr (fun e => ha k hv e.symm)
theorem ApartB.next {v2 v2' : Value} (h : Own R e size base w v xs) (ha : ApartB v v2) (hat : v2'.ownBlock = v2.ownBlock ∨ v2'.ownBlock = some w.heap.size) : ApartB v v2' := by
  intro k hk e
  rcases hat with h1 | h1
  · exact ha k hk (h1 ▸ e)
  · have := (h.row k hk).2
    rw [h1] at e
    injection e with e
    omega
end
end Go.Proofs.YtndlhhiifmjieaaDoor
