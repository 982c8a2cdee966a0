/-
  A slice that the call itself has made: one element overwritten, cell by cell.
-/
import Derived.Test.YtpgpibojegjogaaGrow
namespace Go.Proofs.Ytpgpibojegjogaa
set_option linter.unusedVariables false
open Go.RowKit Go.ChangeShapes Go.WideShapes Go.Deep

def putCells (w : World) (g p : Nat) : List Value → World
  | [] => w
  | u :: us => putCells (w.setCell ⟨g, p, none⟩ u) g (p + 1) us
def splice (r : List Value) (o : Nat) : List Value → List Value
  | [] => r
  | u :: us => splice (r.set o u) (o + 1) us
theorem splice_eq : ∀ (us r : List Value) (o : Nat), o + us.length ≤ r.length → splice r o us = r.take o ++ us ++ r.drop (o + us.length)
  | [], r, o, h => by simp [splice]
  | u :: us, r, o, h => by
    rw [List.length_cons] at h
    rw [splice, splice_eq us (r.set o u) (o + 1) (by rw [List.length_set]; omega)]
    rw [List.take_succ_eq_append_getElem (by rw [List.length_set]; omega), List.take_set_of_le (by omega), List.getElem_set_self, List.drop_set_of_lt (by omega)]
    simp [Nat.add_comm, Nat.add_left_comm]
theorem splice_all (us r : List Value) (h : us.length = r.length) : splice r 0 us = us := by
  rw [splice_eq us r 0 (by omega)]
  simp [h]
theorem splice_len : ∀ (us r : List Value) (o : Nat), (splice r o us).length = r.length
  | [], r, o => rfl
  | u :: us, r, o => by rw [splice, splice_len us]; simp

theorem grownBy_trans {a b c : World} {row : Option Nat} (h : a.grownBy b row) (k : b.grownBy c row) : a.grownBy c row :=
  ⟨k.os.trans h.os, k.tape.trans h.tape, k.output.trans h.output, Nat.le_trans h.size k.size, fun q hq hn => (k.block q (Nat.lt_of_lt_of_le hq h.size) hn).trans (h.block q hq hn)⟩

section
variable {base : Nat} {e : TypeId} {size g n cap : Nat}
theorem own_put {j : Nat} : ∀ (us : List Value) (w : World) (rs : List (List Value)) (r : List Value) (o : Nat), w.ownsRow base e size (.slice (some ⟨g, 0, none⟩) n cap) n rs.flatten → (∀ r ∈ rs, r.length = size) → rs[j]? = some r → o + us.length ≤ size →
    (putCells w g (j * size + o) us).ownsRow base e size (.slice (some ⟨g, 0, none⟩) n cap) n (rs.set j (splice r o us)).flatten ∧ w.grownBy (putCells w g (j * size + o) us) (some g)
  | [], w, rs, r, o, h, he, hr, hl => by
    refine ⟨?_, World.grownBy.refl w _⟩
    rw [splice, putCells]
    have : rs.set j r = rs := by
      apply List.ext_getElem?
      intro k
      rw [List.getElem?_set]
      split
      · subst_vars; split
        · exact hr.symm
        · rename_i hk; rw [List.getElem?_eq_none (by omega)] at hr; cases hr
      · rfl
    rw [this]
    exact h
  | u :: us, w, rs, r, o, h, he, hr, hl => by
    rw [List.length_cons] at hl
    have hj : j < rs.length := (List.getElem?_eq_some_iff.1 hr).1
    have hrl : r.length = size := he r (List.mem_of_getElem? hr)
    have hs := h.stored (j * size + o) u
    rw [flat_set u rs he j o (by omega) r hr] at hs
    have hih := own_put us (w.setCell ⟨g, j * size + o, none⟩ u) (rs.set j (r.set o u)) (r.set o u) (o + 1) hs.1
      (fun x hx => by
        rcases List.mem_or_eq_of_mem_set hx with hx | hx
        · exact he x hx
        · rw [hx, List.length_set]; exact hrl)
      (by rw [List.getElem?_set_self hj]) (by omega)
    rw [List.set_set] at hih
    exact ⟨hih.1, grownBy_trans hs.2 hih.2⟩

variable {α : Type} {R : List Value → α → Prop}
theorem rows_set {rs : List (List Value)} {xs : List α} {j : Nat} {r : List Value} {x : α} (h : RowsOf R size rs xs) (hl : r.length = size) (hR : R r x) : RowsOf R size (rs.set j r) (xs.set j x) := by
  refine ⟨by simp [h.1], fun k r' x' h1 h2 => ?_⟩
  rw [List.getElem?_set] at h1 h2
  split at h1
  · rename_i e
    subst e
    split at h1
    · rename_i hk
      rw [if_pos rfl, if_pos (by rw [← h.1]; exact hk)] at h2
      have e1 : r = r' := by simpa using h1
      have e2 : x = x' := by simpa using h2
      subst e1; subst e2
      exact ⟨hl, hR⟩
    · cases h1
  · rename_i e
    rw [if_neg e] at h2
    exact h.2 k r' x' h1 h2
/-- Element j overwritten. -/
theorem Own.put {w : World} {xs : List α} {us : List Value} {x : α} {j : Nat} (h : Own R e size base w (.slice (some ⟨g, 0, none⟩) n cap) xs) (hn : n = xs.length) (hj : j < xs.length) (hl : us.length = size) (hR : R us x) :
    Own R e size base (putCells w g (j * size) us) (.slice (some ⟨g, 0, none⟩) n cap) (xs.set j x) ∧ w.grownBy (putCells w g (j * size) us) (some g) := by
  subst hn
  obtain ⟨rs, h1, h2⟩ := h
  have hjr : j < rs.length := by rw [h2.1]; exact hj
  have hp := own_put us w rs rs[j] 0 h1 h2.each (List.getElem?_eq_getElem hjr) (by omega)
  rw [splice_all us rs[j] (by rw [hl]; exact (h2.each _ (List.getElem_mem hjr)).symm), Nat.add_zero] at hp
  refine ⟨⟨rs.set j us, ?_, rows_set h2 hl hR⟩, hp.2⟩
  rw [List.length_set]
  exact hp.1
/-- Where element j lies: its cells are there and may be written. -/
theorem Own.there {w : World} {xs : List α} {j o : Nat} (h : Own R e size base w (.slice (some ⟨g, 0, none⟩) n cap) xs) (hn : n = xs.length) (hj : j < xs.length) (ho : o < size) :
    (∃ u, w.cell? ⟨g, j * size + o, none⟩ = some u) ∧ w.frozen? ⟨g, j * size + o, none⟩ = false := by
  subst hn
  obtain ⟨rs, h1, h2⟩ := h
  have hlt : j * size + o < xs.length * size := by
    have : (j + 1) * size ≤ xs.length * size := Nat.mul_le_mul_right _ hj
    rw [Nat.add_mul] at this
    omega
  refine ⟨?_, h1.frozenAt _⟩
  rw [h1.cellAt _ hlt]
  have : j * size + o < rs.flatten.length := by rw [h1.1]; exact hlt
  exact ⟨_, List.getElem?_eq_getElem this⟩
theorem own_made {w : World} {z : Value} {x : α} {v : Value} (hs : 0 < size) (hz : z.cells.size = size) (hR : R z.cells.toList x) (h : w.ownsRow base e size v n (madeCells z.cells (n * size)).toList) : Own R e size base w v (List.replicate n x) := by
  have hf : (madeCells z.cells (n * size)).toList = (List.replicate n z.cells.toList).flatten := by
    have hlen : (List.replicate n z.cells.toList).flatten.length = n * size := by rw [flat_len (size := size) _ (fun r hr => by rw [(List.mem_replicate.1 hr).2]; simpa using hz)]; simp
    apply List.ext_getElem?
    intro q
    by_cases hq : q < n * size
    · have e1 : q = q / size * size + q % size := by rw [Nat.mul_comm]; exact (Nat.div_add_mod q size).symm
      have hm := Nat.mod_lt q hs
      have hd : q / size < n := (Nat.div_lt_iff_lt_mul hs).2 hq
      have : (List.replicate n z.cells.toList).flatten[q]? = z.cells.toList[q % size]? := by
        rw [e1, flat_get (size := size) _ (fun r hr => by rw [(List.mem_replicate.1 hr).2]; simpa using hz) (q / size) (q % size) hm, List.getElem?_replicate, if_pos hd]
        rw [← e1]
        rfl
      rw [this]
      simp [madeCells, hq, hz]
      rw [Array.getElem?_eq_getElem (by omega), getElem!_pos z.cells (q % size) (by omega)]
    · have l2 : (madeCells z.cells (n * size)).toList.length = n * size := by rw [Array.length_toList, size_madeCells]
      rw [List.getElem?_eq_none (by omega), List.getElem?_eq_none (by omega)]
  refine ⟨List.replicate n z.cells.toList, ?_, ?_⟩
  · rw [List.length_replicate, ← hf]; exact h
  · refine ⟨by simp, fun j r y h1 h2 => ?_⟩
    have e1 := (List.mem_replicate.1 (List.mem_of_getElem? h1)).2
    have e2 := (List.mem_replicate.1 (List.mem_of_getElem? h2)).2
    subst e1; subst e2
    exact ⟨by simpa using hz, hR⟩
end
end Go.Proofs.Ytpgpibojegjogaa
