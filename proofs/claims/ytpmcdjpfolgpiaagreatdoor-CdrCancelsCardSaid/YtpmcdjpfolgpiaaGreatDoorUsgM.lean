/-
  The energy of each minute: what is collected over the readings that have one behind them; valid readings.
-/
import Derived.Test.YtpmcdjpfolgpiaaGreatDoorUsgN
namespace Go.Proofs.YtpmcdjpfolgpiaaGreatDoor
namespace UsgW
set_option linter.unusedSimpArgs false
set_option linter.unusedVariables false
open Go.RowKit CalW TarW Usg

/-- The minutes between reading k and the next one. -/
def partsK (l : List Rdg) (m : Int) (k : Nat) : List Int := match l[k]?, l[k + 1]? with
  | some a, some b => parts (delta a.reg b.reg m) (b.at_ - a.at_).toNat
  | _, _ => []
def minTo (l : List Rdg) (m : Int) (ks : List Nat) : List Int := ks.flatMap (partsK l m)
theorem mins_eq (m : Int) : ∀ (l : List Rdg), mins m l = minTo l m (List.range (l.length - 1))
  | [] => rfl
  | [a] => rfl
  | a :: b :: l => by
    rw [mins, mins_eq m (b :: l)]
    unfold minTo
    rw [show (a :: b :: l).length - 1 = (b :: l).length - 1 + 1 by simp, List.range_succ_eq_map, List.flatMap_cons, List.flatMap_map]
    rfl
theorem minTo_snoc (l : List Rdg) (m : Int) (ks : List Nat) (k : Nat) : minTo l m (ks ++ [k]) = minTo l m ks ++ partsK l m k := by
  unfold minTo
  rw [List.flatMap_append]
  simp
theorem partsK_at {l : List Rdg} {m : Int} {k : Nat} (h : k + 1 < l.length) : partsK l m k = parts (delta l[k].reg l[k + 1].reg m) (l[k + 1].at_ - l[k].at_).toNat := by
  unfold partsK
  rw [List.getElem?_eq_getElem (by omega), List.getElem?_eq_getElem h]
theorem parts_succ (en : Int) (n k : Nat) : (List.range (k + 1)).map (fun (j : Nat) => Usg.part en (n : Int) (j : Int)) = (List.range k).map (fun (j : Nat) => Usg.part en (n : Int) (j : Int)) ++ [Usg.part en (n : Int) (k : Int)] := by
  rw [List.range_succ, List.map_append]
  rfl

/-- What valid readings are. -/
structure Good (l : List Rdg) (m : Int) : Prop where
  m1 : 1000 ≤ m
  m2 : m ≤ 1099511627776
  n1 : 0 < l.length
  n2 : l.length ≤ 1024
  ok : ∀ k (hk : k < l.length), 0 ≤ l[k].at_ ∧ l[k].at_ ≤ 268435456 ∧ 0 ≤ l[k].reg ∧ l[k].reg < m
  asc : ∀ k (hk : k + 1 < l.length), l[k].at_ < l[k + 1].at_
theorem scan_none {f : Nat → Int} {n : Nat} : ∀ (d k : Nat), n - k = d → scan f n k = 0 → ∀ j, k ≤ j → j < n → f j = 0 := by
  intro d
  induction d with
  | zero => intro k hd _ j h1 h2; omega
  | succ d ih =>
    intro k hd h j h1 h2
    by_cases h0 : f k = 0
    · rw [scan_next (by omega) h0] at h
      by_cases e : j = k
      · subst e; exact h0
      · exact ih (k + 1) (by omega) h j (by omega) h2
    · rw [scan_hit (by omega) h0] at h; exact absurd h h0
theorem good_of {l : List Rdg} {m : Int} (h : useE l m = 0) : Good l m := by
  unfold useE at h
  by_cases h1 : m < 1000 ∨ 1099511627776 < m
  · rw [if_pos h1] at h; cases h
  rw [if_neg h1] at h
  by_cases h2 : l.length = 0
  · rw [if_pos h2] at h; cases h
  rw [if_neg h2] at h
  by_cases h3 : 1024 < l.length
  · rw [if_pos h3] at h; cases h
  rw [if_neg h3] at h
  have hs := scan_none (l.length) 0 (by omega) h
  have hb : ∀ k (hk : k < l.length), ¬ (l[k].at_ < 0 ∨ 268435456 < l[k].at_ ∨ l[k].reg < 0 ∨ m ≤ l[k].reg) := by
    intro k hk hbad
    have := hs k (by omega) hk
    rw [rdg_bad hk hbad] at this
    cases this
  refine ⟨by omega, by omega, by omega, by omega, fun k hk => ?_, fun k hk => ?_⟩
  · have := hb k hk; omega
  · have h4 := hs (k + 1) (by omega) hk
    rw [rdg_next hk (hb _ hk)] at h4
    by_cases h5 : l[k + 1].at_ ≤ l[k].at_
    · rw [if_pos h5] at h4; cases h4
    · omega
theorem Good.mono {l : List Rdg} {m : Int} (h : Good l m) : ∀ (d i j : Nat) (hi : i < l.length) (hj : j < l.length), j - i = d → i ≤ j → l[i].at_ ≤ l[j].at_ := by
  intro d
  induction d with
  | zero => intro i j hi hj hd hij; obtain rfl : i = j := by omega
            exact Int.le_refl _
  | succ d ih =>
    intro i j hi hj hd hij
    obtain ⟨k, rfl⟩ : ∃ k, j = k + 1 := ⟨j - 1, by omega⟩
    have h1 := ih i k hi (by omega) (by omega) (by omega)
    have h2 := h.asc k hj
    omega
theorem span_at {l : List Rdg} (h : 0 < l.length) : span l = (l[l.length - 1]'(by omega)).at_ - l[0].at_ := by
  unfold span
  rw [List.head?_eq_getElem?, List.getElem?_eq_getElem h, List.getLast?_eq_getElem?, List.getElem?_eq_getElem (by omega)]
theorem Good.part {l : List Rdg} {m : Int} (h : Good l m) (hs : ¬ 20160 < span l) {k : Nat} (hk : k + 1 < l.length) : 0 < l[k + 1].at_ - l[k].at_ ∧ l[k + 1].at_ - l[k].at_ ≤ 20160 := by
  have h1 := h.mono _ 0 k h.n1 (by omega) rfl (by omega)
  have h2 := h.mono _ (k + 1) (l.length - 1) hk (by omega) rfl (by omega)
  have h3 := h.asc k hk
  rw [span_at h.n1] at hs
  omega
theorem minTo_len {l : List Rdg} {m : Int} (h : Good l m) (hs : ¬ 20160 < span l) : ∀ ks : List Nat, (minTo l m ks).length ≤ 20160 * ks.length
  | [] => by simp [minTo]
  | k :: ks => by
    have ih := minTo_len h hs ks
    have : (partsK l m k).length ≤ 20160 := by
      by_cases hk : k + 1 < l.length
      · have := h.part hs hk
        rw [partsK_at hk, parts_len]
        omega
      · unfold partsK
        rw [List.getElem?_eq_none (i := k + 1) (by omega)]
        cases l[k]? <;> simp
    unfold minTo at *
    rw [List.flatMap_cons, List.length_append, List.length_cons]
    omega
theorem mul_bd {en x : Int} (he : 0 ≤ en) (he2 : en ≤ 1099511627776) (hx : 0 ≤ x) (hx2 : x ≤ 20160) : 0 ≤ en * x ∧ en * x ≤ 22166154415964160 := by
  have h1 := Int.mul_nonneg he hx
  have h2 : en * x ≤ 1099511627776 * x := Int.mul_le_mul_of_nonneg_right he2 hx
  omega
end UsgW
end Go.Proofs.YtpmcdjpfolgpiaaGreatDoor
