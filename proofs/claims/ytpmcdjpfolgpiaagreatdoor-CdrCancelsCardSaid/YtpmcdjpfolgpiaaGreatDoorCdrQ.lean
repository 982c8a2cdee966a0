/-
  Plain facts about records of sessions; no program in sight.
-/
import Derived.Test.YtpmcdjpfolgpiaaGreatDoorCdrP
import Derived.Test.YtpmcdjpfolgpiaaGreatDoorUsgW
namespace Go.Proofs.YtpmcdjpfolgpiaaGreatDoor
namespace Cdr
set_option linter.unusedSimpArgs false
set_option linter.unusedVariables false
open Go.RowKit MonW TarW Usg UsgW CdrW

/-- The ways of a record's check. -/
structure RecE (r : Rec) (E : Int) : Prop where
  a : (IdW.identOk r.sta && IdW.identOk r.txn && IdW.identOk r.tok) = false → E = 4
  b : (IdW.identOk r.sta && IdW.identOk r.txn && IdW.identOk r.tok) = true → recHead r = false → E = 1
  c : (IdW.identOk r.sta && IdW.identOk r.txn && IdW.identOk r.tok) = true → recHead r = true → (headAt r.rds ≠ r.start ∨ lastAt r.rds ≠ r.stop) → E = 1
  d : (IdW.identOk r.sta && IdW.identOk r.txn && IdW.identOk r.tok) = true → recHead r = true → headAt r.rds = r.start → lastAt r.rds = r.stop → scan (ascF r.rds) r.rds.length 0 ≠ 0 → E = 1
  e : (IdW.identOk r.sta && IdW.identOk r.txn && IdW.identOk r.tok) = true → recHead r = true → headAt r.rds = r.start → lastAt r.rds = r.stop → scan (ascF r.rds) r.rds.length 0 = 0 → E = 0
theorem recE_re (r : Rec) : RecE r (recE r) := by
  constructor
  all_goals intros
  all_goals unfold recE
  · rw [if_pos (by assumption)]
  · rw [if_neg (by simp_all)]
    rw [if_neg (by simp_all)]
  · rw [if_neg (by simp_all), if_neg (by rintro h; simp at h; simp_all)]
  · rw [if_neg (by simp_all), if_neg (by rintro h; simp at h; simp_all)]
  · rw [if_neg (by simp_all), if_pos (by simp_all)]
theorem head_at {l : List Rdg} (h : 0 < l.length) : headAt l = l[0].at_ := by unfold headAt; rw [List.getElem?_eq_getElem h]
theorem last_at {l : List Rdg} (h : l.length - 1 < l.length) : lastAt l = l[l.length - 1].at_ := by unfold lastAt; rw [List.getElem?_eq_getElem h]
theorem scan_ne {f : Nat → Int} {n : Nat} : ∀ (d k j : Nat), j - k = d → k ≤ j → j < n → f j ≠ 0 → scan f n k ≠ 0 := by
  intro d
  induction d with
  | zero => intro k j hd hk hj hf; obtain rfl : k = j := by omega
            rw [scan_hit hj hf]; exact hf
  | succ d ih =>
    intro k j hd hk hj hf
    by_cases h0 : f k = 0
    · rw [scan_next (by omega) h0]; exact ih (k + 1) j (by omega) (by omega) hj hf
    · rw [scan_hit (by omega) h0]; exact h0
theorem scan_zero {f : Nat → Int} {n : Nat} : ∀ (d k : Nat), n - k = d → (∀ j, k ≤ j → j < n → f j = 0) → scan f n k = 0 := by
  intro d
  induction d with
  | zero => intro k hd h; exact scan_end (by omega)
  | succ d ih => intro k hd h; rw [scan_next (by omega) (h k (Nat.le_refl _) (by omega))]; exact ih (k + 1) (by omega) (fun j h1 h2 => h j (by omega) h2)

/-- What the reference asks of reading k. -/
def stepOk (l : List Rdg) (k : Nat) : Prop := ∃ x, l[k]? = some x ∧ 0 ≤ x.reg ∧ x.reg ≤ 1099511627776 ∧ (∀ j p, k = j + 1 → l[j]? = some p → p.at_ < x.at_)
theorem asc_mono {l : List Rdg} (h : ∀ k, k < l.length → stepOk l k) : ∀ (d i j : Nat) (hi : i < l.length) (hj : j < l.length), j - i = d → i ≤ j → l[i].at_ ≤ l[j].at_ := by
  intro d
  induction d with
  | zero => intro i j hi hj hd hij; obtain rfl : i = j := by omega
            exact Int.le_refl _
  | succ d ih =>
    intro i j hi hj hd hij
    obtain ⟨k, rfl⟩ : ∃ k, j = k + 1 := ⟨j - 1, by omega⟩
    obtain ⟨x, hx, _, _, hp⟩ := h (k + 1) hj
    have h1 := ih i k hi (by omega) (by omega) (by omega)
    have h2 := hp k l[k] rfl (List.getElem?_eq_getElem (by omega))
    rw [List.getElem?_eq_getElem hj] at hx
    obtain rfl := Option.some.inj hx
    omega
theorem asc_ok {l : List Rdg} (h0 : 0 < l.length) (h : ∀ k, k < l.length → stepOk l k) (h1 : 0 ≤ headAt l) (h2 : lastAt l ≤ 268435456) : scan (ascF l) l.length 0 = 0 := by
  refine scan_zero l.length 0 (by omega) fun j _ hj => ?_
  rw [head_at h0] at h1
  rw [last_at (by omega)] at h2
  have a1 := asc_mono h j 0 j h0 hj (by omega) (by omega)
  have a2 := asc_mono h (l.length - 1 - j) j (l.length - 1) hj (by omega) (by omega) (by omega)
  obtain ⟨x, hx, b1, b2, hp⟩ := h j hj
  rw [List.getElem?_eq_getElem hj] at hx
  obtain rfl := Option.some.inj hx
  have hnb : ¬ (l[j].at_ < 0 ∨ 268435456 < l[j].at_ ∨ l[j].reg < 0 ∨ 1099511627777 ≤ l[j].reg) := by omega
  unfold ascF
  rcases j with _ | j
  · exact rdg_first hj hnb
  · rw [rdg_next hj hnb, if_neg]
    have := hp j l[j] rfl (List.getElem?_eq_getElem (by omega))
    omega
theorem asc_no {l : List Rdg} {k : Nat} (hk : k < l.length) (h : ¬ stepOk l k) : scan (ascF l) l.length 0 ≠ 0 := by
  refine scan_ne k 0 k (by omega) (by omega) hk fun e => h ?_
  unfold ascF at e
  by_cases hb : l[k].at_ < 0 ∨ 268435456 < l[k].at_ ∨ l[k].reg < 0 ∨ 1099511627777 ≤ l[k].reg
  · rw [rdg_bad hk hb] at e; cases e
  · refine ⟨l[k], List.getElem?_eq_getElem hk, by omega, by omega, fun j p hj hp => ?_⟩
    subst hj
    rw [rdg_next hk hb] at e
    rw [List.getElem?_eq_getElem (by omega)] at hp
    obtain rfl := Option.some.inj hp
    by_cases hc : l[j + 1].at_ ≤ l[j].at_
    · rw [if_pos hc] at e; cases e
    · omega
theorem asc_head {l : List Rdg} (h0 : 0 < l.length) (h : headAt l < 0) : scan (ascF l) l.length 0 ≠ 0 := by
  refine scan_ne 0 0 0 (by omega) (by omega) h0 ?_
  rw [head_at h0] at h
  unfold ascF
  rw [rdg_bad h0 (.inl h)]
  decide
theorem asc_last {l : List Rdg} (h0 : 0 < l.length) (h : 268435456 < lastAt l) : scan (ascF l) l.length 0 ≠ 0 := by
  refine scan_ne (l.length - 1) 0 (l.length - 1) (by omega) (by omega) (by omega) ?_
  rw [last_at (by omega)] at h
  unfold ascF
  rw [rdg_bad (by omega) (.inr (.inl h))]
  decide
end Cdr
end Go.Proofs.YtpmcdjpfolgpiaaGreatDoor
