/-
  The plain law of prices: what a session's uses amount to, and its charges; no program in sight.
-/
import Derived.Test.YtndlhhiifmjieaaDoorTarG
import Derived.Test.YtndlhhiifmjieaaDoorTarV
import Derived.Test.YtndlhhiifmjieaaDoorTaxD
namespace Go.Proofs.YtndlhhiifmjieaaDoor
namespace Prc
set_option linter.unusedSimpArgs false
set_option linter.unusedVariables false
open TarW

/-- The element, and the component in it, of a kind under the restrictions that hold. -/
def place (P : Tar.Wh → Bool) (k : Int) : List Elem → Nat → Option (Nat × Comp)
  | [], _ => none
  | e :: es, j => match elemC P k e with
    | some c => some (j, c)
    | none => place P k es (j + 1)

structure St where
  (q : Int → Int → Int)
  (last : Int → Option (Nat × Int))
def st0 : St := ⟨fun _ _ => 0, fun _ => none⟩
def bump (q : Int → Int → Int) (j k n : Int) : Int → Int → Int := fun a b => if a = j ∧ b = k then q a b + n else q a b
def addS (es : List Elem) (P : Tar.Wh → Bool) (k n : Int) (st : St) : St :=
  if n ≤ 0 then st else match place P k es 0 with
    | none => st
    | some (j, c) => ⟨bump st.q j k n, fun b => if b = k then some (j, c.step) else st.last b⟩

structure Use where
  (en : Int) (idle : Bool)
  deriving DecidableEq
structure Cx where
  (z : Int) (s : Bool) (start : Int)
def Cx.P (c : Cx) (m en po : Int) : Tar.Wh → Bool := fun x => Tar.holds x c.z c.s (c.start + m) m en po
def enTo (us : List Use) (k : Nat) : Int := ((us.take k).map (·.en)).foldr (· + ·) 0
def pow0 (us : List Use) : Int := match us with
  | [] => 0
  | u :: _ => u.en
def minuteS (es : List Elem) (c : Cx) (m : Nat) (en : Int) (u : Use) (st : St) : St :=
  addS es (c.P m en u.en) (if u.idle then 4 else 3) 1 (addS es (c.P m en u.en) 2 u.en st)
def runTo (es : List Elem) (c : Cx) (us : List Use) : Nat → St
  | 0 => addS es (c.P 0 0 (pow0 us)) 1 1 st0
  | k + 1 => match us[k]? with
    | some u => minuteS es c k (enTo us k) u (runTo es c us k)
    | none => runTo es c us k

theorem enTo_succ {us : List Use} {k : Nat} (hk : k < us.length) : enTo us (k + 1) = enTo us k + us[k].en := by
  unfold enTo
  rw [List.take_succ_eq_append_getElem hk, List.map_append, List.foldr_append]
  have key : ∀ (l : List Int) (b : Int), l.foldr (· + ·) b = l.foldr (· + ·) 0 + b := by
    intro l
    induction l with
    | nil => intro b; simp
    | cons x l ih => intro b; rw [List.foldr_cons, List.foldr_cons, ih b]; omega
  rw [key]
  simp
theorem runTo_succ {es : List Elem} {c : Cx} {us : List Use} {k : Nat} (hk : k < us.length) : runTo es c us (k + 1) = minuteS es c k (enTo us k) us[k] (runTo es c us k) := by
  rw [runTo, List.getElem?_eq_getElem hk]

/-- Rounded up to a multiple of a step. -/
def up (n step : Int) : Int := if n % step = 0 then n else n + (step - n % step)
def roundK (k : Int) (st : St) : St := match st.last k with
  | none => st
  | some (j, step) => if step < 1 then st else ⟨fun a b => if a = j ∧ b = k then up (st.q a b) step else st.q a b, st.last⟩
def roundS (st : St) : St := roundK 4 (roundK 3 (roundK 2 st))

abbrev Chg0 := MonW.Chg
def chgOf (e : Elem) (i : Int) (q : Int → Int → Int) (k : Int) : List Chg0 := if q i k ≤ 0 then [] else match e.cs.find? (isK k) with
  | some c => [⟨k, c.price, c.tax, q i k⟩]
  | none => []
def chgsE (e : Elem) (i : Int) (q : Int → Int → Int) : List Chg0 := chgOf e i q 1 ++ (chgOf e i q 2 ++ (chgOf e i q 3 ++ chgOf e i q 4))
def chgs (q : Int → Int → Int) : List Elem → Nat → List Chg0
  | [], _ => []
  | e :: es, i => chgsE e i q ++ chgs q es (i + 1)

/-- The reference's charge of an element's kind. -/
def compR (e : Elem) (k : Int) : Comp := match e.cs.find? (isK k) with
  | some c => c
  | none => ⟨0, 0, 1, 0⟩
def qtyR (e : Elem) (i : Int) (st : St) (k : Int) : Int := if k ≠ 1 ∧ (st.last k).map (fun x => (x.1 : Int)) = some i then ((st.q i k + (compR e k).step - 1) / (compR e k).step) * (compR e k).step else st.q i k
def chgR (e : Elem) (i : Int) (st : St) (k : Int) : List Chg0 := if st.q i k = 0 then [] else [⟨k, (compR e k).price, (compR e k).tax, qtyR e i st k⟩]
def chgsR (e : Elem) (i : Int) (st : St) : List Chg0 := chgR e i st 1 ++ (chgR e i st 2 ++ (chgR e i st 3 ++ chgR e i st 4))
def rchgs (st : St) : List Elem → Nat → List Chg0
  | [], _ => []
  | e :: es, i => chgsR e i st ++ rchgs st es (i + 1)

/-- What is known of the sums. -/
structure Inv (es : List Elem) (T : Int) (st : St) : Prop where
  low : ∀ a b, 0 ≤ st.q a b
  high : ∀ a b, st.q a b ≤ T
  has : ∀ a b, st.q a b ≠ 0 → ∃ (j : Nat) (hj : j < es.length), a = j ∧ ∃ c, es[j].cs.find? (isK b) = some c
  last : ∀ k j step, st.last k = some (j, step) → ∃ hj : j < es.length, ∃ c, es[j].cs.find? (isK k) = some c ∧ c.step = step ∧ 0 < st.q j k

theorem place_spec {P : Tar.Wh → Bool} {k : Int} : ∀ (es : List Elem) (o : Nat) {j : Nat} {c : Comp}, place P k es o = some (j, c) → ∃ (i : Nat) (hi : i < es.length), j = o + i ∧ es[i].cs.find? (isK k) = some c
  | [], o, j, c, h => by simp [place] at h
  | e :: es, o, j, c, h => by
    unfold place at h
    cases he : elemC P k e with
    | some c' =>
      rw [he] at h
      simp at h
      obtain ⟨rfl, rfl⟩ := h
      refine ⟨0, by simp, by omega, ?_⟩
      unfold elemC at he
      split at he
      · simpa using he
      · cases he
    | none =>
      rw [he] at h
      obtain ⟨i, hi, e1, e2⟩ := place_spec es (o + 1) h
      exact ⟨i + 1, by simpa using hi, by omega, by simpa using e2⟩

theorem inv0 (es : List Elem) : Inv es 0 st0 := ⟨fun _ _ => Int.le_refl _, fun _ _ => Int.le_refl _, fun a b h => absurd rfl h, fun k j step h => by cases h⟩
theorem Inv.mono {es : List Elem} {T T' : Int} {st : St} (h : Inv es T st) (ht : T ≤ T') : Inv es T' st := ⟨h.low, fun a b => Int.le_trans (h.high a b) ht, h.has, h.last⟩
theorem Inv.add {es : List Elem} {T n k : Int} {P : Tar.Wh → Bool} {st : St} (h : Inv es T st) (hn : 0 ≤ n) : Inv es (T + n) (addS es P k n st) := by
  unfold addS
  by_cases h0 : n ≤ 0
  · rw [if_pos h0]; exact h.mono (by omega)
  · rw [if_neg h0]
    cases hp : place P k es 0 with
    | none => exact h.mono (by omega)
    | some jc =>
      obtain ⟨j, c⟩ := jc
      obtain ⟨i, hi, e1, e2⟩ := place_spec es 0 hp
      rw [Nat.zero_add] at e1
      subst e1
      refine ⟨fun a b => ?_, fun a b => ?_, fun a b hab => ?_, fun k' j' step hl => ?_⟩
      · show 0 ≤ bump st.q j k n a b
        unfold bump
        have := h.low a b
        split <;> omega
      · show bump st.q j k n a b ≤ T + n
        unfold bump
        have := h.high a b
        split <;> omega
      · by_cases he : a = j ∧ b = k
        · obtain ⟨rfl, rfl⟩ := he
          exact ⟨j, hi, rfl, c, e2⟩
        · have : st.q a b ≠ 0 := by
            have h1 : bump st.q j k n a b ≠ 0 := hab
            unfold bump at h1
            rw [if_neg he] at h1
            exact h1
          exact h.has a b this
      · have hl' : (if k' = k then some (j, c.step) else st.last k') = some (j', step) := hl
        by_cases hk : k' = k
        · subst hk
          rw [if_pos rfl] at hl'
          injection hl' with hl'
          injection hl' with e3 e4
          subst e3; subst e4
          refine ⟨hi, c, e2, rfl, ?_⟩
          show 0 < bump st.q j k' n j k'
          unfold bump
          rw [if_pos ⟨rfl, rfl⟩]
          have := h.low j k'
          omega
        · rw [if_neg hk] at hl'
          obtain ⟨hj, c', a1, a2, a3⟩ := h.last k' j' step hl'
          refine ⟨hj, c', a1, a2, ?_⟩
          show 0 < bump st.q j k n j' k'
          unfold bump
          rw [if_neg (fun x => hk x.2)]
          exact a3
theorem runTo_inv (es : List Elem) (c : Cx) (us : List Use) (hu : ∀ u ∈ us, 0 ≤ u.en ∧ u.en ≤ 1099511627776) : ∀ k, k ≤ us.length → Inv es (1 + k * 1099511627777) (runTo es c us k)
  | 0, _ => by
    have := (inv0 es).add (P := c.P 0 0 (pow0 us)) (k := 1) (n := 1) (by omega)
    exact this.mono (by omega)
  | k + 1, hk => by
    rw [runTo_succ (by omega)]
    have h1 := runTo_inv es c us hu k (by omega)
    have h2 := hu us[k] (List.getElem_mem (by omega))
    unfold minuteS
    exact ((h1.add h2.1).add (by omega)).mono (by omega)

theorem up_eq {n s : Int} (hn : 0 < n) (hs : 1 ≤ s) : (n + s - 1) / s * s = up n s := by
  unfold up
  have h1 := Int.emod_nonneg n (show s ≠ 0 by omega)
  have h2 := Int.emod_lt_of_pos n (show 0 < s by omega)
  have h3 := Int.mul_ediv_add_emod n s
  by_cases h0 : n % s = 0
  · rw [if_pos h0]
    have e1 : n + s - 1 = s * (n / s) + (s - 1) := by omega
    have e2 : (s - 1) / s = 0 := Int.ediv_eq_zero_of_lt (by omega) (by omega)
    rw [e1, Int.mul_add_ediv_left _ _ (by omega), e2, Int.add_zero, Int.mul_comm]
    omega
  · rw [if_neg h0]
    have e0 : s * (n / s + 1) = s * (n / s) + s := by rw [Int.mul_add, Int.mul_one]
    have e1 : n + s - 1 = s * (n / s + 1) + (n % s - 1) := by omega
    have e2 : (n % s - 1) / s = 0 := Int.ediv_eq_zero_of_lt (by omega) (by omega)
    rw [e1, Int.mul_add_ediv_left _ _ (by omega), e2, Int.add_zero, Int.mul_comm, e0]
    omega

def rndQ (st : St) (k a : Int) : Int := match st.last k with
  | none => st.q a k
  | some (j, step) => if a = j ∧ ¬ step < 1 then up (st.q a k) step else st.q a k
theorem roundK_last (k : Int) (st : St) : (roundK k st).last = st.last := by
  unfold roundK
  split
  · rfl
  · split <;> rfl
theorem roundK_same (k a : Int) (st : St) : (roundK k st).q a k = rndQ st k a := by
  unfold roundK rndQ
  cases h : st.last k with
  | none => rfl
  | some x =>
    obtain ⟨j, step⟩ := x
    simp only
    by_cases h0 : step < 1
    · rw [if_pos h0, if_neg (fun x => x.2 h0)]
    · rw [if_neg h0]
      simp only
      by_cases ha : a = j
      · rw [if_pos ⟨ha, trivial⟩, if_pos ⟨ha, h0⟩]
      · rw [if_neg (fun x => ha x.1), if_neg (fun x => ha x.1)]
theorem roundK_other (k a b : Int) (st : St) (hb : b ≠ k) : (roundK k st).q a b = st.q a b := by
  unfold roundK
  split
  · rfl
  · split
    · rfl
    · simp only
      rw [if_neg (fun x => hb x.2)]
theorem rndQ_other (k k' a : Int) (st : St) (hk : k' ≠ k) : rndQ (roundK k st) k' a = rndQ st k' a := by
  unfold rndQ
  rw [roundK_last]
  split
  · exact roundK_other k a k' st hk
  · rw [roundK_other k a k' st hk]
theorem roundS_q (st : St) (a b : Int) : (roundS st).q a b = if b = 2 ∨ b = 3 ∨ b = 4 then rndQ st b a else st.q a b := by
  unfold roundS
  by_cases h4 : b = 4
  · subst h4
    rw [roundK_same, rndQ_other 3 4 a _ (by decide), rndQ_other 2 4 a _ (by decide), if_pos (.inr (.inr rfl))]
  · rw [roundK_other 4 a b _ h4]
    by_cases h3 : b = 3
    · subst h3
      rw [roundK_same, rndQ_other 2 3 a _ (by decide), if_pos (.inr (.inl rfl))]
    · rw [roundK_other 3 a b _ h3]
      by_cases h2 : b = 2
      · subst h2
        rw [roundK_same, if_pos (.inl rfl)]
      · rw [roundK_other 2 a b _ h2, if_neg (by omega)]
theorem up_bd {n s : Int} (hs : 1 ≤ s) : n ≤ up n s ∧ up n s < n + s := by
  unfold up
  have h1 := Int.emod_nonneg n (show s ≠ 0 by omega)
  have h2 := Int.emod_lt_of_pos n (show 0 < s by omega)
  split <;> omega
theorem rndQ_bd (st : St) (k a S : Int) (hS : 1 ≤ S) (hs : ∀ j step, st.last k = some (j, step) → step ≤ S) : st.q a k ≤ rndQ st k a ∧ rndQ st k a < st.q a k + S := by
  unfold rndQ
  cases h : st.last k with
  | none => simp only; omega
  | some x =>
    obtain ⟨j, step⟩ := x
    simp only
    have := hs j step h
    split
    · rename_i hc
      have := up_bd (n := st.q a k) (s := step) (by omega)
      omega
    · omega

/-- The steps of a valid tariff's components. -/
def StepsOk (es : List Elem) : Prop := ∀ (j : Nat) (hj : j < es.length) (k : Int) (c : Comp), es[j].cs.find? (isK k) = some c → k ≠ 1 → 1 ≤ c.step ∧ c.step ≤ 1073741824

theorem chg_same {es : List Elem} {T : Int} {st : St} (hI : Inv es T st) (hv : StepsOk es) {i : Nat} (hi : i < es.length) {k : Int} (hk : 1 ≤ k ∧ k ≤ 4) : chgOf es[i] i (roundS st).q k = chgR es[i] i st k := by
  have hq := roundS_q st i k
  unfold chgOf chgR
  by_cases h0 : st.q i k = 0
  · rw [if_pos h0]
    have : (roundS st).q i k = 0 := by
      rw [hq]
      split
      · unfold rndQ
        cases hl : st.last k with
        | none => exact h0
        | some x =>
          obtain ⟨j, step⟩ := x
          simp only
          by_cases ha : (i : Int) = j ∧ ¬ step < 1
          · obtain ⟨_, c, _, _, h3⟩ := hI.last k j step hl
            rw [← ha.1] at h3
            omega
          · rw [if_neg ha]; exact h0
      · exact h0
    rw [if_pos (by omega)]
  · rw [if_neg h0]
    have hlow := hI.low i k
    obtain ⟨j, hj, e1, c, e2⟩ := hI.has i k h0
    have e3 : i = j := by omega
    subst e3
    have hc : compR es[i] k = c := by unfold compR; rw [e2]
    have hqq : (roundS st).q i k = qtyR es[i] i st k := by
      unfold qtyR
      rw [hq, hc]
      by_cases hk1 : k = 1
      · subst hk1
        rw [if_neg (by decide), if_neg (fun x => x.1 rfl)]
      · rw [if_pos (by omega)]
        unfold rndQ
        cases hl : st.last k with
        | none => rw [if_neg (fun x => by simp at x)]
        | some x =>
          obtain ⟨j, step⟩ := x
          simp only [Option.map_some]
          obtain ⟨hj', c', a1, a2, a3⟩ := hI.last k j step hl
          by_cases ha : (i : Int) = j
          · have e4 : i = j := by omega
            subst e4
            rw [e2] at a1
            injection a1 with a1
            subst a1
            obtain ⟨s1, s2⟩ := hv i hi k c e2 hk1
            subst a2
            rw [if_pos ⟨rfl, by omega⟩, if_pos ⟨hk1, rfl⟩, up_eq (by omega) s1]
          · rw [if_neg (fun x => ha x.1), if_neg (fun x => ha (by have := x.2; injection this with this; exact this.symm))]
    have hpos : ¬ (roundS st).q i k ≤ 0 := by
      rw [hq]
      have : st.q i k ≤ rndQ st k i ∨ True := .inr trivial
      split
      · unfold rndQ
        cases hl : st.last k with
        | none => simp only; omega
        | some x =>
          obtain ⟨j, step⟩ := x
          simp only
          split
          · rename_i hcnd
            have := (up_bd (n := st.q i k) (s := step) (by omega)).1
            omega
          · omega
      · omega
    rw [if_neg hpos, e2, hqq, hc]

theorem chgs_same {es : List Elem} {T : Int} {st : St} (hI : Inv es T st) (hv : StepsOk es) : ∀ (ds : List Elem) (o : Nat), (∀ i (hi : i < ds.length), ∃ h : o + i < es.length, ds[i] = es[o + i]) → chgs (roundS st).q ds o = rchgs st ds o
  | [], o, _ => rfl
  | e :: ds, o, h => by
    obtain ⟨h1, h2⟩ := h 0 (by simp)
    simp only [List.getElem_cons_zero, Nat.add_zero] at h2 h1
    have hd : ∀ i (hi : i < ds.length), ∃ h : o + 1 + i < es.length, ds[i] = es[o + 1 + i] := by
      intro i hi
      obtain ⟨h3, h4⟩ := h (i + 1) (by simpa using hi)
      refine ⟨by omega, ?_⟩
      simp only [List.getElem_cons_succ] at h4
      rw [h4]
      congr 1
      omega
    rw [chgs, rchgs, chgs_same hI hv ds (o + 1) hd]
    congr 1
    unfold chgsE chgsR
    rw [h2, chg_same hI hv h1 (by omega), chg_same hI hv h1 (by omega), chg_same hI hv h1 (by omega), chg_same hI hv h1 (by omega)]
/-- THE PLAIN LAW: the program's charges are the reference's. -/
theorem charges_same {es : List Elem} {T : Int} {st : St} (hI : Inv es T st) (hv : StepsOk es) : chgs (roundS st).q es 0 = rchgs st es 0 :=
  chgs_same hI hv es 0 (fun i hi => ⟨by omega, by congr 1; omega⟩)
end Prc
end Go.Proofs.YtndlhhiifmjieaaDoor
