/-
  The plain law of prices: what a session's uses amount to, and its charges; no program in sight.
  A map whose keys are structs of two integers and whose elements are integers: it reads as a function; looked up, an entry made, an entry written. Over any program.
  The data of prices: uses, a session in memory; worlds that keep all but two blocks; the walk of price.has.
  The walk of the session's find.
-/
import Derived.Test.YtpmcdjpfolgpiaaGreatDoorTarJ
import Derived.Test.YtpmcdjpfolgpiaaGreatDoorTarV
import Derived.Test.YtpmcdjpfolgpiaaGreatDoorTaxD
import Derived.Maps.Keyed
import Derived.WideKeyEntry
import Derived.DeepKeys4
import Derived.Below
import Derived.Test.YtpmcdjpfolgpiaaGreatDoorBase
import Derived.Deep.LoopGhost
import Derived.Deep.DeepCutAuto
import Derived.Deep.RegionHeld3
import Derived.IntWalk
namespace Go.Proofs.YtpmcdjpfolgpiaaGreatDoor
namespace Prc
set_option linter.unusedSimpArgs false
set_option linter.unusedVariables false
open TarW

/-- The element, and the component in it, of a kind under the restrictions that hold. -/
def place (P : Tar.Wh → Bool) (k : Int) : List Elem → Nat → Option (Nat × Comp)
  | [], _ => none
  | e :: es, j => match elemC P k e with
    | some c => some (j, c)
    | none => place P k es (j + 1)

structure St where
  (q : Int → Int → Int)
  (last : Int → Option (Nat × Int))
def st0 : St := ⟨fun _ _ => 0, fun _ => none⟩
def bump (q : Int → Int → Int) (j k n : Int) : Int → Int → Int := fun a b => if a = j ∧ b = k then q a b + n else q a b
def addS (es : List Elem) (P : Tar.Wh → Bool) (k n : Int) (st : St) : St :=
  if n ≤ 0 then st else match place P k es 0 with
    | none => st
    | some (j, c) => ⟨bump st.q j k n, fun b => if b = k then some (j, c.step) else st.last b⟩

structure Use where
  (en : Int) (idle : Bool)
  deriving DecidableEq
structure Cx where
  (z : Int) (s : Bool) (start : Int)
def Cx.P (c : Cx) (m en po : Int) : Tar.Wh → Bool := fun x => Tar.holds x c.z c.s (c.start + m) m en po
def enTo (us : List Use) (k : Nat) : Int := ((us.take k).map (·.en)).foldr (· + ·) 0
def pow0 (us : List Use) : Int := match us with
  | [] => 0
  | u :: _ => u.en
def minuteS (es : List Elem) (c : Cx) (m : Nat) (en : Int) (u : Use) (st : St) : St :=
  addS es (c.P m en u.en) (if u.idle then 4 else 3) 1 (addS es (c.P m en u.en) 2 u.en st)
def runTo (es : List Elem) (c : Cx) (us : List Use) : Nat → St
  | 0 => addS es (c.P 0 0 (pow0 us)) 1 1 st0
  | k + 1 => match us[k]? with
    | some u => minuteS es c k (enTo us k) u (runTo es c us k)
    | none => runTo es c us k

theorem enTo_succ {us : List Use} {k : Nat} (hk : k < us.length) : enTo us (k + 1) = enTo us k + us[k].en := by
  unfold enTo
  rw [List.take_succ_eq_append_getElem hk, List.map_append, List.foldr_append]
  have key : ∀ (l : List Int) (b : Int), l.foldr (· + ·) b = l.foldr (· + ·) 0 + b := by
    intro l
    induction l with
    | nil => intro b; simp
    | cons x l ih => intro b; rw [List.foldr_cons, List.foldr_cons, ih b]; omega
  rw [key]
  simp
theorem runTo_succ {es : List Elem} {c : Cx} {us : List Use} {k : Nat} (hk : k < us.length) : runTo es c us (k + 1) = minuteS es c k (enTo us k) us[k] (runTo es c us k) := by
  rw [runTo, List.getElem?_eq_getElem hk]

/-- Rounded up to a multiple of a step. -/
def up (n step : Int) : Int := if n % step = 0 then n else n + (step - n % step)
def roundK (k : Int) (st : St) : St := match st.last k with
  | none => st
  | some (j, step) => if step < 1 then st else ⟨fun a b => if a = j ∧ b = k then up (st.q a b) step else st.q a b, st.last⟩
def roundS (st : St) : St := roundK 4 (roundK 3 (roundK 2 st))

abbrev Chg0 := MonW.Chg
def chgOf (e : Elem) (i : Int) (q : Int → Int → Int) (k : Int) : List Chg0 := if q i k ≤ 0 then [] else match e.cs.find? (isK k) with
  | some c => [⟨k, c.price, c.tax, q i k⟩]
  | none => []
def chgsE (e : Elem) (i : Int) (q : Int → Int → Int) : List Chg0 := chgOf e i q 1 ++ (chgOf e i q 2 ++ (chgOf e i q 3 ++ chgOf e i q 4))
def chgs (q : Int → Int → Int) : List Elem → Nat → List Chg0
  | [], _ => []
  | e :: es, i => chgsE e i q ++ chgs q es (i + 1)

/-- The reference's charge of an element's kind. -/
def compR (e : Elem) (k : Int) : Comp := match e.cs.find? (isK k) with
  | some c => c
  | none => ⟨0, 0, 1, 0⟩
def qtyR (e : Elem) (i : Int) (st : St) (k : Int) : Int := if k ≠ 1 ∧ (st.last k).map (fun x => (x.1 : Int)) = some i then ((st.q i k + (compR e k).step - 1) / (compR e k).step) * (compR e k).step else st.q i k
def chgR (e : Elem) (i : Int) (st : St) (k : Int) : List Chg0 := if st.q i k = 0 then [] else [⟨k, (compR e k).price, (compR e k).tax, qtyR e i st k⟩]
def chgsR (e : Elem) (i : Int) (st : St) : List Chg0 := chgR e i st 1 ++ (chgR e i st 2 ++ (chgR e i st 3 ++ chgR e i st 4))
def rchgs (st : St) : List Elem → Nat → List Chg0
  | [], _ => []
  | e :: es, i => chgsR e i st ++ rchgs st es (i + 1)

/-- What is known of the sums. -/
structure Inv (es : List Elem) (T : Int) (st : St) : Prop where
  low : ∀ a b, 0 ≤ st.q a b
  high : ∀ a b, st.q a b ≤ T
  has : ∀ a b, st.q a b ≠ 0 → ∃ (j : Nat) (hj : j < es.length), a = j ∧ ∃ c, es[j].cs.find? (isK b) = some c
  last : ∀ k j step, st.last k = some (j, step) → ∃ hj : j < es.length, ∃ c, es[j].cs.find? (isK k) = some c ∧ c.step = step ∧ 0 < st.q j k

theorem place_spec {P : Tar.Wh → Bool} {k : Int} : ∀ (es : List Elem) (o : Nat) {j : Nat} {c : Comp}, place P k es o = some (j, c) → ∃ (i : Nat) (hi : i < es.length), j = o + i ∧ es[i].cs.find? (isK k) = some c
  | [], o, j, c, h => by simp [place] at h
  | e :: es, o, j, c, h => by
    unfold place at h
    cases he : elemC P k e with
    | some c' =>
      rw [he] at h
      simp at h
      obtain ⟨rfl, rfl⟩ := h
      refine ⟨0, by simp, by omega, ?_⟩
      unfold elemC at he
      split at he
      · simpa using he
      · cases he
    | none =>
      rw [he] at h
      obtain ⟨i, hi, e1, e2⟩ := place_spec es (o + 1) h
      exact ⟨i + 1, by simpa using hi, by omega, by simpa using e2⟩

theorem inv0 (es : List Elem) : Inv es 0 st0 := ⟨fun _ _ => Int.le_refl _, fun _ _ => Int.le_refl _, fun a b h => absurd rfl h, fun k j step h => by cases h⟩
theorem Inv.mono {es : List Elem} {T T' : Int} {st : St} (h : Inv es T st) (ht : T ≤ T') : Inv es T' st := ⟨h.low, fun a b => Int.le_trans (h.high a b) ht, h.has, h.last⟩
theorem Inv.add {es : List Elem} {T n k : Int} {P : Tar.Wh → Bool} {st : St} (h : Inv es T st) (hn : 0 ≤ n) : Inv es (T + n) (addS es P k n st) := by
  unfold addS
  by_cases h0 : n ≤ 0
  · rw [if_pos h0]; exact h.mono (by omega)
  · rw [if_neg h0]
    cases hp : place P k es 0 with
    | none => exact h.mono (by omega)
    | some jc =>
      obtain ⟨j, c⟩ := jc
      obtain ⟨i, hi, e1, e2⟩ := place_spec es 0 hp
      rw [Nat.zero_add] at e1
      subst e1
      refine ⟨fun a b => ?_, fun a b => ?_, fun a b hab => ?_, fun k' j' step hl => ?_⟩
      · show 0 ≤ bump st.q j k n a b
        unfold bump
        have := h.low a b
        split <;> omega
      · show bump st.q j k n a b ≤ T + n
        unfold bump
        have := h.high a b
        split <;> omega
      · by_cases he : a = j ∧ b = k
        · obtain ⟨rfl, rfl⟩ := he
          exact ⟨j, hi, rfl, c, e2⟩
        · have : st.q a b ≠ 0 := by
            have h1 : bump st.q j k n a b ≠ 0 := hab
            unfold bump at h1
            rw [if_neg he] at h1
            exact h1
          exact h.has a b this
      · have hl' : (if k' = k then some (j, c.step) else st.last k') = some (j', step) := hl
        by_cases hk : k' = k
        · subst hk
          rw [if_pos rfl] at hl'
          injection hl' with hl'
          injection hl' with e3 e4
          subst e3; subst e4
          refine ⟨hi, c, e2, rfl, ?_⟩
          show 0 < bump st.q j k' n j k'
          unfold bump
          rw [if_pos ⟨rfl, rfl⟩]
          have := h.low j k'
          omega
        · rw [if_neg hk] at hl'
          obtain ⟨hj, c', a1, a2, a3⟩ := h.last k' j' step hl'
          refine ⟨hj, c', a1, a2, ?_⟩
          show 0 < bump st.q j k n j' k'
          unfold bump
          rw [if_neg (fun x => hk x.2)]
          exact a3
theorem runTo_inv (es : List Elem) (c : Cx) (us : List Use) (hu : ∀ u ∈ us, 0 ≤ u.en ∧ u.en ≤ 1099511627776) : ∀ k, k ≤ us.length → Inv es (1 + k * 1099511627777) (runTo es c us k)
  | 0, _ => by
    have := (inv0 es).add (P := c.P 0 0 (pow0 us)) (k := 1) (n := 1) (by omega)
    exact this.mono (by omega)
  | k + 1, hk => by
    rw [runTo_succ (by omega)]
    have h1 := runTo_inv es c us hu k (by omega)
    have h2 := hu us[k] (List.getElem_mem (by omega))
    unfold minuteS
    exact ((h1.add h2.1).add (by omega)).mono (by omega)

theorem up_eq {n s : Int} (hn : 0 < n) (hs : 1 ≤ s) : (n + s - 1) / s * s = up n s := by
  unfold up
  have h1 := Int.emod_nonneg n (show s ≠ 0 by omega)
  have h2 := Int.emod_lt_of_pos n (show 0 < s by omega)
  have h3 := Int.mul_ediv_add_emod n s
  by_cases h0 : n % s = 0
  · rw [if_pos h0]
    have e1 : n + s - 1 = s * (n / s) + (s - 1) := by omega
    have e2 : (s - 1) / s = 0 := Int.ediv_eq_zero_of_lt (by omega) (by omega)
    rw [e1, Int.mul_add_ediv_left _ _ (by omega), e2, Int.add_zero, Int.mul_comm]
    omega
  · rw [if_neg h0]
    have e0 : s * (n / s + 1) = s * (n / s) + s := by rw [Int.mul_add, Int.mul_one]
    have e1 : n + s - 1 = s * (n / s + 1) + (n % s - 1) := by omega
    have e2 : (n % s - 1) / s = 0 := Int.ediv_eq_zero_of_lt (by omega) (by omega)
    rw [e1, Int.mul_add_ediv_left _ _ (by omega), e2, Int.add_zero, Int.mul_comm, e0]
    omega

def rndQ (st : St) (k a : Int) : Int := match st.last k with
  | none => st.q a k
  | some (j, step) => if a = j ∧ ¬ step < 1 then up (st.q a k) step else st.q a k
theorem roundK_last (k : Int) (st : St) : (roundK k st).last = st.last := by
  unfold roundK
  split
  · rfl
  · split <;> rfl
theorem roundK_same (k a : Int) (st : St) : (roundK k st).q a k = rndQ st k a := by
  unfold roundK rndQ
  cases h : st.last k with
  | none => rfl
  | some x =>
    obtain ⟨j, step⟩ := x
    simp only
    by_cases h0 : step < 1
    · rw [if_pos h0, if_neg (fun x => x.2 h0)]
    · rw [if_neg h0]
      simp only
      by_cases ha : a = j
      · rw [if_pos ⟨ha, trivial⟩, if_pos ⟨ha, h0⟩]
      · rw [if_neg (fun x => ha x.1), if_neg (fun x => ha x.1)]
theorem roundK_other (k a b : Int) (st : St) (hb : b ≠ k) : (roundK k st).q a b = st.q a b := by
  unfold roundK
  split
  · rfl
  · split
    · rfl
    · simp only
      rw [if_neg (fun x => hb x.2)]
theorem rndQ_other (k k' a : Int) (st : St) (hk : k' ≠ k) : rndQ (roundK k st) k' a = rndQ st k' a := by
  unfold rndQ
  rw [roundK_last]
  split
  · exact roundK_other k a k' st hk
  · rw [roundK_other k a k' st hk]
theorem roundS_q (st : St) (a b : Int) : (roundS st).q a b = if b = 2 ∨ b = 3 ∨ b = 4 then rndQ st b a else st.q a b := by
  unfold roundS
  by_cases h4 : b = 4
  · subst h4
    rw [roundK_same, rndQ_other 3 4 a _ (by decide), rndQ_other 2 4 a _ (by decide), if_pos (.inr (.inr rfl))]
  · rw [roundK_other 4 a b _ h4]
    by_cases h3 : b = 3
    · subst h3
      rw [roundK_same, rndQ_other 2 3 a _ (by decide), if_pos (.inr (.inl rfl))]
    · rw [roundK_other 3 a b _ h3]
      by_cases h2 : b = 2
      · subst h2
        rw [roundK_same, if_pos (.inl rfl)]
      · rw [roundK_other 2 a b _ h2, if_neg (by omega)]
theorem up_bd {n s : Int} (hs : 1 ≤ s) : n ≤ up n s ∧ up n s < n + s := by
  unfold up
  have h1 := Int.emod_nonneg n (show s ≠ 0 by omega)
  have h2 := Int.emod_lt_of_pos n (show 0 < s by omega)
  split <;> omega
/-- The steps of a valid tariff's components. -/
def StepsOk (es : List Elem) : Prop := ∀ (j : Nat) (hj : j < es.length) (k : Int) (c : Comp), es[j].cs.find? (isK k) = some c → k ≠ 1 → 1 ≤ c.step ∧ c.step ≤ 1073741824

theorem chg_same {es : List Elem} {T : Int} {st : St} (hI : Inv es T st) (hv : StepsOk es) {i : Nat} (hi : i < es.length) {k : Int} (hk : 1 ≤ k ∧ k ≤ 4) : chgOf es[i] i (roundS st).q k = chgR es[i] i st k := by
  have hq := roundS_q st i k
  unfold chgOf chgR
  by_cases h0 : st.q i k = 0
  · rw [if_pos h0]
    have : (roundS st).q i k = 0 := by
      rw [hq]
      split
      · unfold rndQ
        cases hl : st.last k with
        | none => exact h0
        | some x =>
          obtain ⟨j, step⟩ := x
          simp only
          by_cases ha : (i : Int) = j ∧ ¬ step < 1
          · obtain ⟨_, c, _, _, h3⟩ := hI.last k j step hl
            rw [← ha.1] at h3
            omega
          · rw [if_neg ha]; exact h0
      · exact h0
    rw [if_pos (by omega)]
  · rw [if_neg h0]
    have hlow := hI.low i k
    obtain ⟨j, hj, e1, c, e2⟩ := hI.has i k h0
    have e3 : i = j := by omega
    subst e3
    have hc : compR es[i] k = c := by unfold compR; rw [e2]
    have hqq : (roundS st).q i k = qtyR es[i] i st k := by
      unfold qtyR
      rw [hq, hc]
      by_cases hk1 : k = 1
      · subst hk1
        rw [if_neg (by decide), if_neg (fun x => x.1 rfl)]
      · rw [if_pos (by omega)]
        unfold rndQ
        cases hl : st.last k with
        | none => rw [if_neg (fun x => by simp at x)]
        | some x =>
          obtain ⟨j, step⟩ := x
          simp only [Option.map_some]
          obtain ⟨hj', c', a1, a2, a3⟩ := hI.last k j step hl
          by_cases ha : (i : Int) = j
          · have e4 : i = j := by omega
            subst e4
            rw [e2] at a1
            injection a1 with a1
            subst a1
            obtain ⟨s1, s2⟩ := hv i hi k c e2 hk1
            subst a2
            rw [if_pos ⟨rfl, by omega⟩, if_pos ⟨hk1, rfl⟩, up_eq (by omega) s1]
          · rw [if_neg (fun x => ha x.1), if_neg (fun x => ha (by have := x.2; injection this with this; exact this.symm))]
    have hpos : ¬ (roundS st).q i k ≤ 0 := by
      rw [hq]
      have : st.q i k ≤ rndQ st k i ∨ True := .inr trivial
      split
      · unfold rndQ
        cases hl : st.last k with
        | none => simp only; omega
        | some x =>
          obtain ⟨j, step⟩ := x
          simp only
          split
          · rename_i hcnd
            have := (up_bd (n := st.q i k) (s := step) (by omega)).1
            omega
          · omega
      · omega
    rw [if_neg hpos, e2, hqq, hc]

theorem chgs_same {es : List Elem} {T : Int} {st : St} (hI : Inv es T st) (hv : StepsOk es) : ∀ (ds : List Elem) (o : Nat), (∀ i (hi : i < ds.length), ∃ h : o + i < es.length, ds[i] = es[o + i]) → chgs (roundS st).q ds o = rchgs st ds o
  | [], o, _ => rfl
  | e :: ds, o, h => by
    obtain ⟨h1, h2⟩ := h 0 (by simp)
    simp only [List.getElem_cons_zero, Nat.add_zero] at h2 h1
    have hd : ∀ i (hi : i < ds.length), ∃ h : o + 1 + i < es.length, ds[i] = es[o + 1 + i] := by
      intro i hi
      obtain ⟨h3, h4⟩ := h (i + 1) (by simpa using hi)
      refine ⟨by omega, ?_⟩
      simp only [List.getElem_cons_succ] at h4
      rw [h4]
      congr 1
      omega
    rw [chgs, rchgs, chgs_same hI hv ds (o + 1) hd]
    congr 1
    unfold chgsE chgsR
    rw [h2, chg_same hI hv h1 (by omega), chg_same hI hv h1 (by omega), chg_same hI hv h1 (by omega), chg_same hI hv h1 (by omega)]
/-- THE PLAIN LAW: the program's charges are the reference's. -/
theorem charges_same {es : List Elem} {T : Int} {st : St} (hI : Inv es T st) (hv : StepsOk es) : chgs (roundS st).q es 0 = rchgs st es 0 :=
  chgs_same hI hv es 0 (fun i hi => ⟨by omega, by congr 1; omega⟩)
end Prc
end Go.Proofs.YtpmcdjpfolgpiaaGreatDoor

namespace Go.Proofs.YtpmcdjpfolgpiaaGreatDoor
namespace Map2
set_option linter.unusedVariables false
open Go.ChangeMaps Go.WideElems Go.RowKit

abbrev I64 (n : Int) : Prop := -9223372036854775808 ≤ n ∧ n ≤ 9223372036854775807
def key2 (a b : Int) : Value := .agg #[.int .i64 a, .int .i64 b]
theorem key2_inj {a b c d : Int} (h : key2 a b = key2 c d) : a = c ∧ b = d := by
  unfold key2 at h
  injection h with h
  simpa using h

structure Keyd (P : Program) (k : TypeId) : Prop where
  K : Maps.Keyed P k
  lit : ∀ a b : Int, I64 a → I64 b → ∃ l, keyOf P k (key2 a b) = some l

def Ent (q : Int → Int → Int) (e : MapEntry) : Prop := ∃ a b, I64 a ∧ I64 b ∧ e.key = key2 a b ∧ e.val = .int .i64 (q a b)
structure Fits (es : Array MapEntry) (clock : Nat) (q : Int → Int → Int) : Prop where
  ent : ∀ e ∈ es.toList, Ent q e
  keys : ∀ (i j : Nat) (e e' : MapEntry), es.toList[i]? = some e → es.toList[j]? = some e' → e.key = e'.key → i = j
  born : (es.toList.map (·.born)).Nodup
  lt : ∀ e ∈ es.toList, e.born < clock
  rest : ∀ a b : Int, (∀ e ∈ es.toList, e.key ≠ key2 a b) → q a b = 0
def MapAt (w : World) (M : Nat) (q : Int → Int → Int) : Prop := ∃ es clock, w.heap[M]? = some (.map es clock) ∧ Fits es clock q

def setQ (q : Int → Int → Int) (a b n : Int) : Int → Int → Int := fun x y => if x = a ∧ y = b then n else q x y

theorem fits_empty : Fits #[] 0 (fun _ _ => 0) := ⟨fun e h => by simp at h, fun i j e e' h => by simp at h, by simp, fun e h => by simp at h, fun _ _ _ => rfl⟩

section
variable {P : Program} {w : World} {t k e : TypeId} {M : Nat} {q : Int → Int → Int} {es : Array MapEntry} {clock : Nat}
theorem MapAt.lt (h : MapAt w M q) : M < w.heap.size := by
  obtain ⟨es, c, h, _⟩ := h
  exact (Array.getElem?_eq_some_iff.1 h).1

theorem MapAt.kept {w' : World} (h : MapAt w M q) (hb : Below w.heap.size w w') : MapAt w' M q := by
  have := h.lt
  obtain ⟨es, c, h, F⟩ := h
  exact ⟨es, c, (hb.block M this).trans h, F⟩
theorem MapAt.same {w' : World} (h : MapAt w M q) (hb : w'.heap[M]? = w.heap[M]?) : MapAt w' M q := by
  obtain ⟨es, c, h, F⟩ := h
  exact ⟨es, c, hb.trans h, F⟩

theorem Fits.lits (F : Fits es clock q) (K : Keyd P k) : ∀ x ∈ es.toList, ∃ l, keyOf P k x.key = some l := by
  intro x hx
  obtain ⟨a, b, ha, hb, hk, _⟩ := F.ent x hx
  rw [hk]
  exact K.lit a b ha hb

theorem look (K : Keyd P k) (ht : P.underlying t = some (.map k e)) (hz : (zeroValue e).run P w = .ok (.int .i64 0) w) (h : MapAt w M q) {a b : Int} (ha : I64 a) (hb : I64 b) :
    (Instr.lookup t (.map (some M)) (key2 a b) false).run P w = .ok (.int .i64 (q a b)) w := by
  obtain ⟨es, clock, hh, F⟩ := h
  obtain ⟨l, hkey⟩ := K.lit a b ha hb
  rcases K.K.find w hkey es.toList (F.lits K) with ⟨h1, h2⟩ | ⟨j, e0, h1, h2, h3⟩
  · rw [F.rest a b h2]
    simp [Instr.lookup, run_underlying ht, MapKept.run_getObj_map hh, K.K.check w _ hkey, h1, hz, Result.andThen]
  · obtain ⟨a', b', _, _, hk, hv⟩ := F.ent e0 (List.mem_of_getElem? h2)
    rw [h3] at hk
    obtain ⟨rfl, rfl⟩ := key2_inj hk
    simp [Instr.lookup, run_underlying ht, MapKept.run_getObj_map hh, K.K.check w _ hkey, h1, hv, Result.andThen]

theorem fits_push (F : Fits es clock q) {a b n : Int} (ha : I64 a) (hb : I64 b) (h : ∀ x ∈ es.toList, x.key ≠ key2 a b) : Fits (es.push ⟨key2 a b, .int .i64 n, clock⟩) (clock + 1) (setQ q a b n) := by
  refine ⟨fun x hx => ?_, fun i j x x' hi hj he => ?_, ?_, fun x hx => ?_, fun c d hcd => ?_⟩
  · simp only [Array.toList_push, List.mem_append, List.mem_singleton] at hx
    rcases hx with hx | rfl
    · obtain ⟨c, d, hc, hd, hk, hv⟩ := F.ent x hx
      refine ⟨c, d, hc, hd, hk, ?_⟩
      have : ¬ (c = a ∧ d = b) := fun hcd => h x hx (by rw [hk, hcd.1, hcd.2])
      unfold setQ
      rw [if_neg this, hv]
    · refine ⟨a, b, ha, hb, rfl, ?_⟩
      unfold setQ
      rw [if_pos ⟨rfl, rfl⟩]
  · simp only [Array.toList_push] at hi hj
    rcases Nat.lt_or_ge i es.toList.length with h1 | h1
    · rw [List.getElem?_append_left h1] at hi
      rcases Nat.lt_or_ge j es.toList.length with h2 | h2
      · rw [List.getElem?_append_left h2] at hj
        exact F.keys i j x x' hi hj he
      · rw [List.getElem?_append_right h2] at hj
        have e1 := List.mem_of_getElem? hj
        simp only [List.mem_singleton] at e1
        subst e1
        exact absurd he (h x (List.mem_of_getElem? hi))
    · rw [List.getElem?_append_right h1] at hi
      have e0 := List.mem_of_getElem? hi
      simp only [List.mem_singleton] at e0
      subst e0
      rcases Nat.lt_or_ge j es.toList.length with h2 | h2
      · rw [List.getElem?_append_left h2] at hj
        exact absurd he.symm (h x' (List.mem_of_getElem? hj))
      · rw [List.getElem?_append_right h2] at hj
        have l1 := (List.getElem?_eq_some_iff.1 hi).1
        have l2 := (List.getElem?_eq_some_iff.1 hj).1
        simp at l1 l2
        simp at h1 h2
        omega
  · simp only [Array.toList_push, List.map_append, List.map_cons, List.map_nil]
    refine List.nodup_append.2 ⟨F.born, by simp, fun a ha c hc e1 => ?_⟩
    simp only [List.mem_singleton] at hc
    obtain ⟨x, hx, rfl⟩ := List.mem_map.1 ha
    have := F.lt x hx
    omega
  · simp only [Array.toList_push, List.mem_append, List.mem_singleton] at hx
    rcases hx with hx | rfl
    · have := F.lt x hx; omega
    · simp
  · have h1 : ¬ (c = a ∧ d = b) := fun x => hcd ⟨key2 a b, .int .i64 n, clock⟩ (by simp) (by rw [x.1, x.2])
    unfold setQ
    rw [if_neg h1]
    exact F.rest c d (fun x hx => hcd x (by simp [hx]))

theorem fits_set (F : Fits es clock q) {a b n : Int} {j : Nat} {e0 : MapEntry} (hj : es.toList[j]? = some e0) (hk : e0.key = key2 a b) : Fits (es.modify j (fun x => { x with val := .int .i64 n })) clock (setQ q a b n) := by
  have hl : (es.modify j (fun x => { x with val := .int .i64 n })).toList = es.toList.set j { e0 with val := .int .i64 n } := by
    rw [Array.toList_modify, modify_eq_set _ _ _ _ hj]
  have hjl : j < es.toList.length := (List.getElem?_eq_some_iff.1 hj).1
  obtain ⟨a', b', ha, hb, hk', hv⟩ := F.ent e0 (List.mem_of_getElem? hj)
  rw [hk] at hk'
  obtain ⟨rfl, rfl⟩ := key2_inj hk'
  have hget : ∀ i x, (es.toList.set j { e0 with val := .int .i64 n })[i]? = some x → ∃ y, es.toList[i]? = some y ∧ x.key = y.key ∧ x.born = y.born ∧ ((i = j ∧ x.val = .int .i64 n) ∨ (i ≠ j ∧ x = y)) := by
    intro i x hx
    rw [List.getElem?_set] at hx
    split at hx
    · rename_i e1
      subst e1
      injection hx with hx
      subst hx
      exact ⟨e0, hj, rfl, rfl, .inl ⟨rfl, rfl⟩⟩
    · rename_i e1
      exact ⟨x, hx, rfl, rfl, .inr ⟨fun h => e1 h.symm, rfl⟩⟩
  refine ⟨fun x hx => ?_, fun i i' x x' hi hi' he => ?_, ?_, fun x hx => ?_, fun c d hcd => ?_⟩
  · rw [hl] at hx
    obtain ⟨i, hi⟩ := List.getElem?_of_mem hx
    obtain ⟨y, hy, h1, h2, h3⟩ := hget i x hi
    obtain ⟨c, d, hc, hd, hkk, hvv⟩ := F.ent y (List.mem_of_getElem? hy)
    refine ⟨c, d, hc, hd, h1.trans hkk, ?_⟩
    rcases h3 with ⟨rfl, h3⟩ | ⟨h3, rfl⟩
    · rw [hj] at hy
      injection hy with hy
      subst hy
      rw [hk] at hkk
      obtain ⟨rfl, rfl⟩ := key2_inj hkk
      unfold setQ
      rw [if_pos ⟨rfl, rfl⟩, h3]
    · have : ¬ (c = a ∧ d = b) := fun hcd => h3 (F.keys i j x e0 hy hj (by rw [hkk, hk, hcd.1, hcd.2]))
      unfold setQ
      rw [if_neg this, hvv]
  · rw [hl] at hi hi'
    obtain ⟨y, hy, h1, _⟩ := hget i x hi
    obtain ⟨y', hy', h1', _⟩ := hget i' x' hi'
    exact F.keys i i' y y' hy hy' (by rw [← h1, ← h1', he])
  · rw [hl]
    have : (es.toList.set j { e0 with val := .int .i64 n }).map (·.born) = es.toList.map (·.born) := by
      apply List.ext_getElem?
      intro i
      rw [List.getElem?_map, List.getElem?_map]
      cases hx : (es.toList.set j { e0 with val := .int .i64 n })[i]? with
      | none =>
        rw [List.getElem?_eq_none_iff, List.length_set] at hx
        rw [List.getElem?_eq_none hx]
      | some x =>
        obtain ⟨y, hy, _, h2, _⟩ := hget i x hx
        rw [hy]
        simp [h2]
    rw [this]
    exact F.born
  · rw [hl] at hx
    obtain ⟨i, hi⟩ := List.getElem?_of_mem hx
    obtain ⟨y, hy, _, h2, _⟩ := hget i x hi
    rw [h2]
    exact F.lt y (List.mem_of_getElem? hy)
  · have hno : ∀ y ∈ es.toList, y.key ≠ key2 c d := by
      intro y hy hyk
      obtain ⟨i, hi⟩ := List.getElem?_of_mem hy
      have hil : i < es.toList.length := (List.getElem?_eq_some_iff.1 hi).1
      have hx : (es.toList.set j { e0 with val := .int .i64 n })[i]? = some ((es.toList.set j { e0 with val := .int .i64 n })[i]'(by rw [List.length_set]; exact hil)) := List.getElem?_eq_getElem _
      obtain ⟨y', hy', h1, _⟩ := hget i _ hx
      rw [hi] at hy'
      injection hy' with hy'
      subst hy'
      exact hcd _ (by rw [hl]; exact List.mem_of_getElem? hx) (h1.trans hyk)
    have h1 : ¬ (c = a ∧ d = b) := fun x => hno e0 (List.mem_of_getElem? hj) (by rw [hk, x.1, x.2])
    unfold setQ
    rw [if_neg h1]
    exact F.rest c d hno

theorem setQ_self (q : Int → Int → Int) (a b : Int) : setQ q a b (q a b) = q := by
  funext x y
  unfold setQ
  split
  · rename_i h; rw [h.1, h.2]
  · rfl
theorem heap_setBlock {w : World} {M : Nat} {o : Obj} (h : M < w.heap.size) : (setBlock w M o).heap[M]? = some o := by
  unfold setBlock
  simp [h]

/-- 'm[k] op= n': the entry, and its element. -/
theorem entry (K : Keyd P k) (ht : P.underlying t = some (.map k e)) (hz : ∀ u : World, (zeroValue e).run P u = .ok (.int .i64 0) u) (h : MapAt w M q) {a b : Int} (ha : I64 a) (hb : I64 b) :
    ∃ (st : Nat) (o : Obj), (Instr.mapEntry t (.map (some M)) (key2 a b)).run P w = .ok (.tuple #[.int .i64 (q a b), goInt st]) (setBlock w M o) ∧ MapAt (setBlock w M o) M q ∧
      ∀ (w2 : World) (n : Int), w2.heap[M]? = some o → ∃ o', (Instr.entryStore t (.map (some M)) (goInt st) (.int .i64 n)).run P w2 = .ok () (setBlock w2 M o') ∧ MapAt (setBlock w2 M o') M (setQ q a b n) := by
  have hM := h.lt
  obtain ⟨es, clock, hh, F⟩ := h
  obtain ⟨l, hkey⟩ := K.lit a b ha hb
  rcases K.K.find w hkey es.toList (F.lits K) with ⟨h1, h2⟩ | ⟨j, e0, h1, h2, h3⟩
  · have h0 := F.rest a b h2
    have F1 := fits_push F (n := 0) ha hb h2
    have eq : setQ q a b 0 = q := by rw [← h0]; exact setQ_self q a b
    rw [eq] at F1
    refine ⟨clock, .map (es.push ⟨key2 a b, .int .i64 0, clock⟩) (clock + 1), ?_, ⟨_, _, heap_setBlock hM, F1⟩, fun w2 n hw2 => ?_⟩
    · rw [h0]
      simp [Instr.mapEntry, run_underlying ht, MapKept.run_getObj_map hh, K.K.check w false hkey, h1, hz, MapKept.run_setObj_map _ hh, Result.andThen, setBlock]
    · have hlast : (es.push ⟨key2 a b, .int .i64 0, clock⟩).toList[es.size]? = some ⟨key2 a b, .int .i64 0, clock⟩ := by simp
      have hidx : (es.push ⟨key2 a b, .int .i64 0, clock⟩).findIdx? (fun e => ((e.born : Nat) : Int) == ((clock : Nat) : Int)) = some es.size := by
        rw [findIdx_arr]
        exact findIdx_born F1.born hlast
      refine ⟨.map ((es.push ⟨key2 a b, .int .i64 0, clock⟩).modify es.size (fun x => { x with val := .int .i64 n })) (clock + 1), ?_, ⟨_, _, heap_setBlock (Array.getElem?_eq_some_iff.1 hw2).1, fits_set F1 hlast rfl⟩⟩
      simp [Instr.entryStore, MapKept.run_getObj_map hw2, asInt, asIntOf, goInt, hidx, MapKept.run_setObj_map _ hw2, Result.andThen, setBlock]
  · have hj : es[j]? = some e0 := by simpa using h2
    obtain ⟨a', b', _, _, hk, hv⟩ := F.ent e0 (List.mem_of_getElem? h2)
    rw [h3] at hk
    obtain ⟨rfl, rfl⟩ := key2_inj hk
    have hsame : es.modify j (fun e => { e with key := key2 a b }) = es := by
      apply Array.ext'
      rw [Array.toList_modify, modify_eq_set _ _ _ _ h2]
      have : ({ e0 with key := key2 a b } : MapEntry) = e0 := by rw [← h3]
      rw [this]
      exact set_self _ _ _ h2
    refine ⟨e0.born, .map es clock, ?_, ⟨_, _, heap_setBlock hM, F⟩, fun w2 n hw2 => ?_⟩
    · simp [Instr.mapEntry, run_underlying ht, MapKept.run_getObj_map hh, K.K.check w false hkey, h1, hj, h3, hv, K.K.stays w hkey, hsame, MapKept.run_setObj_map _ hh, Result.andThen, setBlock]
    · have hidx : es.findIdx? (fun e => ((e.born : Nat) : Int) == ((e0.born : Nat) : Int)) = some j := by
        rw [findIdx_arr]
        exact findIdx_born F.born h2
      refine ⟨.map (es.modify j (fun x => { x with val := .int .i64 n })) clock, ?_, ⟨_, _, heap_setBlock (Array.getElem?_eq_some_iff.1 hw2).1, fits_set F h2 h3⟩⟩
      simp [Instr.entryStore, MapKept.run_getObj_map hw2, asInt, asIntOf, goInt, hidx, MapKept.run_setObj_map _ hw2, Result.andThen, setBlock]
end
end Map2
end Go.Proofs.YtpmcdjpfolgpiaaGreatDoor

namespace Go.Proofs.YtpmcdjpfolgpiaaGreatDoor
namespace PriW
set_option linter.unusedSimpArgs false
set_option linter.unusedVariables false
open Go.RowKit CalW TarW Prc Go.ChangeShapes Go.WideShapes Go.Deep

/-- All blocks but some are kept. -/
structure Kp (S : Nat → Prop) (w w' : World) : Prop where
  os : w'.os = w.os
  tape : w'.tape = w.tape
  output : w'.output = w.output
  size : w.heap.size ≤ w'.heap.size
  block : ∀ k, k < w.heap.size → ¬ S k → w'.heap[k]? = w.heap[k]?
section
variable {S : Nat → Prop} {a w w' : World}
theorem Kp.refl : Kp S w w := ⟨rfl, rfl, rfl, Nat.le_refl _, fun _ _ _ => rfl⟩
theorem Kp.trans (h : Kp S a w) (k : Kp S w w') : Kp S a w' := ⟨k.os.trans h.os, k.tape.trans h.tape, k.output.trans h.output, Nat.le_trans h.size k.size, fun q hq hn => (k.block q (Nat.lt_of_lt_of_le hq h.size) hn).trans (h.block q hq hn)⟩
theorem Kp.of (h : Below w.heap.size w w') : Kp S w w' := ⟨h.os, h.tape, h.output, h.size, fun k hk _ => h.block k hk⟩
theorem Kp.call (h : Kp S a w) (hb : Below w.heap.size w w') : Kp S a w' := h.trans (Kp.of hb)
theorem Kp.blk {g : Nat} {t : TypeId} {cs : Array Value} (h : Kp S w w') (hb : Blk w g t cs) (hg : ¬ S g) : Blk w' g t cs := (h.block g hb.lt hg).trans hb
theorem Kp.below {B : Nat} {w0 : World} (h : Kp S w w') (hb : Below B w0 w) (hB : B ≤ w.heap.size) (hS : ∀ k, S k → B ≤ k) : Below B w0 w' :=
  ⟨h.os.trans hb.os, h.tape.trans hb.tape, h.output.trans hb.output, Nat.le_trans hb.size h.size, fun k hk => (h.block k (Nat.lt_of_lt_of_le hk hB) (fun hs => by have := hS k hs; omega)).trans (hb.block k hk)⟩
theorem Kp.set {g o : Nat} {u : Value} (hg : S g) : Kp S w (w.setCell ⟨g, o, none⟩ u) := ⟨rfl, rfl, rfl, by simp, fun k _ hn => heap_setCell_other w ⟨g, o, none⟩ k u (fun e => hn (by rw [e]; exact hg))⟩
theorem Kp.setB {g : Nat} {o : Obj} (hg : S g) : Kp S w (ChangeMaps.setBlock w g o) :=
  ⟨rfl, rfl, rfl, by simp [ChangeMaps.setBlock], fun k hk hn => by
    unfold ChangeMaps.setBlock
    exact Array.getElem?_setIfInBounds_ne (fun e => hn (by rw [← e]; exact hg))⟩
end

def UseR (r : List Value) (u : Prc.Use) : Prop := r = [i u.en, .bool u.idle] ∧ Map2.I64 u.en
def UsesAt (w : World) (v : Value) (us : List Prc.Use) : Prop := SliceAt UseR 2 w v us
theorem UsesAt.keep {w w' : World} {v : Value} {xs : List Prc.Use} (h : UsesAt w v xs) (hk : Kept w w') : UsesAt w' v xs := SliceAt.keep h hk (fun _ _ h => h)
theorem UsesAt.call {w w' : World} {v : Value} {xs : List Prc.Use} (h : UsesAt w v xs) (hb : Below w.heap.size w w') : UsesAt w' v xs := h.keep (Kept.of hb)
theorem UsesAt.at_ {w : World} {A : Option Addr} {n c j : Nat} {xs : List Prc.Use} (h : UsesAt w (.slice A n c) xs) (hj : j < xs.length) :
    ∃ b off, A = some ⟨b, off, none⟩ ∧ b < w.heap.size ∧ Map2.I64 xs[j].en ∧ ∀ W, Kept w W → W.cell? ⟨b, off + j * 2, none⟩ = some (i xs[j].en) ∧ W.cell? ⟨b, off + j * 2 + 1, none⟩ = some (.bool xs[j].idle) := by
  obtain ⟨b, off, r, rfl, hl, ⟨hr, ho⟩, hc⟩ := SliceAt.at_ h hj
  subst hr
  exact ⟨b, off, rfl, World.block_lt_of_cell? w _ (hc 0 _ rfl), ho, fun W hk => ⟨hk _ _ (hc 0 _ rfl), hk _ _ (hc 1 _ rfl)⟩⟩

abbrev La := Int → Option (Nat × Int)
def lE (l : La) (k : Int) : Int := match l k with | some (j, _) => j | none => 0
def lK (l : La) (k : Int) : Int := match l k with | some _ => k | none => 0
def lS (l : La) (k : Int) : Int := match l k with | some (_, s) => s | none => 0
def lB (l : La) (k : Int) : Bool := (l k).isSome
abbrev sessA (t : Trf) (u : Value) (c : Cx) (M : Nat) (l : La) : Array Value := #[.string t.id, .string t.cur, i t.ver, i t.fr, i t.to, u, i t.least, i t.most, i c.z, .bool c.s, i c.start, .map (some M),
  i (lE l 0), i (lK l 0), i (lS l 0), .bool (lB l 0), i (lE l 1), i (lK l 1), i (lS l 1), .bool (lB l 1), i (lE l 2), i (lK l 2), i (lS l 2), .bool (lB l 2), i (lE l 3), i (lK l 3), i (lS l 3), .bool (lB l 3), i (lE l 4), i (lK l 4), i (lS l 4), .bool (lB l 4)]
/-- The session's block B and its map M. -/
def SessAt (w : World) (B M : Nat) (t : Trf) (u : Value) (c : Cx) (st : St) : Prop := Blk w B 165 (sessA t u c M st.last) ∧ Map2.MapAt w M st.q
def two (B M : Nat) : Nat → Prop := fun k => k = B ∨ k = M

theorem any_take {cs : List Comp} {p : Comp → Bool} {k : Nat} (hk : k < cs.length) (h : cs.any p = (cs.drop k).any p) (hp : p cs[k] = false) : cs.any p = (cs.drop (k + 1)).any p := by
  rw [h, List.drop_eq_getElem_cons hk, List.any_cons, hp]
  rfl
theorem any_hit {cs : List Comp} {p : Comp → Bool} {k : Nat} (hk : k < cs.length) (hp : p cs[k] = true) : cs.any p = true := List.any_eq_true.2 ⟨cs[k], List.getElem_mem hk, hp⟩

set_option maxHeartbeats 1000000 in
theorem has (e : Elem) (v : Value) (k : Int) (w : World) (h : CompsAt w v e.cs) : Calls Tryz.prog 157 #[elemV v e.wh, i k] w fun r w' => r = .returned (.bool (e.cs.any (isK k))) ∧ Below w.heap.size w w' := by
  obtain ⟨A, c, rfl, h1, h2⟩ := SliceAt.form h
  unfold maxLen at h2
  obtain ⟨cs, x⟩ := e
  simp only at *
  have HB0 := Lib.hid (below_new w (.cells #[.slice A cs.length c, i x.s, i x.e, i x.d, i x.f, i x.t, i x.e0, i x.e1, i x.p0, i x.p1, i x.t0, i x.t1] 65))
  have HC := Lib.hid h
  clear h
  go_enter Tryz.func157, Tryz.ntmps157
  go_wp2_with fail
  go_loopg [10] cs.length (fun gg s10 wr => ∃ kk : Nat, kk ≤ cs.length ∧ cs.length - kk ≤ gg ∧ s10 = i kk ∧ Hid (Below w.heap.size w wr) ∧ Hid (cs.any (isK k) = (cs.drop kk).any (isK k)))
  case atStart => exact ⟨0, Nat.zero_le _, by omega, rfl, HB0, rfl⟩
  case round =>
    obtain ⟨kk, hkk, hg, rfl, BW, HA⟩ := hrel
    clear HB0
    by_cases hlt : kk < cs.length
    · have hltz : (kk : Int) < (cs.length : Int) := by omega
      obtain ⟨b, off, rfl, _, hrow⟩ := CompsAt.at_ HC.out hlt
      obtain ⟨l0, l1, l2, l3⟩ := hrow wr (Kept.of BW.out)
      clear hrow
      have HNO := Lib.hid (any_take hlt HA.out)
      have HYES := Lib.hid (@any_hit cs (isK k) kk hlt)
      unfold isK at HNO HYES
      generalize cs[kk] = y at *
      cases hy : (y.kind == k) with
      | true =>
        have HF := Lib.hid (HYES.out hy)
        clear HNO HYES
        go_wp2_with fail
        go_ret
        exact ⟨congrArg (fun b => Ending.returned (.bool b)) HF.out.symm, below_alloc BW.out _⟩
      | false =>
        have HF := Lib.hid (HNO.out hy)
        clear HNO HYES
        go_wp2_with fail
        go_roundg (cs.length - (kk + 1))
        case measure => omega
        case rel => exact ⟨kk + 1, by omega, by omega, by go_num, below_alloc BW.out _, HF⟩
    · have hltz : ¬ (kk : Int) < (cs.length : Int) := by omega
      have hke : kk = cs.length := by omega
      subst hke
      rw [List.drop_length] at HA
      have HF := Lib.hid HA.out
      go_wp2_with fail
      go_ret
      exact ⟨congrArg (fun b => Ending.returned (.bool b)) HF.out.symm, BW.out⟩
end PriW
end Go.Proofs.YtpmcdjpfolgpiaaGreatDoor

namespace Go.Proofs.YtpmcdjpfolgpiaaGreatDoor
namespace PriW
set_option linter.unusedSimpArgs false
set_option linter.unusedVariables false
open Go.RowKit CalW TarW Prc

def FinB (W w' : World) : Prop := Below W.heap.size W w'
theorem newCall {W wx : World} {cs : Array Value} {t : TypeId} (h : Below (W.alloc (.cells cs t)).drew.heap.size (W.alloc (.cells cs t)).drew wx) : (∀ o, wx.cell? ⟨W.heap.size, o, none⟩ = cs[o]?) ∧ (∀ o, wx.frozen? ⟨W.heap.size, o, none⟩ = false) ∧ W.heap.size < wx.heap.size ∧ Blk wx W.heap.size t cs :=
  have hk : Blk wx W.heap.size t cs := (Blk.new W t cs).drew.call h
  ⟨hk.cell, hk.frozen, hk.lt, hk⟩
theorem elems_sub {w : World} {b off n c j : Nat} {es : List Elem} (h : ElemsAt w (.slice (some ⟨b, off, none⟩) n c) es) (hj : j < es.length) : ElemsAt w (.slice (some ⟨b, off + j * 12, none⟩) 1 (c - j)) [es[j]] := by
  obtain ⟨A, k, e, h1, h2, h0, h3⟩ := h
  injection e with e1 e2 e3
  subst e1; subst e3
  refine ⟨some ⟨b, off + j * 12, none⟩, c - j, rfl, by simp; omega, by omega, (fun h => by cases h), fun q x hx => ?_⟩
  match q, hx with
  | 0, hx =>
    have e4 : es[j] = x := by simpa using hx
    obtain ⟨b', off', r, a1, a2, a3, a4⟩ := h3 j es[j] (List.getElem?_eq_getElem hj)
    injection a1 with a1
    injection a1 with a1 a5
    subst a1; subst a5
    exact ⟨b, off + j * 12, r, rfl, a2, e4 ▸ a3, fun o u hu => by simpa using a4 o u hu⟩

def idxO : Option (Nat × Comp) → Int | some (j, _) => j | none => 0
theorem place_end (P : Tar.Wh → Bool) (k : Int) (es : List Elem) (j o : Nat) (hj : es.length ≤ j) : place P k (es.drop j) o = none := by
  rw [List.drop_eq_nil_of_le hj]; rfl
theorem place_no {P : Tar.Wh → Bool} {k : Int} {es : List Elem} {j o : Nat} (hj : j < es.length) (h : elemC P k es[j] = none) : place P k (es.drop j) o = place P k (es.drop (j + 1)) (o + 1) := by
  rw [List.drop_eq_getElem_cons hj, place, h]
theorem place_yes {P : Tar.Wh → Bool} {k : Int} {es : List Elem} {j o : Nat} {c : Comp} (hj : j < es.length) (h : elemC P k es[j] = some c) : place P k (es.drop j) o = some (o, c) := by
  rw [List.drop_eq_getElem_cons hj, place, h]
theorem find_any {cs : List Comp} {p : Comp → Bool} (h : cs.any p = false) : cs.find? p = none := by
  rw [List.find?_eq_none]
  intro x hx
  have := List.any_eq_false.1 h x hx
  simpa using this
def FPost (o : Option (Nat × Comp)) (w : World) (e : Ending) (w' : World) : Prop := e = .returned (.tuple #[compV (compO (o.map (·.2))), i (idxO o), .bool o.isSome]) ∧ Below w.heap.size w w'
theorem findC_one (P : Tar.Wh → Bool) (k : Int) (e : Elem) : findC P k [e] = elemC P k e := by
  unfold findC
  rw [List.findSome?_cons]
  cases elemC P k e <;> rfl
/-- Behind 'c, ok := tariff.Find(..)'. -/
def FcR (W : World) (z : Comp) (ok : Bool) (s8 s9 : Value) (wc : World) : Prop := ∃ g, s8 = .pointer (some ⟨g, 0, none⟩) ∧ s9 = .bool ok ∧ W.heap.size ≤ g ∧ Blk wc g 82 #[i z.kind, i z.price, i z.step, i z.tax] ∧ Below W.heap.size W wc

theorem MonB (cs : List Comp) (p : Comp → Bool) : cs.any p = false ∨ cs.any p = true := by cases cs.any p <;> simp
set_option maxRecDepth 100000 in
set_option maxHeartbeats 4000000 in
theorem find (B M : Nat) (t : Trf) (u : Value) (c : Cx) (l : La) (k m en po : Int) (w : World) (hB : Blk w B 165 (sessA t u c M l)) (ht : Tab w) (h : ElemsAt w u t.els) (hst : 0 ≤ c.start) (hst' : c.start ≤ 268435456) (hm : 0 ≤ m) (hm' : m ≤ 1000000) :
    Calls Tryz.prog 144 #[.pointer (some ⟨B, 0, none⟩), i k, i m, i en, i po] w (FPost (place (c.P m en po) k t.els 0) w) := by
  obtain ⟨A, cp, rfl, h1, h2⟩ := SliceAt.form h
  unfold maxLen at h2
  obtain ⟨P, hP⟩ : ∃ P : Tar.Wh → Bool, P = c.P m en po := ⟨_, rfl⟩
  have HP := Lib.hid hP
  rw [← hP]
  clear hP
  obtain ⟨es, hes⟩ : ∃ es : List Elem, t.els = es := ⟨_, rfl⟩
  rw [hes] at h h1 hB ⊢
  clear hes
  have HE := Lib.hid h
  have HT := Lib.hid ht
  have HBK := Lib.hid hB
  have bc := hB.cell
  have bl := hB.lt
  clear h ht hB
  have HB0 := Lib.hid (below_new w (.cells #[.int .i64 0, .int .i64 0, .int .i64 0, .int .i64 0] 82))
  have HK0 := Lib.hid (Blk.new w 82 #[.int .i64 0, .int .i64 0, .int .i64 0, .int .i64 0])
  go_enter Tryz.func144, Tryz.ntmps144
  go_wp2_with fail
  clear bc
  go_loopg [24] es.length (fun gg s24 wr => ∃ kk : Nat, kk ≤ es.length ∧ es.length - kk ≤ gg ∧ s24 = i kk ∧ Hid (Below (w.alloc (.cells #[.int .i64 0, .int .i64 0, .int .i64 0, .int .i64 0] 82)).heap.size (w.alloc (.cells #[.int .i64 0, .int .i64 0, .int .i64 0, .int .i64 0] 82)) wr) ∧ Hid (place P k es 0 = place P k (es.drop kk) kk))
  case atStart => exact ⟨0, Nat.zero_le _, by omega, rfl, Below.refl _ _, rfl⟩
  case round =>
    obtain ⟨kk, hkk, hg, rfl, BW, HA⟩ := hrel
    have BWW := Lib.hid (below_call HB0.out BW.out)
    have hk0 := HK0.out.call BW.out
    have HKR := Lib.hid hk0
    have kc := hk0.cell
    have kf := hk0.frozen
    have kl := hk0.lt
    have HBR := Lib.hid (HBK.out.call BWW.out)
    have bc := HBR.out.cell
    have bl2 := HBR.out.lt
    clear hk0
    by_cases hlt : kk < es.length
    · have hltz : (kk : Int) < (es.length : Int) := by omega
      have hkz : (0 : Int) ≤ (kk : Int) := by omega
      obtain ⟨b, off, u1, rfl, _, hu, hrow⟩ := ElemsAt.at_ HE.out hlt
      obtain ⟨l0, l1, l2, l3, l4, l5, l6, l7, l8, l9, l10, l11⟩ := hrow wr (Kept.of BWW.out)
      have HSUB := Lib.hid (elems_sub HE.out hlt)
      have HNO := Lib.hid (@place_no P k es kk kk hlt)
      have HYES := Lib.hid (fun c => @place_yes P k es kk kk c hlt)
      clear hrow
      obtain ⟨A1, c1, rfl, h3, h4⟩ := SliceAt.form hu
      have HU := Lib.hid hu
      clear hu
      generalize es[kk] = y at *
      unfold maxLen at h4
      have HHAS := Lib.hid (fun (W : World) (hb : Below w.heap.size w W) => has y _ k W (HU.out.call hb))
      rcases MonB y.cs (isK k) with hy | hy
      · rw [hy] at HHAS
        have HF := Lib.hid (HA.out.trans (HNO.out (elemC_none (find_any hy))))
        clear HNO HYES hy
        have hb1 := below_alloc BWW.out (.cells #[.slice A1 y.cs.length c1, i y.wh.s, i y.wh.e, i y.wh.d, i y.wh.f, i y.wh.t, i y.wh.e0, i y.wh.e1, i y.wh.p0, i y.wh.p1, i y.wh.t0, i y.wh.t1] 65)
        have HB1 := Lib.hid hb1
        clear hb1
        go_wp2_with fail
        refine (HHAS.out _ HB1.out).mono ?_
        rintro e w1 ⟨rfl, hb2⟩
        go_wp2_with fail
        go_roundg (es.length - (kk + 1))
        case measure => omega
        case rel => exact ⟨kk + 1, by omega, by omega, by go_num, below_call (below_alloc BW.out _) hb2, HF⟩
      · rw [hy] at HHAS
        clear hy
        have hb1 := below_alloc BWW.out (.cells #[.slice A1 y.cs.length c1, i y.wh.s, i y.wh.e, i y.wh.d, i y.wh.f, i y.wh.t, i y.wh.e0, i y.wh.e1, i y.wh.p0, i y.wh.p1, i y.wh.t0, i y.wh.t1] 65)
        have HB1 := Lib.hid hb1
        clear hb1
        go_wp2_with fail
        refine (HHAS.out _ HB1.out).mono ?_
        rintro e w1 ⟨rfl, hb2⟩
        have HB2 := Lib.hid (below_call HB1.out hb2)
        have hbb := (HBR.out.alloc (.cells #[.slice A1 y.cs.length c1, i y.wh.s, i y.wh.e, i y.wh.d, i y.wh.f, i y.wh.t, i y.wh.e0, i y.wh.e1, i y.wh.p0, i y.wh.p1, i y.wh.t0, i y.wh.t1] 65)).call hb2
        have HBB := Lib.hid hbb
        have HKK := Lib.hid ((HKR.out.alloc (.cells #[.slice A1 y.cs.length c1, i y.wh.s, i y.wh.e, i y.wh.d, i y.wh.f, i y.wh.t, i y.wh.e0, i y.wh.e1, i y.wh.p0, i y.wh.p1, i y.wh.t0, i y.wh.t1] 65)).call hb2)
        clear bc l0 l1 l2 l3 l4 l5 l6 l7 l8 l9 l10 l11 kc kf
        have bc := hbb.cell
        have bl3 := hbb.lt
        clear hbb
        have HFIND : Hid (∀ W, Below w.heap.size w W → Calls Tryz.prog 158 #[trfV ⟨⟨#[]⟩, ⟨#[]⟩, 0, 0, 0, [y], 0, 0⟩ (.slice (some ⟨b, off + kk * 12, none⟩) 1 (cp - kk)), zone c.z c.s, i k, i (c.start + m), i m, i en, i po] W (FindPost (elemC P k y) W)) := by
          intro W hb
          have := find_ ⟨⟨#[]⟩, ⟨#[]⟩, 0, 0, 0, [y], 0, 0⟩ (.slice (some ⟨b, off + kk * 12, none⟩) 1 (cp - kk)) c.z c.s k (c.start + m) m en po W (HT.out.below hb HT.out.lt) (HSUB.out.call hb)
          rw [show findC (fun x => Tar.holds x c.z c.s (c.start + m) m en po) k [y] = elemC P k y by rw [HP.out]; exact findC_one _ _ _] at this
          exact this
        unfold FindPost at HFIND
        have HW : Hid ((elemC P k y = none ∧ place P k es 0 = place P k (es.drop (kk + 1)) (kk + 1)) ∨ ∃ z, elemC P k y = some z ∧ place P k es 0 = some (kk, z)) := by
          cases hE : elemC P k y with
          | none => exact .inl ⟨rfl, HA.out.trans (HNO.out hE)⟩
          | some z => exact .inr ⟨z, rfl, HA.out.trans (HYES.out z hE)⟩
        clear HNO HYES
        generalize elemC P k y = o at *
        generalize hz : compO o = z at HFIND
        generalize hok : o.isSome = ok at HFIND
        have HZ := Lib.hid (And.intro hz hok)
        clear hz hok
        go_upto_region 6 with (fail)
        have HK1 := Lib.hid (Blk.new w1 36 #[.string ⟨#[]⟩, .string ⟨#[]⟩, i 0, i 0, i 0, .slice (some ⟨b, off + kk * 12, none⟩) 1 (cp - kk), i 0, i 0])
        have HB3 := Lib.hid (below_alloc HB2.out (.cells #[.string ⟨#[]⟩, .string ⟨#[]⟩, i 0, i 0, i 0, .slice (some ⟨b, off + kk * 12, none⟩) 1 (cp - kk), i 0, i 0] 36))
        have HBB3 := Lib.hid (HBB.out.alloc (.cells #[.string ⟨#[]⟩, .string ⟨#[]⟩, i 0, i 0, i 0, .slice (some ⟨b, off + kk * 12, none⟩) 1 (cp - kk), i 0, i 0] 36))
        have HKK3 := Lib.hid (HKK.out.alloc (.cells #[.string ⟨#[]⟩, .string ⟨#[]⟩, i 0, i 0, i 0, .slice (some ⟨b, off + kk * 12, none⟩) 1 (cp - kk), i 0, i 0] 36))
        have HWB3 := Lib.hid (below_alloc (below_call (below_alloc BW.out (.cells #[.slice A1 y.cs.length c1, i y.wh.s, i y.wh.e, i y.wh.d, i y.wh.f, i y.wh.t, i y.wh.e0, i y.wh.e1, i y.wh.p0, i y.wh.p1, i y.wh.t0, i y.wh.t1] 65)) hb2) (.cells #[.string ⟨#[]⟩, .string ⟨#[]⟩, i 0, i 0, i 0, .slice (some ⟨b, off + kk * 12, none⟩) 1 (cp - kk), i 0, i 0] 36))
        clear bc bl3 hb2 HBB HKK HB2 HBR HKR BWW HB1
        generalize w1.alloc (.cells #[.string ⟨#[]⟩, .string ⟨#[]⟩, i 0, i 0, i 0, .slice (some ⟨b, off + kk * 12, none⟩) 1 (cp - kk), i 0, i 0] 36) = W2 at *
        generalize w1.heap.size = g1 at *
        have hS : ∀ w', Below W2.heap.size W2 w' → (∀ o, w'.cell? ⟨B, o, none⟩ = (sessA t (.slice (some ⟨b, off, none⟩) es.length cp) c M l)[o]?) ∧ (∀ o, w'.cell? ⟨g1, o, none⟩ = (#[.string ⟨#[]⟩, .string ⟨#[]⟩, i 0, i 0, i 0, .slice (some ⟨b, off + kk * 12, none⟩) 1 (cp - kk), i 0, i 0] : Array Value)[o]?) ∧ FinB W2 w' :=
          fun w' hb => ⟨(HBB3.out.call hb).cell, (HK1.out.call hb).cell, hb⟩
        have HSS := Lib.hid hS
        clear hS
        have hws : IntKind.i64.wrap (c.start + m) = c.start + m := IntWalk.i64_in _ (by omega)
        go_cut [16, 17] (fun s16 s17 wc => FcR W2 z ok s16 s17 wc)
        case first =>
          go_region_held3 (fun w' => (∀ o, w'.cell? ⟨B, o, none⟩ = (sessA t (.slice (some ⟨b, off, none⟩) es.length cp) c M l)[o]?) ∧ (∀ o, w'.cell? ⟨g1, o, none⟩ = (#[.string ⟨#[]⟩, .string ⟨#[]⟩, i 0, i 0, i 0, .slice (some ⟨b, off + kk * 12, none⟩) 1 (cp - kk), i 0, i 0] : Array Value)[o]?) ∧ FinB W2 w')
            (((with_reducible refine HSS.out _ ?_); (repeat (first | (with_reducible exact Below.refl _ _) | (with_reducible refine below_drewN' ?_ _) | (with_reducible refine Below.drew ?_) | (with_reducible refine Below.setCell ?_ (by first | (simp; done) | (simp; omega) | omega) _) | (with_reducible refine below_alloc ?_ _) | (with_reducible refine Below.alloc ?_ (by first | (simp; done) | (simp; omega) | omega) _) | (with_reducible exact hwx) | (with_reducible refine below_call ?_ hwx))); done))
            ((go_at_call 158; (with_reducible refine (HFIND.out _ ?hbx).mono ?_); (case hbx => (have hB3 := HB3.out; (repeat (first | (with_reducible exact Below.refl _ _) | (with_reducible refine below_drewN' ?_ _) | (with_reducible refine Below.drew ?_) | (with_reducible refine Below.setCell ?_ (by first | (simp; done) | (simp; omega) | omega) _) | (with_reducible refine below_alloc ?_ _) | (with_reducible refine Below.alloc ?_ (by first | (simp; done) | (simp; omega) | omega) _) | (with_reducible exact hB3) | (with_reducible refine below_call ?_ hB3))))); rintro e wx ⟨rfl, hwx⟩; (try (with_reducible have hk := newCall hwx; obtain ⟨hkc, hkf, hkl, hkk⟩ := hk))))
          · go_wp2_with fail
            go_meet
            refine ⟨_, rfl, rfl, ?_, Blk.new _ _ _, ?_⟩
            · have := hwx.size
              simpa using this
            · repeat (first | (with_reducible exact Below.refl _ _) | (with_reducible refine below_drewN' ?_ _) | (with_reducible refine Below.drew ?_) | (with_reducible refine Below.setCell ?_ (by first | (simp; done) | (simp; omega) | omega) _) | (with_reducible refine below_alloc ?_ _) | (with_reducible refine Below.alloc ?_ (by first | (simp; done) | (simp; omega) | omega) _) | (with_reducible exact hwx) | (with_reducible refine below_call ?_ hwx))
          · go_wp2_with fail
            go_meet
            refine ⟨_, rfl, rfl, Nat.le_refl _, ?_, ?_⟩
            · simpa using (((hkk.set_ 0 (i z.kind)).set_ 1 (i z.price)).set_ 2 (i z.step)).set_ 3 (i z.tax)
            · repeat (first | (with_reducible exact Below.refl _ _) | (with_reducible refine below_drewN' ?_ _) | (with_reducible refine Below.drew ?_) | (with_reducible refine Below.setCell ?_ (by first | (simp; done) | (simp; omega) | omega) _) | (with_reducible refine below_alloc ?_ _) | (with_reducible refine Below.alloc ?_ (by first | (simp; done) | (simp; omega) | omega) _) | (with_reducible exact hwx) | (with_reducible refine below_call ?_ hwx))
        case rest =>
          obtain ⟨g, rfl, rfl, hgl, hblk, hbc⟩ := hcut
          obtain ⟨w4, rfl⟩ : ∃ w4 : World, w4 = wc := ⟨_, rfl⟩
          have HBC := Lib.hid hbc
          have hgc := hblk.cell
          have hgl2 := hblk.lt
          have hkr := HKK3.out.call hbc
          have kc := hkr.cell
          have kf := hkr.frozen
          have kl2 := hkr.lt
          clear hblk hbc HSS hws
          rcases HW.out with ⟨e1, e2⟩ | ⟨x, e1, e2⟩
          · subst e1
            obtain ⟨hz, hok⟩ := HZ.out
            subst hz; subst hok
            have HF := Lib.hid e2
            clear e2 hkr kc kf HZ HW
            go_wp2_with fail
            go_roundg (es.length - (kk + 1))
            case measure => omega
            case rel => exact ⟨kk + 1, by omega, by omega, by go_num, below_call HWB3.out HBC.out, HF⟩
          · subst e1
            obtain ⟨hz, hok⟩ := HZ.out
            subst hz; subst hok
            have HF := Lib.hid e2
            have hB5 := below_call HB3.out HBC.out
            clear e2 HZ HW
            obtain ⟨x0, x1, x2, x3⟩ := x
            unfold compO at hgc
            simp only [Option.isSome] at *
            go_wp2_with fail
            refine bodyPost_ret (v := .tuple #[compV ⟨x0, x1, x2, x3⟩, i kk, .bool true]) (by simp [results, Tryz.results144, go_sem, kc, kf]) rfl ?_
            refine ⟨by rw [HF.out]; rfl, ?_⟩
            repeat (first | (with_reducible exact Below.refl _ _) | (with_reducible refine below_drewN' ?_ _) | (with_reducible refine Below.drew ?_) | (with_reducible refine Below.setCell ?_ (by first | (simp; done) | (simp; omega) | omega) _) | (with_reducible refine below_alloc ?_ _) | (with_reducible refine Below.alloc ?_ (by first | (simp; done) | (simp; omega) | omega) _) | (with_reducible exact hB5) | (with_reducible refine below_call ?_ hB5))
    · have hltz : ¬ (kk : Int) < (es.length : Int) := by omega
      have HF : Hid (place P k es 0 = none) := HA.out.trans (place_end P k es kk kk (by omega))
      have hB := BWW.out
      go_wp2_with fail
      refine bodyPost_ret (v := .tuple #[compV ⟨0, 0, 0, 0⟩, i 0, .bool false]) (by simp [results, Tryz.results144, go_sem, kc, kf]) rfl ?_
      refine ⟨by rw [HF.out]; rfl, ?_⟩
      repeat (first | (with_reducible exact Below.refl _ _) | (with_reducible refine below_drewN' ?_ _) | (with_reducible refine Below.drew ?_) | (with_reducible refine Below.setCell ?_ (by first | (simp; done) | (simp; omega) | omega) _) | (with_reducible refine below_alloc ?_ _) | (with_reducible refine Below.alloc ?_ (by first | (simp; done) | (simp; omega) | omega) _) | (with_reducible exact hB) | (with_reducible refine below_call ?_ hB))
end PriW
end Go.Proofs.YtpmcdjpfolgpiaaGreatDoor
