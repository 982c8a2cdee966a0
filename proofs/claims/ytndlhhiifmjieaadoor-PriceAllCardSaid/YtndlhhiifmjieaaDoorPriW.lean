/-
  The plain law of PriceAll: with steps of 1 and a component of each kind in force, each watt-minute and each minute is charged once; the walk of sum.
  The walks of sum, all and the statement PriceAll.
  The walk of all.
  The walk of the statement PriceAll.
-/
import Derived.Test.YtndlhhiifmjieaaDoorPriY
import Derived.StillTailTactics
import Derived.Test.YtndlhhiifmjieaaDoorReg4
namespace Go.Proofs.YtndlhhiifmjieaaDoor
namespace PriW
set_option linter.unusedSimpArgs false
set_option linter.unusedVariables false
open Go.RowKit CalW TarW Prc

def step1 (c : Comp) : Comp := if c.kind = 1 then c else ⟨c.kind, c.price, 1, c.tax⟩
def allE1 (e : Elem) : Elem := ⟨e.cs.map step1, e.wh⟩
def restE : Elem := ⟨[⟨2, 1, 1, 0⟩, ⟨3, 1, 1, 0⟩, ⟨4, 1, 1, 0⟩], freeW⟩
def allEs (es : List Elem) : List Elem := es.map allE1 ++ [restE]

/-- Quantities of a kind, of elements o, o + 1, .. . -/
def totF (q : Int → Int → Int) (k : Int) : Int → Nat → Int
  | _, 0 => 0
  | o, n + 1 => q o k + totF q k (o + 1) n
theorem totF_other (q : Int → Int → Int) {k k' j m : Int} (hk : k ≠ k') : ∀ (n : Nat) (o : Int), totF (bump q j k m) k' o n = totF q k' o n
  | 0, _ => rfl
  | n + 1, o => by
    rw [totF, totF, totF_other q hk n (o + 1)]
    unfold bump
    rw [if_neg (fun h => hk h.2.symm)]
theorem totF_out (q : Int → Int → Int) {k j m : Int} : ∀ (n : Nat) (o : Int), j < o → totF (bump q j k m) k o n = totF q k o n
  | 0, _, _ => rfl
  | n + 1, o, h => by
    rw [totF, totF, totF_out q n (o + 1) (by omega)]
    unfold bump
    rw [if_neg (fun h' => by omega)]
theorem totF_in (q : Int → Int → Int) {k j m : Int} : ∀ (n : Nat) (o : Int), o ≤ j → j < o + n → totF (bump q j k m) k o n = totF q k o n + m
  | 0, _, h1, h2 => by omega
  | n + 1, o, h1, h2 => by
    rw [totF, totF]
    by_cases e : o = j
    · subst e
      rw [totF_out q n (o + 1) (by omega)]
      unfold bump
      rw [if_pos ⟨rfl, rfl⟩]
      omega
    · rw [totF_in q n (o + 1) (by omega) (by omega)]
      unfold bump
      rw [if_neg (fun h' => e h'.1)]
      omega
theorem totF_zero (k : Int) : ∀ (n : Nat) (o : Int), totF (fun _ _ => 0) k o n = 0
  | 0, _ => rfl
  | n + 1, o => by rw [totF, totF_zero k n (o + 1)]; rfl

theorem place_last {P : Tar.Wh → Bool} {k : Int} (hP : P freeW = true) (hk : k = 2 ∨ k = 3 ∨ k = 4) : ∀ (es : List Elem) (o : Nat), ∃ j c, place P k (es ++ [restE]) o = some (j, c)
  | [], o => by
    have : elemC P k restE ≠ none := by
      unfold elemC
      rw [show restE.wh = freeW from rfl, if_pos hP]
      rcases hk with rfl | rfl | rfl <;> simp [restE, isK]
    cases h : elemC P k restE with
    | none => exact absurd h this
    | some c => exact ⟨o, c, by rw [List.nil_append, place, h]⟩
  | e :: es, o => by
    rw [List.cons_append, place]
    cases h : elemC P k e with
    | none => exact place_last hP hk es (o + 1)
    | some c => exact ⟨o, c, rfl⟩
theorem tot_add {es : List Elem} {P : Tar.Wh → Bool} {k n : Int} {st : St} (hp : ∃ j c, place P k es 0 = some (j, c)) (hn : 0 ≤ n) : totF (addS es P k n st).q k 0 es.length = totF st.q k 0 es.length + n := by
  unfold addS
  by_cases h0 : n ≤ 0
  · rw [if_pos h0]; omega
  · rw [if_neg h0]
    obtain ⟨j, c, h⟩ := hp
    rw [h]
    obtain ⟨i, hi, e1, _⟩ := place_spec es 0 h
    exact totF_in st.q es.length 0 (by omega) (by omega)
theorem tot_other {es : List Elem} {P : Tar.Wh → Bool} {k k' n : Int} {st : St} (hk : k ≠ k') : totF (addS es P k n st).q k' 0 es.length = totF st.q k' 0 es.length := by
  unfold addS
  split
  · rfl
  · cases place P k es 0 with
    | none => rfl
    | some x => exact totF_other st.q hk es.length 0

def idTo (us : List Prc.Use) (k : Nat) : Int := ((us.take k).filter (·.idle)).length
theorem idTo_succ {us : List Prc.Use} {k : Nat} (hk : k < us.length) : idTo us (k + 1) = idTo us k + if us[k].idle then 1 else 0 := by
  unfold idTo
  rw [List.take_succ_eq_append_getElem hk, List.filter_append, List.length_append]
  cases h : us[k].idle <;> simp [h]
theorem idTo_bd (us : List Prc.Use) (k : Nat) : 0 ≤ idTo us k ∧ idTo us k ≤ k := by
  unfold idTo
  have h1 := List.length_filter_le (fun u : Prc.Use => u.idle) (us.take k)
  have h2 := List.length_take_le k us
  omega
structure Tots (es : List Elem) (us : List Prc.Use) (k : Nat) (st : St) : Prop where
  en : totF st.q 2 0 es.length = enTo us k
  idl : totF st.q 4 0 es.length = idTo us k
  tim : totF st.q 3 0 es.length = k - idTo us k
theorem run_tots {es : List Elem} {c : Cx} {us : List Prc.Use} (h : CxOk c us.length) (hu : ∀ u ∈ us, 0 ≤ u.en ∧ u.en ≤ 1099511627776) : ∀ k, k ≤ us.length → Tots (allEs es) us k (runTo (allEs es) c us k)
  | 0, _ => by
    unfold runTo
    refine ⟨?_, ?_, ?_⟩ <;> rw [tot_other (by decide)] <;> simp [st0, totF_zero, enTo, idTo]
  | k + 1, hk => by
    have ih := run_tots (es := es) h hu k (by omega)
    have hP : ∀ en po, c.P k en po freeW = true := fun en po => free_holds h.1 ⟨by have := h.2.1; omega, by have := h.2.2; omega⟩
    have hu1 := hu us[k] (List.getElem_mem (by omega))
    rw [runTo_succ (by omega)]
    unfold minuteS
    have hp : ∀ q, q = 2 ∨ q = 3 ∨ q = 4 → ∀ en po, ∃ j cc, place (c.P k en po) q (allEs es) 0 = some (j, cc) := fun q hq en po => place_last (hP en po) hq _ 0
    refine ⟨?_, ?_, ?_⟩
    · rw [enTo_succ (by omega)]
      split
      · rw [tot_other (by decide), tot_add (hp 2 (.inl rfl) _ _) hu1.1, ih.en]
      · rw [tot_other (by decide), tot_add (hp 2 (.inl rfl) _ _) hu1.1, ih.en]
    · rw [idTo_succ (by omega)]
      split
      · rw [tot_add (hp 4 (.inr (.inr rfl)) _ _) (by omega), tot_other (by decide), ih.idl]
      · rw [tot_other (by decide), tot_other (by decide), ih.idl]; omega
    · rw [idTo_succ (by omega)]
      split
      · rw [tot_other (by decide), tot_other (by decide), ih.tim]; omega
      · rw [tot_add (hp 3 (.inr (.inl rfl)) _ _) (by omega), tot_other (by decide), ih.tim]; omega

theorem find_step {cs : List Comp} {k : Int} {c : Comp} (hk : k ≠ 1) (h : (cs.map step1).find? (isK k) = some c) : c.step = 1 := by
  have hm := List.mem_of_find?_eq_some h
  have hk2 := List.find?_some h
  obtain ⟨d, _, rfl⟩ := List.mem_map.1 hm
  unfold step1 isK at *
  split at hk2
  · rename_i h1
    rw [h1] at hk2
    simp at hk2
    exact absurd hk2.symm hk
  · rename_i h1
    rw [if_neg h1]
theorem all_step {es : List Elem} {j : Nat} (hj : j < (allEs es).length) {k : Int} {c : Comp} (hk : k ≠ 1) (h : (allEs es)[j].cs.find? (isK k) = some c) : c.step = 1 := by
  unfold allEs at h hj
  rw [List.getElem_append] at h
  split at h
  · rw [List.getElem_map] at h
    exact find_step hk h
  · simp only [List.getElem_singleton] at h
    have hm := List.mem_of_find?_eq_some h
    simp [restE] at hm
    rcases hm with rfl | rfl | rfl <;> rfl
theorem up_one (n : Int) : up n 1 = n := by unfold up; rw [if_pos (Int.emod_one n)]
theorem rndQ_one {es : List Elem} {T : Int} {st : St} (hI : Inv (allEs es) T st) {k : Int} (hk : k ≠ 1) (a : Int) : rndQ st k a = st.q a k := by
  unfold rndQ
  cases h : st.last k with
  | none => rfl
  | some x =>
    obtain ⟨j, s⟩ := x
    obtain ⟨hj, c, h1, h2, _⟩ := hI.last k j s h
    have := all_step hj hk h1
    simp only
    split
    · rw [← h2, this, up_one]
    · rfl
theorem round_one {es : List Elem} {T : Int} {st : St} (hI : Inv (allEs es) T st) (a b : Int) : (roundS st).q a b = st.q a b := by
  rw [roundS_q]
  split
  · exact rndQ_one hI (by omega) a
  · rfl

def sumK (l : List Chg0) (k : Int) : Int := (l.map (fun x => if x.kind = k then x.qty else 0)).foldr (· + ·) 0
theorem sumK_nil (k : Int) : sumK [] k = 0 := rfl
theorem sumK_cons (x : Chg0) (l : List Chg0) (k : Int) : sumK (x :: l) k = (if x.kind = k then x.qty else 0) + sumK l k := rfl
theorem sumK_append (k : Int) : ∀ (l m : List Chg0), sumK (l ++ m) k = sumK l k + sumK m k
  | [], m => by rw [List.nil_append, sumK_nil]; omega
  | x :: l, m => by rw [List.cons_append, sumK_cons, sumK_cons, sumK_append k l m]; omega
theorem sumK_chg {e : Elem} {o : Int} {q : Int → Int → Int} {k k' : Int} (h0 : 0 ≤ q o k') (h : q o k' ≠ 0 → ∃ c, e.cs.find? (isK k') = some c) : sumK (chgOf e o q k') k = if k' = k then q o k else 0 := by
  unfold chgOf
  by_cases h1 : q o k' ≤ 0
  · rw [if_pos h1, sumK_nil]
    split
    · rename_i e1; rw [← e1]; omega
    · rfl
  · rw [if_neg h1]
    obtain ⟨c, hc⟩ := h (by omega)
    rw [hc]
    show (if k' = k then q o k' else 0) + 0 = _
    split
    · rename_i e1; rw [← e1]; omega
    · omega
theorem sumK_chgs {q : Int → Int → Int} {k : Int} (hk : k = 2 ∨ k = 3 ∨ k = 4) (h0 : ∀ a b, 0 ≤ q a b) : ∀ (ds : List Elem) (o : Nat), (∀ i (hi : i < ds.length) b, q ((o + i : Nat) : Int) b ≠ 0 → ∃ c, ds[i].cs.find? (isK b) = some c) → sumK (chgs q ds o) k = totF q k o ds.length
  | [], o, _ => rfl
  | e :: ds, o, h => by
    have he : ∀ b, q o b ≠ 0 → ∃ c, e.cs.find? (isK b) = some c := fun b hb => by
      have := h 0 (by simp) b (by simpa using hb)
      simpa using this
    rw [chgs, sumK_append, List.length_cons, totF, sumK_chgs hk h0 ds (o + 1) (fun i hi b hb => by
      have := h (i + 1) (by simpa using hi) b (by rw [show o + (i + 1) = o + 1 + i by omega]; exact hb)
      simpa using this)]
    unfold chgsE
    rw [sumK_append, sumK_append, sumK_append, sumK_chg (h0 _ _) (he 1), sumK_chg (h0 _ _) (he 2), sumK_chg (h0 _ _) (he 3), sumK_chg (h0 _ _) (he 4)]
    have e1 : ((o + 1 : Nat) : Int) = (o : Int) + 1 := by omega
    rw [e1]
    rcases hk with rfl | rfl | rfl <;> simp
/-- THE PLAIN LAW. -/
theorem all_sums {t : Trf} {es : List Elem} (ht : t.els = allEs es) {c : Cx} {us : List Prc.Use} (h : runE t c us = 0) :
    sumK (runV t c us) 2 = enTo us us.length ∧ sumK (runV t c us) 4 = idTo us us.length ∧ sumK (runV t c us) 3 = us.length - idTo us us.length := by
  have hu := any_uses (runE_zero h).2.2.2.2.2.2
  have hI := runTo_inv (allEs es) c us hu us.length (Nat.le_refl _)
  have hT := run_tots (es := es) (cx_ok h) hu us.length (Nat.le_refl _)
  have hq : (roundS (runTo (allEs es) c us us.length)).q = (runTo (allEs es) c us us.length).q := by funext a b; exact round_one hI a b
  have key : ∀ k, k = 2 ∨ k = 3 ∨ k = 4 → sumK (runV t c us) k = totF (runTo (allEs es) c us us.length).q k 0 (allEs es).length := by
    intro k hk
    unfold runV
    rw [if_pos h, ht, hq]
    refine sumK_chgs hk hI.low _ 0 (fun i hi b hb => ?_)
    obtain ⟨j, hj, e1, c', hc⟩ := hI.has _ _ hb
    have : i = j := by omega
    subst this
    exact ⟨c', hc⟩
  exact ⟨(key 2 (.inl rfl)).trans hT.en, (key 4 (.inr (.inr rfl))).trans hT.idl, (key 3 (.inr (.inl rfl))).trans hT.tim⟩
theorem chg_bd {e : Elem} {o : Int} {q : Int → Int → Int} {k T : Int} (h : ∀ a b, 0 ≤ q a b ∧ q a b ≤ T) : ∀ x ∈ chgOf e o q k, 0 ≤ x.qty ∧ x.qty ≤ T := by
  intro x hx
  unfold chgOf at hx
  split at hx
  · simp at hx
  · split at hx
    · simp at hx; subst hx; exact h _ _
    · simp at hx
theorem chgs_bd {q : Int → Int → Int} {T : Int} (h : ∀ a b, 0 ≤ q a b ∧ q a b ≤ T) : ∀ (ds : List Elem) (o : Nat), ∀ x ∈ chgs q ds o, 0 ≤ x.qty ∧ x.qty ≤ T
  | [], o, x, hx => by simp [chgs] at hx
  | e :: ds, o, x, hx => by
    rw [chgs] at hx
    unfold chgsE at hx
    simp only [List.mem_append] at hx
    rcases hx with (hx | hx | hx | hx) | hx
    · exact chg_bd h x hx
    · exact chg_bd h x hx
    · exact chg_bd h x hx
    · exact chg_bd h x hx
    · exact chgs_bd h ds (o + 1) x hx
theorem all_bd {t : Trf} {es : List Elem} (ht : t.els = allEs es) {c : Cx} {us : List Prc.Use} (h : runE t c us = 0) : (∀ x ∈ runV t c us, 0 ≤ x.qty ∧ x.qty ≤ 36028797018963968) ∧ (runV t c us).length ≤ 100 := by
  have hu := any_uses (runE_zero h).2.2.2.2.2.2
  have hI := runTo_inv (allEs es) c us hu us.length (Nat.le_refl _)
  have hq : (roundS (runTo (allEs es) c us us.length)).q = (runTo (allEs es) c us us.length).q := by funext a b; exact round_one hI a b
  have hl := (runE_zero h).2.2.2.1
  have hn := (valid_parts (runE_zero h).1).1
  unfold runV
  rw [if_pos h]
  refine ⟨?_, ?_⟩
  · rw [ht, hq]
    exact chgs_bd (fun a b => ⟨hI.low a b, Int.le_trans (hI.high a b) (by omega)⟩) _ _
  · have := cTo_len (roundS (runTo t.els c us us.length)).q t.els t.els.length (Nat.le_refl _)
    rw [cTo_all] at this
    omega
end PriW
end Go.Proofs.YtndlhhiifmjieaaDoor

namespace Go.Proofs.YtndlhhiifmjieaaDoor
namespace PriW
set_option linter.unusedSimpArgs false
set_option linter.unusedVariables false
open Go.RowKit CalW TarW Prc

theorem sumK_take {xs : List Chg0} {j : Nat} (hj : j < xs.length) (k : Int) : sumK (xs.take (j + 1)) k = sumK (xs.take j) k + if xs[j].kind = k then xs[j].qty else 0 := by
  rw [List.take_succ_eq_append_getElem hj, sumK_append]
  show _ + ((if xs[j].kind = k then xs[j].qty else 0) + 0) = _
  omega
theorem sumK_bd {xs : List Chg0} (k : Int) (h : ∀ x ∈ xs, 0 ≤ x.qty ∧ x.qty ≤ 36028797018963968) : ∀ j, j ≤ xs.length → 0 ≤ sumK (xs.take j) k ∧ sumK (xs.take j) k ≤ j * 36028797018963968
  | 0, _ => by rw [List.take_zero, sumK_nil]; omega
  | j + 1, hj => by
    have h1 := sumK_bd k h j (by omega)
    have h2 := h xs[j] (List.getElem_mem (by omega))
    rw [sumK_take (by omega)]
    split <;> omega

set_option maxRecDepth 100000 in
set_option maxHeartbeats 1000000 in
theorem sum_ (v : Value) (xs : List Chg0) (k : Int) (w : World) (h : Chgs0At w v xs) (hb : ∀ x ∈ xs, 0 ≤ x.qty ∧ x.qty ≤ 36028797018963968) (hl : xs.length ≤ 100) :
    Calls Tryd.prog 18 #[v, i k] w fun e w' => e = .returned (i (sumK xs k)) ∧ w = w' := by
  obtain ⟨A, c, rfl, h1, h2⟩ := SliceAt.form h
  unfold maxLen at h2
  have HX := Lib.hid h
  have HBD := Lib.hid (sumK_bd k hb)
  have HTK := Lib.hid (fun j hj => @sumK_take xs j hj k)
  have HALL : Hid (sumK (xs.take xs.length) k = sumK xs k) := by show _ = _; rw [List.take_length]
  have HQ := Lib.hid hb
  clear h hb
  go_enter Tryd.func18, Tryd.ntmps18
  go_wp2_with fail
  go_loopg [5, 9] xs.length (fun gg s5 s9 wr => ∃ kk : Nat, kk ≤ xs.length ∧ xs.length - kk ≤ gg ∧ s5 = i (sumK (xs.take kk) k) ∧ s9 = i kk ∧ Hid (wr = w))
  case atStart => exact ⟨0, Nat.zero_le _, by omega, rfl, rfl, rfl⟩
  case round =>
    obtain ⟨kk, hkk, hg, rfl, rfl, HW⟩ := hrel
    have hw := HW.out
    clear HW
    subst hw
    by_cases hlt : kk < xs.length
    · have hltz : (kk : Int) < (xs.length : Int) := by omega
      have hkz : (0 : Int) ≤ (kk : Int) := by omega
      obtain ⟨b, off, rfl, _, hrow⟩ := HX.out.at_ hlt
      obtain ⟨l0, l1, l2, l3⟩ := hrow wr (Kept.refl _)
      clear hrow
      have HT := Lib.hid (HTK.out kk hlt)
      obtain ⟨s0, s1⟩ := HBD.out kk (by omega)
      obtain ⟨q0, q1⟩ := HQ.out xs[kk] (List.getElem_mem hlt)
      generalize xs[kk] = y at *
      obtain ⟨sn, HSN⟩ : ∃ s, Hid (sumK (xs.take (kk + 1)) k = s) := ⟨_, rfl⟩
      rw [HSN.out] at HT
      generalize sumK (xs.take kk) k = sk at *
      by_cases hy : y.kind = k
      · have HT2 : Hid (sn = sk + y.qty) := by have := HT.out; rw [if_pos hy] at this; exact this
        have hyb : (y.kind == k) = true := beq_iff_eq.2 hy
        clear HT hy
        go_wp2_with fail
        go_roundg (xs.length - (kk + 1))
        case measure => omega
        case rel => exact ⟨kk + 1, by omega, by omega, by rw [HSN.out]; exact congrArg i HT2.out.symm, by go_num, rfl⟩
      · have HT2 : Hid (sn = sk) := by have := HT.out; rw [if_neg hy, Int.add_zero] at this; exact this
        have hyb : (y.kind == k) = false := beq_eq_false_iff_ne.2 hy
        clear HT hy
        go_wp2_with fail
        go_roundg (xs.length - (kk + 1))
        case measure => omega
        case rel => exact ⟨kk + 1, by omega, by omega, by rw [HSN.out]; exact congrArg i HT2.out.symm, by go_num, rfl⟩
    · have hltz : ¬ (kk : Int) < (xs.length : Int) := by omega
      have hke : kk = xs.length := by omega
      subst hke
      have HF : Hid (sumK (xs.take xs.length) k = sumK xs k) := HALL.out
      rw [HF.out]
      go_wp2_with fail
      go_ret
      exact ⟨rfl, rfl⟩

theorem Own.far {α : Type} {R : List Value → α → Prop} {e : TypeId} {size base : Nat} {w : World} {v : Value} {xs : List α} (h : Own R e size base w v xs) {p : Addr} (hp : ∀ k, v.ownBlock = some k → k ≠ p.block) (u : Value) : Own R e size base (w.setCell p u) v xs := by
  obtain ⟨rs, ⟨h1, h2⟩, h3⟩ := h
  refine ⟨rs, ⟨h1, ?_⟩, h3⟩
  rcases h2 with h0 | ⟨g, cap, cur, r1, r2, r3, r4⟩
  · exact .inl h0
  · refine .inr ⟨g, cap, cur, r1, r2, ?_, r4⟩
    exact (Below.heap_setCell w p u g (hp g (by rw [r1]; rfl))).trans r3
theorem SliceAt.block {α : Type} {R : List Value → α → Prop} {size : Nat} {w w' : World} {v : Value} {xs : List α} (h : SliceAt R size w v xs) (hb : ∀ b, v.ownBlock = some b → ∀ o x, w.cell? ⟨b, o, none⟩ = some x → w'.cell? ⟨b, o, none⟩ = some x) : SliceAt R size w' v xs := by
  obtain ⟨A, c, rfl, h1, h2, h3, h4⟩ := h
  refine ⟨A, c, rfl, h1, h2, h3, fun j x hx => ?_⟩
  obtain ⟨b, off, r, e1, e2, e3, e4⟩ := h4 j x hx
  subst e1
  exact ⟨b, off, r, rfl, e2, e3, fun o u hu => hb b rfl _ _ (e4 o u hu)⟩
theorem SliceAt.conv {α β : Type} {R : List Value → α → Prop} {R' : List Value → β → Prop} {size : Nat} {w : World} {v : Value} {xs : List α} (h : SliceAt R size w v xs) (f : α → β) (hR : ∀ x ∈ xs, ∀ r, R r x → R' r (f x)) : SliceAt R' size w v (xs.map f) := by
  obtain ⟨A, c, rfl, h1, h2, h3, h4⟩ := h
  refine ⟨A, c, by rw [List.length_map], by rw [List.length_map]; exact h1, h2, h3, fun j y hy => ?_⟩
  rw [List.getElem?_map] at hy
  cases hx : xs[j]? with
  | none => rw [hx] at hy; cases hy
  | some x =>
    rw [hx] at hy
    injection hy with hy
    subst hy
    obtain ⟨b, off, r, e1, e2, e3, e4⟩ := h4 j x hx
    exact ⟨b, off, r, e1, e2, hR x (List.mem_of_getElem? hx) r e3, e4⟩
end PriW
end Go.Proofs.YtndlhhiifmjieaaDoor

namespace Go.Proofs.YtndlhhiifmjieaaDoor
namespace PriW
set_option linter.unusedSimpArgs false
set_option linter.unusedVariables false
open Go.RowKit CalW TarW Prc

def Sm8Post (t : Trf) (us : List Prc.Use) (w : World) (e : Ending) (w' : World) : Prop := ∃ b, e = .returned (.bool b) ∧ (b = true → t.els.length ≤ 20 ∧ us.length ≤ 300 ∧ ∀ e ∈ t.els, e.cs.length ≤ 8) ∧ Below w.heap.size w w'
theorem Sm8Post.no {t : Trf} {us : List Prc.Use} {w w' : World} (h : Below w.heap.size w w') : Sm8Post t us w (.returned (.bool false)) w' := ⟨false, rfl, fun h => (Bool.noConfusion h), h⟩

set_option maxRecDepth 100000 in
set_option maxHeartbeats 1000000 in
theorem small8 (t : Trf) (u : Value) (c : Cx) (v : Value) (us : List Prc.Use) (w : World) (hE : ElemsAt w u t.els) (hU : UsesAt w v us) :
    Calls Tryd.prog 8 #[.agg (caseA t u c v)] w (Sm8Post t us w) := by
  obtain ⟨A, cp, rfl, h1, h2⟩ := SliceAt.form hU
  obtain ⟨A1, cp1, rfl, h3, h4⟩ := SliceAt.form hE
  unfold maxLen at h2 h4
  have HE := Lib.hid hE
  clear hE hU
  have HB := Lib.hid (below_new w (.cells (caseA t (.slice A1 t.els.length cp1) c (.slice A us.length cp)) 31))
  have hk := Blk.new w 31 (caseA t (.slice A1 t.els.length cp1) c (.slice A us.length cp))
  have kc := hk.cell
  clear hk
  go_enter Tryd.func8, Tryd.ntmps8
  go_upto_region 1 with (fail)
  generalize w.alloc (.cells (caseA t (.slice A1 t.els.length cp1) c (.slice A us.length cp)) 31) = w1 at *
  by_cases hl : 20 < t.els.length
  · have hlz : (20 : Int) < (t.els.length : Int) := by omega
    go_wp2_with fail
    go_ret
    exact Sm8Post.no HB.out
  · have hlz : ¬ (20 : Int) < (t.els.length : Int) := by omega
    by_cases hu : 300 < us.length
    · have huz : (300 : Int) < (us.length : Int) := by omega
      go_wp2_with fail
      go_ret
      exact Sm8Post.no HB.out
    · have huz : ¬ (300 : Int) < (us.length : Int) := by omega
      go_wp2_with fail
      go_loopg [19] t.els.length (fun gg s19 wr => ∃ kk : Nat, kk ≤ t.els.length ∧ t.els.length - kk ≤ gg ∧ s19 = i kk ∧ Hid (wr = w1) ∧ Hid (∀ j (hj : j < t.els.length), j < kk → t.els[j].cs.length ≤ 8))
      case atStart => exact ⟨0, Nat.zero_le _, by omega, rfl, rfl, fun j _ h => by omega⟩
      case round =>
        obtain ⟨kk, hkk, hg, rfl, HW, H8⟩ := hrel
        have hw := HW.out
        clear HW
        subst hw
        by_cases hlt : kk < t.els.length
        · have hltz : (kk : Int) < (t.els.length : Int) := by omega
          have hkz : (0 : Int) ≤ (kk : Int) := by omega
          obtain ⟨b, off, u1, rfl, _, hu1, hrow⟩ := ElemsAt.at_ HE.out hlt
          obtain ⟨l0, -⟩ := hrow wr (Kept.of HB.out)
          clear hrow
          obtain ⟨A2, c2, rfl, h5, h6⟩ := SliceAt.form hu1
          clear hu1
          by_cases h8 : 8 < t.els[kk].cs.length
          · have h8z : (8 : Int) < (t.els[kk].cs.length : Int) := by omega
            generalize t.els[kk] = y at *
            go_wp2_with fail
            go_ret
            exact Sm8Post.no HB.out
          · have h8z : ¬ (8 : Int) < (t.els[kk].cs.length : Int) := by omega
            have H9 : Hid (∀ j (hj : j < t.els.length), j < kk + 1 → t.els[j].cs.length ≤ 8) := by
              intro j hj hjk
              by_cases e : j = kk
              · subst e; omega
              · exact H8.out j hj (by omega)
            generalize t.els[kk] = y at *
            go_wp2_with fail
            go_roundg (t.els.length - (kk + 1))
            case measure => omega
            case rel => exact ⟨kk + 1, by omega, by omega, by go_num, rfl, H9⟩
        · have hltz : ¬ (kk : Int) < (t.els.length : Int) := by omega
          go_wp2_with fail
          go_ret
          exact ⟨true, rfl, fun _ => ⟨by omega, by omega, fun e he => by
            obtain ⟨j, hj, rfl⟩ := List.getElem_of_mem he
            exact H8.out j hj (by omega)⟩, HB.out⟩

theorem infoC : (Tryd.prog.info? 58).map (fun i => (i.zero, i.size, i.bytes)) = some (some (.agg #[.int .i64 0, .int .i64 0, .int .i64 0, .int .i64 0]), 4, 32) := by kernel_rfl
theorem infoE : (Tryd.prog.info? 55).map (fun i => (i.zero, i.size, i.bytes)) = some (some (.agg #[.slice none 0 0, .int .i64 0, .int .i64 0, .int .i64 0, .int .i64 0, .int .i64 0, .int .i64 0, .int .i64 0, .int .i64 0, .int .i64 0, .int .i64 0, .int .i64 0]), 12, 112) := by kernel_rfl
theorem one_comp (c : Comp) : ∀ u ∈ (#[i c.kind, i c.price, i c.step, i c.tax] : Array Value).toList, u.oneCell' = true := by
  intro u hu
  simp at hu
  rcases hu with rfl | rfl | rfl | rfl <;> rfl
/-- An element's cells beside the value of its components. -/
def ERow (r : List Value) (p : Value × Elem) : Prop := r = p.1 :: whL p.2.wh
theorem one_elem {v : Value} (hv : v.oneCell' = true) (x : Tar.Wh) : ∀ u ∈ (#[v, i x.s, i x.e, i x.d, i x.f, i x.t, i x.e0, i x.e1, i x.p0, i x.p1, i x.t0, i x.t1] : Array Value).toList, u.oneCell' = true := by
  intro u hu
  simp at hu
  rcases hu with rfl | rfl | rfl | rfl | rfl | rfl | rfl | rfl | rfl | rfl | rfl | rfl <;> first | exact hv | rfl
abbrev OwnP (base : Nat) (w : World) (v : Value) (ps : List (Value × Elem)) : Prop := Own ERow 55 12 base w v ps
abbrev OwnK (base : Nat) (w : World) (v : Value) (cs : List Comp) : Prop := Own CompR 58 4 base w v cs
/-- Each pair's components lie in memory from block B on, apart from the row of the elements. -/
def Kids (w : World) (vo : Value) (B : Nat) (ps : List (Value × Elem)) : Prop := ∀ p ∈ ps, CompsAt w p.1 p.2.cs ∧ (∀ k, p.1.ownBlock = some k → k < w.heap.size ∧ vo.ownBlock ≠ some k ∧ B ≤ k)
theorem kids_els {w : World} {v vo : Value} {base B : Nat} {ps : List (Value × Elem)} (h : OwnP base w v ps) (hk : Kids w vo B ps) : ElemsAt w v (ps.map (·.2)) := by
  refine SliceAt.conv (Own.at_ h (by omega)) (·.2) (fun x hx r hr => ⟨x.1, hr, (hk x hx).1⟩)
theorem kids_call {w w' : World} {vo : Value} {B : Nat} {ps : List (Value × Elem)} (h : Kids w vo B ps) (hb : Below w.heap.size w w') : Kids w' vo B ps :=
  fun p hp => ⟨(h p hp).1.call hb, fun k hk => ⟨Nat.lt_of_lt_of_le ((h p hp).2 k hk).1 hb.size, ((h p hp).2 k hk).2⟩⟩
theorem kids_set {w : World} {vo : Value} {B g : Nat} {ps : List (Value × Elem)} (h : Kids w vo B ps) (hg : g < B) (o : Nat) (u : Value) : Kids (w.setCell ⟨g, o, none⟩ u) vo B ps := by
  refine fun p hp => ⟨SliceAt.block (h p hp).1 (fun b hb o' x hx => ?_), fun k hk => ⟨by simpa [World.setCell] using ((h p hp).2 k hk).1, ((h p hp).2 k hk).2⟩⟩
  rw [World.cell?_setCell_far _ _ _ _ (show g ≠ b from fun e => by have := ((h p hp).2 b hb).2.2; omega)]
  exact hx
theorem own_set {α : Type} {R : List Value → α → Prop} {e : TypeId} {size B : Nat} {w : World} {v : Value} {xs : List α} (h : Own R e size B w v xs) {g : Nat} (hg : g < B) (o : Nat) (u : Value) : Own R e size B (w.setCell ⟨g, o, none⟩ u) v xs :=
  Own.far h (fun k hk e => by have := (h.row k hk).1; simp only at e; omega) u
/-- The row of the elements has grown. -/
theorem kids_grow {w w' : World} {vo vo' : Value} {B : Nat} {ps : List (Value × Elem)} (h : Kids w vo B ps) (hg : w.grownBy w' vo.ownBlock) (hat : vo'.ownBlock = vo.ownBlock ∨ vo'.ownBlock = some w.heap.size) : Kids w' vo' B ps := by
  intro p hp
  obtain ⟨h1, h2⟩ := h p hp
  refine ⟨SliceAt.block h1 (fun b hb o x hx => ?_), fun k hk => ⟨Nat.lt_of_lt_of_le (h2 k hk).1 hg.size, ?_, (h2 k hk).2.2⟩⟩
  · exact hg.cell hx (fun e => (h2 b hb).2.1 e.symm)
  · intro e
    rcases hat with h3 | h3
    · exact (h2 k hk).2.1 (h3 ▸ e)
    · rw [h3] at e
      injection e with e
      have := (h2 k hk).1
      omega
theorem kids_snoc {w : World} {vo : Value} {B : Nat} {ps : List (Value × Elem)} {p : Value × Elem} (h : Kids w vo B ps) (h1 : CompsAt w p.1 p.2.cs) (h2 : ∀ k, p.1.ownBlock = some k → k < w.heap.size ∧ vo.ownBlock ≠ some k ∧ B ≤ k) : Kids w vo B (ps ++ [p]) := by
  intro q hq
  rcases List.mem_append.1 hq with hq | hq
  · exact h q hq
  · have : q = p := by simpa using hq
    subst this
    exact ⟨h1, h2⟩
abbrev yA (v : Value) (x : Tar.Wh) : Array Value := #[v, i x.s, i x.e, i x.d, i x.f, i x.t, i x.e0, i x.e1, i x.p0, i x.p1, i x.t0, i x.t1]
/-- Behind 'y.Components = append(y.Components, c)'. -/
theorem inner_next {w0 wz W w2 : World} {g6 : Nat} {x : Tar.Wh} {vy v' : Value} {cs' : List Comp} {c' : Comp} (hy : Blk wz g6 55 (yA vy x)) (hB : Below w0.heap.size w0 wz) (hW : Below wz.heap.size wz W)
    (h0 : w0.heap.size ≤ g6) (ho : OwnK (g6 + 1) w2 v' (cs' ++ [c'])) (hb : Below (g6 + 1) W w2) :
    OwnK (g6 + 1) (w2.setCell ⟨g6, 0, none⟩ v') v' (cs' ++ [c']) ∧ Blk (w2.setCell ⟨g6, 0, none⟩ v') g6 55 (yA v' x) ∧ Below w0.heap.size w0 (w2.setCell ⟨g6, 0, none⟩ v') :=
  ⟨own_set ho (by omega) 0 v', ((hy.call hW).below hb (by omega)).set_ 0 v', ((below_call hB hW).trans (hb.mono (by omega))).setCell (p := ⟨g6, 0, none⟩) h0 v'⟩

abbrev zT : Array Value := #[.string ⟨#[]⟩, .string ⟨#[]⟩, i 0, i 0, i 0, .slice none 0 0, i 0, i 0]
def st1 (cs : List Comp) (m : Nat) : List Comp := (cs.take m).map step1
def el1 (es : List Elem) (k : Nat) : List Elem := (es.take k).map allE1
abbrev rcA : Array Value := #[i 2, i 1, i 1, i 0, i 3, i 1, i 1, i 0, i 4, i 1, i 1, i 0]
theorem fin8 {w : World} {v : Value} {B g : Nat} {ps : List (Value × Elem)} (h : OwnP B w v ps) (hk : Kids w v B ps) (hg : g < B) (v0 v1 v2 v3 v4 v5 v6 v7 : Value) : ElemsAt ((((((((w.setCell ⟨g, 0, none⟩ v0).setCell ⟨g, 1, none⟩ v1).setCell ⟨g, 2, none⟩ v2).setCell ⟨g, 3, none⟩ v3).setCell ⟨g, 4, none⟩ v4).setCell ⟨g, 5, none⟩ v5).setCell ⟨g, 6, none⟩ v6).setCell ⟨g, 7, none⟩ v7) v (ps.map (·.2)) :=
  kids_els (own_set (own_set (own_set (own_set (own_set (own_set (own_set (own_set h hg 0 v0) hg 1 v1) hg 2 v2) hg 3 v3) hg 4 v4) hg 5 v5) hg 6 v6) hg 7 v7)
    (kids_set (kids_set (kids_set (kids_set (kids_set (kids_set (kids_set (kids_set hk hg 0 v0) hg 1 v1) hg 2 v2) hg 3 v3) hg 4 v4) hg 5 v5) hg 6 v6) hg 7 v7)
theorem below8f {w0 w : World} {B g : Nat} (h : Below B w0 w) (hg : B ≤ g) (v0 v1 v2 v3 v4 v5 v6 v7 : Value) : Below B w0 ((((((((w.setCell ⟨g, 0, none⟩ v0).setCell ⟨g, 1, none⟩ v1).setCell ⟨g, 2, none⟩ v2).setCell ⟨g, 3, none⟩ v3).setCell ⟨g, 4, none⟩ v4).setCell ⟨g, 5, none⟩ v5).setCell ⟨g, 6, none⟩ v6).setCell ⟨g, 7, none⟩ v7) :=
  (((((((h.setCell (p := ⟨g, 0, none⟩) hg v0).setCell (p := ⟨g, 1, none⟩) hg v1).setCell (p := ⟨g, 2, none⟩) hg v2).setCell (p := ⟨g, 3, none⟩) hg v3).setCell (p := ⟨g, 4, none⟩) hg v4).setCell (p := ⟨g, 5, none⟩) hg v5).setCell (p := ⟨g, 6, none⟩) hg v6).setCell (p := ⟨g, 7, none⟩) hg v7
def AlPost (t : Trf) (w : World) (e : Ending) (w' : World) : Prop := ∃ u, e = .returned (trfV t u) ∧ ElemsAt w' u (allEs t.els) ∧ Below w.heap.size w w'

set_option maxRecDepth 100000 in
set_option maxHeartbeats 1000000 in
theorem all_ (t : Trf) (u : Value) (w : World) (hE : ElemsAt w u t.els) (hn : t.els.length ≤ 20) (h8 : ∀ e ∈ t.els, e.cs.length ≤ 8) : Calls Tryd.prog 17 #[trfV t u] w (AlPost t w) := by
  obtain ⟨A, cp, rfl, h1, h2⟩ := SliceAt.form hE
  unfold maxLen at h2
  obtain ⟨ic, hci, hcz0, hcz1, hcz2⟩ := info_parts infoC
  obtain ⟨ie, hei, hez0, hez1, hez2⟩ := info_parts infoE
  have HE := Lib.hid hE
  clear hE
  go_enter Tryd.func17, Tryd.ntmps17
  go_upto_region 3 with (fail)
  have k1 := ((Blk.new w 26 (trA t (.slice A t.els.length cp))).alloc (.cells zT 26)).alloc (.cells (trA t (.slice none 0 0)) 26)
  have k2 := (Blk.new' (w := w.alloc (.cells (trA t (.slice A t.els.length cp)) 26)) (g := w.heap.size + 1) (by simp) 26 zT).alloc (.cells (trA t (.slice none 0 0)) 26)
  have k3 := Blk.new' (w := (w.alloc (.cells (trA t (.slice A t.els.length cp)) 26)).alloc (.cells zT 26)) (g := w.heap.size + 1 + 1) (by simp) 26 (trA t (.slice none 0 0))
  have hb0 := below_alloc (below_alloc (below_new w (.cells (trA t (.slice A t.els.length cp)) 26)) (.cells zT 26)) (.cells (trA t (.slice none 0 0)) 26)
  have hsz : ((((w.alloc (.cells (trA t (.slice A t.els.length cp)) 26)).alloc (.cells zT 26)).alloc (.cells (trA t (.slice none 0 0)) 26))).heap.size = w.heap.size + 1 + 1 + 1 := by simp
  have tc := k1.cell
  have K2 := Lib.hid k2
  have K3 := Lib.hid k3
  have HB0 := Lib.hid hb0
  have HSZ := Lib.hid hsz
  have hl3 := k3.lt
  clear k1 k2 k3 hb0 hsz
  generalize ((w.alloc (.cells (trA t (.slice A t.els.length cp)) 26)).alloc (.cells zT 26)).alloc (.cells (trA t (.slice none 0 0)) 26) = W0 at *
  go_wp2_with fail
  clear tc
  generalize hB : w.heap.size + 1 + 1 = g3 at *
  have HG3 := Lib.hid hB
  clear hB
  go_loopg [15] t.els.length (fun gg s15 wr => ∃ (kk : Nat) (vo : Value) (ps : List (Value × Elem)), kk ≤ t.els.length ∧ t.els.length - kk ≤ gg ∧ s15 = i kk ∧ Hid (ps.map (·.2) = el1 t.els kk) ∧ Hid (IsSl vo) ∧ Hid (OwnP (g3 + 1) wr vo ps) ∧ Hid (Kids wr vo (g3 + 1) ps) ∧ Hid (Blk wr g3 26 (trA t vo)) ∧ Hid (Blk wr (w.heap.size + 1) 26 zT) ∧ Hid (Below w.heap.size w wr))
  case atStart => exact ⟨0, .slice none 0 0, [], Nat.zero_le _, by omega, rfl, rfl, ⟨none, 0, 0, rfl⟩, Own.nil, fun p hp => by simp at hp, K3, K2, HB0⟩
  case round =>
    obtain ⟨kk, vo, ps, hkk, hg, rfl, HP, HSL, HO, HKD, H3, H2, BW⟩ := hrel
    clear K2 K3 HB0
    obtain ⟨Ao, no, co, rfl⟩ := HSL.out
    by_cases hlt : kk < t.els.length
    · have hltz : (kk : Int) < (t.els.length : Int) := by omega
      obtain ⟨b, off, u1, rfl, _, hu, hrow⟩ := ElemsAt.at_ HE.out hlt
      obtain ⟨l0, l1, l2, l3, l4, l5, l6, l7, l8, l9, l10, l11⟩ := hrow wr (Kept.of BW.out)
      clear hrow
      obtain ⟨A2, c2, rfl, h5, h6⟩ := SliceAt.form hu
      have HU := Lib.hid hu
      unfold maxLen at h6
      clear hu
      have HPN : Hid (∀ p : Value × Elem, p.2 = allE1 t.els[kk] → (ps ++ [p]).map (·.2) = el1 t.els (kk + 1)) := by
        intro p hp
        unfold el1
        rw [List.map_append, HP.out, List.take_succ_eq_append_getElem hlt, List.map_append, List.map_singleton, List.map_singleton, hp]
        rfl
      have he8 := h8 t.els[kk] (List.getElem_mem hlt)
      generalize t.els[kk] = e at *
      go_upto_region 7 with (fail)
      have HYB0 := Lib.hid (Blk.new' (w := wr.alloc (.cells (yA (.slice A2 e.cs.length c2) e.wh) 55)) (g := wr.heap.size + 1) (by simp) 55 (yA (.slice none 0 0) e.wh))
      have HXB0 := Lib.hid ((Blk.new wr 55 (yA (.slice A2 e.cs.length c2) e.wh)).alloc (.cells (yA (.slice none 0 0) e.wh) 55))
      have HBZ0 := Lib.hid (below_alloc (below_new wr (.cells (yA (.slice A2 e.cs.length c2) e.wh) 55)) (.cells (yA (.slice none 0 0) e.wh) 55))
      have xc := HXB0.out.cell
      have hg6 : wr.heap.size ≤ wr.heap.size + 1 := by omega
      clear l0 l1 l2 l3 l4 l5 l6 l7 l8 l9 l10 l11
      obtain ⟨wo, rfl⟩ : ∃ wo : World, wo = wr := ⟨_, rfl⟩
      generalize hw3 : (wo.alloc (.cells (yA (.slice A2 e.cs.length c2) e.wh) 55)).alloc (.cells (yA (.slice none 0 0) e.wh) 55) = w3 at *
      clear hw3
      generalize hgg : wo.heap.size + 1 = g6 at *
      have HGG := Lib.hid hgg
      clear hgg
      go_wp2_with fail
      clear xc
      go_loopg [25] e.cs.length (fun gc s25 wz => ∃ (m : Nat) (Ay : Option Addr) (ny cy : Nat), m ≤ e.cs.length ∧ e.cs.length - m ≤ gc ∧ s25 = i m ∧ Hid (OwnK (g6 + 1) wz (.slice Ay ny cy) (st1 e.cs m)) ∧ Hid (Blk wz g6 55 (yA (.slice Ay ny cy) e.wh)) ∧ Hid (Below wo.heap.size wo wz))
      case atStart => exact ⟨0, none, 0, 0, Nat.zero_le _, by omega, rfl, by exact Own.nil, HYB0, HBZ0⟩
      case round =>
        obtain ⟨m, Ay, ny, cy, hm, hgc, rfl, HOY, HYB, HBZ⟩ := hrel
        clear HYB0 HXB0 HBZ0
        obtain ⟨wz, rfl⟩ : ∃ wz : World, wz = wr := ⟨_, rfl⟩
        have yc := HYB.out.cell
        have yf := HYB.out.frozen
        have hgz := HYB.out.lt
        by_cases hml : m < e.cs.length
        · have hmz : (m : Int) < (e.cs.length : Int) := by omega
          obtain ⟨bb, of, rfl, _, hrow⟩ := CompsAt.at_ HU.out hml
          obtain ⟨l0, l1, l2, l3⟩ := hrow wz (Kept.of (below_call BW.out HBZ.out))
          clear hrow
          have HTK0 : Hid (st1 e.cs (m + 1) = st1 e.cs m ++ [step1 e.cs[m]]) := by
            show _ = _
            unfold st1
            rw [List.take_succ_eq_append_getElem hml, List.map_append]; rfl
          generalize e.cs[m] = y at *
          obtain ⟨y0, y1, y2, y3⟩ := y
          simp only at *
          by_cases hk : y0 = 1
          · have hkb : (y0 == 1) = true := beq_iff_eq.2 hk
            have hkb2 : (y0 != 1) = false := by rw [bne, hkb]; rfl
            have HTK : Hid (st1 e.cs (m + 1) = st1 e.cs m ++ [⟨y0, y1, y2, y3⟩]) := by
              have := HTK0.out
              unfold step1 at this
              rw [show (if (⟨y0, y1, y2, y3⟩ : Comp).kind = 1 then (⟨y0, y1, y2, y3⟩ : Comp) else ⟨y0, y1, 1, y3⟩) = ⟨y0, y1, y2, y3⟩ from if_pos hk] at this
              exact this
            clear HTK0 hk
            have HW : Hid (Below wz.heap.size wz ((wz.alloc (.cells #[i y0, i y1, i y2, i y3] 58)).alloc (.cells #[i y0, i y1, i y2, i y3] 58))) := by
              show Below _ _ _
              exact below_alloc (below_alloc (Below.refl _ _) _) _
            have HO1 : Hid (OwnK (g6 + 1) ((wz.alloc (.cells #[i y0, i y1, i y2, i y3] 58)).alloc (.cells #[i y0, i y1, i y2, i y3] 58)) (.slice Ay ny cy) (st1 e.cs m)) := by
              show OwnK _ _ _ _
              exact Own.call HOY.out HW.out
            have HLEN : Hid ((st1 e.cs m).length ≤ 16777216) := by
              show _ ≤ _
              unfold st1
              rw [List.length_map, List.length_take]
              have := Nat.min_le_left m e.cs.length
              omega
            have HGZ : Hid (g6 + 1 ≤ ((wz.alloc (.cells #[i y0, i y1, i y2, i y3] 58)).alloc (.cells #[i y0, i y1, i y2, i y3] 58)).heap.size) := by
              have h1 := HYB.out.lt
              have h2 := HW.out.size
              show _ ≤ _
              omega
            go_wp2_with (at_builtin; refine wpList_grow rfl (.tmp 34) (.tmp 36) 53 rfl ic _ 32 Tryd.underlying53 hci hcz0 hcz1 hcz2 rfl (by omega) rfl HO1.out (wz.heap.size + 1) ⟨y0, y1, y2, y3⟩ _ 58 rfl (Blk.new' (by simp) _ _) rfl rfl (one_comp ⟨y0, y1, y2, y3⟩) HLEN.out (by omega) HGZ.out ?_)
            rintro v' w2 hown2 - hbel2 ⟨A4, n4, c4, rfl⟩
            have HN := Lib.hid (inner_next HYB.out HBZ.out HW.out hg6 hown2 hbel2)
            have y2 := (HYB.out.call HW.out).below hbel2 (by omega)
            have yc2 := y2.cell
            have yf2 := y2.frozen
            clear hown2 hbel2 yc yf y2
            go_wp2_with fail
            clear yc2 yf2
            go_roundg (e.cs.length - (m + 1))
            case measure => omega
            case rel => exact ⟨m + 1, A4, n4, c4, by omega, by omega, by go_num, by rw [HTK.out]; exact HN.out.1, HN.out.2.1, HN.out.2.2⟩
          · have hkb2 : (y0 != 1) = true := bne_iff_ne.2 hk
            have HTK : Hid (st1 e.cs (m + 1) = st1 e.cs m ++ [⟨y0, y1, 1, y3⟩]) := by
              have := HTK0.out
              rw [show step1 ⟨y0, y1, y2, y3⟩ = ⟨y0, y1, 1, y3⟩ from if_neg hk] at this
              exact this
            clear HTK0 hk
            have HW : Hid (Below wz.heap.size wz ((wz.alloc (.cells #[i y0, i y1, i 1, i y3] 58)).alloc (.cells #[i y0, i y1, i 1, i y3] 58))) := by
              show Below _ _ _
              exact below_alloc (below_alloc (Below.refl _ _) _) _
            have HO1 : Hid (OwnK (g6 + 1) ((wz.alloc (.cells #[i y0, i y1, i 1, i y3] 58)).alloc (.cells #[i y0, i y1, i 1, i y3] 58)) (.slice Ay ny cy) (st1 e.cs m)) := by
              show OwnK _ _ _ _
              exact Own.call HOY.out HW.out
            have HLEN : Hid ((st1 e.cs m).length ≤ 16777216) := by
              show _ ≤ _
              unfold st1
              rw [List.length_map, List.length_take]
              have := Nat.min_le_left m e.cs.length
              omega
            have HGZ : Hid (g6 + 1 ≤ ((wz.alloc (.cells #[i y0, i y1, i 1, i y3] 58)).alloc (.cells #[i y0, i y1, i 1, i y3] 58)).heap.size) := by
              have h1 := HYB.out.lt
              have h2 := HW.out.size
              show _ ≤ _
              omega
            go_wp2_with (at_builtin; refine wpList_grow rfl (.tmp 34) (.tmp 36) 53 rfl ic _ 32 Tryd.underlying53 hci hcz0 hcz1 hcz2 rfl (by omega) rfl HO1.out (wz.heap.size + 1) ⟨y0, y1, 1, y3⟩ _ 58 rfl (Blk.new' (by simp) _ _) rfl rfl (one_comp ⟨y0, y1, 1, y3⟩) HLEN.out (by omega) HGZ.out ?_)
            rintro v' w2 hown2 - hbel2 ⟨A4, n4, c4, rfl⟩
            have HN := Lib.hid (inner_next HYB.out HBZ.out HW.out hg6 hown2 hbel2)
            have y2 := (HYB.out.call HW.out).below hbel2 (by omega)
            have yc2 := y2.cell
            have yf2 := y2.frozen
            clear hown2 hbel2 yc yf y2
            go_wp2_with fail
            clear yc2 yf2
            go_roundg (e.cs.length - (m + 1))
            case measure => omega
            case rel => exact ⟨m + 1, A4, n4, c4, by omega, by omega, by go_num, by rw [HTK.out]; exact HN.out.1, HN.out.2.1, HN.out.2.2⟩
        · have hmz : ¬ (m : Int) < (e.cs.length : Int) := by omega
          have hme : m = e.cs.length := by omega
          subst hme
          have hst : st1 e.cs e.cs.length = (allE1 e).cs := by unfold st1; rw [List.take_length]; rfl
          rw [hst] at HOY
          have hB3 := HBZ.out
          have h3 := H3.out.call hB3
          have c3 := h3.cell
          have f3 := h3.frozen
          have hWB : Below wo.heap.size wo (wz.alloc (.cells (yA (.slice Ay ny cy) e.wh) 55)) := below_alloc hB3 _
          have hgg := HGG.out
          have hlo := hB3.size
          have hl3o := H3.out.lt
          have HOW := Lib.hid (Own.call HO.out hWB)
          have HW3 := Lib.hid (H3.out.call hWB)
          have HW2 := Lib.hid (H2.out.call hWB)
          have HWW := Lib.hid (below_call BW.out hWB)
          have hkW : Kids (wz.alloc (.cells (yA (.slice Ay ny cy) e.wh) 55)) (.slice Ao no co) (g3 + 1) (ps ++ [(.slice Ay ny cy, allE1 e)]) := by
            refine kids_snoc (kids_call HKD.out hWB) (SliceAt.keep (HOY.out.at_ (by omega)) (Kept.of (below_new wz _)) (fun _ _ h => h)) (fun k hk => ?_)
            have h7 := HOY.out.row k hk
            have h8 := hWB.size
            refine ⟨?_, fun e2 => ?_, by omega⟩
            · have : wz.heap.size ≤ (wz.alloc (.cells (yA (.slice Ay ny cy) e.wh) 55)).heap.size := by simp
              omega
            · have := (HO.out.row k e2).2
              omega
          have HKW := Lib.hid hkW
          have HLN : Hid (ps.length ≤ 16777216) := by
            have := congrArg List.length HP.out
            unfold el1 at this
            rw [List.length_map, List.length_map, List.length_take] at this
            show _ ≤ _
            omega
          have HSW : Hid (g3 + 1 ≤ (wz.alloc (.cells (yA (.slice Ay ny cy) e.wh) 55)).heap.size) := by
            have := hWB.size
            show _ ≤ _
            omega
          clear hkW hWB h3 hst
          go_wp2_with (at_builtin; refine wpList_growAt rfl (.tmp 41) (.tmp 43) 24 rfl ie _ 112 Tryd.underlying24 hei hez0 hez1 hez2 rfl (by omega) rfl HOW.out wz.heap.size (.slice Ay ny cy, allE1 e) _ 55 rfl (Blk.new _ _ _) rfl rfl (one_elem rfl e.wh) HLN.out (by omega) HSW.out ?_)
          rintro v' w2 hown2 hgr2 hbel2 hsl2 hat2
          have hsa : (wz.alloc (.cells (yA (.slice Ay ny cy) e.wh) 55)).heap.size = wz.heap.size + 1 := by simp
          have hk2 := kids_grow HKW.out hgr2 (vo' := v') (by rw [hsa]; exact hat2)
          have g3b := HW3.out.below hbel2 (by omega)
          have HX := Lib.hid (And.intro (own_set hown2 (show g3 < g3 + 1 by omega) 5 v') (And.intro (kids_set hk2 (show g3 < g3 + 1 by omega) 5 v') (And.intro (g3b.set_ 5 v') (And.intro ((HW2.out.below hbel2 (by have := HG3.out; omega)).far (p := ⟨g3, 5, none⟩) (by have := HG3.out; simp only; omega) v') ((HWW.out.trans (hbel2.mono (by have := HG3.out; omega))).setCell (p := ⟨g3, 5, none⟩) (by have := HG3.out; simp only; omega) v')))))
          have HPX := Lib.hid (HPN.out (.slice Ay ny cy, allE1 e) rfl)
          have HSX := Lib.hid hsl2
          have c32 := g3b.cell
          have f32 := g3b.frozen
          obtain ⟨A7, n7, c7, rfl⟩ := hsl2
          clear hown2 hgr2 hbel2 hat2 hk2 g3b c3 f3 yc yf
          go_wp2_with fail
          clear c32 f32
          go_roundg (t.els.length - (kk + 1))
          case measure => omega
          case rel => exact ⟨kk + 1, _, _, by omega, by omega, by go_num, HPX, HSX, HX.out.1, HX.out.2.1, HX.out.2.2.1, HX.out.2.2.2.1, HX.out.2.2.2.2⟩
    · have hltz : ¬ (kk : Int) < (t.els.length : Int) := by omega
      have hke : kk = t.els.length := by omega
      subst hke
      have hel : el1 t.els t.els.length = t.els.map allE1 := by unfold el1; rw [List.take_length]
      rw [hel] at HP
      clear hel
      have hWB : Below wr.heap.size wr ((((wr.alloc (.cells freeA 51)).alloc (.cells rcA 58)).alloc (.cells (fE (.slice (some ⟨wr.heap.size + 1, 0, none⟩) 3 3)) 55)).alloc (.cells (fE (.slice (some ⟨wr.heap.size + 1, 0, none⟩) 3 3)) 55)) := below_alloc (below_alloc (below_alloc (below_new _ _) _) _) _
      have kK := (((Blk.new' (w := wr.alloc (.cells freeA 51)) (g := wr.heap.size + 1) (by simp) 58 rcA).alloc (.cells (fE (.slice (some ⟨wr.heap.size + 1, 0, none⟩) 3 3)) 55)).alloc (.cells (fE (.slice (some ⟨wr.heap.size + 1, 0, none⟩) 3 3)) 55))
      have kE := (Blk.new' (w := (wr.alloc (.cells freeA 51)).alloc (.cells rcA 58)) (g := wr.heap.size + 1 + 1) (by simp) 55 (fE (.slice (some ⟨wr.heap.size + 1, 0, none⟩) 3 3)))
      have kEE := Blk.new' (w := ((wr.alloc (.cells freeA 51)).alloc (.cells rcA 58)).alloc (.cells (fE (.slice (some ⟨wr.heap.size + 1, 0, none⟩) 3 3)) 55)) (g := wr.heap.size + 1 + 1 + 1) (by simp) 55 (fE (.slice (some ⟨wr.heap.size + 1, 0, none⟩) 3 3))
      have HKEE := Lib.hid kEE
      have HKE := Lib.hid kE
      have hlo := BW.out.size
      have hl3o := H3.out.lt
      have hsa : ((((wr.alloc (.cells freeA 51)).alloc (.cells rcA 58)).alloc (.cells (fE (.slice (some ⟨wr.heap.size + 1, 0, none⟩) 3 3)) 55)).alloc (.cells (fE (.slice (some ⟨wr.heap.size + 1, 0, none⟩) 3 3)) 55)).heap.size = wr.heap.size + 1 + 1 + 1 + 1 := by simp
      have HOW := Lib.hid (Own.call HO.out hWB)
      have HW3 := Lib.hid (H3.out.call hWB)
      have HW2 := Lib.hid (H2.out.call hWB)
      have HWW := Lib.hid (below_call BW.out hWB)
      have hkW : Kids ((((wr.alloc (.cells freeA 51)).alloc (.cells rcA 58)).alloc (.cells (fE (.slice (some ⟨wr.heap.size + 1, 0, none⟩) 3 3)) 55)).alloc (.cells (fE (.slice (some ⟨wr.heap.size + 1, 0, none⟩) 3 3)) 55)) (.slice Ao no co) (g3 + 1) (ps ++ [(.slice (some ⟨wr.heap.size + 1, 0, none⟩) 3 3, restE)]) := by
        refine kids_snoc (kids_call HKD.out hWB) (slice_of_blk (rs := [compL ⟨2, 1, 1, 0⟩, compL ⟨3, 1, 1, 0⟩, compL ⟨4, 1, 1, 0⟩]) (by omega) kK rfl (rows_c rfl rfl (rows_c rfl rfl (rows_c rfl rfl rows_nil))) rfl (by unfold maxLen; omega)) (fun k hk => ?_)
        have hk' : wr.heap.size + 1 = k := by injection hk
        refine ⟨by omega, fun e2 => ?_, by omega⟩
        have := (HO.out.row k e2).2
        omega
      have HKW := Lib.hid hkW
      have HLN : Hid (ps.length ≤ 16777216) := by
        have := congrArg List.length HP.out
        rw [List.length_map, List.length_map] at this
        show _ ≤ _
        omega
      have HSW : Hid (g3 + 1 ≤ ((((wr.alloc (.cells freeA 51)).alloc (.cells rcA 58)).alloc (.cells (fE (.slice (some ⟨wr.heap.size + 1, 0, none⟩) 3 3)) 55)).alloc (.cells (fE (.slice (some ⟨wr.heap.size + 1, 0, none⟩) 3 3)) 55)).heap.size) := by
        show _ ≤ _
        omega
      have c3 := ((H3.out.call (below_new wr (.cells freeA 51))).alloc (.cells rcA 58)).alloc (.cells (fE (.slice (some ⟨wr.heap.size + 1, 0, none⟩) 3 3)) 55)
      have c3 := c3.cell
      have ce := HKE.out.cell
      clear hkW hWB kK kE kEE
      go_upto_region 17 with ((go_at_call 19; refine (always_ _).mono ?_; rintro e w' ⟨rfl, rfl⟩))
      go_wp2_with (at_builtin; refine wpList_growAt rfl (.tmp 54) (.tmp 56) 24 rfl ie _ 112 Tryd.underlying24 hei hez0 hez1 hez2 rfl (by omega) rfl HOW.out (wr.heap.size + 1 + 1 + 1) (.slice (some ⟨wr.heap.size + 1, 0, none⟩) 3 3, restE) _ 55 rfl HKEE.out rfl rfl (one_elem rfl freeW) HLN.out (by omega) HSW.out ?_)
      rintro v' w2 hown2 hgr2 hbel2 hsl2 hat2
      have hk2 := kids_grow HKW.out hgr2 (vo' := v') (by first | exact hat2 | (rw [hsa]; exact hat2))
      have g3b := HW3.out.below hbel2 (by omega)
      have g2b := HW2.out.below hbel2 (by have := HG3.out; omega)
      have h2 := g2b.far (p := ⟨g3, 5, none⟩) (by have := HG3.out; simp only; omega) v'
      have HFIN := Lib.hid (fin8 (own_set hown2 (show g3 < g3 + 1 by omega) 5 v') (kids_set hk2 (show g3 < g3 + 1 by omega) 5 v') (show w.heap.size + 1 < g3 + 1 by have := HG3.out; omega))
      have HBF := Lib.hid (below8f ((HWW.out.trans (hbel2.mono (by have := HG3.out; omega))).setCell (p := ⟨g3, 5, none⟩) (by have := HG3.out; simp only; omega) v') (show w.heap.size ≤ w.heap.size + 1 by omega))
      have HPX : Hid ((ps ++ [((.slice (some ⟨wr.heap.size + 1, 0, none⟩) 3 3 : Value), restE)]).map (·.2) = allEs t.els) := by
        show _ = _
        rw [List.map_append, HP.out]; rfl
      have c32 := g3b.cell
      have f32 := g3b.frozen
      have c2b := h2.cell
      have f2b := h2.frozen
      obtain ⟨A7, n7, c7, rfl⟩ := hsl2
      clear hown2 hgr2 hbel2 hat2 hk2 g3b g2b h2 c3 ce
      go_wp2_with fail
      refine bodyPost_ret (v := trfV t (.slice A7 n7 c7)) (by simp [results, Tryd.results17, go_sem, c2b, f2b]) rfl ⟨_, rfl, ?_, HBF.out _ _ _ _ _ _ _ _⟩
      rw [← HPX.out]
      exact HFIN.out _ _ _ _ _ _ _ _
end PriW
end Go.Proofs.YtndlhhiifmjieaaDoor

namespace Go.Proofs.YtndlhhiifmjieaaDoor
namespace PriW
set_option linter.unusedSimpArgs false
set_option linter.unusedVariables false
open Go.RowKit CalW TarW Prc

def uΦ (g1 : Nat) (t t2 : Trf) (us : List Prc.Use) (u : Value) (c : Cx) (v : Value) (k : Nat) (y : Value) (w : World) : Prop := match k with
  | 0 => y = .pointer (some ⟨g1, 0, none⟩)
  | 1 => y = trfV t u
  | 2 => ∃ u2, y = trfV t u2 ∧ ElemsAt w u2 (allEs t.els)
  | 3 => y = .pointer (some ⟨g1, 8, none⟩)
  | 4 => y = zone c.z c.s
  | 5 => y = .pointer (some ⟨g1, 10, none⟩)
  | 6 => y = i c.start
  | 7 => y = .pointer (some ⟨g1, 11, none⟩)
  | 8 => y = v
  | 9 => ∃ va, y = .tuple #[va, i (runE t2 c us)] ∧ Chgs0At w va (runV t2 c us)
  | 10 => ∃ va, y = .tuple #[va, i (runE t2 c us)] ∧ Chgs0At w va (runV t2 c us)
  | 11 => Chgs0At w y (runV t2 c us)
  | 12 => y = i (runE t2 c us)
  | 13 => Chgs0At w y (runV t2 c us)
  | 14 => y = i (runE t2 c us)
  | _ => True
theorem uΦ_keep {g1 : Nat} {t t2 : Trf} {us : List Prc.Use} {u : Value} {c : Cx} {v : Value} {w w' : World} (h : Below w.heap.size w w') : ∀ k y, uΦ g1 t t2 us u c v k y w → uΦ g1 t t2 us u c v k y w' := by
  intro k y hk
  unfold uΦ at *
  split at hk
  all_goals first | exact hk | trivial | (obtain ⟨u2, a, b⟩ := hk; exact ⟨u2, a, b.call h⟩) | exact Chgs0At.call hk h
def UR (W : World) (t2 : Trf) (c : Cx) (us : List Prc.Use) (s3 s4 : Value) (wc : World) : Prop := s4 = i (runE t2 c us) ∧ Chgs0At wc s3 (runV t2 c us) ∧ Below W.heap.size W wc

set_option maxRecDepth 100000 in
set_option maxHeartbeats 1000000 in
theorem law_all (t : Trf) (u : Value) (c : Cx) (v : Value) (us : List Prc.Use) (w : World) (ht : Tab w) (hE : ElemsAt w u t.els) (hid : t.id.size ≤ maxLen) (hcur : t.cur.size ≤ maxLen) (hU : UsesAt w v us) :
    Calls Tryd.prog 6 #[.agg (caseA t u c v)] w (LawPost w) := by
  have hb0 := below_new w (.cells (caseA t u c v) 31)
  have HSM := Lib.hid (small8 t u c v us _ (hE.call hb0) (hU.call hb0))
  have HT := Lib.hid (fun W (hb : Below w.heap.size w W) => example_holds W (ht.below hb ht.lt))
  have HTT := Lib.hid ht
  have HE := Lib.hid hE
  have HU := Lib.hid hU
  have HI := Lib.hid (And.intro hid hcur)
  have HB := Lib.hid hb0
  have hk := Blk.new w 31 (caseA t u c v)
  have HK := Lib.hid hk
  have kc := hk.cell
  clear hk hb0 ht hE hid hcur hU
  go_enter Tryd.func6, Tryd.ntmps6
  go_upto_region 1 with (fail)
  generalize w.alloc (.cells (caseA t u c v) 31) = w0 at *
  go_wp2_with fail
  refine HSM.out.mono ?_
  rintro e w1 ⟨b, rfl, hsm, hb1⟩
  have HB1 := Lib.hid (below_call HB.out hb1)
  have HK1 := Lib.hid (HK.out.call hb1)
  have kc1 := HK1.out.cell
  have HS8 := Lib.hid hsm
  clear kc hb1 HK HSM hsm
  cases b with
  | false =>
    go_wp2_with fail
    refine (HT.out _ HB1.out).mono ?_
    rintro e w2 ⟨rfl, hb2⟩
    go_wp2_with fail
    go_ret
    exact ⟨rfl, below_call HB1.out hb2⟩
  | true =>
    obtain ⟨A, cp, rfl, h3, h4⟩ := SliceAt.form HE.out
    obtain ⟨Au, cu, rfl, h5, h6⟩ := SliceAt.form HU.out
    unfold maxLen at h4 h6
    have hs8 := HS8.out rfl
    by_cases hn : 16 ≤ t.els.length
    · have hnz : (16 : Int) ≤ (t.els.length : Int) := by omega
      clear hs8
      go_wp2_with fail
      refine (HT.out _ HB1.out).mono ?_
      rintro e w2 ⟨rfl, hb2⟩
      go_wp2_with fail
      go_ret
      exact ⟨rfl, below_call HB1.out hb2⟩
    · have hnz : ¬ (16 : Int) ≤ (t.els.length : Int) := by omega
      have HALL := Lib.hid (fun W (hb : Below w.heap.size w W) => all_ t _ W (HE.out.call hb) hs8.1 hs8.2.2)
      have hus : us.length ≤ 300 := hs8.2.1
      clear hs8
      obtain ⟨t2, ht2⟩ : ∃ t2 : Trf, t2 = ⟨t.id, t.cur, t.ver, t.fr, t.to, allEs t.els, t.least, t.most⟩ := ⟨_, rfl⟩
      have HRUN : Hid (∀ W u2, Below w.heap.size w W → ElemsAt W u2 (allEs t.els) → Calls Tryd.prog 10 #[trfV t u2, zone c.z c.s, i c.start, .slice Au us.length cu] W (RunPost t2 c us W)) := by
        intro W u2 hb hx
        subst ht2
        exact run ⟨t.id, t.cur, t.ver, t.fr, t.to, allEs t.els, t.least, t.most⟩ u2 c us _ W (HTT.out.below hb HTT.out.lt) hx HI.out.1 HI.out.2 (HU.out.call hb)
      have HT2 : Hid (t2.els = allEs t.els) := by show _ = _; rw [ht2]
      clear ht2
      go_upto_region 3 with (fail)
      go_cut [3, 4] (fun s3 s4 wc => UR w1 t2 c us s3 s4 wc)
      case first =>
        refine Reg4.region 14 (fun w' => Below w1.heap.size w1 w') (uΦ w.heap.size t t2 us (.slice A t.els.length cp) c (.slice Au us.length cu)) (by kernel_rfl) (by kernel_rfl) ?_ (Below.drew (Below.refl _ _)) ?_ ?_
        · exact Reg4.in_of (n := 80) (by kernel_rfl) rfl
        · intro idx o hj0 ho a' w' hG hop
          have hj' : idx = 0 ∨ idx = 1 ∨ idx = 2 ∨ idx = 3 ∨ idx = 4 ∨ idx = 5 ∨ idx = 6 ∨ idx = 7 ∨ idx = 8 ∨ idx = 9 ∨ idx = 10 ∨ idx = 11 ∨ idx = 12 ∨ idx = 13 := by omega
          have kk := (HK1.out.call hG).cell
          have hGW : Below w.heap.size w w' := below_call HB1.out hG
          rcases hj' with rfl | rfl | rfl | rfl | rfl | rfl | rfl | rfl | rfl | rfl | rfl | rfl | rfl | rfl
          all_goals
            obtain rfl := Option.some.inj ho
            clear ho hj0
          · skip
            have h1 : a'.tmps[1]?.getD undef = .pointer (some ⟨w.heap.size, 0, none⟩) := (Array.getD_eq_getD_getElem? ..).symm.trans (hop 1 (by simp [Op.operands, Call.operands]))
            go_simp
            exact ⟨hG, rfl, fun k u _ _ _ h => h⟩
          · skip
            have h21 : a'.tmps[21]?.getD undef = .pointer (some ⟨w.heap.size, 0, none⟩) := (Array.getD_eq_getD_getElem? ..).symm.trans (hop 21 (by simp [Op.operands, Call.operands]))
            go_simp
            exact ⟨hG, rfl, fun k u _ _ _ h => h⟩
          · skip
            have h22 : a'.tmps[22]?.getD undef = trfV t (.slice A t.els.length cp) := (Array.getD_eq_getD_getElem? ..).symm.trans (hop 22 (by simp [Op.operands, Call.operands]))
            go_simp
            refine (HALL.out w' hGW).mono ?_
            rintro e w'' ⟨u2, rfl, hu2, hbu⟩
            exact ⟨_, rfl, below_call hG hbu, ⟨u2, rfl, hu2⟩, fun k u _ _ _ h => uΦ_keep hbu k u h⟩
          · skip
            have h1 : a'.tmps[1]?.getD undef = .pointer (some ⟨w.heap.size, 0, none⟩) := (Array.getD_eq_getD_getElem? ..).symm.trans (hop 1 (by simp [Op.operands, Call.operands]))
            go_simp
            exact ⟨hG, rfl, fun k u _ _ _ h => h⟩
          · skip
            have h24 : a'.tmps[24]?.getD undef = .pointer (some ⟨w.heap.size, 8, none⟩) := (Array.getD_eq_getD_getElem? ..).symm.trans (hop 24 (by simp [Op.operands, Call.operands]))
            go_simp
            exact ⟨hG, rfl, fun k u _ _ _ h => h⟩
          · skip
            have h1 : a'.tmps[1]?.getD undef = .pointer (some ⟨w.heap.size, 0, none⟩) := (Array.getD_eq_getD_getElem? ..).symm.trans (hop 1 (by simp [Op.operands, Call.operands]))
            go_simp
            exact ⟨hG, rfl, fun k u _ _ _ h => h⟩
          · skip
            have h26 : a'.tmps[26]?.getD undef = .pointer (some ⟨w.heap.size, 10, none⟩) := (Array.getD_eq_getD_getElem? ..).symm.trans (hop 26 (by simp [Op.operands, Call.operands]))
            go_simp
            exact ⟨hG, rfl, fun k u _ _ _ h => h⟩
          · skip
            have h1 : a'.tmps[1]?.getD undef = .pointer (some ⟨w.heap.size, 0, none⟩) := (Array.getD_eq_getD_getElem? ..).symm.trans (hop 1 (by simp [Op.operands, Call.operands]))
            go_simp
            exact ⟨hG, rfl, fun k u _ _ _ h => h⟩
          · skip
            have h28 : a'.tmps[28]?.getD undef = .pointer (some ⟨w.heap.size, 11, none⟩) := (Array.getD_eq_getD_getElem? ..).symm.trans (hop 28 (by simp [Op.operands, Call.operands]))
            go_simp
            exact ⟨hG, rfl, fun k u _ _ _ h => h⟩
          · skip
            obtain ⟨u2, h23, hu2⟩ := hop 23 (by simp [Op.operands, Call.operands])
            rw [Array.getD_eq_getD_getElem?] at h23
            have h25 : a'.tmps[25]?.getD undef = zone c.z c.s := (Array.getD_eq_getD_getElem? ..).symm.trans (hop 25 (by simp [Op.operands, Call.operands]))
            have h27 : a'.tmps[27]?.getD undef = i c.start := (Array.getD_eq_getD_getElem? ..).symm.trans (hop 27 (by simp [Op.operands, Call.operands]))
            have h29 : a'.tmps[29]?.getD undef = .slice Au us.length cu := (Array.getD_eq_getD_getElem? ..).symm.trans (hop 29 (by simp [Op.operands, Call.operands]))
            go_simp
            refine (HRUN.out w' u2 hGW hu2).mono ?_
            rintro e w'' ⟨va, rfl, hva, hb5⟩
            exact ⟨_, rfl, below_call hG hb5, ⟨va, rfl, hva⟩, fun k u _ _ _ h => uΦ_keep hb5 k u h⟩
          · skip
            obtain ⟨va, h30, hva⟩ := hop 30 (by simp [Op.operands])
            rw [Array.getD_eq_getD_getElem?] at h30
            go_simp
            exact ⟨hG, ⟨va, rfl, hva⟩, fun k u _ _ _ h => h⟩
          · skip
            obtain ⟨va, h20, hva⟩ := hop 20 (by simp [Op.operands])
            rw [Array.getD_eq_getD_getElem?] at h20
            go_simp
            exact ⟨hG, hva, fun k u _ _ _ h => h⟩
          · skip
            obtain ⟨va, h20, hva⟩ := hop 20 (by simp [Op.operands])
            rw [Array.getD_eq_getD_getElem?] at h20
            go_simp
            exact ⟨hG, rfl, fun k u _ _ _ h => h⟩
          · skip
            have h31 := hop 31 (by simp [Op.operands])
            rw [Array.getD_eq_getD_getElem?] at h31
            have h31' : Chgs0At w' (a'.tmps[31]?.getD undef) (runV t2 c us) := h31
            clear h31
            go_simp
            exact ⟨hG, h31', fun k u _ _ _ h => h⟩
        · intro vals w' hG hΦ
          have h13 : Chgs0At w' (vals 13) (runV t2 c us) := hΦ 13 (by omega)
          have hv12 : vals 12 = i (runE t2 c us) := hΦ 12 (by omega)
          have HR : Hid (UR w1 t2 c us (vals 13) (i (runE t2 c us)) w') := ⟨rfl, h13, hG⟩
          simp only [Reg4.puts, Reg4.dstOf, List.range, List.range.loop, if_true, List.drop_succ_cons, List.drop_zero, hv12]
          clear hG hΦ h13 hv12
          generalize vals 13 = v13 at *
          go_wp2_with fail
          go_meet
          exact HR.out
      case rest =>
        obtain ⟨rfl, hva, hbc⟩ := hcut
        have HVA := Lib.hid hva
        have HBC := Lib.hid hbc
        clear hva hbc
        obtain ⟨Al, cl, rfl, h7, h8⟩ := SliceAt.form HVA.out
        unfold maxLen at h8
        have HBW := Lib.hid (below_call HB1.out HBC.out)
        have HKC := Lib.hid (HK1.out.call HBC.out)
        have kcc := HKC.out.cell
        have HSUM : Hid (runE t2 c us = 0 → (sumK (runV t2 c us) 2 = enTo us us.length ∧ sumK (runV t2 c us) 4 = idTo us us.length ∧ sumK (runV t2 c us) 3 = us.length - idTo us us.length) ∧ ((∀ x ∈ runV t2 c us, 0 ≤ x.qty ∧ x.qty ≤ 36028797018963968) ∧ (runV t2 c us).length ≤ 100) ∧ ∀ u ∈ us, 0 ≤ u.en ∧ u.en ≤ 1099511627776) :=
          fun h => ⟨all_sums HT2.out h, all_bd HT2.out h, any_uses (runE_zero h).2.2.2.2.2.2⟩
        have HNIL : Hid (runE t2 c us ≠ 0 → (runV t2 c us).length = 0) := fun h => by unfold runV; rw [if_neg h]; rfl
        clear kc1 HK1 HBC HB1 HT2
        generalize runE t2 c us = E at *
        generalize runV t2 c us = xs at *
        by_cases hE0 : E = 0
        · subst hE0
          obtain ⟨⟨s2, s4, s3⟩, ⟨hb1, hb2⟩, hb3⟩ := HSUM.out rfl
          have HQ := Lib.hid (And.intro hb1 hb2)
          have HEN := Lib.hid (enTo_bd hb3)
          have HES := Lib.hid (fun k => @enTo_succ us k)
          have HIS := Lib.hid (fun k => @idTo_succ us k)
          have HIB := Lib.hid (idTo_bd us)
          have S2 := Lib.hid s2
          have S4 := Lib.hid s4
          have S3 := Lib.hid s3
          have HUQ := Lib.hid hb3
          clear s2 s4 s3 hb1 hb2 hb3 HSUM HNIL
          go_wp2_with fail
          obtain ⟨wd, rfl⟩ : ∃ wd : World, wd = wc := ⟨_, rfl⟩
          go_loopg [5, 6, 44] us.length (fun gg s5 s6 s44 wr => ∃ kk : Nat, kk ≤ us.length ∧ us.length - kk ≤ gg ∧ s5 = i (enTo us kk) ∧ s6 = i (idTo us kk) ∧ s44 = i kk ∧ Hid (Below wd.heap.size wd wr))
          case atStart => exact ⟨0, Nat.zero_le _, by omega, rfl, rfl, rfl, Below.refl _ _⟩
          case round =>
            obtain ⟨kk, hkk, hg, rfl, rfl, rfl, BW⟩ := hrel
            by_cases hlt : kk < us.length
            · have hltz : (kk : Int) < (us.length : Int) := by omega
              obtain ⟨b, off, rfl, _, _, hrow⟩ := UsesAt.at_ HU.out hlt
              obtain ⟨l0, l1⟩ := hrow wr (Kept.of (below_call HBW.out BW.out))
              clear hrow
              have HE2 := Lib.hid (HES.out kk hlt)
              have HI2 := Lib.hid (HIS.out kk hlt)
              obtain ⟨e0, e1⟩ := HEN.out kk (by omega)
              obtain ⟨i0, i1⟩ := HIB.out kk
              obtain ⟨y0, y1⟩ := HUQ.out us[kk] (List.getElem_mem hlt)
              generalize us[kk] = y at *
              obtain ⟨y, id⟩ := y
              simp only at *
              obtain ⟨en, HEN2⟩ : ∃ s, Hid (enTo us (kk + 1) = s) := ⟨_, rfl⟩
              obtain ⟨idn, HID2⟩ : ∃ s, Hid (idTo us (kk + 1) = s) := ⟨_, rfl⟩
              rw [HEN2.out] at HE2
              rw [HID2.out] at HI2
              generalize enTo us kk = ek at *
              generalize idTo us kk = ik at *
              cases id with
              | true =>
                have HI3 : Hid (idn = ik + 1) := by have := HI2.out; rw [if_pos rfl] at this; exact this
                clear HI2
                go_wp2_with fail
                go_roundg (us.length - (kk + 1))
                case measure => omega
                case rel => exact ⟨kk + 1, by omega, by omega, by rw [HEN2.out]; exact congrArg i HE2.out.symm, by rw [HID2.out]; exact congrArg i HI3.out.symm, by go_num, below_alloc BW.out _⟩
              | false =>
                have HI3 : Hid (idn = ik) := by have := HI2.out; rw [if_neg (by decide), Int.add_zero] at this; exact this
                clear HI2
                go_wp2_with fail
                go_roundg (us.length - (kk + 1))
                case measure => omega
                case rel => exact ⟨kk + 1, by omega, by omega, by rw [HEN2.out]; exact congrArg i HE2.out.symm, by rw [HID2.out]; exact congrArg i HI3.out.symm, by go_num, below_alloc BW.out _⟩
            · have hltz : ¬ (kk : Int) < (us.length : Int) := by omega
              have hke : kk = us.length := by omega
              subst hke
              have HBR := Lib.hid (below_call HBW.out BW.out)
              have HSM : Hid (∀ W k, W = wr.drew → Calls Tryd.prog 18 #[.slice Al xs.length cl, i k] W fun e w' => e = .returned (i (sumK xs k)) ∧ w' = W) := by
                intro W k hW
                subst hW
                exact (sum_ _ xs k _ (HVA.out.call (Below.drew BW.out)) HQ.out.1 HQ.out.2).mono fun _ _ ⟨a, b⟩ => ⟨a, b.symm⟩
              have kr := (HKC.out.call BW.out).cell
              obtain ⟨i0, i1⟩ := HIB.out us.length
              clear kcc
              have HM2 : Hid (Calls Tryd.prog 18 #[.slice Al xs.length cl, .int .i64 2] wr.drew fun e w' => e = .returned (i (enTo us us.length)) ∧ w' = wr.drew) := by
                have := HSM.out wr.drew 2 rfl
                rw [S2.out] at this
                exact this
              have HM4 : Hid (Calls Tryd.prog 18 #[.slice Al xs.length cl, .int .i64 4] wr.drew fun e w' => e = .returned (i (idTo us us.length)) ∧ w' = wr.drew) := by
                have := HSM.out wr.drew 4 rfl
                rw [S4.out] at this
                exact this
              have HM3 : Hid (Calls Tryd.prog 18 #[.slice Al xs.length cl, .int .i64 3] wr.drew fun e w' => e = .returned (i (us.length - idTo us us.length)) ∧ w' = wr.drew) := by
                have := HSM.out wr.drew 3 rfl
                rw [S3.out] at this
                exact this
              have hwr : IntKind.i64.wrap ((us.length : Int) - idTo us us.length) = us.length - idTo us us.length := IntWalk.i64_in _ (by omega)
              clear HSM S2 S3 S4
              generalize enTo us us.length = ek at *
              generalize idTo us us.length = ik at *
              go_upto_region 14 with (fail)
              refine wp_region_still_tail 21 (by kernel_rfl) (by kernel_rfl) ?_
              simp only [List.take_succ_cons, List.take_zero, List.drop_succ_cons, List.drop_zero]
              still_step
              still_call HM2.out
              repeat still_step
              still_call HM4.out
              repeat still_step
              still_call HM3.out
              repeat still_step
              refine wpStill_nil ?_
              go_wp2_with fail
              refine (HT.out _ (Below.drew HBR.out)).mono ?_
              rintro e w6 ⟨rfl, hb6⟩
              go_wp2_with fail
              go_ret
              exact ⟨rfl, below_call (Below.drew HBR.out) hb6⟩
        · have hEb : (E != 0) = true := bne_iff_ne.2 hE0
          have hx0 := HNIL.out hE0
          have hxz : (xs.length : Int) = 0 := by omega
          clear hE0 HNIL HSUM
          go_wp2_with fail
          refine (HT.out _ HBW.out).mono ?_
          rintro e w6 ⟨rfl, hb6⟩
          go_wp2_with fail
          go_ret
          exact ⟨rfl, below_call HBW.out hb6⟩
end PriW
end Go.Proofs.YtndlhhiifmjieaaDoor
