/-
  The walk of the reference's Same for two records that read alike.
  The chapter's example in plain words: the record that is made of it, its credit.
  The walks of make46 and of the chapter's example.
  The examples of the chapter hold (chargenetlaw46.exampleHolds).
-/
import Derived.Test.YtpmcdjpfolgpiaaGreatDoorCdrA
import Derived.Test.YtpmcdjpfolgpiaaGreatDoorCdrE
import Derived.Test.YtpmcdjpfolgpiaaGreatDoorDecT
import Derived.Laws.Tables
import Derived.Laws.CopyOwn
import Derived.Great.BuildSlice
namespace Go.Proofs.YtpmcdjpfolgpiaaGreatDoor
namespace Cdr
set_option linter.unusedSimpArgs false
set_option linter.unusedVariables false
open Go.RowKit MonW TarW Usg CdrW

set_option maxRecDepth 100000 in
set_option maxHeartbeats 2000000 in
theorem same (c : CDR) (v v' : Value) (w : World) (h : ItmsAt w v c.items) (h' : ItmsAt w v' c.items) :
    Calls Tryz.prog 15 #[.agg (cdrA c v), .agg (cdrA c v')] w fun e w' => e = .returned (.bool true) ∧ Below w.heap.size w w' := by
  obtain ⟨A, k, rfl, h1, h2⟩ := SliceAt.form h
  obtain ⟨A', k', rfl, h1', h2'⟩ := SliceAt.form h'
  unfold maxLen at h2 h2'
  have hb0 := below_alloc (below_alloc (Below.refl w.heap.size w) (.cells (cdrA c (.slice A c.items.length k)) 24)) (.cells (cdrA c (.slice A' c.items.length k')) 24)
  have HC := Lib.hid (ItmsAt.keep h (Kept.of hb0))
  have HC' := Lib.hid (ItmsAt.keep h' (Kept.of hb0))
  have HB := Lib.hid hb0
  clear h h' hb0
  obtain ⟨id, oper, prov, sess, ver, start, stop, en, tar, cur, items, total, credit, ref⟩ := c
  simp only at *
  go_enter Tryz.func15, Tryz.ntmps15
  go_wp2_with fail
  have hk1 := (Blk.new w 24 (cdrA ⟨id, oper, prov, sess, ver, start, stop, en, tar, cur, items, total, credit, ref⟩ (.slice A items.length k))).alloc (.cells (cdrA ⟨id, oper, prov, sess, ver, start, stop, en, tar, cur, items, total, credit, ref⟩ (.slice A' items.length k')) 24)
  have hk2 := Blk.new (w.alloc (.cells (cdrA ⟨id, oper, prov, sess, ver, start, stop, en, tar, cur, items, total, credit, ref⟩ (.slice A items.length k)) 24)) 24 (cdrA ⟨id, oper, prov, sess, ver, start, stop, en, tar, cur, items, total, credit, ref⟩ (.slice A' items.length k'))
  rw [World.size_alloc] at hk2
  have c1 := hk1.cell 10
  have c2 := hk2.cell 10
  simp at c1 c2
  have c1' : ((w.alloc (.cells (cdrA ⟨id, oper, prov, sess, ver, start, stop, en, tar, cur, items, total, credit, ref⟩ (.slice A items.length k)) 24)).alloc (.cells (cdrA ⟨id, oper, prov, sess, ver, start, stop, en, tar, cur, items, total, credit, ref⟩ (.slice A' items.length k')) 24)).cell? ⟨w.heap.size, 10, none⟩ = some (.slice A items.length k) := hk1.cell 10
  have c2' : ((w.alloc (.cells (cdrA ⟨id, oper, prov, sess, ver, start, stop, en, tar, cur, items, total, credit, ref⟩ (.slice A items.length k)) 24)).alloc (.cells (cdrA ⟨id, oper, prov, sess, ver, start, stop, en, tar, cur, items, total, credit, ref⟩ (.slice A' items.length k')) 24)).cell? ⟨w.heap.size + 1, 10, none⟩ = some (.slice A' items.length k') := hk2.cell 10
  clear c1 c2 hk1 hk2
  obtain ⟨W2, hW2⟩ : ∃ W2, (w.alloc (.cells (cdrA ⟨id, oper, prov, sess, ver, start, stop, en, tar, cur, items, total, credit, ref⟩ (.slice A items.length k)) 24)).alloc (.cells (cdrA ⟨id, oper, prov, sess, ver, start, stop, en, tar, cur, items, total, credit, ref⟩ (.slice A' items.length k')) 24) = W2 := ⟨_, rfl⟩
  rw [hW2] at c1' c2' HC HC' HB ⊢
  clear hW2
  go_loopg [5] items.length (fun gg s5 wr => ∃ kk m : Nat, kk ≤ items.length ∧ items.length - kk ≤ gg ∧ s5 = i kk ∧ wr = W2.drewN m)
  case atStart => exact ⟨0, 0, Nat.zero_le _, by omega, rfl, rfl⟩
  case round =>
    obtain ⟨kk, m, hkk, hg, rfl, rfl⟩ := hrel
    by_cases hlt : kk < items.length
    · have hltz : (kk : Int) < (items.length : Int) := by omega
      have hk0 : (0 : Int) ≤ (kk : Int) := by omega
      obtain ⟨b, off, rfl, _, _, hrow⟩ := ItmsAt.at_ HC.out hlt
      obtain ⟨b', off', rfl, _, _, hrow'⟩ := ItmsAt.at_ HC'.out hlt
      obtain ⟨l0, l1, l2, l3, l4, l5, l6⟩ := hrow W2 (Kept.refl _)
      obtain ⟨m0, m1, m2, m3, m4, m5, m6⟩ := hrow' W2 (Kept.refl _)
      clear hrow hrow'
      generalize items[kk] = y at *
      have hq := fun W => neqItm y W
      go_wp2_with fail
      go_quiet (fail)
      go_wp2_with fail
      go_roundg (items.length - (kk + 1))
      case measure => omega
      case rel => exact ⟨kk + 1, m + nq, by omega, by omega, by go_num, rfl⟩
    · have hltz : ¬ (kk : Int) < (items.length : Int) := by omega
      go_wp2_with fail
      go_ret
      exact ⟨rfl, below_drewN' HB.out _⟩
end Cdr
end Go.Proofs.YtpmcdjpfolgpiaaGreatDoor

namespace Go.Proofs.YtpmcdjpfolgpiaaGreatDoor
namespace Ex
set_option linter.unusedSimpArgs false
set_option linter.unusedVariables false
open TarW Usg Prc PriW Cdr MonW

def freeW : Tar.Wh := ⟨0, 0, 0, -1, -1, -1, -1, -1, -1, -1, -1⟩
def c2 : Comp := ⟨2, 300, 60, 0⟩
def c4 : Comp := ⟨4, 2000, 1, 0⟩
def exEls : List Elem := [⟨[c2, c4], freeW⟩]
def exT : Trf := ⟨⟨#[84]⟩, ⟨#[69, 85, 82]⟩, 1, 0, -1, exEls, -1, -1⟩
def exRds : List Rdg := [⟨10, 0⟩, ⟨1810, 1260000⟩, ⟨1840, 1260000⟩]
def exR : Rec := ⟨⟨#[83]⟩, ⟨#[83, 45, 49]⟩, 1, ⟨#[65]⟩, 10, 1840, exRds, 1260000, 1, false, false⟩
def exIts : List Itm := [⟨2, 300, 0, 1260000, 6300, 0, 6300⟩, ⟨4, 2000, 0, 30, 1000, 0, 1000⟩]
def exC : CDR := ⟨⟨#[99, 49]⟩, ⟨#[79]⟩, ⟨#[80]⟩, ⟨#[83, 45, 49]⟩, 1, 10, 1840, 1260000, ⟨#[84]⟩, ⟨#[69, 85, 82]⟩, exIts, 7300, false, ⟨#[]⟩⟩
def exDIts : List Itm := [⟨2, -300, 0, 1260000, -6300, 0, -6300⟩, ⟨4, -2000, 0, 30, -1000, 0, -1000⟩]
def exD : CDR := ⟨⟨#[99, 50]⟩, ⟨#[79]⟩, ⟨#[80]⟩, ⟨#[83, 45, 49]⟩, 1, 10, 1840, 1260000, ⟨#[84]⟩, ⟨#[69, 85, 82]⟩, exDIts, -7300, true, ⟨#[99, 49]⟩⟩
def exUs : List Prc.Use := List.replicate 1800 ⟨700, false⟩ ++ List.replicate 30 ⟨0, true⟩
def cx : Cx := ⟨0, false, 10⟩

theorem free_hours (v mi : Int) : Tar.hours freeW v mi = true := by
  have e : Tar.onW 0 v = true := by
    unfold Tar.onW
    rw [show Tar.dset 0 = 0 by decide]
    simp [Cal.onD]
  show (if (0 : Int) = 0 then Tar.onW 0 v else _) = true
  rw [if_pos rfl, e]
theorem free_holds {z : Int} {s : Bool} {a since en po : Int} (hz : -840 ≤ z ∧ z ≤ 840) (ha : 0 ≤ a ∧ a ≤ 268435456) : Tar.holds freeW z s a since en po = true := by
  unfold Tar.holds
  rw [free_hours, decide_eq_true ⟨hz.1, hz.2, ha.1, ha.2⟩]
  rfl
theorem ex_uses : useV exRds 10000000 = exUs := by
  have h0 : minE exRds 10000000 = 0 := by kernel_rfl
  unfold useV minV
  rw [if_pos h0]
  have h1 : parts 1260000 1800 = List.replicate 1800 700 := by
    unfold parts
    rw [List.eq_replicate_iff]
    refine ⟨by simp, fun x hx => ?_⟩
    obtain ⟨k, hk, rfl⟩ := List.mem_map.1 hx
    show Usg.part _ _ _ = _
    unfold Usg.part
    omega
  have h2 : parts 0 30 = List.replicate 30 0 := by
    unfold parts
    rw [List.eq_replicate_iff]
    refine ⟨by simp, fun x hx => ?_⟩
    obtain ⟨k, hk, rfl⟩ := List.mem_map.1 hx
    show Usg.part _ _ _ = _
    unfold Usg.part
    omega
  have h3 : mins 10000000 exRds = parts 1260000 1800 ++ (parts 0 30 ++ []) := by
    unfold exRds
    rw [mins, mins, mins]
    · rfl
    · intro a b l h; cases h
  rw [h3, h1, h2, List.append_nil, List.map_append, List.map_replicate, List.map_replicate]
  rfl
theorem two_len {α : Type} (a b : α) (n m : Nat) : (List.replicate n a ++ List.replicate m b).length = n + m := by simp
theorem two_lo {α : Type} (a b : α) (n m k : Nat) (h : k < n) : (List.replicate n a ++ List.replicate m b)[k]? = some a := by
  rw [List.getElem?_append_left (by simpa using h), List.getElem?_replicate, if_pos h]
theorem two_hi {α : Type} (a b : α) (n m k : Nat) (h : k < m) : (List.replicate n a ++ List.replicate m b)[n + k]? = some b := by
  rw [List.getElem?_append_right (by simp), List.getElem?_replicate]
  simp
  omega
theorem us_len : exUs.length = 1830 := two_len _ _ 1800 30
theorem us_lo {k : Nat} (h : k < 1800) : exUs[k]? = some ⟨700, false⟩ := two_lo _ _ 1800 30 k h
theorem us_hi {j : Nat} (h : j < 30) : exUs[1800 + j]? = some ⟨0, true⟩ := two_hi _ _ 1800 30 j h
theorem ex_runE : runE exT cx exUs = 0 := by
  unfold runE
  rw [if_neg (by rw [show validT exT = 0 by kernel_rfl]; decide), if_neg (by unfold cx; decide), us_len, if_neg (by decide), if_neg (by unfold cx; decide), if_neg]
  rw [Bool.not_eq_true, List.any_eq_false]
  intro u hu
  unfold exUs at hu
  rcases List.mem_append.1 hu with hu | hu
  · rw [List.eq_of_mem_replicate hu]; decide
  · rw [List.eq_of_mem_replicate hu]; decide
theorem holdsP {m en po : Int} (hm : 0 ≤ m ∧ m ≤ 2000) : cx.P m en po freeW = true := by
  exact free_holds (z := 0) (a := 10 + m) (by omega) (by omega)
theorem place_ {P : Tar.Wh → Bool} (h : P freeW = true) (k : Int) : place P k exEls 0 = (([c2, c4].find? (isK k)).map fun c => (0, c)) := by
  unfold exEls place elemC
  rw [if_pos h]
  cases hf : [c2, c4].find? (isK k) with
  | none => rfl
  | some c => rfl
/-- The session after the first minutes. -/
structure Lo (k : Nat) (st : St) : Prop where
  q1 : st.q 0 1 = 0
  q2 : st.q 0 2 = 700 * (k : Int)
  q3 : st.q 0 3 = 0
  q4 : st.q 0 4 = 0
  l2 : st.last 2 = if k = 0 then none else some (0, 60)
  l3 : st.last 3 = none
  l4 : st.last 4 = none
structure Hi (j : Nat) (st : St) : Prop where
  q1 : st.q 0 1 = 0
  q2 : st.q 0 2 = 1260000
  q3 : st.q 0 3 = 0
  q4 : st.q 0 4 = j
  l2 : st.last 2 = some (0, 60)
  l3 : st.last 3 = none
  l4 : st.last 4 = if j = 0 then none else some (0, 1)
set_option maxRecDepth 20000 in
theorem lo_run : ∀ k, k ≤ 1800 → Lo k (runTo exEls cx exUs k) := by
  intro k
  induction k with
  | zero =>
    intro _
    have e : runTo exEls cx exUs 0 = st0 := by
      rw [runTo]
      unfold addS
      rw [if_neg (by decide), place_ (holdsP (by omega))]
      rfl
    rw [e]
    exact ⟨rfl, rfl, rfl, rfl, rfl, rfl, rfl⟩
  | succ k ih =>
    intro hk
    obtain ⟨q1, q2, q3, q4, l2, l3, l4⟩ := ih (by omega)
    have e : runTo exEls cx exUs (k + 1) = minuteS exEls cx k (enTo exUs k) ⟨700, false⟩ (runTo exEls cx exUs k) := by
      rw [runTo, us_lo (by omega)]
    generalize runTo exEls cx exUs k = st at *
    have e3 : minuteS exEls cx k (enTo exUs k) ⟨700, false⟩ st = ⟨bump st.q 0 2 700, fun b => if b = 2 then some (0, 60) else st.last b⟩ := by
      unfold minuteS
      have hp : place (cx.P k (enTo exUs k) 700) 2 exEls 0 = some (0, c2) := by rw [place_ (holdsP (by omega))]; rfl
      have hp3 : place (cx.P k (enTo exUs k) 700) 3 exEls 0 = none := by rw [place_ (holdsP (by omega))]; rfl
      simp only [Bool.false_eq_true, if_false]
      unfold addS
      simp only [hp, hp3]
      rfl
    rw [e, e3]
    refine ⟨?_, ?_, ?_, ?_, ?_, ?_, ?_⟩
    · simpa [bump] using q1
    · simp [bump, q2]; omega
    · simpa [bump] using q3
    · simpa [bump] using q4
    · simp
    · simpa using l3
    · simpa using l4
set_option maxRecDepth 20000 in
theorem hi_run : ∀ j, j ≤ 30 → Hi j (runTo exEls cx exUs (1800 + j)) := by
  intro j
  induction j with
  | zero =>
    intro _
    obtain ⟨q1, q2, q3, q4, l2, l3, l4⟩ := lo_run 1800 (Nat.le_refl _)
    exact ⟨q1, by rw [Nat.add_zero, q2]; rfl, q3, by rw [Nat.add_zero, q4]; rfl, by rw [Nat.add_zero, l2]; rfl, l3, by rw [Nat.add_zero, l4]; rfl⟩
  | succ j ih =>
    intro hj
    obtain ⟨q1, q2, q3, q4, l2, l3, l4⟩ := ih (by omega)
    have e : runTo exEls cx exUs (1800 + (j + 1)) = minuteS exEls cx (1800 + j) (enTo exUs (1800 + j)) ⟨0, true⟩ (runTo exEls cx exUs (1800 + j)) := by
      rw [show 1800 + (j + 1) = (1800 + j) + 1 by omega, runTo, us_hi (by omega)]
    generalize runTo exEls cx exUs (1800 + j) = st at *
    have e3 : minuteS exEls cx (1800 + j) (enTo exUs (1800 + j)) ⟨0, true⟩ st = ⟨bump st.q 0 4 1, fun b => if b = 4 then some (0, 1) else st.last b⟩ := by
      unfold minuteS
      have hp : place (cx.P ((1800 + j : Nat) : Int) (enTo exUs (1800 + j)) 0) 4 exEls 0 = some (0, c4) := by rw [place_ (holdsP (by omega))]; rfl
      simp only [if_true]
      unfold addS
      simp only [hp]
      rfl
    rw [e, e3]
    refine ⟨?_, ?_, ?_, ?_, ?_, ?_, ?_⟩
    · simpa [bump] using q1
    · simpa [bump] using q2
    · simpa [bump] using q3
    · simp [bump, q4]
    · simpa using l2
    · simpa using l3
    · simp
theorem roundK_none {k : Int} {st : St} (h : st.last k = none) : roundK k st = st := by unfold roundK; rw [h]
theorem roundK_some {k : Int} {st : St} {j : Nat} {n : Int} (h : st.last k = some (j, n)) (hn : ¬ n < 1) : roundK k st = ⟨fun a b => if a = j ∧ b = k then up (st.q a b) n else st.q a b, st.last⟩ := by
  unfold roundK
  rw [h]
  simp only [if_neg hn]
theorem ex_round {st : St} (h : Hi 30 st) : (roundS st).q 0 1 = 0 ∧ (roundS st).q 0 2 = 1260000 ∧ (roundS st).q 0 3 = 0 ∧ (roundS st).q 0 4 = 30 := by
  obtain ⟨q1, q2, q3, q4, l2, l3, l4⟩ := h
  rw [if_neg (by decide)] at l4
  have e2 := roundK_some l2 (by decide)
  have l3' : (roundK 2 st).last 3 = none := by rw [e2]; exact l3
  have l4' : (roundK 2 st).last 4 = some (0, 1) := by rw [e2]; exact l4
  have e4 := roundK_some l4' (by decide)
  unfold roundS
  rw [roundK_none l3', e4]
  have r (b : Int) : (roundK 2 st).q 0 b = if (0 : Int) = ((0 : Nat) : Int) ∧ b = 2 then up (st.q 0 b) 60 else st.q 0 b := by rw [e2]
  have u : up 1260000 60 = 1260000 := by unfold up; rw [if_pos (by decide)]
  have u4 : up ((30 : Nat) : Int) 1 = 30 := by unfold up; rw [if_pos (by decide)]; rfl
  refine ⟨?_, ?_, ?_, ?_⟩
  · show (if (0 : Int) = ((0 : Nat) : Int) ∧ (1 : Int) = 4 then up ((roundK 2 st).q 0 1) 1 else (roundK 2 st).q 0 1) = _
    rw [if_neg (by decide), r, if_neg (by decide), q1]
  · show (if (0 : Int) = ((0 : Nat) : Int) ∧ (2 : Int) = 4 then up ((roundK 2 st).q 0 2) 1 else (roundK 2 st).q 0 2) = _
    rw [if_neg (by decide), r, if_pos (by decide), q2, u]
  · show (if (0 : Int) = ((0 : Nat) : Int) ∧ (3 : Int) = 4 then up ((roundK 2 st).q 0 3) 1 else (roundK 2 st).q 0 3) = _
    rw [if_neg (by decide), r, if_neg (by decide), q3]
  · show (if (0 : Int) = ((0 : Nat) : Int) ∧ (4 : Int) = 4 then up ((roundK 2 st).q 0 4) 1 else (roundK 2 st).q 0 4) = (30 : Int)
    rw [if_pos (by decide), r, if_neg (by decide), q4, u4]
theorem ex_runV : runV exT cx exUs = [⟨2, 300, 0, 1260000⟩, ⟨4, 2000, 0, 30⟩] := by
  unfold runV
  rw [if_pos ex_runE, us_len]
  obtain ⟨q1, q2, q3, q4⟩ := ex_round (hi_run 30 (Nat.le_refl _))
  rw [show (1800 + 30 : Nat) = 1830 from rfl] at q1 q2 q3 q4
  show chgs (roundS (runTo exEls cx exUs 1830)).q exEls 0 = _
  generalize (roundS (runTo exEls cx exUs 1830)).q = q at *
  show chgsE _ 0 q ++ chgs q [] 1 = _
  unfold chgsE chgOf
  rw [q1, q2, q3, q4]
  rfl
theorem ex_chgs : chgsOf exR exT 0 false 10000000 = [⟨2, 300, 0, 1260000⟩, ⟨4, 2000, 0, 30⟩] := by
  unfold chgsOf
  rw [show exR.rds = exRds from rfl, ex_uses]
  exact ex_runV
theorem ex_bill : billR exR exT 0 false 10000000 = (exIts, 7300, 0) := by
  unfold billR
  rw [ex_chgs, show exR.rds = exRds from rfl, ex_uses, show exR.start = 10 from rfl, show (⟨0, false, 10⟩ : Cx) = cx from rfl, ex_runE, show minE exRds 10000000 = 0 by kernel_rfl]
  kernel_rfl
theorem ex_make : makeR ⟨#[99, 49]⟩ ⟨#[79]⟩ ⟨#[80]⟩ exR exT 0 false 10000000 = (exC, 0) := by
  unfold makeR
  rw [ex_bill]
  kernel_rfl
theorem exC_ok : cdrE exC = 0 := by kernel_rfl
theorem exD_ok : cdrE exD = 0 := by kernel_rfl
theorem ex_credit : creditR exC ⟨#[99, 50]⟩ = (exD, 0) := by kernel_rfl
theorem ex_twice : creditR exD ⟨#[99, 51]⟩ = (noCdr, 10) := by kernel_rfl
end Ex
namespace EncW
open Enc Cdr MonW
theorem addF_ne {l : List Fld} {t : Int} {xs : List Int} (h : xs ≠ []) : addF l t xs = l ++ [⟨t, xs⟩] := by
  unfold addF
  rw [if_neg (fun e => h (List.eq_nil_of_length_eq_zero e))]
theorem addN_ne {l : List Fld} {t n : Int} (h : n ≠ 0) : addN l t n = l ++ [⟨t, encI n⟩] := by
  unfold addN
  rw [if_neg h, addF_ne (encI_ne n)]
theorem putL_ne (ds : List (List Int)) : putL ds ≠ [] := by
  unfold putL
  intro e
  exact encI_ne _ (List.append_eq_nil_iff.1 e).1
theorem addI_ne {l : List Fld} {t : Int} {its : List Itm} (h : 1 ≤ its.length) : addI l t its = l ++ [⟨t, putL (dats its)⟩] := by
  unfold addI
  rw [if_neg (by omega), addF_ne (putL_ne _)]
theorem recF_full {c : CDR} (h : Full c) : recF c = fldL c := by
  unfold recF addC
  rw [h.cr, if_pos rfl, addF_ne h.n1, addF_ne h.n2, addF_ne h.n3, addF_ne h.n4, addN_ne h.z1, addN_ne h.z2, addN_ne h.z3, addN_ne h.z4, addF_ne h.n5, addF_ne h.n6, addI_ne h.l1, addN_ne h.z5, addN_ne (by decide), addF_ne h.n7]
  rfl
theorem recF_ok {c : CDR} (ho : c.ok) (hs : ShortS c) (hn : c.items.length ≤ 32) (hio : ∀ x ∈ c.items, x.ok) : OkF (recF c) := by
  obtain ⟨z1, z2, z3, z4, z5, z6, z7⟩ := hs
  have T4 := (((OkT.nil.add (t' := 1) (xs := strB c.id) (by omega) (by omega) (by omega) (by omega) (by rw [strB_len]; omega)).add (t' := 2) (xs := strB c.oper) (by omega) (by omega) (by omega) (by omega) (by rw [strB_len]; omega)).add (t' := 3) (xs := strB c.prov) (by omega) (by omega) (by omega) (by omega) (by rw [strB_len]; omega)).add (t' := 4) (xs := strB c.sess) (by omega) (by omega) (by omega) (by omega) (by rw [strB_len]; omega)
  have T8 := (((T4.addN (t' := 5) (by omega) (by omega) (by omega) (by omega) ho.n1).addN (t' := 6) (by omega) (by omega) (by omega) (by omega) ho.n2).addN (t' := 7) (by omega) (by omega) (by omega) (by omega) ho.n3).addN (t' := 8) (by omega) (by omega) (by omega) (by omega) ho.n4
  have T10 := (T8.add (t' := 9) (xs := strB c.tar) (by omega) (by omega) (by omega) (by omega) (by rw [strB_len]; omega)).add (t' := 10) (xs := strB c.cur) (by omega) (by omega) (by omega) (by omega) (by rw [strB_len]; omega)
  have T12 := (T10.addI (t' := 11) (by omega) (by omega) (by omega) (by omega) hio hn).addN (t' := 12) (by omega) (by omega) (by omega) (by omega) ho.n5
  exact ((T12.addC (c := c.credit) (by omega)).add (t' := 14) (xs := strB c.ref) (by omega) (by omega) (by omega) (by omega) (by rw [strB_len]; omega)).ok
end EncW
namespace Ex
open EncW Usg Cdr MonW
theorem exD_its : ∀ x ∈ exD.items, x.ok := by
  intro x hx
  rcases List.mem_cons.1 hx with rfl | hx
  · unfold Itm.ok I64; decide
  · rcases List.mem_cons.1 hx with rfl | hx
    · unfold Itm.ok I64; decide
    · cases hx
theorem exD_full : Full exD := by
  refine ⟨by decide, by decide, by decide, by decide, by decide, by decide, by decide, ?_, ?_, ?_, ?_, ?_, by decide, by decide, by decide, by decide, by decide, by decide, by decide, exD_its, rfl⟩
  all_goals (unfold I64; decide)
theorem exD_k : exD.ok := by
  constructor
  all_goals first | (unfold maxLen; decide) | (unfold I64; decide)
theorem exC_k : exC.ok := by
  constructor
  all_goals first | (unfold maxLen; decide) | (unfold I64; decide)
theorem exD_short : ShortS exD := by unfold ShortS; decide
theorem exD_enc : encR exD = (Enc.putF (fldL exD), 0) := by
  unfold encR
  rw [if_neg (fun h => h exD_ok), recF_full exD_full]
theorem exD_okF : OkF (fldL exD) := by
  rw [← recF_full exD_full]
  exact recF_ok exD_k exD_short (by decide) exD_its
end Ex
end Go.Proofs.YtpmcdjpfolgpiaaGreatDoor

namespace Go.Proofs.YtpmcdjpfolgpiaaGreatDoor
namespace Ex
set_option linter.unusedSimpArgs false
set_option linter.unusedVariables false
open Go.RowKit Go.Great TarW Usg UsgW Prc PriW Cdr MonW CdrW

/-- A case as a value. -/
abbrev caseA (id op pr : ByteArray) (r : Rec) (u : Value) (t : Trf) (v : Value) (z : Int) (s : Bool) (m : Int) : Array Value := #[.string id, .string op, .string pr, .string r.sta, .string r.txn, i r.conn, .string r.tok, i r.start, i r.stop, u, i r.en, i r.reason, .bool r.off, .bool r.den, .string t.id, .string t.cur, i t.ver, i t.fr, i t.to, v, i t.least, i t.most, i z, .bool s, i m]
theorem ret46 {W : World} {tmps : Array Value} {B : Nat} {c : CDR} {A : Option Addr} {n k : Nat} {E : Int} (h1 : tmps.getD 2 undef = .pointer (some ⟨B, 0, none⟩)) (h2 : tmps.getD 3 undef = i E) (hk : Blk W B 24 (cdrA c (.slice A n k))) :
    (results Tryz.f13 tmps).run Tryz.prog W = .ok (.tuple #[.agg (cdrA c (.slice A n k)), i E]) W := by
  obtain ⟨c0, c1, c2, c3, c4, c5, c6, c7, c8, c9, c10, c11, c12, c13⟩ := cdr_cells hk
  rw [Array.getD_eq_getD_getElem?] at h1 h2
  simp [results, Tryz.f13, go_sem, h1, h2, c0, c1, c2, c3, c4, c5, c6, c7, c8, c9, c10, c11, c12, c13]

set_option maxRecDepth 100000 in
set_option maxHeartbeats 4000000 in
theorem make46 (id op pr : ByteArray) (r : Rec) (A : Option Addr) (n k : Nat) (t : Trf) (A' : Option Addr) (n' k' : Nat) (z : Int) (s : Bool) (m : Int) (w : World) (ht : CalW.Tab w) (htl : 2 < w.heap.size) (hR : RdgsAt w (.slice A n k) r.rds) (hE : ElemsAt w (.slice A' n' k') t.els)
    (h1 : id.size ≤ maxLen) (h2 : op.size ≤ maxLen) (h3 : pr.size ≤ maxLen) (ho : r.ok) (hid : t.id.size ≤ maxLen) (hcur : t.cur.size ≤ maxLen) (hm : I64 m) (hl : I64 t.least) (hmo : I64 t.most) (hs1 : I64 r.start) (hs2 : I64 r.stop) (hs3 : I64 r.en) :
    Calls Tryz.prog 13 #[.agg (caseA id op pr r (.slice A n k) t (.slice A' n' k') z s m)] w (MakePost (makeR id op pr r t z s m) w) := by
  have hb2 : Below w.heap.size w ((w.alloc (.cells (caseA id op pr r (.slice A n k) t (.slice A' n' k') z s m) 40)).alloc (.cells (cdrA noCdr (.slice none 0 0)) 24)) := below_alloc (below_new w _) _
  have HM := Lib.hid (make id op pr r A n k t A' n' k' z s m _ (ht.below hb2 htl) (hR.call hb2) (hE.call hb2) h1 h2 h3 ho hid hcur hm hl hmo hs1 hs2 hs3)
  have HK : Hid (Blk ((w.alloc (.cells (caseA id op pr r (.slice A n k) t (.slice A' n' k') z s m) 40)).alloc (.cells (cdrA noCdr (.slice none 0 0)) 24)) (w.heap.size + 1) 24 (cdrA noCdr (.slice none 0 0))) := by
    have := Blk.new (w.alloc (.cells (caseA id op pr r (.slice A n k) t (.slice A' n' k') z s m) 40)) 24 (cdrA noCdr (.slice none 0 0))
    rw [World.size_alloc] at this
    exact this
  have HB2 := Lib.hid hb2
  generalize makeR id op pr r t z s m = R at *
  clear hb2 ht hR hE h1 h2 h3 ho hid hcur hm hl hmo hs1 hs2 hs3 htl
  obtain ⟨sta, txn, conn, tok, start, stop, rds, en, reason, off, den⟩ := r
  obtain ⟨tid, cur, ver, fr, tt, els, least, most⟩ := t
  go_enter Tryz.func13, Tryz.ntmps13
  go_wp2_with fail
  refine HM.out.mono ?_
  rintro e w3 ⟨u, rfl, hI, hb⟩
  obtain ⟨c, E⟩ := R
  obtain ⟨A5, c5, rfl, _, _⟩ := SliceAt.form hI
  have hk := HK.out.call hb
  have d := hk.cell
  have fz := hk.frozen
  have HK3 := Lib.hid hk
  have HI3 := Lib.hid hI
  have HB3 := Lib.hid (below_call HB2.out hb)
  clear hk hI hb
  go_wp2_with fail
  refine bodyPost_ret (ret46 rfl rfl (put14_blk c (.slice A5 c.items.length c5) HK3.out)) rfl ?_
  exact ⟨_, rfl, items_far c (.slice A5 c.items.length c5) HI3.out HK3.out, put14_below c (.slice A5 c.items.length c5) HB3.out (by simp)⟩

/-- The example as a value. -/
abbrev exA (u v : Value) : Array Value := #[.string ⟨#[99, 49]⟩, .string ⟨#[79]⟩, .string ⟨#[80]⟩, .string ⟨#[83]⟩, .string ⟨#[83, 45, 49]⟩, i 1, .string ⟨#[65]⟩, i 10, i 1840, u, i 1260000, i 1, .bool false, .bool false, .string ⟨#[84]⟩, .string ⟨#[69, 85, 82]⟩, i 1, i 0, i (-1), v, i (-1), i (-1), i 0, .bool false, i 10000000]
abbrev zero25 : Array Value := #[.string ⟨#[]⟩, .string ⟨#[]⟩, .string ⟨#[]⟩, .string ⟨#[]⟩, .string ⟨#[]⟩, i 0, .string ⟨#[]⟩, i 0, i 0, .slice none 0 0, i 0, i 0, .bool false, .bool false, .string ⟨#[]⟩, .string ⟨#[]⟩, i 0, i 0, i 0, .slice none 0 0, i 0, i 0, i 0, .bool false, i 0]
theorem row_blk {w : World} {g : Nat} {t : TypeId} {old : Array Value} (cs : Array Value) (h : Blk w g t old) : Blk (w.setRow g cs) g t cs := setRow_heap w g old cs t (0, 0) h
theorem row_other {w : World} {g g' : Nat} {t : TypeId} {cs : Array Value} (cs' : Array Value) (h : Blk w g' t cs) (hg : g' ≠ g) : Blk (w.setRow g cs') g' t cs := (setRow_other w g g' cs' hg).trans h
theorem row_below {s0 : Nat} {a w : World} {g : Nat} (cs : Array Value) (h : Below s0 a w) (hg : s0 ≤ g) : Below s0 a (w.setRow g cs) := below_setRow h hg cs
theorem retCase {W : World} {tmps : Array Value} {B : Nat} {u v : Value} (h1 : tmps.getD 0 undef = .pointer (some ⟨B, 0, none⟩)) (hk : Blk W B 40 (exA u v)) :
    (results Tryz.f20 tmps).run Tryz.prog W = .ok (.agg (exA u v)) W := by
  have hi : (Tryz.prog.info? 40).map (·.size) = some (exA u v).size := by kernel_rfl
  have hl := run_loadVar_row (P := Tryz.prog) W B 40 40 (exA u v) (0, 0) _ hk Tryz.underlying40 rfl hi
  rw [Array.getD_eq_getD_getElem?] at h1
  generalize exA u v = cs at *
  simp [results, Tryz.f20, h1, hl, asAddr]
abbrev freeA : Array Value := #[i 0, i 0, i 0, i (-1), i (-1), i (-1), i (-1), i (-1), i (-1), i (-1), i (-1)]
abbrev cA : Array Value := #[i 2, i 300, i 60, i 0, i 4, i 2000, i 1, i 0]
abbrev eA (g : Nat) : Array Value := #[.slice (some ⟨g, 0, none⟩) 2 2, i 0, i 0, i 0, i (-1), i (-1), i (-1), i (-1), i (-1), i (-1), i (-1), i (-1)]
abbrev tA (g : Nat) : Array Value := #[.string ⟨#[84]⟩, .string ⟨#[69, 85, 82]⟩, i 1, i 0, i (-1), .slice (some ⟨g, 0, none⟩) 1 1, i (-1), i (-1)]
abbrev rA : Array Value := #[i 10, i 0, i 1810, i 1260000, i 1840, i 1260000]
abbrev kA (g : Nat) : Array Value := #[.string ⟨#[83]⟩, .string ⟨#[83, 45, 49]⟩, i 1, .string ⟨#[65]⟩, i 10, i 1840, .slice (some ⟨g, 0, none⟩) 3 3, i 1260000, i 1, .bool false, .bool false]
theorem slice_of_blk {α : Type} {R : List Value → α → Prop} {size n g : Nat} {w : World} {t : TypeId} {cs : Array Value} {rs : List (List Value)} {xs : List α} (hs : 0 < size) (h : Blk w g t cs) (hc : cs.toList = rs.flatten) (hr : RowsOf R size rs xs) (hn : n = xs.length) (hm : n ≤ maxLen) :
    SliceAt R size w (.slice (some ⟨g, 0, none⟩) n n) xs := by
  have hl := flat_len rs hr.each
  have hsz : cs.size = n * size := by rw [← Array.length_toList, hc, hl, hr.1, hn]
  refine SliceAt.of_own (base := 0) (e := t) (rs := rs) hs ⟨by rw [hl, hr.1, hn], .inr ⟨g, n, cs, rfl, Nat.zero_le _, h, Nat.le_refl _, hm, hsz, ?_⟩⟩ hr hn
  rw [← hc, List.take_of_length_le (by rw [Array.length_toList, hsz]; exact Nat.le_refl _)]
theorem rows_c {α : Type} {R : List Value → α → Prop} {size : Nat} {r : List Value} {x : α} {rs : List (List Value)} {xs : List α} (hl : r.length = size) (h : R r x) (hr : RowsOf R size rs xs) : RowsOf R size (r :: rs) (x :: xs) := by
  refine ⟨by simp [hr.1], fun j r' x' h1 h2 => ?_⟩
  match j, h1, h2 with
  | 0, h1, h2 =>
    have e1 : r = r' := by simpa using h1
    have e2 : x = x' := by simpa using h2
    subst e1; subst e2
    exact ⟨hl, h⟩
  | j + 1, h1, h2 => exact hr.2 j r' x' (by simpa using h1) (by simpa using h2)
theorem ex_els {w : World} {g1 g2 : Nat} (h1 : Blk w g1 82 cA) (h2 : Blk w g2 65 (eA g1)) : ElemsAt w (.slice (some ⟨g2, 0, none⟩) 1 1) exEls := by
  have c1 : CompsAt w (.slice (some ⟨g1, 0, none⟩) 2 2) [c2, c4] := slice_of_blk (rs := [compL c2, compL c4]) (by omega) h1 rfl (rows_c rfl rfl (rows_c rfl rfl rows_nil)) rfl (by unfold maxLen; omega)
  exact slice_of_blk (rs := [.slice (some ⟨g1, 0, none⟩) 2 2 :: whL freeW]) (by omega) h2 rfl (rows_c rfl ⟨_, rfl, c1⟩ rows_nil) rfl (by unfold maxLen; omega)
theorem ex_rds {w : World} {g : Nat} (h : Blk w g 67 rA) : RdgsAt w (.slice (some ⟨g, 0, none⟩) 3 3) exRds :=
  slice_of_blk (rs := [[i 10, i 0], [i 1810, i 1260000], [i 1840, i 1260000]]) (by omega) h rfl (rows_c rfl ⟨rfl, by unfold I64; simp, by unfold I64; simp⟩ (rows_c rfl ⟨rfl, by unfold I64; simp, by unfold I64; simp⟩ (rows_c rfl ⟨rfl, by unfold I64; simp, by unfold I64; simp⟩ rows_nil))) rfl (by unfold maxLen; omega)

set_option maxRecDepth 100000 in
set_option maxHeartbeats 4000000 in
theorem example_ (w : World) : Calls Tryz.prog 20 #[] w fun e w' => ∃ g1 g2, e = .returned (.agg (exA (.slice (some ⟨g1, 0, none⟩) 3 3) (.slice (some ⟨g2, 0, none⟩) 1 1))) ∧ RdgsAt w' (.slice (some ⟨g1, 0, none⟩) 3 3) exRds ∧ ElemsAt w' (.slice (some ⟨g2, 0, none⟩) 1 1) exEls ∧ Below w.heap.size w w' := by
  go_enter Tryz.func20, Tryz.ntmps20
  go_upto_region 2 with (fail)
  have k0 := (Blk.new w 40 zero25).alloc (.cells freeA 63)
  have k1 := Blk.new' (w := w.alloc (.cells zero25 40)) (g := w.heap.size + 1) (by simp) 63 freeA
  have hb := below_alloc (below_new w (.cells zero25 40)) (.cells freeA 63)
  have hsz : ((w.alloc (.cells zero25 40)).alloc (.cells freeA 63)).heap.size = w.heap.size + 2 := by simp
  generalize (w.alloc (.cells zero25 40)).alloc (.cells freeA 63) = w1 at *
  have HK0 := Lib.hid k0
  have HB1 := Lib.hid hb
  have d := k1.cell
  have HSZ := Lib.hid hsz
  clear k0 k1 hb hsz
  go_upto_region 3 with (fail)
  have k0 := ((HK0.out.alloc (.cells cA 82)).alloc (.cells (eA w1.heap.size) 65)).alloc (.cells (tA (w1.heap.size + 1)) 36)
  have kc := ((Blk.new w1 82 cA).alloc (.cells (eA w1.heap.size) 65)).alloc (.cells (tA (w1.heap.size + 1)) 36)
  have ke := (Blk.new' (w := w1.alloc (.cells cA 82)) (g := w1.heap.size + 1) (by simp) 65 (eA w1.heap.size)).alloc (.cells (tA (w1.heap.size + 1)) 36)
  have kt := Blk.new' (w := (w1.alloc (.cells cA 82)).alloc (.cells (eA w1.heap.size) 65)) (g := w1.heap.size + 1 + 1) (by simp) 36 (tA (w1.heap.size + 1))
  have hb := below_alloc (below_alloc (below_alloc HB1.out (.cells cA 82)) (.cells (eA w1.heap.size) 65)) (.cells (tA (w1.heap.size + 1)) 36)
  have hlt := HK0.out.lt
  generalize (((w1.alloc (.cells cA 82)).alloc (.cells (eA w1.heap.size) 65)).alloc (.cells (tA (w1.heap.size + 1)) 36)) = w2 at *
  generalize w1.heap.size = G at *
  have HK2 := Lib.hid k0
  have HKC := Lib.hid kc
  have HKE := Lib.hid ke
  have HKT := Lib.hid kt
  have HB2 := Lib.hid hb
  clear k0 kc ke kt hb HK0 HB1 d HSZ
  go_upto_region 4 with (fail)
  have k0 := (HK2.out.alloc (.cells rA 67)).alloc (.cells (kA w2.heap.size) 31)
  have kc := (HKC.out.alloc (.cells rA 67)).alloc (.cells (kA w2.heap.size) 31)
  have ke := (HKE.out.alloc (.cells rA 67)).alloc (.cells (kA w2.heap.size) 31)
  have kt := (HKT.out.alloc (.cells rA 67)).alloc (.cells (kA w2.heap.size) 31)
  have kr := (Blk.new w2 67 rA).alloc (.cells (kA w2.heap.size) 31)
  have kk := Blk.new' (w := w2.alloc (.cells rA 67)) (g := w2.heap.size + 1) (by simp) 31 (kA w2.heap.size)
  have hb := below_alloc (below_alloc HB2.out (.cells rA 67)) (.cells (kA w2.heap.size) 31)
  have hlt2 := HKT.out.lt
  generalize (w2.alloc (.cells rA 67)).alloc (.cells (kA w2.heap.size) 31) = w3 at *
  generalize w2.heap.size = H at *
  have tc := kt.cell
  have rc := kk.cell
  have zc := k0.cell
  have zf := k0.frozen
  have HK3 := Lib.hid k0
  have HKC3 := Lib.hid kc
  have HKE3 := Lib.hid ke
  have HKR3 := Lib.hid kr
  have HB3 := Lib.hid hb
  clear k0 kc ke kt kr kk hb HK2 HKC HKE HKT HB2
  refine wp_region_lit ?_
  refine PriW.listRun (w' := w3) rfl (.agg (kA H)) (by go_simp) ?_
  refine PriW.listRun (w' := w3) rfl (.agg (tA (G + 1))) (by go_simp) ?_
  refine wpList_buildTo rfl 40 _ rfl (some 20) rfl (exA (.slice (some ⟨H, 0, none⟩) 3 3) (.slice (some ⟨G + 1, 0, none⟩) 1 1)) (by kernel_rfl) ?_
  refine wpList_store_rowTo rfl 40 (.tmp 0) (.tmp 20) rfl rfl w.heap.size (exA (.slice (some ⟨H, 0, none⟩) 3 3) (.slice (some ⟨G + 1, 0, none⟩) 1 1)) (by kernel_rfl) (by kernel_rfl) 40 zero25 HK3.out (by kernel_rfl) (by kernel_rfl) (by kernel_rfl) ?_
  have hz := Lib.hid (row_blk (g := w.heap.size) (exA (.slice (some ⟨H, 0, none⟩) 3 3) (.slice (some ⟨G + 1, 0, none⟩) 1 1)) HK3.out)
  have h1 := Lib.hid (ex_rds (row_other (g := w.heap.size) (exA (.slice (some ⟨H, 0, none⟩) 3 3) (.slice (some ⟨G + 1, 0, none⟩) 1 1)) HKR3.out (by omega)))
  have h2 := Lib.hid (ex_els (row_other (g := w.heap.size) (exA (.slice (some ⟨H, 0, none⟩) 3 3) (.slice (some ⟨G + 1, 0, none⟩) 1 1)) HKC3.out (by omega)) (row_other (g := w.heap.size) (exA (.slice (some ⟨H, 0, none⟩) 3 3) (.slice (some ⟨G + 1, 0, none⟩) 1 1)) HKE3.out (by omega)))
  have h3 := Lib.hid (row_below (g := w.heap.size) (exA (.slice (some ⟨H, 0, none⟩) 3 3) (.slice (some ⟨G + 1, 0, none⟩) 1 1)) HB3.out (Nat.le_refl _))
  clear tc rc zc zf
  generalize w3.setRow w.heap.size (exA (.slice (some ⟨H, 0, none⟩) 3 3) (.slice (some ⟨G + 1, 0, none⟩) 1 1)) = w9 at *
  clear HK3 HKC3 HKE3 HKR3 HB3
  go_wp2_with fail
  refine bodyPost_ret (retCase rfl hz.out) rfl ?_
  exact ⟨H, G + 1, rfl, h1.out, h2.out, h3.out⟩
end Ex
end Go.Proofs.YtpmcdjpfolgpiaaGreatDoor

namespace Go.Proofs.YtpmcdjpfolgpiaaGreatDoor
namespace Ex
set_option linter.unusedSimpArgs false
set_option linter.unusedVariables false
open Go.RowKit TarW Usg UsgW Prc PriW Cdr MonW CdrW EncW

def LawPost (w : World) (e : Ending) (w' : World) : Prop := e = .returned (.bool true) ∧ Below w.heap.size w w'
/-- What the example needs to know of its record and its credit. -/
structure ExK (w : World) (C D : CDR) : Prop where
  mm : ∀ W g1 g2, Below w.heap.size w W → RdgsAt W (.slice (some ⟨g1, 0, none⟩) 3 3) exRds → ElemsAt W (.slice (some ⟨g2, 0, none⟩) 1 1) exEls → Calls Tryz.prog 13 #[.agg (exA (.slice (some ⟨g1, 0, none⟩) 3 3) (.slice (some ⟨g2, 0, none⟩) 1 1))] W (MakePost (C, 0) W)
  cr : ∀ W A n k, ItmsAt W (.slice A n k) C.items → Calls Tryz.prog 16 #[.agg (cdrA C (.slice A n k)), .string ⟨#[99, 50]⟩] W (MakePost (D, 0) W)
  tw : ∀ W A n k, ItmsAt W (.slice A n k) D.items → Calls Tryz.prog 16 #[.agg (cdrA D (.slice A n k)), .string ⟨#[99, 51]⟩] W (MakePost (noCdr, 10) W)
  en : ∀ W A n k, ItmsAt W (.slice A n k) D.items → Calls Tryz.prog 18 #[.agg (cdrA D (.slice A n k))] W fun e w' => ∃ u, e = .returned (.tuple #[u, i 0]) ∧ EncW.Data w' u (Enc.putF (fldL D)) ∧ Below W.heap.size W w'
  de : ∀ W u, EncW.Data W u (Enc.putF (fldL D)) → Calls Tryz.prog 21 #[u] W (DecPost D W)
  v1 : ∀ W A n k, ItmsAt W (.slice A n k) C.items → Calls Tryz.prog 10 #[.agg (cdrA C (.slice A n k))] W fun e w' => e = .returned (i 0) ∧ Below W.heap.size W w'
  v2 : ∀ W A n k, ItmsAt W (.slice A n k) D.items → Calls Tryz.prog 10 #[.agg (cdrA D (.slice A n k))] W fun e w' => e = .returned (i 0) ∧ Below W.heap.size W w'
  t1 : C.total = 7300
  t2 : D.total = -7300
  rf : D.ref = ⟨#[99, 49]⟩
  nn : ∃ x y, C.items = [x, y] ∧ x.net = 6300 ∧ y.net = 1000
theorem exK (w : World) (ht : CalW.Tab w) : ExK w exC exD where
  mm := fun W g1 g2 hb hR hE => by
    have := make46 ⟨#[99, 49]⟩ ⟨#[79]⟩ ⟨#[80]⟩ exR (some ⟨g1, 0, none⟩) 3 3 exT (some ⟨g2, 0, none⟩) 1 1 0 false 10000000 W (ht.below hb ht.lt) (by have := hb.size; have := ht.lt; omega) hR hE (by unfold maxLen; decide) (by unfold maxLen; decide) (by unfold maxLen; decide) ⟨by unfold maxLen; decide, by unfold maxLen; decide, by unfold maxLen; decide⟩ (by unfold maxLen; decide) (by unfold maxLen; decide) (by unfold I64; decide) (by unfold I64; decide) (by unfold I64; decide) (by unfold I64; decide) (by unfold I64; decide) (by unfold I64; decide)
    rw [ex_make] at this
    exact this
  cr := fun W A n k h => by
    have := credit exC ⟨#[99, 50]⟩ A n k W exC_k h (by unfold maxLen; decide)
    rw [ex_credit] at this
    exact this
  tw := fun W A n k h => by
    have := credit exD ⟨#[99, 51]⟩ A n k W exD_k h (by unfold maxLen; decide)
    rw [ex_twice] at this
    exact this
  en := fun W A n k h => (encode exD A n k W exD_k h (fun _ => ⟨exD_short, by decide⟩)).mono fun e w' hp => by
    obtain ⟨u, he, ho, hb⟩ := hp
    rw [exD_enc] at he ho
    exact ⟨u, he, EncW.Data.of ho, hb⟩
  de := fun W u h => EncW.decode exD u W h exD_okF exD_full exD_k exD_ok
  v1 := fun W A n k h => valid exC A n k W exC_k h exC_ok
  v2 := fun W A n k h => valid exD A n k W exD_k h exD_ok
  t1 := rfl
  t2 := rfl
  rf := rfl
  nn := ⟨_, _, rfl, rfl, rfl⟩

set_option maxRecDepth 100000 in
set_option maxHeartbeats 4000000 in
theorem example_any (w : World) (C D : CDR) (h : ExK w C D) : Calls Tryz.prog 9 #[] w (LawPost w) := by
  have HK := Lib.hid h
  clear h
  go_enter Tryz.func9, Tryz.ntmps9
  go_wp2_with fail
  refine (example_ _).mono ?_
  rintro e w1 ⟨g1, g2, rfl, hR, hE, hb⟩
  have HB1 := Lib.hid hb
  have HM := Lib.hid (HK.out.mm w1 g1 g2 hb hR hE)
  clear hb hR hE
  go_wp2_with fail
  refine HM.out.mono ?_
  rintro e w2 ⟨u, rfl, hI, hb⟩
  obtain ⟨A, k, rfl, hlk, hkm⟩ := SliceAt.form hI
  have HB2 := Lib.hid (below_call HB1.out hb)
  have HI2 := Lib.hid hI
  clear hb hI HM HB1
  go_upto_region 2 with (fail)
  have HB3 := Lib.hid (below_alloc HB2.out (.cells (cdrA C (.slice A C.items.length k)) 24))
  have HC3 := Lib.hid (Blk.new w2 24 (cdrA C (.slice A C.items.length k)))
  have HI3 := Lib.hid (ItmsAt.call HI2.out (below_new w2 (.cells (cdrA C (.slice A C.items.length k)) 24)))
  generalize w2.alloc (.cells (cdrA C (.slice A C.items.length k)) 24) = w3 at *
  have kc := HC3.out.cell
  clear HB2 HI2
  go_wp2_with fail
  refine (HK.out.cr w3 _ _ _ HI3.out).mono ?_
  rintro e w4 ⟨u, rfl, hI, hb⟩
  obtain ⟨A4, k4, rfl, _, _⟩ := SliceAt.form hI
  have HI4 : Hid (ItmsAt w4 (.slice A4 D.items.length k4) D.items) := hI
  have HB4 := Lib.hid (below_call HB3.out hb)
  have HC4 := Lib.hid (HC3.out.call hb)
  have HJ4 := Lib.hid (ItmsAt.call HI3.out hb)
  clear hI hb kc HC3 HI3 HB3
  go_upto_region 3 with (fail)
  have HB5 := Lib.hid (below_alloc HB4.out (.cells (cdrA D (.slice A4 D.items.length k4)) 24))
  have HC5 := Lib.hid (HC4.out.alloc (.cells (cdrA D (.slice A4 D.items.length k4)) 24))
  have HD5 := Lib.hid (Blk.new w4 24 (cdrA D (.slice A4 D.items.length k4)))
  have HI5 := Lib.hid (ItmsAt.call HI4.out (below_new w4 (.cells (cdrA D (.slice A4 D.items.length k4)) 24)))
  have HJ5 := Lib.hid (ItmsAt.call HJ4.out (below_new w4 (.cells (cdrA D (.slice A4 D.items.length k4)) 24)))
  generalize w4.alloc (.cells (cdrA D (.slice A4 D.items.length k4)) 24) = w5 at *
  have kd := HD5.out.cell
  clear HB4 HC4 HI4 HJ4
  go_wp2_with fail
  refine (HK.out.tw w5 _ _ _ HI5.out).mono ?_
  rintro e w6 ⟨u, rfl, hI, hb⟩
  obtain ⟨A6, k6, rfl, _, _⟩ := SliceAt.form hI
  have HB6 := Lib.hid (below_call HB5.out hb)
  have HC6 := Lib.hid (HC5.out.call hb)
  have HD6 := Lib.hid (HD5.out.call hb)
  have HI6 := Lib.hid (ItmsAt.call HI5.out hb)
  have HJ6 := Lib.hid (ItmsAt.call HJ5.out hb)
  clear hI hb kd HC5 HD5 HI5 HJ5 HB5
  go_upto_region 4 with (fail)
  have HB7 := Lib.hid (below_alloc HB6.out (.cells (cdrA noCdr (.slice A6 noCdr.items.length k6)) 24))
  have HC7 := Lib.hid (HC6.out.alloc (.cells (cdrA noCdr (.slice A6 noCdr.items.length k6)) 24))
  have HD7 := Lib.hid (HD6.out.alloc (.cells (cdrA noCdr (.slice A6 noCdr.items.length k6)) 24))
  have HI7 := Lib.hid (ItmsAt.call HI6.out (below_new w6 (.cells (cdrA noCdr (.slice A6 noCdr.items.length k6)) 24)))
  have HJ7 := Lib.hid (ItmsAt.call HJ6.out (below_new w6 (.cells (cdrA noCdr (.slice A6 noCdr.items.length k6)) 24)))
  generalize w6.alloc (.cells (cdrA noCdr (.slice A6 noCdr.items.length k6)) 24) = w7 at *
  have kd := HD7.out.cell
  clear HB6 HC6 HD6 HI6 HJ6
  go_wp2_with fail
  refine (HK.out.en w7 _ _ _ HI7.out).mono ?_
  rintro e w8 ⟨u, rfl, hd, hb⟩
  have HU := Lib.hid hd
  have HB8 := Lib.hid (below_call HB7.out hb)
  have HC8 := Lib.hid (HC7.out.call hb)
  have HD8 := Lib.hid (HD7.out.call hb)
  have HI8 := Lib.hid (ItmsAt.call HI7.out hb)
  have HJ8 := Lib.hid (ItmsAt.call HJ7.out hb)
  clear hd hb kd HC7 HD7 HI7 HJ7 HB7
  go_wp2_with fail
  refine (HK.out.de w8 u HU.out).mono ?_
  rintro e w9 ⟨A9, n9, k9, rfl, hI, hb⟩
  obtain ⟨h9, _, _⟩ := SliceAt.len hI
  subst h9
  have HX9 := Lib.hid hI
  have HB9 := Lib.hid (below_call HB8.out hb)
  have HC9 := Lib.hid (HC8.out.call hb)
  have HD9 := Lib.hid (HD8.out.call hb)
  have HI9 := Lib.hid (ItmsAt.call HI8.out hb)
  have HJ9 := Lib.hid (ItmsAt.call HJ8.out hb)
  clear hI hb HU HC8 HD8 HI8 HJ8 HB8
  go_upto_region 6 with (fail)
  have HB := Lib.hid (below_alloc HB9.out (.cells (cdrA D (.slice A9 D.items.length k9)) 24))
  have HC := Lib.hid (HC9.out.alloc (.cells (cdrA D (.slice A9 D.items.length k9)) 24))
  have HD := Lib.hid (HD9.out.alloc (.cells (cdrA D (.slice A9 D.items.length k9)) 24))
  have HX := Lib.hid (Blk.new w9 24 (cdrA D (.slice A9 D.items.length k9)))
  have HI := Lib.hid (ItmsAt.call HI9.out (below_new w9 (.cells (cdrA D (.slice A9 D.items.length k9)) 24)))
  have HJ := Lib.hid (ItmsAt.call HJ9.out (below_new w9 (.cells (cdrA D (.slice A9 D.items.length k9)) 24)))
  have HXI := Lib.hid (ItmsAt.call HX9.out (below_new w9 (.cells (cdrA D (.slice A9 D.items.length k9)) 24)))
  generalize w9.alloc (.cells (cdrA D (.slice A9 D.items.length k9)) 24) = wz at *
  clear HB9 HC9 HD9 HI9 HJ9 HX9
  obtain ⟨x, y, hits, hx, hy⟩ := HK.out.nn
  have hlen : C.items.length = 2 := by rw [hits]; rfl
  have c11 : wz.cell? ⟨w2.heap.size, 11, none⟩ = some (i 7300) := by have := HC.out.cell 11; rw [← HK.out.t1]; exact this
  have d11 : wz.cell? ⟨w4.heap.size, 11, none⟩ = some (i (-7300)) := by have := HD.out.cell 11; rw [← HK.out.t2]; exact this
  have d13 : wz.cell? ⟨w4.heap.size, 13, none⟩ = some (.string ⟨#[99, 49]⟩) := by have := HD.out.cell 13; rw [← HK.out.rf]; exact this
  have c10 : wz.cell? ⟨w2.heap.size, 10, none⟩ = some (.slice A 2 k) := by have := HC.out.cell 10; rw [← hlen]; exact this
  obtain ⟨b, off, rfl, -, -, hr0⟩ := ItmsAt.at_ (j := 0) HJ.out (by omega)
  obtain ⟨b', off', hA', -, -, hr1⟩ := ItmsAt.at_ (j := 1) HJ.out (by omega)
  obtain ⟨rfl, rfl⟩ : b = b' ∧ off = off' := by simpa using hA'
  have e0 : C.items[0].net = 6300 := by simp only [hits]; exact hx
  have e1 : C.items[1].net = 1000 := by simp only [hits]; exact hy
  obtain ⟨-, -, -, -, i0, -, -⟩ := hr0 wz (Kept.refl _)
  obtain ⟨-, -, -, -, i1, -, -⟩ := hr1 wz (Kept.refl _)
  rw [e0] at i0
  rw [e1] at i1
  simp only [Nat.zero_mul, Nat.add_zero, Nat.one_mul] at i0 i1
  have hk2 : 2 ≤ k := by have := (SliceAt.len HJ.out).2.1; omega
  clear hits hx hy e0 e1 hr0 hr1 hA' hlen
  go_upto_region 8 with (fail)
  have HS := Lib.hid (same D (.slice A9 D.items.length k9) (.slice A4 D.items.length k4) wz HXI.out HI.out)
  have kd := HD.out.cell
  have kx := HX.out.cell
  clear d11 d13
  go_wp2_with fail
  refine HS.out.mono ?_
  rintro e wa ⟨rfl, hb⟩
  have HBa := Lib.hid (below_call HB.out hb)
  have HCa := Lib.hid (HC.out.call hb)
  have HDa := Lib.hid (HD.out.call hb)
  have HIa := Lib.hid (ItmsAt.call HI.out hb)
  have HJa := Lib.hid (ItmsAt.call HJ.out hb)
  have kc := HCa.out.cell
  clear hb kd kx c10 c11 i0 i1 HB HC HD HI HJ HX HXI HS
  go_wp2_with fail
  refine (HK.out.v1 _ _ _ _ HJa.out).mono ?_
  rintro e wb ⟨rfl, hb⟩
  have HBb := Lib.hid (below_call HBa.out hb)
  have HDb := Lib.hid (HDa.out.call hb)
  have HIb := Lib.hid (ItmsAt.call HIa.out hb)
  have kd := HDb.out.cell
  clear hb kc HBa HCa HDa HIa HJa
  go_wp2_with fail
  refine (HK.out.v2 _ _ _ _ HIb.out).mono ?_
  rintro e wc ⟨rfl, hb⟩
  go_wp2_with fail
  go_ret
  exact ⟨rfl, below_call HBb.out hb⟩
theorem example_holds (w : World) (ht : CalW.Tab w) : Calls Tryz.prog 9 #[] w (LawPost w) := example_any w exC exD (exK w ht)
end Ex
end Go.Proofs.YtpmcdjpfolgpiaaGreatDoor
