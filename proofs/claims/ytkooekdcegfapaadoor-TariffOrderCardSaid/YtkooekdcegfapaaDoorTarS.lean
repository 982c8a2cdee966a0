/-
  The walk of the statements' same, at tariffs that are equal.
-/
import Derived.Test.YtkooekdcegfapaaDoorTarC
import Derived.Deep.LoopGhost
import Derived.Laws.StructEq
import Derived.Test.YtkooekdcegfapaaDoorTarF
namespace Go.Proofs.YtkooekdcegfapaaDoor
namespace TarW
set_option linter.unusedSimpArgs false
set_option linter.unusedVariables false
open Go.RowKit CalW

set_option maxHeartbeats 800000 in
theorem neqComp (x : Comp) (w : World) : (binOp .neq 40 (compV x) (compV x)).run Tryd.prog w = .ok (.bool false) w := by
  have u3 := Tryd.underlying3
  have a3 := Tryd.isAgg3
  have z3 := Tryd.sizeOf3
  have hS : Tryd.prog.underlying 40 = some (.struct (Tryd.prog.fieldsOf 40)) := by kernel_rfl
  have hp : Tryd.prog.stoodInHeld 40 = false := by kernel_rfl
  rw [run_neq_struct, show (10000 : Nat) = 9999 + 1 from rfl, run_equalIn_agg w 9999 40 _ _ hS hp]
  simp only [Program.fieldsOf, Tryd.underlying40]
  go_simp
set_option maxHeartbeats 800000 in
theorem eqWhen (x : Tar.Wh) (w : World) : (binOp .eql 32 (.agg (wh x)) (.agg (wh x))).run Tryd.prog w = .ok (.bool true) w := by
  have u3 := Tryd.underlying3
  have a3 := Tryd.isAgg3
  have z3 := Tryd.sizeOf3
  have hS : Tryd.prog.underlying 32 = some (.struct (Tryd.prog.fieldsOf 32)) := by kernel_rfl
  have hp : Tryd.prog.stoodInHeld 32 = false := by kernel_rfl
  rw [run_eql_struct, show (10000 : Nat) = 9999 + 1 from rfl, run_equalIn_agg w 9999 32 _ _ hS hp]
  simp only [Program.fieldsOf, Tryd.underlying32]
  go_simp

set_option maxHeartbeats 1600000 in
theorem equalC (cs : List Comp) (v v' : Value) (w : World) (h : CompsAt w v cs) (h' : CompsAt w v' cs) :
    Calls Tryd.prog 44 #[v, v'] w fun e w' => e = .returned (.bool true) ∧ ∃ m, w' = w.drewN m := by
  obtain ⟨A, c, rfl, h1, h2⟩ := SliceAt.form h
  obtain ⟨A', c', rfl, h1', h2'⟩ := SliceAt.form h'
  unfold maxLen at h2 h2'
  have HC := Lib.hid h
  have HC' := Lib.hid h'
  clear h h'
  go_enter Tryd.func44, Tryd.ntmps44
  go_wp2_with fail
  go_loopg [5, 13] cs.length (fun gg _ s13 wr => ∃ kk m : Nat, kk ≤ cs.length ∧ cs.length - kk ≤ gg ∧ s13 = i kk ∧ wr = w.drewN m)
  case atStart => exact ⟨0, 0, Nat.zero_le _, by omega, rfl, rfl⟩
  case round =>
    obtain ⟨kk, m, hkk, hg, rfl, rfl⟩ := hrel
    by_cases hlt : kk < cs.length
    · have hltz : (kk : Int) < (cs.length : Int) := by omega
      have hk0 : (0 : Int) ≤ (kk : Int) := by omega
      obtain ⟨b, off, rfl, _, hrow⟩ := CompsAt.at_ HC.out hlt
      obtain ⟨b', off', rfl, _, hrow'⟩ := CompsAt.at_ HC'.out hlt
      obtain ⟨l0, l1, l2, l3⟩ := hrow w (Kept.refl _)
      obtain ⟨m0, m1, m2, m3⟩ := hrow' w (Kept.refl _)
      clear hrow hrow'
      generalize cs[kk] = y at *
      have hq := fun W => neqComp y W
      go_wp2_with fail
      go_quiet (fail)
      go_wp2_with fail
      go_roundg (cs.length - (kk + 1))
      case measure => omega
      case rel => exact ⟨kk + 1, m + nq, by omega, by omega, by go_num, rfl⟩
    · have hltz : ¬ (kk : Int) < (cs.length : Int) := by omega
      go_wp2_with fail
      go_ret
      exact ⟨rfl, m, rfl⟩

set_option maxHeartbeats 1600000 in
theorem same1 (x : Elem) (v v' : Value) (w : World) (h : CompsAt w v x.cs) (h' : CompsAt w v' x.cs) :
    Calls Tryd.prog 43 #[elemV v x.wh, elemV v' x.wh] w fun e w' => e = .returned (.bool true) ∧ Below w.heap.size w w' := by
  obtain ⟨A, c, rfl, h1, h2⟩ := SliceAt.form h
  obtain ⟨A', c', rfl, h1', h2'⟩ := SliceAt.form h'
  have hb0 := below_alloc (below_new w (.cells #[.slice A x.cs.length c, i x.wh.s, i x.wh.e, i x.wh.d, i x.wh.f, i x.wh.t, i x.wh.e0, i x.wh.e1, i x.wh.p0, i x.wh.p1, i x.wh.t0, i x.wh.t1] 49))
    (.cells #[.slice A' x.cs.length c', i x.wh.s, i x.wh.e, i x.wh.d, i x.wh.f, i x.wh.t, i x.wh.e0, i x.wh.e1, i x.wh.p0, i x.wh.p1, i x.wh.t0, i x.wh.t1] 49)
  have HC := Lib.hid (h.call hb0)
  have HC' := Lib.hid (h'.call hb0)
  clear h h'
  have hq := fun W => eqWhen x.wh W
  unfold wh at hq
  go_enter Tryd.func43, Tryd.ntmps43
  go_wp2_with fail
  refine (equalC x.cs _ _ _ HC.out HC'.out).mono ?_
  rintro e w1 ⟨rfl, m, rfl⟩
  go_wp2_with fail
  go_ret
  exact ⟨rfl, below_drewN' hb0 _⟩

theorem eg43 : ∀ args w, (callFunc 43 args).run Tryd.prog w = .ok (.enter 43 args) w := enters_own Tryd.func43 (by kernel_rfl) rfl

set_option maxRecDepth 100000 in
set_option maxHeartbeats 1600000 in
theorem equalE (es : List Elem) (v v' : Value) (w : World) (h : ElemsAt w v es) (h' : ElemsAt w v' es) :
    Calls Tryd.prog 42 #[v, v', .func (.func 43) #[] #[]] w fun e w' => e = .returned (.bool true) ∧ Below w.heap.size w w' := by
  obtain ⟨A, c, rfl, h1, h2⟩ := SliceAt.form h
  obtain ⟨A', c', rfl, h1', h2'⟩ := SliceAt.form h'
  unfold maxLen at h2 h2'
  have HC := Lib.hid h
  have HC' := Lib.hid h'
  clear h h'
  go_enter Tryd.func42, Tryd.ntmps42
  go_wp2_with fail
  go_loopg [17] es.length (fun gg s17 wr => ∃ kk : Nat, kk ≤ es.length ∧ es.length - kk ≤ gg ∧ s17 = i kk ∧ Hid (Below w.heap.size w wr))
  case atStart => exact ⟨0, Nat.zero_le _, by omega, rfl, Below.refl _ _⟩
  case round =>
    obtain ⟨kk, hkk, hg, rfl, BW⟩ := hrel
    by_cases hlt : kk < es.length
    · have hltz : (kk : Int) < (es.length : Int) := by omega
      obtain ⟨b, off, u, rfl, _, hu, hrow⟩ := ElemsAt.at_ HC.out hlt
      obtain ⟨b', off', u', rfl, _, hu', hrow'⟩ := ElemsAt.at_ HC'.out hlt
      have hcells := hrow wr (Kept.of BW.out)
      have hrow2 := fun o => hrow' (wr.alloc o) (Kept.of (below_alloc BW.out o))
      clear hrow hrow'
      generalize es[kk] = y at *
      obtain ⟨A1, c1, rfl, h3, h4⟩ := SliceAt.form hu
      obtain ⟨A2, c2, rfl, h5, h6⟩ := SliceAt.form hu'
      obtain ⟨l0, l1, l2, l3, l4, l5, l6, l7, l8, l9, l10, l11⟩ := hcells
      obtain ⟨m0, m1, m2, m3, m4, m5, m6, m7, m8, m9, m10, m11⟩ := hrow2 (.cells #[.slice A1 y.cs.length c1, i y.wh.s, i y.wh.e, i y.wh.d, i y.wh.f, i y.wh.t, i y.wh.e0, i y.wh.e1, i y.wh.p0, i y.wh.p1, i y.wh.t0, i y.wh.t1] 49)
      clear hrow2
      have hbw := below_alloc (below_alloc BW.out (.cells #[.slice A1 y.cs.length c1, i y.wh.s, i y.wh.e, i y.wh.d, i y.wh.f, i y.wh.t, i y.wh.e0, i y.wh.e1, i y.wh.p0, i y.wh.p1, i y.wh.t0, i y.wh.t1] 49))
        (.cells #[.slice A2 y.cs.length c2, i y.wh.s, i y.wh.e, i y.wh.d, i y.wh.f, i y.wh.t, i y.wh.e0, i y.wh.e1, i y.wh.p0, i y.wh.p1, i y.wh.t0, i y.wh.t1] 49)
      have hv := Lib.hid (hu.call hbw)
      have hv' := Lib.hid (hu'.call hbw)
      clear hu hu'
      go_wp2_with fail
      refine (same1 y _ _ _ hv.out hv'.out).mono ?_
      rintro e w1 ⟨rfl, hb1⟩
      go_wp2_with fail
      go_roundg (es.length - (kk + 1))
      case measure => omega
      case rel => exact ⟨kk + 1, by omega, by omega, by go_num, below_call hbw hb1⟩
    · have hltz : ¬ (kk : Int) < (es.length : Int) := by omega
      go_wp2_with fail
      go_ret
      exact ⟨rfl, BW.out⟩

set_option maxRecDepth 100000 in
set_option maxHeartbeats 1600000 in
theorem same_ (t : Trf) (v v' : Value) (w : World) (h : ElemsAt w v t.els) (h' : ElemsAt w v' t.els) :
    Calls Tryd.prog 25 #[trfV t v, trfV t v'] w fun e w' => e = .returned (.bool true) ∧ Below w.heap.size w w' := by
  obtain ⟨A, c, rfl, h1, h2⟩ := SliceAt.form h
  obtain ⟨A', c', rfl, h1', h2'⟩ := SliceAt.form h'
  have hb0 := below_alloc (below_new w (.cells #[.string t.id, .string t.cur, i t.ver, i t.fr, i t.to, .slice A t.els.length c, i t.least, i t.most] 26)) (.cells #[.string t.id, .string t.cur, i t.ver, i t.fr, i t.to, .slice A' t.els.length c', i t.least, i t.most] 26)
  have HC := Lib.hid (h.call hb0)
  have HC' := Lib.hid (h'.call hb0)
  clear h h'
  go_enter Tryd.func25, Tryd.ntmps25
  go_wp2_with fail
  refine (equalE t.els _ _ _ HC.out HC'.out).mono ?_
  rintro e w1 ⟨rfl, hb1⟩
  go_wp2_with fail
  go_ret
  exact ⟨rfl, below_call hb0 hb1⟩

def bigT (t : Trf) : Bool := decide (24 < t.els.length) || decide (4096 < t.id.size) || decide (4096 < t.cur.size) || t.els.any (fun e => decide (24 < e.cs.length))
theorem bigT_at {t : Trf} {k : Nat} (hk : k < t.els.length) (h : 24 < t.els[k].cs.length) : bigT t = true := by
  unfold bigT
  have : t.els.any (fun e => decide (24 < e.cs.length)) = true := by
    rw [List.any_eq_true]
    exact ⟨t.els[k], List.getElem_mem _, decide_eq_true h⟩
  rw [this]; simp
theorem bigT_no {t : Trf} (h1 : t.els.length ≤ 24) (h2 : t.id.size ≤ 4096) (h3 : t.cur.size ≤ 4096) (h : ∀ k (hk : k < t.els.length), t.els[k].cs.length ≤ 24) : bigT t = false := by
  unfold bigT
  have : t.els.any (fun e => decide (24 < e.cs.length)) = false := by
    rw [List.any_eq_false]
    intro e he
    obtain ⟨k, hk, rfl⟩ := List.getElem_of_mem he
    have := h k hk
    simp; omega
  rw [this, decide_eq_false (by omega), decide_eq_false (by omega), decide_eq_false (by omega)]
  rfl
theorem bigT_small {t : Trf} (h : bigT t = false) : t.els.length ≤ 24 ∧ t.id.size ≤ 4096 ∧ t.cur.size ≤ 4096 ∧ ∀ e ∈ t.els, e.cs.length ≤ 24 := by
  unfold bigT at h
  simp only [Bool.or_eq_false_iff, decide_eq_false_iff_not] at h
  refine ⟨by omega, by omega, by omega, fun e he => ?_⟩
  have := List.any_eq_false.1 h.2 e he
  simp at this
  omega

set_option maxRecDepth 100000 in
set_option maxHeartbeats 1600000 in
theorem big_ (t : Trf) (v : Value) (w : World) (h : ElemsAt w v t.els) (hid : t.id.size ≤ maxLen) (hcur : t.cur.size ≤ maxLen) :
    Calls Tryd.prog 10 #[trfV t v] w fun e w' => e = .returned (.bool (bigT t)) ∧ Below w.heap.size w w' := by
  obtain ⟨A, c, rfl, h1, h2⟩ := SliceAt.form h
  unfold maxLen at h2 hid hcur
  have hb0 := below_new w (.cells #[.string t.id, .string t.cur, i t.ver, i t.fr, i t.to, .slice A t.els.length c, i t.least, i t.most] 26)
  have b0 := Blk.new w 26 #[.string t.id, .string t.cur, i t.ver, i t.fr, i t.to, .slice A t.els.length c, i t.least, i t.most]
  have HC := Lib.hid (h.call hb0)
  clear h
  by_cases hs : 24 < t.els.length ∨ 4096 < t.id.size ∨ 4096 < t.cur.size
  · have e : bigT t = true := by unfold bigT; rcases hs with h | h | h <;> simp [h]
    rw [e]
    clear e
    rcases (by omega : 24 < t.els.length ∨ (t.els.length ≤ 24 ∧ 4096 < t.id.size) ∨ (t.els.length ≤ 24 ∧ t.id.size ≤ 4096 ∧ 4096 < t.cur.size)) with h | ⟨h, h'⟩ | ⟨h, h', h''⟩
    all_goals
      clear hs
      go_enter Tryd.func10, Tryd.ntmps10
      go_wp2_with fail
      go_ret
      exact ⟨rfl, hb0⟩
  · obtain ⟨z1, z2, z3⟩ : t.els.length ≤ 24 ∧ t.id.size ≤ 4096 ∧ t.cur.size ≤ 4096 := by omega
    clear hs
    have HNO := Lib.hid (fun h => @bigT_no t z1 z2 z3 h)
    have HYES := Lib.hid (fun k hk h => @bigT_at t k hk h)
    generalize bigT t = B at *
    generalize t.els = es at *
    go_enter Tryd.func10, Tryd.ntmps10
    go_wp2_with fail
    generalize w.alloc (.cells #[.string t.id, .string t.cur, i t.ver, i t.fr, i t.to, .slice A es.length c, i t.least, i t.most] 26) = W0 at *
    have c0 := b0.cell
    go_loopg [23] es.length (fun gg s23 wr => ∃ kk : Nat, kk ≤ es.length ∧ es.length - kk ≤ gg ∧ s23 = i kk ∧ wr = W0 ∧ Hid (∀ k (hk : k < es.length), k < kk → es[k].cs.length ≤ 24))
    case atStart => exact ⟨0, Nat.zero_le _, by omega, rfl, rfl, fun k hk h => by omega⟩
    case round =>
      obtain ⟨kk, hkk, hg, rfl, rfl, HA⟩ := hrel
      by_cases hlt : kk < es.length
      · have hltz : (kk : Int) < (es.length : Int) := by omega
        obtain ⟨b, off, u, rfl, _, hu, hrow⟩ := ElemsAt.at_ HC.out hlt
        obtain ⟨l0, l1, l2, l3, l4, l5, l6, l7, l8, l9, l10, l11⟩ := hrow _ (Kept.refl _)
        clear hrow l1 l2 l3 l4 l5 l6 l7 l8 l9 l10 l11
        have HY := Lib.hid (HYES.out kk hlt)
        have HG : Hid (es[kk].cs.length ≤ 24 → ∀ k (hk : k < es.length), k < kk + 1 → es[k].cs.length ≤ 24) := by
          intro hh k hk hl
          by_cases e : k = kk
          · subst e; exact hh
          · exact HA.out k hk (by omega)
        generalize es[kk] = y at *
        obtain ⟨A1, c1, rfl, h3, h4⟩ := SliceAt.form hu
        by_cases hb : 24 < y.cs.length
        · have HB := Lib.hid (HY.out hb)
          have hbz : (24 : Int) < (y.cs.length : Int) := by omega
          go_wp2_with fail
          go_ret
          exact ⟨retB HB.out.symm, hb0⟩
        · have HG' := Lib.hid (HG.out (by omega))
          have hbz : (y.cs.length : Int) ≤ 24 := by omega
          go_wp2_with fail
          go_roundg (es.length - (kk + 1))
          case measure => omega
          case rel => exact ⟨kk + 1, by omega, by omega, by go_num, rfl, HG'.out⟩
      · have hltz : ¬ (kk : Int) < (es.length : Int) := by omega
        have HF := Lib.hid (HNO.out (fun k hk => HA.out k hk (by omega)))
        go_wp2_with fail
        go_ret
        exact ⟨retB HF.out.symm, hb0⟩
end TarW
end Go.Proofs.YtkooekdcegfapaaDoor
