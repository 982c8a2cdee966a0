/-
  The walks of Find: slices.IndexFunc over components, tariff.Find, the reference's Find.
  The walk of tariff.Find.
  The walk of the reference's Find.
-/
import Derived.Test.YtpmcdjpfolgpiaaGreatDoorTarA
import Derived.Test.YtpmcdjpfolgpiaaGreatDoorTarB
import Derived.Deep.LoopGhost
import Derived.ProofKit
namespace Go.Proofs.YtpmcdjpfolgpiaaGreatDoor
namespace TarW
set_option linter.unusedSimpArgs false
set_option linter.unusedVariables false
open Go.RowKit CalW

theorem enters_own {P : Program} {f : FuncId} {fn : Func} {c : Code} (hf : P.funcs[f]? = some fn) (hname : (fn.name == "runtime.NumGoroutine") = false) (hb : fn.body = some c) : ∀ args w, (callFunc f args).run P w = .ok (.enter f args) w := by
  intro args w
  have h1 : fn.name ≠ "runtime.NumGoroutine" := by simpa using hname
  simp [callFunc, hf, h1, hb, mark]

def idxN (p : Comp → Bool) (cs : List Comp) : Nat := cs.findIdx p
def idxV (p : Comp → Bool) (cs : List Comp) : Int := if idxN p cs < cs.length then idxN p cs else -1
theorem idxV_hit {p : Comp → Bool} {cs : List Comp} {k : Nat} (hk : k < cs.length) (h : p cs[k] = true) (hno : ∀ j (hj : j < cs.length), j < k → p cs[j] = false) : idxV p cs = k := by
  have e : idxN p cs = k := by
    unfold idxN
    rw [List.findIdx_eq hk]
    exact ⟨h, fun j hj => hno j (by omega) hj⟩
  unfold idxV
  rw [e, if_pos hk]
theorem idxV_miss {p : Comp → Bool} {cs : List Comp} (hno : ∀ j (hj : j < cs.length), p cs[j] = false) : idxV p cs = -1 := by
  have e : idxN p cs = cs.length := by
    unfold idxN
    rw [List.findIdx_eq_length]
    intro x hx
    obtain ⟨j, hj, rfl⟩ := List.getElem_of_mem hx
    exact hno j hj
  unfold idxV
  rw [e, if_neg (by omega)]

set_option maxHeartbeats 1000000 in
theorem indexFunc (p : Comp → Bool) (g : Nat) (lb : Array Value) (eg : ∀ args w, (callFunc g args).run Tryz.prog w = .ok (.enter g args) w) (v : Value) (cs : List Comp) (w : World)
    (hp : ∀ (W : World) (x : Comp), Below w.heap.size w W → Calls Tryz.prog g (#[compV x] ++ lb) W fun e w' => e = .returned (.bool (p x)) ∧ Below w.heap.size w w')
    (h : CompsAt w v cs) :
    Calls Tryz.prog 162 #[v, .func (.func g) #[] lb] w fun e w' => e = .returned (i (idxV p cs)) ∧ Below w.heap.size w w' := by
  obtain ⟨A, c, rfl, h1, h2⟩ := SliceAt.form h
  unfold maxLen at h2
  have HC := Lib.hid h
  have HP := Lib.hid hp
  clear h hp
  go_enter Tryz.func162, Tryz.ntmps162
  go_wp2
  go_loopg [5, 8] cs.length (fun gg _ s8 wr => ∃ kk : Nat, kk ≤ cs.length ∧ cs.length - kk ≤ gg ∧ s8 = i kk ∧ Hid (Below w.heap.size w wr) ∧ Hid (∀ j (hj : j < cs.length), j < kk → p cs[j] = false))
  case atStart => exact ⟨0, Nat.zero_le _, by omega, rfl, Below.refl _ w, fun j hj hk => absurd hk (Nat.not_lt_zero _)⟩
  case round =>
    obtain ⟨kk, hkk, hg, rfl, BW, HA⟩ := hrel
    by_cases hlt : kk < cs.length
    · have hltz : (kk : Int) < (cs.length : Int) := by omega
      obtain ⟨b, off, rfl, _, hrow⟩ := CompsAt.at_ HC.out hlt
      have l2 := hrow wr (Kept.of BW.out)
      clear hrow
      have hcall := HP.out wr cs[kk] BW.out
      generalize hy : cs[kk] = y at l2 hcall
      obtain ⟨l0, l1, l2, l3⟩ := l2
      have HY := Lib.hid hy
      clear hy
      cases hq : p y with
      | true =>
        rw [hq] at hcall
        have HQ := Lib.hid hq
        clear hq
        go_wp2_with fail
        refine hcall.mono ?_
        rintro e w' ⟨rfl, hb'⟩
        go_wp2_with fail
        go_ret
        refine ⟨?_, hb'⟩
        rw [idxV_hit hlt (by rw [HY.out]; exact HQ.out) HA.out]
        rfl
      | false =>
        rw [hq] at hcall
        have HQ := Lib.hid hq
        clear hq
        go_wp2_with fail
        refine hcall.mono ?_
        rintro e w' ⟨rfl, hb'⟩
        go_wp2_with fail
        go_roundg (cs.length - (kk + 1))
        case measure => omega
        case rel =>
          refine ⟨kk + 1, by omega, by omega, by go_num, hb', (show Hid _ from fun j hj hk => ?_)⟩
          by_cases e : j = kk
          · subst e
            rw [HY.out]; exact HQ.out
          · exact HA.out j hj (by omega)
    · have hltz : ¬ (kk : Int) < (cs.length : Int) := by omega
      go_wp2_with fail
      go_ret
      refine ⟨?_, BW.out⟩
      rw [idxV_miss (fun j hj => HA.out j hj (by omega))]
      rfl

def isK (k : Int) (c : Comp) : Bool := c.kind == k
set_option maxHeartbeats 400000 in
theorem find1 (k : Int) (x : Comp) (B : Nat) (W : World) (hc : W.cell? ⟨B, 0, none⟩ = some (i k)) :
    Calls Tryz.prog 163 #[compV x, .pointer (some ⟨B, 0, none⟩)] W fun e w' => e = .returned (.bool (isK k x)) ∧ Below W.heap.size W w' := by
  have hB := World.block_lt_of_cell? W _ hc
  simp only at hB
  have hne : B ≠ W.heap.size := by omega
  go_enter Tryz.func163, Tryz.ntmps163
  go_wp2
  go_ret
  exact ⟨rfl, below_new _ _⟩
end TarW
end Go.Proofs.YtpmcdjpfolgpiaaGreatDoor

namespace Go.Proofs.YtpmcdjpfolgpiaaGreatDoor
namespace TarW
set_option linter.unusedSimpArgs false
set_option linter.unusedVariables false
open Go.RowKit CalW

def elemC (P : Tar.Wh → Bool) (k : Int) (e : Elem) : Option Comp := if P e.wh then e.cs.find? (isK k) else none
def findC (P : Tar.Wh → Bool) (k : Int) (es : List Elem) : Option Comp := es.findSome? (elemC P k)
def compO : Option Comp → Comp | some c => c | none => ⟨0, 0, 0, 0⟩

theorem findC_end (P : Tar.Wh → Bool) (k : Int) (es : List Elem) (j : Nat) (hj : es.length ≤ j) : findC P k (es.drop j) = none := by
  rw [List.drop_eq_nil_of_le hj]; rfl
theorem findC_no {P : Tar.Wh → Bool} {k : Int} {es : List Elem} {j : Nat} (hj : j < es.length) (h : elemC P k es[j] = none) : findC P k (es.drop j) = findC P k (es.drop (j + 1)) := by
  rw [List.drop_eq_getElem_cons hj]
  unfold findC
  rw [List.findSome?_cons, h]
theorem findC_yes {P : Tar.Wh → Bool} {k : Int} {es : List Elem} {j : Nat} {c : Comp} (hj : j < es.length) (h : elemC P k es[j] = some c) : findC P k (es.drop j) = some c := by
  rw [List.drop_eq_getElem_cons hj]
  unfold findC
  rw [List.findSome?_cons, h]
theorem idx_cases (p : Comp → Bool) (cs : List Comp) : (cs.find? p = none ∧ idxV p cs = -1) ∨ ∃ (k : Nat) (hk : k < cs.length), cs.find? p = some cs[k] ∧ idxV p cs = k := by
  by_cases h : idxN p cs < cs.length
  · refine .inr ⟨idxN p cs, h, ?_, by unfold idxV; rw [if_pos h]⟩
    have := List.find?_eq_some_iff_getElem (p := p) (xs := cs) (b := cs[idxN p cs])
    rw [this]
    refine ⟨List.findIdx_getElem (w := h), idxN p cs, h, rfl, fun j hj => ?_⟩
    have := List.not_of_lt_findIdx (p := p) (xs := cs) hj
    simpa using this
  · refine .inl ⟨?_, by unfold idxV; rw [if_neg h]⟩
    rw [List.find?_eq_none]
    intro x hx hp
    exact h (List.findIdx_lt_length_of_exists ⟨x, hx, hp⟩)


theorem Blk.new' {w : World} {g : Nat} (h : g = w.heap.size) (t : TypeId) (cs : Array Value) : Blk (w.alloc (.cells cs t)) g t cs := by
  subst h
  exact Blk.new w t cs
theorem eg45 : ∀ args w, (callFunc 163 args).run Tryz.prog w = .ok (.enter 163 args) w := enters_own Tryz.func163 (by kernel_rfl) rfl
theorem indexFind (k : Int) (v : Value) (cs : List Comp) (B : Nat) (w : World) (hc : w.cell? ⟨B, 0, none⟩ = some (i k)) (h : CompsAt w v cs) {n : Int} (hn : idxV (isK k) cs = n) :
    Calls Tryz.prog 162 #[v, .func (.func 163) #[] #[.pointer (some ⟨B, 0, none⟩)]] w fun e w' => e = .returned (i n) ∧ Below w.heap.size w w' := by
  subst hn
  refine indexFunc (isK k) _ _ eg45 v cs w (fun W x hb => ?_) h
  exact (find1 k x B W (Kept.of hb _ _ hc)).mono fun _ _ ⟨he, hb'⟩ => ⟨he, below_call hb hb'⟩

theorem elemC_none {P : Tar.Wh → Bool} {k : Int} {e : Elem} (h : e.cs.find? (isK k) = none) : elemC P k e = none := by unfold elemC; rw [h]; split <;> rfl
theorem elemC_no {P : Tar.Wh → Bool} {k : Int} {e : Elem} (h : P e.wh = false) : elemC P k e = none := by unfold elemC; rw [h]; rfl
theorem elemC_yes {P : Tar.Wh → Bool} {k : Int} {e : Elem} (h : P e.wh = true) : elemC P k e = e.cs.find? (isK k) := by unfold elemC; rw [h]; rfl

theorem set4 {B g : Nat} {a w : World} (h : Below B a w) (hg : B ≤ g) (v0 v1 v2 v3 : Value) : Below B a ((((w.setCell ⟨g, 0, none⟩ v0).setCell ⟨g, 1, none⟩ v1).setCell ⟨g, 2, none⟩ v2).setCell ⟨g, 3, none⟩ v3) :=
  (((h.setCell (p := ⟨g, 0, none⟩) hg _).setCell (p := ⟨g, 1, none⟩) hg _).setCell (p := ⟨g, 2, none⟩) hg _).setCell (p := ⟨g, 3, none⟩) hg _
def FindPost (o : Option Comp) (w : World) (e : Ending) (w' : World) : Prop := e = .returned (.tuple #[compV (compO o), .bool o.isSome]) ∧ Below w.heap.size w w'

set_option maxRecDepth 100000 in
set_option maxHeartbeats 4000000 in
theorem find_ (t : Trf) (v : Value) (z : Int) (s : Bool) (k a since en po : Int) (w : World) (ht : Tab w) (h : ElemsAt w v t.els) :
    Calls Tryz.prog 158 #[trfV t v, zone z s, i k, i a, i since, i en, i po] w (FindPost (findC (fun x => Tar.holds x z s a since en po) k t.els) w) := by
  obtain ⟨A, c, rfl, h1, h2⟩ := SliceAt.form h
  unfold maxLen at h2
  obtain ⟨P, hP⟩ : ∃ P : Tar.Wh → Bool, P = fun x => Tar.holds x z s a since en po := ⟨_, rfl⟩
  have HP := Lib.hid (fun x => (congrFun hP x).symm)
  rw [← hP]
  clear hP
  obtain ⟨es, hes⟩ : ∃ es : List Elem, t.els = es := ⟨_, rfl⟩
  rw [hes] at h h1 ⊢
  clear hes
  go_enter Tryz.func158, Tryz.ntmps158
  go_wp2_with fail
  have b1 := (((Blk.new' (w := w.alloc (.cells #[.string t.id, .string t.cur, i t.ver, i t.fr, i t.to, .slice A es.length c, i t.least, i t.most] 36)) (g := w.heap.size + 1) (by simp) 38 #[i z, .bool s]).alloc
    (.cells #[i k] 3)).alloc (.cells #[.int .i64 0, .int .i64 0, .int .i64 0, .int .i64 0] 82))
  have b2 := ((Blk.new' (w := (w.alloc (.cells #[.string t.id, .string t.cur, i t.ver, i t.fr, i t.to, .slice A es.length c, i t.least, i t.most] 36)).alloc (.cells #[i z, .bool s] 38)) (g := w.heap.size + 1 + 1) (by simp) 3 #[i k]).alloc
    (.cells #[.int .i64 0, .int .i64 0, .int .i64 0, .int .i64 0] 82))
  have b3 := (Blk.new' (w := ((w.alloc (.cells #[.string t.id, .string t.cur, i t.ver, i t.fr, i t.to, .slice A es.length c, i t.least, i t.most] 36)).alloc (.cells #[i z, .bool s] 38)).alloc (.cells #[i k] 3)) (g := w.heap.size + 1 + 1 + 1) (by simp) 82 #[.int .i64 0, .int .i64 0, .int .i64 0, .int .i64 0])
  have hb0 := below_alloc (below_alloc (below_alloc (below_new w (.cells #[.string t.id, .string t.cur, i t.ver, i t.fr, i t.to, .slice A es.length c, i t.least, i t.most] 36)) (.cells #[i z, .bool s] 38)) (.cells #[i k] 3)) (.cells #[.int .i64 0, .int .i64 0, .int .i64 0, .int .i64 0] 82)
  generalize (((w.alloc (.cells #[.string t.id, .string t.cur, i t.ver, i t.fr, i t.to, .slice A es.length c, i t.least, i t.most] 36)).alloc (.cells #[i z, .bool s] 38)).alloc
    (.cells #[i k] 3)).alloc (.cells #[.int .i64 0, .int .i64 0, .int .i64 0, .int .i64 0] 82) = W0 at *
  have HE := Lib.hid (h.call hb0)
  have HT := Lib.hid (ht.below hb0 ht.lt)
  have s3 := b3.lt
  clear h ht
  go_loopg [22] es.length (fun gg s22 wr => ∃ kk : Nat, kk ≤ es.length ∧ es.length - kk ≤ gg ∧ s22 = i kk ∧ Hid (Below W0.heap.size W0 wr) ∧ Hid (findC P k es = findC P k (es.drop kk)))
  case atStart => exact ⟨0, Nat.zero_le _, by omega, rfl, Below.refl _ _, rfl⟩
  case round =>
    obtain ⟨kk, hkk, hg, rfl, BW, HA⟩ := hrel
    by_cases hlt : kk < es.length
    · have hltz : (kk : Int) < (es.length : Int) := by omega
      obtain ⟨b, off, u, rfl, _, hu, hrow⟩ := ElemsAt.at_ HE.out hlt
      have hcells := hrow wr (Kept.of BW.out)
      have hu1 := hu.call BW.out
      clear hrow hu
      have hno := @findC_no P k es kk hlt
      have hyes := fun c => @findC_yes P k es kk c hlt
      have HNO := Lib.hid hno
      have HYES := Lib.hid hyes
      clear hno hyes
      generalize es[kk] = y at *
      obtain ⟨A1, c1, rfl, h3, h4⟩ := SliceAt.form hu1
      unfold maxLen at h4
      obtain ⟨l0, l1, l2, l3, l4, l5, l6, l7, l8, l9, l10, l11⟩ := hcells
      have sw := BW.out.size
      have e1 := Blk.new wr 65 #[.slice A1 y.cs.length c1, i y.wh.s, i y.wh.e, i y.wh.d, i y.wh.f, i y.wh.t, i y.wh.e0, i y.wh.e1, i y.wh.p0, i y.wh.p1, i y.wh.t0, i y.wh.t1]
      have f1 := (b1.call BW.out).alloc (.cells #[.slice A1 y.cs.length c1, i y.wh.s, i y.wh.e, i y.wh.d, i y.wh.f, i y.wh.t, i y.wh.e0, i y.wh.e1, i y.wh.p0, i y.wh.p1, i y.wh.t0, i y.wh.t1] 65)
      have f2 := (b2.call BW.out).alloc (.cells #[.slice A1 y.cs.length c1, i y.wh.s, i y.wh.e, i y.wh.d, i y.wh.f, i y.wh.t, i y.wh.e0, i y.wh.e1, i y.wh.p0, i y.wh.p1, i y.wh.t0, i y.wh.t1] 65)
      have f3 := (b3.call BW.out).alloc (.cells #[.slice A1 y.cs.length c1, i y.wh.s, i y.wh.e, i y.wh.d, i y.wh.f, i y.wh.t, i y.wh.e0, i y.wh.e1, i y.wh.p0, i y.wh.p1, i y.wh.t0, i y.wh.t1] 65)
      have hbw := below_alloc BW.out (.cells #[.slice A1 y.cs.length c1, i y.wh.s, i y.wh.e, i y.wh.d, i y.wh.f, i y.wh.t, i y.wh.e0, i y.wh.e1, i y.wh.p0, i y.wh.p1, i y.wh.t0, i y.wh.t1] 65)
      have hu2 := hu1.call (below_new wr (.cells #[.slice A1 y.cs.length c1, i y.wh.s, i y.wh.e, i y.wh.d, i y.wh.f, i y.wh.t, i y.wh.e0, i y.wh.e1, i y.wh.p0, i y.wh.p1, i y.wh.t0, i y.wh.t1] 65))
      have d2 := f2.cell 0
      rcases idx_cases (isK k) y.cs with ⟨hx, hi⟩ | ⟨n, hn, hx, hi⟩
      · have HX := Lib.hid hx
        have HI := Lib.hid hi
        clear hx hi
        go_wp2_with fail
        refine (indexFind k _ y.cs _ _ d2 hu2 HI.out).mono ?_
        rintro e w1 ⟨rfl, hb1⟩
        go_wp2_with fail
        go_roundg (es.length - (kk + 1))
        case measure => omega
        case rel => exact ⟨kk + 1, by omega, by omega, by go_num, below_call hbw hb1, HA.out.trans (HNO.out (elemC_none HX.out))⟩
      · have HX := Lib.hid hx
        have HI := Lib.hid hi
        clear hx hi
        go_wp2_with fail
        refine (indexFind k _ y.cs _ _ d2 hu2 HI.out).mono ?_
        rintro e w1 ⟨rfl, hb1⟩
        have e2 := e1.call hb1
        have g1 := f1.call hb1
        have g3 := f3.call hb1
        have ce := e2.cell
        have cz := g1.cell
        clear d2
        have HU := Lib.hid ((hu2.call hb1))
        have ht1 := (HT.out.below BW.out HT.out.lt)
        have ht2 := ht1.alloc (.cells #[.slice A1 y.cs.length c1, i y.wh.s, i y.wh.e, i y.wh.d, i y.wh.f, i y.wh.t, i y.wh.e0, i y.wh.e1, i y.wh.p0, i y.wh.p1, i y.wh.t0, i y.wh.t1] 65)
        have ht3 := ht2.below hb1 ht2.lt
        have HT3 := Lib.hid ht3
        clear ht1 ht2 ht3
        go_wp2_with fail
        refine (holds_ y.wh z s a since en po _ HT3.out).mono ?_
        rintro e w2 ⟨rfl, hb2⟩
        have e3 := e2.call hb2
        have ce3 := e3.cell
        have g4 := g3.call hb2
        have cc := g4.cell
        have fz := g4.frozen
        clear ce cz
        cases hh : P y.wh with
        | false =>
          have hh' := (HP.out y.wh).trans hh
          rw [hh']
          have HH := Lib.hid hh
          clear hh hh'
          go_wp2_with fail
          go_roundg (es.length - (kk + 1))
          case measure => omega
          case rel => exact ⟨kk + 1, by omega, by omega, by go_num, below_call (below_call hbw hb1) hb2, HA.out.trans (HNO.out (elemC_no HH.out))⟩
        | true =>
          have hh' := (HP.out y.wh).trans hh
          rw [hh']
          have HH := Lib.hid hh
          clear hh hh'
          have hnz : (n : Int) < (y.cs.length : Int) := by omega
          obtain ⟨bc, oc, rfl, _, hrow⟩ := CompsAt.at_ HU.out hn
          obtain ⟨m0, m1, m2, m3⟩ := hrow w2 (Kept.of hb2)
          clear hrow
          have hfin : findC P k es = some y.cs[n] := HA.out.trans (HYES.out _ ((elemC_yes HH.out).trans HX.out))
          have HF := Lib.hid hfin
          clear hfin HYES HNO HX
          generalize y.cs[n] = q at *
          go_wp2_with fail
          refine bodyPost_ret (v := .tuple #[compV q, .bool true]) (by simp [results, Tryz.results158, go_sem, cc]) rfl ?_
          rw [HF.out]
          exact ⟨rfl, set4 (hb0.trans ((below_call (below_call hbw hb1) hb2).mono (by omega))) (by omega) _ _ _ _⟩
    · have hltz : ¬ (kk : Int) < (es.length : Int) := by omega
      have g4 := b3.call BW.out
      have cc := g4.cell
      have fz := g4.frozen
      go_wp2_with fail
      refine bodyPost_ret (v := .tuple #[compV ⟨0, 0, 0, 0⟩, .bool false]) (by simp [results, Tryz.results158, go_sem, cc]) rfl ?_
      rw [HA.out, findC_end P k es kk (by omega)]
      exact ⟨rfl, set4 (hb0.trans (BW.out.mono (by omega))) (by omega) _ _ _ _⟩
end TarW
end Go.Proofs.YtpmcdjpfolgpiaaGreatDoor

namespace Go.Proofs.YtpmcdjpfolgpiaaGreatDoor
namespace TarW
set_option linter.unusedSimpArgs false
set_option linter.unusedVariables false
open Go.RowKit CalW

end TarW
end Go.Proofs.YtpmcdjpfolgpiaaGreatDoor
