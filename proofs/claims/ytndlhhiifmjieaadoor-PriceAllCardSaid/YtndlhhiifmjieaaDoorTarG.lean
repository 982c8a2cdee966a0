/-
  The walk of tariff.Find.
-/
import Derived.Test.YtndlhhiifmjieaaDoorTarF
namespace Go.Proofs.YtndlhhiifmjieaaDoor
namespace TarW
set_option linter.unusedSimpArgs false
set_option linter.unusedVariables false
open Go.RowKit CalW

def elemC (P : Tar.Wh → Bool) (k : Int) (e : Elem) : Option Comp := if P e.wh then e.cs.find? (isK k) else none
def findC (P : Tar.Wh → Bool) (k : Int) (es : List Elem) : Option Comp := es.findSome? (elemC P k)
def compO : Option Comp → Comp | some c => c | none => ⟨0, 0, 0, 0⟩

theorem findC_end (P : Tar.Wh → Bool) (k : Int) (es : List Elem) (j : Nat) (hj : es.length ≤ j) : findC P k (es.drop j) = none := by
  rw [List.drop_eq_nil_of_le hj]; rfl
theorem findC_no {P : Tar.Wh → Bool} {k : Int} {es : List Elem} {j : Nat} (hj : j < es.length) (h : elemC P k es[j] = none) : findC P k (es.drop j) = findC P k (es.drop (j + 1)) := by
  rw [List.drop_eq_getElem_cons hj]
  unfold findC
  rw [List.findSome?_cons, h]
theorem findC_yes {P : Tar.Wh → Bool} {k : Int} {es : List Elem} {j : Nat} {c : Comp} (hj : j < es.length) (h : elemC P k es[j] = some c) : findC P k (es.drop j) = some c := by
  rw [List.drop_eq_getElem_cons hj]
  unfold findC
  rw [List.findSome?_cons, h]
theorem idx_cases (p : Comp → Bool) (cs : List Comp) : (cs.find? p = none ∧ idxV p cs = -1) ∨ ∃ (k : Nat) (hk : k < cs.length), cs.find? p = some cs[k] ∧ idxV p cs = k := by
  by_cases h : idxN p cs < cs.length
  · refine .inr ⟨idxN p cs, h, ?_, by unfold idxV; rw [if_pos h]⟩
    have := List.find?_eq_some_iff_getElem (p := p) (xs := cs) (b := cs[idxN p cs])
    rw [this]
    refine ⟨List.findIdx_getElem (w := h), idxN p cs, h, rfl, fun j hj => ?_⟩
    have := List.not_of_lt_findIdx (p := p) (xs := cs) hj
    simpa using this
  · refine .inl ⟨?_, by unfold idxV; rw [if_neg h]⟩
    rw [List.find?_eq_none]
    intro x hx hp
    exact h (List.findIdx_lt_length_of_exists ⟨x, hx, hp⟩)


theorem Blk.new' {w : World} {g : Nat} (h : g = w.heap.size) (t : TypeId) (cs : Array Value) : Blk (w.alloc (.cells cs t)) g t cs := by
  subst h
  exact Blk.new w t cs
theorem eg45 : ∀ args w, (callFunc 70 args).run Tryd.prog w = .ok (.enter 70 args) w := enters_own Tryd.func70 (by kernel_rfl) rfl
theorem indexFind (k : Int) (v : Value) (cs : List Comp) (B : Nat) (w : World) (hc : w.cell? ⟨B, 0, none⟩ = some (i k)) (h : CompsAt w v cs) {n : Int} (hn : idxV (isK k) cs = n) :
    Calls Tryd.prog 69 #[v, .func (.func 70) #[] #[.pointer (some ⟨B, 0, none⟩)]] w fun e w' => e = .returned (i n) ∧ Below w.heap.size w w' := by
  subst hn
  refine indexFunc (isK k) _ _ eg45 v cs w (fun W x hb => ?_) h
  exact (find1 k x B W (Kept.of hb _ _ hc)).mono fun _ _ ⟨he, hb'⟩ => ⟨he, below_call hb hb'⟩

theorem elemC_none {P : Tar.Wh → Bool} {k : Int} {e : Elem} (h : e.cs.find? (isK k) = none) : elemC P k e = none := by unfold elemC; rw [h]; split <;> rfl
theorem elemC_no {P : Tar.Wh → Bool} {k : Int} {e : Elem} (h : P e.wh = false) : elemC P k e = none := by unfold elemC; rw [h]; rfl
theorem elemC_yes {P : Tar.Wh → Bool} {k : Int} {e : Elem} (h : P e.wh = true) : elemC P k e = e.cs.find? (isK k) := by unfold elemC; rw [h]; rfl

theorem set4 {B g : Nat} {a w : World} (h : Below B a w) (hg : B ≤ g) (v0 v1 v2 v3 : Value) : Below B a ((((w.setCell ⟨g, 0, none⟩ v0).setCell ⟨g, 1, none⟩ v1).setCell ⟨g, 2, none⟩ v2).setCell ⟨g, 3, none⟩ v3) :=
  (((h.setCell (p := ⟨g, 0, none⟩) hg _).setCell (p := ⟨g, 1, none⟩) hg _).setCell (p := ⟨g, 2, none⟩) hg _).setCell (p := ⟨g, 3, none⟩) hg _
def FindPost (o : Option Comp) (w : World) (e : Ending) (w' : World) : Prop := e = .returned (.tuple #[compV (compO o), .bool o.isSome]) ∧ Below w.heap.size w w'

set_option maxRecDepth 100000 in
set_option maxHeartbeats 4000000 in
theorem find_ (t : Trf) (v : Value) (z : Int) (s : Bool) (k a since en po : Int) (w : World) (ht : Tab w) (h : ElemsAt w v t.els) :
    Calls Tryd.prog 62 #[trfV t v, zone z s, i k, i a, i since, i en, i po] w (FindPost (findC (fun x => Tar.holds x z s a since en po) k t.els) w) := by
  obtain ⟨A, c, rfl, h1, h2⟩ := SliceAt.form h
  unfold maxLen at h2
  obtain ⟨P, hP⟩ : ∃ P : Tar.Wh → Bool, P = fun x => Tar.holds x z s a since en po := ⟨_, rfl⟩
  have HP := Lib.hid (fun x => (congrFun hP x).symm)
  rw [← hP]
  clear hP
  obtain ⟨es, hes⟩ : ∃ es : List Elem, t.els = es := ⟨_, rfl⟩
  rw [hes] at h h1 ⊢
  clear hes
  go_enter Tryd.func62, Tryd.ntmps62
  go_wp2_with fail
  have b1 := (((Blk.new' (w := w.alloc (.cells #[.string t.id, .string t.cur, i t.ver, i t.fr, i t.to, .slice A es.length c, i t.least, i t.most] 26)) (g := w.heap.size + 1) (by simp) 28 #[i z, .bool s]).alloc
    (.cells #[i k] 3)).alloc (.cells #[.int .i64 0, .int .i64 0, .int .i64 0, .int .i64 0] 58))
  have b2 := ((Blk.new' (w := (w.alloc (.cells #[.string t.id, .string t.cur, i t.ver, i t.fr, i t.to, .slice A es.length c, i t.least, i t.most] 26)).alloc (.cells #[i z, .bool s] 28)) (g := w.heap.size + 1 + 1) (by simp) 3 #[i k]).alloc
    (.cells #[.int .i64 0, .int .i64 0, .int .i64 0, .int .i64 0] 58))
  have b3 := (Blk.new' (w := ((w.alloc (.cells #[.string t.id, .string t.cur, i t.ver, i t.fr, i t.to, .slice A es.length c, i t.least, i t.most] 26)).alloc (.cells #[i z, .bool s] 28)).alloc (.cells #[i k] 3)) (g := w.heap.size + 1 + 1 + 1) (by simp) 58 #[.int .i64 0, .int .i64 0, .int .i64 0, .int .i64 0])
  have hb0 := below_alloc (below_alloc (below_alloc (below_new w (.cells #[.string t.id, .string t.cur, i t.ver, i t.fr, i t.to, .slice A es.length c, i t.least, i t.most] 26)) (.cells #[i z, .bool s] 28)) (.cells #[i k] 3)) (.cells #[.int .i64 0, .int .i64 0, .int .i64 0, .int .i64 0] 58)
  generalize (((w.alloc (.cells #[.string t.id, .string t.cur, i t.ver, i t.fr, i t.to, .slice A es.length c, i t.least, i t.most] 26)).alloc (.cells #[i z, .bool s] 28)).alloc
    (.cells #[i k] 3)).alloc (.cells #[.int .i64 0, .int .i64 0, .int .i64 0, .int .i64 0] 58) = W0 at *
  have HE := Lib.hid (h.call hb0)
  have HT := Lib.hid (ht.below hb0 ht.lt)
  have s3 := b3.lt
  clear h ht
  go_loopg [22] es.length (fun gg s22 wr => ∃ kk : Nat, kk ≤ es.length ∧ es.length - kk ≤ gg ∧ s22 = i kk ∧ Hid (Below W0.heap.size W0 wr) ∧ Hid (findC P k es = findC P k (es.drop kk)))
  case atStart => exact ⟨0, Nat.zero_le _, by omega, rfl, Below.refl _ _, rfl⟩
  case round =>
    obtain ⟨kk, hkk, hg, rfl, BW, HA⟩ := hrel
    by_cases hlt : kk < es.length
    · have hltz : (kk : Int) < (es.length : Int) := by omega
      obtain ⟨b, off, u, rfl, _, hu, hrow⟩ := ElemsAt.at_ HE.out hlt
      have hcells := hrow wr (Kept.of BW.out)
      have hu1 := hu.call BW.out
      clear hrow hu
      have hno := @findC_no P k es kk hlt
      have hyes := fun c => @findC_yes P k es kk c hlt
      have HNO := Lib.hid hno
      have HYES := Lib.hid hyes
      clear hno hyes
      generalize es[kk] = y at *
      obtain ⟨A1, c1, rfl, h3, h4⟩ := SliceAt.form hu1
      unfold maxLen at h4
      obtain ⟨l0, l1, l2, l3, l4, l5, l6, l7, l8, l9, l10, l11⟩ := hcells
      have sw := BW.out.size
      have e1 := Blk.new wr 55 #[.slice A1 y.cs.length c1, i y.wh.s, i y.wh.e, i y.wh.d, i y.wh.f, i y.wh.t, i y.wh.e0, i y.wh.e1, i y.wh.p0, i y.wh.p1, i y.wh.t0, i y.wh.t1]
      have f1 := (b1.call BW.out).alloc (.cells #[.slice A1 y.cs.length c1, i y.wh.s, i y.wh.e, i y.wh.d, i y.wh.f, i y.wh.t, i y.wh.e0, i y.wh.e1, i y.wh.p0, i y.wh.p1, i y.wh.t0, i y.wh.t1] 55)
      have f2 := (b2.call BW.out).alloc (.cells #[.slice A1 y.cs.length c1, i y.wh.s, i y.wh.e, i y.wh.d, i y.wh.f, i y.wh.t, i y.wh.e0, i y.wh.e1, i y.wh.p0, i y.wh.p1, i y.wh.t0, i y.wh.t1] 55)
      have f3 := (b3.call BW.out).alloc (.cells #[.slice A1 y.cs.length c1, i y.wh.s, i y.wh.e, i y.wh.d, i y.wh.f, i y.wh.t, i y.wh.e0, i y.wh.e1, i y.wh.p0, i y.wh.p1, i y.wh.t0, i y.wh.t1] 55)
      have hbw := below_alloc BW.out (.cells #[.slice A1 y.cs.length c1, i y.wh.s, i y.wh.e, i y.wh.d, i y.wh.f, i y.wh.t, i y.wh.e0, i y.wh.e1, i y.wh.p0, i y.wh.p1, i y.wh.t0, i y.wh.t1] 55)
      have hu2 := hu1.call (below_new wr (.cells #[.slice A1 y.cs.length c1, i y.wh.s, i y.wh.e, i y.wh.d, i y.wh.f, i y.wh.t, i y.wh.e0, i y.wh.e1, i y.wh.p0, i y.wh.p1, i y.wh.t0, i y.wh.t1] 55))
      have d2 := f2.cell 0
      rcases idx_cases (isK k) y.cs with ⟨hx, hi⟩ | ⟨n, hn, hx, hi⟩
      · have HX := Lib.hid hx
        have HI := Lib.hid hi
        clear hx hi
        go_wp2_with fail
        refine (indexFind k _ y.cs _ _ d2 hu2 HI.out).mono ?_
        rintro e w1 ⟨rfl, hb1⟩
        go_wp2_with fail
        go_roundg (es.length - (kk + 1))
        case measure => omega
        case rel => exact ⟨kk + 1, by omega, by omega, by go_num, below_call hbw hb1, HA.out.trans (HNO.out (elemC_none HX.out))⟩
      · have HX := Lib.hid hx
        have HI := Lib.hid hi
        clear hx hi
        go_wp2_with fail
        refine (indexFind k _ y.cs _ _ d2 hu2 HI.out).mono ?_
        rintro e w1 ⟨rfl, hb1⟩
        have e2 := e1.call hb1
        have g1 := f1.call hb1
        have g3 := f3.call hb1
        have ce := e2.cell
        have cz := g1.cell
        clear d2
        have HU := Lib.hid ((hu2.call hb1))
        have ht1 := (HT.out.below BW.out HT.out.lt)
        have ht2 := ht1.alloc (.cells #[.slice A1 y.cs.length c1, i y.wh.s, i y.wh.e, i y.wh.d, i y.wh.f, i y.wh.t, i y.wh.e0, i y.wh.e1, i y.wh.p0, i y.wh.p1, i y.wh.t0, i y.wh.t1] 55)
        have ht3 := ht2.below hb1 ht2.lt
        have HT3 := Lib.hid ht3
        clear ht1 ht2 ht3
        go_wp2_with fail
        refine (holds_ y.wh z s a since en po _ HT3.out).mono ?_
        rintro e w2 ⟨rfl, hb2⟩
        have e3 := e2.call hb2
        have ce3 := e3.cell
        have g4 := g3.call hb2
        have cc := g4.cell
        have fz := g4.frozen
        clear ce cz
        cases hh : P y.wh with
        | false =>
          have hh' := (HP.out y.wh).trans hh
          rw [hh']
          have HH := Lib.hid hh
          clear hh hh'
          go_wp2_with fail
          go_roundg (es.length - (kk + 1))
          case measure => omega
          case rel => exact ⟨kk + 1, by omega, by omega, by go_num, below_call (below_call hbw hb1) hb2, HA.out.trans (HNO.out (elemC_no HH.out))⟩
        | true =>
          have hh' := (HP.out y.wh).trans hh
          rw [hh']
          have HH := Lib.hid hh
          clear hh hh'
          have hnz : (n : Int) < (y.cs.length : Int) := by omega
          obtain ⟨bc, oc, rfl, _, hrow⟩ := CompsAt.at_ HU.out hn
          obtain ⟨m0, m1, m2, m3⟩ := hrow w2 (Kept.of hb2)
          clear hrow
          have hfin : findC P k es = some y.cs[n] := HA.out.trans (HYES.out _ ((elemC_yes HH.out).trans HX.out))
          have HF := Lib.hid hfin
          clear hfin HYES HNO HX
          generalize y.cs[n] = q at *
          go_wp2_with fail
          refine bodyPost_ret (v := .tuple #[compV q, .bool true]) (by simp [results, Tryd.results62, go_sem, cc]) rfl ?_
          rw [HF.out]
          exact ⟨rfl, set4 (hb0.trans ((below_call (below_call hbw hb1) hb2).mono (by omega))) (by omega) _ _ _ _⟩
    · have hltz : ¬ (kk : Int) < (es.length : Int) := by omega
      have g4 := b3.call BW.out
      have cc := g4.cell
      have fz := g4.frozen
      go_wp2_with fail
      refine bodyPost_ret (v := .tuple #[compV ⟨0, 0, 0, 0⟩, .bool false]) (by simp [results, Tryd.results62, go_sem, cc]) rfl ?_
      rw [HA.out, findC_end P k es kk (by omega)]
      exact ⟨rfl, set4 (hb0.trans (BW.out.mono (by omega))) (by omega) _ _ _ _⟩
end TarW
end Go.Proofs.YtndlhhiifmjieaaDoor
