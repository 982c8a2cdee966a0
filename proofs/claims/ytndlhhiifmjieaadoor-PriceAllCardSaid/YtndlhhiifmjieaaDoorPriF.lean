/-
  The walk of the session's find.
-/
import Derived.Test.YtndlhhiifmjieaaDoorPriD
import Derived.Deep.DeepCutAuto
import Derived.Deep.RegionHeld3
import Derived.IntWalk
namespace Go.Proofs.YtndlhhiifmjieaaDoor
namespace PriW
set_option linter.unusedSimpArgs false
set_option linter.unusedVariables false
open Go.RowKit CalW TarW Prc

def FinB (W w' : World) : Prop := Below W.heap.size W w'
theorem newCall {W wx : World} {cs : Array Value} {t : TypeId} (h : Below (W.alloc (.cells cs t)).drew.heap.size (W.alloc (.cells cs t)).drew wx) : (∀ o, wx.cell? ⟨W.heap.size, o, none⟩ = cs[o]?) ∧ (∀ o, wx.frozen? ⟨W.heap.size, o, none⟩ = false) ∧ W.heap.size < wx.heap.size ∧ Blk wx W.heap.size t cs :=
  have hk : Blk wx W.heap.size t cs := (Blk.new W t cs).drew.call h
  ⟨hk.cell, hk.frozen, hk.lt, hk⟩
theorem elems_sub {w : World} {b off n c j : Nat} {es : List Elem} (h : ElemsAt w (.slice (some ⟨b, off, none⟩) n c) es) (hj : j < es.length) : ElemsAt w (.slice (some ⟨b, off + j * 12, none⟩) 1 (c - j)) [es[j]] := by
  obtain ⟨A, k, e, h1, h2, h0, h3⟩ := h
  injection e with e1 e2 e3
  subst e1; subst e3
  refine ⟨some ⟨b, off + j * 12, none⟩, c - j, rfl, by simp; omega, by omega, (fun h => by cases h), fun q x hx => ?_⟩
  match q, hx with
  | 0, hx =>
    have e4 : es[j] = x := by simpa using hx
    obtain ⟨b', off', r, a1, a2, a3, a4⟩ := h3 j es[j] (List.getElem?_eq_getElem hj)
    injection a1 with a1
    injection a1 with a1 a5
    subst a1; subst a5
    exact ⟨b, off + j * 12, r, rfl, a2, e4 ▸ a3, fun o u hu => by simpa using a4 o u hu⟩

def idxO : Option (Nat × Comp) → Int | some (j, _) => j | none => 0
theorem place_end (P : Tar.Wh → Bool) (k : Int) (es : List Elem) (j o : Nat) (hj : es.length ≤ j) : place P k (es.drop j) o = none := by
  rw [List.drop_eq_nil_of_le hj]; rfl
theorem place_no {P : Tar.Wh → Bool} {k : Int} {es : List Elem} {j o : Nat} (hj : j < es.length) (h : elemC P k es[j] = none) : place P k (es.drop j) o = place P k (es.drop (j + 1)) (o + 1) := by
  rw [List.drop_eq_getElem_cons hj, place, h]
theorem place_yes {P : Tar.Wh → Bool} {k : Int} {es : List Elem} {j o : Nat} {c : Comp} (hj : j < es.length) (h : elemC P k es[j] = some c) : place P k (es.drop j) o = some (o, c) := by
  rw [List.drop_eq_getElem_cons hj, place, h]
theorem find_any {cs : List Comp} {p : Comp → Bool} (h : cs.any p = false) : cs.find? p = none := by
  rw [List.find?_eq_none]
  intro x hx
  have := List.any_eq_false.1 h x hx
  simpa using this
def FPost (o : Option (Nat × Comp)) (w : World) (e : Ending) (w' : World) : Prop := e = .returned (.tuple #[compV (compO (o.map (·.2))), i (idxO o), .bool o.isSome]) ∧ Below w.heap.size w w'
theorem findC_one (P : Tar.Wh → Bool) (k : Int) (e : Elem) : findC P k [e] = elemC P k e := by
  unfold findC
  rw [List.findSome?_cons]
  cases elemC P k e <;> rfl
/-- Behind 'c, ok := tariff.Find(..)'. -/
def FcR (W : World) (z : Comp) (ok : Bool) (s8 s9 : Value) (wc : World) : Prop := ∃ g, s8 = .pointer (some ⟨g, 0, none⟩) ∧ s9 = .bool ok ∧ W.heap.size ≤ g ∧ Blk wc g 58 #[i z.kind, i z.price, i z.step, i z.tax] ∧ Below W.heap.size W wc

theorem MonB (cs : List Comp) (p : Comp → Bool) : cs.any p = false ∨ cs.any p = true := by cases cs.any p <;> simp
set_option maxRecDepth 100000 in
set_option maxHeartbeats 4000000 in
theorem find (B M : Nat) (t : Trf) (u : Value) (c : Cx) (l : La) (k m en po : Int) (w : World) (hB : Blk w B 67 (sessA t u c M l)) (ht : Tab w) (h : ElemsAt w u t.els) (hst : 0 ≤ c.start) (hst' : c.start ≤ 268435456) (hm : 0 ≤ m) (hm' : m ≤ 1000000) :
    Calls Tryd.prog 53 #[.pointer (some ⟨B, 0, none⟩), i k, i m, i en, i po] w (FPost (place (c.P m en po) k t.els 0) w) := by
  obtain ⟨A, cp, rfl, h1, h2⟩ := SliceAt.form h
  unfold maxLen at h2
  obtain ⟨P, hP⟩ : ∃ P : Tar.Wh → Bool, P = c.P m en po := ⟨_, rfl⟩
  have HP := Lib.hid hP
  rw [← hP]
  clear hP
  obtain ⟨es, hes⟩ : ∃ es : List Elem, t.els = es := ⟨_, rfl⟩
  rw [hes] at h h1 hB ⊢
  clear hes
  have HE := Lib.hid h
  have HT := Lib.hid ht
  have HBK := Lib.hid hB
  have bc := hB.cell
  have bl := hB.lt
  clear h ht hB
  have HB0 := Lib.hid (below_new w (.cells #[.int .i64 0, .int .i64 0, .int .i64 0, .int .i64 0] 58))
  have HK0 := Lib.hid (Blk.new w 58 #[.int .i64 0, .int .i64 0, .int .i64 0, .int .i64 0])
  go_enter Tryd.func53, Tryd.ntmps53
  go_wp2_with fail
  clear bc
  go_loopg [24] es.length (fun gg s24 wr => ∃ kk : Nat, kk ≤ es.length ∧ es.length - kk ≤ gg ∧ s24 = i kk ∧ Hid (Below (w.alloc (.cells #[.int .i64 0, .int .i64 0, .int .i64 0, .int .i64 0] 58)).heap.size (w.alloc (.cells #[.int .i64 0, .int .i64 0, .int .i64 0, .int .i64 0] 58)) wr) ∧ Hid (place P k es 0 = place P k (es.drop kk) kk))
  case atStart => exact ⟨0, Nat.zero_le _, by omega, rfl, Below.refl _ _, rfl⟩
  case round =>
    obtain ⟨kk, hkk, hg, rfl, BW, HA⟩ := hrel
    have BWW := Lib.hid (below_call HB0.out BW.out)
    have hk0 := HK0.out.call BW.out
    have HKR := Lib.hid hk0
    have kc := hk0.cell
    have kf := hk0.frozen
    have kl := hk0.lt
    have HBR := Lib.hid (HBK.out.call BWW.out)
    have bc := HBR.out.cell
    have bl2 := HBR.out.lt
    clear hk0
    by_cases hlt : kk < es.length
    · have hltz : (kk : Int) < (es.length : Int) := by omega
      have hkz : (0 : Int) ≤ (kk : Int) := by omega
      obtain ⟨b, off, u1, rfl, _, hu, hrow⟩ := ElemsAt.at_ HE.out hlt
      obtain ⟨l0, l1, l2, l3, l4, l5, l6, l7, l8, l9, l10, l11⟩ := hrow wr (Kept.of BWW.out)
      have HSUB := Lib.hid (elems_sub HE.out hlt)
      have HNO := Lib.hid (@place_no P k es kk kk hlt)
      have HYES := Lib.hid (fun c => @place_yes P k es kk kk c hlt)
      clear hrow
      obtain ⟨A1, c1, rfl, h3, h4⟩ := SliceAt.form hu
      have HU := Lib.hid hu
      clear hu
      generalize es[kk] = y at *
      unfold maxLen at h4
      have HHAS := Lib.hid (fun (W : World) (hb : Below w.heap.size w W) => has y _ k W (HU.out.call hb))
      rcases MonB y.cs (isK k) with hy | hy
      · rw [hy] at HHAS
        have HF := Lib.hid (HA.out.trans (HNO.out (elemC_none (find_any hy))))
        clear HNO HYES hy
        have hb1 := below_alloc BWW.out (.cells #[.slice A1 y.cs.length c1, i y.wh.s, i y.wh.e, i y.wh.d, i y.wh.f, i y.wh.t, i y.wh.e0, i y.wh.e1, i y.wh.p0, i y.wh.p1, i y.wh.t0, i y.wh.t1] 55)
        have HB1 := Lib.hid hb1
        clear hb1
        go_wp2_with fail
        refine (HHAS.out _ HB1.out).mono ?_
        rintro e w1 ⟨rfl, hb2⟩
        go_wp2_with fail
        go_roundg (es.length - (kk + 1))
        case measure => omega
        case rel => exact ⟨kk + 1, by omega, by omega, by go_num, below_call (below_alloc BW.out _) hb2, HF⟩
      · rw [hy] at HHAS
        clear hy
        have hb1 := below_alloc BWW.out (.cells #[.slice A1 y.cs.length c1, i y.wh.s, i y.wh.e, i y.wh.d, i y.wh.f, i y.wh.t, i y.wh.e0, i y.wh.e1, i y.wh.p0, i y.wh.p1, i y.wh.t0, i y.wh.t1] 55)
        have HB1 := Lib.hid hb1
        clear hb1
        go_wp2_with fail
        refine (HHAS.out _ HB1.out).mono ?_
        rintro e w1 ⟨rfl, hb2⟩
        have HB2 := Lib.hid (below_call HB1.out hb2)
        have hbb := (HBR.out.alloc (.cells #[.slice A1 y.cs.length c1, i y.wh.s, i y.wh.e, i y.wh.d, i y.wh.f, i y.wh.t, i y.wh.e0, i y.wh.e1, i y.wh.p0, i y.wh.p1, i y.wh.t0, i y.wh.t1] 55)).call hb2
        have HBB := Lib.hid hbb
        have HKK := Lib.hid ((HKR.out.alloc (.cells #[.slice A1 y.cs.length c1, i y.wh.s, i y.wh.e, i y.wh.d, i y.wh.f, i y.wh.t, i y.wh.e0, i y.wh.e1, i y.wh.p0, i y.wh.p1, i y.wh.t0, i y.wh.t1] 55)).call hb2)
        clear bc l0 l1 l2 l3 l4 l5 l6 l7 l8 l9 l10 l11 kc kf
        have bc := hbb.cell
        have bl3 := hbb.lt
        clear hbb
        have HFIND : Hid (∀ W, Below w.heap.size w W → Calls Tryd.prog 62 #[trfV ⟨⟨#[]⟩, ⟨#[]⟩, 0, 0, 0, [y], 0, 0⟩ (.slice (some ⟨b, off + kk * 12, none⟩) 1 (cp - kk)), zone c.z c.s, i k, i (c.start + m), i m, i en, i po] W (FindPost (elemC P k y) W)) := by
          intro W hb
          have := find_ ⟨⟨#[]⟩, ⟨#[]⟩, 0, 0, 0, [y], 0, 0⟩ (.slice (some ⟨b, off + kk * 12, none⟩) 1 (cp - kk)) c.z c.s k (c.start + m) m en po W (HT.out.below hb HT.out.lt) (HSUB.out.call hb)
          rw [show findC (fun x => Tar.holds x c.z c.s (c.start + m) m en po) k [y] = elemC P k y by rw [HP.out]; exact findC_one _ _ _] at this
          exact this
        unfold FindPost at HFIND
        have HW : Hid ((elemC P k y = none ∧ place P k es 0 = place P k (es.drop (kk + 1)) (kk + 1)) ∨ ∃ z, elemC P k y = some z ∧ place P k es 0 = some (kk, z)) := by
          cases hE : elemC P k y with
          | none => exact .inl ⟨rfl, HA.out.trans (HNO.out hE)⟩
          | some z => exact .inr ⟨z, rfl, HA.out.trans (HYES.out z hE)⟩
        clear HNO HYES
        generalize elemC P k y = o at *
        generalize hz : compO o = z at HFIND
        generalize hok : o.isSome = ok at HFIND
        have HZ := Lib.hid (And.intro hz hok)
        clear hz hok
        go_upto_region 6 with (fail)
        have HK1 := Lib.hid (Blk.new w1 26 #[.string ⟨#[]⟩, .string ⟨#[]⟩, i 0, i 0, i 0, .slice (some ⟨b, off + kk * 12, none⟩) 1 (cp - kk), i 0, i 0])
        have HB3 := Lib.hid (below_alloc HB2.out (.cells #[.string ⟨#[]⟩, .string ⟨#[]⟩, i 0, i 0, i 0, .slice (some ⟨b, off + kk * 12, none⟩) 1 (cp - kk), i 0, i 0] 26))
        have HBB3 := Lib.hid (HBB.out.alloc (.cells #[.string ⟨#[]⟩, .string ⟨#[]⟩, i 0, i 0, i 0, .slice (some ⟨b, off + kk * 12, none⟩) 1 (cp - kk), i 0, i 0] 26))
        have HKK3 := Lib.hid (HKK.out.alloc (.cells #[.string ⟨#[]⟩, .string ⟨#[]⟩, i 0, i 0, i 0, .slice (some ⟨b, off + kk * 12, none⟩) 1 (cp - kk), i 0, i 0] 26))
        have HWB3 := Lib.hid (below_alloc (below_call (below_alloc BW.out (.cells #[.slice A1 y.cs.length c1, i y.wh.s, i y.wh.e, i y.wh.d, i y.wh.f, i y.wh.t, i y.wh.e0, i y.wh.e1, i y.wh.p0, i y.wh.p1, i y.wh.t0, i y.wh.t1] 55)) hb2) (.cells #[.string ⟨#[]⟩, .string ⟨#[]⟩, i 0, i 0, i 0, .slice (some ⟨b, off + kk * 12, none⟩) 1 (cp - kk), i 0, i 0] 26))
        clear bc bl3 hb2 HBB HKK HB2 HBR HKR BWW HB1
        generalize w1.alloc (.cells #[.string ⟨#[]⟩, .string ⟨#[]⟩, i 0, i 0, i 0, .slice (some ⟨b, off + kk * 12, none⟩) 1 (cp - kk), i 0, i 0] 26) = W2 at *
        generalize w1.heap.size = g1 at *
        have hS : ∀ w', Below W2.heap.size W2 w' → (∀ o, w'.cell? ⟨B, o, none⟩ = (sessA t (.slice (some ⟨b, off, none⟩) es.length cp) c M l)[o]?) ∧ (∀ o, w'.cell? ⟨g1, o, none⟩ = (#[.string ⟨#[]⟩, .string ⟨#[]⟩, i 0, i 0, i 0, .slice (some ⟨b, off + kk * 12, none⟩) 1 (cp - kk), i 0, i 0] : Array Value)[o]?) ∧ FinB W2 w' :=
          fun w' hb => ⟨(HBB3.out.call hb).cell, (HK1.out.call hb).cell, hb⟩
        have HSS := Lib.hid hS
        clear hS
        have hws : IntKind.i64.wrap (c.start + m) = c.start + m := IntWalk.i64_in _ (by omega)
        go_cut [16, 17] (fun s16 s17 wc => FcR W2 z ok s16 s17 wc)
        case first =>
          go_region_held3 (fun w' => (∀ o, w'.cell? ⟨B, o, none⟩ = (sessA t (.slice (some ⟨b, off, none⟩) es.length cp) c M l)[o]?) ∧ (∀ o, w'.cell? ⟨g1, o, none⟩ = (#[.string ⟨#[]⟩, .string ⟨#[]⟩, i 0, i 0, i 0, .slice (some ⟨b, off + kk * 12, none⟩) 1 (cp - kk), i 0, i 0] : Array Value)[o]?) ∧ FinB W2 w')
            (((with_reducible refine HSS.out _ ?_); (repeat (first | (with_reducible exact Below.refl _ _) | (with_reducible refine below_drewN' ?_ _) | (with_reducible refine Below.drew ?_) | (with_reducible refine Below.setCell ?_ (by first | (simp; done) | (simp; omega) | omega) _) | (with_reducible refine below_alloc ?_ _) | (with_reducible refine Below.alloc ?_ (by first | (simp; done) | (simp; omega) | omega) _) | (with_reducible exact hwx) | (with_reducible refine below_call ?_ hwx))); done))
            ((go_at_call 62; (with_reducible refine (HFIND.out _ ?hbx).mono ?_); (case hbx => (have hB3 := HB3.out; (repeat (first | (with_reducible exact Below.refl _ _) | (with_reducible refine below_drewN' ?_ _) | (with_reducible refine Below.drew ?_) | (with_reducible refine Below.setCell ?_ (by first | (simp; done) | (simp; omega) | omega) _) | (with_reducible refine below_alloc ?_ _) | (with_reducible refine Below.alloc ?_ (by first | (simp; done) | (simp; omega) | omega) _) | (with_reducible exact hB3) | (with_reducible refine below_call ?_ hB3))))); rintro e wx ⟨rfl, hwx⟩; (try (with_reducible have hk := newCall hwx; obtain ⟨hkc, hkf, hkl, hkk⟩ := hk))))
          · go_wp2_with fail
            go_meet
            refine ⟨_, rfl, rfl, ?_, Blk.new _ _ _, ?_⟩
            · have := hwx.size
              simpa using this
            · repeat (first | (with_reducible exact Below.refl _ _) | (with_reducible refine below_drewN' ?_ _) | (with_reducible refine Below.drew ?_) | (with_reducible refine Below.setCell ?_ (by first | (simp; done) | (simp; omega) | omega) _) | (with_reducible refine below_alloc ?_ _) | (with_reducible refine Below.alloc ?_ (by first | (simp; done) | (simp; omega) | omega) _) | (with_reducible exact hwx) | (with_reducible refine below_call ?_ hwx))
          · go_wp2_with fail
            go_meet
            refine ⟨_, rfl, rfl, Nat.le_refl _, ?_, ?_⟩
            · simpa using (((hkk.set_ 0 (i z.kind)).set_ 1 (i z.price)).set_ 2 (i z.step)).set_ 3 (i z.tax)
            · repeat (first | (with_reducible exact Below.refl _ _) | (with_reducible refine below_drewN' ?_ _) | (with_reducible refine Below.drew ?_) | (with_reducible refine Below.setCell ?_ (by first | (simp; done) | (simp; omega) | omega) _) | (with_reducible refine below_alloc ?_ _) | (with_reducible refine Below.alloc ?_ (by first | (simp; done) | (simp; omega) | omega) _) | (with_reducible exact hwx) | (with_reducible refine below_call ?_ hwx))
        case rest =>
          obtain ⟨g, rfl, rfl, hgl, hblk, hbc⟩ := hcut
          obtain ⟨w4, rfl⟩ : ∃ w4 : World, w4 = wc := ⟨_, rfl⟩
          have HBC := Lib.hid hbc
          have hgc := hblk.cell
          have hgl2 := hblk.lt
          have hkr := HKK3.out.call hbc
          have kc := hkr.cell
          have kf := hkr.frozen
          have kl2 := hkr.lt
          clear hblk hbc HSS hws
          rcases HW.out with ⟨e1, e2⟩ | ⟨x, e1, e2⟩
          · subst e1
            obtain ⟨hz, hok⟩ := HZ.out
            subst hz; subst hok
            have HF := Lib.hid e2
            clear e2 hkr kc kf HZ HW
            go_wp2_with fail
            go_roundg (es.length - (kk + 1))
            case measure => omega
            case rel => exact ⟨kk + 1, by omega, by omega, by go_num, below_call HWB3.out HBC.out, HF⟩
          · subst e1
            obtain ⟨hz, hok⟩ := HZ.out
            subst hz; subst hok
            have HF := Lib.hid e2
            have hB5 := below_call HB3.out HBC.out
            clear e2 HZ HW
            obtain ⟨x0, x1, x2, x3⟩ := x
            unfold compO at hgc
            simp only [Option.isSome] at *
            go_wp2_with fail
            refine bodyPost_ret (v := .tuple #[compV ⟨x0, x1, x2, x3⟩, i kk, .bool true]) (by simp [results, Tryd.results53, go_sem, kc, kf]) rfl ?_
            refine ⟨by rw [HF.out]; rfl, ?_⟩
            repeat (first | (with_reducible exact Below.refl _ _) | (with_reducible refine below_drewN' ?_ _) | (with_reducible refine Below.drew ?_) | (with_reducible refine Below.setCell ?_ (by first | (simp; done) | (simp; omega) | omega) _) | (with_reducible refine below_alloc ?_ _) | (with_reducible refine Below.alloc ?_ (by first | (simp; done) | (simp; omega) | omega) _) | (with_reducible exact hB5) | (with_reducible refine below_call ?_ hB5))
    · have hltz : ¬ (kk : Int) < (es.length : Int) := by omega
      have HF : Hid (place P k es 0 = none) := HA.out.trans (place_end P k es kk kk (by omega))
      have hB := BWW.out
      go_wp2_with fail
      refine bodyPost_ret (v := .tuple #[compV ⟨0, 0, 0, 0⟩, i 0, .bool false]) (by simp [results, Tryd.results53, go_sem, kc, kf]) rfl ?_
      refine ⟨by rw [HF.out]; rfl, ?_⟩
      repeat (first | (with_reducible exact Below.refl _ _) | (with_reducible refine below_drewN' ?_ _) | (with_reducible refine Below.drew ?_) | (with_reducible refine Below.setCell ?_ (by first | (simp; done) | (simp; omega) | omega) _) | (with_reducible refine below_alloc ?_ _) | (with_reducible refine Below.alloc ?_ (by first | (simp; done) | (simp; omega) | omega) _) | (with_reducible exact hB) | (with_reducible refine below_call ?_ hB))
end PriW
end Go.Proofs.YtndlhhiifmjieaaDoor
