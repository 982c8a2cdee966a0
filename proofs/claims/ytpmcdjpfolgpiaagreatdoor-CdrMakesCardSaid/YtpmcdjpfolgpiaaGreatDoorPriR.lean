/-
  The walk of the reference's place.
  The walk of the reference's add.
  The walks of the reference's component and charges.
  The walk of the reference's charges.
  The walk of the reference's right.
  The walk of the reference's Run.
-/
import Derived.Test.YtpmcdjpfolgpiaaGreatDoorPriS
import Derived.Test.YtpmcdjpfolgpiaaGreatDoorTarB
import Derived.StillTailTactics
import Derived.RegionTactic
import Derived.BigRegion
import Derived.Deep.QuietTactic
import Derived.BigQuiet
import Derived.Test.YtpmcdjpfolgpiaaGreatDoorPriI
import Derived.Test.YtpmcdjpfolgpiaaGreatDoorTaxT
import Derived.Test.YtpmcdjpfolgpiaaGreatDoorCalB
import Derived.OwnWalk
namespace Go.Proofs.YtpmcdjpfolgpiaaGreatDoor
namespace PriW
set_option linter.unusedSimpArgs false
set_option linter.unusedVariables false
open Go.RowKit CalW TarW Prc

def idxR : Option (Nat × Comp) → Int | some (j, _) => j | none => -1
def PlPost (o : Option (Nat × Comp)) (w : World) (e : Ending) (w' : World) : Prop := ∃ b : Int, e = .returned (.tuple #[i (idxR o), i b]) ∧ Below w.heap.size w w'
set_option maxRecDepth 100000 in
set_option maxHeartbeats 1000000 in
theorem rplace (t : Trf) (u : Value) (z : Int) (s : Bool) (k a since en po : Int) (w : World) (h : ElemsAt w u t.els) :
    Calls Tryz.prog 111 #[trfV t u, zone z s, i k, .agg #[i a, i since, i en, i po]] w (PlPost (place (fun x => Tar.holds x z s a since en po) k t.els 0) w) := by
  obtain ⟨A, c, rfl, h1, h2⟩ := SliceAt.form h
  unfold maxLen at h2
  obtain ⟨P, hP⟩ : ∃ P : Tar.Wh → Bool, P = fun x => Tar.holds x z s a since en po := ⟨_, rfl⟩
  have HP := Lib.hid (fun x => (congrFun hP x).symm)
  rw [← hP]
  clear hP
  obtain ⟨es, hes⟩ : ∃ es : List Elem, t.els = es := ⟨_, rfl⟩
  rw [hes] at h h1 ⊢
  clear hes
  have HE := Lib.hid h
  clear h
  go_enter Tryz.func111, Tryz.ntmps111
  go_wp2_with fail
  have b0 := ((Blk.new w 36 #[.string t.id, .string t.cur, i t.ver, i t.fr, i t.to, .slice A es.length c, i t.least, i t.most]).alloc (.cells #[i z, .bool s] 38)).alloc (.cells #[i a, i since, i en, i po] 140)
  have b1 := ((Blk.new' (w := w.alloc (.cells #[.string t.id, .string t.cur, i t.ver, i t.fr, i t.to, .slice A es.length c, i t.least, i t.most] 36)) (g := w.heap.size + 1) (by simp) 38 #[i z, .bool s]).alloc
    (.cells #[i a, i since, i en, i po] 140))
  have b2 := (Blk.new' (w := (w.alloc (.cells #[.string t.id, .string t.cur, i t.ver, i t.fr, i t.to, .slice A es.length c, i t.least, i t.most] 36)).alloc (.cells #[i z, .bool s] 38)) (g := w.heap.size + 1 + 1) (by simp) 140 #[i a, i since, i en, i po])
  have hb0 := below_alloc (below_alloc (below_new w (.cells #[.string t.id, .string t.cur, i t.ver, i t.fr, i t.to, .slice A es.length c, i t.least, i t.most] 36)) (.cells #[i z, .bool s] 38)) (.cells #[i a, i since, i en, i po] 140)
  generalize ((w.alloc (.cells #[.string t.id, .string t.cur, i t.ver, i t.fr, i t.to, .slice A es.length c, i t.least, i t.most] 36)).alloc (.cells #[i z, .bool s] 38)).alloc
    (.cells #[i a, i since, i en, i po] 140) = W0 at *
  have HB0 := Lib.hid hb0
  have K0 := Lib.hid b0
  have K1 := Lib.hid b1
  have K2 := Lib.hid b2
  have hl0 := b0.lt
  have hl1 := b1.lt
  have hl2 := b2.lt
  clear b0 b1 b2 hb0
  generalize w.heap.size + 1 + 1 = g2 at *
  generalize w.heap.size + 1 = g1 at *
  go_loopg [10] es.length (fun gg s10 wr => ∃ kk : Nat, kk ≤ es.length ∧ es.length - kk ≤ gg ∧ s10 = i kk ∧ Hid (Below W0.heap.size W0 wr) ∧ Hid (place P k es 0 = place P k (es.drop kk) kk))
  case atStart => exact ⟨0, Nat.zero_le _, by omega, rfl, Below.refl _ _, rfl⟩
  case round =>
    obtain ⟨kk, hkk, hg, rfl, BW, HA⟩ := hrel
    have BWW := Lib.hid (below_call HB0.out BW.out)
    have KR0 := Lib.hid (K0.out.call BW.out)
    have KR1 := Lib.hid (K1.out.call BW.out)
    have KR2 := Lib.hid (K2.out.call BW.out)
    have c0 := KR0.out.cell
    by_cases hlt : kk < es.length
    · have hltz : (kk : Int) < (es.length : Int) := by omega
      obtain ⟨b, off, u1, rfl, _, hu, hrow⟩ := ElemsAt.at_ HE.out hlt
      obtain ⟨l0, l1, l2, l3, l4, l5, l6, l7, l8, l9, l10, l11⟩ := hrow wr (Kept.of BWW.out)
      have HROW := Lib.hid hrow
      have HNO := Lib.hid (@place_no P k es kk kk hlt)
      have HYES := Lib.hid (fun c => @place_yes P k es kk kk c hlt)
      clear hrow
      obtain ⟨A1, c1, rfl, h3, h4⟩ := SliceAt.form hu
      have HU := Lib.hid hu
      clear hu
      generalize es[kk] = y at *
      unfold maxLen at h4
      have c1' := KR1.out.cell
      have c2' := KR2.out.cell
      go_upto_region 4 with (fail)
      go_still_tail 15, (by kernel_rfl)
      go_wp2_with fail
      refine (rholds y.wh z s a since en po _).mono ?_
      rintro e w2 ⟨rfl, hb2⟩
      have hb3 : Below wr.heap.size wr w2 := (Below.drew (Below.refl _ _)).trans hb2
      have BW2 := Lib.hid (below_call BW.out hb3)
      have BWW2 := Lib.hid (below_call BWW.out hb3)
      have KS0 := Lib.hid (KR0.out.call hb3)
      have c0 := KS0.out.cell
      obtain ⟨l0, -⟩ := HROW.out w2 (Kept.of BWW2.out)
      rw [HP.out y.wh]
      clear hb2 hb3 KR0 KR1 KR2 BWW BW HROW
      cases hh : P y.wh with
      | false =>
        have HF := Lib.hid (HA.out.trans (HNO.out (elemC_no hh)))
        clear HNO HYES hh
        go_wp2_with fail
        go_roundg (es.length - (kk + 1))
        case measure => omega
        case rel => exact ⟨kk + 1, by omega, by omega, by go_num, BW2, HF⟩
      | true =>
        have HEL := Lib.hid (elemC_yes (k := k) hh)
        clear hh
        go_wp2_with fail
        obtain ⟨wo, rfl⟩ : ∃ wo : World, wo = wr := ⟨_, rfl⟩
        have HC0 := Lib.hid c0
        have HL0 := Lib.hid l0
        clear c0 l0
        go_loopg [11] y.cs.length (fun gc s11 wz => ∃ m : Nat, m ≤ y.cs.length ∧ y.cs.length - m ≤ gc ∧ s11 = i m ∧ Hid (wz = w2) ∧ Hid (y.cs.find? (isK k) = (y.cs.drop m).find? (isK k)))
        case atStart => exact ⟨0, Nat.zero_le _, by omega, rfl, rfl, rfl⟩
        case round =>
          obtain ⟨m, hm, hgc, rfl, HW, HFA⟩ := hrel
          have hwz := HW.out
          clear HW
          subst hwz
          have c0 := HC0.out
          have l0 := HL0.out
          by_cases hml : m < y.cs.length
          · have hmz : (m : Int) < (y.cs.length : Int) := by omega
            obtain ⟨bb, of, rfl, _, hrow⟩ := CompsAt.at_ HU.out hml
            obtain ⟨q0, -⟩ := hrow wr (Kept.of BWW2.out)
            clear hrow
            have HFN := Lib.hid (find_no hml HFA.out)
            have HFY := Lib.hid (find_yes hml HFA.out)
            unfold isK at HFN HFY
            generalize y.cs[m] = x at *
            cases hx : (x.kind == k) with
            | true =>
              have HF := Lib.hid (HA.out.trans (HYES.out x (HEL.out.trans (HFY.out hx))))
              clear HFN HFY HNO HYES
              go_wp2_with fail
              go_ret2
              exact ⟨m, by rw [HF.out]; rfl, BWW2.out⟩
            | false =>
              have HF := Lib.hid (HFN.out hx)
              clear HFN HFY
              go_wp2_with fail
              go_roundg (y.cs.length - (m + 1))
              case measure => omega
              case rel => exact ⟨m + 1, by omega, by omega, by go_num, rfl, HF⟩
          · have hmz : ¬ (m : Int) < (y.cs.length : Int) := by omega
            have HF := Lib.hid (HA.out.trans (HNO.out (HEL.out.trans (find_end (by omega) HFA.out))))
            clear HNO HYES
            go_wp2_with fail
            go_roundg (es.length - (kk + 1))
            case measure => omega
            case rel => exact ⟨kk + 1, by omega, by omega, by go_num, BW2, HF⟩
    · have hltz : ¬ (kk : Int) < (es.length : Int) := by omega
      have HF : Hid (place P k es 0 = none) := HA.out.trans (place_end P k es kk kk (by omega))
      go_wp2_with fail
      go_ret2
      exact ⟨-1, by rw [HF.out]; rfl, BWW.out⟩
end PriW
end Go.Proofs.YtpmcdjpfolgpiaaGreatDoor

namespace Go.Proofs.YtpmcdjpfolgpiaaGreatDoor
namespace PriW
set_option linter.unusedSimpArgs false
set_option linter.unusedVariables false
open Go.RowKit CalW TarW Prc

def qcells (n : Nat) (q : Int → Int → Int) : Array Value := Array.ofFn (n := n * 5) (fun o => i (q ((o.val / 5 : Nat) : Int) ((o.val % 5 : Nat) : Int)))
/-- The quantities of n elements, in block Q. -/
def QAt (w : World) (Q n : Nat) (q : Int → Int → Int) : Prop := Blk w Q 136 (qcells n q)
theorem qcells_at {n : Nat} {q : Int → Int → Int} {a b : Nat} (ha : a < n) (hb : b < 5) : (qcells n q)[a * 5 + b]? = some (i (q a b)) := by
  unfold qcells
  have h : a * 5 + b < n * 5 := by omega
  rw [Array.getElem?_eq_getElem (by simpa using h)]
  simp only [Array.getElem_ofFn]
  rw [show (a * 5 + b) / 5 = a by omega, show (a * 5 + b) % 5 = b by omega]
theorem QAt.cell {w : World} {Q n : Nat} {q : Int → Int → Int} (h : QAt w Q n q) {a b : Nat} (ha : a < n) (hb : b < 5) : w.cell? ⟨Q, a * 5 + b, none⟩ = some (i (q a b)) := (Blk.cell h _).trans (qcells_at ha hb)
theorem qcells_set {n : Nat} {q : Int → Int → Int} {a b : Nat} (ha : a < n) (hb : b < 5) (v : Int) : (qcells n q).setIfInBounds (a * 5 + b) (i v) = qcells n (fun x y => if x = a ∧ y = b then v else q x y) := by
  unfold qcells
  refine Array.ext (by simp) (fun o h1 h2 => ?_)
  have ho : o < n * 5 := by simpa using h2
  have e1 := Array.getElem_setIfInBounds (xs := Array.ofFn (n := n * 5) (fun o => i (q ((o.val / 5 : Nat) : Int) ((o.val % 5 : Nat) : Int)))) (i := a * 5 + b) (a := i v) (j := o) (hj := by simpa using ho)
  refine e1.trans ?_
  rw [Array.getElem_ofFn, Array.getElem_ofFn]
  by_cases he : a * 5 + b = o
  · subst he
    rw [if_pos rfl]
    show i v = i (if (((a * 5 + b) / 5 : Nat) : Int) = a ∧ (((a * 5 + b) % 5 : Nat) : Int) = b then v else q (((a * 5 + b) / 5 : Nat) : Int) (((a * 5 + b) % 5 : Nat) : Int))
    rw [if_pos ⟨by omega, by omega⟩]
  · rw [if_neg he]
    show i (q ((o / 5 : Nat) : Int) ((o % 5 : Nat) : Int)) = i (if ((o / 5 : Nat) : Int) = a ∧ ((o % 5 : Nat) : Int) = b then v else q ((o / 5 : Nat) : Int) ((o % 5 : Nat) : Int))
    rw [if_neg (fun hx => he (by omega))]
theorem QAt.set_ {w : World} {Q n : Nat} {q : Int → Int → Int} (h : QAt w Q n q) {a b : Nat} (ha : a < n) (hb : b < 5) (v : Int) : QAt (w.setCell ⟨Q, a * 5 + b, none⟩ (i v)) Q n (fun x y => if x = a ∧ y = b then v else q x y) := by
  have := Blk.set_ h (a * 5 + b) (i v)
  rw [qcells_set ha hb] at this
  exact this
theorem QAt.keep {w w' : World} {Q n : Nat} {q : Int → Int → Int} (h : QAt w Q n q) (hb : Below w.heap.size w w') : QAt w' Q n q := Blk.call h hb

def lR (l : La) (k : Int) : Int := match l k with | some (j, _) => j | none => -1
abbrev sumsA (Q n : Nat) (l : La) : Array Value := #[.slice (some ⟨Q, 0, none⟩) n n, i (lR l 0), i (lR l 1), i (lR l 2), i (lR l 3), i (lR l 4)]
abbrev sumsV (Q n : Nat) (l : La) : Value := .agg (sumsA Q n l)
def only (Q : Nat) : Nat → Prop := fun k => k = Q
def RAPost (Q N : Nat) (st : St) (w : World) (e : Ending) (w' : World) : Prop := e = .returned (sumsV Q N st.last) ∧ QAt w' Q N st.q ∧ Kp (only Q) w w'

theorem below6 {w w1 : World} {B g : Nat} (h : Below B w w1) (hg : B ≤ g) (v0 v1 v2 v3 v4 v5 : Value) : Below B w ((((((w1.setCell ⟨g, 0, none⟩ v0).setCell ⟨g, 1, none⟩ v1).setCell ⟨g, 2, none⟩ v2).setCell ⟨g, 3, none⟩ v3).setCell ⟨g, 4, none⟩ v4).setCell ⟨g, 5, none⟩ v5) :=
  (((((h.setCell (p := ⟨g, 0, none⟩) hg v0).setCell (p := ⟨g, 1, none⟩) hg v1).setCell (p := ⟨g, 2, none⟩) hg v2).setCell (p := ⟨g, 3, none⟩) hg v3).setCell (p := ⟨g, 4, none⟩) hg v4).setCell (p := ⟨g, 5, none⟩) hg v5
theorem blk6 {w1 : World} {Q g : Nat} {t : TypeId} {cs : Array Value} (h : Blk w1 Q t cs) (hg : Q ≠ g) (v0 v1 v2 v3 v4 v5 : Value) : Blk ((((((w1.setCell ⟨g, 0, none⟩ v0).setCell ⟨g, 1, none⟩ v1).setCell ⟨g, 2, none⟩ v2).setCell ⟨g, 3, none⟩ v3).setCell ⟨g, 4, none⟩ v4).setCell ⟨g, 5, none⟩ v5) Q t cs :=
  (((((h.far (p := ⟨g, 0, none⟩) hg v0).far (p := ⟨g, 1, none⟩) hg v1).far (p := ⟨g, 2, none⟩) hg v2).far (p := ⟨g, 3, none⟩) hg v3).far (p := ⟨g, 4, none⟩) hg v4).far (p := ⟨g, 5, none⟩) hg v5
theorem kpfar {S : Nat → Prop} {w w1 : World} {g o : Nat} {v : Value} (h : Kp S w w1) (hg : w.heap.size ≤ g) : Kp S w (w1.setCell ⟨g, o, none⟩ v) :=
  ⟨h.os, h.tape, h.output, by simpa [World.setCell] using h.size, fun k hk hn => (Below.heap_setCell w1 ⟨g, o, none⟩ v k (fun e => by simp only at e; omega)).trans (h.block k hk hn)⟩
theorem kpfar6 {S : Nat → Prop} {w w1 : World} {g : Nat} (h : Kp S w w1) (hg : w.heap.size ≤ g) (v0 v1 v2 v3 v4 v5 : Value) : Kp S w ((((((w1.setCell ⟨g, 0, none⟩ v0).setCell ⟨g, 1, none⟩ v1).setCell ⟨g, 2, none⟩ v2).setCell ⟨g, 3, none⟩ v3).setCell ⟨g, 4, none⟩ v4).setCell ⟨g, 5, none⟩ v5) :=
  kpfar (kpfar (kpfar (kpfar (kpfar (kpfar h hg) hg) hg) hg) hg) hg
set_option maxRecDepth 100000 in
set_option maxHeartbeats 1000000 in
theorem radd (Q : Nat) (t : Trf) (u : Value) (c : Cx) (st : St) (T : Int) (k : Nat) (m en po n : Int) (w : World) (hQ : QAt w Q t.els.length st.q) (h : ElemsAt w u t.els) (hI : Inv t.els T st) (hT : T + n ≤ 4611686018427387904) (hk : k = 1 ∨ k = 2 ∨ k = 3 ∨ k = 4) :
    Calls Tryz.prog 83 #[sumsV Q t.els.length st.last, trfV t u, zone c.z c.s, .agg #[i (c.start + m), i m, i en, i po], i k, i n] w (RAPost Q t.els.length (addS t.els (c.P m en po) k n st) w) := by
  have HQ := Lib.hid hQ
  have HPL := Lib.hid (fun W (hb : Below w.heap.size w W) => rplace t u c.z c.s k (c.start + m) m en po W (h.call hb))
  have HNO : Hid (place (fun x => Tar.holds x c.z c.s (c.start + m) m en po) k t.els 0 = none ∨ n ≤ 0 → addS t.els (c.P m en po) k n st = st) := by
    intro hp
    unfold addS
    by_cases hn : n ≤ 0
    · rw [if_pos hn]
    · rw [if_neg hn, show place (c.P m en po) k t.els 0 = none from hp.resolve_right hn]
  have HYES : Hid (∀ j x, ¬ n ≤ 0 → place (fun x => Tar.holds x c.z c.s (c.start + m) m en po) k t.els 0 = some (j, x) → addS t.els (c.P m en po) k n st = ⟨bump st.q j k n, fun b => if b = k then some (j, x.step) else st.last b⟩ ∧ j < t.els.length ∧ 0 ≤ st.q j k ∧ st.q j k + n ≤ 4611686018427387904) := by
    intro j x hn hp
    obtain ⟨q, hq, e1, _⟩ := place_spec t.els 0 hp
    have h1 := hI.low j k
    have h2 := hI.high j k
    exact ⟨(addS_pos hn).2 j x hp, by omega, h1, by omega⟩
  generalize place (fun x => Tar.holds x c.z c.s (c.start + m) m en po) k t.els 0 = o at *
  obtain ⟨A, cp, rfl, h1, h2⟩ := SliceAt.form h
  unfold maxLen at h2
  clear hQ h hI hT
  generalize addS t.els (c.P m en po) k n st = st2 at *
  obtain ⟨x, hx⟩ : ∃ x, x = c.start + m := ⟨_, rfl⟩
  rw [← hx] at HPL ⊢
  clear hx
  have hNb : t.els.length ≤ 9223372036854775807 := by omega
  generalize hN : t.els.length = N at *
  clear hN h1
  go_enter Tryz.func83, Tryz.ntmps83
  go_upto_region 1 with (fail)
  have hb0 := below_alloc (below_alloc (below_alloc (below_alloc (below_new w (.cells (sumsA Q N st.last) 138)) (.cells #[.string t.id, .string t.cur, i t.ver, i t.fr, i t.to, .slice A N cp, i t.least, i t.most] 36)) (.cells #[i c.z, .bool c.s] 38)) (.cells #[i x, i m, i en, i po] 140)) (.cells #[.slice none 0 0, .int .i64 0, .int .i64 0, .int .i64 0, .int .i64 0, .int .i64 0] 138)
  have k6 := ((((Blk.new w 138 (sumsA Q N st.last)).alloc (.cells #[.string t.id, .string t.cur, i t.ver, i t.fr, i t.to, .slice A N cp, i t.least, i t.most] 36)).alloc (.cells #[i c.z, .bool c.s] 38)).alloc (.cells #[i x, i m, i en, i po] 140)).alloc (.cells #[.slice none 0 0, .int .i64 0, .int .i64 0, .int .i64 0, .int .i64 0, .int .i64 0] 138)
  have k12 := Blk.new' (w := (((w.alloc (.cells (sumsA Q N st.last) 138)).alloc (.cells #[.string t.id, .string t.cur, i t.ver, i t.fr, i t.to, .slice A N cp, i t.least, i t.most] 36)).alloc (.cells #[i c.z, .bool c.s] 38)).alloc (.cells #[i x, i m, i en, i po] 140)) (g := w.heap.size + 1 + 1 + 1 + 1) (by simp) 138 #[.slice none 0 0, .int .i64 0, .int .i64 0, .int .i64 0, .int .i64 0, .int .i64 0]
  have HB0 := Lib.hid hb0
  have K6 := Lib.hid k6
  have K12 := Lib.hid k12
  have HPC := Lib.hid (HPL.out _ hb0)
  have hQl := HQ.out.lt
  have q0 := HQ.out.keep hb0
  have HQ0 := Lib.hid q0
  clear hb0 k6 k12 q0 HPL
  go_wp2_with fail
  refine HPC.out.mono ?_
  rintro e w1 ⟨b, rfl, hb1⟩
  have HB1 := Lib.hid (below_call HB0.out hb1)
  have k6 := K6.out.call hb1
  have k12 := K12.out.call hb1
  have hQ1 := HQ0.out.keep hb1
  have hgl : w.heap.size < w1.heap.size := k6.lt
  have hgl2 := k12.lt
  have n6 : w.heap.size ≠ Q := by omega
  have n12 : w.heap.size + 1 + 1 + 1 + 1 ≠ Q := by omega
  have n612 : w.heap.size ≠ w.heap.size + 1 + 1 + 1 + 1 := by omega
  have hS6 : w.heap.size ≤ w.heap.size := Nat.le_refl _
  have hS12 : w.heap.size ≤ w.heap.size + 1 + 1 + 1 + 1 := by omega
  clear HB0 K6 K12 HQ0 HPC hb1
  generalize w.heap.size + 1 + 1 + 1 + 1 = g12 at *
  generalize hg6 : w.heap.size = g6 at *
  have HG6 := Lib.hid hg6
  clear hg6
  cases o with
  | none =>
    have HF := Lib.hid (HNO.out (.inl rfl))
    simp only [idxR]
    have c6 := k6.cell
    have c12 := k12.cell
    have f12 := k12.frozen
    go_wp2_with fail
    refine bodyPost_ret (v := sumsV Q N st.last) (by simp [results, Tryz.results83, go_sem, c12, f12]) rfl ⟨by rw [HF.out], by rw [HF.out]; exact blk6 hQ1 n12.symm _ _ _ _ _ _, Kp.of ?_⟩
    rw [HG6.out]
    exact below6 HB1.out hS12 _ _ _ _ _ _
  | some jx =>
    obtain ⟨j, y⟩ := jx
    simp only [idxR]
    have c6 := k6.cell
    have c12 := k12.cell
    have f12 := k12.frozen
    have hj0 : (0 : Int) ≤ (j : Int) := by omega
    by_cases hn : n ≤ 0
    · have HF := Lib.hid (HNO.out (.inr hn))
      go_wp2_with fail
      refine bodyPost_ret (v := sumsV Q N st.last) (by simp [results, Tryz.results83, go_sem, c12, f12]) rfl ⟨by rw [HF.out], by rw [HF.out]; exact blk6 hQ1 n12.symm _ _ _ _ _ _, Kp.of ?_⟩
      rw [HG6.out]
      exact below6 HB1.out hS12 _ _ _ _ _ _
    · obtain ⟨hf, hj, q1, q2⟩ := HYES.out j y (by omega) rfl
      have HF := Lib.hid hf
      have hn2 : 0 < n := by omega
      have hkb : (k : Int) < 5 := by omega
      have hk0 : (0 : Int) ≤ (k : Int) := by omega
      have hk5 : k < 5 := by omega
      have hjN : (j : Int) < (N : Int) := by omega
      have qc := QAt.cell hQ1 hj hk5
      have qf := Blk.frozen hQ1
      have hwr : IntKind.i64.wrap (st.q j k + n) = st.q j k + n := IntWalk.i64_in _ (by omega)
      clear hf
      go_upto_region 3 with (fail)
      go_region
      have HQ2 : Hid (QAt (w1.setCell ⟨Q, j * 5 + k, none⟩ (i (st.q j k + n))).drew Q N (bump st.q j k n)) := by
        have h0 := QAt.set_ hQ1 hj hk5 (st.q j k + n)
        have e : (fun x y => if x = (j : Int) ∧ y = (k : Int) then st.q j k + n else st.q x y) = bump st.q j k n := by
          funext x y
          unfold bump
          split
          · rename_i hh; rw [hh.1, hh.2]
          · rfl
        rw [e] at h0
        exact h0
      have k62 : Blk (w1.setCell ⟨Q, j * 5 + k, none⟩ (i (st.q j k + n))).drew g6 138 (sumsA Q N st.last) := (k6.far (p := ⟨Q, j * 5 + k, none⟩) n6 _).drew
      have k122 := (k12.far (p := ⟨Q, j * 5 + k, none⟩) n12 (i (st.q j k + n))).drew
      have HKP : Hid (Kp (only Q) w (w1.setCell ⟨Q, j * 5 + k, none⟩ (i (st.q j k + n))).drew) := by
        have hb : Below w.heap.size w w1 := by rw [HG6.out]; exact HB1.out
        exact ((Kp.of hb).trans (Kp.set (S := only Q) (w := w1) (g := Q) rfl)).trans Kp.drew
      clear hQ1 k6 k12 c6 c12 f12 qc qf
      generalize (w1.setCell ⟨Q, j * 5 + k, none⟩ (i (st.q j k + n))).drew = w2 at *
      have c6 := k62.cell
      have f6 := k62.frozen
      have c12 := k122.cell
      have f12 := k122.frozen
      rcases hk with rfl | rfl | rfl | rfl
      all_goals
        go_wp2_with fail
      all_goals
        refine bodyPost_ret (v := sumsV Q N st2.last) (by rw [HF.out]; simp [results, Tryz.results83, go_sem, c6, c12, f12, lR]) rfl ⟨rfl, ?_, ?_⟩
        · rw [HF.out]
          exact blk6 (Blk.far HQ2.out n6.symm _) n12.symm _ _ _ _ _ _
        · refine kpfar6 (kpfar HKP.out ?_) ?_ _ _ _ _ _ _
          · rw [HG6.out]; exact hS6
          · rw [HG6.out]; exact hS12
end PriW
end Go.Proofs.YtpmcdjpfolgpiaaGreatDoor

namespace Go.Proofs.YtpmcdjpfolgpiaaGreatDoor
namespace PriW
set_option linter.unusedSimpArgs false
set_option linter.unusedVariables false
open Go.RowKit CalW TarW Prc

theorem compR_none {e : Elem} {k : Int} (h : e.cs.find? (isK k) = none) : compR e k = ⟨0, 0, 1, 0⟩ := by unfold compR; rw [h]
theorem compR_some {e : Elem} {k : Int} {c : Comp} (h : e.cs.find? (isK k) = some c) : compR e k = c := by unfold compR; rw [h]
def CoPost (c : Comp) (w : World) (e : Ending) (w' : World) : Prop := e = .returned (compV c) ∧ Below w.heap.size w w'
theorem below4 {w w1 : World} {B g : Nat} (h : Below B w w1) (hg : B ≤ g) (v0 v1 v2 v3 : Value) : Below B w ((((w1.setCell ⟨g, 0, none⟩ v0).setCell ⟨g, 1, none⟩ v1).setCell ⟨g, 2, none⟩ v2).setCell ⟨g, 3, none⟩ v3) :=
  (((h.setCell (p := ⟨g, 0, none⟩) hg v0).setCell (p := ⟨g, 1, none⟩) hg v1).setCell (p := ⟨g, 2, none⟩) hg v2).setCell (p := ⟨g, 3, none⟩) hg v3

set_option maxRecDepth 100000 in
set_option maxHeartbeats 1000000 in
theorem rcomp (e : Elem) (v : Value) (k : Int) (w : World) (h : CompsAt w v e.cs) : Calls Tryz.prog 112 #[elemV v e.wh, i k] w (CoPost (compR e k) w) := by
  obtain ⟨A, c, rfl, h1, h2⟩ := SliceAt.form h
  unfold maxLen at h2
  have HN := Lib.hid (@compR_none e k)
  have HY := Lib.hid (fun c => @compR_some e k c)
  obtain ⟨cs, x⟩ := e
  simp only at *
  generalize compR ⟨cs, x⟩ k = CR at *
  have hb0 := below_alloc (below_new w (.cells #[.slice A cs.length c, i x.s, i x.e, i x.d, i x.f, i x.t, i x.e0, i x.e1, i x.p0, i x.p1, i x.t0, i x.t1] 65)) (.cells #[.int .i64 0, .int .i64 0, .int .i64 0, .int .i64 0] 82)
  have k2 := (Blk.new w 65 #[.slice A cs.length c, i x.s, i x.e, i x.d, i x.f, i x.t, i x.e0, i x.e1, i x.p0, i x.p1, i x.t0, i x.t1]).alloc (.cells #[.int .i64 0, .int .i64 0, .int .i64 0, .int .i64 0] 82)
  have k4 := Blk.new' (w := w.alloc (.cells #[.slice A cs.length c, i x.s, i x.e, i x.d, i x.f, i x.t, i x.e0, i x.e1, i x.p0, i x.p1, i x.t0, i x.t1] 65)) (g := w.heap.size + 1) (by simp) 82 #[.int .i64 0, .int .i64 0, .int .i64 0, .int .i64 0]
  have HC := Lib.hid (h.call hb0)
  have HB0 := Lib.hid hb0
  have c2 := k2.cell
  have c4 := k4.cell
  have f4 := k4.frozen
  have hl4 := k4.lt
  clear h hb0 k2 k4
  go_enter Tryz.func112, Tryz.ntmps112
  go_upto_region 1 with (fail)
  have hg1 : w.heap.size ≤ w.heap.size + 1 := by omega
  generalize (w.alloc (.cells #[.slice A cs.length c, i x.s, i x.e, i x.d, i x.f, i x.t, i x.e0, i x.e1, i x.p0, i x.p1, i x.t0, i x.t1] 65)).alloc (.cells #[.int .i64 0, .int .i64 0, .int .i64 0, .int .i64 0] 82) = w1 at *
  have HG1 := Lib.hid hg1
  clear hg1
  generalize w.heap.size + 1 = g4 at *
  go_wp2_with fail
  go_loopg [5] cs.length (fun gg s5 wr => ∃ kk : Nat, kk ≤ cs.length ∧ cs.length - kk ≤ gg ∧ s5 = i kk ∧ Hid (wr = w1) ∧ Hid (cs.find? (isK k) = (cs.drop kk).find? (isK k)))
  case atStart => exact ⟨0, Nat.zero_le _, by omega, rfl, rfl, rfl⟩
  case round =>
    obtain ⟨kk, hkk, hg, rfl, HW, HA⟩ := hrel
    have hw := HW.out
    clear HW
    subst hw
    by_cases hlt : kk < cs.length
    · have hltz : (kk : Int) < (cs.length : Int) := by omega
      obtain ⟨b, off, rfl, _, hrow⟩ := CompsAt.at_ HC.out hlt
      obtain ⟨l0, l1, l2, l3⟩ := hrow wr (Kept.refl _)
      clear hrow
      have HFN := Lib.hid (find_no hlt HA.out)
      have HFY := Lib.hid (find_yes hlt HA.out)
      unfold isK at HFN HFY
      generalize cs[kk] = y at *
      cases hy : (y.kind == k) with
      | true =>
        have HF := Lib.hid (HY.out y (HFY.out hy))
        clear HFN HFY HN HY
        obtain ⟨y0, y1, y2, y3⟩ := y
        simp only at *
        go_wp2_with fail
        refine bodyPost_ret (v := compV ⟨y0, y1, y2, y3⟩) (by simp [results, Tryz.results112, go_sem, c4, f4]) rfl ⟨by rw [HF.out], below4 HB0.out HG1.out _ _ _ _⟩
      | false =>
        have HF := Lib.hid (HFN.out hy)
        clear HFN HFY
        go_wp2_with fail
        go_roundg (cs.length - (kk + 1))
        case measure => omega
        case rel => exact ⟨kk + 1, by omega, by omega, by go_num, rfl, HF⟩
    · have hltz : ¬ (kk : Int) < (cs.length : Int) := by omega
      have HF := Lib.hid (HN.out (find_end (by omega) HA.out))
      clear HN HY
      go_wp2_with fail
      refine bodyPost_ret (v := compV ⟨0, 0, 1, 0⟩) (by simp [results, Tryz.results112, go_sem, c4, f4]) rfl ⟨by rw [HF.out], below4 HB0.out HG1.out _ _ _ _⟩
end PriW
end Go.Proofs.YtpmcdjpfolgpiaaGreatDoor

namespace Go.Proofs.YtpmcdjpfolgpiaaGreatDoor
namespace PriW
set_option linter.unusedSimpArgs false
set_option linter.unusedVariables false
open Go.RowKit CalW TarW Prc

theorem rchgs_append (st : St) : ∀ (l m : List Elem) (o : Nat), rchgs st (l ++ m) o = rchgs st l o ++ rchgs st m (o + l.length)
  | [], m, o => by simp [rchgs]
  | e :: l, m, o => by
    rw [List.cons_append, rchgs, rchgs, rchgs_append st l m (o + 1), List.append_assoc, List.length_cons]
    congr 3
    omega
def rTo (st : St) (es : List Elem) (k : Nat) : List Chg0 := rchgs st (es.take k) 0
def rK (e : Elem) (x : Int) (st : St) : Nat → List Chg0
  | 2 => chgR e x st 1
  | 3 => chgR e x st 1 ++ chgR e x st 2
  | 4 => (chgR e x st 1 ++ chgR e x st 2) ++ chgR e x st 3
  | 5 => chgsR e x st
  | _ => []
theorem rK_succ (e : Elem) (x : Int) (st : St) {K : Nat} (h1 : 1 ≤ K) (h2 : K ≤ 4) : rK e x st (K + 1) = rK e x st K ++ chgR e x st K := by
  have : K = 1 ∨ K = 2 ∨ K = 3 ∨ K = 4 := by omega
  rcases this with rfl | rfl | rfl | rfl
  · rfl
  · rfl
  · rfl
  · show chgsR e x st = ((chgR e x st 1 ++ chgR e x st 2) ++ chgR e x st 3) ++ chgR e x st 4
    unfold chgsR
    simp only [List.append_assoc]
theorem rTo_succ (st : St) {es : List Elem} {k : Nat} (hk : k < es.length) : rTo st es (k + 1) = rTo st es k ++ rK es[k] k st 5 := by
  unfold rTo
  rw [List.take_succ_eq_append_getElem hk, rchgs_append, rchgs, rchgs, List.append_nil, List.length_take, Nat.min_eq_left (by omega), Nat.zero_add]
  rfl
theorem rTo_all (st : St) (es : List Elem) : rTo st es es.length = rchgs st es 0 := by unfold rTo; rw [List.take_length]
theorem chgR_len (e : Elem) (x : Int) (st : St) (K : Int) : (chgR e x st K).length ≤ 1 := by
  unfold chgR
  split <;> simp
theorem rK_len (e : Elem) (x : Int) (st : St) (K : Nat) : (rK e x st K).length ≤ 4 := by
  have h1 := chgR_len e x st 1
  have h2 := chgR_len e x st 2
  have h3 := chgR_len e x st 3
  have h4 := chgR_len e x st 4
  unfold rK
  split <;> (try simp only [chgsR, List.length_append, List.length_nil]) <;> omega
theorem rTo_len (st : St) (es : List Elem) : ∀ k, k ≤ es.length → (rTo st es k).length ≤ 4 * k
  | 0, _ => by unfold rTo; rw [List.take_zero, rchgs]; exact Nat.zero_le _
  | k + 1, hk => by
    rw [rTo_succ st (show k < es.length by omega), List.length_append]
    have h1 := rTo_len st es k (by omega)
    have h2 := rK_len (es[k]'(by omega)) k st 5
    omega
theorem chgR_zero {e : Elem} {x : Int} {st : St} {K : Int} (h : st.q x K = 0) : chgR e x st K = [] := by unfold chgR; rw [if_pos h]
/-- Whether the quantity is rounded. -/
def rnd (st : St) (x K : Int) : Bool := decide (K ≠ 1) && decide (lR st.last K = x)
theorem lR_is (l : La) (K : Int) (x : Nat) : ((l K).map (fun y => (y.1 : Int)) = some (x : Int)) ↔ lR l K = x := by
  unfold lR
  cases h : l K with
  | none => simp
  | some y => obtain ⟨j, s⟩ := y; simp
theorem chgR_yes {e : Elem} {x : Nat} {st : St} {K : Int} (h : st.q x K ≠ 0) (hr : K ≠ 1 ∧ lR st.last K = x) : chgR e x st K = [⟨K, (compR e K).price, (compR e K).tax, (st.q x K + (compR e K).step - 1) / (compR e K).step * (compR e K).step⟩] := by
  unfold chgR qtyR
  rw [if_neg h, if_pos ⟨hr.1, (lR_is _ _ _).2 hr.2⟩]
theorem chgR_no {e : Elem} {x : Nat} {st : St} {K : Int} (h : st.q x K ≠ 0) (hr : ¬ (K ≠ 1 ∧ lR st.last K = x)) : chgR e x st K = [⟨K, (compR e K).price, (compR e K).tax, st.q x K⟩] := by
  unfold chgR qtyR
  rw [if_neg h, if_neg (fun hx => hr ⟨hx.1, (lR_is _ _ _).1 hx.2⟩)]
theorem up_bds {n s : Int} (h1 : 0 < n) (h2 : 1 ≤ s) : 0 ≤ (n + s - 1) / s ∧ (n + s - 1) / s ≤ n + s - 1 ∧ 0 ≤ (n + s - 1) / s * s ∧ (n + s - 1) / s * s ≤ n + s - 1 := by
  have a1 := Int.ediv_nonneg (show 0 ≤ n + s - 1 by omega) (show 0 ≤ s by omega)
  have a2 := Int.ediv_mul_le (n + s - 1) (show s ≠ 0 by omega)
  have a3 := Int.mul_nonneg a1 (show 0 ≤ s by omega)
  have a4 : (n + s - 1) / s * 1 ≤ (n + s - 1) / s * s := Int.mul_le_mul_of_nonneg_left h2 a1
  rw [Int.mul_one] at a4
  exact ⟨a1, by omega, a3, a2⟩
/-- What is known of the step where a quantity is rounded. -/
theorem step_ok {es : List Elem} {T : Int} {st : St} (hI : Inv es T st) (hc : CompsOk es) {j : Nat} (hj : j < es.length) {K : Int} (hr : K ≠ 1 ∧ lR st.last K = j) : 1 ≤ (compR es[j] K).step ∧ (compR es[j] K).step ≤ 1073741824 := by
  unfold lR at hr
  cases h : st.last K with
  | none => rw [h] at hr; simp only at hr; omega
  | some y =>
    obtain ⟨j', s⟩ := y
    rw [h] at hr
    simp only at hr
    obtain ⟨hj', c, h1, h2, _⟩ := hI.last K j' s h
    have : j' = j := by omega
    subst this
    rw [compR_some h1]
    exact hc.steps j' hj' K c h1 hr.1

theorem sums_last {w : World} {g Q n : Nat} {l : La} (h : Blk w g 138 (sumsA Q n l)) (K : Nat) (hK : K ≤ 4) : w.cell? ⟨g, 1 + K, none⟩ = some (i (lR l K)) := by
  have : K = 0 ∨ K = 1 ∨ K = 2 ∨ K = 3 ∨ K = 4 := by omega
  rcases this with rfl | rfl | rfl | rfl | rfl <;> exact h.cell _

set_option maxRecDepth 100000 in
set_option maxHeartbeats 2000000 in
theorem rcharges (Q : Nat) (t : Trf) (u : Value) (st : St) (T : Int) (w : World) (hQ : QAt w Q t.els.length st.q) (hE : ElemsAt w u t.els) (hn : t.els.length ≤ 1000) (hI : Inv t.els T st) (hT : T ≤ 1152921504606846976) (hc : CompsOk t.els) :
    Calls Tryz.prog 84 #[trfV t u, sumsV Q t.els.length st.last] w (ChgPost (rchgs st t.els 0) w) := by
  obtain ⟨A, cp, rfl, h1, h2⟩ := SliceAt.form hE
  unfold maxLen at h2
  have HSTEP := Lib.hid (fun (j : Nat) (hj : j < t.els.length) (K : Int) => @step_ok t.els T st hI hc j hj K)
  have HLOW := Lib.hid (fun a b => And.intro (hI.low a b) (Int.le_trans (hI.high a b) hT))
  clear hI hc
  generalize t.els = es at *
  obtain ⟨i0, hi0, hz0, hz1, hz2⟩ := info_parts infoChg
  have HQ := Lib.hid hQ
  have HE := Lib.hid hE
  have HALL := Lib.hid (rTo_all st es)
  have hb0 := below_alloc (below_new w (.cells #[.string t.id, .string t.cur, i t.ver, i t.fr, i t.to, .slice A es.length cp, i t.least, i t.most] 36)) (.cells (sumsA Q es.length st.last) 138)
  have KT := Lib.hid ((Blk.new w 36 #[.string t.id, .string t.cur, i t.ver, i t.fr, i t.to, .slice A es.length cp, i t.least, i t.most]).alloc (.cells (sumsA Q es.length st.last) 138))
  have KS := Lib.hid (Blk.new' (w := w.alloc (.cells #[.string t.id, .string t.cur, i t.ver, i t.fr, i t.to, .slice A es.length cp, i t.least, i t.most] 36)) (g := w.heap.size + 1) (by simp) 138 (sumsA Q es.length st.last))
  have HB0 := Lib.hid hb0
  clear hb0 hQ hE
  go_enter Tryz.func84, Tryz.ntmps84
  go_upto_region 1 with (fail)
  generalize (w.alloc (.cells #[.string t.id, .string t.cur, i t.ver, i t.fr, i t.to, .slice A es.length cp, i t.least, i t.most] 36)).alloc (.cells (sumsA Q es.length st.last) 138) = w1 at *
  have hw1 := KS.out.lt
  have hwl := KT.out.lt
  generalize w.heap.size + 1 = gs at *
  go_wp2_with fail
  go_loopg [5, 6] es.length (fun gg s5 s6 wr => ∃ (kk : Nat) (A1 : Option Addr) (n1 c1 : Nat), kk ≤ es.length ∧ es.length - kk ≤ gg ∧ s5 = .slice A1 n1 c1 ∧ s6 = i kk ∧ Hid (OwnC w1.heap.size wr (.slice A1 n1 c1) (rTo st es kk)) ∧ Hid (Below w1.heap.size w1 wr))
  case atStart => exact ⟨0, none, 0, 0, Nat.zero_le _, by omega, rfl, rfl, Own.nil, Below.refl _ _⟩
  case round =>
    obtain ⟨kk, A1, n1, c1, hkk, hg, rfl, rfl, HO, BW⟩ := hrel
    have kt := KT.out.call BW.out
    have tc := kt.cell
    by_cases hlt : kk < es.length
    · have hltz : (kk : Int) < (es.length : Int) := by omega
      have HCT := Lib.hid (rTo_succ st hlt)
      have HLN := Lib.hid (rTo_len st es kk hkk)
      obtain ⟨b, off, u1, rfl, _, hu, hrow⟩ := ElemsAt.at_ HE.out hlt
      have HROW := Lib.hid hrow
      have HU := Lib.hid hu
      have HST := Lib.hid (HSTEP.out kk hlt)
      clear hrow hu
      generalize es[kk] = e at *
      go_wp2_with fail
      clear tc kt
      go_loopg [5, 7] 5 (fun gk t5 s7 wm => ∃ (K : Nat) (A3 : Option Addr) (n3 c3 : Nat), 1 ≤ K ∧ K ≤ 5 ∧ 5 - K ≤ gk ∧ t5 = .slice A3 n3 c3 ∧ s7 = i K ∧ Hid (OwnC w1.heap.size wm (.slice A3 n3 c3) (rTo st es kk ++ rK e kk st K)) ∧ Hid (Below w1.heap.size w1 wm))
      case atStart => exact ⟨1, A1, n1, c1, by omega, by omega, by omega, rfl, rfl, by show OwnC _ _ _ _; rw [show rK e kk st 1 = [] from rfl, List.append_nil]; exact HO.out, BW⟩
      case round =>
        obtain ⟨K, A3, n3, c3, hK1, hK5, hgk, rfl, rfl, HOM, BM⟩ := hrel
        clear HO BW
        by_cases hK : K ≤ 4
        · have hKz : (K : Int) ≤ 4 := by omega
          have hK5 : (K : Int) < 5 := by omega
          have hK0 : (0 : Int) ≤ (K : Int) := by omega
          have hk0 : (0 : Int) ≤ (kk : Int) := by omega
          have HBW := Lib.hid (below_call HB0.out BM.out)
          have HQM := Lib.hid (HQ.out.keep HBW.out)
          have qc := HQM.out.cell hlt (show K < 5 by omega)
          have KTM := Lib.hid (KT.out.call BM.out)
          have KSM := Lib.hid (KS.out.call BM.out)
          have tc := KTM.out.cell
          have sc := KSM.out.cell
          have HCK := Lib.hid (rK_succ e kk st hK1 hK)
          have HZ := Lib.hid (@chgR_zero e kk st K)
          have HYES := Lib.hid (@chgR_yes e kk st K)
          have HNO := Lib.hid (@chgR_no e kk st K)
          have HLK := Lib.hid (rK_len e kk st K)
          obtain ⟨hq0, hq1⟩ := HLOW.out kk K
          generalize hqv : st.q kk K = qv at *
          clear hqv
          by_cases hq : qv = 0
          · subst hq
            have HF : Hid (rK e kk st (K + 1) = rK e kk st K) := by
              show _ = _
              rw [HCK.out, HZ.out rfl, List.append_nil]
            clear HCK HYES HNO HZ
            go_wp2_with fail
            go_roundg (5 - (K + 1))
            case measure => omega
            case rel => exact ⟨K + 1, A3, n3, c3, by omega, by omega, by omega, rfl, by go_num, by rw [HF.out]; exact HOM, BM⟩
          · have hqb : (qv == 0) = false := beq_eq_false_iff_ne.2 hq
            have HNZ := Lib.hid hq
            clear hq
            obtain ⟨l0, l1, l2, l3, l4, l5, l6, l7, l8, l9, l10, l11⟩ := HROW.out wr (Kept.of HBW.out)
            have HCO := Lib.hid (fun W hb => rcomp e u1 K W (HU.out.call hb))
            have hQQ : ∃ qq, chgR e kk st K = [⟨K, (compR e K).price, (compR e K).tax, qq⟩] ∧ (((K : Int) ≠ 1 ∧ lR st.last K = kk ∧ qq = (qv + (compR e K).step - 1) / (compR e K).step * (compR e K).step) ∨ (¬ ((K : Int) ≠ 1 ∧ lR st.last K = kk) ∧ qq = qv)) := by
              by_cases hr : (K : Int) ≠ 1 ∧ lR st.last K = kk
              · exact ⟨_, HYES.out HNZ.out hr, .inl ⟨hr.1, hr.2, rfl⟩⟩
              · exact ⟨_, HNO.out HNZ.out hr, .inr ⟨hr, rfl⟩⟩
            obtain ⟨qq, hqf, hqc⟩ := hQQ
            have HF : Hid (rK e kk st (K + 1) = rK e kk st K ++ [⟨K, (compR e K).price, (compR e K).tax, qq⟩]) := by
              show _ = _
              rw [HCK.out, hqf]
            have HQC := Lib.hid hqc
            have HSS := Lib.hid (HST.out K)
            clear hqf hqc HCK HYES HNO HZ
            go_wp2_with fail
            refine (HCO.out _ HBW.out).mono ?_
            rintro e1 w2 ⟨rfl, hb2⟩
            generalize compR e K = y at *
            obtain ⟨y0, y1, y2, y3⟩ := y
            simp only at *
            have HB2 := Lib.hid (below_alloc (below_call BM.out hb2) (.cells #[i y0, i y1, i y2, i y3] 82))
            have hs2 := (KSM.out.call hb2).alloc (.cells #[i y0, i y1, i y2, i y3] 82)
            have HOB := Lib.hid (Own.call HOM.out (below_alloc hb2 (.cells #[i y0, i y1, i y2, i y3] 82)))
            have hy2 := Blk.new w2 82 #[i y0, i y1, i y2, i y3]
            clear hb2 l0 l1 l2 l3 l4 l5 l6 l7 l8 l9 l10 l11 qc tc sc
            have sc := sums_last hs2 K hK
            have yc := hy2.cell
            have HY2 := Lib.hid hy2
            clear hs2 hy2
            rcases HQC.out with ⟨h1, h2, h3⟩ | ⟨h1, h2⟩
            · obtain ⟨t1, t2⟩ := HSS.out ⟨h1, h2⟩
              have hb1 : ((K : Int) != 1) = true := bne_iff_ne.2 h1
              have hb2 : (lR st.last K == (kk : Int)) = true := beq_iff_eq.2 h2
              obtain ⟨u1, u2, u3, u4⟩ := up_bds (n := qv) (s := y2) (by have := HNZ.out; omega) t1
              have w1' : IntKind.i64.wrap (qv + y2) = qv + y2 := IntWalk.i64_in _ (by omega)
              have w2' : IntKind.i64.wrap (qv + y2 - 1) = qv + y2 - 1 := IntWalk.i64_in _ (by omega)
              have w3' : IntKind.i64.wrap ((qv + y2 - 1) / y2 * y2) = (qv + y2 - 1) / y2 * y2 := IntWalk.i64_in _ (by omega)
              have w4' : (qv + y2 - 1).tdiv y2 = (qv + y2 - 1) / y2 := Int.tdiv_eq_ediv_of_nonneg (by omega)
              have w5' : IntKind.i64.wrap ((qv + y2 - 1) / y2) = (qv + y2 - 1) / y2 := IntWalk.i64_in _ (by omega)
              have HQ3 := Lib.hid h3
              clear h1 h2 h3 u1 u2 u3 u4 HSS HQC
              go_upto_region 12 with (fail)
              go_quiet (fail)
              clear w1' w2' w3' w4' w5'
              have hqe := HQ3.out.symm
              generalize (qv + y2 - 1) / y2 * y2 = qz at *
              subst hqe
              have HB4 : Hid (Below w1.heap.size w1 (((w2.alloc (.cells #[i y0, i y1, i y2, i y3] 82)).alloc (.cells #[i K, i y1, i y3, i qz] 145)).drewN nq)) := by
                show Below _ _ _
                exact below_drewN' (below_alloc HB2.out _) _
              have HO4 : Hid (OwnC w1.heap.size (((w2.alloc (.cells #[i y0, i y1, i y2, i y3] 82)).alloc (.cells #[i K, i y1, i y3, i qz] 145)).drewN nq) (.slice A3 n3 c3) (rTo st es kk ++ rK e kk st K)) := by
                show OwnC _ _ _ _
                exact Own.call HOB.out (below_drewN' (below_new _ _) _)
              have HLEN : Hid ((rTo st es kk ++ rK e kk st K).length ≤ 16777216) := by
                show _ ≤ _
                rw [List.length_append]
                have := HLN.out
                have := HLK.out
                omega
              go_wp2_with (at_builtin; refine wpList_grow rfl (.tmp 58) (.tmp 66) 97 rfl i0 _ 32 Tryz.underlying97 hi0 hz0 hz1 hz2 rfl (by omega) rfl HO4.out (w2.heap.size + 1) ⟨K, y1, y3, qz⟩ _ 145 rfl ((Blk.new' (by simp) _ _).drewN nq) rfl rfl (one_chg0 ⟨K, y1, y3, qz⟩) HLEN.out (by omega) HB4.out.size ?_)
              rintro v' w5 hown5 - hbel5 ⟨A4, n4, c4, rfl⟩
              have HO5 : Hid (OwnC w1.heap.size w5 (.slice A4 n4 c4) (rTo st es kk ++ rK e kk st (K + 1))) := by
                show OwnC _ _ _ _
                rw [HF.out]
                exact hown5
              have HB5 : Hid (Below w1.heap.size w1 w5) := HB4.out.trans hbel5
              clear hown5 hbel5
              go_wp2_with fail
              go_roundg (5 - (K + 1))
              case measure => omega
              case rel => exact ⟨K + 1, A4, n4, c4, by omega, by omega, by omega, rfl, by go_num, HO5, HB5⟩
            · have HQ3 := Lib.hid h2
              have hcase : ((K : Int) == 1) = true ∨ ((K : Int) != 1) = true ∧ (lR st.last K == (kk : Int)) = false := by
                by_cases hk : (K : Int) = 1
                · exact .inl (beq_iff_eq.2 hk)
                · exact .inr ⟨bne_iff_ne.2 hk, beq_eq_false_iff_ne.2 (fun hx => h1 ⟨hk, hx⟩)⟩
              clear h1 HSS HQC
              subst h2
              rcases hcase with hk | ⟨hk, hk2⟩
              · have hk3 : ((K : Int) != 1) = false := by rw [bne, hk]; rfl
                have HB4 : Hid (Below w1.heap.size w1 ((w2.alloc (.cells #[i y0, i y1, i y2, i y3] 82)).alloc (.cells #[i K, i y1, i y3, i qq] 145))) := by
                  show Below _ _ _
                  exact below_alloc HB2.out _
                have HO4 : Hid (OwnC w1.heap.size ((w2.alloc (.cells #[i y0, i y1, i y2, i y3] 82)).alloc (.cells #[i K, i y1, i y3, i qq] 145)) (.slice A3 n3 c3) (rTo st es kk ++ rK e kk st K)) := by
                  show OwnC _ _ _ _
                  exact Own.call HOB.out (below_new _ _)
                have HLEN : Hid ((rTo st es kk ++ rK e kk st K).length ≤ 16777216) := by
                  show _ ≤ _
                  rw [List.length_append]
                  have := HLN.out
                  have := HLK.out
                  omega
                go_wp2_with (at_builtin; refine wpList_grow rfl (.tmp 58) (.tmp 66) 97 rfl i0 _ 32 Tryz.underlying97 hi0 hz0 hz1 hz2 rfl (by omega) rfl HO4.out (w2.heap.size + 1) ⟨K, y1, y3, qq⟩ _ 145 rfl (Blk.new' (by simp) _ _) rfl rfl (one_chg0 ⟨K, y1, y3, qq⟩) HLEN.out (by omega) HB4.out.size ?_)
                rintro v' w5 hown5 - hbel5 ⟨A4, n4, c4, rfl⟩
                have HO5 : Hid (OwnC w1.heap.size w5 (.slice A4 n4 c4) (rTo st es kk ++ rK e kk st (K + 1))) := by
                  show OwnC _ _ _ _
                  rw [HF.out]
                  exact hown5
                have HB5 : Hid (Below w1.heap.size w1 w5) := HB4.out.trans hbel5
                clear hown5 hbel5
                go_wp2_with fail
                go_roundg (5 - (K + 1))
                case measure => omega
                case rel => exact ⟨K + 1, A4, n4, c4, by omega, by omega, by omega, rfl, by go_num, HO5, HB5⟩
              · skip
                have HB4 : Hid (Below w1.heap.size w1 ((w2.alloc (.cells #[i y0, i y1, i y2, i y3] 82)).alloc (.cells #[i K, i y1, i y3, i qq] 145))) := by
                  show Below _ _ _
                  exact below_alloc HB2.out _
                have HO4 : Hid (OwnC w1.heap.size ((w2.alloc (.cells #[i y0, i y1, i y2, i y3] 82)).alloc (.cells #[i K, i y1, i y3, i qq] 145)) (.slice A3 n3 c3) (rTo st es kk ++ rK e kk st K)) := by
                  show OwnC _ _ _ _
                  exact Own.call HOB.out (below_new _ _)
                have HLEN : Hid ((rTo st es kk ++ rK e kk st K).length ≤ 16777216) := by
                  show _ ≤ _
                  rw [List.length_append]
                  have := HLN.out
                  have := HLK.out
                  omega
                go_wp2_with (at_builtin; refine wpList_grow rfl (.tmp 58) (.tmp 66) 97 rfl i0 _ 32 Tryz.underlying97 hi0 hz0 hz1 hz2 rfl (by omega) rfl HO4.out (w2.heap.size + 1) ⟨K, y1, y3, qq⟩ _ 145 rfl (Blk.new' (by simp) _ _) rfl rfl (one_chg0 ⟨K, y1, y3, qq⟩) HLEN.out (by omega) HB4.out.size ?_)
                rintro v' w5 hown5 - hbel5 ⟨A4, n4, c4, rfl⟩
                have HO5 : Hid (OwnC w1.heap.size w5 (.slice A4 n4 c4) (rTo st es kk ++ rK e kk st (K + 1))) := by
                  show OwnC _ _ _ _
                  rw [HF.out]
                  exact hown5
                have HB5 : Hid (Below w1.heap.size w1 w5) := HB4.out.trans hbel5
                clear hown5 hbel5
                go_wp2_with fail
                go_roundg (5 - (K + 1))
                case measure => omega
                case rel => exact ⟨K + 1, A4, n4, c4, by omega, by omega, by omega, rfl, by go_num, HO5, HB5⟩
        · have hKz : ¬ (K : Int) ≤ 4 := by omega
          have hke : K = 5 := by omega
          subst hke
          have HF : Hid (rTo st es kk ++ rK e kk st 5 = rTo st es (kk + 1)) := HCT.out.symm
          rw [HF.out] at HOM
          go_wp2_with fail
          go_roundg (es.length - (kk + 1))
          case measure => omega
          case rel => exact ⟨kk + 1, A3, n3, c3, by omega, by omega, rfl, by go_num, HOM, BM⟩
    · have hltz : ¬ (kk : Int) < (es.length : Int) := by omega
      have hke : kk = es.length := by omega
      subst hke
      rw [HALL.out] at HO
      go_wp2_with fail
      go_ret
      exact ⟨_, rfl, HO.out.at_ (by omega), below_call HB0.out BW.out⟩
end PriW
end Go.Proofs.YtpmcdjpfolgpiaaGreatDoor

namespace Go.Proofs.YtpmcdjpfolgpiaaGreatDoor
namespace PriW
set_option linter.unusedSimpArgs false
set_option linter.unusedVariables false
open Go.RowKit CalW TarW Prc

def RtPost (n : Int) (w : World) (e : Ending) (w' : World) : Prop := e = .returned (i n) ∧ Below w.heap.size w w'
theorem RtPost.mk {n m : Int} {w w' : World} (h : n = m) (hb : Below w.heap.size w w') : RtPost n w (.returned (i m)) w' := ⟨by rw [h], hb⟩

set_option maxRecDepth 100000 in
set_option maxHeartbeats 1000000 in
theorem rright (t : Trf) (u : Value) (c : Cx) (us : List Prc.Use) (v : Value) (w : World) (hE : ElemsAt w u t.els) (hid : t.id.size ≤ maxLen) (hcur : t.cur.size ≤ maxLen) (hU : UsesAt w v us) :
    Calls Tryz.prog 82 #[trfV t u, zone c.z c.s, i c.start, v] w (RtPost (runE t c us) w) := by
  obtain ⟨A, cp, rfl, h1, h2⟩ := SliceAt.form hU
  obtain ⟨A1, cp1, rfl, h3, h4⟩ := SliceAt.form hE
  unfold maxLen at h2 h4
  have HU := Lib.hid hU
  have HRE := Lib.hid (runE_re t c us)
  have hb0 := below_alloc (below_new w (.cells (trA t (.slice A1 t.els.length cp1)) 36)) (.cells #[i c.z, .bool c.s] 38)
  have HV := Lib.hid (rvalid_ t _ _ (hE.call hb0) hid hcur)
  have kz := Blk.new' (w := w.alloc (.cells (trA t (.slice A1 t.els.length cp1)) 36)) (g := w.heap.size + 1) (by simp) 38 #[i c.z, .bool c.s]
  have HB0 := Lib.hid hb0
  have KZ := Lib.hid kz
  clear hE hU hb0 kz hid hcur
  go_enter Tryz.func82, Tryz.ntmps82
  go_wp2_with fail
  refine HV.out.mono ?_
  rintro e w1 ⟨rfl, hb1⟩
  have HB1 := Lib.hid (below_call HB0.out hb1)
  have kz := KZ.out.call hb1
  have hl1 := HB0.out.size
  have kl := kz.lt
  clear KZ HB0 HV hb1
  generalize validT t = V at *
  generalize runE t c us = E at *
  by_cases hV : V = 0
  · subst hV
    have HRB := Lib.hid (HRE.out.rb rfl)
    have HRC := Lib.hid (HRE.out.rc rfl)
    have HRD := Lib.hid (HRE.out.rd rfl)
    have HREE := Lib.hid (HRE.out.re rfl)
    have HRF := Lib.hid (HRE.out.rf rfl)
    clear HRE
    have zc := kz.cell
    by_cases hz : -840 ≤ c.z ∧ c.z ≤ 840
    · have HZN := Lib.hid (fun W => rzone_yes c.z c.s W hz.1 hz.2)
      obtain ⟨hz1, hz2⟩ := hz
      go_wp2_with fail
      refine (HZN.out _).mono ?_
      rintro e w2 ⟨rfl, hb2⟩
      have HB2 := Lib.hid (below_call HB1.out hb2)
      clear zc kz kl HB1 hb2 HZN HRB
      by_cases hn : 20160 < us.length
      · have HF := Lib.hid (HRC.out (by omega) (by omega) hn)
        have hnz : (20160 : Int) < (us.length : Int) := by omega
        clear HRC HRD HREE HRF
        go_wp2_with fail
        go_ret
        exact RtPost.mk HF.out HB2.out
      · have hnz : ¬ (20160 : Int) < (us.length : Int) := by omega
        by_cases hs : 0 ≤ c.start ∧ c.start ≤ 268435456
        · have HRG := Lib.hid (fun W => right_yes c.start W hs.1 hs.2)
          by_cases hs3 : 268435456 < c.start + (us.length : Int)
          · have HF := Lib.hid (HRD.out (by omega) (by omega) (by omega) (by omega))
            obtain ⟨hs1, hs2⟩ := hs
            clear HRC HRD HREE HRF
            go_wp2_with ((go_at_call 109; refine (HRG.out _).mono ?_; rintro e w' ⟨rfl, rfl⟩))
            go_ret
            exact RtPost.mk HF.out HB2.out
          · have HF1 := Lib.hid (HREE.out (by omega) (by omega) (by omega) (by omega) (by omega))
            have HF0 := Lib.hid (HRF.out (by omega) (by omega) (by omega) (by omega) (by omega))
            obtain ⟨hs1, hs2⟩ := hs
            clear HRC HRD HREE HRF
            go_wp2_with ((go_at_call 109; refine (HRG.out _).mono ?_; rintro e w' ⟨rfl, rfl⟩))
            go_loopg [10] us.length (fun gg s10 wr => ∃ kk : Nat, kk ≤ us.length ∧ us.length - kk ≤ gg ∧ s10 = i kk ∧ Hid (wr = w2) ∧ Hid (us.any useBad = (us.drop kk).any useBad))
            case atStart => exact ⟨0, Nat.zero_le _, by omega, rfl, rfl, rfl⟩
            case round =>
              obtain ⟨kk, hkk, hg, rfl, HW, HA⟩ := hrel
              have hw := HW.out
              clear HW
              subst hw
              by_cases hlt : kk < us.length
              · have hltz : (kk : Int) < (us.length : Int) := by omega
                obtain ⟨b, off, rfl, _, _, hrow⟩ := UsesAt.at_ HU.out hlt
                obtain ⟨l0, l1⟩ := hrow wr (Kept.of HB2.out)
                clear hrow
                have HNO := Lib.hid (useAny_no hlt HA.out)
                have HYES := Lib.hid (@useAny_yes us kk hlt)
                unfold useBad at HNO HYES
                generalize us[kk] = y at *
                obtain ⟨y, id⟩ := y
                simp only at *
                by_cases hy : 0 ≤ y ∧ y ≤ 1099511627776
                · have HF := Lib.hid (HNO.out (decide_eq_false (by omega)))
                  have HIN := Lib.hid (fun W => MonW.rin_yes y 0 1099511627776 hy W)
                  clear HNO HYES hy
                  go_wp2_with fail
                  refine (HIN.out _).mono ?_
                  rintro e w3 ⟨rfl, rfl⟩
                  clear HIN
                  go_wp2_with fail
                  go_roundg (us.length - (kk + 1))
                  case measure => omega
                  case rel => exact ⟨kk + 1, by omega, by omega, by go_num, rfl, HF⟩
                · have HF := Lib.hid (HF1.out (HYES.out (decide_eq_true (by omega))))
                  have HIN := Lib.hid (fun W => MonW.rin_no y 0 1099511627776 hy W)
                  clear HNO HYES HF0 HF1 hy
                  go_wp2_with fail
                  refine (HIN.out _).mono ?_
                  rintro e w3 ⟨rfl, rfl⟩
                  clear HIN
                  go_wp2_with fail
                  go_ret
                  exact RtPost.mk HF.out HB2.out
              · have hltz : ¬ (kk : Int) < (us.length : Int) := by omega
                have HF := Lib.hid (HF0.out (any_none (by omega) HA.out))
                clear HF0 HF1
                go_wp2_with fail
                go_ret
                exact RtPost.mk HF.out HB2.out
        · have HRG := Lib.hid (fun W => right_no c.start W hs)
          have HF := Lib.hid (HRD.out (by omega) (by omega) (by omega) (by omega))
          clear HRC HRD HREE HRF hs
          go_wp2_with ((go_at_call 109; refine (HRG.out _).mono ?_; rintro e w' ⟨rfl, rfl⟩))
          go_ret
          exact RtPost.mk HF.out HB2.out
    · have HZN := Lib.hid (fun W => rzone_no c.z c.s W hz)
      have HF := Lib.hid (HRB.out (by omega))
      clear HRB HRC HRD HREE HRF hz
      go_wp2_with fail
      refine (HZN.out _).mono ?_
      rintro e w2 ⟨rfl, hb2⟩
      have HB2 := Lib.hid (below_call HB1.out hb2)
      go_wp2_with fail
      go_ret
      exact RtPost.mk HF.out HB2.out
  · have HF := Lib.hid (HRE.out.ra hV)
    clear HRE
    go_wp2_with fail
    go_ret
    exact RtPost.mk HF.out HB1.out
end PriW
end Go.Proofs.YtpmcdjpfolgpiaaGreatDoor

namespace Go.Proofs.YtpmcdjpfolgpiaaGreatDoor
namespace PriW
set_option linter.unusedSimpArgs false
set_option linter.unusedVariables false
open Go.RowKit CalW TarW Prc

theorem infoRow : (Tryz.prog.info? 136).map (fun i => (i.zero, i.size, i.bytes)) = some (some (.agg #[.int .i64 0, .int .i64 0, .int .i64 0, .int .i64 0, .int .i64 0]), 5, 40) := by kernel_rfl
theorem made_zero (n : Nat) : madeCells (#[.int .i64 0, .int .i64 0, .int .i64 0, .int .i64 0, .int .i64 0] : Array Value) (n * 5) = qcells n (fun _ _ => 0) := by
  unfold madeCells qcells
  refine Array.ext (by simp) (fun o h1 h2 => ?_)
  have h5 : o % 5 < 5 := Nat.mod_lt _ (by decide)
  simp only [Array.getElem_map, Array.getElem_range, Array.getElem_ofFn]
  have : o % 5 = 0 ∨ o % 5 = 1 ∨ o % 5 = 2 ∨ o % 5 = 3 ∨ o % 5 = 4 := by omega
  rcases this with h | h | h | h | h <;> simp [h]

/-- What stands in memory in a round of the reference's Run. -/
structure RAt (w0 w : World) (t : Trf) (u : Value) (c : Cx) (st : St) (Q gs gm : Nat) (a b en po : Int) : Prop where
  q : QAt w Q t.els.length st.q
  s : Blk w gs 138 (sumsA Q t.els.length st.last)
  m : Blk w gm 140 #[i a, i b, i en, i po]
  t : Blk w w0.heap.size 36 (trA t u)
  z : Blk w (w0.heap.size + 1) 38 #[i c.z, .bool c.s]
  b : Below w0.heap.size w0 w
structure RN (w0 : World) (Q gs gm : Nat) : Prop where
  q : w0.heap.size + 2 ≤ Q
  s : w0.heap.size + 2 ≤ gs
  m : w0.heap.size + 2 ≤ gm
  qs : Q ≠ gs
  qm : Q ≠ gm
  sm : gs ≠ gm
section
variable {w0 w w' : World} {t : Trf} {u : Value} {c : Cx} {st st' : St} {Q gs gm : Nat} {a b en po : Int}
theorem RAt.drew (h : RAt w0 w t u c st Q gs gm a b en po) : RAt w0 w.drew t u c st Q gs gm a b en po := ⟨h.q.drew, h.s.drew, h.m.drew, h.t.drew, h.z.drew, Below.drew h.b⟩
/-- Behind a call of add, and the sums stored. -/
theorem RAt.add (n : RN w0 Q gs gm) (h : RAt w0 w t u c st Q gs gm a b en po) (hq : QAt w' Q t.els.length st'.q) (hk : Kp (only Q) w w') :
    RAt w0 ((((((w'.setCell ⟨gs, 0, none⟩ (.slice (some ⟨Q, 0, none⟩) t.els.length t.els.length)).setCell ⟨gs, 1, none⟩ (i (lR st'.last 0))).setCell ⟨gs, 2, none⟩ (i (lR st'.last 1))).setCell ⟨gs, 3, none⟩ (i (lR st'.last 2))).setCell ⟨gs, 4, none⟩ (i (lR st'.last 3))).setCell ⟨gs, 5, none⟩ (i (lR st'.last 4))) t u c st' Q gs gm a b en po := by
  have e0 : w0.heap.size ≠ Q := by have := n.q; omega
  have e1 : w0.heap.size + 1 ≠ Q := by have := n.q; omega
  have e2 : w0.heap.size ≠ gs := by have := n.s; omega
  have e3 : w0.heap.size + 1 ≠ gs := by have := n.s; omega
  refine ⟨blk6 hq n.qs _ _ _ _ _ _, ?_, blk6 (hk.blk h.m (Ne.symm n.qm)) (Ne.symm n.sm) _ _ _ _ _ _, blk6 (hk.blk h.t e0) e2 _ _ _ _ _ _, blk6 (hk.blk h.z e1) e3 _ _ _ _ _ _, below6 (hk.below h.b h.b.size ?_) ?_ _ _ _ _ _ _⟩
  · exact ((((((hk.blk h.s (Ne.symm n.qs)).set_ 0 (.slice (some ⟨Q, 0, none⟩) t.els.length t.els.length)).set_ 1 (i (lR st'.last 0))).set_ 2 (i (lR st'.last 1))).set_ 3 (i (lR st'.last 2))).set_ 4 (i (lR st'.last 3))).set_ 5 (i (lR st'.last 4))
  · intro k hx
    have : k = Q := hx
    have := n.q
    omega
  · have := n.s
    omega
theorem RAt.setm (n : RN w0 Q gs gm) (h : RAt w0 w t u c st Q gs gm a b en po) (o : Nat) (v : Int) {a2 b2 en2 po2 : Int} (he : (#[i a, i b, i en, i po] : Array Value).setIfInBounds o (i v) = #[i a2, i b2, i en2, i po2]) :
    RAt w0 (w.setCell ⟨gm, o, none⟩ (i v)) t u c st Q gs gm a2 b2 en2 po2 := by
  have e0 : w0.heap.size ≠ gm := by have := n.m; omega
  have e1 : w0.heap.size + 1 ≠ gm := by have := n.m; omega
  refine ⟨Blk.far h.q n.qm _, h.s.far n.sm _, ?_, h.t.far e0 _, h.z.far e1 _, h.b.setCell (p := ⟨gm, o, none⟩) (by have := n.m; simp only; omega) _⟩
  have := h.m.set_ o (i v)
  rw [he] at this
  exact this
end
theorem pow0_nil {us : List Prc.Use} (h : us.length = 0) : pow0 us = 0 := by
  have := List.eq_nil_of_length_eq_zero h
  subst this
  rfl

theorem runE_zero {t : Trf} {c : Cx} {us : List Prc.Use} (h : runE t c us = 0) : validT t = 0 ∧ -840 ≤ c.z ∧ c.z ≤ 840 ∧ us.length ≤ 20160 ∧ 0 ≤ c.start ∧ c.start + us.length ≤ 268435456 ∧ us.any useBad = false := by
  unfold runE at h
  by_cases h1 : validT t ≠ 0
  · rw [if_pos h1] at h; exact absurd h h1
  rw [if_neg h1] at h
  by_cases h2 : c.z < -840 ∨ 840 < c.z
  · rw [if_pos h2] at h; omega
  rw [if_neg h2] at h
  by_cases h3 : 20160 < us.length
  · rw [if_pos h3] at h; omega
  rw [if_neg h3] at h
  by_cases h4 : c.start < 0 ∨ 268435456 < c.start ∨ 268435456 < c.start + us.length
  · rw [if_pos h4] at h; omega
  rw [if_neg h4] at h
  by_cases h5 : us.any useBad = true
  · rw [if_pos h5] at h; omega
  exact ⟨by omega, by omega, by omega, by omega, by omega, by omega, by simpa using h5⟩
theorem QAt.made {w : World} {base Q n : Nat} (h : w.ownsRow base 136 5 (.slice (some ⟨Q, 0, none⟩) n n) n (madeCells (#[.int .i64 0, .int .i64 0, .int .i64 0, .int .i64 0, .int .i64 0] : Array Value) (n * 5)).toList) : QAt w Q n (fun _ _ => 0) := by
  rcases h.2 with ⟨h0, _⟩ | ⟨g, cap, cur, e, _, hg, _, _, hs, ht⟩
  · cases h0
  · injection e with e1 e2 e3
    injection e1 with e1
    injection e1 with e1
    subst e1
    subst e3
    have : cur = qcells n (fun _ _ => 0) := by
      rw [← made_zero]
      apply Array.ext'
      rw [← ht, List.take_of_length_le (by simp [hs])]
    rw [this] at hg
    exact hg

set_option maxRecDepth 100000 in
set_option maxHeartbeats 1000000 in
theorem rrun (t : Trf) (u : Value) (c : Cx) (us : List Prc.Use) (v : Value) (w : World) (hE : ElemsAt w u t.els) (hid : t.id.size ≤ maxLen) (hcur : t.cur.size ≤ maxLen) (hU : UsesAt w v us) :
    Calls Tryz.prog 51 #[trfV t u, zone c.z c.s, i c.start, v] w (RunPost t c us w) := by
  obtain ⟨A, cp, rfl, h1, h2⟩ := SliceAt.form hU
  obtain ⟨A1, cp1, rfl, h3, h4⟩ := SliceAt.form hE
  unfold maxLen at h2 h4
  have HE := Lib.hid hE
  have HU := Lib.hid hU
  have hb0 := below_alloc (below_new w (.cells (trA t (.slice A1 t.els.length cp1)) 36)) (.cells #[i c.z, .bool c.s] 38)
  have HR := Lib.hid (rright t _ c us _ _ (hE.call hb0) hid hcur (hU.call hb0))
  have kt := (Blk.new w 36 (trA t (.slice A1 t.els.length cp1))).alloc (.cells #[i c.z, .bool c.s] 38)
  have kz := Blk.new' (w := w.alloc (.cells (trA t (.slice A1 t.els.length cp1)) 36)) (g := w.heap.size + 1) (by simp) 38 #[i c.z, .bool c.s]
  have HB0 := Lib.hid hb0
  have KT := Lib.hid kt
  have KZ := Lib.hid kz
  have HRE := Lib.hid (runE_re t c us)
  clear hE hU hb0 kt kz hid hcur
  go_enter Tryz.func51, Tryz.ntmps51
  go_wp2_with fail
  refine HR.out.mono ?_
  rintro e w1 ⟨rfl, hb1⟩
  have HB1 := Lib.hid (below_call HB0.out hb1)
  have KT1 := Lib.hid (KT.out.call hb1)
  have KZ1 := Lib.hid (KZ.out.call hb1)
  clear HB0 KT KZ HR hb1
  by_cases hR : runE t c us = 0
  · have HF := Lib.hid hR
    rw [hR]
    clear hR
    have tc := KT1.out.cell
    obtain ⟨z1, z2, z3, z4, z5, z6, z7⟩ := runE_zero HF.out
    obtain ⟨i0, hi0, hz0, hz1, hz2⟩ := info_parts infoRow
    have hn16 := (valid_parts z1).1
    have HVP := Lib.hid (valid_parts z1).2
    have HUS := Lib.hid (any_uses z7)
    have hsz := HB1.out.size
    have hkz := KZ1.out.lt
    clear z1 z2 z3 z7 HRE
    go_upto_region 4 with (fail)
    go_wp2_with (at_make; refine wpList_make_full _ rfl _ _ 135 rfl w1.heap.size 136 i0 _ 5 Tryz.underlying135 hi0 hz0 hz1 .i64 .i64 _ _ t.els.length rfl rfl rfl rfl (by rw [hz2]; omega) (by unfold maxLen; omega) (Nat.le_refl _) ?_)
    intro w2 hown2 hgr2
    have HQ2 : Hid (QAt w2 w1.heap.size t.els.length (fun _ _ => 0)) := QAt.made hown2
    have HB2 : Hid (Below w1.heap.size w1 w2) := (Below.refl _ _).grown hgr2 (Nat.le_refl _) (fun k hk => by cases hk)
    clear hown2 hgr2
    go_upto_region 6 with (fail)
    have HRAT : Hid (RAt w ((w2.alloc (.cells #[.slice (some ⟨w1.heap.size, 0, none⟩) t.els.length t.els.length, i (-1), i (-1), i (-1), i (-1), i (-1)] 138)).alloc (.cells #[i c.start, i 0, i 0, i 0] 140)) t (.slice A1 t.els.length cp1) c st0 w1.heap.size w2.heap.size (w2.heap.size + 1) c.start 0 0 0) :=
      ⟨(Blk.alloc HQ2.out _).alloc _, (Blk.new w2 _ _).alloc _, Blk.new' (by simp) _ _, ((KT1.out.call HB2.out).alloc _).alloc _, ((KZ1.out.call HB2.out).alloc _).alloc _, below_alloc (below_alloc (below_call HB1.out HB2.out) _) _⟩
    have HRN : Hid (RN w w1.heap.size w2.heap.size (w2.heap.size + 1)) := by
      have hq := HQ2.out.lt
      refine ⟨?_, ?_, ?_, ?_, ?_, ?_⟩ <;> omega
    have hgl : w1.heap.size < w2.heap.size := HQ2.out.lt
    clear tc KT1 KZ1 HB1 HB2 HQ2 hkz hsz
    generalize (w2.alloc (.cells #[.slice (some ⟨w1.heap.size, 0, none⟩) t.els.length t.els.length, i (-1), i (-1), i (-1), i (-1), i (-1)] 138)).alloc (.cells #[i c.start, i 0, i 0, i 0] 140) = w3 at *
    generalize w2.heap.size + 1 = gm at *
    generalize w2.heap.size = gs at *
    generalize w1.heap.size = Q at *
    clear hgl
    have mc := HRAT.out.m.cell
    have mf := HRAT.out.m.frozen
    go_upto_if 32 with (fail)
    go_cut [] (fun wc => Hid (RAt w wc t (.slice A1 t.els.length cp1) c st0 Q gs gm c.start 0 0 (pow0 us)))
    case first =>
      rcases Nat.eq_zero_or_pos us.length with hz | hz
      · have hp := pow0_nil hz
        have HP : Hid (RAt w w3 t (.slice A1 t.els.length cp1) c st0 Q gs gm c.start 0 0 (pow0 us)) := by
          show RAt _ _ _ _ _ _ _ _ _ _ _ _ _
          rw [hp]; exact HRAT.out
        have hzz : ¬ (0 : Int) < (us.length : Int) := by omega
        clear hp hz
        go_wp2_with fail
        go_meet
        exact HP
      · have HP := Lib.hid (pow0_pos hz)
        obtain ⟨b, off, rfl, _, _, hrow⟩ := UsesAt.at_ HU.out hz
        obtain ⟨l0, l1⟩ := hrow w3 (Kept.of HRAT.out.b)
        simp only [Nat.zero_mul, Nat.add_zero] at l0 l1
        have HP2 : Hid (RAt w (w3.setCell ⟨gm, 3, none⟩ (i us[0].en)) t (.slice A1 t.els.length cp1) c st0 Q gs gm c.start 0 0 (pow0 us)) := by
          show RAt _ _ _ _ _ _ _ _ _ _ _ _ _
          rw [HP.out]
          exact RAt.setm HRN.out HRAT.out 3 us[0].en rfl
        clear hrow HP
        have hzz : (0 : Int) < (us.length : Int) := by omega
        go_wp2_with fail
        go_meet
        exact HP2
    case rest =>
      obtain ⟨w4, rfl⟩ : ∃ w4 : World, w4 = wc := ⟨_, rfl⟩
      have HR4 := Lib.hid hcut.out
      have HADD := Lib.hid (fun (W : World) (st : St) (T : Int) (k : Nat) (m en po n : Int) (hQ : QAt W Q t.els.length st.q) (hb : Below w.heap.size w W) (hI : Inv t.els T st) (hT : T + n ≤ 4611686018427387904) (hk : k = 1 ∨ k = 2 ∨ k = 3 ∨ k = 4) =>
        radd Q t _ c st T k m en po n W hQ (HE.out.call hb) hI hT hk)
      have HINV := Lib.hid (runTo_inv t.els c us HUS.out)
      have HEN := Lib.hid (enTo_bd HUS.out)
      have HRS := Lib.hid (fun k => @runTo_succ t.els c us k)
      have HES := Lib.hid (fun k => @enTo_succ us k)
      have HA0 := Lib.hid (HADD.out w4 st0 0 1 0 0 (pow0 us) 1 HR4.out.q HR4.out.b (inv0 _) (by omega) (.inl rfl))
      rw [Int.add_zero] at HA0
      have sc := HR4.out.s.cell
      have tc := HR4.out.t.cell
      have zc := HR4.out.z.cell
      have mc := HR4.out.m.cell
      clear hcut mf HRAT
      go_wp2_with fail
      refine HA0.out.mono ?_
      rintro e w5 ⟨rfl, hq5, hk5⟩
      have HR5 := Lib.hid (HR4.out.add (st' := runTo t.els c us 0) HRN.out hq5 hk5)
      have sf := (hk5.blk HR4.out.s (Ne.symm HRN.out.qs)).frozen
      have sc5 := (hk5.blk HR4.out.s (Ne.symm HRN.out.qs)).cell
      clear hq5 hk5 sc tc zc mc HA0
      have hrt : addS t.els (c.P 0 0 (pow0 us)) 1 1 st0 = runTo t.els c us 0 := rfl
      have e1 : (addS t.els (c.P 0 0 (pow0 us)) ((1 : Nat) : Int) 1 st0) = runTo t.els c us 0 := rfl
      rw [e1]
      clear hrt e1
      go_wp2_with fail
      clear sc5 sf
      have hgl3 := HRN.out.sm
      go_loopg [13] us.length (fun gg s13 wr => ∃ (kk : Nat) (a b po : Int), kk ≤ us.length ∧ us.length - kk ≤ gg ∧ s13 = i kk ∧ Hid (RAt w wr t (.slice A1 t.els.length cp1) c (runTo t.els c us kk) Q gs gm a b (enTo us kk) po))
      case atStart => exact ⟨0, c.start, 0, pow0 us, Nat.zero_le _, by omega, rfl, HR5⟩
      case round =>
        obtain ⟨kk, a, b, po, hkk, hg, rfl, HRR⟩ := hrel
        clear HR5 HR4
        by_cases hlt : kk < us.length
        · have hltz : (kk : Int) < (us.length : Int) := by omega
          have hkz : (0 : Int) ≤ (kk : Int) := by omega
          obtain ⟨bu, ou, rfl, hbu, _, hrow⟩ := UsesAt.at_ HU.out hlt
          have hne1 : gm ≠ bu := by have := HRN.out.m; omega
          have hne2 : bu ≠ gm := Ne.symm hne1
          obtain ⟨l0, l1⟩ := hrow wr (Kept.of HRR.out.b)
          have HROW := Lib.hid hrow
          clear hrow
          have HR2 := Lib.hid (HRS.out kk hlt)
          have HE2 := Lib.hid (HES.out kk hlt)
          have hen := HEN.out kk (by omega)
          have HIN := Lib.hid (HINV.out kk (by omega))
          obtain ⟨y1, y2⟩ := HUS.out us[kk] (List.getElem_mem hlt)
          unfold minuteS at HR2
          generalize us[kk] = y at *
          obtain ⟨y, id⟩ := y
          simp only at *
          generalize runTo t.els c us kk = st at *
          generalize enTo us kk = en at *
          obtain ⟨stn, HSN⟩ : ∃ s, Hid (runTo t.els c us (kk + 1) = s) := ⟨_, rfl⟩
          obtain ⟨enn, HNN⟩ : ∃ s, Hid (enTo us (kk + 1) = s) := ⟨_, rfl⟩
          rw [HSN.out] at HR2
          rw [HNN.out] at HE2
          have mc := HRR.out.m.cell
          have mf := HRR.out.m.frozen
          have hwr : IntKind.i64.wrap (c.start + (kk : Int)) = c.start + kk := IntWalk.i64_in _ (by omega)
          go_upto_region 12 with (fail)
          go_region
          have HR6 : Hid (RAt w (((wr.setCell ⟨gm, 0, none⟩ (i (c.start + kk))).setCell ⟨gm, 1, none⟩ (i kk)).setCell ⟨gm, 3, none⟩ (i y)).drew t (.slice A1 t.els.length cp1) c st Q gs gm (c.start + kk) kk en y) :=
            (((HRR.out.setm HRN.out 0 (c.start + kk) rfl).setm HRN.out 1 kk rfl).setm HRN.out 3 y rfl).drew
          clear mc mf l0 l1 HRR hwr
          generalize (((wr.setCell ⟨gm, 0, none⟩ (i (c.start + kk))).setCell ⟨gm, 1, none⟩ (i kk)).setCell ⟨gm, 3, none⟩ (i y)).drew = w6 at *
          obtain ⟨lu0, lu1⟩ := HROW.out w6 (Kept.of HR6.out.b)
          have sc := HR6.out.s.cell
          have tc := HR6.out.t.cell
          have zc := HR6.out.z.cell
          have mc := HR6.out.m.cell
          have HC1 := Lib.hid (fun (W : World) (hq : QAt W Q t.els.length st.q) (hb : Below w.heap.size w W) => HADD.out W st _ 2 kk en y y hq hb HIN.out (by omega) (.inr (.inl rfl)))
          go_upto_region 13 with (fail)
          go_still_tail 9, (by kernel_rfl)
          go_wp2_with fail
          refine (HC1.out _ (Blk.drew HR6.out.q) (Below.drew HR6.out.b)).mono ?_
          rintro e w7 ⟨rfl, hq7, hk7⟩
          have HR7 := Lib.hid (HR6.out.drew.add (st' := addS t.els (c.P kk en y) ((2 : Nat) : Int) y st) HRN.out hq7 hk7)
          have sf := (hk7.blk HR6.out.drew.s (Ne.symm HRN.out.qs)).frozen
          have sc5 := (hk7.blk HR6.out.drew.s (Ne.symm HRN.out.qs)).cell
          have HI2 := Lib.hid (HIN.out.add (P := c.P kk en y) (k := ((2 : Nat) : Int)) y1)
          clear hq7 hk7 sc tc zc mc HC1 HIN HR6 lu0 lu1
          go_upto_region 14 with (fail)
          clear sc5 sf
          have HR8 := HR7
          generalize ((((((w7.setCell ⟨gs, 0, none⟩ (.slice (some ⟨Q, 0, none⟩) t.els.length t.els.length)).setCell ⟨gs, 1, none⟩ (i (lR (addS t.els (c.P kk en y) ((2 : Nat) : Int) y st).last 0))).setCell ⟨gs, 2, none⟩ (i (lR (addS t.els (c.P kk en y) ((2 : Nat) : Int) y st).last 1))).setCell ⟨gs, 3, none⟩ (i (lR (addS t.els (c.P kk en y) ((2 : Nat) : Int) y st).last 2))).setCell ⟨gs, 4, none⟩ (i (lR (addS t.els (c.P kk en y) ((2 : Nat) : Int) y st).last 3))).setCell ⟨gs, 5, none⟩ (i (lR (addS t.els (c.P kk en y) ((2 : Nat) : Int) y st).last 4))) = w8 at *
          clear HR7
          cases id with
          | true =>
            have HC2 := Lib.hid (HADD.out w8 _ _ 4 kk en y 1 HR8.out.q HR8.out.b HI2.out (by omega) (.inr (.inr (.inr rfl))))
            have HR3 : Hid (stn = addS t.els (c.P kk en y) ((4 : Nat) : Int) 1 (addS t.els (c.P kk en y) ((2 : Nat) : Int) y st)) := HR2.out
            obtain ⟨lu0, lu1⟩ := HROW.out w8 (Kept.of HR8.out.b)
            have sc := HR8.out.s.cell
            have tc := HR8.out.t.cell
            have zc := HR8.out.z.cell
            have mc := HR8.out.m.cell
            clear HI2 HR2
            generalize addS t.els (c.P kk en y) ((4 : Nat) : Int) 1 (addS t.els (c.P kk en y) ((2 : Nat) : Int) y st) = st3 at *
            generalize addS t.els (c.P kk en y) ((2 : Nat) : Int) y st = st2 at *
            go_wp2_with fail
            refine HC2.out.mono ?_
            rintro e w9 ⟨rfl, hq9, hk9⟩
            have HR9 := Lib.hid (HR8.out.add (st' := st3) HRN.out hq9 hk9)
            have sf := (hk9.blk HR8.out.s (Ne.symm HRN.out.qs)).frozen
            have sc5 := (hk9.blk HR8.out.s (Ne.symm HRN.out.qs)).cell
            clear hq9 hk9 sc tc zc mc HC2 HR8 lu0 lu1
            go_upto_region 17 with (fail)
            clear sc5 sf
            generalize ((((((w9.setCell ⟨gs, 0, none⟩ (.slice (some ⟨Q, 0, none⟩) t.els.length t.els.length)).setCell ⟨gs, 1, none⟩ (i (lR st3.last 0))).setCell ⟨gs, 2, none⟩ (i (lR st3.last 1))).setCell ⟨gs, 3, none⟩ (i (lR st3.last 2))).setCell ⟨gs, 4, none⟩ (i (lR st3.last 3))).setCell ⟨gs, 5, none⟩ (i (lR st3.last 4))) = wx at *
            obtain ⟨lu0, lu1⟩ := HROW.out wx (Kept.of HR9.out.b)
            have mc := HR9.out.m.cell
            have mf := HR9.out.m.frozen
            have hwe : IntKind.i64.wrap (en + y) = en + y := IntWalk.i64_in _ (by omega)
            go_region
            have HRX : Hid (RAt w (wx.setCell ⟨gm, 2, none⟩ (i (en + y))).drew t (.slice A1 t.els.length cp1) c st3 Q gs gm (c.start + kk) kk (en + y) y) := (HR9.out.setm HRN.out 2 (en + y) rfl).drew
            have HST : Hid (runTo t.els c us (kk + 1) = st3) := HSN.out.trans HR3.out
            have HEE : Hid (enTo us (kk + 1) = en + y) := HNN.out.trans HE2.out
            clear mc mf lu0 lu1
            go_wp2_with fail
            go_roundg (us.length - (kk + 1))
            case measure => omega
            case rel => exact ⟨kk + 1, c.start + kk, kk, y, by omega, by omega, by go_num, by rw [HST.out, HEE.out]; exact HRX⟩
          | false =>
            have HC2 := Lib.hid (HADD.out w8 _ _ 3 kk en y 1 HR8.out.q HR8.out.b HI2.out (by omega) (.inr (.inr (.inl rfl))))
            have HR3 : Hid (stn = addS t.els (c.P kk en y) ((3 : Nat) : Int) 1 (addS t.els (c.P kk en y) ((2 : Nat) : Int) y st)) := HR2.out
            obtain ⟨lu0, lu1⟩ := HROW.out w8 (Kept.of HR8.out.b)
            have sc := HR8.out.s.cell
            have tc := HR8.out.t.cell
            have zc := HR8.out.z.cell
            have mc := HR8.out.m.cell
            clear HI2 HR2
            generalize addS t.els (c.P kk en y) ((3 : Nat) : Int) 1 (addS t.els (c.P kk en y) ((2 : Nat) : Int) y st) = st3 at *
            generalize addS t.els (c.P kk en y) ((2 : Nat) : Int) y st = st2 at *
            go_wp2_with fail
            refine HC2.out.mono ?_
            rintro e w9 ⟨rfl, hq9, hk9⟩
            have HR9 := Lib.hid (HR8.out.add (st' := st3) HRN.out hq9 hk9)
            have sf := (hk9.blk HR8.out.s (Ne.symm HRN.out.qs)).frozen
            have sc5 := (hk9.blk HR8.out.s (Ne.symm HRN.out.qs)).cell
            clear hq9 hk9 sc tc zc mc HC2 HR8 lu0 lu1
            go_upto_region 17 with (fail)
            clear sc5 sf
            generalize ((((((w9.setCell ⟨gs, 0, none⟩ (.slice (some ⟨Q, 0, none⟩) t.els.length t.els.length)).setCell ⟨gs, 1, none⟩ (i (lR st3.last 0))).setCell ⟨gs, 2, none⟩ (i (lR st3.last 1))).setCell ⟨gs, 3, none⟩ (i (lR st3.last 2))).setCell ⟨gs, 4, none⟩ (i (lR st3.last 3))).setCell ⟨gs, 5, none⟩ (i (lR st3.last 4))) = wx at *
            obtain ⟨lu0, lu1⟩ := HROW.out wx (Kept.of HR9.out.b)
            have mc := HR9.out.m.cell
            have mf := HR9.out.m.frozen
            have hwe : IntKind.i64.wrap (en + y) = en + y := IntWalk.i64_in _ (by omega)
            go_region
            have HRX : Hid (RAt w (wx.setCell ⟨gm, 2, none⟩ (i (en + y))).drew t (.slice A1 t.els.length cp1) c st3 Q gs gm (c.start + kk) kk (en + y) y) := (HR9.out.setm HRN.out 2 (en + y) rfl).drew
            have HST : Hid (runTo t.els c us (kk + 1) = st3) := HSN.out.trans HR3.out
            have HEE : Hid (enTo us (kk + 1) = en + y) := HNN.out.trans HE2.out
            clear mc mf lu0 lu1
            go_wp2_with fail
            go_roundg (us.length - (kk + 1))
            case measure => omega
            case rel => exact ⟨kk + 1, c.start + kk, kk, y, by omega, by omega, by go_num, by rw [HST.out, HEE.out]; exact HRX⟩
        · have hltz : ¬ (kk : Int) < (us.length : Int) := by omega
          have hke : kk = us.length := by omega
          subst hke
          have HCH := Lib.hid (rcharges Q t _ (runTo t.els c us us.length) _ wr HRR.out.q (HE.out.call HRR.out.b) (by omega) (HINV.out us.length (Nat.le_refl _)) (by omega) HVP.out)
          rw [← charges_same (HINV.out us.length (Nat.le_refl _)) HVP.out.steps] at HCH
          have sc := HRR.out.s.cell
          have tc := HRR.out.t.cell
          go_wp2_with fail
          refine HCH.out.mono ?_
          rintro e w6 ⟨v6, rfl, hv6, hb6⟩
          have HV6 := Lib.hid hv6
          have HB6 := Lib.hid (below_call HRR.out.b hb6)
          clear hv6 hb6 HCH sc tc
          go_wp2_with fail
          go_ret2
          exact RunPost.yes HF.out HV6.out HB6.out
  · have HF := Lib.hid hR
    have hRb : (runE t c us != 0) = true := bne_iff_ne.2 hR
    clear hR
    have HP : Hid (RunPost t c us w (.returned (.tuple #[.slice none 0 0, i (runE t c us)])) w1) := RunPost.no rfl HF.out HB1.out
    generalize runE t c us = E at *
    go_wp2_with fail
    go_ret2
    exact HP.out
end PriW
end Go.Proofs.YtpmcdjpfolgpiaaGreatDoor
