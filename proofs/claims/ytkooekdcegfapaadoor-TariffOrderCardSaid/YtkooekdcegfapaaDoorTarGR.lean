/-
  The walk of the reference's Find.
-/
import Derived.Test.YtkooekdcegfapaaDoorTarG
namespace Go.Proofs.YtkooekdcegfapaaDoor
namespace TarW
set_option linter.unusedSimpArgs false
set_option linter.unusedVariables false
open Go.RowKit CalW

theorem fnd_end (p : Comp → Bool) (cs : List Comp) (j : Nat) (hj : cs.length ≤ j) : (cs.drop j).find? p = none := by
  rw [List.drop_eq_nil_of_le hj]; rfl
theorem fnd_no {p : Comp → Bool} {cs : List Comp} {j : Nat} (hj : j < cs.length) (h : p cs[j] = false) : (cs.drop j).find? p = (cs.drop (j + 1)).find? p := by
  rw [List.drop_eq_getElem_cons hj, List.find?_cons, h]
theorem fnd_yes {p : Comp → Bool} {cs : List Comp} {j : Nat} (hj : j < cs.length) (h : p cs[j] = true) : (cs.drop j).find? p = some cs[j] := by
  rw [List.drop_eq_getElem_cons hj, List.find?_cons, h]

set_option maxRecDepth 100000 in
set_option maxHeartbeats 4000000 in
theorem rfind_ (t : Trf) (v : Value) (z : Int) (s : Bool) (k a since en po : Int) (w : World) (h : ElemsAt w v t.els) :
    Calls Tryd.prog 17 #[trfV t v, zone z s, i k, i a, i since, i en, i po] w (FindPost (findC (fun x => Tar.holds x z s a since en po) k t.els) w) := by
  obtain ⟨A, c, rfl, h1, h2⟩ := SliceAt.form h
  unfold maxLen at h2
  obtain ⟨P, hP⟩ : ∃ P : Tar.Wh → Bool, P = fun x => Tar.holds x z s a since en po := ⟨_, rfl⟩
  have HP := Lib.hid (fun x => (congrFun hP x).symm)
  rw [← hP]
  clear hP
  obtain ⟨es, hes⟩ : ∃ es : List Elem, t.els = es := ⟨_, rfl⟩
  rw [hes] at h h1 ⊢
  clear hes
  go_enter Tryd.func17, Tryd.ntmps17
  go_wp2_with fail
  have b0 := ((Blk.new w 26 #[.string t.id, .string t.cur, i t.ver, i t.fr, i t.to, .slice A es.length c, i t.least, i t.most]).alloc (.cells #[i z, .bool s] 34)).alloc (.cells #[.int .i64 0, .int .i64 0, .int .i64 0, .int .i64 0] 40)
  have b1 := ((Blk.new' (w := w.alloc (.cells #[.string t.id, .string t.cur, i t.ver, i t.fr, i t.to, .slice A es.length c, i t.least, i t.most] 26)) (g := w.heap.size + 1) (by simp) 34 #[i z, .bool s]).alloc
    (.cells #[.int .i64 0, .int .i64 0, .int .i64 0, .int .i64 0] 40))
  have b3 := (Blk.new' (w := (w.alloc (.cells #[.string t.id, .string t.cur, i t.ver, i t.fr, i t.to, .slice A es.length c, i t.least, i t.most] 26)).alloc (.cells #[i z, .bool s] 34)) (g := w.heap.size + 1 + 1) (by simp) 40 #[.int .i64 0, .int .i64 0, .int .i64 0, .int .i64 0])
  have hb0 := below_alloc (below_alloc (below_new w (.cells #[.string t.id, .string t.cur, i t.ver, i t.fr, i t.to, .slice A es.length c, i t.least, i t.most] 26)) (.cells #[i z, .bool s] 34)) (.cells #[.int .i64 0, .int .i64 0, .int .i64 0, .int .i64 0] 40)
  generalize ((w.alloc (.cells #[.string t.id, .string t.cur, i t.ver, i t.fr, i t.to, .slice A es.length c, i t.least, i t.most] 26)).alloc (.cells #[i z, .bool s] 34)).alloc
    (.cells #[.int .i64 0, .int .i64 0, .int .i64 0, .int .i64 0] 40) = W0 at *
  have HE := Lib.hid (h.call hb0)
  have s3 := b3.lt
  clear h
  go_loopg [16] es.length (fun gg s16 wr => ∃ kk : Nat, kk ≤ es.length ∧ es.length - kk ≤ gg ∧ s16 = i kk ∧ Hid (Below W0.heap.size W0 wr) ∧ Hid (findC P k es = findC P k (es.drop kk)))
  case atStart => exact ⟨0, Nat.zero_le _, by omega, rfl, Below.refl _ _, rfl⟩
  case round =>
    obtain ⟨kk, hkk, hg, rfl, BW, HA⟩ := hrel
    have c0 := (b0.call BW.out).cell
    by_cases hlt : kk < es.length
    · have hltz : (kk : Int) < (es.length : Int) := by omega
      obtain ⟨b, off, u, rfl, _, hu, hrow⟩ := ElemsAt.at_ HE.out hlt
      have hcells := hrow wr (Kept.of BW.out)
      have hu1 := hu.call BW.out
      clear hrow hu
      have hno := @findC_no P k es kk hlt
      have hyes := fun c => @findC_yes P k es kk c hlt
      have HNO := Lib.hid hno
      have HYES := Lib.hid hyes
      clear hno hyes
      generalize es[kk] = y at *
      obtain ⟨A1, c1, rfl, h3, h4⟩ := SliceAt.form hu1
      unfold maxLen at h4
      obtain ⟨l0, l1, l2, l3, l4, l5, l6, l7, l8, l9, l10, l11⟩ := hcells
      have sw := BW.out.size
      have e1 := Blk.new wr 49 #[.slice A1 y.cs.length c1, i y.wh.s, i y.wh.e, i y.wh.d, i y.wh.f, i y.wh.t, i y.wh.e0, i y.wh.e1, i y.wh.p0, i y.wh.p1, i y.wh.t0, i y.wh.t1]
      have cz := ((b1.call BW.out).alloc (.cells #[.slice A1 y.cs.length c1, i y.wh.s, i y.wh.e, i y.wh.d, i y.wh.f, i y.wh.t, i y.wh.e0, i y.wh.e1, i y.wh.p0, i y.wh.p1, i y.wh.t0, i y.wh.t1] 49)).cell
      have f3 := (b3.call BW.out).alloc (.cells #[.slice A1 y.cs.length c1, i y.wh.s, i y.wh.e, i y.wh.d, i y.wh.f, i y.wh.t, i y.wh.e0, i y.wh.e1, i y.wh.p0, i y.wh.p1, i y.wh.t0, i y.wh.t1] 49)
      have hbw := below_alloc BW.out (.cells #[.slice A1 y.cs.length c1, i y.wh.s, i y.wh.e, i y.wh.d, i y.wh.f, i y.wh.t, i y.wh.e0, i y.wh.e1, i y.wh.p0, i y.wh.p1, i y.wh.t0, i y.wh.t1] 49)
      have hu2 := hu1.call (below_new wr (.cells #[.slice A1 y.cs.length c1, i y.wh.s, i y.wh.e, i y.wh.d, i y.wh.f, i y.wh.t, i y.wh.e0, i y.wh.e1, i y.wh.p0, i y.wh.p1, i y.wh.t0, i y.wh.t1] 49))
      have hne1 : w.heap.size + 1 ≠ wr.heap.size := by omega
      go_wp2_with fail
      refine (rholds y.wh z s a since en po _).mono ?_
      rintro e w2 ⟨rfl, hb2⟩
      have e3 := e1.call hb2
      have ce3 := e3.cell
      have g4 := f3.call hb2
      have cc := g4.cell
      have fz := g4.frozen
      have HU := Lib.hid (hu2.call hb2)
      clear cz c0
      cases hh : P y.wh with
      | false =>
        have hh' := (HP.out y.wh).trans hh
        rw [hh']
        have HH := Lib.hid hh
        clear hh hh'
        go_wp2_with fail
        go_roundg (es.length - (kk + 1))
        case measure => omega
        case rel => exact ⟨kk + 1, by omega, by omega, by go_num, below_call hbw hb2, HA.out.trans (HNO.out (elemC_no HH.out))⟩
      | true =>
        have hh' := (HP.out y.wh).trans hh
        rw [hh']
        have HH := Lib.hid hh
        clear hh hh'
        have bb := below_call hbw hb2
        clear l0 l1 l2 l3 l4 l5 l6 l7 l8 l9 l10 l11
        go_wp2_with fail
        go_loopg [18] y.cs.length (fun gg s18 wq => ∃ j : Nat, j ≤ y.cs.length ∧ y.cs.length - j ≤ gg ∧ s18 = i j ∧ wq = w2 ∧ Hid (y.cs.find? (isK k) = (y.cs.drop j).find? (isK k)))
        case atStart => exact ⟨0, Nat.zero_le _, by omega, rfl, rfl, rfl⟩
        case round =>
          obtain ⟨j, hj, hgj, rfl, rfl, HJ⟩ := hrel
          by_cases hjl : j < y.cs.length
          · have hjz : (j : Int) < (y.cs.length : Int) := by omega
            obtain ⟨bc, oc, rfl, _, hrow⟩ := CompsAt.at_ HU.out hjl
            obtain ⟨m0, m1, m2, m3⟩ := hrow _ (Kept.refl _)
            clear hrow
            have HFN := Lib.hid (fun h => @fnd_no (isK k) y.cs j hjl h)
            have HFY := Lib.hid (fun h => @fnd_yes (isK k) y.cs j hjl h)
            generalize y.cs[j] = q at *
            by_cases hq : isK k q = true
            · have hqb : (q.kind == k) = true := hq
              have hfin : findC P k es = some q := HA.out.trans (HYES.out _ ((elemC_yes HH.out).trans (HJ.out.trans (HFY.out hq))))
              have HF := Lib.hid hfin
              clear hfin HYES HNO hq
              go_wp2_with fail
              refine bodyPost_ret (v := .tuple #[compV q, .bool true]) (by simp [results, Tryd.results17, go_sem, cc]) rfl ?_
              rw [HF.out]
              exact ⟨rfl, set4 (hb0.trans (bb.mono (by omega))) (by omega) _ _ _ _⟩
            · have hqb : (q.kind == k) = false := by simpa [isK] using hq
              have HQ := Lib.hid (show isK k q = false from hqb)
              clear hq
              go_wp2_with fail
              go_roundg (y.cs.length - (j + 1))
              case measure => omega
              case rel => exact ⟨j + 1, by omega, by omega, by go_num, rfl, HJ.out.trans (HFN.out HQ.out)⟩
          · have hjz : ¬ (j : Int) < (y.cs.length : Int) := by omega
            go_wp2_with fail
            go_roundg (es.length - (kk + 1))
            case measure => omega
            case rel => exact ⟨kk + 1, by omega, by omega, by go_num, bb, HA.out.trans (HNO.out ((elemC_yes HH.out).trans (HJ.out.trans (fnd_end _ _ _ (by omega)))))⟩
    · have hltz : ¬ (kk : Int) < (es.length : Int) := by omega
      have g4 := b3.call BW.out
      have cc := g4.cell
      have fz := g4.frozen
      go_wp2_with fail
      refine bodyPost_ret (v := .tuple #[compV ⟨0, 0, 0, 0⟩, .bool false]) (by simp [results, Tryd.results17, go_sem, cc]) rfl ?_
      rw [HA.out, findC_end P k es kk (by omega)]
      exact ⟨rfl, set4 (hb0.trans (BW.out.mono (by omega))) (by omega) _ _ _ _⟩
end TarW
end Go.Proofs.YtkooekdcegfapaaDoor
