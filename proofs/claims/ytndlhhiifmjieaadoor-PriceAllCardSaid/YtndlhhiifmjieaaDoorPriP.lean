/-
  The arguments of the price laws, opened to data. (Printed by gen42b.py.)
-/
import Derived.Test.YtndlhhiifmjieaaDoorPriR
import Derived.Test.YtndlhhiifmjieaaDoorPriE
import Derived.Lib.SmallJoins
namespace Go.Proofs.YtndlhhiifmjieaaDoor
namespace PriW
set_option linter.unusedSimpArgs false
set_option linter.unusedVariables false
open Go.RowKit CalW TarW Prc Go.ChangeShapes Go.WideShapes Go.Deep Go.Joins

abbrev caseA (t : Trf) (u : Value) (c : Cx) (v : Value) : Array Value := #[.string t.id, .string t.cur, i t.ver, i t.fr, i t.to, u, i t.least, i t.most, i c.z, .bool c.s, i c.start, v]
theorem open_comp {H : Type} {enc : TypeId × Value → H} {w : World} {base : Nat} {spare : Nat → Bool} {held : Bool} {fuel : Nat} {cs : List Value} {y : DataW H × List MemPlace}
    (h : DataW.trod enc Tryd.prog w base spare held fuel 58 cs = some y) : ∃ c : Comp, CompR cs c := by
  have hl := trod_len Tryd.underlying58 h
  rw [show Tryd.prog.cellsOf 58 = 4 by kernel_rfl] at hl
  match cs, hl with
  | [c0, c1, c2, c3], _ =>
    obtain ⟨m0, y0, k0⟩ := trod_fieldT Tryd.underlying58 h 0 _ rfl 3 0 1 rfl rfl (by kernel_rfl)
    simp only [List.drop_zero, List.drop_succ_cons, List.take_succ_cons, List.take_zero] at k0
    obtain ⟨n0, e0, _, w0⟩ := DataW.trod_int Tryd.underlying3 k0
    obtain rfl : c0 = .int .i64 n0 := by simpa using e0
    obtain ⟨m1, y1, k1⟩ := trod_fieldT Tryd.underlying58 h 1 _ rfl 3 1 1 rfl rfl (by kernel_rfl)
    simp only [List.drop_zero, List.drop_succ_cons, List.take_succ_cons, List.take_zero] at k1
    obtain ⟨n1, e1, _, w1⟩ := DataW.trod_int Tryd.underlying3 k1
    obtain rfl : c1 = .int .i64 n1 := by simpa using e1
    obtain ⟨m2, y2, k2⟩ := trod_fieldT Tryd.underlying58 h 2 _ rfl 3 2 1 rfl rfl (by kernel_rfl)
    simp only [List.drop_zero, List.drop_succ_cons, List.take_succ_cons, List.take_zero] at k2
    obtain ⟨n2, e2, _, w2⟩ := DataW.trod_int Tryd.underlying3 k2
    obtain rfl : c2 = .int .i64 n2 := by simpa using e2
    obtain ⟨m3, y3, k3⟩ := trod_fieldT Tryd.underlying58 h 3 _ rfl 3 3 1 rfl rfl (by kernel_rfl)
    simp only [List.drop_zero, List.drop_succ_cons, List.take_succ_cons, List.take_zero] at k3
    obtain ⟨n3, e3, _, w3⟩ := DataW.trod_int Tryd.underlying3 k3
    obtain rfl : c3 = .int .i64 n3 := by simpa using e3
    exact ⟨⟨n0, n1, n2, n3⟩, rfl⟩
theorem open_comps {H : Type} {enc : TypeId × Value → H} {w : World} {base : Nat} {spare : Nat → Bool} {held : Bool} {fuel : Nat} {cs : List Value} {y : DataW H × List MemPlace}
    (h : DataW.trod enc Tryd.prog w base spare held fuel 53 cs = some y) : ∃ v xs, cs = [v] ∧ CompsAt w v xs :=
  open_sliceAt Tryd.underlying53 (by kernel_rfl) (by omega) (fun _ _ _ h => open_comp h) h
theorem open_elem {H : Type} {enc : TypeId × Value → H} {w : World} {base : Nat} {spare : Nat → Bool} {held : Bool} {fuel : Nat} {cs : List Value} {y : DataW H × List MemPlace}
    (h : DataW.trod enc Tryd.prog w base spare held fuel 55 cs = some y) : ∃ e : Elem, ElemR w cs e := by
  have hl := trod_len Tryd.underlying55 h
  rw [show Tryd.prog.cellsOf 55 = 12 by kernel_rfl] at hl
  match cs, hl with
  | [c0, c1, c2, c3, c4, c5, c6, c7, c8, c9, c10, c11], _ =>
    obtain ⟨m0, y0, k0⟩ := trod_fieldT Tryd.underlying55 h 0 _ rfl 53 0 1 rfl rfl (by kernel_rfl)
    simp only [List.drop_zero, List.drop_succ_cons, List.take_succ_cons, List.take_zero] at k0
    obtain ⟨v0, xs0, e0, s0⟩ := open_comps k0
    obtain rfl : c0 = v0 := by simpa using e0
    obtain ⟨m1, y1, k1⟩ := trod_fieldT Tryd.underlying55 h 1 _ rfl 51 1 11 rfl rfl (by kernel_rfl)
    simp only [List.drop_zero, List.drop_succ_cons, List.take_succ_cons, List.take_zero] at k1
    obtain ⟨m2, y2, k2⟩ := trod_fieldT Tryd.underlying51 k1 0 _ rfl 3 0 1 rfl rfl (by kernel_rfl)
    simp only [List.drop_zero, List.drop_succ_cons, List.take_succ_cons, List.take_zero] at k2
    obtain ⟨n2, e2, _, w2⟩ := DataW.trod_int Tryd.underlying3 k2
    obtain rfl : c1 = .int .i64 n2 := by simpa using e2
    obtain ⟨m3, y3, k3⟩ := trod_fieldT Tryd.underlying51 k1 1 _ rfl 3 1 1 rfl rfl (by kernel_rfl)
    simp only [List.drop_zero, List.drop_succ_cons, List.take_succ_cons, List.take_zero] at k3
    obtain ⟨n3, e3, _, w3⟩ := DataW.trod_int Tryd.underlying3 k3
    obtain rfl : c2 = .int .i64 n3 := by simpa using e3
    obtain ⟨m4, y4, k4⟩ := trod_fieldT Tryd.underlying51 k1 2 _ rfl 3 2 1 rfl rfl (by kernel_rfl)
    simp only [List.drop_zero, List.drop_succ_cons, List.take_succ_cons, List.take_zero] at k4
    obtain ⟨n4, e4, _, w4⟩ := DataW.trod_int Tryd.underlying3 k4
    obtain rfl : c3 = .int .i64 n4 := by simpa using e4
    obtain ⟨m5, y5, k5⟩ := trod_fieldT Tryd.underlying51 k1 3 _ rfl 3 3 1 rfl rfl (by kernel_rfl)
    simp only [List.drop_zero, List.drop_succ_cons, List.take_succ_cons, List.take_zero] at k5
    obtain ⟨n5, e5, _, w5⟩ := DataW.trod_int Tryd.underlying3 k5
    obtain rfl : c4 = .int .i64 n5 := by simpa using e5
    obtain ⟨m6, y6, k6⟩ := trod_fieldT Tryd.underlying51 k1 4 _ rfl 3 4 1 rfl rfl (by kernel_rfl)
    simp only [List.drop_zero, List.drop_succ_cons, List.take_succ_cons, List.take_zero] at k6
    obtain ⟨n6, e6, _, w6⟩ := DataW.trod_int Tryd.underlying3 k6
    obtain rfl : c5 = .int .i64 n6 := by simpa using e6
    obtain ⟨m7, y7, k7⟩ := trod_fieldT Tryd.underlying51 k1 5 _ rfl 3 5 1 rfl rfl (by kernel_rfl)
    simp only [List.drop_zero, List.drop_succ_cons, List.take_succ_cons, List.take_zero] at k7
    obtain ⟨n7, e7, _, w7⟩ := DataW.trod_int Tryd.underlying3 k7
    obtain rfl : c6 = .int .i64 n7 := by simpa using e7
    obtain ⟨m8, y8, k8⟩ := trod_fieldT Tryd.underlying51 k1 6 _ rfl 3 6 1 rfl rfl (by kernel_rfl)
    simp only [List.drop_zero, List.drop_succ_cons, List.take_succ_cons, List.take_zero] at k8
    obtain ⟨n8, e8, _, w8⟩ := DataW.trod_int Tryd.underlying3 k8
    obtain rfl : c7 = .int .i64 n8 := by simpa using e8
    obtain ⟨m9, y9, k9⟩ := trod_fieldT Tryd.underlying51 k1 7 _ rfl 3 7 1 rfl rfl (by kernel_rfl)
    simp only [List.drop_zero, List.drop_succ_cons, List.take_succ_cons, List.take_zero] at k9
    obtain ⟨n9, e9, _, w9⟩ := DataW.trod_int Tryd.underlying3 k9
    obtain rfl : c8 = .int .i64 n9 := by simpa using e9
    obtain ⟨m10, y10, k10⟩ := trod_fieldT Tryd.underlying51 k1 8 _ rfl 3 8 1 rfl rfl (by kernel_rfl)
    simp only [List.drop_zero, List.drop_succ_cons, List.take_succ_cons, List.take_zero] at k10
    obtain ⟨n10, e10, _, w10⟩ := DataW.trod_int Tryd.underlying3 k10
    obtain rfl : c9 = .int .i64 n10 := by simpa using e10
    obtain ⟨m11, y11, k11⟩ := trod_fieldT Tryd.underlying51 k1 9 _ rfl 3 9 1 rfl rfl (by kernel_rfl)
    simp only [List.drop_zero, List.drop_succ_cons, List.take_succ_cons, List.take_zero] at k11
    obtain ⟨n11, e11, _, w11⟩ := DataW.trod_int Tryd.underlying3 k11
    obtain rfl : c10 = .int .i64 n11 := by simpa using e11
    obtain ⟨m12, y12, k12⟩ := trod_fieldT Tryd.underlying51 k1 10 _ rfl 3 10 1 rfl rfl (by kernel_rfl)
    simp only [List.drop_zero, List.drop_succ_cons, List.take_succ_cons, List.take_zero] at k12
    obtain ⟨n12, e12, _, w12⟩ := DataW.trod_int Tryd.underlying3 k12
    obtain rfl : c11 = .int .i64 n12 := by simpa using e12
    exact ⟨⟨xs0, ⟨n2, n3, n4, n5, n6, n7, n8, n9, n10, n11, n12⟩⟩, _, rfl, s0⟩
theorem open_elems {H : Type} {enc : TypeId × Value → H} {w : World} {base : Nat} {spare : Nat → Bool} {held : Bool} {fuel : Nat} {cs : List Value} {y : DataW H × List MemPlace}
    (h : DataW.trod enc Tryd.prog w base spare held fuel 24 cs = some y) : ∃ v xs, cs = [v] ∧ ElemsAt w v xs :=
  open_sliceAt Tryd.underlying24 (by kernel_rfl) (by omega) (fun _ _ _ h => open_elem h) h
theorem open_use {H : Type} {enc : TypeId × Value → H} {w : World} {base : Nat} {spare : Nat → Bool} {held : Bool} {fuel : Nat} {cs : List Value} {y : DataW H × List MemPlace}
    (h : DataW.trod enc Tryd.prog w base spare held fuel 48 cs = some y) : ∃ x : Prc.Use, UseR cs x := by
  have hl := trod_len Tryd.underlying48 h
  rw [show Tryd.prog.cellsOf 48 = 2 by kernel_rfl] at hl
  match cs, hl with
  | [c0, c1], _ =>
    obtain ⟨m0, y0, k0⟩ := trod_fieldT Tryd.underlying48 h 0 _ rfl 3 0 1 rfl rfl (by kernel_rfl)
    simp only [List.drop_zero, List.drop_succ_cons, List.take_succ_cons, List.take_zero] at k0
    obtain ⟨n0, e0, _, w0⟩ := DataW.trod_int Tryd.underlying3 k0
    obtain rfl : c0 = .int .i64 n0 := by simpa using e0
    obtain ⟨m1, y1, k1⟩ := trod_fieldT Tryd.underlying48 h 1 _ rfl 4 1 1 rfl rfl (by kernel_rfl)
    simp only [List.drop_zero, List.drop_succ_cons, List.take_succ_cons, List.take_zero] at k1
    obtain ⟨n1, e1, _⟩ := DataW.trod_bool Tryd.underlying4 k1
    obtain rfl : c1 = .bool n1 := by simpa using e1
    exact ⟨⟨n0, n1⟩, rfl, MonW.i64_wf w0⟩
theorem open_uses {H : Type} {enc : TypeId × Value → H} {w : World} {base : Nat} {spare : Nat → Bool} {held : Bool} {fuel : Nat} {cs : List Value} {y : DataW H × List MemPlace}
    (h : DataW.trod enc Tryd.prog w base spare held fuel 29 cs = some y) : ∃ v xs, cs = [v] ∧ UsesAt w v xs :=
  open_sliceAt Tryd.underlying29 (by kernel_rfl) (by omega) (fun _ _ _ h => open_use h) h
theorem open_case {H : Type} {enc : TypeId × Value → H} {w : World} {base : Nat} {spare : Nat → Bool} {held : Bool} {fuel : Nat} {cs : List Value} {y : DataW H × List MemPlace}
    (h : DataW.trod enc Tryd.prog w base spare held fuel 31 cs = some y) : ∃ (t : Trf) (u : Value) (c : Cx) (v : Value) (us : List Prc.Use), cs = (caseA t u c v).toList ∧ ElemsAt w u t.els ∧ t.id.size ≤ maxLen ∧ t.cur.size ≤ maxLen ∧ UsesAt w v us := by
  have hl := trod_len Tryd.underlying31 h
  rw [show Tryd.prog.cellsOf 31 = 12 by kernel_rfl] at hl
  match cs, hl with
  | [c0, c1, c2, c3, c4, c5, c6, c7, c8, c9, c10, c11], _ =>
    obtain ⟨m0, y0, k0⟩ := trod_fieldT Tryd.underlying31 h 0 _ rfl 26 0 8 rfl rfl (by kernel_rfl)
    simp only [List.drop_zero, List.drop_succ_cons, List.take_succ_cons, List.take_zero] at k0
    obtain ⟨m1, y1, k1⟩ := trod_fieldT Tryd.underlying26 k0 0 _ rfl 9 0 1 rfl rfl (by kernel_rfl)
    simp only [List.drop_zero, List.drop_succ_cons, List.take_succ_cons, List.take_zero] at k1
    obtain ⟨n1, e1, _, w1⟩ := DataW.trod_string Tryd.underlying9 k1
    obtain rfl : c0 = .string n1 := by simpa using e1
    obtain ⟨m2, y2, k2⟩ := trod_fieldT Tryd.underlying26 k0 1 _ rfl 9 1 1 rfl rfl (by kernel_rfl)
    simp only [List.drop_zero, List.drop_succ_cons, List.take_succ_cons, List.take_zero] at k2
    obtain ⟨n2, e2, _, w2⟩ := DataW.trod_string Tryd.underlying9 k2
    obtain rfl : c1 = .string n2 := by simpa using e2
    obtain ⟨m3, y3, k3⟩ := trod_fieldT Tryd.underlying26 k0 2 _ rfl 3 2 1 rfl rfl (by kernel_rfl)
    simp only [List.drop_zero, List.drop_succ_cons, List.take_succ_cons, List.take_zero] at k3
    obtain ⟨n3, e3, _, w3⟩ := DataW.trod_int Tryd.underlying3 k3
    obtain rfl : c2 = .int .i64 n3 := by simpa using e3
    obtain ⟨m4, y4, k4⟩ := trod_fieldT Tryd.underlying26 k0 3 _ rfl 23 3 2 rfl rfl (by kernel_rfl)
    simp only [List.drop_zero, List.drop_succ_cons, List.take_succ_cons, List.take_zero] at k4
    obtain ⟨m5, y5, k5⟩ := trod_fieldT Tryd.underlying23 k4 0 _ rfl 3 0 1 rfl rfl (by kernel_rfl)
    simp only [List.drop_zero, List.drop_succ_cons, List.take_succ_cons, List.take_zero] at k5
    obtain ⟨n5, e5, _, w5⟩ := DataW.trod_int Tryd.underlying3 k5
    obtain rfl : c3 = .int .i64 n5 := by simpa using e5
    obtain ⟨m6, y6, k6⟩ := trod_fieldT Tryd.underlying23 k4 1 _ rfl 3 1 1 rfl rfl (by kernel_rfl)
    simp only [List.drop_zero, List.drop_succ_cons, List.take_succ_cons, List.take_zero] at k6
    obtain ⟨n6, e6, _, w6⟩ := DataW.trod_int Tryd.underlying3 k6
    obtain rfl : c4 = .int .i64 n6 := by simpa using e6
    obtain ⟨m7, y7, k7⟩ := trod_fieldT Tryd.underlying26 k0 4 _ rfl 24 5 1 rfl rfl (by kernel_rfl)
    simp only [List.drop_zero, List.drop_succ_cons, List.take_succ_cons, List.take_zero] at k7
    obtain ⟨v7, xs7, e7, s7⟩ := open_elems k7
    obtain rfl : c5 = v7 := by simpa using e7
    obtain ⟨m8, y8, k8⟩ := trod_fieldT Tryd.underlying26 k0 5 _ rfl 3 6 1 rfl rfl (by kernel_rfl)
    simp only [List.drop_zero, List.drop_succ_cons, List.take_succ_cons, List.take_zero] at k8
    obtain ⟨n8, e8, _, w8⟩ := DataW.trod_int Tryd.underlying3 k8
    obtain rfl : c6 = .int .i64 n8 := by simpa using e8
    obtain ⟨m9, y9, k9⟩ := trod_fieldT Tryd.underlying26 k0 6 _ rfl 3 7 1 rfl rfl (by kernel_rfl)
    simp only [List.drop_zero, List.drop_succ_cons, List.take_succ_cons, List.take_zero] at k9
    obtain ⟨n9, e9, _, w9⟩ := DataW.trod_int Tryd.underlying3 k9
    obtain rfl : c7 = .int .i64 n9 := by simpa using e9
    obtain ⟨m10, y10, k10⟩ := trod_fieldT Tryd.underlying31 h 1 _ rfl 28 8 2 rfl rfl (by kernel_rfl)
    simp only [List.drop_zero, List.drop_succ_cons, List.take_succ_cons, List.take_zero] at k10
    obtain ⟨m11, y11, k11⟩ := trod_fieldT Tryd.underlying28 k10 0 _ rfl 3 0 1 rfl rfl (by kernel_rfl)
    simp only [List.drop_zero, List.drop_succ_cons, List.take_succ_cons, List.take_zero] at k11
    obtain ⟨n11, e11, _, w11⟩ := DataW.trod_int Tryd.underlying3 k11
    obtain rfl : c8 = .int .i64 n11 := by simpa using e11
    obtain ⟨m12, y12, k12⟩ := trod_fieldT Tryd.underlying28 k10 1 _ rfl 4 1 1 rfl rfl (by kernel_rfl)
    simp only [List.drop_zero, List.drop_succ_cons, List.take_succ_cons, List.take_zero] at k12
    obtain ⟨n12, e12, _⟩ := DataW.trod_bool Tryd.underlying4 k12
    obtain rfl : c9 = .bool n12 := by simpa using e12
    obtain ⟨m13, y13, k13⟩ := trod_fieldT Tryd.underlying31 h 2 _ rfl 3 10 1 rfl rfl (by kernel_rfl)
    simp only [List.drop_zero, List.drop_succ_cons, List.take_succ_cons, List.take_zero] at k13
    obtain ⟨n13, e13, _, w13⟩ := DataW.trod_int Tryd.underlying3 k13
    obtain rfl : c10 = .int .i64 n13 := by simpa using e13
    obtain ⟨m14, y14, k14⟩ := trod_fieldT Tryd.underlying31 h 3 _ rfl 29 11 1 rfl rfl (by kernel_rfl)
    simp only [List.drop_zero, List.drop_succ_cons, List.take_succ_cons, List.take_zero] at k14
    obtain ⟨v14, xs14, e14, s14⟩ := open_uses k14
    obtain rfl : c11 = v14 := by simpa using e14
    exact ⟨⟨n1, n2, n3, n5, n6, xs7, n8, n9⟩, c5, ⟨n11, n12, n13⟩, c11, xs14, rfl, s7, w1, w2, s14⟩

theorem open_zone {H : Type} {enc : TypeId × Value → H} {w : World} {base : Nat} {spare : Nat → Bool} {held : Bool} {fuel : Nat} {cs : List Value} {y : DataW H × List MemPlace}
    (h : DataW.trod enc Tryd.prog w base spare held fuel 28 cs = some y) : ∃ (z : Int) (s : Bool), cs = [i z, .bool s] := by
  have hl := trod_len Tryd.underlying28 h
  rw [show Tryd.prog.cellsOf 28 = 2 by kernel_rfl] at hl
  match cs, hl with
  | [c0, c1], _ =>
    obtain ⟨m0, y0, k0⟩ := trod_fieldT Tryd.underlying28 h 0 _ rfl 3 0 1 rfl rfl (by kernel_rfl)
    simp only [List.drop_zero, List.drop_succ_cons, List.take_succ_cons, List.take_zero] at k0
    obtain ⟨n0, e0, _, w0⟩ := DataW.trod_int Tryd.underlying3 k0
    obtain rfl : c0 = .int .i64 n0 := by simpa using e0
    obtain ⟨m1, y1, k1⟩ := trod_fieldT Tryd.underlying28 h 1 _ rfl 4 1 1 rfl rfl (by kernel_rfl)
    simp only [List.drop_zero, List.drop_succ_cons, List.take_succ_cons, List.take_zero] at k1
    obtain ⟨n1, e1, _⟩ := DataW.trod_bool Tryd.underlying4 k1
    obtain rfl : c1 = .bool n1 := by simpa using e1
    exact ⟨n0, n1, rfl⟩

section
variable {H : Type} {enc : TypeId × Value → H} {w : World} {base b0 : Nat} {spare : Nat → Bool} {held : Bool} {r : Reach} {v : Value} {d : DataW H} {p : List MemPlace}
set_option maxRecDepth 20000 in
theorem arg_case (hv : Value.okWide Tryd.prog w r b0 31 v) (h : DataW.Trod enc Tryd.prog w base spare held 31 v d p) :
    ∃ (t : Trf) (u : Value) (c : Cx) (x : Value) (us : List Prc.Use), v = .agg (caseA t u c x) ∧ ElemsAt w u t.els ∧ t.id.size ≤ maxLen ∧ t.cur.size ≤ maxLen ∧ UsesAt w x us := by
  obtain ⟨⟨cs⟩, rfl, hsz⟩ := okWide_struct Tryd.underlying31 hv
  obtain ⟨fuel, hf⟩ := h
  obtain ⟨t, u, c, x, us, hx, h1, h2, h3, h4⟩ := open_case hf
  have e : cs = (caseA t u c x).toList := hx
  subst e
  exact ⟨t, u, c, x, us, rfl, h1, h2, h3, h4⟩
set_option maxRecDepth 20000 in
theorem arg_chg (hv : Value.okWide Tryd.prog w r b0 40 v) (h : DataW.Trod enc Tryd.prog w base spare held 40 v d p) : ∃ x : MonW.Chg, v = MonW.chgV x ∧ x.ok := by
  obtain ⟨⟨cs⟩, rfl, hsz⟩ := okWide_struct Tryd.underlying40 hv
  obtain ⟨fuel, hf⟩ := h
  obtain ⟨x, hx, ho⟩ := MonW.open_chg hf
  have e : cs = MonW.chgL x := hx
  subst e
  exact ⟨x, rfl, ho⟩
set_option maxRecDepth 20000 in
theorem arg_zone (hv : Value.okWide Tryd.prog w r b0 28 v) (h : DataW.Trod enc Tryd.prog w base spare held 28 v d p) : ∃ (z : Int) (s : Bool), v = zone z s := by
  obtain ⟨⟨cs⟩, rfl, hsz⟩ := okWide_struct Tryd.underlying28 hv
  obtain ⟨fuel, hf⟩ := h
  obtain ⟨z, s, hx⟩ := open_zone hf
  have e : cs = [i z, .bool s] := hx
  subst e
  exact ⟨z, s, rfl⟩
end
end PriW
end Go.Proofs.YtndlhhiifmjieaaDoor
