/-
  The arguments of the cdr laws, opened to data. (Printed by gen46.py.)
-/
import Derived.Test.YtpmcdjpfolgpiaaGreatDoorExA
import Derived.Lib.SmallJoins
namespace Go.Proofs.YtpmcdjpfolgpiaaGreatDoor
namespace Ex
set_option linter.unusedSimpArgs false
set_option linter.unusedVariables false
open Go.RowKit TarW Usg UsgW Prc PriW Cdr MonW CdrW Go.ChangeShapes Go.WideShapes Go.Deep Go.Joins

theorem open_rdg {H : Type} {enc : TypeId × Value → H} {w : World} {base : Nat} {spare : Nat → Bool} {held : Bool} {fuel : Nat} {cs : List Value} {y : DataW H × List MemPlace}
    (h : DataW.trod enc Tryz.prog w base spare held fuel 67 cs = some y) : ∃ x : Rdg, RdgR cs x := by
  have hl := trod_len Tryz.underlying67 h
  rw [show Tryz.prog.cellsOf 67 = 2 by kernel_rfl] at hl
  match cs, hl with
  | [c0, c1], _ =>
    obtain ⟨m0, y0, k0⟩ := trod_fieldT Tryz.underlying67 h 0 _ rfl 3 0 1 rfl rfl (by kernel_rfl)
    simp only [List.drop_zero, List.drop_succ_cons, List.take_succ_cons, List.take_zero] at k0
    obtain ⟨n0, e0, _, w0⟩ := DataW.trod_int Tryz.underlying3 k0
    obtain rfl : c0 = .int .i64 n0 := by simpa using e0
    obtain ⟨m1, y1, k1⟩ := trod_fieldT Tryz.underlying67 h 1 _ rfl 3 1 1 rfl rfl (by kernel_rfl)
    simp only [List.drop_zero, List.drop_succ_cons, List.take_succ_cons, List.take_zero] at k1
    obtain ⟨n1, e1, _, w1⟩ := DataW.trod_int Tryz.underlying3 k1
    obtain rfl : c1 = .int .i64 n1 := by simpa using e1
    exact ⟨⟨n0, n1⟩, rfl, MonW.i64_wf w0, MonW.i64_wf w1⟩
theorem open_rdgs {H : Type} {enc : TypeId × Value → H} {w : World} {base : Nat} {spare : Nat → Bool} {held : Bool} {fuel : Nat} {cs : List Value} {y : DataW H × List MemPlace}
    (h : DataW.trod enc Tryz.prog w base spare held fuel 29 cs = some y) : ∃ v xs, cs = [v] ∧ RdgsAt w v xs :=
  open_sliceAt Tryz.underlying29 (by kernel_rfl) (by omega) (fun _ _ _ h => open_rdg h) h
theorem open_cdr {H : Type} {enc : TypeId × Value → H} {w : World} {base : Nat} {spare : Nat → Bool} {held : Bool} {fuel : Nat} {cs : List Value} {y : DataW H × List MemPlace}
    (h : DataW.trod enc Tryz.prog w base spare held fuel 24 cs = some y) : ∃ (c : CDR) (u : Value), cs = (cdrA c u).toList ∧ c.ok ∧ ItmsAt w u c.items := by
  have hl := trod_len Tryz.underlying24 h
  rw [show Tryz.prog.cellsOf 24 = 14 by kernel_rfl] at hl
  match cs, hl with
  | [c0, c1, c2, c3, c4, c5, c6, c7, c8, c9, c10, c11, c12, c13], _ =>
    obtain ⟨m0, y0, k0⟩ := trod_fieldT Tryz.underlying24 h 0 _ rfl 9 0 1 rfl rfl (by kernel_rfl)
    simp only [List.drop_zero, List.drop_succ_cons, List.take_succ_cons, List.take_zero] at k0
    obtain ⟨n0, e0, _, w0⟩ := DataW.trod_string Tryz.underlying9 k0
    obtain rfl : c0 = .string n0 := by simpa using e0
    obtain ⟨m1, y1, k1⟩ := trod_fieldT Tryz.underlying24 h 1 _ rfl 9 1 1 rfl rfl (by kernel_rfl)
    simp only [List.drop_zero, List.drop_succ_cons, List.take_succ_cons, List.take_zero] at k1
    obtain ⟨n1, e1, _, w1⟩ := DataW.trod_string Tryz.underlying9 k1
    obtain rfl : c1 = .string n1 := by simpa using e1
    obtain ⟨m2, y2, k2⟩ := trod_fieldT Tryz.underlying24 h 2 _ rfl 9 2 1 rfl rfl (by kernel_rfl)
    simp only [List.drop_zero, List.drop_succ_cons, List.take_succ_cons, List.take_zero] at k2
    obtain ⟨n2, e2, _, w2⟩ := DataW.trod_string Tryz.underlying9 k2
    obtain rfl : c2 = .string n2 := by simpa using e2
    obtain ⟨m3, y3, k3⟩ := trod_fieldT Tryz.underlying24 h 3 _ rfl 9 3 1 rfl rfl (by kernel_rfl)
    simp only [List.drop_zero, List.drop_succ_cons, List.take_succ_cons, List.take_zero] at k3
    obtain ⟨n3, e3, _, w3⟩ := DataW.trod_string Tryz.underlying9 k3
    obtain rfl : c3 = .string n3 := by simpa using e3
    obtain ⟨m4, y4, k4⟩ := trod_fieldT Tryz.underlying24 h 4 _ rfl 3 4 1 rfl rfl (by kernel_rfl)
    simp only [List.drop_zero, List.drop_succ_cons, List.take_succ_cons, List.take_zero] at k4
    obtain ⟨n4, e4, _, w4⟩ := DataW.trod_int Tryz.underlying3 k4
    obtain rfl : c4 = .int .i64 n4 := by simpa using e4
    obtain ⟨m5, y5, k5⟩ := trod_fieldT Tryz.underlying24 h 5 _ rfl 3 5 1 rfl rfl (by kernel_rfl)
    simp only [List.drop_zero, List.drop_succ_cons, List.take_succ_cons, List.take_zero] at k5
    obtain ⟨n5, e5, _, w5⟩ := DataW.trod_int Tryz.underlying3 k5
    obtain rfl : c5 = .int .i64 n5 := by simpa using e5
    obtain ⟨m6, y6, k6⟩ := trod_fieldT Tryz.underlying24 h 6 _ rfl 3 6 1 rfl rfl (by kernel_rfl)
    simp only [List.drop_zero, List.drop_succ_cons, List.take_succ_cons, List.take_zero] at k6
    obtain ⟨n6, e6, _, w6⟩ := DataW.trod_int Tryz.underlying3 k6
    obtain rfl : c6 = .int .i64 n6 := by simpa using e6
    obtain ⟨m7, y7, k7⟩ := trod_fieldT Tryz.underlying24 h 7 _ rfl 3 7 1 rfl rfl (by kernel_rfl)
    simp only [List.drop_zero, List.drop_succ_cons, List.take_succ_cons, List.take_zero] at k7
    obtain ⟨n7, e7, _, w7⟩ := DataW.trod_int Tryz.underlying3 k7
    obtain rfl : c7 = .int .i64 n7 := by simpa using e7
    obtain ⟨m8, y8, k8⟩ := trod_fieldT Tryz.underlying24 h 8 _ rfl 9 8 1 rfl rfl (by kernel_rfl)
    simp only [List.drop_zero, List.drop_succ_cons, List.take_succ_cons, List.take_zero] at k8
    obtain ⟨n8, e8, _, w8⟩ := DataW.trod_string Tryz.underlying9 k8
    obtain rfl : c8 = .string n8 := by simpa using e8
    obtain ⟨m9, y9, k9⟩ := trod_fieldT Tryz.underlying24 h 9 _ rfl 9 9 1 rfl rfl (by kernel_rfl)
    simp only [List.drop_zero, List.drop_succ_cons, List.take_succ_cons, List.take_zero] at k9
    obtain ⟨n9, e9, _, w9⟩ := DataW.trod_string Tryz.underlying9 k9
    obtain rfl : c9 = .string n9 := by simpa using e9
    obtain ⟨m10, y10, k10⟩ := trod_fieldT Tryz.underlying24 h 10 _ rfl 22 10 1 rfl rfl (by kernel_rfl)
    simp only [List.drop_zero, List.drop_succ_cons, List.take_succ_cons, List.take_zero] at k10
    obtain ⟨v10, xs10, e10, s10⟩ := MonW.open_itms k10
    obtain rfl : c10 = v10 := by simpa using e10
    obtain ⟨m11, y11, k11⟩ := trod_fieldT Tryz.underlying24 h 11 _ rfl 3 11 1 rfl rfl (by kernel_rfl)
    simp only [List.drop_zero, List.drop_succ_cons, List.take_succ_cons, List.take_zero] at k11
    obtain ⟨n11, e11, _, w11⟩ := DataW.trod_int Tryz.underlying3 k11
    obtain rfl : c11 = .int .i64 n11 := by simpa using e11
    obtain ⟨m12, y12, k12⟩ := trod_fieldT Tryz.underlying24 h 12 _ rfl 4 12 1 rfl rfl (by kernel_rfl)
    simp only [List.drop_zero, List.drop_succ_cons, List.take_succ_cons, List.take_zero] at k12
    obtain ⟨n12, e12, _⟩ := DataW.trod_bool Tryz.underlying4 k12
    obtain rfl : c12 = .bool n12 := by simpa using e12
    obtain ⟨m13, y13, k13⟩ := trod_fieldT Tryz.underlying24 h 13 _ rfl 9 13 1 rfl rfl (by kernel_rfl)
    simp only [List.drop_zero, List.drop_succ_cons, List.take_succ_cons, List.take_zero] at k13
    obtain ⟨n13, e13, _, w13⟩ := DataW.trod_string Tryz.underlying9 k13
    obtain rfl : c13 = .string n13 := by simpa using e13
    exact ⟨⟨n0, n1, n2, n3, n4, n5, n6, n7, n8, n9, xs10, n11, n12, n13⟩, c10, rfl, ⟨w0, w1, w2, w3, w8, w9, w13, MonW.i64_wf w4, MonW.i64_wf w5, MonW.i64_wf w6, MonW.i64_wf w7, MonW.i64_wf w11⟩, s10⟩
/-- What a case's parts must keep. -/
structure CaseOk (id op pr : ByteArray) (r : Rec) (t : Trf) (m : Int) : Prop where
  h1 : id.size ≤ maxLen
  h2 : op.size ≤ maxLen
  h3 : pr.size ≤ maxLen
  ho : r.ok
  hid : t.id.size ≤ maxLen
  hcur : t.cur.size ≤ maxLen
  hm : I64 m
  hl : I64 t.least
  hmo : I64 t.most
  hs1 : I64 r.start
  hs2 : I64 r.stop
  hs3 : I64 r.en
set_option maxRecDepth 20000 in
theorem open_case {H : Type} {enc : TypeId × Value → H} {w : World} {base : Nat} {spare : Nat → Bool} {held : Bool} {fuel : Nat} {cs : List Value} {y : DataW H × List MemPlace}
    (h : DataW.trod enc Tryz.prog w base spare held fuel 40 cs = some y) : ∃ (id op pr : ByteArray) (r : Rec) (u : Value) (t : Trf) (v : Value) (z : Int) (s : Bool) (m : Int), cs = (caseA id op pr r u t v z s m).toList ∧ RdgsAt w u r.rds ∧ ElemsAt w v t.els ∧ CaseOk id op pr r t m := by
  have hl := trod_len Tryz.underlying40 h
  rw [show Tryz.prog.cellsOf 40 = 25 by kernel_rfl] at hl
  match cs, hl with
  | [c0, c1, c2, c3, c4, c5, c6, c7, c8, c9, c10, c11, c12, c13, c14, c15, c16, c17, c18, c19, c20, c21, c22, c23, c24], _ =>
    obtain ⟨m0, y0, k0⟩ := trod_fieldT Tryz.underlying40 h 0 _ rfl 9 0 1 rfl rfl (by kernel_rfl)
    simp only [List.drop_zero, List.drop_succ_cons, List.take_succ_cons, List.take_zero] at k0
    obtain ⟨n0, e0, _, w0⟩ := DataW.trod_string Tryz.underlying9 k0
    obtain rfl : c0 = .string n0 := by simpa using e0
    obtain ⟨m1, y1, k1⟩ := trod_fieldT Tryz.underlying40 h 1 _ rfl 9 1 1 rfl rfl (by kernel_rfl)
    simp only [List.drop_zero, List.drop_succ_cons, List.take_succ_cons, List.take_zero] at k1
    obtain ⟨n1, e1, _, w1⟩ := DataW.trod_string Tryz.underlying9 k1
    obtain rfl : c1 = .string n1 := by simpa using e1
    obtain ⟨m2, y2, k2⟩ := trod_fieldT Tryz.underlying40 h 2 _ rfl 9 2 1 rfl rfl (by kernel_rfl)
    simp only [List.drop_zero, List.drop_succ_cons, List.take_succ_cons, List.take_zero] at k2
    obtain ⟨n2, e2, _, w2⟩ := DataW.trod_string Tryz.underlying9 k2
    obtain rfl : c2 = .string n2 := by simpa using e2
    obtain ⟨m3, y3, k3⟩ := trod_fieldT Tryz.underlying40 h 3 _ rfl 31 3 11 rfl rfl (by kernel_rfl)
    simp only [List.drop_zero, List.drop_succ_cons, List.take_succ_cons, List.take_zero] at k3
    obtain ⟨m4, y4, k4⟩ := trod_fieldT Tryz.underlying31 k3 0 _ rfl 9 0 1 rfl rfl (by kernel_rfl)
    simp only [List.drop_zero, List.drop_succ_cons, List.take_succ_cons, List.take_zero] at k4
    obtain ⟨n4, e4, _, w4⟩ := DataW.trod_string Tryz.underlying9 k4
    obtain rfl : c3 = .string n4 := by simpa using e4
    obtain ⟨m5, y5, k5⟩ := trod_fieldT Tryz.underlying31 k3 1 _ rfl 9 1 1 rfl rfl (by kernel_rfl)
    simp only [List.drop_zero, List.drop_succ_cons, List.take_succ_cons, List.take_zero] at k5
    obtain ⟨n5, e5, _, w5⟩ := DataW.trod_string Tryz.underlying9 k5
    obtain rfl : c4 = .string n5 := by simpa using e5
    obtain ⟨m6, y6, k6⟩ := trod_fieldT Tryz.underlying31 k3 2 _ rfl 3 2 1 rfl rfl (by kernel_rfl)
    simp only [List.drop_zero, List.drop_succ_cons, List.take_succ_cons, List.take_zero] at k6
    obtain ⟨n6, e6, _, w6⟩ := DataW.trod_int Tryz.underlying3 k6
    obtain rfl : c5 = .int .i64 n6 := by simpa using e6
    obtain ⟨m7, y7, k7⟩ := trod_fieldT Tryz.underlying31 k3 3 _ rfl 9 3 1 rfl rfl (by kernel_rfl)
    simp only [List.drop_zero, List.drop_succ_cons, List.take_succ_cons, List.take_zero] at k7
    obtain ⟨n7, e7, _, w7⟩ := DataW.trod_string Tryz.underlying9 k7
    obtain rfl : c6 = .string n7 := by simpa using e7
    obtain ⟨m8, y8, k8⟩ := trod_fieldT Tryz.underlying31 k3 4 _ rfl 3 4 1 rfl rfl (by kernel_rfl)
    simp only [List.drop_zero, List.drop_succ_cons, List.take_succ_cons, List.take_zero] at k8
    obtain ⟨n8, e8, _, w8⟩ := DataW.trod_int Tryz.underlying3 k8
    obtain rfl : c7 = .int .i64 n8 := by simpa using e8
    obtain ⟨m9, y9, k9⟩ := trod_fieldT Tryz.underlying31 k3 5 _ rfl 3 5 1 rfl rfl (by kernel_rfl)
    simp only [List.drop_zero, List.drop_succ_cons, List.take_succ_cons, List.take_zero] at k9
    obtain ⟨n9, e9, _, w9⟩ := DataW.trod_int Tryz.underlying3 k9
    obtain rfl : c8 = .int .i64 n9 := by simpa using e9
    obtain ⟨m10, y10, k10⟩ := trod_fieldT Tryz.underlying31 k3 6 _ rfl 29 6 1 rfl rfl (by kernel_rfl)
    simp only [List.drop_zero, List.drop_succ_cons, List.take_succ_cons, List.take_zero] at k10
    obtain ⟨v10, xs10, e10, s10⟩ := open_rdgs k10
    obtain rfl : c9 = v10 := by simpa using e10
    obtain ⟨m11, y11, k11⟩ := trod_fieldT Tryz.underlying31 k3 7 _ rfl 3 7 1 rfl rfl (by kernel_rfl)
    simp only [List.drop_zero, List.drop_succ_cons, List.take_succ_cons, List.take_zero] at k11
    obtain ⟨n11, e11, _, w11⟩ := DataW.trod_int Tryz.underlying3 k11
    obtain rfl : c10 = .int .i64 n11 := by simpa using e11
    obtain ⟨m12, y12, k12⟩ := trod_fieldT Tryz.underlying31 k3 8 _ rfl 3 8 1 rfl rfl (by kernel_rfl)
    simp only [List.drop_zero, List.drop_succ_cons, List.take_succ_cons, List.take_zero] at k12
    obtain ⟨n12, e12, _, w12⟩ := DataW.trod_int Tryz.underlying3 k12
    obtain rfl : c11 = .int .i64 n12 := by simpa using e12
    obtain ⟨m13, y13, k13⟩ := trod_fieldT Tryz.underlying31 k3 9 _ rfl 4 9 1 rfl rfl (by kernel_rfl)
    simp only [List.drop_zero, List.drop_succ_cons, List.take_succ_cons, List.take_zero] at k13
    obtain ⟨n13, e13, _⟩ := DataW.trod_bool Tryz.underlying4 k13
    obtain rfl : c12 = .bool n13 := by simpa using e13
    obtain ⟨m14, y14, k14⟩ := trod_fieldT Tryz.underlying31 k3 10 _ rfl 4 10 1 rfl rfl (by kernel_rfl)
    simp only [List.drop_zero, List.drop_succ_cons, List.take_succ_cons, List.take_zero] at k14
    obtain ⟨n14, e14, _⟩ := DataW.trod_bool Tryz.underlying4 k14
    obtain rfl : c13 = .bool n14 := by simpa using e14
    obtain ⟨m15, y15, k15⟩ := trod_fieldT Tryz.underlying40 h 4 _ rfl 36 14 8 rfl rfl (by kernel_rfl)
    simp only [List.drop_zero, List.drop_succ_cons, List.take_succ_cons, List.take_zero] at k15
    obtain ⟨m16, y16, k16⟩ := trod_fieldT Tryz.underlying36 k15 0 _ rfl 9 0 1 rfl rfl (by kernel_rfl)
    simp only [List.drop_zero, List.drop_succ_cons, List.take_succ_cons, List.take_zero] at k16
    obtain ⟨n16, e16, _, w16⟩ := DataW.trod_string Tryz.underlying9 k16
    obtain rfl : c14 = .string n16 := by simpa using e16
    obtain ⟨m17, y17, k17⟩ := trod_fieldT Tryz.underlying36 k15 1 _ rfl 9 1 1 rfl rfl (by kernel_rfl)
    simp only [List.drop_zero, List.drop_succ_cons, List.take_succ_cons, List.take_zero] at k17
    obtain ⟨n17, e17, _, w17⟩ := DataW.trod_string Tryz.underlying9 k17
    obtain rfl : c15 = .string n17 := by simpa using e17
    obtain ⟨m18, y18, k18⟩ := trod_fieldT Tryz.underlying36 k15 2 _ rfl 3 2 1 rfl rfl (by kernel_rfl)
    simp only [List.drop_zero, List.drop_succ_cons, List.take_succ_cons, List.take_zero] at k18
    obtain ⟨n18, e18, _, w18⟩ := DataW.trod_int Tryz.underlying3 k18
    obtain rfl : c16 = .int .i64 n18 := by simpa using e18
    obtain ⟨m19, y19, k19⟩ := trod_fieldT Tryz.underlying36 k15 3 _ rfl 33 3 2 rfl rfl (by kernel_rfl)
    simp only [List.drop_zero, List.drop_succ_cons, List.take_succ_cons, List.take_zero] at k19
    obtain ⟨m20, y20, k20⟩ := trod_fieldT Tryz.underlying33 k19 0 _ rfl 3 0 1 rfl rfl (by kernel_rfl)
    simp only [List.drop_zero, List.drop_succ_cons, List.take_succ_cons, List.take_zero] at k20
    obtain ⟨n20, e20, _, w20⟩ := DataW.trod_int Tryz.underlying3 k20
    obtain rfl : c17 = .int .i64 n20 := by simpa using e20
    obtain ⟨m21, y21, k21⟩ := trod_fieldT Tryz.underlying33 k19 1 _ rfl 3 1 1 rfl rfl (by kernel_rfl)
    simp only [List.drop_zero, List.drop_succ_cons, List.take_succ_cons, List.take_zero] at k21
    obtain ⟨n21, e21, _, w21⟩ := DataW.trod_int Tryz.underlying3 k21
    obtain rfl : c18 = .int .i64 n21 := by simpa using e21
    obtain ⟨m22, y22, k22⟩ := trod_fieldT Tryz.underlying36 k15 4 _ rfl 34 5 1 rfl rfl (by kernel_rfl)
    simp only [List.drop_zero, List.drop_succ_cons, List.take_succ_cons, List.take_zero] at k22
    obtain ⟨v22, xs22, e22, s22⟩ := TarW.open_elems k22
    obtain rfl : c19 = v22 := by simpa using e22
    obtain ⟨m23, y23, k23⟩ := trod_fieldT Tryz.underlying36 k15 5 _ rfl 3 6 1 rfl rfl (by kernel_rfl)
    simp only [List.drop_zero, List.drop_succ_cons, List.take_succ_cons, List.take_zero] at k23
    obtain ⟨n23, e23, _, w23⟩ := DataW.trod_int Tryz.underlying3 k23
    obtain rfl : c20 = .int .i64 n23 := by simpa using e23
    obtain ⟨m24, y24, k24⟩ := trod_fieldT Tryz.underlying36 k15 6 _ rfl 3 7 1 rfl rfl (by kernel_rfl)
    simp only [List.drop_zero, List.drop_succ_cons, List.take_succ_cons, List.take_zero] at k24
    obtain ⟨n24, e24, _, w24⟩ := DataW.trod_int Tryz.underlying3 k24
    obtain rfl : c21 = .int .i64 n24 := by simpa using e24
    obtain ⟨m25, y25, k25⟩ := trod_fieldT Tryz.underlying40 h 5 _ rfl 38 22 2 rfl rfl (by kernel_rfl)
    simp only [List.drop_zero, List.drop_succ_cons, List.take_succ_cons, List.take_zero] at k25
    obtain ⟨m26, y26, k26⟩ := trod_fieldT Tryz.underlying38 k25 0 _ rfl 3 0 1 rfl rfl (by kernel_rfl)
    simp only [List.drop_zero, List.drop_succ_cons, List.take_succ_cons, List.take_zero] at k26
    obtain ⟨n26, e26, _, w26⟩ := DataW.trod_int Tryz.underlying3 k26
    obtain rfl : c22 = .int .i64 n26 := by simpa using e26
    obtain ⟨m27, y27, k27⟩ := trod_fieldT Tryz.underlying38 k25 1 _ rfl 4 1 1 rfl rfl (by kernel_rfl)
    simp only [List.drop_zero, List.drop_succ_cons, List.take_succ_cons, List.take_zero] at k27
    obtain ⟨n27, e27, _⟩ := DataW.trod_bool Tryz.underlying4 k27
    obtain rfl : c23 = .bool n27 := by simpa using e27
    obtain ⟨m28, y28, k28⟩ := trod_fieldT Tryz.underlying40 h 6 _ rfl 3 24 1 rfl rfl (by kernel_rfl)
    simp only [List.drop_zero, List.drop_succ_cons, List.take_succ_cons, List.take_zero] at k28
    obtain ⟨n28, e28, _, w28⟩ := DataW.trod_int Tryz.underlying3 k28
    obtain rfl : c24 = .int .i64 n28 := by simpa using e28
    exact ⟨n0, n1, n2, ⟨n4, n5, n6, n7, n8, n9, xs10, n11, n12, n13, n14⟩, c9, ⟨n16, n17, n18, n20, n21, xs22, n23, n24⟩, c19, n26, n27, n28, rfl, s10, s22, ⟨w0, w1, w2, ⟨w4, w5, w7⟩, w16, w17, MonW.i64_wf w28, MonW.i64_wf w23, MonW.i64_wf w24, MonW.i64_wf w8, MonW.i64_wf w9, MonW.i64_wf w11⟩⟩

section
variable {H : Type} {enc : TypeId × Value → H} {w : World} {base b0 : Nat} {spare : Nat → Bool} {held : Bool} {r : Reach} {v : Value} {d : DataW H} {p : List MemPlace}
set_option maxRecDepth 20000 in
theorem arg_cdr (hv : Value.okWide Tryz.prog w r b0 24 v) (h : DataW.Trod enc Tryz.prog w base spare held 24 v d p) : ∃ (c : CDR) (A : Option Addr) (n k : Nat), v = .agg (cdrA c (.slice A n k)) ∧ c.ok ∧ ItmsAt w (.slice A n k) c.items := by
  obtain ⟨⟨cs⟩, rfl, hsz⟩ := okWide_struct Tryz.underlying24 hv
  obtain ⟨fuel, hf⟩ := h
  obtain ⟨c, u, hx, h1, h2⟩ := open_cdr hf
  have e : cs = (cdrA c u).toList := hx
  subst e
  obtain ⟨A, k, rfl, _, _⟩ := SliceAt.form h2
  exact ⟨c, A, _, k, rfl, h1, h2⟩
set_option maxRecDepth 20000 in
theorem arg_case (hv : Value.okWide Tryz.prog w r b0 40 v) (h : DataW.Trod enc Tryz.prog w base spare held 40 v d p) :
    ∃ (id op pr : ByteArray) (r : Rec) (A : Option Addr) (n k : Nat) (t : Trf) (A' : Option Addr) (n' k' : Nat) (z : Int) (s : Bool) (m : Int), v = .agg (caseA id op pr r (.slice A n k) t (.slice A' n' k') z s m) ∧ RdgsAt w (.slice A n k) r.rds ∧ ElemsAt w (.slice A' n' k') t.els ∧ CaseOk id op pr r t m := by
  obtain ⟨⟨cs⟩, rfl, hsz⟩ := okWide_struct Tryz.underlying40 hv
  obtain ⟨fuel, hf⟩ := h
  obtain ⟨id, op, pr, r, u, t, v, z, s, m, hx, h1, h2, h3⟩ := open_case hf
  have e : cs = (caseA id op pr r u t v z s m).toList := hx
  subst e
  obtain ⟨A, k, rfl, _, _⟩ := SliceAt.form h1
  obtain ⟨A', k', rfl, _, _⟩ := SliceAt.form h2
  exact ⟨id, op, pr, r, A, _, k, t, A', _, k', z, s, m, rfl, h1, h2, h3⟩
end
end Ex
end Go.Proofs.YtpmcdjpfolgpiaaGreatDoor
