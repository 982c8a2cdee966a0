/-
  The arguments of the tariff laws, opened to data. (Printed by gen41b.py.)
-/
import Derived.Test.YtkooekdcegfapaaDoorTarL
import Derived.Lib.SmallJoins
namespace Go.Proofs.YtkooekdcegfapaaDoor
namespace TarW
set_option linter.unusedSimpArgs false
set_option linter.unusedVariables false
open Go.RowKit CalW Go.ChangeShapes Go.WideShapes Go.Deep Go.Joins

theorem open_when {H : Type} {enc : TypeId × Value → H} {w : World} {base : Nat} {spare : Nat → Bool} {held : Bool} {fuel : Nat} {cs : List Value} {y : DataW H × List MemPlace}
    (h : DataW.trod enc Tryd.prog w base spare held fuel 32 cs = some y) : ∃ x : Tar.Wh, cs = whL x := by
  have hl := trod_len Tryd.underlying32 h
  rw [show Tryd.prog.cellsOf 32 = 11 by kernel_rfl] at hl
  match cs, hl with
  | [c0, c1, c2, c3, c4, c5, c6, c7, c8, c9, c10], _ =>
    obtain ⟨m0, y0, k0⟩ := trod_fieldT Tryd.underlying32 h 0 _ rfl 3 0 1 rfl rfl (by kernel_rfl)
    simp only [List.drop_zero, List.drop_succ_cons, List.take_succ_cons, List.take_zero] at k0
    obtain ⟨n0, e0, _, w0⟩ := DataW.trod_int Tryd.underlying3 k0
    obtain rfl : c0 = .int .i64 n0 := by simpa using e0
    obtain ⟨m1, y1, k1⟩ := trod_fieldT Tryd.underlying32 h 1 _ rfl 3 1 1 rfl rfl (by kernel_rfl)
    simp only [List.drop_zero, List.drop_succ_cons, List.take_succ_cons, List.take_zero] at k1
    obtain ⟨n1, e1, _, w1⟩ := DataW.trod_int Tryd.underlying3 k1
    obtain rfl : c1 = .int .i64 n1 := by simpa using e1
    obtain ⟨m2, y2, k2⟩ := trod_fieldT Tryd.underlying32 h 2 _ rfl 3 2 1 rfl rfl (by kernel_rfl)
    simp only [List.drop_zero, List.drop_succ_cons, List.take_succ_cons, List.take_zero] at k2
    obtain ⟨n2, e2, _, w2⟩ := DataW.trod_int Tryd.underlying3 k2
    obtain rfl : c2 = .int .i64 n2 := by simpa using e2
    obtain ⟨m3, y3, k3⟩ := trod_fieldT Tryd.underlying32 h 3 _ rfl 3 3 1 rfl rfl (by kernel_rfl)
    simp only [List.drop_zero, List.drop_succ_cons, List.take_succ_cons, List.take_zero] at k3
    obtain ⟨n3, e3, _, w3⟩ := DataW.trod_int Tryd.underlying3 k3
    obtain rfl : c3 = .int .i64 n3 := by simpa using e3
    obtain ⟨m4, y4, k4⟩ := trod_fieldT Tryd.underlying32 h 4 _ rfl 3 4 1 rfl rfl (by kernel_rfl)
    simp only [List.drop_zero, List.drop_succ_cons, List.take_succ_cons, List.take_zero] at k4
    obtain ⟨n4, e4, _, w4⟩ := DataW.trod_int Tryd.underlying3 k4
    obtain rfl : c4 = .int .i64 n4 := by simpa using e4
    obtain ⟨m5, y5, k5⟩ := trod_fieldT Tryd.underlying32 h 5 _ rfl 3 5 1 rfl rfl (by kernel_rfl)
    simp only [List.drop_zero, List.drop_succ_cons, List.take_succ_cons, List.take_zero] at k5
    obtain ⟨n5, e5, _, w5⟩ := DataW.trod_int Tryd.underlying3 k5
    obtain rfl : c5 = .int .i64 n5 := by simpa using e5
    obtain ⟨m6, y6, k6⟩ := trod_fieldT Tryd.underlying32 h 6 _ rfl 3 6 1 rfl rfl (by kernel_rfl)
    simp only [List.drop_zero, List.drop_succ_cons, List.take_succ_cons, List.take_zero] at k6
    obtain ⟨n6, e6, _, w6⟩ := DataW.trod_int Tryd.underlying3 k6
    obtain rfl : c6 = .int .i64 n6 := by simpa using e6
    obtain ⟨m7, y7, k7⟩ := trod_fieldT Tryd.underlying32 h 7 _ rfl 3 7 1 rfl rfl (by kernel_rfl)
    simp only [List.drop_zero, List.drop_succ_cons, List.take_succ_cons, List.take_zero] at k7
    obtain ⟨n7, e7, _, w7⟩ := DataW.trod_int Tryd.underlying3 k7
    obtain rfl : c7 = .int .i64 n7 := by simpa using e7
    obtain ⟨m8, y8, k8⟩ := trod_fieldT Tryd.underlying32 h 8 _ rfl 3 8 1 rfl rfl (by kernel_rfl)
    simp only [List.drop_zero, List.drop_succ_cons, List.take_succ_cons, List.take_zero] at k8
    obtain ⟨n8, e8, _, w8⟩ := DataW.trod_int Tryd.underlying3 k8
    obtain rfl : c8 = .int .i64 n8 := by simpa using e8
    obtain ⟨m9, y9, k9⟩ := trod_fieldT Tryd.underlying32 h 9 _ rfl 3 9 1 rfl rfl (by kernel_rfl)
    simp only [List.drop_zero, List.drop_succ_cons, List.take_succ_cons, List.take_zero] at k9
    obtain ⟨n9, e9, _, w9⟩ := DataW.trod_int Tryd.underlying3 k9
    obtain rfl : c9 = .int .i64 n9 := by simpa using e9
    obtain ⟨m10, y10, k10⟩ := trod_fieldT Tryd.underlying32 h 10 _ rfl 3 10 1 rfl rfl (by kernel_rfl)
    simp only [List.drop_zero, List.drop_succ_cons, List.take_succ_cons, List.take_zero] at k10
    obtain ⟨n10, e10, _, w10⟩ := DataW.trod_int Tryd.underlying3 k10
    obtain rfl : c10 = .int .i64 n10 := by simpa using e10
    exact ⟨⟨n0, n1, n2, n3, n4, n5, n6, n7, n8, n9, n10⟩, rfl⟩
theorem open_case {H : Type} {enc : TypeId × Value → H} {w : World} {base : Nat} {spare : Nat → Bool} {held : Bool} {fuel : Nat} {cs : List Value} {y : DataW H × List MemPlace}
    (h : DataW.trod enc Tryd.prog w base spare held fuel 36 cs = some y) : ∃ x : Cs, cs = (caseA x).toList := by
  have hl := trod_len Tryd.underlying36 h
  rw [show Tryd.prog.cellsOf 36 = 7 by kernel_rfl] at hl
  match cs, hl with
  | [c0, c1, c2, c3, c4, c5, c6], _ =>
    obtain ⟨m0, y0, k0⟩ := trod_fieldT Tryd.underlying36 h 0 _ rfl 34 0 2 rfl rfl (by kernel_rfl)
    simp only [List.drop_zero, List.drop_succ_cons, List.take_succ_cons, List.take_zero] at k0
    obtain ⟨m1, y1, k1⟩ := trod_fieldT Tryd.underlying34 k0 0 _ rfl 3 0 1 rfl rfl (by kernel_rfl)
    simp only [List.drop_zero, List.drop_succ_cons, List.take_succ_cons, List.take_zero] at k1
    obtain ⟨n1, e1, _, w1⟩ := DataW.trod_int Tryd.underlying3 k1
    obtain rfl : c0 = .int .i64 n1 := by simpa using e1
    obtain ⟨m2, y2, k2⟩ := trod_fieldT Tryd.underlying34 k0 1 _ rfl 4 1 1 rfl rfl (by kernel_rfl)
    simp only [List.drop_zero, List.drop_succ_cons, List.take_succ_cons, List.take_zero] at k2
    obtain ⟨n2, e2, _⟩ := DataW.trod_bool Tryd.underlying4 k2
    obtain rfl : c1 = .bool n2 := by simpa using e2
    obtain ⟨m3, y3, k3⟩ := trod_fieldT Tryd.underlying36 h 1 _ rfl 3 2 1 rfl rfl (by kernel_rfl)
    simp only [List.drop_zero, List.drop_succ_cons, List.take_succ_cons, List.take_zero] at k3
    obtain ⟨n3, e3, _, w3⟩ := DataW.trod_int Tryd.underlying3 k3
    obtain rfl : c2 = .int .i64 n3 := by simpa using e3
    obtain ⟨m4, y4, k4⟩ := trod_fieldT Tryd.underlying36 h 2 _ rfl 3 3 1 rfl rfl (by kernel_rfl)
    simp only [List.drop_zero, List.drop_succ_cons, List.take_succ_cons, List.take_zero] at k4
    obtain ⟨n4, e4, _, w4⟩ := DataW.trod_int Tryd.underlying3 k4
    obtain rfl : c3 = .int .i64 n4 := by simpa using e4
    obtain ⟨m5, y5, k5⟩ := trod_fieldT Tryd.underlying36 h 3 _ rfl 3 4 1 rfl rfl (by kernel_rfl)
    simp only [List.drop_zero, List.drop_succ_cons, List.take_succ_cons, List.take_zero] at k5
    obtain ⟨n5, e5, _, w5⟩ := DataW.trod_int Tryd.underlying3 k5
    obtain rfl : c4 = .int .i64 n5 := by simpa using e5
    obtain ⟨m6, y6, k6⟩ := trod_fieldT Tryd.underlying36 h 4 _ rfl 3 5 1 rfl rfl (by kernel_rfl)
    simp only [List.drop_zero, List.drop_succ_cons, List.take_succ_cons, List.take_zero] at k6
    obtain ⟨n6, e6, _, w6⟩ := DataW.trod_int Tryd.underlying3 k6
    obtain rfl : c5 = .int .i64 n6 := by simpa using e6
    obtain ⟨m7, y7, k7⟩ := trod_fieldT Tryd.underlying36 h 5 _ rfl 3 6 1 rfl rfl (by kernel_rfl)
    simp only [List.drop_zero, List.drop_succ_cons, List.take_succ_cons, List.take_zero] at k7
    obtain ⟨n7, e7, _, w7⟩ := DataW.trod_int Tryd.underlying3 k7
    obtain rfl : c6 = .int .i64 n7 := by simpa using e7
    exact ⟨⟨n1, n2, n3, n4, n5, n6, n7⟩, rfl⟩

section
variable {H : Type} {enc : TypeId × Value → H} {w : World} {base b0 : Nat} {spare : Nat → Bool} {held : Bool} {r : Reach} {v : Value} {d : DataW H} {p : List MemPlace}
theorem arg_when (hv : Value.okWide Tryd.prog w r b0 32 v) (h : DataW.Trod enc Tryd.prog w base spare held 32 v d p) : ∃ x : Tar.Wh, v = .agg (wh x) := by
  obtain ⟨⟨cs⟩, rfl, hsz⟩ := okWide_struct Tryd.underlying32 hv
  obtain ⟨fuel, hf⟩ := h
  obtain ⟨x, hx⟩ := open_when hf
  have e : cs = whL x := hx
  subst e
  exact ⟨x, rfl⟩
theorem arg_case (hv : Value.okWide Tryd.prog w r b0 36 v) (h : DataW.Trod enc Tryd.prog w base spare held 36 v d p) : ∃ x : Cs, v = .agg (caseA x) := by
  obtain ⟨⟨cs⟩, rfl, hsz⟩ := okWide_struct Tryd.underlying36 hv
  obtain ⟨fuel, hf⟩ := h
  obtain ⟨x, hx⟩ := open_case hf
  have e : cs = (caseA x).toList := hx
  subst e
  exact ⟨x, rfl⟩
theorem arg_trf (hv : Value.okWide Tryd.prog w r b0 26 v) (h : DataW.Trod enc Tryd.prog w base spare held 26 v d p) : ∃ (t : Trf) (u : Value), v = trfV t u ∧ ElemsAt w u t.els ∧ t.id.size ≤ maxLen ∧ t.cur.size ≤ maxLen := by
  obtain ⟨⟨cs⟩, rfl, hsz⟩ := okWide_struct Tryd.underlying26 hv
  obtain ⟨fuel, hf⟩ := h
  obtain ⟨t, u, hx, h1, h2, h3⟩ := open_trf hf
  have e : cs = [.string t.id, .string t.cur, i t.ver, i t.fr, i t.to, u, i t.least, i t.most] := hx
  subst e
  exact ⟨t, u, rfl, h1, h2, h3⟩
theorem arg_elem (hv : Value.okWide Tryd.prog w r b0 49 v) (h : DataW.Trod enc Tryd.prog w base spare held 49 v d p) : ∃ (x : Elem) (u : Value), v = elemV u x.wh ∧ CompsAt w u x.cs := by
  obtain ⟨⟨cs⟩, rfl, hsz⟩ := okWide_struct Tryd.underlying49 hv
  obtain ⟨fuel, hf⟩ := h
  obtain ⟨x, u, hx, h1⟩ := open_elem hf
  have e : cs = u :: whL x.wh := hx
  subst e
  exact ⟨x, u, rfl, h1⟩
theorem arg_trfs (hv : Value.okWide Tryd.prog w r b0 55 v) (h : DataW.Trod enc Tryd.prog w base spare held 55 v d p) : ∃ ts : List Trf, TrfsAt w v ts := by
  obtain ⟨a, l, c, rfl⟩ := okWide_slice Tryd.underlying55 hv
  obtain ⟨fuel, hf⟩ := h
  obtain ⟨v', xs, e, h1⟩ := open_trfs hf
  have e' : v' = .slice a l c := by
    have : [Value.slice a l c] = [v'] := e
    simpa using this.symm
  subst e'
  exact ⟨xs, h1⟩
end
end TarW
end Go.Proofs.YtkooekdcegfapaaDoor
