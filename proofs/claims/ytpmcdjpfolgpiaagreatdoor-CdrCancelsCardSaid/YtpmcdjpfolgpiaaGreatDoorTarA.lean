/-
  The walks of package tariff: restrictions.
  The data of tariffs: components, elements, tariffs in memory, read as lists. (Printed by gen41.py.)
-/
import Derived.Test.YtpmcdjpfolgpiaaGreatDoorCalB
import Derived.Test.YtpmcdjpfolgpiaaGreatDoorBase
namespace Go.Proofs.YtpmcdjpfolgpiaaGreatDoor
namespace TarW
set_option linter.unusedSimpArgs false
set_option linter.unusedVariables false
open Go.RowKit CalW

abbrev wh (w : Tar.Wh) : Array Value := #[i w.s, i w.e, i w.d, i w.f, i w.t, i w.e0, i w.e1, i w.p0, i w.p1, i w.t0, i w.t1]

theorem bits_ne (a : Int) (h : 0 ≤ a) (h' : a ≤ 1000000) : (bits .and .i64 a 1 == 1) = (bits .and .i64 a 1 != 0) := by
  rw [and_one a h h']
  rcases (by omega : a % 2 = 0 ∨ a % 2 = 1) with e | e <;> rw [e] <;> rfl

set_option maxHeartbeats 400000 in
theorem onDay (days v : Int) (w : World) (hv : 1 ≤ v) (hv' : v ≤ 7) {b : Bool} (hb : Tar.onW days v = b) :
    Calls Tryz.prog 178 #[i days, i v] w fun e w' => e = .returned (.bool b) ∧ w = w' := by
  subst hb
  have db := Tar.dset_bd days
  by_cases hd : Tar.dset days = 0
  · have hd1 : (bits .and .i64 days 127 == 0) = true := by simpa [Tar.dset] using hd
    have e : Tar.onW days v = true := by unfold Tar.onW; rw [hd]; exact onD_zero _
    rw [e]
    clear hd e
    go_enter Tryz.func178, Tryz.ntmps178
    go_wp2
    all_goals go_ret
    all_goals exact ⟨rfl, rfl⟩
  · have hd1 : (bits .and .i64 days 127 == 0) = false := by simpa [Tar.dset] using hd
    have HD := Lib.hid hd
    clear hd
    unfold Tar.dset at db
    go_enter Tryz.func178, Tryz.ntmps178
    go_wp2
    all_goals go_ret
    all_goals refine ⟨retB ?_, rfl⟩
    all_goals
      unfold Tar.onW
      refine (onD_bits (Tar.dset days) v db.1 db.2 hv HD.out ?_).symm
      exact bits_ne (Tar.dset days / 2 ^ (v.toNat - 1)) (shr_bd _ _ db.1 db.2).1 (by have := (shr_bd (Tar.dset days) (v.toNat - 1) db.1 db.2).2; omega)

theorem hours_eq (w : Tar.Wh) (v mi : Int) (h : w.s = w.e) : Tar.hours w v mi = Tar.onW w.d v := by unfold Tar.hours; rw [if_pos h]
theorem hours_lt (w : Tar.Wh) (v mi : Int) (h : w.s < w.e) : Tar.hours w v mi = (Tar.onW w.d v && decide (w.s ≤ mi) && decide (mi < w.e)) := by unfold Tar.hours; rw [if_neg (by omega), if_pos h]
theorem hours_gt (w : Tar.Wh) (v mi : Int) (h : w.e < w.s) : Tar.hours w v mi = ((Tar.onW w.d v && decide (w.s ≤ mi)) || (Tar.onW w.d ((v + 5) % 7 + 1) && decide (mi < w.e))) := by unfold Tar.hours; rw [if_neg (by omega), if_neg (by omega)]

set_option maxHeartbeats 1600000 in
theorem inHours (x : Tar.Wh) (v mi : Int) (w : World) (hv : 1 ≤ v) (hv' : v ≤ 7) {b : Bool} (hb : Tar.hours x v mi = b) :
    Calls Tryz.prog 170 #[.agg (wh x), i v, i mi] w fun e w' => e = .returned (.bool b) ∧ Below w.heap.size w w' := by
  subst hb
  rcases Int.lt_trichotomy x.s x.e with h | h | h
  · have n1 : (x.s == x.e) = false := by simp; omega
    rw [hours_lt x v mi h]
    cases ho : Tar.onW x.d v
    all_goals
      have HO := Lib.hid ho
      clear ho
      go_enter Tryz.func170, Tryz.ntmps170
      go_wp2_with (go_at_call 178; refine (onDay _ _ _ (by omega) (by omega) HO.out).mono ?_; rintro e w' ⟨rfl, rfl⟩)
    all_goals go_ret
    all_goals refine ⟨retB ?_, below_new _ _⟩
    all_goals first | rfl | (simp; done) | (simp; omega) | (rw [Bool.eq_iff_iff]; simp; omega)
  · have n1 : (x.s == x.e) = true := by simpa using h
    rw [hours_eq x v mi h]
    have HO := Lib.hid (rfl : Tar.onW x.d v = Tar.onW x.d v)
    clear h
    go_enter Tryz.func170, Tryz.ntmps170
    go_wp2_with (go_at_call 178; refine (onDay _ _ _ (by omega) (by omega) HO.out).mono ?_; rintro e w' ⟨rfl, rfl⟩)
    all_goals go_ret
    all_goals exact ⟨rfl, below_new _ _⟩
  · have n1 : (x.s == x.e) = false := by simp; omega
    have hy : 1 ≤ (v + 5) % 7 + 1 := by omega
    have hy' : (v + 5) % 7 + 1 ≤ 7 := by omega
    rw [hours_gt x v mi h]
    cases ho : Tar.onW x.d v <;> cases hq : Tar.onW x.d ((v + 5) % 7 + 1) <;> by_cases hm : x.s ≤ mi
    all_goals
      have HO := Lib.hid ho
      have HQ := Lib.hid hq
      clear ho hq
      go_enter Tryz.func170, Tryz.ntmps170
      go_wp2_with fail
      refine (onDay _ _ _ (by omega) (by omega) HO.out).mono ?_
      rintro e w' ⟨rfl, rfl⟩
      go_wp2_with (go_at_call 178; refine (onDay _ _ _ (by omega) (by omega) HQ.out).mono ?_; rintro e w' ⟨rfl, rfl⟩)
    all_goals go_ret
    all_goals refine ⟨retB ?_, below_new _ _⟩
    all_goals first | rfl | (simp; done) | (simp; omega) | (rw [Bool.eq_iff_iff]; simp; omega)
end TarW
end Go.Proofs.YtpmcdjpfolgpiaaGreatDoor

namespace Go.Proofs.YtpmcdjpfolgpiaaGreatDoor
namespace TarW
set_option linter.unusedSimpArgs false
set_option linter.unusedVariables false
open Go.RowKit CalW Go.ChangeShapes Go.WideShapes Go.Deep

structure Comp where
  (kind price step tax : Int)
structure Elem where
  (cs : List Comp)
  (wh : Tar.Wh)
structure Trf where
  (id cur : ByteArray)
  (ver fr to : Int)
  (els : List Elem)
  (least most : Int)

def compL (c : Comp) : List Value := [i c.kind, i c.price, i c.step, i c.tax]
abbrev compV (c : Comp) : Value := .agg #[i c.kind, i c.price, i c.step, i c.tax]
def whL (w : Tar.Wh) : List Value := [i w.s, i w.e, i w.d, i w.f, i w.t, i w.e0, i w.e1, i w.p0, i w.p1, i w.t0, i w.t1]
abbrev elemV (u : Value) (w : Tar.Wh) : Value := .agg #[u, i w.s, i w.e, i w.d, i w.f, i w.t, i w.e0, i w.e1, i w.p0, i w.p1, i w.t0, i w.t1]
abbrev trfV (t : Trf) (u : Value) : Value := .agg #[.string t.id, .string t.cur, i t.ver, i t.fr, i t.to, u, i t.least, i t.most]
def CompR (r : List Value) (c : Comp) : Prop := r = compL c
def CompsAt (w : World) (v : Value) (cs : List Comp) : Prop := SliceAt CompR 4 w v cs
def ElemR (w : World) (r : List Value) (e : Elem) : Prop := ∃ u, r = u :: whL e.wh ∧ CompsAt w u e.cs
def ElemsAt (w : World) (v : Value) (es : List Elem) : Prop := SliceAt (ElemR w) 12 w v es
def TrfR (w : World) (r : List Value) (t : Trf) : Prop := ∃ u, r = [.string t.id, .string t.cur, i t.ver, i t.fr, i t.to, u, i t.least, i t.most] ∧ ElemsAt w u t.els ∧ t.id.size ≤ maxLen ∧ t.cur.size ≤ maxLen
def TrfsAt (w : World) (v : Value) (ts : List Trf) : Prop := SliceAt (TrfR w) 8 w v ts

theorem CompsAt.keep {w w' : World} {v : Value} {cs : List Comp} (h : CompsAt w v cs) (hk : Kept w w') : CompsAt w' v cs := SliceAt.keep h hk (fun _ _ h => h)
theorem ElemR.keep {w w' : World} {r : List Value} {e : Elem} (h : ElemR w r e) (hk : Kept w w') : ElemR w' r e := by
  obtain ⟨u, e, hu⟩ := h
  exact ⟨u, e, hu.keep hk⟩
theorem ElemsAt.keep {w w' : World} {v : Value} {es : List Elem} (h : ElemsAt w v es) (hk : Kept w w') : ElemsAt w' v es := SliceAt.keep h hk (fun _ _ h => h.keep hk)
theorem TrfR.keep {w w' : World} {r : List Value} {e : Trf} (h : TrfR w r e) (hk : Kept w w') : TrfR w' r e := by
  obtain ⟨u, e, hu, h1⟩ := h
  exact ⟨u, e, hu.keep hk, h1⟩
theorem TrfsAt.keep {w w' : World} {v : Value} {ts : List Trf} (h : TrfsAt w v ts) (hk : Kept w w') : TrfsAt w' v ts := SliceAt.keep h hk (fun _ _ h => h.keep hk)
theorem CompsAt.call {w w' : World} {v : Value} {cs : List Comp} (h : CompsAt w v cs) (hb : Below w.heap.size w w') : CompsAt w' v cs := h.keep (Kept.of hb)
theorem ElemsAt.call {w w' : World} {v : Value} {es : List Elem} (h : ElemsAt w v es) (hb : Below w.heap.size w w') : ElemsAt w' v es := h.keep (Kept.of hb)
theorem TrfsAt.call {w w' : World} {v : Value} {ts : List Trf} (h : TrfsAt w v ts) (hb : Below w.heap.size w w') : TrfsAt w' v ts := h.keep (Kept.of hb)

/-- Component j, in memory. -/
theorem CompsAt.at_ {w : World} {A : Option Addr} {n c j : Nat} {cs : List Comp} (h : CompsAt w (.slice A n c) cs) (hj : j < cs.length) :
    ∃ b off, A = some ⟨b, off, none⟩ ∧ b < w.heap.size ∧
      ∀ W, Kept w W → W.cell? ⟨b, off + j * 4, none⟩ = some (i cs[j].kind) ∧ W.cell? ⟨b, off + j * 4 + 1, none⟩ = some (i cs[j].price) ∧ W.cell? ⟨b, off + j * 4 + 2, none⟩ = some (i cs[j].step) ∧ W.cell? ⟨b, off + j * 4 + 3, none⟩ = some (i cs[j].tax) := by
  obtain ⟨b, off, r, rfl, hl, hr, hc⟩ := SliceAt.at_ h hj
  unfold CompR compL at hr
  subst hr
  exact ⟨b, off, rfl, World.block_lt_of_cell? w _ (hc 0 _ rfl), fun W hk => ⟨hk _ _ (hc 0 _ rfl), hk _ _ (hc 1 _ rfl), hk _ _ (hc 2 _ rfl), hk _ _ (hc 3 _ rfl)⟩⟩
/-- Element j, in memory. -/
theorem ElemsAt.at_ {w : World} {A : Option Addr} {n c j : Nat} {es : List Elem} (h : ElemsAt w (.slice A n c) es) (hj : j < es.length) :
    ∃ b off u, A = some ⟨b, off, none⟩ ∧ b < w.heap.size ∧ CompsAt w u es[j].cs ∧
      ∀ W, Kept w W → W.cell? ⟨b, off + j * 12, none⟩ = some (u) ∧ W.cell? ⟨b, off + j * 12 + 1, none⟩ = some (i es[j].wh.s) ∧ W.cell? ⟨b, off + j * 12 + 2, none⟩ = some (i es[j].wh.e) ∧ W.cell? ⟨b, off + j * 12 + 3, none⟩ = some (i es[j].wh.d) ∧ W.cell? ⟨b, off + j * 12 + 4, none⟩ = some (i es[j].wh.f) ∧ W.cell? ⟨b, off + j * 12 + 5, none⟩ = some (i es[j].wh.t) ∧ W.cell? ⟨b, off + j * 12 + 6, none⟩ = some (i es[j].wh.e0) ∧ W.cell? ⟨b, off + j * 12 + 7, none⟩ = some (i es[j].wh.e1) ∧ W.cell? ⟨b, off + j * 12 + 8, none⟩ = some (i es[j].wh.p0) ∧ W.cell? ⟨b, off + j * 12 + 9, none⟩ = some (i es[j].wh.p1) ∧ W.cell? ⟨b, off + j * 12 + 10, none⟩ = some (i es[j].wh.t0) ∧ W.cell? ⟨b, off + j * 12 + 11, none⟩ = some (i es[j].wh.t1) := by
  obtain ⟨b, off, r, rfl, hl, ⟨u, hr, hu⟩, hc⟩ := SliceAt.at_ h hj
  unfold whL at hr
  subst hr
  exact ⟨b, off, u, rfl, World.block_lt_of_cell? w _ (hc 0 _ rfl), hu, fun W hk => ⟨hk _ _ (hc 0 _ rfl), hk _ _ (hc 1 _ rfl), hk _ _ (hc 2 _ rfl), hk _ _ (hc 3 _ rfl), hk _ _ (hc 4 _ rfl), hk _ _ (hc 5 _ rfl), hk _ _ (hc 6 _ rfl), hk _ _ (hc 7 _ rfl), hk _ _ (hc 8 _ rfl), hk _ _ (hc 9 _ rfl), hk _ _ (hc 10 _ rfl), hk _ _ (hc 11 _ rfl)⟩⟩
/-- Tariff j, in memory. -/
theorem TrfsAt.at_ {w : World} {A : Option Addr} {n c j : Nat} {ts : List Trf} (h : TrfsAt w (.slice A n c) ts) (hj : j < ts.length) :
    ∃ b off u, A = some ⟨b, off, none⟩ ∧ b < w.heap.size ∧ ElemsAt w u ts[j].els ∧ ts[j].id.size ≤ maxLen ∧ ts[j].cur.size ≤ maxLen ∧
      ∀ W, Kept w W → W.cell? ⟨b, off + j * 8, none⟩ = some (.string ts[j].id) ∧ W.cell? ⟨b, off + j * 8 + 1, none⟩ = some (.string ts[j].cur) ∧ W.cell? ⟨b, off + j * 8 + 2, none⟩ = some (i ts[j].ver) ∧ W.cell? ⟨b, off + j * 8 + 3, none⟩ = some (i ts[j].fr) ∧ W.cell? ⟨b, off + j * 8 + 4, none⟩ = some (i ts[j].to) ∧ W.cell? ⟨b, off + j * 8 + 5, none⟩ = some (u) ∧ W.cell? ⟨b, off + j * 8 + 6, none⟩ = some (i ts[j].least) ∧ W.cell? ⟨b, off + j * 8 + 7, none⟩ = some (i ts[j].most) := by
  obtain ⟨b, off, r, rfl, hl, ⟨u, hr, hu, h1, h2⟩, hc⟩ := SliceAt.at_ h hj
  subst hr
  exact ⟨b, off, u, rfl, World.block_lt_of_cell? w _ (hc 0 _ rfl), hu, h1, h2, fun W hk => ⟨hk _ _ (hc 0 _ rfl), hk _ _ (hc 1 _ rfl), hk _ _ (hc 2 _ rfl), hk _ _ (hc 3 _ rfl), hk _ _ (hc 4 _ rfl), hk _ _ (hc 5 _ rfl), hk _ _ (hc 6 _ rfl), hk _ _ (hc 7 _ rfl)⟩⟩

theorem open_comp {H : Type} {enc : TypeId × Value → H} {w : World} {base : Nat} {spare : Nat → Bool} {held : Bool} {fuel : Nat} {cs : List Value} {y : DataW H × List MemPlace}
    (h : DataW.trod enc Tryz.prog w base spare held fuel 82 cs = some y) : ∃ c : Comp, CompR cs c := by
  have hl := trod_len Tryz.underlying82 h
  rw [show Tryz.prog.cellsOf 82 = 4 by kernel_rfl] at hl
  match cs, hl with
  | [c0, c1, c2, c3], _ =>
    obtain ⟨m0, y0, k0⟩ := trod_fieldT Tryz.underlying82 h 0 _ rfl 3 0 1 rfl rfl (by kernel_rfl)
    simp only [List.drop_zero, List.drop_succ_cons, List.take_succ_cons, List.take_zero] at k0
    obtain ⟨n0, e0, _, w0⟩ := DataW.trod_int Tryz.underlying3 k0
    obtain rfl : c0 = .int .i64 n0 := by simpa using e0
    obtain ⟨m1, y1, k1⟩ := trod_fieldT Tryz.underlying82 h 1 _ rfl 3 1 1 rfl rfl (by kernel_rfl)
    simp only [List.drop_zero, List.drop_succ_cons, List.take_succ_cons, List.take_zero] at k1
    obtain ⟨n1, e1, _, w1⟩ := DataW.trod_int Tryz.underlying3 k1
    obtain rfl : c1 = .int .i64 n1 := by simpa using e1
    obtain ⟨m2, y2, k2⟩ := trod_fieldT Tryz.underlying82 h 2 _ rfl 3 2 1 rfl rfl (by kernel_rfl)
    simp only [List.drop_zero, List.drop_succ_cons, List.take_succ_cons, List.take_zero] at k2
    obtain ⟨n2, e2, _, w2⟩ := DataW.trod_int Tryz.underlying3 k2
    obtain rfl : c2 = .int .i64 n2 := by simpa using e2
    obtain ⟨m3, y3, k3⟩ := trod_fieldT Tryz.underlying82 h 3 _ rfl 3 3 1 rfl rfl (by kernel_rfl)
    simp only [List.drop_zero, List.drop_succ_cons, List.take_succ_cons, List.take_zero] at k3
    obtain ⟨n3, e3, _, w3⟩ := DataW.trod_int Tryz.underlying3 k3
    obtain rfl : c3 = .int .i64 n3 := by simpa using e3
    exact ⟨⟨n0, n1, n2, n3⟩, rfl⟩

theorem open_comps {H : Type} {enc : TypeId × Value → H} {w : World} {base : Nat} {spare : Nat → Bool} {held : Bool} {fuel : Nat} {cs : List Value} {y : DataW H × List MemPlace}
    (h : DataW.trod enc Tryz.prog w base spare held fuel 61 cs = some y) : ∃ v xs, cs = [v] ∧ CompsAt w v xs :=
  open_sliceAt Tryz.underlying61 (by kernel_rfl) (by omega) (fun _ _ _ h => open_comp h) h

theorem open_elem {H : Type} {enc : TypeId × Value → H} {w : World} {base : Nat} {spare : Nat → Bool} {held : Bool} {fuel : Nat} {cs : List Value} {y : DataW H × List MemPlace}
    (h : DataW.trod enc Tryz.prog w base spare held fuel 65 cs = some y) : ∃ e : Elem, ElemR w cs e := by
  have hl := trod_len Tryz.underlying65 h
  rw [show Tryz.prog.cellsOf 65 = 12 by kernel_rfl] at hl
  match cs, hl with
  | [c0, c1, c2, c3, c4, c5, c6, c7, c8, c9, c10, c11], _ =>
    obtain ⟨m0, y0, k0⟩ := trod_fieldT Tryz.underlying65 h 0 _ rfl 61 0 1 rfl rfl (by kernel_rfl)
    simp only [List.drop_zero, List.drop_succ_cons, List.take_succ_cons, List.take_zero] at k0
    obtain ⟨v0, xs0, e0, s0⟩ := open_comps k0
    obtain rfl : c0 = v0 := by simpa using e0
    obtain ⟨m1, y1, k1⟩ := trod_fieldT Tryz.underlying65 h 1 _ rfl 63 1 11 rfl rfl (by kernel_rfl)
    simp only [List.drop_zero, List.drop_succ_cons, List.take_succ_cons, List.take_zero] at k1
    obtain ⟨m2, y2, k2⟩ := trod_fieldT Tryz.underlying63 k1 0 _ rfl 3 0 1 rfl rfl (by kernel_rfl)
    simp only [List.drop_zero, List.drop_succ_cons, List.take_succ_cons, List.take_zero] at k2
    obtain ⟨n2, e2, _, w2⟩ := DataW.trod_int Tryz.underlying3 k2
    obtain rfl : c1 = .int .i64 n2 := by simpa using e2
    obtain ⟨m3, y3, k3⟩ := trod_fieldT Tryz.underlying63 k1 1 _ rfl 3 1 1 rfl rfl (by kernel_rfl)
    simp only [List.drop_zero, List.drop_succ_cons, List.take_succ_cons, List.take_zero] at k3
    obtain ⟨n3, e3, _, w3⟩ := DataW.trod_int Tryz.underlying3 k3
    obtain rfl : c2 = .int .i64 n3 := by simpa using e3
    obtain ⟨m4, y4, k4⟩ := trod_fieldT Tryz.underlying63 k1 2 _ rfl 3 2 1 rfl rfl (by kernel_rfl)
    simp only [List.drop_zero, List.drop_succ_cons, List.take_succ_cons, List.take_zero] at k4
    obtain ⟨n4, e4, _, w4⟩ := DataW.trod_int Tryz.underlying3 k4
    obtain rfl : c3 = .int .i64 n4 := by simpa using e4
    obtain ⟨m5, y5, k5⟩ := trod_fieldT Tryz.underlying63 k1 3 _ rfl 3 3 1 rfl rfl (by kernel_rfl)
    simp only [List.drop_zero, List.drop_succ_cons, List.take_succ_cons, List.take_zero] at k5
    obtain ⟨n5, e5, _, w5⟩ := DataW.trod_int Tryz.underlying3 k5
    obtain rfl : c4 = .int .i64 n5 := by simpa using e5
    obtain ⟨m6, y6, k6⟩ := trod_fieldT Tryz.underlying63 k1 4 _ rfl 3 4 1 rfl rfl (by kernel_rfl)
    simp only [List.drop_zero, List.drop_succ_cons, List.take_succ_cons, List.take_zero] at k6
    obtain ⟨n6, e6, _, w6⟩ := DataW.trod_int Tryz.underlying3 k6
    obtain rfl : c5 = .int .i64 n6 := by simpa using e6
    obtain ⟨m7, y7, k7⟩ := trod_fieldT Tryz.underlying63 k1 5 _ rfl 3 5 1 rfl rfl (by kernel_rfl)
    simp only [List.drop_zero, List.drop_succ_cons, List.take_succ_cons, List.take_zero] at k7
    obtain ⟨n7, e7, _, w7⟩ := DataW.trod_int Tryz.underlying3 k7
    obtain rfl : c6 = .int .i64 n7 := by simpa using e7
    obtain ⟨m8, y8, k8⟩ := trod_fieldT Tryz.underlying63 k1 6 _ rfl 3 6 1 rfl rfl (by kernel_rfl)
    simp only [List.drop_zero, List.drop_succ_cons, List.take_succ_cons, List.take_zero] at k8
    obtain ⟨n8, e8, _, w8⟩ := DataW.trod_int Tryz.underlying3 k8
    obtain rfl : c7 = .int .i64 n8 := by simpa using e8
    obtain ⟨m9, y9, k9⟩ := trod_fieldT Tryz.underlying63 k1 7 _ rfl 3 7 1 rfl rfl (by kernel_rfl)
    simp only [List.drop_zero, List.drop_succ_cons, List.take_succ_cons, List.take_zero] at k9
    obtain ⟨n9, e9, _, w9⟩ := DataW.trod_int Tryz.underlying3 k9
    obtain rfl : c8 = .int .i64 n9 := by simpa using e9
    obtain ⟨m10, y10, k10⟩ := trod_fieldT Tryz.underlying63 k1 8 _ rfl 3 8 1 rfl rfl (by kernel_rfl)
    simp only [List.drop_zero, List.drop_succ_cons, List.take_succ_cons, List.take_zero] at k10
    obtain ⟨n10, e10, _, w10⟩ := DataW.trod_int Tryz.underlying3 k10
    obtain rfl : c9 = .int .i64 n10 := by simpa using e10
    obtain ⟨m11, y11, k11⟩ := trod_fieldT Tryz.underlying63 k1 9 _ rfl 3 9 1 rfl rfl (by kernel_rfl)
    simp only [List.drop_zero, List.drop_succ_cons, List.take_succ_cons, List.take_zero] at k11
    obtain ⟨n11, e11, _, w11⟩ := DataW.trod_int Tryz.underlying3 k11
    obtain rfl : c10 = .int .i64 n11 := by simpa using e11
    obtain ⟨m12, y12, k12⟩ := trod_fieldT Tryz.underlying63 k1 10 _ rfl 3 10 1 rfl rfl (by kernel_rfl)
    simp only [List.drop_zero, List.drop_succ_cons, List.take_succ_cons, List.take_zero] at k12
    obtain ⟨n12, e12, _, w12⟩ := DataW.trod_int Tryz.underlying3 k12
    obtain rfl : c11 = .int .i64 n12 := by simpa using e12
    exact ⟨⟨xs0, ⟨n2, n3, n4, n5, n6, n7, n8, n9, n10, n11, n12⟩⟩, _, rfl, s0⟩

theorem open_elems {H : Type} {enc : TypeId × Value → H} {w : World} {base : Nat} {spare : Nat → Bool} {held : Bool} {fuel : Nat} {cs : List Value} {y : DataW H × List MemPlace}
    (h : DataW.trod enc Tryz.prog w base spare held fuel 34 cs = some y) : ∃ v xs, cs = [v] ∧ ElemsAt w v xs :=
  open_sliceAt Tryz.underlying34 (by kernel_rfl) (by omega) (fun _ _ _ h => open_elem h) h

end TarW
end Go.Proofs.YtpmcdjpfolgpiaaGreatDoor
