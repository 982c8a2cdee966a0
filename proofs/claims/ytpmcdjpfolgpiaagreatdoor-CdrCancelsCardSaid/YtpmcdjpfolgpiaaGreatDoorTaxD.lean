/-
  The data of tax: charges, items, numbers in memory, read as lists. (Printed by gen43.py.)
-/
import Derived.Test.YtpmcdjpfolgpiaaGreatDoorMonA
import Derived.Test.YtpmcdjpfolgpiaaGreatDoorBase
import Derived.Deep.LoopGhost
import Derived.ProofKit
namespace Go.Proofs.YtpmcdjpfolgpiaaGreatDoor
namespace MonW
set_option linter.unusedSimpArgs false
set_option linter.unusedVariables false
open Go.RowKit Go.ChangeShapes Go.WideShapes Go.Deep

abbrev I64 (n : Int) : Prop := -9223372036854775808 ≤ n ∧ n ≤ 9223372036854775807
theorem i64_wf {n : Int} (h : (Lit.int .i64 n).wf = true) : I64 n := by
  simp [Lit.wf, IntKind.min, IntKind.max, IntKind.bits, IntKind.signed] at h
  exact h

structure Chg where
  (kind price tax qty : Int)
  deriving DecidableEq
def Chg.ok (x : Chg) : Prop := I64 x.kind ∧ I64 x.price ∧ I64 x.tax ∧ I64 x.qty
def chgL (x : Chg) : List Value := [i x.kind, i x.price, i x.tax, i x.qty]
abbrev chgV (x : Chg) : Value := .agg #[i x.kind, i x.price, i x.tax, i x.qty]
def ChgR (r : List Value) (x : Chg) : Prop := r = chgL x ∧ x.ok
def ChgsAt (w : World) (v : Value) (xs : List Chg) : Prop := SliceAt ChgR 4 w v xs
theorem ChgsAt.keep {w w' : World} {v : Value} {xs : List Chg} (h : ChgsAt w v xs) (hk : Kept w w') : ChgsAt w' v xs := SliceAt.keep h hk (fun _ _ h => h)
theorem ChgsAt.call {w w' : World} {v : Value} {xs : List Chg} (h : ChgsAt w v xs) (hb : Below w.heap.size w w') : ChgsAt w' v xs := h.keep (Kept.of hb)
theorem ChgsAt.at_ {w : World} {A : Option Addr} {n c j : Nat} {xs : List Chg} (h : ChgsAt w (.slice A n c) xs) (hj : j < xs.length) :
    ∃ b off, A = some ⟨b, off, none⟩ ∧ b < w.heap.size ∧ xs[j].ok ∧
      ∀ W, Kept w W → W.cell? ⟨b, off + j * 4, none⟩ = some (i xs[j].kind) ∧ W.cell? ⟨b, off + j * 4 + 1, none⟩ = some (i xs[j].price) ∧ W.cell? ⟨b, off + j * 4 + 2, none⟩ = some (i xs[j].tax) ∧ W.cell? ⟨b, off + j * 4 + 3, none⟩ = some (i xs[j].qty) := by
  obtain ⟨b, off, r, rfl, hl, ⟨hr, ho⟩, hc⟩ := SliceAt.at_ h hj
  unfold chgL at hr
  subst hr
  exact ⟨b, off, rfl, World.block_lt_of_cell? w _ (hc 0 _ rfl), ho, fun W hk => ⟨hk _ _ (hc 0 _ rfl), hk _ _ (hc 1 _ rfl), hk _ _ (hc 2 _ rfl), hk _ _ (hc 3 _ rfl)⟩⟩
structure Itm where
  (kind price tax qty net vat gross : Int)
  deriving DecidableEq
def Itm.ok (x : Itm) : Prop := I64 x.kind ∧ I64 x.price ∧ I64 x.tax ∧ I64 x.qty ∧ I64 x.net ∧ I64 x.vat ∧ I64 x.gross
def itmL (x : Itm) : List Value := [i x.kind, i x.price, i x.tax, i x.qty, i x.net, i x.vat, i x.gross]
abbrev itmV (x : Itm) : Value := .agg #[i x.kind, i x.price, i x.tax, i x.qty, i x.net, i x.vat, i x.gross]
def ItmR (r : List Value) (x : Itm) : Prop := r = itmL x ∧ x.ok
def ItmsAt (w : World) (v : Value) (xs : List Itm) : Prop := SliceAt ItmR 7 w v xs
theorem ItmsAt.keep {w w' : World} {v : Value} {xs : List Itm} (h : ItmsAt w v xs) (hk : Kept w w') : ItmsAt w' v xs := SliceAt.keep h hk (fun _ _ h => h)
theorem ItmsAt.call {w w' : World} {v : Value} {xs : List Itm} (h : ItmsAt w v xs) (hb : Below w.heap.size w w') : ItmsAt w' v xs := h.keep (Kept.of hb)
theorem ItmsAt.at_ {w : World} {A : Option Addr} {n c j : Nat} {xs : List Itm} (h : ItmsAt w (.slice A n c) xs) (hj : j < xs.length) :
    ∃ b off, A = some ⟨b, off, none⟩ ∧ b < w.heap.size ∧ xs[j].ok ∧
      ∀ W, Kept w W → W.cell? ⟨b, off + j * 7, none⟩ = some (i xs[j].kind) ∧ W.cell? ⟨b, off + j * 7 + 1, none⟩ = some (i xs[j].price) ∧ W.cell? ⟨b, off + j * 7 + 2, none⟩ = some (i xs[j].tax) ∧ W.cell? ⟨b, off + j * 7 + 3, none⟩ = some (i xs[j].qty) ∧ W.cell? ⟨b, off + j * 7 + 4, none⟩ = some (i xs[j].net) ∧ W.cell? ⟨b, off + j * 7 + 5, none⟩ = some (i xs[j].vat) ∧ W.cell? ⟨b, off + j * 7 + 6, none⟩ = some (i xs[j].gross) := by
  obtain ⟨b, off, r, rfl, hl, ⟨hr, ho⟩, hc⟩ := SliceAt.at_ h hj
  unfold itmL at hr
  subst hr
  exact ⟨b, off, rfl, World.block_lt_of_cell? w _ (hc 0 _ rfl), ho, fun W hk => ⟨hk _ _ (hc 0 _ rfl), hk _ _ (hc 1 _ rfl), hk _ _ (hc 2 _ rfl), hk _ _ (hc 3 _ rfl), hk _ _ (hc 4 _ rfl), hk _ _ (hc 5 _ rfl), hk _ _ (hc 6 _ rfl)⟩⟩
theorem one_itm (r : List Value) (x : Itm) (h : ItmR r x) : ∀ u ∈ r, u.oneCell' = true := by
  obtain ⟨rfl, _⟩ := h
  intro u hu
  unfold itmL at hu
  simp at hu
  rcases hu with rfl | rfl | rfl | rfl | rfl | rfl | rfl <;> rfl

def IntR (r : List Value) (x : Int) : Prop := r = [i x] ∧ I64 x
def IntsAt (w : World) (v : Value) (xs : List Int) : Prop := SliceAt IntR 1 w v xs
theorem IntsAt.keep {w w' : World} {v : Value} {xs : List Int} (h : IntsAt w v xs) (hk : Kept w w') : IntsAt w' v xs := SliceAt.keep h hk (fun _ _ h => h)
theorem IntsAt.call {w w' : World} {v : Value} {xs : List Int} (h : IntsAt w v xs) (hb : Below w.heap.size w w') : IntsAt w' v xs := h.keep (Kept.of hb)
theorem IntsAt.at_ {w : World} {A : Option Addr} {n c j : Nat} {xs : List Int} (h : IntsAt w (.slice A n c) xs) (hj : j < xs.length) :
    ∃ b off, A = some ⟨b, off, none⟩ ∧ b < w.heap.size ∧ I64 xs[j] ∧ ∀ W, Kept w W → W.cell? ⟨b, off + j, none⟩ = some (i xs[j]) := by
  obtain ⟨b, off, r, rfl, hl, ⟨hr, ho⟩, hc⟩ := SliceAt.at_ h hj
  subst hr
  have h0 := hc 0 _ rfl
  simp only [Nat.mul_one, Nat.add_zero] at h0
  exact ⟨b, off, rfl, World.block_lt_of_cell? w _ h0, ho, fun W hk => hk _ _ h0⟩
theorem one_int (r : List Value) (x : Int) (h : IntR r x) : ∀ u ∈ r, u.oneCell' = true := by
  obtain ⟨rfl, _⟩ := h
  intro u hu
  simp at hu
  subst hu
  rfl

theorem open_itm {H : Type} {enc : TypeId × Value → H} {w : World} {base : Nat} {spare : Nat → Bool} {held : Bool} {fuel : Nat} {cs : List Value} {y : DataW H × List MemPlace}
    (h : DataW.trod enc Tryz.prog w base spare held fuel 52 cs = some y) : ∃ c : Itm, ItmR cs c := by
  have hl := trod_len Tryz.underlying52 h
  rw [show Tryz.prog.cellsOf 52 = 7 by kernel_rfl] at hl
  match cs, hl with
  | [c0, c1, c2, c3, c4, c5, c6], _ =>
    obtain ⟨m0, y0, k0⟩ := trod_fieldT Tryz.underlying52 h 0 _ rfl 3 0 1 rfl rfl (by kernel_rfl)
    simp only [List.drop_zero, List.drop_succ_cons, List.take_succ_cons, List.take_zero] at k0
    obtain ⟨n0, e0, _, w0⟩ := DataW.trod_int Tryz.underlying3 k0
    obtain rfl : c0 = .int .i64 n0 := by simpa using e0
    obtain ⟨m1, y1, k1⟩ := trod_fieldT Tryz.underlying52 h 1 _ rfl 3 1 1 rfl rfl (by kernel_rfl)
    simp only [List.drop_zero, List.drop_succ_cons, List.take_succ_cons, List.take_zero] at k1
    obtain ⟨n1, e1, _, w1⟩ := DataW.trod_int Tryz.underlying3 k1
    obtain rfl : c1 = .int .i64 n1 := by simpa using e1
    obtain ⟨m2, y2, k2⟩ := trod_fieldT Tryz.underlying52 h 2 _ rfl 3 2 1 rfl rfl (by kernel_rfl)
    simp only [List.drop_zero, List.drop_succ_cons, List.take_succ_cons, List.take_zero] at k2
    obtain ⟨n2, e2, _, w2⟩ := DataW.trod_int Tryz.underlying3 k2
    obtain rfl : c2 = .int .i64 n2 := by simpa using e2
    obtain ⟨m3, y3, k3⟩ := trod_fieldT Tryz.underlying52 h 3 _ rfl 3 3 1 rfl rfl (by kernel_rfl)
    simp only [List.drop_zero, List.drop_succ_cons, List.take_succ_cons, List.take_zero] at k3
    obtain ⟨n3, e3, _, w3⟩ := DataW.trod_int Tryz.underlying3 k3
    obtain rfl : c3 = .int .i64 n3 := by simpa using e3
    obtain ⟨m4, y4, k4⟩ := trod_fieldT Tryz.underlying52 h 4 _ rfl 3 4 1 rfl rfl (by kernel_rfl)
    simp only [List.drop_zero, List.drop_succ_cons, List.take_succ_cons, List.take_zero] at k4
    obtain ⟨n4, e4, _, w4⟩ := DataW.trod_int Tryz.underlying3 k4
    obtain rfl : c4 = .int .i64 n4 := by simpa using e4
    obtain ⟨m5, y5, k5⟩ := trod_fieldT Tryz.underlying52 h 5 _ rfl 3 5 1 rfl rfl (by kernel_rfl)
    simp only [List.drop_zero, List.drop_succ_cons, List.take_succ_cons, List.take_zero] at k5
    obtain ⟨n5, e5, _, w5⟩ := DataW.trod_int Tryz.underlying3 k5
    obtain rfl : c5 = .int .i64 n5 := by simpa using e5
    obtain ⟨m6, y6, k6⟩ := trod_fieldT Tryz.underlying52 h 6 _ rfl 3 6 1 rfl rfl (by kernel_rfl)
    simp only [List.drop_zero, List.drop_succ_cons, List.take_succ_cons, List.take_zero] at k6
    obtain ⟨n6, e6, _, w6⟩ := DataW.trod_int Tryz.underlying3 k6
    obtain rfl : c6 = .int .i64 n6 := by simpa using e6
    exact ⟨⟨n0, n1, n2, n3, n4, n5, n6⟩, rfl, i64_wf w0, i64_wf w1, i64_wf w2, i64_wf w3, i64_wf w4, i64_wf w5, i64_wf w6⟩

theorem open_itms {H : Type} {enc : TypeId × Value → H} {w : World} {base : Nat} {spare : Nat → Bool} {held : Bool} {fuel : Nat} {cs : List Value} {y : DataW H × List MemPlace} (h : DataW.trod enc Tryz.prog w base spare held fuel 22 cs = some y) : ∃ (v : Value) (xs : List Itm), cs = [v] ∧ ItmsAt w v xs :=
  open_sliceAt Tryz.underlying22 (show Tryz.prog.cellsOf 52 = 7 by kernel_rfl) (by omega) (fun n cs y h => open_itm h) h
end MonW
end Go.Proofs.YtpmcdjpfolgpiaaGreatDoor
