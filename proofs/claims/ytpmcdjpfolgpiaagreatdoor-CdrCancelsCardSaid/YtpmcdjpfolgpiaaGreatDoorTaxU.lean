/-
  The walks of one charge's item: tax.taxed, tax.item, and the reference's taxed.
  The walks of tax.item and tax.Items.
  The walk of tax.Items.
  The walk of the reference's Items.
  The walks of Same (at equal lists), tax.Negate and the reference's Negate.
  The walks of the sums of items' parts, tax.Totals and the reference's Totals.
  The walk of the reference's Totals.
-/
import Derived.Test.YtpmcdjpfolgpiaaGreatDoorTaxT
import Derived.Test.YtpmcdjpfolgpiaaGreatDoorBase
import Derived.Deep.DeepCutAuto
import Derived.Laws.StructEq
namespace Go.Proofs.YtpmcdjpfolgpiaaGreatDoor
namespace MonW
set_option linter.unusedSimpArgs false
set_option linter.unusedVariables false
open Go.RowKit

def txVat (x : Itm) : Int := scV x.net x.tax 10000
def txOk (x : Itm) : Bool := scOk x.net x.tax 10000 && fitI (x.net + txVat x)
def noItm : Itm := ⟨0, 0, 0, 0, 0, 0, 0⟩
def txV (x : Itm) : Itm := if txOk x then ⟨x.kind, x.price, x.tax, x.qty, x.net, txVat x, x.net + txVat x⟩ else noItm
def txE (x : Itm) : Int := if txOk x then 0 else 20
theorem sgn_I64 (q : Nat) (b : Bool) : I64 (sgn q b) := by unfold sgn wrap64 I64; omega
theorem scV_I64 (a b : Int) (d : Nat) : I64 (scV a b d) := by
  unfold scV
  split
  · exact sgn_I64 _ _
  · unfold I64; omega
theorem txV_ok {x : Itm} (h : x.ok) : (txV x).ok := by
  unfold txV
  split
  · rename_i hk
    unfold txOk at hk
    simp at hk
    have := of_decide_eq_true hk.2
    obtain ⟨h1, h2, h3, h4, h5, h6, h7⟩ := h
    exact ⟨h1, h2, h3, h4, h5, scV_I64 _ _ _, this⟩
  · unfold noItm Itm.ok I64; decide

/-- The three ways: the tax does not fit; the sum does not fit; all fits. -/
theorem tx_ways (x : Itm) : (scE x.net x.tax 10000 = 20 ∧ scV x.net x.tax 10000 = 0 ∧ txV x = noItm ∧ txE x = 20 ∧ txOk x = false) ∨
    (scE x.net x.tax 10000 = 0 ∧ fitI (x.net + scV x.net x.tax 10000) = false ∧ sumV (x.net + scV x.net x.tax 10000) = 0 ∧ txV x = noItm ∧ txE x = 20 ∧ txOk x = false) ∨
    (scE x.net x.tax 10000 = 0 ∧ fitI (x.net + scV x.net x.tax 10000) = true ∧ sumV (x.net + scV x.net x.tax 10000) = x.net + scV x.net x.tax 10000 ∧ txV x = ⟨x.kind, x.price, x.tax, x.qty, x.net, scV x.net x.tax 10000, x.net + scV x.net x.tax 10000⟩ ∧ txE x = 0 ∧ txOk x = true) := by
  have e : txVat x = scV x.net x.tax 10000 := rfl
  cases h : scOk x.net x.tax 10000
  · left
    have h1 : txOk x = false := by unfold txOk; rw [h]; rfl
    refine ⟨?_, ?_, ?_, ?_, h1⟩
    · unfold scE; rw [h]; rfl
    · unfold scV; rw [h]; rfl
    · unfold txV; rw [h1]; rfl
    · unfold txE; rw [h1]; rfl
  · right
    have h0 : scE x.net x.tax 10000 = 0 := by unfold scE; rw [h]; rfl
    cases hf : fitI (x.net + scV x.net x.tax 10000)
    · left
      have h1 : txOk x = false := by unfold txOk; rw [h, e, hf]; rfl
      refine ⟨h0, rfl, ?_, ?_, ?_, h1⟩
      · unfold sumV; rw [hf]; rfl
      · unfold txV; rw [h1]; rfl
      · unfold txE; rw [h1]; rfl
    · right
      have h1 : txOk x = true := by unfold txOk; rw [h, e, hf]; rfl
      refine ⟨h0, rfl, ?_, ?_, ?_, h1⟩
      · unfold sumV; rw [hf]; rfl
      · unfold txV; rw [h1, e]; rfl
      · unfold txE; rw [h1]; rfl

theorem retTx {a b : Itm} {c d : Int} (h1 : a = b) (h2 : c = d) : Ending.returned (.tuple #[itmV a, i c]) = .returned (.tuple #[itmV b, i d]) := by rw [h1, h2]
theorem retTxB {a b : Itm} {c d : Bool} (h1 : a = b) (h2 : c = d) : Ending.returned (.tuple #[itmV a, .bool c]) = .returned (.tuple #[itmV b, .bool d]) := by rw [h1, h2]

set_option maxHeartbeats 1000000 in
theorem taxed (x : Itm) (w : World) (hx : x.ok) : Calls Tryz.prog 100 #[itmV x] w fun e w' => e = .returned (.tuple #[itmV (txV x), i (txE x)]) ∧ Below w.heap.size w w' := by
  have hw := tx_ways x
  have hvi := scV_I64 x.net x.tax 10000
  obtain ⟨o1, o2, o3, o4, o5, o6, o7⟩ := hx
  have HS := Lib.hid (fun W => scale x.net x.tax 10000 (by unfold Dn; omega) W o5.1 o5.2 o3.1 o3.2)
  have HP := Lib.hid (fun W => plus x.net (scV x.net x.tax 10000) W o5 hvi)
  clear o1 o2 o3 o4 o5 o6 o7 hvi
  generalize scV x.net x.tax 10000 = vat at *
  generalize scE x.net x.tax 10000 = ve at *
  rcases hw with ⟨rfl, rfl, h3, h4, h5⟩ | ⟨rfl, h2, h3, h4, h5, h6⟩ | ⟨rfl, h2, h3, h4, h5, h6⟩
  · have HF := Lib.hid (And.intro h3 h4)
    clear h3 h4 h5
    go_enter Tryz.func100, Tryz.ntmps100
    go_wp2_with fail
    refine (HS.out _).mono ?_
    rintro e w1 ⟨rfl, n1, rfl⟩
    go_wp2_with fail
    refine bodyPost_ret (v := .tuple #[itmV noItm, i 20]) (by simp [results, Tryz.results100, go_sem, noItm]) rfl ⟨retTx HF.out.1.symm HF.out.2.symm, ?_⟩
    repeat (first | (with_reducible exact Below.refl _ _) | (with_reducible refine below_drewN' ?_ _) | (with_reducible refine Below.drew ?_) | (with_reducible refine Below.setCell ?_ (by first | (simp; done) | (simp; omega) | omega) _) | (with_reducible refine below_alloc ?_ _) | (with_reducible refine Below.alloc ?_ (by first | (simp; done) | (simp; omega) | omega) _))
  · rw [h2, h3] at HP
    have HF := Lib.hid (And.intro h4 h5)
    clear h2 h3 h4 h5 h6
    go_enter Tryz.func100, Tryz.ntmps100
    go_wp2_with fail
    refine (HS.out _).mono ?_
    rintro e w1 ⟨rfl, n1, rfl⟩
    go_wp2_with fail
    refine (HP.out _).mono ?_
    rintro e w1 ⟨rfl, n2, rfl⟩
    go_wp2_with fail
    refine bodyPost_ret (v := .tuple #[itmV noItm, i 20]) (by simp [results, Tryz.results100, go_sem, noItm]) rfl ⟨retTx HF.out.1.symm HF.out.2.symm, ?_⟩
    repeat (first | (with_reducible exact Below.refl _ _) | (with_reducible refine below_drewN' ?_ _) | (with_reducible refine Below.drew ?_) | (with_reducible refine Below.setCell ?_ (by first | (simp; done) | (simp; omega) | omega) _) | (with_reducible refine below_alloc ?_ _) | (with_reducible refine Below.alloc ?_ (by first | (simp; done) | (simp; omega) | omega) _))
  · rw [h2, h3] at HP
    have HF := Lib.hid (And.intro h4 h5)
    clear h2 h3 h4 h5 h6
    obtain ⟨kk, p, t, q, n, v0, g0⟩ := x
    simp only at *
    go_enter Tryz.func100, Tryz.ntmps100
    go_wp2_with fail
    refine (HS.out _).mono ?_
    rintro e w1 ⟨rfl, n1, rfl⟩
    go_wp2_with fail
    refine (HP.out _).mono ?_
    rintro e w1 ⟨rfl, n2, rfl⟩
    go_wp2_with fail
    refine bodyPost_ret (v := .tuple #[itmV ⟨kk, p, t, q, n, vat, n + vat⟩, i 0]) (by simp [results, Tryz.results100, go_sem]) rfl ⟨retTx HF.out.1.symm HF.out.2.symm, ?_⟩
    repeat (first | (with_reducible exact Below.refl _ _) | (with_reducible refine below_drewN' ?_ _) | (with_reducible refine Below.drew ?_) | (with_reducible refine Below.setCell ?_ (by first | (simp; done) | (simp; omega) | omega) _) | (with_reducible refine below_alloc ?_ _) | (with_reducible refine Below.alloc ?_ (by first | (simp; done) | (simp; omega) | omega) _))

theorem bcell {W w1 : World} (hb : Below W.heap.size W w1) : (∀ b o, b < W.heap.size → w1.cell? ⟨b, o, none⟩ = W.cell? ⟨b, o, none⟩) ∧ (∀ b o, b < W.heap.size → w1.frozen? ⟨b, o, none⟩ = W.frozen? ⟨b, o, none⟩) :=
  ⟨fun b o h => hb.cell (p := ⟨b, o, none⟩) h, fun b o h => hb.frozen (p := ⟨b, o, none⟩) h⟩

/-- The slice of two numbers. -/
theorem two_ints (w : World) (t : TypeId) (a b : Int) (ha : I64 a) (hb : I64 b) : IntsAt (w.alloc (.cells #[i a, i b] t)) (.slice (some ⟨w.heap.size, 0, none⟩) 2 2) [a, b] := by
  have hk := Blk.new w t #[i a, i b]
  refine ⟨some ⟨w.heap.size, 0, none⟩, 2, rfl, Nat.le_refl _, by unfold maxLen; omega, (fun h => by cases h), fun j x hx => ?_⟩
  match j, hx with
  | 0, hx =>
    have e : a = x := by simpa using hx
    subst e
    refine ⟨w.heap.size, 0, [i a], rfl, rfl, ⟨rfl, ha⟩, fun o u hu => ?_⟩
    match o, hu with
    | 0, hu => rw [hk.cell]; simpa using hu
  | 1, hx =>
    have e : b = x := by simpa using hx
    subst e
    refine ⟨w.heap.size, 0, [i b], rfl, rfl, ⟨rfl, hb⟩, fun o u hu => ?_⟩
    match o, hu with
    | 0, hu => rw [hk.cell]; simpa using hu

theorem sumE_eq (S : Int) : (sumE S == 0) = fitI S := by
  unfold sumE
  cases fitI S <;> rfl

set_option maxHeartbeats 400000 in
theorem rsum2 (a b : Int) (w : World) (ha : I64 a) (hb : I64 b) : Calls Tryz.prog 115 #[i a, i b] w fun e w' => e = .returned (.tuple #[i (sumV (a + b)), .bool (fitI (a + b))]) ∧ Below w.heap.size w w' := by
  have hE := sumE_eq (a + b)
  have HS := Lib.hid (fun t : TypeId => rsum (.slice (some ⟨w.heap.size, 0, none⟩) 2 2) [a, b] (w.alloc (.cells #[i a, i b] t)) (two_ints w _ a b ha hb))
  rw [show tot [a, b] = a + b by simp [tot]] at HS
  generalize sumV (a + b) = sv at *
  generalize sumE (a + b) = se at *
  have HE := Lib.hid hE
  clear hE ha hb
  go_enter Tryz.func115, Tryz.ntmps115
  go_wp2_with fail
  refine (HS.out _).mono ?_
  rintro e w1 ⟨rfl, hb1⟩
  go_wp2_with fail
  go_ret2
  exact ⟨retIB rfl HE.out, below_call (below_new _ _) hb1⟩

set_option maxHeartbeats 1000000 in
theorem rtaxed (x : Itm) (w : World) (hx : x.ok) : Calls Tryz.prog 86 #[itmV x] w fun e w' => e = .returned (.tuple #[itmV (txV x), .bool (txOk x)]) ∧ Below w.heap.size w w' := by
  have hw := tx_ways x
  have hvi := scV_I64 x.net x.tax 10000
  obtain ⟨o1, o2, o3, o4, o5, o6, o7⟩ := hx
  have HS := Lib.hid (fun W => rscale x.net x.tax 10000 (by unfold Dn; omega) W o5.1 o5.2 o3.1 o3.2)
  have HP := Lib.hid (fun W => rsum2 x.net (scV x.net x.tax 10000) W o5 hvi)
  clear o1 o2 o3 o4 o5 o6 o7 hvi
  generalize scV x.net x.tax 10000 = vat at *
  generalize scE x.net x.tax 10000 = ve at *
  rcases hw with ⟨rfl, rfl, h3, h4, h5⟩ | ⟨rfl, h2, h3, h4, h5, h6⟩ | ⟨rfl, h2, h3, h4, h5, h6⟩
  · have HF := Lib.hid (And.intro h3 h5)
    clear h3 h4 h5
    go_enter Tryz.func86, Tryz.ntmps86
    go_wp2_with fail
    refine (HS.out _).mono ?_
    rintro e w1 ⟨rfl, n1, rfl⟩
    go_wp2_with fail
    refine (HP.out _).mono ?_
    rintro e w1 ⟨rfl, hb1⟩
    obtain ⟨hc, hf⟩ := bcell hb1
    have hz := hb1.size
    simp at hz
    go_wp2_with fail
    refine bodyPost_ret (v := .tuple #[itmV noItm, .bool false]) (by simp [results, Tryz.results86, go_sem, noItm, hc, hf]) rfl ⟨retTxB HF.out.1.symm HF.out.2.symm, ?_⟩
    repeat (first | (with_reducible exact Below.refl _ _) | (with_reducible refine below_drewN' ?_ _) | (with_reducible refine Below.drew ?_) | (with_reducible refine Below.setCell ?_ (by first | (simp; done) | (simp; omega) | omega) _) | (with_reducible refine below_alloc ?_ _) | (with_reducible refine Below.alloc ?_ (by first | (simp; done) | (simp; omega) | omega) _) | (with_reducible exact hb1) | (with_reducible refine below_call ?_ hb1))
  · rw [h2, h3] at HP
    have HF := Lib.hid (And.intro h4 h6)
    clear h2 h3 h4 h5 h6
    go_enter Tryz.func86, Tryz.ntmps86
    go_wp2_with fail
    refine (HS.out _).mono ?_
    rintro e w1 ⟨rfl, n1, rfl⟩
    go_wp2_with fail
    refine (HP.out _).mono ?_
    rintro e w1 ⟨rfl, hb1⟩
    obtain ⟨hc, hf⟩ := bcell hb1
    have hz := hb1.size
    simp at hz
    go_wp2_with fail
    refine bodyPost_ret (v := .tuple #[itmV noItm, .bool false]) (by simp [results, Tryz.results86, go_sem, noItm, hc, hf]) rfl ⟨retTxB HF.out.1.symm HF.out.2.symm, ?_⟩
    repeat (first | (with_reducible exact Below.refl _ _) | (with_reducible refine below_drewN' ?_ _) | (with_reducible refine Below.drew ?_) | (with_reducible refine Below.setCell ?_ (by first | (simp; done) | (simp; omega) | omega) _) | (with_reducible refine below_alloc ?_ _) | (with_reducible refine Below.alloc ?_ (by first | (simp; done) | (simp; omega) | omega) _) | (with_reducible exact hb1) | (with_reducible refine below_call ?_ hb1))
  · rw [h2, h3] at HP
    have HF := Lib.hid (And.intro h4 h6)
    clear h2 h3 h4 h5 h6
    obtain ⟨kk, p, t, q, n, v0, g0⟩ := x
    simp only at *
    go_enter Tryz.func86, Tryz.ntmps86
    go_wp2_with fail
    refine (HS.out _).mono ?_
    rintro e w1 ⟨rfl, n1, rfl⟩
    go_wp2_with fail
    refine (HP.out _).mono ?_
    rintro e w1 ⟨rfl, hb1⟩
    obtain ⟨hc, hf⟩ := bcell hb1
    have hz := hb1.size
    simp at hz
    have hk1 : Blk w1 w.heap.size 52 #[i kk, i p, i t, i q, i n, i v0, i g0] := (((Blk.new w _ _).alloc _).drewN n1).call hb1
    have hk2 : Blk ((w1.setCell ⟨w.heap.size, 5, none⟩ (i vat)).setCell ⟨w.heap.size, 6, none⟩ (i (n + vat))) w.heap.size 52 #[i kk, i p, i t, i q, i n, i vat, i (n + vat)] := by
      simpa using (hk1.set_ 5 (i vat)).set_ 6 (i (n + vat))
    have hk5 := hk2.cell 5
    have hk6 := hk2.cell 6
    simp at hk5 hk6
    clear hk1 hk2
    go_wp2_with fail
    refine bodyPost_ret (v := .tuple #[itmV ⟨kk, p, t, q, n, vat, n + vat⟩, .bool true]) (by simp [results, Tryz.results86, go_sem, hc, hf]) rfl ⟨retTxB HF.out.1.symm HF.out.2.symm, ?_⟩
    repeat (first | (with_reducible exact Below.refl _ _) | (with_reducible refine below_drewN' ?_ _) | (with_reducible refine Below.drew ?_) | (with_reducible refine Below.setCell ?_ (by first | (simp; done) | (simp; omega) | omega) _) | (with_reducible refine below_alloc ?_ _) | (with_reducible refine Below.alloc ?_ (by first | (simp; done) | (simp; omega) | omega) _) | (with_reducible exact hb1) | (with_reducible refine below_call ?_ hb1))
end MonW
end Go.Proofs.YtpmcdjpfolgpiaaGreatDoor

namespace Go.Proofs.YtpmcdjpfolgpiaaGreatDoor
namespace MonW
set_option linter.unusedSimpArgs false
set_option linter.unusedVariables false
open Go.RowKit

def itm0 (c : Chg) : Itm := ⟨c.kind, c.price, c.tax, c.qty, netV c, 0, 0⟩
def itV (c : Chg) : Itm := if netE c = 0 then txV (itm0 c) else noItm
def itE (c : Chg) : Int := if netE c = 0 then txE (itm0 c) else netE c
theorem netV_I64 (c : Chg) : I64 (netV c) := by
  unfold netV
  split
  · exact scV_I64 _ _ _
  · unfold I64; omega
theorem itm0_ok {c : Chg} (h : c.ok) : (itm0 c).ok := by
  obtain ⟨h1, h2, h3, h4⟩ := h
  exact ⟨h1, h2, h3, h4, netV_I64 c, by unfold I64 itm0; simp, by unfold I64 itm0; simp⟩
theorem noItm_ok : noItm.ok := by unfold noItm Itm.ok I64; decide
theorem itV_ok {c : Chg} (h : c.ok) : (itV c).ok := by
  unfold itV
  split
  · exact txV_ok (itm0_ok h)
  · exact noItm_ok
/-- The three ways of item. -/
theorem it_ways (c : Chg) : (isKind c.kind = false ∧ itV c = noItm ∧ itE c = 1 ∧ netE c = 1) ∨ (isKind c.kind = true ∧ (netE c != 0) = true ∧ itV c = noItm ∧ itE c = netE c) ∨ (isKind c.kind = true ∧ netE c = 0 ∧ itV c = txV (itm0 c) ∧ itE c = txE (itm0 c)) := by
  cases hk : isKind c.kind
  · left
    have hv : validC c = false := by
      cases hv : validC c
      · rfl
      · rw [valid_kind hv] at hk; cases hk
    have := (netNo hv).2
    refine ⟨rfl, ?_, ?_, this⟩
    · unfold itV; rw [this]; rfl
    · unfold itE; rw [this]; rfl
  · right
    by_cases h : netE c = 0
    · right
      refine ⟨rfl, h, ?_, ?_⟩
      · unfold itV; rw [if_pos h]
      · unfold itE; rw [if_pos h]
    · left
      refine ⟨rfl, bne_iff_ne.2 h, ?_, ?_⟩
      · unfold itV; rw [if_neg h]
      · unfold itE; rw [if_neg h]

set_option maxHeartbeats 1000000 in
theorem item (c : Chg) (w : World) (hc : c.ok) : Calls Tryz.prog 97 #[chgV c] w fun e w' => e = .returned (.tuple #[itmV (itV c), i (itE c)]) ∧ Below w.heap.size w w' := by
  have hw := it_ways c
  have HK := Lib.hid (fun W => known c.kind W)
  have HN := Lib.hid (fun W => net c W hc)
  have HT := Lib.hid (fun W => taxed (itm0 c) W (itm0_ok hc))
  clear hc
  rcases hw with ⟨h1, h2, h3, h4⟩ | ⟨h1, h2, h3, h4⟩ | ⟨h1, h2, h3, h4⟩
  · rw [h1] at HK
    have HF := Lib.hid (And.intro h2 h3)
    clear h1 h2 h3 h4
    go_enter Tryz.func97, Tryz.ntmps97
    go_wp2_with fail
    refine (HK.out _).mono ?_
    rintro e w1 ⟨rfl, n1, rfl⟩
    go_wp2_with fail
    refine bodyPost_ret (v := .tuple #[itmV noItm, i 1]) (by simp [results, Tryz.results97, go_sem, noItm]) rfl ⟨retTx HF.out.1.symm HF.out.2.symm, ?_⟩
    repeat (first | (with_reducible exact Below.refl _ _) | (with_reducible refine below_drewN' ?_ _) | (with_reducible refine Below.drew ?_) | (with_reducible refine Below.setCell ?_ (by first | (simp; done) | (simp; omega) | omega) _) | (with_reducible refine below_alloc ?_ _) | (with_reducible refine Below.alloc ?_ (by first | (simp; done) | (simp; omega) | omega) _))
  · rw [h1] at HK
    generalize netV c = nv at *
    generalize netE c = ne at *
    have HF := Lib.hid (And.intro h3 h4)
    clear h1 h3 h4
    go_enter Tryz.func97, Tryz.ntmps97
    go_wp2_with fail
    refine (HK.out _).mono ?_
    rintro e w1 ⟨rfl, n1, rfl⟩
    go_wp2_with fail
    refine (HN.out _).mono ?_
    rintro e w1 ⟨rfl, hb1⟩
    obtain ⟨hcc, hff⟩ := bcell hb1
    have hz := hb1.size
    simp at hz
    go_wp2_with fail
    refine bodyPost_ret (v := .tuple #[itmV noItm, i ne]) (by simp [results, Tryz.results97, go_sem, noItm, hcc, hff]) rfl ⟨retTx HF.out.1.symm HF.out.2.symm, ?_⟩
    repeat (first | (with_reducible exact Below.refl _ _) | (with_reducible refine below_drewN' ?_ _) | (with_reducible refine Below.drew ?_) | (with_reducible refine Below.setCell ?_ (by first | (simp; done) | (simp; omega) | omega) _) | (with_reducible refine below_alloc ?_ _) | (with_reducible refine Below.alloc ?_ (by first | (simp; done) | (simp; omega) | omega) _) | (with_reducible exact hb1) | (with_reducible refine below_call ?_ hb1))
  · rw [h1] at HK
    rw [h2] at HN
    have HF := Lib.hid (And.intro h3 h4)
    clear h1 h2 h3 h4
    generalize txV (itm0 c) = tv at *
    generalize txE (itm0 c) = te at *
    unfold itm0 at HT
    generalize netV c = nv at *
    go_enter Tryz.func97, Tryz.ntmps97
    go_wp2_with fail
    refine (HK.out _).mono ?_
    rintro e w1 ⟨rfl, n1, rfl⟩
    go_wp2_with fail
    refine (HN.out _).mono ?_
    rintro e w1 ⟨rfl, hb1⟩
    obtain ⟨hcc, hff⟩ := bcell hb1
    have hz := hb1.size
    simp at hz
    go_wp2_with fail
    refine (HT.out _).mono ?_
    rintro e w2 ⟨rfl, hb2⟩
    have hk : Blk w2 (w.heap.size + 1) 52 #[i 0, i 0, i 0, i 0, i 0, i 0, i 0] := ((by simpa using ((Blk.new (w.alloc _) _ _).drewN n1) : Blk _ (w.heap.size + 1) 52 #[i 0, i 0, i 0, i 0, i 0, i 0, i 0]).call hb1).call hb2
    have hc2 := hk.cell
    have hf2 := hk.frozen
    have hl2 := hk.lt
    clear hcc hff hk
    go_wp2_with fail
    refine bodyPost_ret (v := .tuple #[itmV tv, i te]) (by simp [results, Tryz.results97, go_sem, hc2, hf2]) rfl ⟨retTx HF.out.1.symm HF.out.2.symm, ?_⟩
    repeat (first | (with_reducible exact Below.refl _ _) | (with_reducible refine below_drewN' ?_ _) | (with_reducible refine Below.drew ?_) | (with_reducible refine Below.setCell ?_ (by first | (simp; done) | (simp; omega) | omega) _) | (with_reducible refine below_alloc ?_ _) | (with_reducible refine Below.alloc ?_ (by first | (simp; done) | (simp; omega) | omega) _) | (with_reducible exact hb2) | (with_reducible refine below_call ?_ hb2) | (with_reducible exact hb1) | (with_reducible refine below_call ?_ hb1))
end MonW
end Go.Proofs.YtpmcdjpfolgpiaaGreatDoor

namespace Go.Proofs.YtpmcdjpfolgpiaaGreatDoor
namespace MonW
set_option linter.unusedSimpArgs false
set_option linter.unusedVariables false
open Go.RowKit

theorem infoItm : (Tryz.prog.info? 52).map (fun i => (i.zero, i.size, i.bytes)) = some (some (.agg #[.int .i64 0, .int .i64 0, .int .i64 0, .int .i64 0, .int .i64 0, .int .i64 0, .int .i64 0]), 7, 56) := by kernel_rfl
abbrev OwnI (base : Nat) (w : World) (v : Value) (xs : List Itm) : Prop := Own ItmR 52 7 base w v xs

def itsE : List Chg → Int
  | [] => 0
  | c :: cs => if itE c = 0 then itsE cs else itE c
def allE (cs : List Chg) : Int := if 64 < cs.length then 3 else itsE cs
def allV (cs : List Chg) : List Itm := if allE cs = 0 then cs.map itV else []
theorem itsE_ok : ∀ (cs : List Chg), (∀ c ∈ cs, itE c = 0) → itsE cs = 0
  | [], _ => rfl
  | c :: cs, h => by rw [itsE, if_pos (h c (by simp)), itsE_ok cs (fun x hx => h x (by simp [hx]))]
theorem itsE_bad : ∀ (cs : List Chg) (k : Nat) (hk : k < cs.length), (∀ c ∈ cs.take k, itE c = 0) → itE cs[k] ≠ 0 → itsE cs = itE cs[k]
  | [], k, hk, _, _ => by simp at hk
  | c :: cs, 0, _, _, h => by rw [itsE, if_neg (by simpa using h)]; rfl
  | c :: cs, k + 1, hk, h, hb => by
    rw [itsE, if_pos (h c (by simp)), itsE_bad cs k (by simpa using hk) (fun x hx => h x (by simp [hx])) (by simpa using hb)]
    rfl
theorem all_big {cs : List Chg} (h : 64 < cs.length) : allE cs = 3 ∧ allV cs = [] := by
  have : allE cs = 3 := by unfold allE; rw [if_pos h]
  exact ⟨this, by unfold allV; rw [this]; rfl⟩
theorem all_ok {cs : List Chg} (h : ¬ 64 < cs.length) (h0 : ∀ c ∈ cs, itE c = 0) : allE cs = 0 ∧ allV cs = cs.map itV := by
  have : allE cs = 0 := by unfold allE; rw [if_neg h, itsE_ok cs h0]
  exact ⟨this, by unfold allV; rw [this]; rfl⟩
theorem all_bad {cs : List Chg} (h : ¬ 64 < cs.length) {k : Nat} (hk : k < cs.length) (h0 : ∀ c ∈ cs.take k, itE c = 0) (hb : itE cs[k] ≠ 0) : allE cs = itE cs[k] ∧ allV cs = [] := by
  have : allE cs = itE cs[k] := by unfold allE; rw [if_neg h, itsE_bad cs k hk h0 hb]
  exact ⟨this, by unfold allV; rw [this, if_neg hb]⟩
theorem take_all {α : Type} {P : α → Prop} {cs : List α} {k : Nat} (hk : k < cs.length) (h : ∀ c ∈ cs.take k, P c) (hb : P cs[k]) : ∀ c ∈ cs.take (k + 1), P c := by
  intro c hc
  rw [List.take_succ_eq_append_getElem hk] at hc
  rcases List.mem_append.1 hc with hc | hc
  · exact h c hc
  · have : c = cs[k] := by simpa using hc
    rw [this]; exact hb
theorem map_take {α β : Type} {f : α → β} {cs : List α} {k : Nat} (hk : k < cs.length) : (cs.take (k + 1)).map f = (cs.take k).map f ++ [f cs[k]] := by
  rw [List.take_succ_eq_append_getElem hk, List.map_append]; rfl

def ItsPost (cs : List Chg) (w : World) (e : Ending) (w' : World) : Prop := ∃ v, e = .returned (.tuple #[v, i (allE cs)]) ∧ ItmsAt w' v (allV cs) ∧ Below w.heap.size w w'

theorem ItsPost.no {cs : List Chg} {w w' : World} {n : Int} (h : allE cs = n ∧ allV cs = []) (hb : Below w.heap.size w w') : ItsPost cs w (.returned (.tuple #[.slice none 0 0, i n])) w' := by
  refine ⟨.slice none 0 0, ?_, ?_, hb⟩
  · rw [h.1]
  · rw [h.2]; exact SliceAt.nil
theorem ItsPost.yes {cs : List Chg} {w w' : World} {v : Value} (h : allE cs = 0 ∧ allV cs = cs.map itV) (hv : ItmsAt w' v (cs.map itV)) (hb : Below w.heap.size w w') : ItsPost cs w (.returned (.tuple #[v, i 0])) w' := by
  refine ⟨v, ?_, ?_, hb⟩
  · rw [h.1]
  · rw [h.2]; exact hv

theorem itmR_lit {x : Itm} (h : x.ok) : ItmR (#[i x.kind, i x.price, i x.tax, i x.qty, i x.net, i x.vat, i x.gross] : Array Value).toList x := ⟨rfl, h⟩

def itsTo (cs : List Chg) (k : Nat) : List Itm := (cs.take k).map itV
theorem itsTo_succ {cs : List Chg} {k : Nat} (hk : k < cs.length) : itsTo cs (k + 1) = itsTo cs k ++ [itV cs[k]] := map_take hk
theorem itsTo_all (cs : List Chg) : itsTo cs cs.length = cs.map itV := by unfold itsTo; rw [List.take_length]
theorem itsTo_len {cs : List Chg} {k : Nat} (h : ¬ 64 < cs.length) : (itsTo cs k).length ≤ 16777216 := by unfold itsTo; rw [List.length_map, List.length_take]; omega

set_option maxRecDepth 100000 in
set_option maxHeartbeats 2000000 in
theorem items (v : Value) (cs : List Chg) (w : World) (h : ChgsAt w v cs) : Calls Tryz.prog 78 #[v] w (ItsPost cs w) := by
  obtain ⟨A, c, rfl, h1, h2⟩ := SliceAt.form h
  obtain ⟨i0, hi0, hz0, hz1, hz2⟩ := info_parts infoItm
  unfold maxLen at h2
  have HC := Lib.hid h
  clear h
  by_cases hbig : 64 < cs.length
  · have HF := Lib.hid (all_big hbig)
    go_enter Tryz.func78, Tryz.ntmps78
    go_wp2_with fail
    go_ret2
    exact ItsPost.no HF.out (Below.refl _ _)
  · have HG := Lib.hid hbig
    go_enter Tryz.func78, Tryz.ntmps78
    go_wp2_with (at_make; refine wpList_make_own _ rfl _ _ 22 rfl w.heap.size 52 i0 _ 7 Tryz.underlying22 hi0 hz0 hz1 .i64 .i64 _ cs.length rfl rfl rfl (by rw [hz2]; omega) (by unfold maxLen; omega) (Nat.le_refl _) ?_)
    intro w0 hown0 hgr0
    have HO0 : Hid (OwnI w.heap.size w0 (.slice (some ⟨w.heap.size, 0, none⟩) 0 cs.length) []) := Own.made (n := 0) hown0
    have HB0 : Hid (Below w.heap.size w w0) := (Below.refl _ _).grown hgr0 (Nat.le_refl _) (fun k hk => by cases hk)
    clear hown0 hgr0
    go_wp2
    go_loopg [4, 17] cs.length (fun gg s4 s17 wr => ∃ (kk : Nat) (A1 : Option Addr) (n1 c1 : Nat), kk ≤ cs.length ∧ cs.length - kk ≤ gg ∧ s4 = .slice A1 n1 c1 ∧ s17 = i kk ∧ Hid (OwnI w.heap.size wr (.slice A1 n1 c1) (itsTo cs kk)) ∧ Hid (Below w.heap.size w wr) ∧ Hid (∀ c ∈ cs.take kk, itE c = 0))
    case atStart => exact ⟨0, _, _, _, Nat.zero_le _, by omega, rfl, rfl, HO0, HB0, fun c hc => by simp at hc⟩
    case round =>
      obtain ⟨kk, A1, n1, c1, hkk, hg, rfl, rfl, HO, BW, HA⟩ := hrel
      clear HO0 HB0
      by_cases hlt : kk < cs.length
      · have hltz : (kk : Int) < (cs.length : Int) := by omega
        obtain ⟨b, off, rfl, _, hok, hrow⟩ := ChgsAt.at_ HC.out hlt
        obtain ⟨l1, l2, l3, l4⟩ := hrow wr (Kept.of BW.out)
        clear hrow
        have HIT := Lib.hid (fun W => item cs[kk] W hok)
        have HOK := Lib.hid (itV_ok hok)
        have HMT := Lib.hid (itsTo_succ hlt)
        have HTA := Lib.hid (take_all hlt HA.out)
        have HBAD := Lib.hid (all_bad HG.out hlt HA.out)
        clear hok
        generalize cs[kk] = y at *
        generalize itV y = z at *
        generalize itE y = ze at *
        by_cases he : ze = 0
        · subst he
          have HA2 := Lib.hid (HTA.out rfl)
          clear HTA HBAD
          go_wp2_with fail
          refine (HIT.out _).mono ?_
          rintro e w1 ⟨rfl, hb1⟩
          have hB := BW.out
          have HO1 : Hid (OwnI w.heap.size ((w1.alloc (.cells #[i z.kind, i z.price, i z.tax, i z.qty, i z.net, i z.vat, i z.gross] 52)).alloc (.cells #[i z.kind, i z.price, i z.tax, i z.qty, i z.net, i z.vat, i z.gross] 52)) (.slice A1 n1 c1) (itsTo cs kk)) := by
            refine Own.call HO.out ?_
            repeat (first | (with_reducible exact Below.refl _ _) | (with_reducible refine below_drewN' ?_ _) | (with_reducible refine Below.drew ?_) | (with_reducible refine Below.setCell ?_ (by first | (simp; done) | (simp; omega) | omega) _) | (with_reducible refine below_alloc ?_ _) | (with_reducible refine Below.alloc ?_ (by first | (simp; done) | (simp; omega) | omega) _) | (with_reducible exact hb1) | (with_reducible refine below_call ?_ hb1))
          have HB1 : Hid (Below w.heap.size w ((w1.alloc (.cells #[i z.kind, i z.price, i z.tax, i z.qty, i z.net, i z.vat, i z.gross] 52)).alloc (.cells #[i z.kind, i z.price, i z.tax, i z.qty, i z.net, i z.vat, i z.gross] 52))) := by
            show Below _ _ _
            repeat (first | (with_reducible exact Below.refl _ _) | (with_reducible refine below_drewN' ?_ _) | (with_reducible refine Below.drew ?_) | (with_reducible refine Below.setCell ?_ (by first | (simp; done) | (simp; omega) | omega) _) | (with_reducible refine below_alloc ?_ _) | (with_reducible refine Below.alloc ?_ (by first | (simp; done) | (simp; omega) | omega) _) | (with_reducible exact hb1) | (with_reducible refine below_call ?_ hb1) | (with_reducible exact hB) | (with_reducible refine below_call ?_ hB))
          have HLEN : Hid ((itsTo cs kk).length ≤ 16777216) := by
            show _ ≤ _
            exact itsTo_len HG.out
          clear hB
          go_wp2_with (at_builtin; refine wpList_grow rfl (.tmp 29) (.tmp 31) 22 rfl i0 _ 56 Tryz.underlying22 hi0 hz0 hz1 hz2 rfl (by omega) rfl HO1.out (w1.heap.size + 1) z _ 52 rfl (by simpa using Blk.new (w1.alloc _) _ _) rfl (itmR_lit HOK.out) (one_itm _ _ (itmR_lit HOK.out)) HLEN.out (by omega) HB1.out.size ?_)
          rintro v' w2 hown2 - hbel2 ⟨A2, n2, c2, rfl⟩
          have HO2 : Hid (OwnI w.heap.size w2 (.slice A2 n2 c2) (itsTo cs (kk + 1))) := by
            show OwnI _ _ _ _
            rw [HMT.out]; exact hown2
          have HB2 : Hid (Below w.heap.size w w2) := HB1.out.trans hbel2
          clear hown2 hbel2 HO1 HB1 l1 l2 l3 l4
          go_wp2_with fail
          go_roundg (cs.length - (kk + 1))
          case measure => omega
          case rel => exact ⟨kk + 1, _, _, _, by omega, by omega, rfl, by go_num, HO2, HB2, HA2⟩
        · have he2 : (ze != 0) = true := bne_iff_ne.2 he
          have HE := Lib.hid he
          clear he
          go_wp2_with fail
          refine (HIT.out _).mono ?_
          rintro e w1 ⟨rfl, hb1⟩
          go_wp2_with fail
          go_ret2
          refine ItsPost.no (HBAD.out HE.out) ?_
          have hB := BW.out
          repeat (first | (with_reducible exact Below.refl _ _) | (with_reducible refine below_drewN' ?_ _) | (with_reducible refine Below.drew ?_) | (with_reducible refine Below.setCell ?_ (by first | (simp; done) | (simp; omega) | omega) _) | (with_reducible refine below_alloc ?_ _) | (with_reducible refine Below.alloc ?_ (by first | (simp; done) | (simp; omega) | omega) _) | (with_reducible exact hb1) | (with_reducible refine below_call ?_ hb1) | (with_reducible exact hB) | (with_reducible refine below_call ?_ hB))
      · have hltz : ¬ (kk : Int) < (cs.length : Int) := by omega
        have hke : kk = cs.length := by omega
        subst hke
        rw [List.take_length] at HA
        rw [itsTo_all] at HO
        have HF := Lib.hid (all_ok HG.out HA.out)
        go_wp2_with fail
        go_ret2
        exact ItsPost.yes HF.out (HO.out.at_ (by omega)) BW.out
end MonW
end Go.Proofs.YtpmcdjpfolgpiaaGreatDoor

namespace Go.Proofs.YtpmcdjpfolgpiaaGreatDoor
namespace MonW
set_option linter.unusedSimpArgs false
set_option linter.unusedVariables false
open Go.RowKit

theorem itE_ways (c : Chg) : ((netE c != 0) = true ∧ itE c = netE c ∧ itE c ≠ 0) ∨ (netE c = 0 ∧ txOk (itm0 c) = false ∧ itE c = 20 ∧ itE c ≠ 0) ∨ (netE c = 0 ∧ txOk (itm0 c) = true ∧ itE c = 0 ∧ itV c = txV (itm0 c)) := by
  by_cases h : netE c = 0
  · right
    have e : itE c = txE (itm0 c) := by unfold itE; rw [if_pos h]
    cases ht : txOk (itm0 c)
    · left
      have : itE c = 20 := by rw [e]; unfold txE; rw [ht]; rfl
      exact ⟨h, rfl, this, by omega⟩
    · right
      have : itE c = 0 := by rw [e]; unfold txE; rw [ht]; rfl
      exact ⟨h, rfl, this, by unfold itV; rw [if_pos h]⟩
  · left
    have e : itE c = netE c := by unfold itE; rw [if_neg h]
    exact ⟨bne_iff_ne.2 h, e, by rw [e]; exact h⟩

theorem itE_ways2 (c : Chg) : ((netE c != 0) = true ∧ itE c = netE c ∧ itE c ≠ 0) ∨ (netE c = 0 ∧ ((txOk (itm0 c) = false ∧ itE c = 20 ∧ itE c ≠ 0) ∨ (txOk (itm0 c) = true ∧ itE c = 0 ∧ itV c = txV (itm0 c)))) := by
  rcases itE_ways c with h | ⟨h1, h⟩ | ⟨h1, h⟩
  · exact .inl h
  · exact .inr ⟨h1, .inl h⟩
  · exact .inr ⟨h1, .inr h⟩
theorem newCall {W wx : World} {cs : Array Value} {t : TypeId} (h : Below (W.alloc (.cells cs t)).drew.heap.size (W.alloc (.cells cs t)).drew wx) : (∀ o, wx.cell? ⟨W.heap.size, o, none⟩ = cs[o]?) ∧ (∀ o, wx.frozen? ⟨W.heap.size, o, none⟩ = false) ∧ W.heap.size < wx.heap.size ∧ Blk wx W.heap.size t cs :=
  have hk : Blk wx W.heap.size t cs := (Blk.new W t cs).drew.call h
  ⟨hk.cell, hk.frozen, hk.lt, hk⟩
/-- Behind 'x, ok := taxed(..)'. -/
def TxR (W : World) (z : Itm) (ok : Bool) (s8 s9 : Value) (wc : World) : Prop := ∃ g, s8 = .pointer (some ⟨g, 0, none⟩) ∧ s9 = .bool ok ∧ W.heap.size ≤ g ∧ Blk wc g 52 #[i z.kind, i z.price, i z.tax, i z.qty, i z.net, i z.vat, i z.gross] ∧ Below W.heap.size W wc

set_option maxRecDepth 100000 in
set_option maxHeartbeats 2000000 in
theorem ritems (v : Value) (cs : List Chg) (w : World) (h : ChgsAt w v cs) : Calls Tryz.prog 52 #[v] w (ItsPost cs w) := by
  obtain ⟨A, c, rfl, h1, h2⟩ := SliceAt.form h
  obtain ⟨i0, hi0, hz0, hz1, hz2⟩ := info_parts infoItm
  unfold maxLen at h2
  have HC := Lib.hid h
  clear h
  by_cases hbig : 64 < cs.length
  · have HF := Lib.hid (all_big hbig)
    go_enter Tryz.func52, Tryz.ntmps52
    go_wp2_with fail
    go_ret2
    exact ItsPost.no HF.out (Below.refl _ _)
  · have HG := Lib.hid hbig
    go_enter Tryz.func52, Tryz.ntmps52
    go_wp2
    go_loopg [4, 5] cs.length (fun gg s4 s17 wr => ∃ (kk : Nat) (A1 : Option Addr) (n1 c1 : Nat), kk ≤ cs.length ∧ cs.length - kk ≤ gg ∧ s4 = .slice A1 n1 c1 ∧ s17 = i kk ∧ Hid (OwnI w.heap.size wr (.slice A1 n1 c1) (itsTo cs kk)) ∧ Hid (Below w.heap.size w wr) ∧ Hid (∀ c ∈ cs.take kk, itE c = 0))
    case atStart => exact ⟨0, _, _, _, Nat.zero_le _, by omega, rfl, rfl, Own.nil, Below.refl _ w, fun c hc => by simp at hc⟩
    case round =>
      obtain ⟨kk, A1, n1, c1, hkk, hg, rfl, rfl, HO, BW, HA⟩ := hrel
      by_cases hlt : kk < cs.length
      · have hltz : (kk : Int) < (cs.length : Int) := by omega
        have h0z : (0 : Int) ≤ (kk : Int) := by omega
        obtain ⟨b, off, rfl, _, hok, hrow⟩ := ChgsAt.at_ HC.out hlt
        obtain ⟨l1, l2, l3, l4⟩ := hrow wr (Kept.of BW.out)
        have HROW := Lib.hid (fun (W : World) (hb : Below wr.heap.size wr W) => hrow W (Kept.of (below_call BW.out hb)))
        clear hrow
        have HNT := Lib.hid (fun W => rnet cs[kk] W hok)
        have HTX := Lib.hid (fun W => rtaxed (itm0 cs[kk]) W (itm0_ok hok))
        have HOK := Lib.hid (itV_ok hok)
        have HMT := Lib.hid (itsTo_succ hlt)
        have HTA := Lib.hid (take_all hlt HA.out)
        have HBAD := Lib.hid (all_bad HG.out hlt HA.out)
        clear hok
        generalize cs[kk] = y at *
        rcases itE_ways2 y with ⟨e1, e2, e3⟩ | ⟨e1, e2⟩
        · have HF := Lib.hid (HBAD.out e3)
          rw [e2] at HF
          generalize netE y = ne at *
          clear e2 e3 HBAD HTA
          go_wp2_with fail
          refine (HNT.out _).mono ?_
          rintro e w1 ⟨rfl, hb1⟩
          go_wp2_with fail
          go_ret2
          refine ItsPost.no HF.out ?_
          have hB := BW.out
          repeat (first | (with_reducible exact Below.refl _ _) | (with_reducible refine below_drewN' ?_ _) | (with_reducible refine Below.drew ?_) | (with_reducible refine Below.setCell ?_ (by first | (simp; done) | (simp; omega) | omega) _) | (with_reducible refine below_alloc ?_ _) | (with_reducible refine Below.alloc ?_ (by first | (simp; done) | (simp; omega) | omega) _) | (with_reducible exact hb1) | (with_reducible refine below_call ?_ hb1) | (with_reducible exact hB) | (with_reducible refine below_call ?_ hB))
        · rw [e1] at HNT
          have HW := Lib.hid e2
          generalize hz : txV (itm0 y) = z at *
          generalize hok : txOk (itm0 y) = ok at *
          clear hz hok
          unfold itm0 at HTX
          generalize netV y = nv at *
          clear e1 e2
          go_wp2_with fail
          refine (HNT.out _).mono ?_
          rintro e w1 ⟨rfl, hb1⟩
          have hS : ∀ w', Below w1.heap.size w1 w' → (w'.cell? ⟨b, off + kk * 4, none⟩ = some (i y.kind) ∧ w'.cell? ⟨b, off + kk * 4 + 1, none⟩ = some (i y.price) ∧ w'.cell? ⟨b, off + kk * 4 + 2, none⟩ = some (i y.tax) ∧ w'.cell? ⟨b, off + kk * 4 + 3, none⟩ = some (i y.qty)) ∧ FinB w1 w' :=
            fun w' hb => ⟨HROW.out w' (below_call hb1 hb), hb⟩
          have HSS := Lib.hid hS
          clear hS l1 l2 l3 l4
          go_upto_region 10 with (fail)
          go_cut [8, 9] (fun s8 s9 wc => TxR w1 z ok s8 s9 wc)
          case first =>
            go_region_held3 (fun w' => (w'.cell? ⟨b, off + kk * 4, none⟩ = some (i y.kind) ∧ w'.cell? ⟨b, off + kk * 4 + 1, none⟩ = some (i y.price) ∧ w'.cell? ⟨b, off + kk * 4 + 2, none⟩ = some (i y.tax) ∧ w'.cell? ⟨b, off + kk * 4 + 3, none⟩ = some (i y.qty)) ∧ FinB w1 w')
              (((with_reducible refine HSS.out _ ?_); (repeat (first | (with_reducible exact Below.refl _ _) | (with_reducible refine below_drewN' ?_ _) | (with_reducible refine Below.drew ?_) | (with_reducible refine Below.setCell ?_ (by first | (simp; done) | (simp; omega) | omega) _) | (with_reducible refine below_alloc ?_ _) | (with_reducible refine Below.alloc ?_ (by first | (simp; done) | (simp; omega) | omega) _) | (with_reducible exact hwx) | (with_reducible refine below_call ?_ hwx))); done))
              ((go_at_call 86; refine (HTX.out _).mono ?_; rintro e wx ⟨rfl, hwx⟩; (try (with_reducible have hk := newCall hwx; obtain ⟨hkc, hkf, hkl, hkk⟩ := hk))))
            · go_wp2_with fail
              go_meet
              refine ⟨_, rfl, rfl, ?_, Blk.new _ _ _, ?_⟩
              · have := hwx.size
                simpa using this
              · repeat (first | (with_reducible exact Below.refl _ _) | (with_reducible refine below_drewN' ?_ _) | (with_reducible refine Below.drew ?_) | (with_reducible refine Below.setCell ?_ (by first | (simp; done) | (simp; omega) | omega) _) | (with_reducible refine below_alloc ?_ _) | (with_reducible refine Below.alloc ?_ (by first | (simp; done) | (simp; omega) | omega) _) | (with_reducible exact hwx) | (with_reducible refine below_call ?_ hwx))
            · go_wp2_with fail
              go_meet
              refine ⟨_, rfl, rfl, Nat.le_refl _, ?_, ?_⟩
              · simpa using ((((((hkk.set_ 0 (i z.kind)).set_ 1 (i z.price)).set_ 2 (i z.tax)).set_ 3 (i z.qty)).set_ 4 (i z.net)).set_ 5 (i z.vat)).set_ 6 (i z.gross)
              · repeat (first | (with_reducible exact Below.refl _ _) | (with_reducible refine below_drewN' ?_ _) | (with_reducible refine Below.drew ?_) | (with_reducible refine Below.setCell ?_ (by first | (simp; done) | (simp; omega) | omega) _) | (with_reducible refine below_alloc ?_ _) | (with_reducible refine Below.alloc ?_ (by first | (simp; done) | (simp; omega) | omega) _) | (with_reducible exact hwx) | (with_reducible refine below_call ?_ hwx))
          case rest =>
            obtain ⟨g, rfl, rfl, hgl, hblk, hbc⟩ := hcut
            obtain ⟨w2, rfl⟩ : ∃ w2 : World, w2 = wc := ⟨_, rfl⟩
            have hgc := hblk.cell
            have hbl := hblk.lt
            have hB2 := below_call (below_call BW.out hb1) hbc
            have HB2 := Lib.hid hB2
            clear hB2
            rcases HW.out with ⟨rfl, e1, e2⟩ | ⟨rfl, e1, e2⟩
            · have HF := Lib.hid (HBAD.out e2)
              rw [e1] at HF
              clear e1 e2 HBAD HTA HW HSS hblk
              go_wp2_with fail
              go_ret2
              exact ItsPost.no HF.out HB2.out
            · have HA2 := Lib.hid (HTA.out e1)
              rw [e2] at HMT HOK
              clear HBAD HTA HW HSS e1 e2
              have HO1 : Hid (OwnI w.heap.size (w2.alloc (.cells #[i z.kind, i z.price, i z.tax, i z.qty, i z.net, i z.vat, i z.gross] 52)) (.slice A1 n1 c1) (itsTo cs kk)) := by
                refine Own.call HO.out ?_
                repeat (first | (with_reducible exact Below.refl _ _) | (with_reducible refine below_drewN' ?_ _) | (with_reducible refine Below.drew ?_) | (with_reducible refine Below.setCell ?_ (by first | (simp; done) | (simp; omega) | omega) _) | (with_reducible refine below_alloc ?_ _) | (with_reducible refine Below.alloc ?_ (by first | (simp; done) | (simp; omega) | omega) _) | (with_reducible exact hbc) | (with_reducible refine below_call ?_ hbc) | (with_reducible exact hb1) | (with_reducible refine below_call ?_ hb1))
              have HB1 : Hid (Below w.heap.size w (w2.alloc (.cells #[i z.kind, i z.price, i z.tax, i z.qty, i z.net, i z.vat, i z.gross] 52))) := below_alloc HB2.out _
              have HLEN : Hid ((itsTo cs kk).length ≤ 16777216) := itsTo_len HG.out
              clear hblk
              go_wp2_with (at_builtin; refine wpList_grow rfl (.tmp 58) (.tmp 60) 22 rfl i0 _ 56 Tryz.underlying22 hi0 hz0 hz1 hz2 rfl (by omega) rfl HO1.out w2.heap.size z _ 52 rfl (Blk.new w2 _ _) rfl (itmR_lit HOK.out) (one_itm _ _ (itmR_lit HOK.out)) HLEN.out (by omega) HB1.out.size ?_)
              rintro v' w3 hown2 - hbel2 ⟨A2, n2, c2, rfl⟩
              have HO2 : Hid (OwnI w.heap.size w3 (.slice A2 n2 c2) (itsTo cs (kk + 1))) := by
                show OwnI _ _ _ _
                rw [HMT.out]; exact hown2
              have HB3 : Hid (Below w.heap.size w w3) := HB1.out.trans hbel2
              clear hown2 hbel2 HO1 HB1 hgc
              go_wp2_with fail
              go_roundg (cs.length - (kk + 1))
              case measure => omega
              case rel => exact ⟨kk + 1, _, _, _, by omega, by omega, rfl, by go_num, HO2, HB3, HA2⟩
      · have hltz : ¬ (kk : Int) < (cs.length : Int) := by omega
        have hke : kk = cs.length := by omega
        subst hke
        rw [List.take_length] at HA
        rw [itsTo_all] at HO
        have HF := Lib.hid (all_ok HG.out HA.out)
        go_wp2_with fail
        go_ret2
        exact ItsPost.yes HF.out (HO.out.at_ (by omega)) BW.out
end MonW
end Go.Proofs.YtpmcdjpfolgpiaaGreatDoor

namespace Go.Proofs.YtpmcdjpfolgpiaaGreatDoor
namespace MonW
set_option linter.unusedSimpArgs false
set_option linter.unusedVariables false
open Go.RowKit

set_option maxHeartbeats 800000 in
theorem neqItm (x : Itm) (w : World) : (binOp .neq 52 (itmV x) (itmV x)).run Tryz.prog w = .ok (.bool false) w := by
  have u3 := Tryz.underlying3
  have a3 := Tryz.isAgg3
  have z3 := Tryz.sizeOf3
  have hS : Tryz.prog.underlying 52 = some (.struct (Tryz.prog.fieldsOf 52)) := by kernel_rfl
  have hp : Tryz.prog.stoodInHeld 52 = false := by kernel_rfl
  rw [run_neq_struct, show (10000 : Nat) = 9999 + 1 from rfl, run_equalIn_agg w 9999 52 _ _ hS hp]
  simp only [Program.fieldsOf, Tryz.underlying52]
  go_simp

def ngi (x : Itm) : Itm := ⟨x.kind, wrap64 (-x.price), x.tax, x.qty, wrap64 (-x.net), wrap64 (-x.vat), wrap64 (-x.gross)⟩
theorem wrap_I64 (n : Int) : I64 (wrap64 n) := by unfold wrap64 I64; omega
theorem ngi_ok {x : Itm} (h : x.ok) : (ngi x).ok := by
  obtain ⟨h1, h2, h3, h4, h5, h6, h7⟩ := h
  exact ⟨h1, wrap_I64 _, h3, h4, wrap_I64 _, wrap_I64 _, wrap_I64 _⟩
def ngTo (cs : List Itm) (k : Nat) : List Itm := (cs.take k).map ngi
theorem ngTo_succ {cs : List Itm} {k : Nat} (hk : k < cs.length) : ngTo cs (k + 1) = ngTo cs k ++ [ngi cs[k]] := map_take hk
theorem ngTo_all (cs : List Itm) : ngTo cs cs.length = cs.map ngi := by unfold ngTo; rw [List.take_length]
theorem ngTo_len {cs : List Itm} {k : Nat} (h : cs.length ≤ 16777216) : (ngTo cs k).length ≤ 16777216 := by unfold ngTo; rw [List.length_map, List.length_take]; omega

def NegPost (cs : List Itm) (w : World) (e : Ending) (w' : World) : Prop := ∃ v, e = .returned v ∧ ItmsAt w' v (cs.map ngi) ∧ Below w.heap.size w w'

set_option maxHeartbeats 2000000 in
theorem rnegate (v : Value) (cs : List Itm) (w : World) (h : ItmsAt w v cs) (hn : cs.length ≤ 16777216) : Calls Tryz.prog 37 #[v] w (NegPost cs w) := by
  obtain ⟨A, c, rfl, h1, h2⟩ := SliceAt.form h
  obtain ⟨i0, hi0, hz0, hz1, hz2⟩ := info_parts infoItm
  unfold maxLen at h2
  have HC := Lib.hid h
  clear h
  go_enter Tryz.func37, Tryz.ntmps37
  go_wp2
  go_loopg [3, 4] cs.length (fun gg s4 s17 wr => ∃ (kk : Nat) (A1 : Option Addr) (n1 c1 : Nat), kk ≤ cs.length ∧ cs.length - kk ≤ gg ∧ s4 = .slice A1 n1 c1 ∧ s17 = i kk ∧ Hid (OwnI w.heap.size wr (.slice A1 n1 c1) (ngTo cs kk)) ∧ Hid (Below w.heap.size w wr))
  case atStart => exact ⟨0, _, _, _, Nat.zero_le _, by omega, rfl, rfl, Own.nil, Below.refl _ w⟩
  case round =>
    obtain ⟨kk, A1, n1, c1, hkk, hg, rfl, rfl, HO, BW⟩ := hrel
    by_cases hlt : kk < cs.length
    · have hltz : (kk : Int) < (cs.length : Int) := by omega
      obtain ⟨b, off, rfl, _, hok, hrow⟩ := ItmsAt.at_ HC.out hlt
      obtain ⟨l1, l2, l3, l4, l5, l6, l7⟩ := hrow wr (Kept.of BW.out)
      clear hrow
      have HOK := Lib.hid (ngi_ok hok)
      have HMT := Lib.hid (ngTo_succ hlt)
      clear hok
      generalize cs[kk] = y at *
      have HO1 : Hid (OwnI w.heap.size ((wr.alloc (.cells #[i y.kind, i (wrap64 (-y.price)), i y.tax, i y.qty, i (wrap64 (-y.net)), i (wrap64 (-y.vat)), i (wrap64 (-y.gross))] 52)).alloc (.cells #[i y.kind, i (wrap64 (-y.price)), i y.tax, i y.qty, i (wrap64 (-y.net)), i (wrap64 (-y.vat)), i (wrap64 (-y.gross))] 52)) (.slice A1 n1 c1) (ngTo cs kk)) := by
        refine Own.call HO.out ?_
        repeat (first | (with_reducible exact Below.refl _ _) | (with_reducible refine below_drewN' ?_ _) | (with_reducible refine Below.drew ?_) | (with_reducible refine Below.setCell ?_ (by first | (simp; done) | (simp; omega) | omega) _) | (with_reducible refine below_alloc ?_ _) | (with_reducible refine Below.alloc ?_ (by first | (simp; done) | (simp; omega) | omega) _))
      have HB1 : Hid (Below w.heap.size w ((wr.alloc (.cells #[i y.kind, i (wrap64 (-y.price)), i y.tax, i y.qty, i (wrap64 (-y.net)), i (wrap64 (-y.vat)), i (wrap64 (-y.gross))] 52)).alloc (.cells #[i y.kind, i (wrap64 (-y.price)), i y.tax, i y.qty, i (wrap64 (-y.net)), i (wrap64 (-y.vat)), i (wrap64 (-y.gross))] 52))) := below_alloc (below_alloc BW.out _) _
      have HRR : Hid (ItmR (#[i y.kind, i (wrap64 (-y.price)), i y.tax, i y.qty, i (wrap64 (-y.net)), i (wrap64 (-y.vat)), i (wrap64 (-y.gross))] : Array Value).toList (ngi y)) := itmR_lit HOK.out
      have HLEN : Hid ((ngTo cs kk).length ≤ 16777216) := ngTo_len hn
      go_wp2_with (at_builtin; refine wpList_grow rfl (.tmp 32) (.tmp 34) 22 rfl i0 _ 56 Tryz.underlying22 hi0 hz0 hz1 hz2 rfl (by omega) rfl HO1.out (wr.heap.size + 1) (ngi y) _ 52 rfl (by simpa using Blk.new (wr.alloc _) _ _) rfl HRR.out (one_itm _ _ HRR.out) HLEN.out (by omega) HB1.out.size ?_)
      rintro v' w3 hown2 - hbel2 ⟨A2, n2, c2, rfl⟩
      have HO2 : Hid (OwnI w.heap.size w3 (.slice A2 n2 c2) (ngTo cs (kk + 1))) := by
        show OwnI _ _ _ _
        rw [HMT.out]; exact hown2
      have HB3 : Hid (Below w.heap.size w w3) := HB1.out.trans hbel2
      clear hown2 hbel2 HO1 HB1 l1 l2 l3 l4 l5 l6 l7
      go_wp2_with fail
      go_roundg (cs.length - (kk + 1))
      case measure => omega
      case rel => exact ⟨kk + 1, _, _, _, by omega, by omega, rfl, by go_num, HO2, HB3⟩
    · have hltz : ¬ (kk : Int) < (cs.length : Int) := by omega
      have hke : kk = cs.length := by omega
      subst hke
      rw [ngTo_all] at HO
      go_wp2_with fail
      go_ret
      exact ⟨_, rfl, HO.out.at_ (by omega), BW.out⟩

theorem putCells7 (w : World) (g p : Nat) (a b c d e f h : Value) : putCells w g p [a, b, c, d, e, f, h] = ((((((w.setCell ⟨g, p, none⟩ a).setCell ⟨g, p + 1, none⟩ b).setCell ⟨g, p + 2, none⟩ c).setCell ⟨g, p + 3, none⟩ d).setCell ⟨g, p + 4, none⟩ e).setCell ⟨g, p + 5, none⟩ f).setCell ⟨g, p + 6, none⟩ h := by
  simp only [putCells, Nat.add_assoc, Nat.reduceAdd]
def mixTo (cs : List Itm) (k : Nat) : List Itm := ngTo cs k ++ List.replicate (cs.length - k) noItm
theorem mixTo_len {cs : List Itm} {k : Nat} (h : k ≤ cs.length) : (mixTo cs k).length = cs.length := by
  unfold mixTo ngTo
  rw [List.length_append, List.length_map, List.length_take, List.length_replicate]
  omega
theorem mixTo_zero (cs : List Itm) : mixTo cs 0 = List.replicate cs.length noItm := by unfold mixTo ngTo; simp
theorem mixTo_all (cs : List Itm) : mixTo cs cs.length = cs.map ngi := by unfold mixTo; rw [ngTo_all]; simp
theorem mixTo_succ {cs : List Itm} {k : Nat} (hk : k < cs.length) : (mixTo cs k).set k (ngi cs[k]) = mixTo cs (k + 1) := by
  unfold mixTo
  have hl : (ngTo cs k).length = k := by unfold ngTo; rw [List.length_map, List.length_take]; omega
  rw [ngTo_succ hk, List.set_append, if_neg (by omega), hl, Nat.sub_self, show cs.length - k = (cs.length - (k + 1)) + 1 by omega, List.replicate_succ, List.set_cons_zero, List.append_assoc]
  rfl

set_option maxHeartbeats 2000000 in
theorem negate (v : Value) (cs : List Itm) (w : World) (h : ItmsAt w v cs) (hn : cs.length ≤ 16777216) : Calls Tryz.prog 36 #[v] w (NegPost cs w) := by
  obtain ⟨A, c, rfl, h1, h2⟩ := SliceAt.form h
  obtain ⟨i0, hi0, hz0, hz1, hz2⟩ := info_parts infoItm
  unfold maxLen at h2
  have HC := Lib.hid h
  clear h
  go_enter Tryz.func36, Tryz.ntmps36
  go_wp2_with (at_make; refine wpList_make_full _ rfl _ _ 22 rfl w.heap.size 52 i0 _ 7 Tryz.underlying22 hi0 hz0 hz1 .i64 .i64 _ _ cs.length rfl rfl rfl rfl (by rw [hz2]; omega) (by unfold maxLen; omega) (Nat.le_refl _) ?_)
  intro w0 hown0 hgr0
  have HO0 : Hid (OwnI w.heap.size w0 (.slice (some ⟨w.heap.size, 0, none⟩) cs.length cs.length) (mixTo cs 0)) := by
    show OwnI _ _ _ _
    rw [mixTo_zero]
    exact own_made (x := noItm) (z := itmV noItm) (by omega) rfl ⟨rfl, noItm_ok⟩ hown0
  have HB0 : Hid (Below w.heap.size w w0) := (Below.refl _ _).grown hgr0 (Nat.le_refl _) (fun k hk => by cases hk)
  clear hown0 hgr0
  go_wp2
  go_loopg [11] cs.length (fun gg s11 wr => ∃ (kk : Nat), kk ≤ cs.length ∧ cs.length - kk ≤ gg ∧ s11 = i kk ∧ Hid (OwnI w.heap.size wr (.slice (some ⟨w.heap.size, 0, none⟩) cs.length cs.length) (mixTo cs kk)) ∧ Hid (Below w.heap.size w wr))
  case atStart => exact ⟨0, Nat.zero_le _, by omega, rfl, HO0, HB0⟩
  case round =>
    obtain ⟨kk, hkk, hg, rfl, HO, BW⟩ := hrel
    clear HO0 HB0
    by_cases hlt : kk < cs.length
    · have hltz : (kk : Int) < (cs.length : Int) := by omega
      have hk0 : (0 : Int) ≤ (kk : Int) := by omega
      obtain ⟨b, off, rfl, _, hok, hrow⟩ := ItmsAt.at_ HC.out hlt
      obtain ⟨l1, l2, l3, l4, l5, l6, l7⟩ := hrow wr (Kept.of BW.out)
      clear hrow
      have HOK := Lib.hid (ngi_ok hok)
      have HMT := Lib.hid (mixTo_succ hlt)
      clear hok
      generalize cs[kk] = y at *
      have hml := mixTo_len hkk
      obtain ⟨⟨u0, t0⟩, f0⟩ := HO.out.there (j := kk) (o := 0) hml.symm (by omega) (by omega)
      obtain ⟨⟨u1, t1⟩, f1⟩ := HO.out.there (j := kk) (o := 1) hml.symm (by omega) (by omega)
      obtain ⟨⟨u2, t2⟩, f2⟩ := HO.out.there (j := kk) (o := 2) hml.symm (by omega) (by omega)
      obtain ⟨⟨u3, t3⟩, f3⟩ := HO.out.there (j := kk) (o := 3) hml.symm (by omega) (by omega)
      obtain ⟨⟨u4, t4⟩, f4⟩ := HO.out.there (j := kk) (o := 4) hml.symm (by omega) (by omega)
      obtain ⟨⟨u5, t5⟩, f5⟩ := HO.out.there (j := kk) (o := 5) hml.symm (by omega) (by omega)
      obtain ⟨⟨u6, t6⟩, f6⟩ := HO.out.there (j := kk) (o := 6) hml.symm (by omega) (by omega)
      rw [Nat.add_zero] at t0 f0
      have hgz : w.heap.size < wr.heap.size := World.block_lt_of_cell? wr _ t0
      have HRR : Hid (ItmR [i y.kind, i (wrap64 (-y.price)), i y.tax, i y.qty, i (wrap64 (-y.net)), i (wrap64 (-y.vat)), i (wrap64 (-y.gross))] (ngi y)) := itmR_lit HOK.out
      have HP := Lib.hid (Own.put HO.out (j := kk) hml.symm (by omega) rfl HRR.out)
      rw [HMT.out, putCells7] at HP
      have HB1 : Hid (Below w.heap.size w _) := BW.out.grown HP.out.2 BW.out.size (fun k hk => by injection hk with hk; omega)
      clear hml
      go_wp2_with fail
      go_roundg (cs.length - (kk + 1))
      case measure => omega
      case rel => exact ⟨kk + 1, by omega, by omega, by go_num, HP.out.1.call (below_new _ _), below_alloc HB1.out _⟩
    · have hltz : ¬ (kk : Int) < (cs.length : Int) := by omega
      have hke : kk = cs.length := by omega
      subst hke
      rw [mixTo_all] at HO
      go_wp2_with fail
      go_ret
      exact ⟨_, rfl, HO.out.at_ (by omega), BW.out⟩
end MonW
end Go.Proofs.YtpmcdjpfolgpiaaGreatDoor

namespace Go.Proofs.YtpmcdjpfolgpiaaGreatDoor
namespace MonW
set_option linter.unusedSimpArgs false
set_option linter.unusedVariables false
open Go.RowKit

theorem infoInt : (Tryz.prog.info? 3).map (fun i => (i.zero, i.size, i.bytes)) = some (some (.int .i64 0), 1, 8) := by kernel_rfl
abbrev OwnN (base : Nat) (w : World) (v : Value) (xs : List Int) : Prop := Own IntR 3 1 base w v xs

theorem enters_own {P : Program} {f : FuncId} {fn : Func} {c : Code} (hf : P.funcs[f]? = some fn) (hname : (fn.name == "runtime.NumGoroutine") = false) (hb : fn.body = some c) : ∀ args w, (callFunc f args).run P w = .ok (.enter f args) w := by
  intro args w
  have h1 : fn.name ≠ "runtime.NumGoroutine" := by simpa using hname
  simp [callFunc, hf, h1, hb, mark]

theorem partNet (x : Itm) (w : World) : Calls Tryz.prog 127 #[itmV x] w fun e w' => e = .returned (i x.net) ∧ Below w.heap.size w w' := by
  go_enter Tryz.func127, Tryz.ntmps127
  go_wp2
  go_ret
  exact ⟨rfl, below_new _ _⟩
theorem partVat (x : Itm) (w : World) : Calls Tryz.prog 103 #[itmV x] w fun e w' => e = .returned (i x.vat) ∧ Below w.heap.size w w' := by
  go_enter Tryz.func103, Tryz.ntmps103
  go_wp2
  go_ret
  exact ⟨rfl, below_new _ _⟩
theorem partGross (x : Itm) (w : World) : Calls Tryz.prog 104 #[itmV x] w fun e w' => e = .returned (i x.gross) ∧ Below w.heap.size w w' := by
  go_enter Tryz.func104, Tryz.ntmps104
  go_wp2
  go_ret
  exact ⟨rfl, below_new _ _⟩
theorem egNet : ∀ args w, (callFunc 127 args).run Tryz.prog w = .ok (.enter 127 args) w := enters_own Tryz.func127 (by kernel_rfl) rfl
theorem egVat : ∀ args w, (callFunc 103 args).run Tryz.prog w = .ok (.enter 103 args) w := enters_own Tryz.func103 (by kernel_rfl) rfl
theorem egGross : ∀ args w, (callFunc 104 args).run Tryz.prog w = .ok (.enter 104 args) w := enters_own Tryz.func104 (by kernel_rfl) rfl

def mixN (f : Itm → Int) (cs : List Itm) (k : Nat) : List Int := (cs.take k).map f ++ List.replicate (cs.length - k) 0
theorem mixN_len {f : Itm → Int} {cs : List Itm} {k : Nat} (h : k ≤ cs.length) : (mixN f cs k).length = cs.length := by
  unfold mixN
  rw [List.length_append, List.length_map, List.length_take, List.length_replicate]
  omega
theorem mixN_zero (f : Itm → Int) (cs : List Itm) : mixN f cs 0 = List.replicate cs.length 0 := by unfold mixN; simp
theorem mixN_all (f : Itm → Int) (cs : List Itm) : mixN f cs cs.length = cs.map f := by unfold mixN; simp
theorem mixN_succ {f : Itm → Int} {cs : List Itm} {k : Nat} (hk : k < cs.length) : (mixN f cs k).set k (f cs[k]) = mixN f cs (k + 1) := by
  unfold mixN
  have hl : ((cs.take k).map f).length = k := by rw [List.length_map, List.length_take]; omega
  rw [map_take hk, List.set_append, if_neg (by omega), hl, Nat.sub_self, show cs.length - k = (cs.length - (k + 1)) + 1 by omega, List.replicate_succ, List.set_cons_zero, List.append_assoc]
  rfl

set_option maxHeartbeats 2000000 in
theorem sumF (fid : FuncId) (f : Itm → Int) (hf : ∀ x : Itm, x.ok → I64 (f x)) (hp : ∀ (x : Itm) (w : World), Calls Tryz.prog fid #[itmV x] w fun e w' => e = .returned (i (f x)) ∧ Below w.heap.size w w')
    (he : ∀ args w, (callFunc fid args).run Tryz.prog w = .ok (.enter fid args) w)
    (v : Value) (cs : List Itm) (w : World) (h : ItmsAt w v cs) (hn : cs.length ≤ 16777216) :
    Calls Tryz.prog 102 #[v, .func (.func fid) #[] #[]] w fun e w' => e = .returned (.tuple #[i (sumV (tot (cs.map f))), i (sumE (tot (cs.map f)))]) ∧ Below w.heap.size w w' := by
  obtain ⟨A, c, rfl, h1, h2⟩ := SliceAt.form h
  obtain ⟨i0, hi0, hz0, hz1, hz2⟩ := info_parts infoInt
  unfold maxLen at h2
  have HC := Lib.hid h
  have HF := Lib.hid hf
  have HP := Lib.hid hp
  clear h hf hp
  go_enter Tryz.func102, Tryz.ntmps102
  go_wp2_with (at_make; refine wpList_make_full _ rfl _ _ 90 rfl w.heap.size 3 i0 _ 1 Tryz.underlying90 hi0 hz0 hz1 .i64 .i64 _ _ cs.length rfl rfl rfl rfl (by rw [hz2]; omega) (by unfold maxLen; omega) (Nat.le_refl _) ?_)
  intro w0 hown0 hgr0
  have HO0 : Hid (OwnN w.heap.size w0 (.slice (some ⟨w.heap.size, 0, none⟩) cs.length cs.length) (mixN f cs 0)) := by
    show OwnN _ _ _ _
    rw [mixN_zero]
    exact own_made (x := (0 : Int)) (z := i 0) (by omega) rfl ⟨rfl, by unfold I64; omega⟩ (by rw [Nat.mul_one]; exact hown0)
  have HB0 : Hid (Below w.heap.size w w0) := (Below.refl _ _).grown hgr0 (Nat.le_refl _) (fun k hk => by cases hk)
  clear hown0 hgr0
  go_wp2
  go_loopg [14] cs.length (fun gg s14 wr => ∃ (kk : Nat), kk ≤ cs.length ∧ cs.length - kk ≤ gg ∧ s14 = i kk ∧ Hid (OwnN w.heap.size wr (.slice (some ⟨w.heap.size, 0, none⟩) cs.length cs.length) (mixN f cs kk)) ∧ Hid (Below w.heap.size w wr))
  case atStart => exact ⟨0, Nat.zero_le _, by omega, rfl, HO0, HB0⟩
  case round =>
    obtain ⟨kk, hkk, hg, rfl, HO, BW⟩ := hrel
    clear HO0 HB0
    by_cases hlt : kk < cs.length
    · have hltz : (kk : Int) < (cs.length : Int) := by omega
      have hk0 : (0 : Int) ≤ (kk : Int) := by omega
      obtain ⟨b, off, rfl, _, hok, hrow⟩ := ItmsAt.at_ HC.out hlt
      obtain ⟨l1, l2, l3, l4, l5, l6, l7⟩ := hrow wr (Kept.of BW.out)
      clear hrow
      have HOK := Lib.hid (HF.out _ hok)
      have HMT := Lib.hid (mixN_succ (f := f) hlt)
      have HPP := Lib.hid (fun W => HP.out cs[kk] W)
      have HML := Lib.hid (mixN_len (f := f) hkk)
      clear hok
      generalize cs[kk] = y at *
      generalize f y = fy at *
      go_wp2_with fail
      refine (HPP.out _).mono ?_
      rintro e w1 ⟨rfl, hb1⟩
      have hO1 : OwnN w.heap.size w1 (.slice (some ⟨w.heap.size, 0, none⟩) cs.length cs.length) (mixN f cs kk) := by
        refine Own.call HO.out ?_
        repeat (first | (with_reducible exact Below.refl _ _) | (with_reducible refine below_drewN' ?_ _) | (with_reducible refine Below.drew ?_) | (with_reducible refine Below.setCell ?_ (by first | (simp; done) | (simp; omega) | omega) _) | (with_reducible refine below_alloc ?_ _) | (with_reducible refine Below.alloc ?_ (by first | (simp; done) | (simp; omega) | omega) _) | (with_reducible exact hb1) | (with_reducible refine below_call ?_ hb1))
      have hB1 : Below w.heap.size w w1 := by
        have hB := BW.out
        repeat (first | (with_reducible exact Below.refl _ _) | (with_reducible refine below_drewN' ?_ _) | (with_reducible refine Below.drew ?_) | (with_reducible refine Below.setCell ?_ (by first | (simp; done) | (simp; omega) | omega) _) | (with_reducible refine below_alloc ?_ _) | (with_reducible refine Below.alloc ?_ (by first | (simp; done) | (simp; omega) | omega) _) | (with_reducible exact hb1) | (with_reducible refine below_call ?_ hb1) | (with_reducible exact hB) | (with_reducible refine below_call ?_ hB))
      obtain ⟨⟨u0, t0⟩, f0⟩ := hO1.there (j := kk) (o := 0) HML.out.symm (by rw [HML.out]; omega) (by omega)
      rw [Nat.add_zero, Nat.mul_one] at t0 f0
      have hgz : w.heap.size < w1.heap.size := World.block_lt_of_cell? w1 _ t0
      have HP1 := Lib.hid (Own.put hO1 (j := kk) HML.out.symm (by rw [HML.out]; omega) rfl (⟨rfl, HOK.out⟩ : IntR [i fy] fy))
      rw [HMT.out, Nat.mul_one] at HP1
      have HB2 : Hid (Below w.heap.size w _) := hB1.grown HP1.out.2 hB1.size (fun k hk => by injection hk with hk; omega)
      clear hO1 hB1 l1 l2 l3 l4 l5 l6 l7
      go_wp2_with fail
      go_roundg (cs.length - (kk + 1))
      case measure => omega
      case rel => exact ⟨kk + 1, by omega, by omega, by go_num, HP1.out.1, HB2⟩
    · have hltz : ¬ (kk : Int) < (cs.length : Int) := by omega
      have hke : kk = cs.length := by omega
      subst hke
      rw [mixN_all] at HO
      have HS := Lib.hid (msum _ _ wr (HO.out.at_ (by omega) : IntsAt wr _ _))
      generalize hsv : sumV (tot (cs.map f)) = sv at HS
      generalize hse : sumE (tot (cs.map f)) = se at HS
      have HV := Lib.hid (And.intro hsv hse)
      clear hsv hse
      go_wp2_with fail
      refine HS.out.mono ?_
      rintro e w1 ⟨rfl, hb1⟩
      go_wp2_with fail
      go_ret2
      exact ⟨ret2 ⟨HV.out.1.symm, HV.out.2.symm⟩, below_call BW.out hb1⟩

def sNet (cs : List Itm) : Int := tot (cs.map (·.net))
def sVat (cs : List Itm) : Int := tot (cs.map (·.vat))
def sGross (cs : List Itm) : Int := tot (cs.map (·.gross))
theorem netSum (v : Value) (cs : List Itm) (w : World) (h : ItmsAt w v cs) (hn : cs.length ≤ 16777216) :
    Calls Tryz.prog 98 #[v] w fun e w' => e = .returned (.tuple #[i (sumV (sNet cs)), i (sumE (sNet cs))]) ∧ Below w.heap.size w w' := by
  obtain ⟨A, c, rfl, h1, h2⟩ := SliceAt.form h
  have HS := Lib.hid (sumF 127 (·.net) (fun x hx => hx.2.2.2.2.1) partNet egNet _ cs w h hn)
  unfold sNet
  generalize sumV (tot (cs.map (·.net))) = sv at *
  generalize sumE (tot (cs.map (·.net))) = se at *
  go_enter Tryz.func98, Tryz.ntmps98
  go_wp2_with fail
  refine HS.out.mono ?_
  rintro e w1 ⟨rfl, hb1⟩
  go_wp2_with fail
  go_ret2
  exact ⟨rfl, hb1⟩

def totOk (cs : List Itm) : Bool := fitI (sNet cs) && fitI (sVat cs) && fitI (sGross cs)
def totX (cs : List Itm) (x : Int) : Int := if totOk cs then x else 0
def totE (cs : List Itm) : Int := if totOk cs then 0 else 20
def totV (cs : List Itm) : Value := .tuple #[i (totX cs (sNet cs)), i (totX cs (sVat cs)), i (totX cs (sGross cs)), i (totE cs)]
theorem sum_ways (S : Int) : (fitI S = true ∧ sumV S = S ∧ sumE S = 0) ∨ (fitI S = false ∧ sumV S = 0 ∧ sumE S = 20) := by
  cases h : fitI S
  · exact .inr ⟨rfl, by unfold sumV; rw [h]; rfl, by unfold sumE; rw [h]; rfl⟩
  · exact .inl ⟨rfl, by unfold sumV; rw [h]; rfl, by unfold sumE; rw [h]; rfl⟩
theorem totNo {cs : List Itm} (h : totOk cs = false) : totV cs = .tuple #[i 0, i 0, i 0, i 20] := by unfold totV totX totE; rw [h]; rfl
theorem totYes {cs : List Itm} (h : totOk cs = true) : totV cs = .tuple #[i (sNet cs), i (sVat cs), i (sGross cs), i 0] := by unfold totV totX totE; rw [h]; rfl

set_option maxHeartbeats 1000000 in
theorem totals (v : Value) (cs : List Itm) (w : World) (h : ItmsAt w v cs) (hn : cs.length ≤ 16777216) :
    Calls Tryz.prog 80 #[v] w fun e w' => e = .returned (totV cs) ∧ Below w.heap.size w w' := by
  obtain ⟨A, c, rfl, h1, h2⟩ := SliceAt.form h
  have H1 := Lib.hid (netSum _ cs w h hn)
  have H2 := Lib.hid (fun (W : World) (hb : Below w.heap.size w W) => sumF 103 (·.vat) (fun x hx => hx.2.2.2.2.2.1) partVat egVat _ cs W (h.call hb) hn)
  have H3 := Lib.hid (fun (W : World) (hb : Below w.heap.size w W) => sumF 104 (·.gross) (fun x hx => hx.2.2.2.2.2.2) partGross egGross _ cs W (h.call hb) hn)
  have ok : totOk cs = (fitI (sNet cs) && fitI (tot (cs.map (·.vat))) && fitI (tot (cs.map (·.gross)))) := rfl
  have HY : Hid (totOk cs = true → totV cs = .tuple #[i (sNet cs), i (tot (cs.map (·.vat))), i (tot (cs.map (·.gross))), i 0]) := fun h => totYes h
  have HN : Hid (totOk cs = false → totV cs = .tuple #[i 0, i 0, i 0, i 20]) := fun h => totNo h
  have w1 := sum_ways (sNet cs)
  have w2 := sum_ways (tot (cs.map (·.vat)))
  have w3 := sum_ways (tot (cs.map (·.gross)))
  generalize sNet cs = a at *
  generalize tot (cs.map (·.vat)) = b at *
  generalize tot (cs.map (·.gross)) = d at *
  clear h
  rcases w1 with ⟨f1, e1, e2⟩ | ⟨f1, e1, e2⟩
  · rw [e1, e2] at H1
    rcases w2 with ⟨f2, e3, e4⟩ | ⟨f2, e3, e4⟩
    · rw [e3, e4] at H2
      rcases w3 with ⟨f3, e5, e6⟩ | ⟨f3, e5, e6⟩
      · rw [e5, e6] at H3
        rw [f1, f2, f3] at ok
        have HF := Lib.hid (HY.out ok)
        clear ok HY HN f1 f2 f3 e1 e2 e3 e4 e5 e6
        go_enter Tryz.func80, Tryz.ntmps80
        go_wp2_with fail
        refine H1.out.mono ?_
        rintro e w1 ⟨rfl, hb1⟩
        go_wp2_with fail
        refine (H2.out w1 hb1).mono ?_
        rintro e w2 ⟨rfl, hb2⟩
        have hb3 := below_call hb1 hb2
        go_wp2_with fail
        refine (H3.out w2 hb3).mono ?_
        rintro e w3 ⟨rfl, hb4⟩
        go_wp2_with fail
        refine bodyPost_ret (v := .tuple #[i a, i b, i d, i 0]) (by simp [results, Tryz.results80, go_sem]) rfl ⟨by rw [HF.out], below_call hb3 hb4⟩
      · rw [e5, e6] at H3
        rw [f1, f2, f3] at ok
        have HF := Lib.hid (HN.out ok)
        clear ok HY HN f1 f2 f3 e1 e2 e3 e4 e5 e6
        go_enter Tryz.func80, Tryz.ntmps80
        go_wp2_with fail
        refine H1.out.mono ?_
        rintro e w1 ⟨rfl, hb1⟩
        go_wp2_with fail
        refine (H2.out w1 hb1).mono ?_
        rintro e w2 ⟨rfl, hb2⟩
        have hb3 := below_call hb1 hb2
        go_wp2_with fail
        refine (H3.out w2 hb3).mono ?_
        rintro e w3 ⟨rfl, hb4⟩
        go_wp2_with fail
        refine bodyPost_ret (v := .tuple #[i 0, i 0, i 0, i 20]) (by simp [results, Tryz.results80, go_sem]) rfl ⟨by rw [HF.out], below_call hb3 hb4⟩
    · rw [e3, e4] at H2
      rw [f1, f2] at ok
      have HF := Lib.hid (HN.out ok)
      clear ok HY HN f1 f2 e1 e2 e3 e4 w3
      go_enter Tryz.func80, Tryz.ntmps80
      go_wp2_with fail
      refine H1.out.mono ?_
      rintro e w1 ⟨rfl, hb1⟩
      go_wp2_with fail
      refine (H2.out w1 hb1).mono ?_
      rintro e w2 ⟨rfl, hb2⟩
      have hb3 := below_call hb1 hb2
      go_wp2_with fail
      refine bodyPost_ret (v := .tuple #[i 0, i 0, i 0, i 20]) (by simp [results, Tryz.results80, go_sem]) rfl ⟨by rw [HF.out], hb3⟩
  · rw [e1, e2] at H1
    rw [f1] at ok
    have HF := Lib.hid (HN.out ok)
    clear ok HY HN f1 e1 e2 w2 w3
    go_enter Tryz.func80, Tryz.ntmps80
    go_wp2_with fail
    refine H1.out.mono ?_
    rintro e w1 ⟨rfl, hb1⟩
    go_wp2_with fail
    refine bodyPost_ret (v := .tuple #[i 0, i 0, i 0, i 20]) (by simp [results, Tryz.results80, go_sem]) rfl ⟨by rw [HF.out], hb1⟩
end MonW
end Go.Proofs.YtpmcdjpfolgpiaaGreatDoor

namespace Go.Proofs.YtpmcdjpfolgpiaaGreatDoor
namespace MonW
set_option linter.unusedSimpArgs false
set_option linter.unusedVariables false
open Go.RowKit

def nTo (f : Itm → Int) (cs : List Itm) (k : Nat) : List Int := (cs.take k).map f
theorem nTo_succ {f : Itm → Int} {cs : List Itm} {k : Nat} (hk : k < cs.length) : nTo f cs (k + 1) = nTo f cs k ++ [f cs[k]] := map_take hk
theorem nTo_all (f : Itm → Int) (cs : List Itm) : nTo f cs cs.length = cs.map f := by unfold nTo; rw [List.take_length]
theorem nTo_len {f : Itm → Int} {cs : List Itm} {k : Nat} (h : cs.length ≤ 16777216) : (nTo f cs k).length ≤ 16777216 := by unfold nTo; rw [List.length_map, List.length_take]; omega
theorem intR_lit {n : Int} (h : I64 n) : IntR (#[i n] : Array Value).toList n := ⟨rfl, h⟩

set_option maxHeartbeats 1000000 in
theorem rnets (v : Value) (cs : List Itm) (w : World) (h : ItmsAt w v cs) (hn : cs.length ≤ 16777216) :
    Calls Tryz.prog 55 #[v] w fun e w' => (∃ u, e = .returned u ∧ IntsAt w' u (cs.map (·.net))) ∧ Below w.heap.size w w' := by
  obtain ⟨A, c, rfl, h1, h2⟩ := SliceAt.form h
  obtain ⟨i0, hi0, hz0, hz1, hz2⟩ := info_parts infoInt
  unfold maxLen at h2
  have HC := Lib.hid h
  clear h
  go_enter Tryz.func55, Tryz.ntmps55
  go_wp2
  go_loopg [3, 4] cs.length (fun gg s4 s17 wr => ∃ (kk : Nat) (A1 : Option Addr) (n1 c1 : Nat), kk ≤ cs.length ∧ cs.length - kk ≤ gg ∧ s4 = .slice A1 n1 c1 ∧ s17 = i kk ∧ Hid (OwnN w.heap.size wr (.slice A1 n1 c1) (nTo (·.net) cs kk)) ∧ Hid (Below w.heap.size w wr))
  case atStart => exact ⟨0, _, _, _, Nat.zero_le _, by omega, rfl, rfl, Own.nil, Below.refl _ w⟩
  case round =>
    obtain ⟨kk, A1, n1, c1, hkk, hg, rfl, rfl, HO, BW⟩ := hrel
    by_cases hlt : kk < cs.length
    · have hltz : (kk : Int) < (cs.length : Int) := by omega
      obtain ⟨b, off, rfl, _, hok, hrow⟩ := ItmsAt.at_ HC.out hlt
      obtain ⟨l1, l2, l3, l4, l5, l6, l7⟩ := hrow wr (Kept.of BW.out)
      clear hrow
      have HMT := Lib.hid (nTo_succ (f := (·.net)) hlt)
      have HRR := Lib.hid (intR_lit hok.2.2.2.2.1)
      clear hok
      generalize cs[kk] = y at *
      have HO1 := Lib.hid (Own.call HO.out (below_new wr (.cells #[i y.net] 3)))
      have HB1 := Lib.hid (below_alloc BW.out (.cells #[i y.net] 3))
      have HLEN := Lib.hid (nTo_len (f := (·.net)) (k := kk) hn)
      go_wp2_with (at_builtin; refine wpList_grow rfl (.tmp 11) (.tmp 17) 90 rfl i0 _ 8 Tryz.underlying90 hi0 hz0 hz1 hz2 rfl (by omega) rfl HO1.out wr.heap.size y.net _ 3 rfl (Blk.new wr _ _) rfl HRR.out (one_int _ _ HRR.out) HLEN.out (by omega) HB1.out.size ?_)
      rintro v' w3 hown2 - hbel2 ⟨A2, n2, c2, rfl⟩
      have HO2 : Hid (OwnN w.heap.size w3 (.slice A2 n2 c2) (nTo (·.net) cs (kk + 1))) := by
        show OwnN _ _ _ _
        rw [HMT.out]; exact hown2
      have HB3 : Hid (Below w.heap.size w w3) := HB1.out.trans hbel2
      clear hown2 hbel2 HO1 HB1 l1 l2 l3 l4 l5 l6 l7
      go_wp2_with fail
      go_roundg (cs.length - (kk + 1))
      case measure => omega
      case rel => exact ⟨kk + 1, _, _, _, by omega, by omega, rfl, by go_num, HO2, HB3⟩
    · have hltz : ¬ (kk : Int) < (cs.length : Int) := by omega
      have hke : kk = cs.length := by omega
      subst hke
      rw [nTo_all] at HO
      go_wp2_with fail
      go_ret
      exact ⟨⟨_, rfl, HO.out.at_ (by omega)⟩, BW.out⟩

set_option maxHeartbeats 2000000 in
theorem rtotals (v : Value) (cs : List Itm) (w : World) (h : ItmsAt w v cs) (hn : cs.length ≤ 16777216) :
    Calls Tryz.prog 34 #[v] w fun e w' => e = .returned (totV cs) ∧ Below w.heap.size w w' := by
  obtain ⟨A, c, rfl, h1, h2⟩ := SliceAt.form h
  obtain ⟨i0, hi0, hz0, hz1, hz2⟩ := info_parts infoInt
  unfold maxLen at h2
  have HC := Lib.hid h
  clear h
  go_enter Tryz.func34, Tryz.ntmps34
  go_wp2
  go_loopg [6, 7, 8] cs.length (fun gg s6 s7 s8 wr => ∃ (kk : Nat) (A1 : Option Addr) (n1 c1 : Nat) (A2 : Option Addr) (n2 c2 : Nat), kk ≤ cs.length ∧ cs.length - kk ≤ gg ∧ s6 = .slice A1 n1 c1 ∧ s7 = .slice A2 n2 c2 ∧ s8 = i kk ∧ Hid (OwnN w.heap.size wr (.slice A1 n1 c1) (nTo (·.vat) cs kk)) ∧ Hid (OwnN w.heap.size wr (.slice A2 n2 c2) (nTo (·.gross) cs kk)) ∧ Hid (ApartB (.slice A1 n1 c1) (.slice A2 n2 c2)) ∧ Hid (Below w.heap.size w wr))
  case atStart => exact ⟨0, _, _, _, _, _, _, Nat.zero_le _, by omega, rfl, rfl, rfl, Own.nil, Own.nil, ApartB.nil, Below.refl _ w⟩
  case round =>
    obtain ⟨kk, A1, n1, c1, A2, n2, c2, hkk, hg, rfl, rfl, rfl, HO, HQ, HX, BW⟩ := hrel
    by_cases hlt : kk < cs.length
    · have hltz : (kk : Int) < (cs.length : Int) := by omega
      obtain ⟨b, off, rfl, _, hok, hrow⟩ := ItmsAt.at_ HC.out hlt
      obtain ⟨l1, l2, l3, l4, l5, l6, l7⟩ := hrow wr (Kept.of BW.out)
      have HROW := Lib.hid hrow
      clear hrow
      have HMT := Lib.hid (nTo_succ (f := (·.vat)) hlt)
      have HMU := Lib.hid (nTo_succ (f := (·.gross)) hlt)
      have HRR := Lib.hid (intR_lit hok.2.2.2.2.2.1)
      have HRS := Lib.hid (intR_lit hok.2.2.2.2.2.2)
      clear hok
      generalize cs[kk] = y at *
      have HO1 := Lib.hid (Own.call HO.out (below_new wr (.cells #[i y.vat] 3)))
      have HQ1 := Lib.hid (Own.call HQ.out (below_new wr (.cells #[i y.vat] 3)))
      have HB1 := Lib.hid (below_alloc BW.out (.cells #[i y.vat] 3))
      have HLEN := Lib.hid (nTo_len (f := (·.vat)) (k := kk) hn)
      have HLEM := Lib.hid (nTo_len (f := (·.gross)) (k := kk) hn)
      go_wp2_with (at_builtin; refine wpList_growAt rfl (.tmp 21) (.tmp 27) 90 rfl i0 _ 8 Tryz.underlying90 hi0 hz0 hz1 hz2 rfl (by omega) rfl HO1.out wr.heap.size y.vat _ 3 rfl (Blk.new wr _ _) rfl HRR.out (one_int _ _ HRR.out) HLEN.out (by omega) HB1.out.size ?_)
      intro v' w3 hown2 hgr2 hbel2 hsl hat
      have HQ2 := Lib.hid (HQ1.out.grow hgr2 HX.out.symm)
      have HX2 := Lib.hid (ApartB.next HQ1.out HX.out.symm (by simpa using hat))
      have HO2 : Hid (OwnN w.heap.size w3 v' (nTo (·.vat) cs (kk + 1))) := by
        show OwnN _ _ _ _
        rw [HMT.out]; exact hown2
      have HB3 : Hid (Below w.heap.size w w3) := HB1.out.trans hbel2
      clear hown2 hgr2 hbel2 hat HO1 HQ1 HB1 HO HQ HX l1 l2 l3 l4 l5 l6 l7
      obtain ⟨A3, n3, c3, rfl⟩ := hsl
      obtain ⟨l1, l2, l3, l4, l5, l6, l7⟩ := HROW.out w3 (Kept.of HB3.out)
      have HO3 := Lib.hid (Own.call HO2.out (below_new w3 (.cells #[i y.gross] 3)))
      have HQ3 := Lib.hid (Own.call HQ2.out (below_new w3 (.cells #[i y.gross] 3)))
      have HB4 := Lib.hid (below_alloc HB3.out (.cells #[i y.gross] 3))
      go_wp2_with (at_builtin; refine wpList_growAt rfl (.tmp 29) (.tmp 35) 90 rfl i0 _ 8 Tryz.underlying90 hi0 hz0 hz1 hz2 rfl (by omega) rfl HQ3.out w3.heap.size y.gross _ 3 rfl (Blk.new w3 _ _) rfl HRS.out (one_int _ _ HRS.out) HLEM.out (by omega) HB4.out.size ?_)
      intro v' w4 hown2 hgr2 hbel2 hsl hat
      have HO4 := Lib.hid (HO3.out.grow hgr2 HX2.out.symm)
      have HX4 := Lib.hid (ApartB.next HO3.out HX2.out.symm (by simpa using hat))
      have HQ4 : Hid (OwnN w.heap.size w4 v' (nTo (·.gross) cs (kk + 1))) := by
        show OwnN _ _ _ _
        rw [HMU.out]; exact hown2
      have HB5 : Hid (Below w.heap.size w w4) := HB4.out.trans hbel2
      clear hown2 hgr2 hbel2 hat HO2 HQ2 HB3 HX2 HO3 HQ3 HB4 l1 l2 l3 l4 l5 l6 l7
      obtain ⟨A4, n4, c4, rfl⟩ := hsl
      go_wp2_with fail
      go_roundg (cs.length - (kk + 1))
      case measure => omega
      case rel => exact ⟨kk + 1, _, _, _, _, _, _, by omega, by omega, rfl, rfl, by go_num, HO4, HQ4, HX4, HB5⟩
    · have hltz : ¬ (kk : Int) < (cs.length : Int) := by omega
      have hke : kk = cs.length := by omega
      subst hke
      rw [nTo_all] at HO HQ
      have H1 := Lib.hid (rnets _ cs wr (HC.out.call BW.out) hn)
      have H2 := Lib.hid (fun (u : Value) (W : World) (hu : IntsAt W u (cs.map (·.net))) => rsum u _ W hu)
      have H3 := Lib.hid (fun (W : World) (hb : Below wr.heap.size wr W) => rsum _ _ W (IntsAt.call (HO.out.at_ (by omega)) hb))
      have H4 := Lib.hid (fun (W : World) (hb : Below wr.heap.size wr W) => rsum _ _ W (IntsAt.call (HQ.out.at_ (by omega)) hb))
      have hF : (∃ e1 e2 e3 a b d : Int, sumV (tot (cs.map (·.net))) = a ∧ sumE (tot (cs.map (·.net))) = e1 ∧ sumV (tot (cs.map (·.vat))) = b ∧ sumE (tot (cs.map (·.vat))) = e2 ∧ sumV (tot (cs.map (·.gross))) = d ∧ sumE (tot (cs.map (·.gross))) = e3 ∧
          ((e1 = 0 ∧ e2 = 0 ∧ e3 = 0 ∧ totV cs = .tuple #[i a, i b, i d, i 0]) ∨ ((e1 = 20 ∨ (e1 = 0 ∧ e2 = 20) ∨ (e1 = 0 ∧ e2 = 0 ∧ e3 = 20)) ∧ totV cs = .tuple #[i 0, i 0, i 0, i 20]))) := by
        refine ⟨_, _, _, _, _, _, rfl, rfl, rfl, rfl, rfl, rfl, ?_⟩
        have hok : totOk cs = (fitI (sNet cs) && fitI (sVat cs) && fitI (sGross cs)) := rfl
        rcases sum_ways (sNet cs) with ⟨f1, v1, q1⟩ | ⟨f1, v1, q1⟩
        · rcases sum_ways (sVat cs) with ⟨f2, v2, q2⟩ | ⟨f2, v2, q2⟩
          · rcases sum_ways (sGross cs) with ⟨f3, v3, q3⟩ | ⟨f3, v3, q3⟩
            · left
              rw [f1, f2, f3] at hok
              refine ⟨q1, q2, q3, ?_⟩
              rw [totYes hok]
              show _ = Value.tuple #[i (sumV (sNet cs)), i (sumV (sVat cs)), i (sumV (sGross cs)), i 0]
              rw [v1, v2, v3]
            · right
              rw [f1, f2, f3] at hok
              exact ⟨.inr (.inr ⟨q1, q2, q3⟩), totNo hok⟩
          · right
            rw [f1, f2] at hok
            exact ⟨.inr (.inl ⟨q1, q2⟩), totNo hok⟩
        · right
          rw [f1] at hok
          exact ⟨.inl q1, totNo hok⟩
      obtain ⟨e1, e2, e3, a, b, d, k1, k2, k3, k4, k5, k6, hF⟩ := hF
      rw [k1, k2] at H2
      rw [k3, k4] at H3
      rw [k5, k6] at H4
      clear k1 k2 k3 k4 k5 k6
      rcases hF with ⟨rfl, rfl, rfl, hF⟩ | ⟨rfl | ⟨rfl, rfl⟩ | ⟨rfl, rfl, rfl⟩, hF⟩
      · have HF := Lib.hid hF
        clear hF
        go_wp2_with fail
        refine H1.out.mono ?_
        rintro e w1 ⟨⟨u, rfl, hu⟩, hb1⟩
        go_wp2_with fail
        refine (H2.out _ _ hu).mono ?_
        rintro e w2 ⟨rfl, hb2⟩
        have hb3 := below_call hb1 hb2
        clear hu
        go_wp2_with fail
        refine (H3.out _ hb3).mono ?_
        rintro e w3 ⟨rfl, hb4⟩
        have hb5 := below_call hb3 hb4
        go_wp2_with fail
        refine (H4.out _ hb5).mono ?_
        rintro e w4 ⟨rfl, hb6⟩
        go_wp2_with fail
        refine bodyPost_ret (v := .tuple #[i a, i b, i d, i 0]) (by simp [results, Tryz.results34, go_sem]) rfl ⟨by rw [HF.out], below_call BW.out (below_call hb5 hb6)⟩
      all_goals
        have HF := Lib.hid hF
        clear hF
        go_wp2_with fail
        refine H1.out.mono ?_
        rintro e w1 ⟨⟨u, rfl, hu⟩, hb1⟩
        go_wp2_with fail
        refine (H2.out _ _ hu).mono ?_
        rintro e w2 ⟨rfl, hb2⟩
        have hb3 := below_call hb1 hb2
        clear hu
        go_wp2_with fail
        refine (H3.out _ hb3).mono ?_
        rintro e w3 ⟨rfl, hb4⟩
        have hb5 := below_call hb3 hb4
        go_wp2_with fail
        refine (H4.out _ hb5).mono ?_
        rintro e w4 ⟨rfl, hb6⟩
        go_wp2_with fail
        refine bodyPost_ret (v := .tuple #[i 0, i 0, i 0, i 20]) (by simp [results, Tryz.results34, go_sem]) rfl ⟨by rw [HF.out], below_call BW.out (below_call hb5 hb6)⟩
end MonW
end Go.Proofs.YtpmcdjpfolgpiaaGreatDoor
