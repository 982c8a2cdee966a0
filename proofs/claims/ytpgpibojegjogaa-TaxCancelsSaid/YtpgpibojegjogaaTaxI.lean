/-
  The walks of one charge's item: tax.taxed, tax.item, and the reference's taxed.
-/
import Derived.Test.YtpgpibojegjogaaTaxM
namespace Go.Proofs.Ytpgpibojegjogaa
namespace MonW
set_option linter.unusedSimpArgs false
set_option linter.unusedVariables false
open Go.RowKit

def txVat (x : Itm) : Int := scV x.net x.tax 10000
def txOk (x : Itm) : Bool := scOk x.net x.tax 10000 && fitI (x.net + txVat x)
def noItm : Itm := ⟨0, 0, 0, 0, 0, 0, 0⟩
def txV (x : Itm) : Itm := if txOk x then ⟨x.kind, x.price, x.tax, x.qty, x.net, txVat x, x.net + txVat x⟩ else noItm
def txE (x : Itm) : Int := if txOk x then 0 else 20
theorem sgn_I64 (q : Nat) (b : Bool) : I64 (sgn q b) := by unfold sgn wrap64 I64; omega
theorem scV_I64 (a b : Int) (d : Nat) : I64 (scV a b d) := by
  unfold scV
  split
  · exact sgn_I64 _ _
  · unfold I64; omega
theorem txV_ok {x : Itm} (h : x.ok) : (txV x).ok := by
  unfold txV
  split
  · rename_i hk
    unfold txOk at hk
    simp at hk
    have := of_decide_eq_true hk.2
    obtain ⟨h1, h2, h3, h4, h5, h6, h7⟩ := h
    exact ⟨h1, h2, h3, h4, h5, scV_I64 _ _ _, this⟩
  · unfold noItm Itm.ok I64; decide

/-- The three ways: the tax does not fit; the sum does not fit; all fits. -/
theorem tx_ways (x : Itm) : (scE x.net x.tax 10000 = 20 ∧ scV x.net x.tax 10000 = 0 ∧ txV x = noItm ∧ txE x = 20 ∧ txOk x = false) ∨
    (scE x.net x.tax 10000 = 0 ∧ fitI (x.net + scV x.net x.tax 10000) = false ∧ sumV (x.net + scV x.net x.tax 10000) = 0 ∧ txV x = noItm ∧ txE x = 20 ∧ txOk x = false) ∨
    (scE x.net x.tax 10000 = 0 ∧ fitI (x.net + scV x.net x.tax 10000) = true ∧ sumV (x.net + scV x.net x.tax 10000) = x.net + scV x.net x.tax 10000 ∧ txV x = ⟨x.kind, x.price, x.tax, x.qty, x.net, scV x.net x.tax 10000, x.net + scV x.net x.tax 10000⟩ ∧ txE x = 0 ∧ txOk x = true) := by
  have e : txVat x = scV x.net x.tax 10000 := rfl
  cases h : scOk x.net x.tax 10000
  · left
    have h1 : txOk x = false := by unfold txOk; rw [h]; rfl
    refine ⟨?_, ?_, ?_, ?_, h1⟩
    · unfold scE; rw [h]; rfl
    · unfold scV; rw [h]; rfl
    · unfold txV; rw [h1]; rfl
    · unfold txE; rw [h1]; rfl
  · right
    have h0 : scE x.net x.tax 10000 = 0 := by unfold scE; rw [h]; rfl
    cases hf : fitI (x.net + scV x.net x.tax 10000)
    · left
      have h1 : txOk x = false := by unfold txOk; rw [h, e, hf]; rfl
      refine ⟨h0, rfl, ?_, ?_, ?_, h1⟩
      · unfold sumV; rw [hf]; rfl
      · unfold txV; rw [h1]; rfl
      · unfold txE; rw [h1]; rfl
    · right
      have h1 : txOk x = true := by unfold txOk; rw [h, e, hf]; rfl
      refine ⟨h0, rfl, ?_, ?_, ?_, h1⟩
      · unfold sumV; rw [hf]; rfl
      · unfold txV; rw [h1, e]; rfl
      · unfold txE; rw [h1]; rfl

theorem retTx {a b : Itm} {c d : Int} (h1 : a = b) (h2 : c = d) : Ending.returned (.tuple #[itmV a, i c]) = .returned (.tuple #[itmV b, i d]) := by rw [h1, h2]
theorem retTxB {a b : Itm} {c d : Bool} (h1 : a = b) (h2 : c = d) : Ending.returned (.tuple #[itmV a, .bool c]) = .returned (.tuple #[itmV b, .bool d]) := by rw [h1, h2]

set_option maxHeartbeats 1000000 in
theorem taxed (x : Itm) (w : World) (hx : x.ok) : Calls Try.prog 28 #[itmV x] w fun e w' => e = .returned (.tuple #[itmV (txV x), i (txE x)]) ∧ Below w.heap.size w w' := by
  have hw := tx_ways x
  have hvi := scV_I64 x.net x.tax 10000
  obtain ⟨o1, o2, o3, o4, o5, o6, o7⟩ := hx
  have HS := Lib.hid (fun W => scale x.net x.tax 10000 (by unfold Dn; omega) W o5.1 o5.2 o3.1 o3.2)
  have HP := Lib.hid (fun W => plus x.net (scV x.net x.tax 10000) W o5 hvi)
  clear o1 o2 o3 o4 o5 o6 o7 hvi
  generalize scV x.net x.tax 10000 = vat at *
  generalize scE x.net x.tax 10000 = ve at *
  rcases hw with ⟨rfl, rfl, h3, h4, h5⟩ | ⟨rfl, h2, h3, h4, h5, h6⟩ | ⟨rfl, h2, h3, h4, h5, h6⟩
  · have HF := Lib.hid (And.intro h3 h4)
    clear h3 h4 h5
    go_enter Try.func28, Try.ntmps28
    go_wp2_with fail
    refine (HS.out _).mono ?_
    rintro e w1 ⟨rfl, n1, rfl⟩
    go_wp2_with fail
    refine bodyPost_ret (v := .tuple #[itmV noItm, i 20]) (by simp [results, Try.results28, go_sem, noItm]) rfl ⟨retTx HF.out.1.symm HF.out.2.symm, ?_⟩
    repeat (first | (with_reducible exact Below.refl _ _) | (with_reducible refine below_drewN' ?_ _) | (with_reducible refine Below.drew ?_) | (with_reducible refine Below.setCell ?_ (by first | (simp; done) | (simp; omega) | omega) _) | (with_reducible refine Below.alloc ?_ (by first | (simp; done) | (simp; omega) | omega) _))
  · rw [h2, h3] at HP
    have HF := Lib.hid (And.intro h4 h5)
    clear h2 h3 h4 h5 h6
    go_enter Try.func28, Try.ntmps28
    go_wp2_with fail
    refine (HS.out _).mono ?_
    rintro e w1 ⟨rfl, n1, rfl⟩
    go_wp2_with fail
    refine (HP.out _).mono ?_
    rintro e w1 ⟨rfl, n2, rfl⟩
    go_wp2_with fail
    refine bodyPost_ret (v := .tuple #[itmV noItm, i 20]) (by simp [results, Try.results28, go_sem, noItm]) rfl ⟨retTx HF.out.1.symm HF.out.2.symm, ?_⟩
    repeat (first | (with_reducible exact Below.refl _ _) | (with_reducible refine below_drewN' ?_ _) | (with_reducible refine Below.drew ?_) | (with_reducible refine Below.setCell ?_ (by first | (simp; done) | (simp; omega) | omega) _) | (with_reducible refine Below.alloc ?_ (by first | (simp; done) | (simp; omega) | omega) _))
  · rw [h2, h3] at HP
    have HF := Lib.hid (And.intro h4 h5)
    clear h2 h3 h4 h5 h6
    obtain ⟨kk, p, t, q, n, v0, g0⟩ := x
    simp only at *
    go_enter Try.func28, Try.ntmps28
    go_wp2_with fail
    refine (HS.out _).mono ?_
    rintro e w1 ⟨rfl, n1, rfl⟩
    go_wp2_with fail
    refine (HP.out _).mono ?_
    rintro e w1 ⟨rfl, n2, rfl⟩
    go_wp2_with fail
    refine bodyPost_ret (v := .tuple #[itmV ⟨kk, p, t, q, n, vat, n + vat⟩, i 0]) (by simp [results, Try.results28, go_sem]) rfl ⟨retTx HF.out.1.symm HF.out.2.symm, ?_⟩
    repeat (first | (with_reducible exact Below.refl _ _) | (with_reducible refine below_drewN' ?_ _) | (with_reducible refine Below.drew ?_) | (with_reducible refine Below.setCell ?_ (by first | (simp; done) | (simp; omega) | omega) _) | (with_reducible refine Below.alloc ?_ (by first | (simp; done) | (simp; omega) | omega) _))

theorem bcell {W w1 : World} (hb : Below W.heap.size W w1) : (∀ b o, b < W.heap.size → w1.cell? ⟨b, o, none⟩ = W.cell? ⟨b, o, none⟩) ∧ (∀ b o, b < W.heap.size → w1.frozen? ⟨b, o, none⟩ = W.frozen? ⟨b, o, none⟩) :=
  ⟨fun b o h => hb.cell (p := ⟨b, o, none⟩) h, fun b o h => hb.frozen (p := ⟨b, o, none⟩) h⟩

/-- The slice of two numbers. -/
theorem two_ints (w : World) (t : TypeId) (a b : Int) (ha : I64 a) (hb : I64 b) : IntsAt (w.alloc (.cells #[i a, i b] t)) (.slice (some ⟨w.heap.size, 0, none⟩) 2 2) [a, b] := by
  have hk := Blk.new w t #[i a, i b]
  refine ⟨some ⟨w.heap.size, 0, none⟩, 2, rfl, Nat.le_refl _, by unfold maxLen; omega, (fun h => by cases h), fun j x hx => ?_⟩
  match j, hx with
  | 0, hx =>
    have e : a = x := by simpa using hx
    subst e
    refine ⟨w.heap.size, 0, [i a], rfl, rfl, ⟨rfl, ha⟩, fun o u hu => ?_⟩
    match o, hu with
    | 0, hu => rw [hk.cell]; simpa using hu
  | 1, hx =>
    have e : b = x := by simpa using hx
    subst e
    refine ⟨w.heap.size, 0, [i b], rfl, rfl, ⟨rfl, hb⟩, fun o u hu => ?_⟩
    match o, hu with
    | 0, hu => rw [hk.cell]; simpa using hu

theorem sumE_eq (S : Int) : (sumE S == 0) = fitI S := by
  unfold sumE
  cases fitI S <;> rfl

set_option maxHeartbeats 400000 in
theorem rsum2 (a b : Int) (w : World) (ha : I64 a) (hb : I64 b) : Calls Try.prog 35 #[i a, i b] w fun e w' => e = .returned (.tuple #[i (sumV (a + b)), .bool (fitI (a + b))]) ∧ Below w.heap.size w w' := by
  have hE := sumE_eq (a + b)
  have HS := Lib.hid (fun t : TypeId => rsum (.slice (some ⟨w.heap.size, 0, none⟩) 2 2) [a, b] (w.alloc (.cells #[i a, i b] t)) (two_ints w _ a b ha hb))
  rw [show tot [a, b] = a + b by simp [tot]] at HS
  generalize sumV (a + b) = sv at *
  generalize sumE (a + b) = se at *
  have HE := Lib.hid hE
  clear hE ha hb
  go_enter Try.func35, Try.ntmps35
  go_wp2_with fail
  refine (HS.out _).mono ?_
  rintro e w1 ⟨rfl, hb1⟩
  go_wp2_with fail
  go_ret2
  exact ⟨retIB rfl HE.out, below_call (below_new _ _) hb1⟩

set_option maxHeartbeats 1000000 in
theorem rtaxed (x : Itm) (w : World) (hx : x.ok) : Calls Try.prog 20 #[itmV x] w fun e w' => e = .returned (.tuple #[itmV (txV x), .bool (txOk x)]) ∧ Below w.heap.size w w' := by
  have hw := tx_ways x
  have hvi := scV_I64 x.net x.tax 10000
  obtain ⟨o1, o2, o3, o4, o5, o6, o7⟩ := hx
  have HS := Lib.hid (fun W => rscale x.net x.tax 10000 (by unfold Dn; omega) W o5.1 o5.2 o3.1 o3.2)
  have HP := Lib.hid (fun W => rsum2 x.net (scV x.net x.tax 10000) W o5 hvi)
  clear o1 o2 o3 o4 o5 o6 o7 hvi
  generalize scV x.net x.tax 10000 = vat at *
  generalize scE x.net x.tax 10000 = ve at *
  rcases hw with ⟨rfl, rfl, h3, h4, h5⟩ | ⟨rfl, h2, h3, h4, h5, h6⟩ | ⟨rfl, h2, h3, h4, h5, h6⟩
  · have HF := Lib.hid (And.intro h3 h5)
    clear h3 h4 h5
    go_enter Try.func20, Try.ntmps20
    go_wp2_with fail
    refine (HS.out _).mono ?_
    rintro e w1 ⟨rfl, n1, rfl⟩
    go_wp2_with fail
    refine (HP.out _).mono ?_
    rintro e w1 ⟨rfl, hb1⟩
    obtain ⟨hc, hf⟩ := bcell hb1
    have hz := hb1.size
    simp at hz
    go_wp2_with fail
    refine bodyPost_ret (v := .tuple #[itmV noItm, .bool false]) (by simp [results, Try.results20, go_sem, noItm, hc, hf]) rfl ⟨retTxB HF.out.1.symm HF.out.2.symm, ?_⟩
    repeat (first | (with_reducible exact Below.refl _ _) | (with_reducible refine below_drewN' ?_ _) | (with_reducible refine Below.drew ?_) | (with_reducible refine Below.setCell ?_ (by first | (simp; done) | (simp; omega) | omega) _) | (with_reducible refine Below.alloc ?_ (by first | (simp; done) | (simp; omega) | omega) _) | (with_reducible exact hb1) | (with_reducible refine below_call ?_ hb1))
  · rw [h2, h3] at HP
    have HF := Lib.hid (And.intro h4 h6)
    clear h2 h3 h4 h5 h6
    go_enter Try.func20, Try.ntmps20
    go_wp2_with fail
    refine (HS.out _).mono ?_
    rintro e w1 ⟨rfl, n1, rfl⟩
    go_wp2_with fail
    refine (HP.out _).mono ?_
    rintro e w1 ⟨rfl, hb1⟩
    obtain ⟨hc, hf⟩ := bcell hb1
    have hz := hb1.size
    simp at hz
    go_wp2_with fail
    refine bodyPost_ret (v := .tuple #[itmV noItm, .bool false]) (by simp [results, Try.results20, go_sem, noItm, hc, hf]) rfl ⟨retTxB HF.out.1.symm HF.out.2.symm, ?_⟩
    repeat (first | (with_reducible exact Below.refl _ _) | (with_reducible refine below_drewN' ?_ _) | (with_reducible refine Below.drew ?_) | (with_reducible refine Below.setCell ?_ (by first | (simp; done) | (simp; omega) | omega) _) | (with_reducible refine Below.alloc ?_ (by first | (simp; done) | (simp; omega) | omega) _) | (with_reducible exact hb1) | (with_reducible refine below_call ?_ hb1))
  · rw [h2, h3] at HP
    have HF := Lib.hid (And.intro h4 h6)
    clear h2 h3 h4 h5 h6
    obtain ⟨kk, p, t, q, n, v0, g0⟩ := x
    simp only at *
    go_enter Try.func20, Try.ntmps20
    go_wp2_with fail
    refine (HS.out _).mono ?_
    rintro e w1 ⟨rfl, n1, rfl⟩
    go_wp2_with fail
    refine (HP.out _).mono ?_
    rintro e w1 ⟨rfl, hb1⟩
    obtain ⟨hc, hf⟩ := bcell hb1
    have hz := hb1.size
    simp at hz
    have hk1 : Blk w1 w.heap.size 30 #[i kk, i p, i t, i q, i n, i v0, i g0] := (((Blk.new w _ _).alloc _).drewN n1).call hb1
    have hk2 : Blk ((w1.setCell ⟨w.heap.size, 5, none⟩ (i vat)).setCell ⟨w.heap.size, 6, none⟩ (i (n + vat))) w.heap.size 30 #[i kk, i p, i t, i q, i n, i vat, i (n + vat)] := by
      simpa using (hk1.set_ 5 (i vat)).set_ 6 (i (n + vat))
    have hk5 := hk2.cell 5
    have hk6 := hk2.cell 6
    simp at hk5 hk6
    clear hk1 hk2
    go_wp2_with fail
    refine bodyPost_ret (v := .tuple #[itmV ⟨kk, p, t, q, n, vat, n + vat⟩, .bool true]) (by simp [results, Try.results20, go_sem, hc, hf]) rfl ⟨retTxB HF.out.1.symm HF.out.2.symm, ?_⟩
    repeat (first | (with_reducible exact Below.refl _ _) | (with_reducible refine below_drewN' ?_ _) | (with_reducible refine Below.drew ?_) | (with_reducible refine Below.setCell ?_ (by first | (simp; done) | (simp; omega) | omega) _) | (with_reducible refine Below.alloc ?_ (by first | (simp; done) | (simp; omega) | omega) _) | (with_reducible exact hb1) | (with_reducible refine below_call ?_ hb1))
end MonW
end Go.Proofs.Ytpgpibojegjogaa
