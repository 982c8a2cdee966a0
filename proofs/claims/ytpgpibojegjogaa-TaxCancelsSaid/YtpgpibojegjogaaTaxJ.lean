/-
  The walks of tax.item and tax.Items.
-/
import Derived.Test.YtpgpibojegjogaaTaxI
import Derived.Test.YtpgpibojegjogaaGrow
namespace Go.Proofs.Ytpgpibojegjogaa
namespace MonW
set_option linter.unusedSimpArgs false
set_option linter.unusedVariables false
open Go.RowKit

def itm0 (c : Chg) : Itm := ⟨c.kind, c.price, c.tax, c.qty, netV c, 0, 0⟩
def itV (c : Chg) : Itm := if netE c = 0 then txV (itm0 c) else noItm
def itE (c : Chg) : Int := if netE c = 0 then txE (itm0 c) else netE c
theorem netV_I64 (c : Chg) : I64 (netV c) := by
  unfold netV
  split
  · exact scV_I64 _ _ _
  · unfold I64; omega
theorem itm0_ok {c : Chg} (h : c.ok) : (itm0 c).ok := by
  obtain ⟨h1, h2, h3, h4⟩ := h
  exact ⟨h1, h2, h3, h4, netV_I64 c, by unfold I64 itm0; simp, by unfold I64 itm0; simp⟩
theorem noItm_ok : noItm.ok := by unfold noItm Itm.ok I64; decide
theorem itV_ok {c : Chg} (h : c.ok) : (itV c).ok := by
  unfold itV
  split
  · exact txV_ok (itm0_ok h)
  · exact noItm_ok
theorem netE_cases (c : Chg) : netE c = 0 ∨ netE c = 1 ∨ netE c = 20 := by
  unfold netE
  split
  · rcases scE_cases c.qty c.price (unitOf c.kind) with h | h <;> omega
  · omega
theorem txE_cases (x : Itm) : txE x = 0 ∨ txE x = 20 := by unfold txE; split <;> omega

/-- The three ways of item. -/
theorem it_ways (c : Chg) : (isKind c.kind = false ∧ itV c = noItm ∧ itE c = 1 ∧ netE c = 1) ∨ (isKind c.kind = true ∧ (netE c != 0) = true ∧ itV c = noItm ∧ itE c = netE c) ∨ (isKind c.kind = true ∧ netE c = 0 ∧ itV c = txV (itm0 c) ∧ itE c = txE (itm0 c)) := by
  cases hk : isKind c.kind
  · left
    have hv : validC c = false := by
      cases hv : validC c
      · rfl
      · rw [valid_kind hv] at hk; cases hk
    have := (netNo hv).2
    refine ⟨rfl, ?_, ?_, this⟩
    · unfold itV; rw [this]; rfl
    · unfold itE; rw [this]; rfl
  · right
    by_cases h : netE c = 0
    · right
      refine ⟨rfl, h, ?_, ?_⟩
      · unfold itV; rw [if_pos h]
      · unfold itE; rw [if_pos h]
    · left
      refine ⟨rfl, bne_iff_ne.2 h, ?_, ?_⟩
      · unfold itV; rw [if_neg h]
      · unfold itE; rw [if_neg h]

set_option maxHeartbeats 1000000 in
theorem item (c : Chg) (w : World) (hc : c.ok) : Calls Try.prog 18 #[chgV c] w fun e w' => e = .returned (.tuple #[itmV (itV c), i (itE c)]) ∧ Below w.heap.size w w' := by
  have hw := it_ways c
  have HK := Lib.hid (fun W => known c.kind W)
  have HN := Lib.hid (fun W => net c W hc)
  have HT := Lib.hid (fun W => taxed (itm0 c) W (itm0_ok hc))
  clear hc
  rcases hw with ⟨h1, h2, h3, h4⟩ | ⟨h1, h2, h3, h4⟩ | ⟨h1, h2, h3, h4⟩
  · rw [h1] at HK
    have HF := Lib.hid (And.intro h2 h3)
    clear h1 h2 h3 h4
    go_enter Try.func18, Try.ntmps18
    go_wp2_with fail
    refine (HK.out _).mono ?_
    rintro e w1 ⟨rfl, n1, rfl⟩
    go_wp2_with fail
    refine bodyPost_ret (v := .tuple #[itmV noItm, i 1]) (by simp [results, Try.results18, go_sem, noItm]) rfl ⟨retTx HF.out.1.symm HF.out.2.symm, ?_⟩
    repeat (first | (with_reducible exact Below.refl _ _) | (with_reducible refine below_drewN' ?_ _) | (with_reducible refine Below.drew ?_) | (with_reducible refine Below.setCell ?_ (by first | (simp; done) | (simp; omega) | omega) _) | (with_reducible refine below_alloc ?_ _) | (with_reducible refine Below.alloc ?_ (by first | (simp; done) | (simp; omega) | omega) _))
  · rw [h1] at HK
    generalize netV c = nv at *
    generalize netE c = ne at *
    have HF := Lib.hid (And.intro h3 h4)
    clear h1 h3 h4
    go_enter Try.func18, Try.ntmps18
    go_wp2_with fail
    refine (HK.out _).mono ?_
    rintro e w1 ⟨rfl, n1, rfl⟩
    go_wp2_with fail
    refine (HN.out _).mono ?_
    rintro e w1 ⟨rfl, hb1⟩
    obtain ⟨hcc, hff⟩ := bcell hb1
    have hz := hb1.size
    simp at hz
    go_wp2_with fail
    refine bodyPost_ret (v := .tuple #[itmV noItm, i ne]) (by simp [results, Try.results18, go_sem, noItm, hcc, hff]) rfl ⟨retTx HF.out.1.symm HF.out.2.symm, ?_⟩
    repeat (first | (with_reducible exact Below.refl _ _) | (with_reducible refine below_drewN' ?_ _) | (with_reducible refine Below.drew ?_) | (with_reducible refine Below.setCell ?_ (by first | (simp; done) | (simp; omega) | omega) _) | (with_reducible refine below_alloc ?_ _) | (with_reducible refine Below.alloc ?_ (by first | (simp; done) | (simp; omega) | omega) _) | (with_reducible exact hb1) | (with_reducible refine below_call ?_ hb1))
  · rw [h1] at HK
    rw [h2] at HN
    have HF := Lib.hid (And.intro h3 h4)
    clear h1 h2 h3 h4
    generalize txV (itm0 c) = tv at *
    generalize txE (itm0 c) = te at *
    unfold itm0 at HT
    generalize netV c = nv at *
    go_enter Try.func18, Try.ntmps18
    go_wp2_with fail
    refine (HK.out _).mono ?_
    rintro e w1 ⟨rfl, n1, rfl⟩
    go_wp2_with fail
    refine (HN.out _).mono ?_
    rintro e w1 ⟨rfl, hb1⟩
    obtain ⟨hcc, hff⟩ := bcell hb1
    have hz := hb1.size
    simp at hz
    go_wp2_with fail
    refine (HT.out _).mono ?_
    rintro e w2 ⟨rfl, hb2⟩
    have hk : Blk w2 (w.heap.size + 1) 30 #[i 0, i 0, i 0, i 0, i 0, i 0, i 0] := ((by simpa using ((Blk.new (w.alloc _) _ _).drewN n1) : Blk _ (w.heap.size + 1) 30 #[i 0, i 0, i 0, i 0, i 0, i 0, i 0]).call hb1).call hb2
    have hc2 := hk.cell
    have hf2 := hk.frozen
    have hl2 := hk.lt
    clear hcc hff hk
    go_wp2_with fail
    refine bodyPost_ret (v := .tuple #[itmV tv, i te]) (by simp [results, Try.results18, go_sem, hc2, hf2]) rfl ⟨retTx HF.out.1.symm HF.out.2.symm, ?_⟩
    repeat (first | (with_reducible exact Below.refl _ _) | (with_reducible refine below_drewN' ?_ _) | (with_reducible refine Below.drew ?_) | (with_reducible refine Below.setCell ?_ (by first | (simp; done) | (simp; omega) | omega) _) | (with_reducible refine below_alloc ?_ _) | (with_reducible refine Below.alloc ?_ (by first | (simp; done) | (simp; omega) | omega) _) | (with_reducible exact hb2) | (with_reducible refine below_call ?_ hb2) | (with_reducible exact hb1) | (with_reducible refine below_call ?_ hb1))
end MonW
end Go.Proofs.Ytpgpibojegjogaa
