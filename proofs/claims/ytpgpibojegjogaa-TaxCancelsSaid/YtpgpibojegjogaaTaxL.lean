/-
  The walk of the reference's Items.
-/
import Derived.Test.YtpgpibojegjogaaTaxK
import Derived.Deep.DeepCutAuto
namespace Go.Proofs.Ytpgpibojegjogaa
namespace MonW
set_option linter.unusedSimpArgs false
set_option linter.unusedVariables false
open Go.RowKit

theorem itE_ways (c : Chg) : ((netE c != 0) = true ∧ itE c = netE c ∧ itE c ≠ 0) ∨ (netE c = 0 ∧ txOk (itm0 c) = false ∧ itE c = 20 ∧ itE c ≠ 0) ∨ (netE c = 0 ∧ txOk (itm0 c) = true ∧ itE c = 0 ∧ itV c = txV (itm0 c)) := by
  by_cases h : netE c = 0
  · right
    have e : itE c = txE (itm0 c) := by unfold itE; rw [if_pos h]
    cases ht : txOk (itm0 c)
    · left
      have : itE c = 20 := by rw [e]; unfold txE; rw [ht]; rfl
      exact ⟨h, rfl, this, by omega⟩
    · right
      have : itE c = 0 := by rw [e]; unfold txE; rw [ht]; rfl
      exact ⟨h, rfl, this, by unfold itV; rw [if_pos h]⟩
  · left
    have e : itE c = netE c := by unfold itE; rw [if_neg h]
    exact ⟨bne_iff_ne.2 h, e, by rw [e]; exact h⟩

theorem itE_ways2 (c : Chg) : ((netE c != 0) = true ∧ itE c = netE c ∧ itE c ≠ 0) ∨ (netE c = 0 ∧ ((txOk (itm0 c) = false ∧ itE c = 20 ∧ itE c ≠ 0) ∨ (txOk (itm0 c) = true ∧ itE c = 0 ∧ itV c = txV (itm0 c)))) := by
  rcases itE_ways c with h | ⟨h1, h⟩ | ⟨h1, h⟩
  · exact .inl h
  · exact .inr ⟨h1, .inl h⟩
  · exact .inr ⟨h1, .inr h⟩
theorem newCall {W wx : World} {cs : Array Value} {t : TypeId} (h : Below (W.alloc (.cells cs t)).drew.heap.size (W.alloc (.cells cs t)).drew wx) : (∀ o, wx.cell? ⟨W.heap.size, o, none⟩ = cs[o]?) ∧ (∀ o, wx.frozen? ⟨W.heap.size, o, none⟩ = false) ∧ W.heap.size < wx.heap.size ∧ Blk wx W.heap.size t cs :=
  have hk : Blk wx W.heap.size t cs := (Blk.new W t cs).drew.call h
  ⟨hk.cell, hk.frozen, hk.lt, hk⟩
/-- Behind 'x, ok := taxed(..)'. -/
def TxR (W : World) (z : Itm) (ok : Bool) (s8 s9 : Value) (wc : World) : Prop := ∃ g, s8 = .pointer (some ⟨g, 0, none⟩) ∧ s9 = .bool ok ∧ W.heap.size ≤ g ∧ Blk wc g 30 #[i z.kind, i z.price, i z.tax, i z.qty, i z.net, i z.vat, i z.gross] ∧ Below W.heap.size W wc

set_option maxHeartbeats 2000000 in
theorem ritems (v : Value) (cs : List Chg) (w : World) (h : ChgsAt w v cs) : Calls Try.prog 9 #[v] w (ItsPost cs w) := by
  obtain ⟨A, c, rfl, h1, h2⟩ := SliceAt.form h
  obtain ⟨i0, hi0, hz0, hz1, hz2⟩ := info_parts infoItm
  unfold maxLen at h2
  have HC := Lib.hid h
  clear h
  by_cases hbig : 64 < cs.length
  · have HF := Lib.hid (all_big hbig)
    go_enter Try.func9, Try.ntmps9
    go_wp2_with fail
    go_ret2
    exact ItsPost.no HF.out (Below.refl _ _)
  · have HG := Lib.hid hbig
    go_enter Try.func9, Try.ntmps9
    go_wp2
    go_loopg [4, 5] cs.length (fun gg s4 s17 wr => ∃ (kk : Nat) (A1 : Option Addr) (n1 c1 : Nat), kk ≤ cs.length ∧ cs.length - kk ≤ gg ∧ s4 = .slice A1 n1 c1 ∧ s17 = i kk ∧ Hid (OwnI w.heap.size wr (.slice A1 n1 c1) (itsTo cs kk)) ∧ Hid (Below w.heap.size w wr) ∧ Hid (∀ c ∈ cs.take kk, itE c = 0))
    case atStart => exact ⟨0, _, _, _, Nat.zero_le _, by omega, rfl, rfl, Own.nil, Below.refl _ w, fun c hc => by simp at hc⟩
    case round =>
      obtain ⟨kk, A1, n1, c1, hkk, hg, rfl, rfl, HO, BW, HA⟩ := hrel
      by_cases hlt : kk < cs.length
      · have hltz : (kk : Int) < (cs.length : Int) := by omega
        have h0z : (0 : Int) ≤ (kk : Int) := by omega
        obtain ⟨b, off, rfl, _, hok, hrow⟩ := ChgsAt.at_ HC.out hlt
        obtain ⟨l1, l2, l3, l4⟩ := hrow wr (Kept.of BW.out)
        have HROW := Lib.hid (fun (W : World) (hb : Below wr.heap.size wr W) => hrow W (Kept.of (below_call BW.out hb)))
        clear hrow
        have HNT := Lib.hid (fun W => rnet cs[kk] W hok)
        have HTX := Lib.hid (fun W => rtaxed (itm0 cs[kk]) W (itm0_ok hok))
        have HOK := Lib.hid (itV_ok hok)
        have HMT := Lib.hid (itsTo_succ hlt)
        have HTA := Lib.hid (take_all hlt HA.out)
        have HBAD := Lib.hid (all_bad HG.out hlt HA.out)
        clear hok
        generalize cs[kk] = y at *
        rcases itE_ways2 y with ⟨e1, e2, e3⟩ | ⟨e1, e2⟩
        · have HF := Lib.hid (HBAD.out e3)
          rw [e2] at HF
          generalize netE y = ne at *
          clear e2 e3 HBAD HTA
          go_wp2_with fail
          refine (HNT.out _).mono ?_
          rintro e w1 ⟨rfl, hb1⟩
          go_wp2_with fail
          go_ret2
          refine ItsPost.no HF.out ?_
          have hB := BW.out
          repeat (first | (with_reducible exact Below.refl _ _) | (with_reducible refine below_drewN' ?_ _) | (with_reducible refine Below.drew ?_) | (with_reducible refine Below.setCell ?_ (by first | (simp; done) | (simp; omega) | omega) _) | (with_reducible refine below_alloc ?_ _) | (with_reducible refine Below.alloc ?_ (by first | (simp; done) | (simp; omega) | omega) _) | (with_reducible exact hb1) | (with_reducible refine below_call ?_ hb1) | (with_reducible exact hB) | (with_reducible refine below_call ?_ hB))
        · rw [e1] at HNT
          have HW := Lib.hid e2
          generalize hz : txV (itm0 y) = z at *
          generalize hok : txOk (itm0 y) = ok at *
          clear hz hok
          unfold itm0 at HTX
          generalize netV y = nv at *
          clear e1 e2
          go_wp2_with fail
          refine (HNT.out _).mono ?_
          rintro e w1 ⟨rfl, hb1⟩
          have hS : ∀ w', Below w1.heap.size w1 w' → (w'.cell? ⟨b, off + kk * 4, none⟩ = some (i y.kind) ∧ w'.cell? ⟨b, off + kk * 4 + 1, none⟩ = some (i y.price) ∧ w'.cell? ⟨b, off + kk * 4 + 2, none⟩ = some (i y.tax) ∧ w'.cell? ⟨b, off + kk * 4 + 3, none⟩ = some (i y.qty)) ∧ FinB w1 w' :=
            fun w' hb => ⟨HROW.out w' (below_call hb1 hb), hb⟩
          have HSS := Lib.hid hS
          clear hS l1 l2 l3 l4
          go_upto_region 10 with (fail)
          go_cut [8, 9] (fun s8 s9 wc => TxR w1 z ok s8 s9 wc)
          case first =>
            go_region_held3 (fun w' => (w'.cell? ⟨b, off + kk * 4, none⟩ = some (i y.kind) ∧ w'.cell? ⟨b, off + kk * 4 + 1, none⟩ = some (i y.price) ∧ w'.cell? ⟨b, off + kk * 4 + 2, none⟩ = some (i y.tax) ∧ w'.cell? ⟨b, off + kk * 4 + 3, none⟩ = some (i y.qty)) ∧ FinB w1 w')
              (((with_reducible refine HSS.out _ ?_); (repeat (first | (with_reducible exact Below.refl _ _) | (with_reducible refine below_drewN' ?_ _) | (with_reducible refine Below.drew ?_) | (with_reducible refine Below.setCell ?_ (by first | (simp; done) | (simp; omega) | omega) _) | (with_reducible refine below_alloc ?_ _) | (with_reducible refine Below.alloc ?_ (by first | (simp; done) | (simp; omega) | omega) _) | (with_reducible exact hwx) | (with_reducible refine below_call ?_ hwx))); done))
              ((go_at_call 20; refine (HTX.out _).mono ?_; rintro e wx ⟨rfl, hwx⟩; (try (with_reducible have hk := newCall hwx; obtain ⟨hkc, hkf, hkl, hkk⟩ := hk))))
            · go_wp2_with fail
              go_meet
              refine ⟨_, rfl, rfl, ?_, Blk.new _ _ _, ?_⟩
              · have := hwx.size
                simpa using this
              · repeat (first | (with_reducible exact Below.refl _ _) | (with_reducible refine below_drewN' ?_ _) | (with_reducible refine Below.drew ?_) | (with_reducible refine Below.setCell ?_ (by first | (simp; done) | (simp; omega) | omega) _) | (with_reducible refine below_alloc ?_ _) | (with_reducible refine Below.alloc ?_ (by first | (simp; done) | (simp; omega) | omega) _) | (with_reducible exact hwx) | (with_reducible refine below_call ?_ hwx))
            · go_wp2_with fail
              go_meet
              refine ⟨_, rfl, rfl, Nat.le_refl _, ?_, ?_⟩
              · simpa using ((((((hkk.set_ 0 (i z.kind)).set_ 1 (i z.price)).set_ 2 (i z.tax)).set_ 3 (i z.qty)).set_ 4 (i z.net)).set_ 5 (i z.vat)).set_ 6 (i z.gross)
              · repeat (first | (with_reducible exact Below.refl _ _) | (with_reducible refine below_drewN' ?_ _) | (with_reducible refine Below.drew ?_) | (with_reducible refine Below.setCell ?_ (by first | (simp; done) | (simp; omega) | omega) _) | (with_reducible refine below_alloc ?_ _) | (with_reducible refine Below.alloc ?_ (by first | (simp; done) | (simp; omega) | omega) _) | (with_reducible exact hwx) | (with_reducible refine below_call ?_ hwx))
          case rest =>
            obtain ⟨g, rfl, rfl, hgl, hblk, hbc⟩ := hcut
            obtain ⟨w2, rfl⟩ : ∃ w2 : World, w2 = wc := ⟨_, rfl⟩
            have hgc := hblk.cell
            have hbl := hblk.lt
            have hB2 := below_call (below_call BW.out hb1) hbc
            have HB2 := Lib.hid hB2
            clear hB2
            rcases HW.out with ⟨rfl, e1, e2⟩ | ⟨rfl, e1, e2⟩
            · have HF := Lib.hid (HBAD.out e2)
              rw [e1] at HF
              clear e1 e2 HBAD HTA HW HSS hblk
              go_wp2_with fail
              go_ret2
              exact ItsPost.no HF.out HB2.out
            · have HA2 := Lib.hid (HTA.out e1)
              rw [e2] at HMT HOK
              clear HBAD HTA HW HSS e1 e2
              have HO1 : Hid (OwnI w.heap.size (w2.alloc (.cells #[i z.kind, i z.price, i z.tax, i z.qty, i z.net, i z.vat, i z.gross] 30)) (.slice A1 n1 c1) (itsTo cs kk)) := by
                refine Own.call HO.out ?_
                repeat (first | (with_reducible exact Below.refl _ _) | (with_reducible refine below_drewN' ?_ _) | (with_reducible refine Below.drew ?_) | (with_reducible refine Below.setCell ?_ (by first | (simp; done) | (simp; omega) | omega) _) | (with_reducible refine below_alloc ?_ _) | (with_reducible refine Below.alloc ?_ (by first | (simp; done) | (simp; omega) | omega) _) | (with_reducible exact hbc) | (with_reducible refine below_call ?_ hbc) | (with_reducible exact hb1) | (with_reducible refine below_call ?_ hb1))
              have HB1 : Hid (Below w.heap.size w (w2.alloc (.cells #[i z.kind, i z.price, i z.tax, i z.qty, i z.net, i z.vat, i z.gross] 30))) := below_alloc HB2.out _
              have HLEN : Hid ((itsTo cs kk).length ≤ 16777216) := itsTo_len HG.out
              clear hblk
              go_wp2_with (at_builtin; refine wpList_grow rfl (.tmp 58) (.tmp 60) 24 rfl i0 _ 56 Try.underlying24 hi0 hz0 hz1 hz2 rfl (by omega) rfl HO1.out w2.heap.size z _ 30 rfl (Blk.new w2 _ _) rfl (itmR_lit HOK.out) (one_itm _ _ (itmR_lit HOK.out)) HLEN.out (by omega) HB1.out.size ?_)
              rintro v' w3 hown2 - hbel2 ⟨A2, n2, c2, rfl⟩
              have HO2 : Hid (OwnI w.heap.size w3 (.slice A2 n2 c2) (itsTo cs (kk + 1))) := by
                show OwnI _ _ _ _
                rw [HMT.out]; exact hown2
              have HB3 : Hid (Below w.heap.size w w3) := HB1.out.trans hbel2
              clear hown2 hbel2 HO1 HB1 hgc
              go_wp2_with fail
              go_roundg (cs.length - (kk + 1))
              case measure => omega
              case rel => exact ⟨kk + 1, _, _, _, by omega, by omega, rfl, by go_num, HO2, HB3, HA2⟩
      · have hltz : ¬ (kk : Int) < (cs.length : Int) := by omega
        have hke : kk = cs.length := by omega
        subst hke
        rw [List.take_length] at HA
        rw [itsTo_all] at HO
        have HF := Lib.hid (all_ok HG.out HA.out)
        go_wp2_with fail
        go_ret2
        exact ItsPost.yes HF.out (HO.out.at_ (by omega)) BW.out
end MonW
end Go.Proofs.Ytpgpibojegjogaa
