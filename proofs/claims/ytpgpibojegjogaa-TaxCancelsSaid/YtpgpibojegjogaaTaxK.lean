/-
  The walk of tax.Items.
-/
import Derived.Test.YtpgpibojegjogaaTaxJ
namespace Go.Proofs.Ytpgpibojegjogaa
namespace MonW
set_option linter.unusedSimpArgs false
set_option linter.unusedVariables false
open Go.RowKit

theorem infoItm : (Try.prog.info? 30).map (fun i => (i.zero, i.size, i.bytes)) = some (some (.agg #[.int .i64 0, .int .i64 0, .int .i64 0, .int .i64 0, .int .i64 0, .int .i64 0, .int .i64 0]), 7, 56) := by kernel_rfl
abbrev OwnI (base : Nat) (w : World) (v : Value) (xs : List Itm) : Prop := Own ItmR 30 7 base w v xs

def itsE : List Chg → Int
  | [] => 0
  | c :: cs => if itE c = 0 then itsE cs else itE c
def allE (cs : List Chg) : Int := if 64 < cs.length then 3 else itsE cs
def allV (cs : List Chg) : List Itm := if allE cs = 0 then cs.map itV else []
theorem itsE_ok : ∀ (cs : List Chg), (∀ c ∈ cs, itE c = 0) → itsE cs = 0
  | [], _ => rfl
  | c :: cs, h => by rw [itsE, if_pos (h c (by simp)), itsE_ok cs (fun x hx => h x (by simp [hx]))]
theorem itsE_bad : ∀ (cs : List Chg) (k : Nat) (hk : k < cs.length), (∀ c ∈ cs.take k, itE c = 0) → itE cs[k] ≠ 0 → itsE cs = itE cs[k]
  | [], k, hk, _, _ => by simp at hk
  | c :: cs, 0, _, _, h => by rw [itsE, if_neg (by simpa using h)]; rfl
  | c :: cs, k + 1, hk, h, hb => by
    rw [itsE, if_pos (h c (by simp)), itsE_bad cs k (by simpa using hk) (fun x hx => h x (by simp [hx])) (by simpa using hb)]
    rfl
theorem all_big {cs : List Chg} (h : 64 < cs.length) : allE cs = 3 ∧ allV cs = [] := by
  have : allE cs = 3 := by unfold allE; rw [if_pos h]
  exact ⟨this, by unfold allV; rw [this]; rfl⟩
theorem all_ok {cs : List Chg} (h : ¬ 64 < cs.length) (h0 : ∀ c ∈ cs, itE c = 0) : allE cs = 0 ∧ allV cs = cs.map itV := by
  have : allE cs = 0 := by unfold allE; rw [if_neg h, itsE_ok cs h0]
  exact ⟨this, by unfold allV; rw [this]; rfl⟩
theorem all_bad {cs : List Chg} (h : ¬ 64 < cs.length) {k : Nat} (hk : k < cs.length) (h0 : ∀ c ∈ cs.take k, itE c = 0) (hb : itE cs[k] ≠ 0) : allE cs = itE cs[k] ∧ allV cs = [] := by
  have : allE cs = itE cs[k] := by unfold allE; rw [if_neg h, itsE_bad cs k hk h0 hb]
  exact ⟨this, by unfold allV; rw [this, if_neg hb]⟩
theorem take_all {α : Type} {P : α → Prop} {cs : List α} {k : Nat} (hk : k < cs.length) (h : ∀ c ∈ cs.take k, P c) (hb : P cs[k]) : ∀ c ∈ cs.take (k + 1), P c := by
  intro c hc
  rw [List.take_succ_eq_append_getElem hk] at hc
  rcases List.mem_append.1 hc with hc | hc
  · exact h c hc
  · have : c = cs[k] := by simpa using hc
    rw [this]; exact hb
theorem map_take {α β : Type} {f : α → β} {cs : List α} {k : Nat} (hk : k < cs.length) : (cs.take (k + 1)).map f = (cs.take k).map f ++ [f cs[k]] := by
  rw [List.take_succ_eq_append_getElem hk, List.map_append]; rfl

def ItsPost (cs : List Chg) (w : World) (e : Ending) (w' : World) : Prop := ∃ v, e = .returned (.tuple #[v, i (allE cs)]) ∧ ItmsAt w' v (allV cs) ∧ Below w.heap.size w w'

theorem ItsPost.no {cs : List Chg} {w w' : World} {n : Int} (h : allE cs = n ∧ allV cs = []) (hb : Below w.heap.size w w') : ItsPost cs w (.returned (.tuple #[.slice none 0 0, i n])) w' := by
  refine ⟨.slice none 0 0, ?_, ?_, hb⟩
  · rw [h.1]
  · rw [h.2]; exact SliceAt.nil
theorem ItsPost.yes {cs : List Chg} {w w' : World} {v : Value} (h : allE cs = 0 ∧ allV cs = cs.map itV) (hv : ItmsAt w' v (cs.map itV)) (hb : Below w.heap.size w w') : ItsPost cs w (.returned (.tuple #[v, i 0])) w' := by
  refine ⟨v, ?_, ?_, hb⟩
  · rw [h.1]
  · rw [h.2]; exact hv

theorem itmR_lit {x : Itm} (h : x.ok) : ItmR (#[i x.kind, i x.price, i x.tax, i x.qty, i x.net, i x.vat, i x.gross] : Array Value).toList x := ⟨rfl, h⟩

def itsTo (cs : List Chg) (k : Nat) : List Itm := (cs.take k).map itV
theorem itsTo_succ {cs : List Chg} {k : Nat} (hk : k < cs.length) : itsTo cs (k + 1) = itsTo cs k ++ [itV cs[k]] := map_take hk
theorem itsTo_all (cs : List Chg) : itsTo cs cs.length = cs.map itV := by unfold itsTo; rw [List.take_length]
theorem itsTo_len {cs : List Chg} {k : Nat} (h : ¬ 64 < cs.length) : (itsTo cs k).length ≤ 16777216 := by unfold itsTo; rw [List.length_map, List.length_take]; omega

set_option maxHeartbeats 2000000 in
theorem items (v : Value) (cs : List Chg) (w : World) (h : ChgsAt w v cs) : Calls Try.prog 8 #[v] w (ItsPost cs w) := by
  obtain ⟨A, c, rfl, h1, h2⟩ := SliceAt.form h
  obtain ⟨i0, hi0, hz0, hz1, hz2⟩ := info_parts infoItm
  unfold maxLen at h2
  have HC := Lib.hid h
  clear h
  by_cases hbig : 64 < cs.length
  · have HF := Lib.hid (all_big hbig)
    go_enter Try.func8, Try.ntmps8
    go_wp2_with fail
    go_ret2
    exact ItsPost.no HF.out (Below.refl _ _)
  · have HG := Lib.hid hbig
    go_enter Try.func8, Try.ntmps8
    go_wp2_with (at_make; refine wpList_make_own _ rfl _ _ 24 rfl w.heap.size 30 i0 _ 7 Try.underlying24 hi0 hz0 hz1 .i64 .i64 _ cs.length rfl rfl rfl (by rw [hz2]; omega) (by unfold maxLen; omega) (Nat.le_refl _) ?_)
    intro w0 hown0 hgr0
    have HO0 : Hid (OwnI w.heap.size w0 (.slice (some ⟨w.heap.size, 0, none⟩) 0 cs.length) []) := Own.made (n := 0) hown0
    have HB0 : Hid (Below w.heap.size w w0) := (Below.refl _ _).grown hgr0 (Nat.le_refl _) (fun k hk => by cases hk)
    clear hown0 hgr0
    go_wp2
    go_loopg [4, 17] cs.length (fun gg s4 s17 wr => ∃ (kk : Nat) (A1 : Option Addr) (n1 c1 : Nat), kk ≤ cs.length ∧ cs.length - kk ≤ gg ∧ s4 = .slice A1 n1 c1 ∧ s17 = i kk ∧ Hid (OwnI w.heap.size wr (.slice A1 n1 c1) (itsTo cs kk)) ∧ Hid (Below w.heap.size w wr) ∧ Hid (∀ c ∈ cs.take kk, itE c = 0))
    case atStart => exact ⟨0, _, _, _, Nat.zero_le _, by omega, rfl, rfl, HO0, HB0, fun c hc => by simp at hc⟩
    case round =>
      obtain ⟨kk, A1, n1, c1, hkk, hg, rfl, rfl, HO, BW, HA⟩ := hrel
      clear HO0 HB0
      by_cases hlt : kk < cs.length
      · have hltz : (kk : Int) < (cs.length : Int) := by omega
        obtain ⟨b, off, rfl, _, hok, hrow⟩ := ChgsAt.at_ HC.out hlt
        obtain ⟨l1, l2, l3, l4⟩ := hrow wr (Kept.of BW.out)
        clear hrow
        have HIT := Lib.hid (fun W => item cs[kk] W hok)
        have HOK := Lib.hid (itV_ok hok)
        have HMT := Lib.hid (itsTo_succ hlt)
        have HTA := Lib.hid (take_all hlt HA.out)
        have HBAD := Lib.hid (all_bad HG.out hlt HA.out)
        clear hok
        generalize cs[kk] = y at *
        generalize itV y = z at *
        generalize itE y = ze at *
        by_cases he : ze = 0
        · subst he
          have HA2 := Lib.hid (HTA.out rfl)
          clear HTA HBAD
          go_wp2_with fail
          refine (HIT.out _).mono ?_
          rintro e w1 ⟨rfl, hb1⟩
          have hB := BW.out
          have HO1 : Hid (OwnI w.heap.size ((w1.alloc (.cells #[i z.kind, i z.price, i z.tax, i z.qty, i z.net, i z.vat, i z.gross] 30)).alloc (.cells #[i z.kind, i z.price, i z.tax, i z.qty, i z.net, i z.vat, i z.gross] 30)) (.slice A1 n1 c1) (itsTo cs kk)) := by
            refine Own.call HO.out ?_
            repeat (first | (with_reducible exact Below.refl _ _) | (with_reducible refine below_drewN' ?_ _) | (with_reducible refine Below.drew ?_) | (with_reducible refine Below.setCell ?_ (by first | (simp; done) | (simp; omega) | omega) _) | (with_reducible refine below_alloc ?_ _) | (with_reducible refine Below.alloc ?_ (by first | (simp; done) | (simp; omega) | omega) _) | (with_reducible exact hb1) | (with_reducible refine below_call ?_ hb1))
          have HB1 : Hid (Below w.heap.size w ((w1.alloc (.cells #[i z.kind, i z.price, i z.tax, i z.qty, i z.net, i z.vat, i z.gross] 30)).alloc (.cells #[i z.kind, i z.price, i z.tax, i z.qty, i z.net, i z.vat, i z.gross] 30))) := by
            show Below _ _ _
            repeat (first | (with_reducible exact Below.refl _ _) | (with_reducible refine below_drewN' ?_ _) | (with_reducible refine Below.drew ?_) | (with_reducible refine Below.setCell ?_ (by first | (simp; done) | (simp; omega) | omega) _) | (with_reducible refine below_alloc ?_ _) | (with_reducible refine Below.alloc ?_ (by first | (simp; done) | (simp; omega) | omega) _) | (with_reducible exact hb1) | (with_reducible refine below_call ?_ hb1) | (with_reducible exact hB) | (with_reducible refine below_call ?_ hB))
          have HLEN : Hid ((itsTo cs kk).length ≤ 16777216) := by
            show _ ≤ _
            exact itsTo_len HG.out
          clear hB
          go_wp2_with (at_builtin; refine wpList_grow rfl (.tmp 29) (.tmp 31) 24 rfl i0 _ 56 Try.underlying24 hi0 hz0 hz1 hz2 rfl (by omega) rfl HO1.out (w1.heap.size + 1) z _ 30 rfl (by simpa using Blk.new (w1.alloc _) _ _) rfl (itmR_lit HOK.out) (one_itm _ _ (itmR_lit HOK.out)) HLEN.out (by omega) HB1.out.size ?_)
          rintro v' w2 hown2 - hbel2 ⟨A2, n2, c2, rfl⟩
          have HO2 : Hid (OwnI w.heap.size w2 (.slice A2 n2 c2) (itsTo cs (kk + 1))) := by
            show OwnI _ _ _ _
            rw [HMT.out]; exact hown2
          have HB2 : Hid (Below w.heap.size w w2) := HB1.out.trans hbel2
          clear hown2 hbel2 HO1 HB1 l1 l2 l3 l4
          go_wp2_with fail
          go_roundg (cs.length - (kk + 1))
          case measure => omega
          case rel => exact ⟨kk + 1, _, _, _, by omega, by omega, rfl, by go_num, HO2, HB2, HA2⟩
        · have he2 : (ze != 0) = true := bne_iff_ne.2 he
          have HE := Lib.hid he
          clear he
          go_wp2_with fail
          refine (HIT.out _).mono ?_
          rintro e w1 ⟨rfl, hb1⟩
          go_wp2_with fail
          go_ret2
          refine ItsPost.no (HBAD.out HE.out) ?_
          have hB := BW.out
          repeat (first | (with_reducible exact Below.refl _ _) | (with_reducible refine below_drewN' ?_ _) | (with_reducible refine Below.drew ?_) | (with_reducible refine Below.setCell ?_ (by first | (simp; done) | (simp; omega) | omega) _) | (with_reducible refine below_alloc ?_ _) | (with_reducible refine Below.alloc ?_ (by first | (simp; done) | (simp; omega) | omega) _) | (with_reducible exact hb1) | (with_reducible refine below_call ?_ hb1) | (with_reducible exact hB) | (with_reducible refine below_call ?_ hB))
      · have hltz : ¬ (kk : Int) < (cs.length : Int) := by omega
        have hke : kk = cs.length := by omega
        subst hke
        rw [List.take_length] at HA
        rw [itsTo_all] at HO
        have HF := Lib.hid (all_ok HG.out HA.out)
        go_wp2_with fail
        go_ret2
        exact ItsPost.yes HF.out (HO.out.at_ (by omega)) BW.out
end MonW
end Go.Proofs.Ytpgpibojegjogaa
