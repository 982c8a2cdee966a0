/-
  The walk of the reference's Totals.
-/
import Derived.Test.YtpgpibojegjogaaTaxQ
namespace Go.Proofs.Ytpgpibojegjogaa
namespace MonW
set_option linter.unusedSimpArgs false
set_option linter.unusedVariables false
open Go.RowKit

def nTo (f : Itm → Int) (cs : List Itm) (k : Nat) : List Int := (cs.take k).map f
theorem nTo_succ {f : Itm → Int} {cs : List Itm} {k : Nat} (hk : k < cs.length) : nTo f cs (k + 1) = nTo f cs k ++ [f cs[k]] := map_take hk
theorem nTo_all (f : Itm → Int) (cs : List Itm) : nTo f cs cs.length = cs.map f := by unfold nTo; rw [List.take_length]
theorem nTo_len {f : Itm → Int} {cs : List Itm} {k : Nat} (h : cs.length ≤ 16777216) : (nTo f cs k).length ≤ 16777216 := by unfold nTo; rw [List.length_map, List.length_take]; omega
theorem intR_lit {n : Int} (h : I64 n) : IntR (#[i n] : Array Value).toList n := ⟨rfl, h⟩

set_option maxHeartbeats 1000000 in
theorem rnets (v : Value) (cs : List Itm) (w : World) (h : ItmsAt w v cs) (hn : cs.length ≤ 16777216) :
    Calls Try.prog 26 #[v] w fun e w' => (∃ u, e = .returned u ∧ IntsAt w' u (cs.map (·.net))) ∧ Below w.heap.size w w' := by
  obtain ⟨A, c, rfl, h1, h2⟩ := SliceAt.form h
  obtain ⟨i0, hi0, hz0, hz1, hz2⟩ := info_parts infoInt
  unfold maxLen at h2
  have HC := Lib.hid h
  clear h
  go_enter Try.func26, Try.ntmps26
  go_wp2
  go_loopg [3, 4] cs.length (fun gg s4 s17 wr => ∃ (kk : Nat) (A1 : Option Addr) (n1 c1 : Nat), kk ≤ cs.length ∧ cs.length - kk ≤ gg ∧ s4 = .slice A1 n1 c1 ∧ s17 = i kk ∧ Hid (OwnN w.heap.size wr (.slice A1 n1 c1) (nTo (·.net) cs kk)) ∧ Hid (Below w.heap.size w wr))
  case atStart => exact ⟨0, _, _, _, Nat.zero_le _, by omega, rfl, rfl, Own.nil, Below.refl _ w⟩
  case round =>
    obtain ⟨kk, A1, n1, c1, hkk, hg, rfl, rfl, HO, BW⟩ := hrel
    by_cases hlt : kk < cs.length
    · have hltz : (kk : Int) < (cs.length : Int) := by omega
      obtain ⟨b, off, rfl, _, hok, hrow⟩ := ItmsAt.at_ HC.out hlt
      obtain ⟨l1, l2, l3, l4, l5, l6, l7⟩ := hrow wr (Kept.of BW.out)
      clear hrow
      have HMT := Lib.hid (nTo_succ (f := (·.net)) hlt)
      have HRR := Lib.hid (intR_lit hok.2.2.2.2.1)
      clear hok
      generalize cs[kk] = y at *
      have HO1 := Lib.hid (Own.call HO.out (below_new wr (.cells #[i y.net] 3)))
      have HB1 := Lib.hid (below_alloc BW.out (.cells #[i y.net] 3))
      have HLEN := Lib.hid (nTo_len (f := (·.net)) (k := kk) hn)
      go_wp2_with (at_builtin; refine wpList_grow rfl (.tmp 11) (.tmp 17) 49 rfl i0 _ 8 Try.underlying49 hi0 hz0 hz1 hz2 rfl (by omega) rfl HO1.out wr.heap.size y.net _ 3 rfl (Blk.new wr _ _) rfl HRR.out (one_int _ _ HRR.out) HLEN.out (by omega) HB1.out.size ?_)
      rintro v' w3 hown2 - hbel2 ⟨A2, n2, c2, rfl⟩
      have HO2 : Hid (OwnN w.heap.size w3 (.slice A2 n2 c2) (nTo (·.net) cs (kk + 1))) := by
        show OwnN _ _ _ _
        rw [HMT.out]; exact hown2
      have HB3 : Hid (Below w.heap.size w w3) := HB1.out.trans hbel2
      clear hown2 hbel2 HO1 HB1 l1 l2 l3 l4 l5 l6 l7
      go_wp2_with fail
      go_roundg (cs.length - (kk + 1))
      case measure => omega
      case rel => exact ⟨kk + 1, _, _, _, by omega, by omega, rfl, by go_num, HO2, HB3⟩
    · have hltz : ¬ (kk : Int) < (cs.length : Int) := by omega
      have hke : kk = cs.length := by omega
      subst hke
      rw [nTo_all] at HO
      go_wp2_with fail
      go_ret
      exact ⟨⟨_, rfl, HO.out.at_ (by omega)⟩, BW.out⟩

set_option maxHeartbeats 2000000 in
theorem rtotals (v : Value) (cs : List Itm) (w : World) (h : ItmsAt w v cs) (hn : cs.length ≤ 16777216) :
    Calls Try.prog 12 #[v] w fun e w' => e = .returned (totV cs) ∧ Below w.heap.size w w' := by
  obtain ⟨A, c, rfl, h1, h2⟩ := SliceAt.form h
  obtain ⟨i0, hi0, hz0, hz1, hz2⟩ := info_parts infoInt
  unfold maxLen at h2
  have HC := Lib.hid h
  clear h
  go_enter Try.func12, Try.ntmps12
  go_wp2
  go_loopg [6, 7, 8] cs.length (fun gg s6 s7 s8 wr => ∃ (kk : Nat) (A1 : Option Addr) (n1 c1 : Nat) (A2 : Option Addr) (n2 c2 : Nat), kk ≤ cs.length ∧ cs.length - kk ≤ gg ∧ s6 = .slice A1 n1 c1 ∧ s7 = .slice A2 n2 c2 ∧ s8 = i kk ∧ Hid (OwnN w.heap.size wr (.slice A1 n1 c1) (nTo (·.vat) cs kk)) ∧ Hid (OwnN w.heap.size wr (.slice A2 n2 c2) (nTo (·.gross) cs kk)) ∧ Hid (ApartB (.slice A1 n1 c1) (.slice A2 n2 c2)) ∧ Hid (Below w.heap.size w wr))
  case atStart => exact ⟨0, _, _, _, _, _, _, Nat.zero_le _, by omega, rfl, rfl, rfl, Own.nil, Own.nil, ApartB.nil, Below.refl _ w⟩
  case round =>
    obtain ⟨kk, A1, n1, c1, A2, n2, c2, hkk, hg, rfl, rfl, rfl, HO, HQ, HX, BW⟩ := hrel
    by_cases hlt : kk < cs.length
    · have hltz : (kk : Int) < (cs.length : Int) := by omega
      obtain ⟨b, off, rfl, _, hok, hrow⟩ := ItmsAt.at_ HC.out hlt
      obtain ⟨l1, l2, l3, l4, l5, l6, l7⟩ := hrow wr (Kept.of BW.out)
      have HROW := Lib.hid hrow
      clear hrow
      have HMT := Lib.hid (nTo_succ (f := (·.vat)) hlt)
      have HMU := Lib.hid (nTo_succ (f := (·.gross)) hlt)
      have HRR := Lib.hid (intR_lit hok.2.2.2.2.2.1)
      have HRS := Lib.hid (intR_lit hok.2.2.2.2.2.2)
      clear hok
      generalize cs[kk] = y at *
      have HO1 := Lib.hid (Own.call HO.out (below_new wr (.cells #[i y.vat] 3)))
      have HQ1 := Lib.hid (Own.call HQ.out (below_new wr (.cells #[i y.vat] 3)))
      have HB1 := Lib.hid (below_alloc BW.out (.cells #[i y.vat] 3))
      have HLEN := Lib.hid (nTo_len (f := (·.vat)) (k := kk) hn)
      have HLEM := Lib.hid (nTo_len (f := (·.gross)) (k := kk) hn)
      go_wp2_with (at_builtin; refine wpList_growAt rfl (.tmp 21) (.tmp 27) 49 rfl i0 _ 8 Try.underlying49 hi0 hz0 hz1 hz2 rfl (by omega) rfl HO1.out wr.heap.size y.vat _ 3 rfl (Blk.new wr _ _) rfl HRR.out (one_int _ _ HRR.out) HLEN.out (by omega) HB1.out.size ?_)
      intro v' w3 hown2 hgr2 hbel2 hsl hat
      have HQ2 := Lib.hid (HQ1.out.grow hgr2 HX.out.symm)
      have HX2 := Lib.hid (ApartB.next HQ1.out HX.out.symm (by simpa using hat))
      have HO2 : Hid (OwnN w.heap.size w3 v' (nTo (·.vat) cs (kk + 1))) := by
        show OwnN _ _ _ _
        rw [HMT.out]; exact hown2
      have HB3 : Hid (Below w.heap.size w w3) := HB1.out.trans hbel2
      clear hown2 hgr2 hbel2 hat HO1 HQ1 HB1 HO HQ HX l1 l2 l3 l4 l5 l6 l7
      obtain ⟨A3, n3, c3, rfl⟩ := hsl
      obtain ⟨l1, l2, l3, l4, l5, l6, l7⟩ := HROW.out w3 (Kept.of HB3.out)
      have HO3 := Lib.hid (Own.call HO2.out (below_new w3 (.cells #[i y.gross] 3)))
      have HQ3 := Lib.hid (Own.call HQ2.out (below_new w3 (.cells #[i y.gross] 3)))
      have HB4 := Lib.hid (below_alloc HB3.out (.cells #[i y.gross] 3))
      go_wp2_with (at_builtin; refine wpList_growAt rfl (.tmp 29) (.tmp 35) 49 rfl i0 _ 8 Try.underlying49 hi0 hz0 hz1 hz2 rfl (by omega) rfl HQ3.out w3.heap.size y.gross _ 3 rfl (Blk.new w3 _ _) rfl HRS.out (one_int _ _ HRS.out) HLEM.out (by omega) HB4.out.size ?_)
      intro v' w4 hown2 hgr2 hbel2 hsl hat
      have HO4 := Lib.hid (HO3.out.grow hgr2 HX2.out.symm)
      have HX4 := Lib.hid (ApartB.next HO3.out HX2.out.symm (by simpa using hat))
      have HQ4 : Hid (OwnN w.heap.size w4 v' (nTo (·.gross) cs (kk + 1))) := by
        show OwnN _ _ _ _
        rw [HMU.out]; exact hown2
      have HB5 : Hid (Below w.heap.size w w4) := HB4.out.trans hbel2
      clear hown2 hgr2 hbel2 hat HO2 HQ2 HB3 HX2 HO3 HQ3 HB4 l1 l2 l3 l4 l5 l6 l7
      obtain ⟨A4, n4, c4, rfl⟩ := hsl
      go_wp2_with fail
      go_roundg (cs.length - (kk + 1))
      case measure => omega
      case rel => exact ⟨kk + 1, _, _, _, _, _, _, by omega, by omega, rfl, rfl, by go_num, HO4, HQ4, HX4, HB5⟩
    · have hltz : ¬ (kk : Int) < (cs.length : Int) := by omega
      have hke : kk = cs.length := by omega
      subst hke
      rw [nTo_all] at HO HQ
      have H1 := Lib.hid (rnets _ cs wr (HC.out.call BW.out) hn)
      have H2 := Lib.hid (fun (u : Value) (W : World) (hu : IntsAt W u (cs.map (·.net))) => rsum u _ W hu)
      have H3 := Lib.hid (fun (W : World) (hb : Below wr.heap.size wr W) => rsum _ _ W (IntsAt.call (HO.out.at_ (by omega)) hb))
      have H4 := Lib.hid (fun (W : World) (hb : Below wr.heap.size wr W) => rsum _ _ W (IntsAt.call (HQ.out.at_ (by omega)) hb))
      have hF : (∃ e1 e2 e3 a b d : Int, sumV (tot (cs.map (·.net))) = a ∧ sumE (tot (cs.map (·.net))) = e1 ∧ sumV (tot (cs.map (·.vat))) = b ∧ sumE (tot (cs.map (·.vat))) = e2 ∧ sumV (tot (cs.map (·.gross))) = d ∧ sumE (tot (cs.map (·.gross))) = e3 ∧
          ((e1 = 0 ∧ e2 = 0 ∧ e3 = 0 ∧ totV cs = .tuple #[i a, i b, i d, i 0]) ∨ ((e1 = 20 ∨ (e1 = 0 ∧ e2 = 20) ∨ (e1 = 0 ∧ e2 = 0 ∧ e3 = 20)) ∧ totV cs = .tuple #[i 0, i 0, i 0, i 20]))) := by
        refine ⟨_, _, _, _, _, _, rfl, rfl, rfl, rfl, rfl, rfl, ?_⟩
        have hok : totOk cs = (fitI (sNet cs) && fitI (sVat cs) && fitI (sGross cs)) := rfl
        rcases sum_ways (sNet cs) with ⟨f1, v1, q1⟩ | ⟨f1, v1, q1⟩
        · rcases sum_ways (sVat cs) with ⟨f2, v2, q2⟩ | ⟨f2, v2, q2⟩
          · rcases sum_ways (sGross cs) with ⟨f3, v3, q3⟩ | ⟨f3, v3, q3⟩
            · left
              rw [f1, f2, f3] at hok
              refine ⟨q1, q2, q3, ?_⟩
              rw [totYes hok]
              show _ = Value.tuple #[i (sumV (sNet cs)), i (sumV (sVat cs)), i (sumV (sGross cs)), i 0]
              rw [v1, v2, v3]
            · right
              rw [f1, f2, f3] at hok
              exact ⟨.inr (.inr ⟨q1, q2, q3⟩), totNo hok⟩
          · right
            rw [f1, f2] at hok
            exact ⟨.inr (.inl ⟨q1, q2⟩), totNo hok⟩
        · right
          rw [f1] at hok
          exact ⟨.inl q1, totNo hok⟩
      obtain ⟨e1, e2, e3, a, b, d, k1, k2, k3, k4, k5, k6, hF⟩ := hF
      rw [k1, k2] at H2
      rw [k3, k4] at H3
      rw [k5, k6] at H4
      clear k1 k2 k3 k4 k5 k6
      rcases hF with ⟨rfl, rfl, rfl, hF⟩ | ⟨rfl | ⟨rfl, rfl⟩ | ⟨rfl, rfl, rfl⟩, hF⟩
      · have HF := Lib.hid hF
        clear hF
        go_wp2_with fail
        refine H1.out.mono ?_
        rintro e w1 ⟨⟨u, rfl, hu⟩, hb1⟩
        go_wp2_with fail
        refine (H2.out _ _ hu).mono ?_
        rintro e w2 ⟨rfl, hb2⟩
        have hb3 := below_call hb1 hb2
        clear hu
        go_wp2_with fail
        refine (H3.out _ hb3).mono ?_
        rintro e w3 ⟨rfl, hb4⟩
        have hb5 := below_call hb3 hb4
        go_wp2_with fail
        refine (H4.out _ hb5).mono ?_
        rintro e w4 ⟨rfl, hb6⟩
        go_wp2_with fail
        refine bodyPost_ret (v := .tuple #[i a, i b, i d, i 0]) (by simp [results, Try.results12, go_sem]) rfl ⟨by rw [HF.out], below_call BW.out (below_call hb5 hb6)⟩
      all_goals
        have HF := Lib.hid hF
        clear hF
        go_wp2_with fail
        refine H1.out.mono ?_
        rintro e w1 ⟨⟨u, rfl, hu⟩, hb1⟩
        go_wp2_with fail
        refine (H2.out _ _ hu).mono ?_
        rintro e w2 ⟨rfl, hb2⟩
        have hb3 := below_call hb1 hb2
        clear hu
        go_wp2_with fail
        refine (H3.out _ hb3).mono ?_
        rintro e w3 ⟨rfl, hb4⟩
        have hb5 := below_call hb3 hb4
        go_wp2_with fail
        refine (H4.out _ hb5).mono ?_
        rintro e w4 ⟨rfl, hb6⟩
        go_wp2_with fail
        refine bodyPost_ret (v := .tuple #[i 0, i 0, i 0, i 20]) (by simp [results, Try.results12, go_sem]) rfl ⟨by rw [HF.out], below_call BW.out (below_call hb5 hb6)⟩
end MonW
end Go.Proofs.Ytpgpibojegjogaa
