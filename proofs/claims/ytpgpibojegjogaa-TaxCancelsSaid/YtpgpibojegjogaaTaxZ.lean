/-
  The walk of the statement TaxCancels.
-/
import Derived.Test.YtpgpibojegjogaaTaxY
import Derived.Test.YtpgpibojegjogaaGrowA
namespace Go.Proofs.Ytpgpibojegjogaa
namespace MonW
set_option linter.unusedSimpArgs false
set_option linter.unusedVariables false
open Go.RowKit

set_option maxRecDepth 100000 in
set_option maxHeartbeats 4000000 in
theorem cancels_yes (v u : Value) (cs ds : List Itm) (w : World) (h : ItmsAt w v cs) (h' : ItmsAt w u ds) (hm : modL cs = true) (hm' : modL ds = true) :
    Calls Try.prog 5 #[v, u] w fun e w' => e = .returned (.bool true) ∧ Below w.heap.size w w' := by
  have HW := Lib.hid awake
  have HI := Lib.hid h
  have HJ := Lib.hid h'
  have HM1 := Lib.hid (fun (W : World) (hb : Below w.heap.size w W) => modest v cs W (h.call hb))
  have HM2 := Lib.hid (fun (W : World) (hb : Below w.heap.size w W) => modest u ds W (h'.call hb))
  rw [hm] at HM1
  rw [hm'] at HM2
  have HN := Lib.hid negate
  have HR := Lib.hid rnegate
  have HS := Lib.hid same
  have HT := Lib.hid totals
  have HTW := Lib.hid (ngs_twice (itms_ok h))
  obtain ⟨b1, b2, b3⟩ := sums_small hm
  obtain ⟨b4, b5, b6⟩ := sums_small hm'
  have hlc : cs.length ≤ 60 := (of_decide_eq_true hm).1
  have hld : ds.length ≤ 60 := (of_decide_eq_true hm').1
  have T1 : Hid (totV (cs ++ cs.map ngi) = .tuple #[i 0, i 0, i 0, i 0]) := by
    obtain ⟨a1, a2, a3⟩ := sums_append cs (cs.map ngi)
    obtain ⟨a4, a5, a6⟩ := sums_neg hm
    exact tot_of (by rw [a1, a4]; omega) (by rw [a2, a5]; omega) (by rw [a3, a6]; omega) (by omega) (by omega) (by omega)
  have T2 : Hid (totV cs = .tuple #[i (sNet cs), i (sVat cs), i (sGross cs), i 0]) := tot_of rfl rfl rfl (by omega) (by omega) (by omega)
  have T3 : Hid (totV ds = .tuple #[i (sNet ds), i (sVat ds), i (sGross ds), i 0]) := tot_of rfl rfl rfl (by omega) (by omega) (by omega)
  have T4 : Hid (totV (cs ++ ds) = .tuple #[i (sNet cs + sNet ds), i (sVat cs + sVat ds), i (sGross cs + sGross ds), i 0]) := by
    obtain ⟨a1, a2, a3⟩ := sums_append cs ds
    exact tot_of a1 a2 a3 (by omega) (by omega) (by omega)
  generalize sNet cs = n1 at *
  generalize sVat cs = n2 at *
  generalize sGross cs = n3 at *
  generalize sNet ds = n4 at *
  generalize sVat ds = n5 at *
  generalize sGross ds = n6 at *
  clear hm hm'
  obtain ⟨A, c, rfl, h1, h2⟩ := SliceAt.form h
  obtain ⟨A', c', rfl, h1', h2'⟩ := SliceAt.form h'
  unfold maxLen at h2 h2'
  clear h h'
  obtain ⟨i0, hi0, hz0, hz1, hz2⟩ := info_parts infoItm
  go_enter Try.func5, Try.ntmps5
  go_wp2_with fail
  refine (HM1.out _ (Below.refl _ _)).mono ?_
  rintro e w1 ⟨rfl, hb1⟩
  go_wp2_with fail
  refine (HM2.out _ hb1).mono ?_
  rintro e w2 ⟨rfl, hb2⟩
  have HB2 := Lib.hid (below_call hb1 hb2)
  clear hb1 hb2
  go_wp2_with fail
  refine (HN.out _ cs _ (HI.out.call HB2.out) (by omega)).mono ?_
  rintro e w3 ⟨v3, rfl, hv3, hb3⟩
  obtain ⟨A3, c3, e3, _, h23⟩ := SliceAt.form hv3
  rw [List.length_map] at e3
  subst e3
  have HV3 := Lib.hid hv3
  have HB3 := Lib.hid (below_call HB2.out hb3)
  clear hv3 hb3
  go_wp2_with fail
  refine (HN.out _ (cs.map ngi) _ HV3.out (by rw [List.length_map]; omega)).mono ?_
  rintro e w4 ⟨v4, rfl, hv4, hb4⟩
  rw [HTW.out] at hv4
  have HV4 := Lib.hid hv4
  have HB4 := Lib.hid (below_call HB3.out hb4)
  have HV34 := Lib.hid (HV3.out.call hb4)
  clear hv4 hb4
  go_wp2_with fail
  refine (HS.out cs _ _ _ HV4.out (HI.out.call HB4.out)).mono ?_
  rintro e w5 ⟨rfl, m5, rfl⟩
  obtain ⟨w5, hw5⟩ : ∃ w5, w4.drewN m5 = w5 := ⟨_, rfl⟩
  have hb5 : Below w4.heap.size w4 w5 := by rw [← hw5]; exact below_drewN' (Below.refl _ _) _
  rw [hw5]
  have HB5 := Lib.hid (below_call HB4.out hb5)
  have HV35 := Lib.hid (HV34.out.call hb5)
  clear hw5 hb5 HV4 HV34 HV3
  go_wp2_with fail
  refine (HR.out _ cs _ (HI.out.call HB5.out) (by omega)).mono ?_
  rintro e w6 ⟨v6, rfl, hv6, hb6⟩
  have HV6 := Lib.hid hv6
  have HB6 := Lib.hid (below_call HB5.out hb6)
  have HV36 := Lib.hid (HV35.out.call hb6)
  clear hv6 hb6 HV35
  go_wp2_with fail
  refine (HS.out (cs.map ngi) _ _ _ HV36.out HV6.out).mono ?_
  rintro e w7 ⟨rfl, m7, rfl⟩
  obtain ⟨w7, hw7⟩ : ∃ w7, w6.drewN m7 = w7 := ⟨_, rfl⟩
  have hb7 : Below w6.heap.size w6 w7 := by rw [← hw7]; exact below_drewN' (Below.refl _ _) _
  rw [hw7]
  have HB7 := Lib.hid (below_call HB6.out hb7)
  have HV37 := Lib.hid (HV36.out.call hb7)
  clear hw7 hb7 HV36 HV6
  have HO7 := Lib.hid (Own.made (R := ItmR) (n := 0) (World.ownsRow_made (base := w7.heap.size) (e := 30) (size := 7) w7 #[] 0 (Nat.le_refl _) (by simp [maxLen]) rfl))
  have HI7 := Lib.hid ((HI.out.call HB7.out).call (below_new w7 (.cells #[] 30)))
  have HLS : Hid (w7.heap.size ≤ (w7.alloc (.cells #[] 30)).heap.size) := by show _ ≤ _; simp
  go_wp2_with (at_builtin; refine wpList_growAll rfl (.tmp 46) (.tmp 47) 24 rfl i0 _ 56 Try.underlying24 hi0 hz0 hz1 hz2 rfl (by omega) rfl HO7.out _ cs rfl HI7.out one_itm (by first | omega | (simp; omega)) (by omega) HLS.out ?_)
  intro v8 w8 hown8 hgr8 hbel8 hsl8
  have HB8 : Hid (Below w7.heap.size w7 w8) := (below_new w7 (.cells #[] 30)).trans hbel8
  have HO8 := Lib.hid hown8
  clear hown8 hgr8 hbel8 HO7 HI7 HLS
  obtain ⟨A8, n8, c8, rfl⟩ := hsl8
  have HV38 := Lib.hid (HV37.out.call HB8.out)
  go_wp2_with (at_builtin; refine wpList_growAll rfl (.tmp 48) (.tmp 49) 24 rfl i0 _ 56 Try.underlying24 hi0 hz0 hz1 hz2 rfl (by omega) rfl HO8.out _ (cs.map ngi) rfl HV38.out one_itm (by first | omega | (simp; omega)) (by omega) HB8.out.size ?_)
  intro v9 w9 hown9 hgr9 hbel9 hsl9
  have HB9 := Lib.hid (below_call HB7.out (HB8.out.trans hbel9))
  have HO9 := Lib.hid hown9
  clear hown9 hgr9 hbel9 HO8 HV38 HB8
  obtain ⟨A9, n9, c9, rfl⟩ := hsl9
  go_wp2_with fail
  refine (HT.out _ _ _ (HO9.out.at_ (by omega)) (by first | omega | (simp; omega))).mono ?_
  rintro e w10 ⟨rfl, hb10⟩
  simp only [List.nil_append, T1.out]
  have HB10 := Lib.hid (below_call HB9.out hb10)
  clear hb10 HO9
  go_wp2_with fail
  refine (HT.out _ cs _ (HI.out.call HB10.out) (by omega)).mono ?_
  rintro e w11 ⟨rfl, hb11⟩
  rw [T2.out]
  have HB11 := Lib.hid (below_call HB10.out hb11)
  clear hb11
  go_wp2_with fail
  refine (HT.out _ ds _ (HJ.out.call HB11.out) (by omega)).mono ?_
  rintro e w12 ⟨rfl, hb12⟩
  rw [T3.out]
  have HB12 := Lib.hid (below_call HB11.out hb12)
  clear hb12
  have HO12 := Lib.hid (Own.made (R := ItmR) (n := 0) (World.ownsRow_made (base := w12.heap.size) (e := 30) (size := 7) w12 #[] 0 (Nat.le_refl _) (by simp [maxLen]) rfl))
  have HI12 := Lib.hid ((HI.out.call HB12.out).call (below_new w12 (.cells #[] 30)))
  have HLS : Hid (w12.heap.size ≤ (w12.alloc (.cells #[] 30)).heap.size) := by show _ ≤ _; simp
  go_wp2_with (at_builtin; refine wpList_growAll rfl (.tmp 71) (.tmp 72) 24 rfl i0 _ 56 Try.underlying24 hi0 hz0 hz1 hz2 rfl (by omega) rfl HO12.out _ cs rfl HI12.out one_itm (by first | omega | (simp; omega)) (by omega) HLS.out ?_)
  intro v13 w13 hown13 hgr13 hbel13 hsl13
  have HB13 : Hid (Below w12.heap.size w12 w13) := (below_new w12 (.cells #[] 30)).trans hbel13
  have HO13 := Lib.hid hown13
  clear hown13 hgr13 hbel13 HO12 HI12 HLS
  obtain ⟨A13, n13, c13, rfl⟩ := hsl13
  have HJ13 := Lib.hid ((HJ.out.call HB12.out).call HB13.out)
  go_wp2_with (at_builtin; refine wpList_growAll rfl (.tmp 73) (.tmp 74) 24 rfl i0 _ 56 Try.underlying24 hi0 hz0 hz1 hz2 rfl (by omega) rfl HO13.out _ ds rfl HJ13.out one_itm (by first | omega | (simp; omega)) (by omega) HB13.out.size ?_)
  intro v14 w14 hown14 hgr14 hbel14 hsl14
  have HB14 := Lib.hid (below_call HB12.out (HB13.out.trans hbel14))
  have HO14 := Lib.hid hown14
  clear hown14 hgr14 hbel14 HO13 HJ13 HB13
  obtain ⟨A14, n14, c14, rfl⟩ := hsl14
  go_wp2_with fail
  refine (HT.out _ _ _ (HO14.out.at_ (by omega)) (by first | omega | (simp; omega))).mono ?_
  rintro e w15 ⟨rfl, hb15⟩
  simp only [List.nil_append, T4.out]
  have HB15 := Lib.hid (below_call HB14.out hb15)
  clear hb15 HO14
  go_wp2_with fail
  refine (HW.out _).mono ?_
  rintro e w16 ⟨rfl, hb16⟩
  go_wp2_with fail
  go_ret
  exact ⟨rfl, below_call HB15.out hb16⟩

set_option maxHeartbeats 1000000 in
theorem law_cancels (v : Value) (cs : List Itm) (u : Value) (ds : List Itm) (w : World) (h : ItmsAt w v cs) (h' : ItmsAt w u ds) :
    Calls Try.prog 5 #[v, u] w fun e w' => e = .returned (.bool true) ∧ Below w.heap.size w w' := by
  rcases bool_cases (modL cs) with hm | hm
  · rcases bool_cases (modL ds) with hm' | hm'
    · exact cancels_yes v u cs ds w h h' hm hm'
    · have HW := Lib.hid awake
      have HM1 := Lib.hid (fun (W : World) (hb : Below w.heap.size w W) => modest v cs W (h.call hb))
      have HM2 := Lib.hid (fun (W : World) (hb : Below w.heap.size w W) => modest u ds W (h'.call hb))
      rw [hm] at HM1
      rw [hm'] at HM2
      clear hm hm'
      obtain ⟨A, c, rfl, h1, h2⟩ := SliceAt.form h
      obtain ⟨A', c', rfl, h1', h2'⟩ := SliceAt.form h'
      clear h h'
      go_enter Try.func5, Try.ntmps5
      go_wp2_with fail
      refine (HM1.out _ (Below.refl _ _)).mono ?_
      rintro e w1 ⟨rfl, hb1⟩
      go_wp2_with fail
      refine (HM2.out _ hb1).mono ?_
      rintro e w2 ⟨rfl, hb2⟩
      go_wp2_with fail
      refine (HW.out _).mono ?_
      rintro e w3 ⟨rfl, hb3⟩
      go_wp2_with fail
      go_ret
      exact ⟨rfl, below_call (below_call hb1 hb2) hb3⟩
  · have HW := Lib.hid awake
    have HM1 := Lib.hid (fun (W : World) (hb : Below w.heap.size w W) => modest v cs W (h.call hb))
    rw [hm] at HM1
    clear hm
    obtain ⟨A, c, rfl, h1, h2⟩ := SliceAt.form h
    obtain ⟨A', c', rfl, h1', h2'⟩ := SliceAt.form h'
    clear h h'
    go_enter Try.func5, Try.ntmps5
    go_wp2_with fail
    refine (HM1.out _ (Below.refl _ _)).mono ?_
    rintro e w1 ⟨rfl, hb1⟩
    go_wp2_with fail
    refine (HW.out _).mono ?_
    rintro e w3 ⟨rfl, hb3⟩
    go_wp2_with fail
    go_ret
    exact ⟨rfl, below_call hb1 hb3⟩
end MonW
end Go.Proofs.Ytpgpibojegjogaa
