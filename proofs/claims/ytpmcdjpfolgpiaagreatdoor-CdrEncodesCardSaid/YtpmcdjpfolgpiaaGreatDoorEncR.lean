/-
  The walks of the reference's encoding: ref07.PutInt, PutList, Put, ref26.Text, Num, Flag, List, Ints.
-/
import Derived.Test.YtpmcdjpfolgpiaaGreatDoorEncE
namespace Go.Proofs.YtpmcdjpfolgpiaaGreatDoor
namespace EncW
set_option linter.unusedSimpArgs false
set_option linter.unusedVariables false
open Go.RowKit MonW Enc

theorem zz_pos {n : Int} (h : I64 n) (h0 : ¬ n < 0) : IntKind.u64.wrap (IntKind.u64.wrap n * 2) = ((zz n : Nat) : Int) := by
  unfold I64 at h
  rw [wrapU, wrapU]
  unfold zz
  rw [if_pos (by omega)]
  omega
theorem zz_neg {n : Int} (h0 : n < 0) : -(n + 1) * 2 + 1 = ((zz n : Nat) : Int) := by
  unfold zz
  rw [if_neg (by omega)]
  omega

set_option maxRecDepth 100000 in
set_option maxHeartbeats 1000000 in
theorem rputInt (n : Int) (w : World) (hn : I64 n) : Calls Tryz.prog 87 #[i n] w fun e w' => ∃ u, e = .returned u ∧ OwnB w.heap.size w' u (encI n) ∧ Below w.heap.size w w' := by
  obtain ⟨i0, hi0, hz0, hz1, hz2⟩ := info_parts infoB
  have HU := Lib.hid (zz_lt hn)
  have HN := Lib.hid (encI_len hn)
  have HE := Lib.hid (show encI n = [] ++ encU (zz n) from rfl)
  have HZP := Lib.hid (zz_pos hn)
  have HZN := Lib.hid (fun h => zz_neg (n := n) h)
  generalize hys : encI n = ys at *
  generalize zz n = u0 at *
  clear hys
  go_enter Tryz.func87, Tryz.ntmps87
  go_upto_if 9 with (fail)
  go_cut [3] (fun s3 wd => s3 = .int .u64 (u0 : Int) ∧ w = wd)
  case first =>
    by_cases h0 : n < 0
    · have hzn := HZN.out h0
      go_wp2_with fail
      go_meet
      exact ⟨by first | rfl | rw [hzn], rfl⟩
    · have hzp := HZP.out h0
      go_wp2_with fail
      go_meet
      exact ⟨by rw [← hzp], rfl⟩
  case rest =>
  obtain ⟨rfl, rfl⟩ := hcut
  go_wp2_with fail
  go_loopg [3, 4] u0 (fun gg s3 s4 wr => ∃ (u : Nat) (zs : List Int) (A1 : Option Addr) (m1 c1 : Nat), u ≤ gg ∧ u < 18446744073709551616 ∧ s4 = .slice A1 m1 c1 ∧ s3 = .int .u64 u ∧ Hid (ys = zs ++ encU u) ∧ Hid (OwnB w.heap.size wr (.slice A1 m1 c1) zs) ∧ Hid (Below w.heap.size w wr))
  case atStart => exact ⟨u0, [], _, _, _, Nat.le_refl _, HU.out, rfl, rfl, HE.out, Own.nil, Below.refl _ _⟩
  case round =>
    obtain ⟨u, zs, A1, m1, c1, hg, hu, rfl, rfl, HY, HO, HB⟩ := hrel
    have hlz : zs.length ≤ 11 := by
      have := congrArg List.length HY.out
      rw [List.length_append] at this
      have := HN.out
      omega
    have HS := Lib.hid HB.out.size
    by_cases h128 : 128 ≤ u
    · have hz : (128 : Int) ≤ (u : Int) := by omega
      have e3 : IntKind.u8.wrap ((u : Int) % 128) = (u : Int) % 128 := by simp [IntKind.wrap, IntKind.bits, IntKind.signed]; omega
      have e4 : IntKind.u8.wrap ((u : Int) % 128 + 128) = (u : Int) % 128 + 128 := by simp [IntKind.wrap, IntKind.bits, IntKind.signed]; omega
      have HRR : Hid (BytR (#[.int .u8 ((u : Int) % 128 + 128)] : Array Value).toList ((u : Int) % 128 + 128)) := ⟨rfl, by omega, by omega⟩
      have HO1 := Lib.hid (Own.call HO.out (below_new wr (.cells #[.int .u8 ((u : Int) % 128 + 128)] 5)))
      have HB1 : Hid (Below w.heap.size w (wr.alloc (.cells #[.int .u8 ((u : Int) % 128 + 128)] 5))) := below_alloc HB.out _
      go_wp2_with (at_builtin; refine wpList_grow rfl (.tmp 18) (.tmp 23) 48 rfl i0 _ 1 Tryz.underlying48 hi0 hz0 hz1 hz2 rfl (by omega) rfl HO1.out wr.heap.size ((u : Int) % 128 + 128) _ 5 rfl (Blk.new wr _ _) rfl HRR.out (one_byt _ _ HRR.out) (by omega) (by omega) HB1.out.size ?_)
      rintro v' w3 hown2 hgr hbel2 ⟨A2, n2, c2, rfl⟩
      have HO2 : Hid (OwnB w.heap.size w3 (.slice A2 n2 c2) (zs ++ [(u : Int) % 128 + 128])) := hown2
      have HB3 : Hid (Below w.heap.size w w3) := HB1.out.trans hbel2
      clear hown2 hbel2 hgr HO1 HB1
      go_wp2_with fail
      go_roundg (u / 128)
      case measure => omega
      case rel =>
        refine ⟨u / 128, zs ++ [(u : Int) % 128 + 128], _, _, _, Nat.le_refl _, by omega, rfl, by simp, ?_, HO2, HB3⟩
        show _ = _
        rw [HY.out, encU_big h128]
        simp
    · have hz : ¬ (128 : Int) ≤ (u : Int) := by omega
      have e3 : IntKind.u8.wrap (u : Int) = (u : Int) := by simp [IntKind.wrap, IntKind.bits, IntKind.signed]; omega
      have HRR : Hid (BytR (#[.int .u8 (u : Int)] : Array Value).toList (u : Int)) := ⟨rfl, by omega, by omega⟩
      have HO1 := Lib.hid (Own.call HO.out (below_new wr (.cells #[.int .u8 (u : Int)] 5)))
      have HB1 : Hid (Below w.heap.size w (wr.alloc (.cells #[.int .u8 (u : Int)] 5))) := below_alloc HB.out _
      have HYY : Hid (ys = zs ++ [(u : Int)]) := by
        show _ = _
        rw [HY.out, encU_small h128]
      go_wp2_with (at_builtin; refine wpList_grow rfl (.tmp 27) (.tmp 30) 48 rfl i0 _ 1 Tryz.underlying48 hi0 hz0 hz1 hz2 rfl (by omega) rfl HO1.out wr.heap.size (u : Int) _ 5 rfl (Blk.new wr _ _) rfl HRR.out (one_byt _ _ HRR.out) (by omega) (by omega) HB1.out.size ?_)
      rintro v' w3 hown2 hgr hbel2 ⟨A2, n2, c2, rfl⟩
      have HO2 : Hid (OwnB w.heap.size w3 (.slice A2 n2 c2) ys) := by
        show OwnB _ _ _ _
        rw [HYY.out]; exact hown2
      have HB3 : Hid (Below w.heap.size w w3) := HB1.out.trans hbel2
      clear hown2 hbel2 hgr HO1 HB1
      go_wp2_with fail
      go_ret
      exact ⟨_, rfl, HO2.out, HB3.out⟩

set_option maxRecDepth 100000 in
set_option maxHeartbeats 1000000 in
theorem rputList (v : Value) (ds : List (List Int)) (w : World) (h : DatsAt w v ds) (hl : ds.length ≤ 256) (hd : ∀ d ∈ ds, d.length ≤ 1000 ∧ d ≠ []) :
    Calls Tryz.prog 88 #[v] w fun e w' => ∃ u, e = .returned (.tuple #[u, i 0]) ∧ OwnB w.heap.size w' u (putL ds) ∧ Below w.heap.size w w' := by
  obtain ⟨A, c, rfl, h1, h2⟩ := SliceAt.form h
  unfold maxLen at h2
  obtain ⟨i0, hi0, hz0, hz1, hz2⟩ := info_parts infoB
  have hlz : ¬ (256 : Int) < (ds.length : Int) := by omega
  have HL := Lib.hid h
  have HA := Lib.hid (rputInt ds.length w (by unfold I64; omega))
  have HLEN := Lib.hid (lTo_len hl (fun d hd' => (hd d hd').1))
  have HD := Lib.hid hd
  clear h hd
  go_enter Tryz.func88, Tryz.ntmps88
  go_wp2_with fail
  refine HA.out.mono ?_
  rintro e w1 ⟨u, rfl, hu, hb⟩
  obtain ⟨A1, n1, c1, rfl⟩ := OwnB.isSl hu
  have HO1 : Hid (OwnB w.heap.size w1 (.slice A1 n1 c1) (lTo ds 0)) := by
    show OwnB _ _ _ _
    unfold lTo
    simpa using hu
  have HB1 := Lib.hid hb
  clear hu hb
  go_wp2_with fail
  go_loopg [4, 5] ds.length (fun gg s4 s5 wr => ∃ (kk : Nat) (A1 : Option Addr) (n1 c1 : Nat), kk ≤ ds.length ∧ ds.length - kk ≤ gg ∧ s4 = .slice A1 n1 c1 ∧ s5 = i kk ∧ Hid (OwnB w.heap.size wr (.slice A1 n1 c1) (lTo ds kk)) ∧ Hid (Below w.heap.size w wr))
  case atStart => exact ⟨0, _, _, _, Nat.zero_le _, by omega, rfl, rfl, HO1.out, HB1.out⟩
  case round =>
    obtain ⟨kk, A2, n2, c2, hkk, hg, rfl, rfl, HO, BW⟩ := hrel
    have hln := HLEN.out kk hkk
    by_cases hlt : kk < ds.length
    · have hltz : (kk : Int) < (ds.length : Int) := by omega
      obtain ⟨b, off, r, rfl, _, ⟨u, hr, hdt⟩, hcell⟩ := SliceAt.at_ HL.out hlt
      subst hr
      have HC0 : Hid (∀ W, Below w.heap.size w W → W.cell? ⟨b, off + kk, none⟩ = some u) := fun W hb => by simpa using Kept.of hb _ _ (hcell 0 _ rfl)
      have l0 := HC0.out wr BW.out
      obtain ⟨hd1, hd2⟩ := HD.out _ (List.getElem_mem hlt)
      have HDT0 := Lib.hid hdt
      have HSU := Lib.hid (lTo_succ hlt)
      clear hcell
      generalize ds[kk] = d at *
      obtain ⟨A3, c3, rfl⟩ := Data.slice hdt
      clear hdt
      have HP := Lib.hid (rputInt d.length wr (by unfold I64; omega))
      go_wp2_with fail
      refine HP.out.mono ?_
      rintro e w3 ⟨u3, rfl, hu3, hb3⟩
      obtain ⟨A4, n4, c4, rfl⟩ := OwnB.isSl hu3
      have HO3 := Lib.hid (Own.call HO.out hb3)
      have HD3 := Lib.hid (Data.of hu3)
      have BW3 := Lib.hid (below_call BW.out hb3)
      have HEN := Lib.hid (encI_ne (d.length : Int))
      clear hu3 hb3 l0
      go_wp2_with (at_builtin; refine wpList_data rfl (.tmp 18) (.tmp 24) 48 rfl i0 _ Tryz.underlying48 hi0 hz0 hz1 hz2 rfl rfl HO3.out rfl HD3.out HEN.out (by have := encI_len (n := (d.length : Int)) (by omega); omega) BW3.out.size ?_)
      rintro v' w4 hown hbel ⟨A5, n5, c5, rfl⟩
      have HO4 := Lib.hid hown
      have BW4 := Lib.hid (BW3.out.trans hbel)
      have l4 := HC0.out w4 BW4.out
      have HDT4 := Lib.hid (HDT0.out.call BW4.out)
      have HLN := Lib.hid (show (lTo ds kk ++ encI d.length).length + d.length ≤ 16777216 by have := encI_len (n := (d.length : Int)) (by omega); rw [List.length_append]; omega)
      clear hown hbel
      go_wp2_with (at_builtin; refine wpList_data rfl (.tmp 26) (.tmp 30) 48 rfl i0 _ Tryz.underlying48 hi0 hz0 hz1 hz2 rfl rfl HO4.out rfl HDT4.out hd2 HLN.out BW4.out.size ?_)
      rintro v' w5 hown hbel ⟨A6, n6, c6, rfl⟩
      have HO5 : Hid (OwnB w.heap.size w5 (.slice A6 n6 c6) (lTo ds (kk + 1))) := by
        show OwnB _ _ _ _
        rw [HSU.out]
        simpa using hown
      have BW5 := Lib.hid (BW4.out.trans hbel)
      clear hown hbel l4
      go_wp2_with fail
      go_roundg (ds.length - (kk + 1))
      case measure => omega
      case rel => exact ⟨kk + 1, _, _, _, by omega, by omega, rfl, by go_num, HO5, BW5⟩
    · have hltz : ¬ (kk : Int) < (ds.length : Int) := by omega
      have hke : kk = ds.length := by omega
      subst hke
      rw [lTo_all] at HO
      go_wp2_with fail
      go_ret2
      exact ⟨_, rfl, HO.out, BW.out⟩

/-- After the test of the order. -/
def NoPost (w : World) (v : Value) (W : World) : Prop := v = .bool false ∧ Below w.heap.size w W

set_option maxRecDepth 100000 in
set_option maxHeartbeats 2000000 in
theorem rput (v : Value) (l : List Fld) (w : World) (h : FldsAt w v l) (hl : OkF l) :
    Calls Tryz.prog 65 #[v] w fun e w' => ∃ u, e = .returned (.tuple #[u, i 0]) ∧ OwnB w.heap.size w' u (putF l) ∧ Below w.heap.size w w' := by
  obtain ⟨A, c, rfl, h1, h2⟩ := SliceAt.form h
  unfold maxLen at h2
  obtain ⟨i0, hi0, hz0, hz1, hz2⟩ := info_parts infoB
  have hl256 := hl.1
  have hlz : ¬ (256 : Int) < (l.length : Int) := by omega
  have HL := Lib.hid h
  have HOK := Lib.hid hl
  clear h hl
  go_enter Tryz.func65, Tryz.ntmps65
  go_wp2_with fail
  go_loopg [4, 5] l.length (fun gg s4 s5 wr => ∃ (kk : Nat) (A1 : Option Addr) (n1 c1 : Nat), kk ≤ l.length ∧ l.length - kk ≤ gg ∧ s4 = .slice A1 n1 c1 ∧ s5 = i kk ∧ Hid (OwnB w.heap.size wr (.slice A1 n1 c1) (pTo l kk)) ∧ Hid (Below w.heap.size w wr))
  case atStart => exact ⟨0, _, _, _, Nat.zero_le _, by omega, rfl, rfl, Own.nil, Below.refl _ _⟩
  case round =>
    obtain ⟨kk, A2, n2, c2, hkk, hg, rfl, rfl, HO, BW⟩ := hrel
    have hln := pTo_len HOK.out kk hkk
    by_cases hlt : kk < l.length
    · have hltz : (kk : Int) < (l.length : Int) := by omega
      obtain ⟨b, off, r, rfl, _, ⟨u, hr, hdt, _, _, _, rfl⟩, hcell⟩ := SliceAt.at_ HL.out hlt
      subst hr
      obtain ⟨A3, c3, he⟩ := Data.slice hdt
      rw [he] at hdt hcell
      have HC0 : Hid (∀ W, Below w.heap.size w W → W.cell? ⟨b, off + kk * 2, none⟩ = some (i l[kk].tag)) := fun W hb => by simpa using Kept.of hb _ _ (hcell 0 _ rfl)
      have HC1 : Hid (∀ W, Below w.heap.size w W → W.cell? ⟨b, off + kk * 2 + 1, none⟩ = some (.slice A3 l[kk].data.length c3)) := fun W hb => Kept.of hb _ _ (hcell 1 _ rfl)
      have l0 := HC0.out wr BW.out
      have l1 := HC1.out wr BW.out
      obtain ⟨t1, t2, t3, t4⟩ := HOK.out.2.1 _ (List.getElem_mem hlt)
      have HSU := Lib.hid (pTo_succ hlt)
      have HDT0 := Lib.hid hdt
      have HPV : Hid (∀ j (hj : j + 1 = kk), wr.cell? ⟨b, off + j * 2, none⟩ = some (i (l[j]'(by omega)).tag) ∧ (l[j]'(by omega)).tag < l[kk].tag) := fun j hj => by
        subst hj
        obtain ⟨b', off', r', he', _, ⟨u', hr', _⟩, hcell'⟩ := SliceAt.at_ HL.out (show j < l.length by omega)
        obtain ⟨rfl, rfl⟩ : b = b' ∧ off = off' := by simpa using he'
        subst hr'
        refine ⟨by simpa using Kept.of BW.out _ _ (hcell' 0 _ rfl), HOK.out.2.2 j hlt⟩
      clear hcell hdt he
      generalize l[kk] = f at *
      obtain ⟨tag, d⟩ := f
      simp only at *
      have g1 : ¬ tag < 1 := by omega
      have g2 : ¬ 1000 < tag := by omega
      go_upto_region 9 with (fail)
      go_cut [44] (fun s44 wd => NoPost wr s44 wd)
      case first =>
        by_cases hk0 : kk = 0
        · have hgd : decide ((0 : Int) < (kk : Int)) = false := by simp [hk0]
          have hgn : decide (0 < kk) = false := by simp [hk0]
          clear hk0
          go_quiet (fail)
          go_wp2_with fail
          go_meet
          exact ⟨rfl, by repeat (first | (with_reducible exact Below.refl _ _) | (with_reducible refine below_drewN' ?_ _) | (with_reducible refine Below.drew ?_) | (with_reducible refine Below.setCell ?_ (by first | (simp; done) | (simp; omega) | omega) _) | (with_reducible refine below_alloc ?_ _) | (with_reducible refine Below.alloc ?_ (by first | (simp; done) | (simp; omega) | omega) _))⟩
        · have hgd : decide ((0 : Int) < (kk : Int)) = true := by simp; omega
          have hgn : decide (0 < kk) = true := by simp; omega
          obtain ⟨j, hj⟩ : ∃ j, kk = j + 1 := ⟨kk - 1, by omega⟩
          obtain ⟨l2, hlt3⟩ := HPV.out j hj.symm
          have hjz : (kk : Int) - 1 = (j : Int) := by omega
          have hjw : IntKind.i64.wrap (j : Int) = j := by simp [IntKind.wrap, IntKind.bits, IntKind.signed]; omega
          have hjl : (j : Int) < (l.length : Int) := by omega
          have hj0 : (0 : Int) ≤ (j : Int) := by omega
          generalize (l[j]'(by omega)).tag = pt at *
          have g3 : decide (tag ≤ pt) = false := by simp; omega
          have g4 : ¬ tag ≤ pt := by omega
          clear hk0 hj HPV
          go_quiet (fail)
          go_wp2_with fail
          go_meet
          exact ⟨rfl, by repeat (first | (with_reducible exact Below.refl _ _) | (with_reducible refine below_drewN' ?_ _) | (with_reducible refine Below.drew ?_) | (with_reducible refine Below.setCell ?_ (by first | (simp; done) | (simp; omega) | omega) _) | (with_reducible refine below_alloc ?_ _) | (with_reducible refine Below.alloc ?_ (by first | (simp; done) | (simp; omega) | omega) _))⟩
      case rest =>
      obtain ⟨rfl, hbq⟩ := hcut
      replace HO := Lib.hid (Own.call HO.out hbq)
      replace BW := Lib.hid (below_call BW.out hbq)
      clear HPV l0 l1 hbq
      have l0 := HC0.out wc BW.out
      have l1 := HC1.out wc BW.out
      have HP1 := Lib.hid (rputInt tag wc (by unfold I64; omega))
      go_wp2_with fail
      refine HP1.out.mono ?_
      rintro e w3 ⟨u3, rfl, hu3, hb3⟩
      obtain ⟨A4, n4, c4, rfl⟩ := OwnB.isSl hu3
      have HO3 := Lib.hid (Own.call HO.out hb3)
      have HD3 := Lib.hid (Data.of hu3)
      have BW3 := Lib.hid (below_call BW.out hb3)
      have HEN := Lib.hid (encI_ne tag)
      clear hu3 hb3 l0 l1
      go_wp2_with (at_builtin; refine wpList_data rfl (.tmp 45) (.tmp 51) 48 rfl i0 _ Tryz.underlying48 hi0 hz0 hz1 hz2 rfl rfl HO3.out rfl HD3.out HEN.out (by have := encI_len (n := tag) (by omega); omega) BW3.out.size ?_)
      rintro v' w4 hown hbel ⟨A5, n5, c5, rfl⟩
      have HO4 := Lib.hid hown
      have BW4 := Lib.hid (BW3.out.trans hbel)
      have l4 := HC1.out w4 BW4.out
      have HP2 := Lib.hid (rputInt d.length w4 (by unfold I64; omega))
      clear hown hbel
      go_wp2_with fail
      refine HP2.out.mono ?_
      rintro e w5 ⟨u5, rfl, hu5, hb5⟩
      obtain ⟨A6, n6, c6, rfl⟩ := OwnB.isSl hu5
      have HO5 := Lib.hid (Own.call HO4.out hb5)
      have HD5 := Lib.hid (Data.of hu5)
      have BW5 := Lib.hid (below_call BW4.out hb5)
      have HEN2 := Lib.hid (encI_ne (d.length : Int))
      clear hu5 hb5 l4
      go_wp2_with (at_builtin; refine wpList_data rfl (.tmp 53) (.tmp 60) 48 rfl i0 _ Tryz.underlying48 hi0 hz0 hz1 hz2 rfl rfl HO5.out rfl HD5.out HEN2.out (by have := encI_len (n := tag) (by omega); have := encI_len (n := (d.length : Int)) (by omega); rw [List.length_append]; omega) BW5.out.size ?_)
      rintro v' w6 hown hbel ⟨A7, n7, c7, rfl⟩
      have HO6 : Hid (OwnB w.heap.size w6 (.slice A7 n7 c7) (pTo l kk ++ (encI tag ++ encI d.length))) := by show OwnB _ _ _ _; simpa using hown
      have BW6 := Lib.hid (BW5.out.trans hbel)
      have l6 := HC1.out w6 BW6.out
      have HDT6 := Lib.hid (HDT0.out.call BW6.out)
      have HLN := Lib.hid (show (pTo l kk ++ (encI tag ++ encI d.length)).length + d.length ≤ 16777216 by
        have := encI_len (n := tag) (by omega)
        have := encI_len (n := (d.length : Int)) (by omega)
        rw [List.length_append, List.length_append]
        omega)
      clear hown hbel
      go_wp2_with (at_builtin; refine wpList_data rfl (.tmp 62) (.tmp 67) 48 rfl i0 _ Tryz.underlying48 hi0 hz0 hz1 hz2 rfl rfl HO6.out rfl HDT6.out t3 HLN.out BW6.out.size ?_)
      rintro v' w7 hown hbel ⟨A8, n8, c8, rfl⟩
      have HO7 : Hid (OwnB w.heap.size w7 (.slice A8 n8 c8) (pTo l (kk + 1))) := by
        show OwnB _ _ _ _
        rw [HSU.out]
        simpa using hown
      have BW7 := Lib.hid (BW6.out.trans hbel)
      clear hown hbel l6
      go_wp2_with fail
      go_roundg (l.length - (kk + 1))
      case measure => omega
      case rel => exact ⟨kk + 1, _, _, _, by omega, by omega, rfl, by go_num, HO7, BW7⟩
    · have hltz : ¬ (kk : Int) < (l.length : Int) := by omega
      have hke : kk = l.length := by omega
      subst hke
      rw [pTo_all] at HO
      go_wp2_with fail
      go_ret2
      exact ⟨_, rfl, HO.out, BW.out⟩

/-- A list of fields that a call has made longer. -/
def FPost (base : Nat) (l : List Fld) (w : World) (e : Ending) (w' : World) : Prop := ∃ u, e = .returned u ∧ IsSl u ∧ OwnF base w' u l ∧ Below base w w'
theorem OwnF.call {base : Nat} {w w' : World} {v : Value} {l : List Fld} (h : OwnF base w v l) (hb : Below w.heap.size w w') : OwnF base w' v l :=
  Own.mono (Own.call h hb) (FldR.keep (row := none) ⟨hb.os, hb.tape, hb.output, hb.size, fun k hk _ => hb.block k hk⟩ (fun k hk => by cases hk))

set_option maxRecDepth 100000 in
set_option maxHeartbeats 1000000 in
theorem rtext (base : Nat) (v : Value) (l : List Fld) (tag : Int) (s : ByteArray) (w : World) (h : OwnF base w v l) (hb : base ≤ w.heap.size) (hl : l.length ≤ 1000) (hs : s.size ≤ 1000000) :
    Calls Tryz.prog 61 #[v, i tag, .string s] w (FPost base (addF l tag (strB s)) w) := by
  obtain ⟨A1, n1, c1, rfl⟩ := OwnF.slice h
  by_cases h0 : s.size = 0
  · obtain rfl : s = ⟨#[]⟩ := by
      obtain ⟨⟨d⟩⟩ := s
      have : d = [] := List.eq_nil_of_length_eq_zero h0
      subst this
      rfl
    unfold addF
    rw [if_pos (by rw [strB_len]; exact h0)]
    go_enter Tryz.func61, Tryz.ntmps61
    go_wp2_with fail
    go_ret
    exact ⟨_, rfl, ⟨_, _, _, rfl⟩, h, Below.refl _ _⟩
  · unfold addF
    rw [if_neg (by rw [strB_len]; exact h0)]
    have hz := Cdr.str_some h0
    have hzz : (s.toList == []) = false := by simpa using hz
    obtain ⟨i0, hi0, hz0, hz1, hz2⟩ := info_parts infoF
    have hcv := run_bytes_of_string (P := Tryz.prog) w 9 48 5 s Tryz.underlying9 Tryz.underlying48 Tryz.underlying5
    have hc1 : s.size ≤ grownCap w s.size 0 5 := grownCap_ge _ _ _ _
    have hc2 : grownCap w s.size 0 5 ≤ maxLen := grownCap_le_maxLen _ _ _ _ (by unfold maxLen; omega)
    have HDW : Hid (Data (w.drew.alloc (.cells (bytesRow s (grownCap w s.size 0 5)) 5 ((bytesRow s (grownCap w s.size 0 5)).size, (bytesRow s (grownCap w s.size 0 5)).size + 1))) (.slice (some ⟨w.heap.size, 0, none⟩) s.size (grownCap w s.size 0 5)) (strB s)) := Data.str w.drew s _ _ hc1 hc2
    have HOW : Hid (OwnF base (w.drew.alloc (.cells (bytesRow s (grownCap w s.size 0 5)) 5 ((bytesRow s (grownCap w s.size 0 5)).size, (bytesRow s (grownCap w s.size 0 5)).size + 1))) (.slice A1 n1 c1) l) := OwnF.call h ((Below.refl _ w).drew.alloc (Nat.le_refl _) _)
    have HBW : Hid (Below base w (w.drew.alloc (.cells (bytesRow s (grownCap w s.size 0 5)) 5 ((bytesRow s (grownCap w s.size 0 5)).size, (bytesRow s (grownCap w s.size 0 5)).size + 1)))) := (Below.refl _ w).drew.alloc hb _
    have HSW := Lib.hid (show base ≤ (w.drew.alloc (.cells (bytesRow s (grownCap w s.size 0 5)) 5 ((bytesRow s (grownCap w s.size 0 5)).size, (bytesRow s (grownCap w s.size 0 5)).size + 1))).heap.size by have : w.drew.heap.size = w.heap.size := rfl; simp; omega)
    generalize w.drew.alloc (.cells (bytesRow s (grownCap w s.size 0 5)) 5 ((bytesRow s (grownCap w s.size 0 5)).size, (bytesRow s (grownCap w s.size 0 5)).size + 1)) = W1 at *
    have HSL := Lib.hid (strB_len s)
    have hsl := strB_len s
    generalize hxs : strB s = xs at *
    rw [← hsl] at HDW hcv
    generalize grownCap w xs.length 0 5 = dc at *
    clear h hc1 hc2 hxs hsl
    obtain ⟨DA, hDA⟩ : ∃ DA, (some ⟨w.heap.size, 0, none⟩ : Option Addr) = DA := ⟨_, rfl⟩
    rw [hDA] at HDW hcv
    clear hDA
    go_enter Tryz.func61, Tryz.ntmps61
    have HO1 : Hid (OwnF base (W1.alloc (.cells #[i tag, .slice DA xs.length dc] 86)) (.slice A1 n1 c1) l) := OwnF.call HOW.out (below_new _ _)
    have HRR : Hid (FldR (W1.alloc (.cells #[i tag, .slice DA xs.length dc] 86)) (#[i tag, .slice DA xs.length dc] : Array Value).toList ⟨tag, xs⟩) := ⟨_, rfl, Data.call HDW.out (below_new _ _), _, _, _, rfl⟩
    have HROW := Lib.hid (OwnF.row HO1.out)
    have HBA : Hid (Below base w (W1.alloc (.cells #[i tag, .slice DA xs.length dc] 86))) := HBW.out.alloc HSW.out _
    have HSA : Hid (base ≤ (W1.alloc (.cells #[i tag, .slice DA xs.length dc] 86)).heap.size) := by show _ ≤ _; have := HSW.out; simp; omega
    go_wp2_with (at_builtin; refine wpList_grow rfl (.tmp 10) (.tmp 15) 74 rfl i0 _ 32 Tryz.underlying74 hi0 hz0 hz1 hz2 rfl (by omega) rfl HO1.out W1.heap.size ⟨tag, xs⟩ _ 86 rfl (Blk.new W1 _ _) rfl HRR.out (one_fld _ _ _ HRR.out) (by omega) (by omega) HSA.out ?_)
    rintro v' wz hown hgr hbel ⟨A9, n9, c9, rfl⟩
    have HOZ : Hid (OwnF base wz (.slice A9 n9 c9) (l ++ [⟨tag, xs⟩])) := Own.mono hown (FldR.keep hgr (fun k hk => by obtain ⟨cs, fz, hh⟩ := HROW.out k hk; exact ⟨cs, _, fz, hh, by decide⟩))
    have HBZ : Hid (Below base w wz) := HBA.out.trans hbel
    clear hown hgr hbel HO1 HRR HBA
    go_wp2_with fail
    go_ret
    exact ⟨_, rfl, ⟨_, _, _, rfl⟩, HOZ.out, HBZ.out⟩

set_option maxRecDepth 100000 in
set_option maxHeartbeats 1000000 in
theorem rnum (base : Nat) (v : Value) (l : List Fld) (tag n : Int) (w : World) (h : OwnF base w v l) (hb : base ≤ w.heap.size) (hl : l.length ≤ 1000) (hn : I64 n) :
    Calls Tryz.prog 62 #[v, i tag, i n] w (FPost base (if n = 0 then l else addF l tag (encI n)) w) := by
  obtain ⟨A1, n1, c1, rfl⟩ := OwnF.slice h
  by_cases h0 : n = 0
  · rw [if_pos h0]
    subst h0
    go_enter Tryz.func62, Tryz.ntmps62
    go_wp2_with fail
    go_ret
    exact ⟨_, rfl, ⟨_, _, _, rfl⟩, h, Below.refl _ _⟩
  · rw [if_neg h0]
    unfold addF
    rw [if_neg (by have := encI_ne n; intro e; exact this (List.eq_nil_of_length_eq_zero e))]
    have hz : (n == 0) = false := by simpa using h0
    obtain ⟨i0, hi0, hz0, hz1, hz2⟩ := info_parts infoF
    have HP := Lib.hid (rputInt n w hn)
    have HH := Lib.hid h
    clear h h0
    generalize encI n = xs at *
    go_enter Tryz.func62, Tryz.ntmps62
    go_wp2_with fail
    refine HP.out.mono ?_
    rintro e W1 ⟨u, rfl, hu, hbb⟩
    have HOW := Lib.hid (OwnF.call HH.out hbb)
    obtain ⟨DA, dc, rfl⟩ := OwnB.slice hu
    have HDW := Lib.hid (Data.of hu)
    have HBW : Hid (Below base w W1) := hbb.mono hb
    have HSW : Hid (base ≤ W1.heap.size) := Nat.le_trans hb hbb.size
    clear hu hbb HH
    have HO1 : Hid (OwnF base (W1.alloc (.cells #[i tag, .slice DA xs.length dc] 86)) (.slice A1 n1 c1) l) := OwnF.call HOW.out (below_new _ _)
    have HRR : Hid (FldR (W1.alloc (.cells #[i tag, .slice DA xs.length dc] 86)) (#[i tag, .slice DA xs.length dc] : Array Value).toList ⟨tag, xs⟩) := ⟨_, rfl, Data.call HDW.out (below_new _ _), _, _, _, rfl⟩
    have HROW := Lib.hid (OwnF.row HO1.out)
    have HBA : Hid (Below base w (W1.alloc (.cells #[i tag, .slice DA xs.length dc] 86))) := HBW.out.alloc HSW.out _
    have HSA : Hid (base ≤ (W1.alloc (.cells #[i tag, .slice DA xs.length dc] 86)).heap.size) := by show _ ≤ _; have := HSW.out; simp; omega
    go_wp2_with (at_builtin; refine wpList_grow rfl (.tmp 10) (.tmp 15) 74 rfl i0 _ 32 Tryz.underlying74 hi0 hz0 hz1 hz2 rfl (by omega) rfl HO1.out W1.heap.size ⟨tag, xs⟩ _ 86 rfl (Blk.new W1 _ _) rfl HRR.out (one_fld _ _ _ HRR.out) (by omega) (by omega) HSA.out ?_)
    rintro v' wz hown hgr hbel ⟨A9, n9, c9, rfl⟩
    have HOZ : Hid (OwnF base wz (.slice A9 n9 c9) (l ++ [⟨tag, xs⟩])) := Own.mono hown (FldR.keep hgr (fun k hk => by obtain ⟨cs, fz, hh⟩ := HROW.out k hk; exact ⟨cs, _, fz, hh, by decide⟩))
    have HBZ : Hid (Below base w wz) := HBA.out.trans hbel
    clear hown hgr hbel HO1 HRR HBA
    go_wp2_with fail
    go_ret
    exact ⟨_, rfl, ⟨_, _, _, rfl⟩, HOZ.out, HBZ.out⟩

set_option maxRecDepth 100000 in
set_option maxHeartbeats 1000000 in
theorem rflag (base : Nat) (v : Value) (l : List Fld) (tag : Int) (c : Bool) (w : World) (h : OwnF base w v l) (hb : base ≤ w.heap.size) (hl : l.length ≤ 1000) :
    Calls Tryz.prog 66 #[v, i tag, .bool c] w (FPost base (if c = true then (if (1 : Int) = 0 then l else addF l tag (encI 1)) else l) w) := by
  obtain ⟨A1, n1, c1, rfl⟩ := OwnF.slice h
  cases c with
  | false =>
    rw [if_neg (by decide)]
    go_enter Tryz.func66, Tryz.ntmps66
    go_wp2_with fail
    go_ret
    exact ⟨_, rfl, ⟨_, _, _, rfl⟩, h, Below.refl _ _⟩
  | true =>
    rw [if_pos rfl]
    have HN := Lib.hid (rnum base _ l tag 1 w h hb hl (by unfold I64; omega))
    clear h
    unfold FPost at HN
    generalize (if (1 : Int) = 0 then l else addF l tag (encI 1)) = L at *
    go_enter Tryz.func66, Tryz.ntmps66
    go_wp2_with fail
    refine HN.out.mono ?_
    rintro e w1 ⟨u, rfl, ⟨A, n, c, rfl⟩, ho, hbb⟩
    go_wp2_with fail
    go_ret
    exact ⟨_, rfl, ⟨_, _, _, rfl⟩, ho, hbb⟩

set_option maxRecDepth 100000 in
set_option maxHeartbeats 1000000 in
theorem rlist (base : Nat) (v : Value) (l : List Fld) (tag : Int) (u : Value) (ds : List (List Int)) (w : World) (h : OwnF base w v l) (hb : base ≤ w.heap.size) (hl : l.length ≤ 1000) (hd : DatsAt w u ds) (hdl : ds.length ≤ 256) (hdd : ∀ d ∈ ds, d.length ≤ 1000 ∧ d ≠ []) :
    Calls Tryz.prog 63 #[v, i tag, u] w (FPost base (if ds.length = 0 then l else addF l tag (putL ds)) w) := by
  obtain ⟨A1, n1, c1, rfl⟩ := OwnF.slice h
  obtain ⟨A, c, rfl, h1, h2⟩ := SliceAt.form hd
  by_cases h0 : ds.length = 0
  · rw [if_pos h0]
    have hz : ((ds.length : Int) == 0) = true := by simp [h0]
    have hds : ds = [] := List.eq_nil_of_length_eq_zero h0
    subst hds
    go_enter Tryz.func63, Tryz.ntmps63
    go_wp2_with fail
    go_ret
    exact ⟨_, rfl, ⟨_, _, _, rfl⟩, h, Below.refl _ _⟩
  · rw [if_neg h0]
    have hp : putL ds ≠ [] := by
      unfold putL
      intro e
      exact encI_ne _ (List.append_eq_nil_iff.1 e).1
    unfold addF
    rw [if_neg (fun e => hp (List.eq_nil_of_length_eq_zero e))]
    have hz : ((ds.length : Int) == 0) = false := beq_eq_false_iff_ne.2 (by omega)
    have hzn : ¬ ds = [] := fun e => h0 (by rw [e]; rfl)
    obtain ⟨i0, hi0, hz0, hz1, hz2⟩ := info_parts infoF
    have HP := Lib.hid (rputList _ ds w hd hdl hdd)
    have HH := Lib.hid h
    have HZN := Lib.hid hzn
    clear h h0 hd hdd hp
    generalize putL ds = xs at *
    go_enter Tryz.func63, Tryz.ntmps63
    go_wp2_with fail
    refine HP.out.mono ?_
    rintro e W1 ⟨u, rfl, hu, hbb⟩
    have HOW := Lib.hid (OwnF.call HH.out hbb)
    obtain ⟨DA, dc, rfl⟩ := OwnB.slice hu
    have HDW := Lib.hid (Data.of hu)
    have HBW : Hid (Below base w W1) := hbb.mono hb
    have HSW : Hid (base ≤ W1.heap.size) := Nat.le_trans hb hbb.size
    clear hu hbb HH
    have HO1 : Hid (OwnF base (W1.alloc (.cells #[i tag, .slice DA xs.length dc] 86)) (.slice A1 n1 c1) l) := OwnF.call HOW.out (below_new _ _)
    have HRR : Hid (FldR (W1.alloc (.cells #[i tag, .slice DA xs.length dc] 86)) (#[i tag, .slice DA xs.length dc] : Array Value).toList ⟨tag, xs⟩) := ⟨_, rfl, Data.call HDW.out (below_new _ _), _, _, _, rfl⟩
    have HROW := Lib.hid (OwnF.row HO1.out)
    have HBA : Hid (Below base w (W1.alloc (.cells #[i tag, .slice DA xs.length dc] 86))) := HBW.out.alloc HSW.out _
    have HSA : Hid (base ≤ (W1.alloc (.cells #[i tag, .slice DA xs.length dc] 86)).heap.size) := by show _ ≤ _; have := HSW.out; simp; omega
    go_wp2_with (at_builtin; refine wpList_grow rfl (.tmp 18) (.tmp 22) 74 rfl i0 _ 32 Tryz.underlying74 hi0 hz0 hz1 hz2 rfl (by omega) rfl HO1.out W1.heap.size ⟨tag, xs⟩ _ 86 rfl (Blk.new W1 _ _) rfl HRR.out (one_fld _ _ _ HRR.out) (by omega) (by omega) HSA.out ?_)
    rintro v' wz hown hgr hbel ⟨A9, n9, c9, rfl⟩
    have HOZ : Hid (OwnF base wz (.slice A9 n9 c9) (l ++ [⟨tag, xs⟩])) := Own.mono hown (FldR.keep hgr (fun k hk => by obtain ⟨cs, fz, hh⟩ := HROW.out k hk; exact ⟨cs, _, fz, hh, by decide⟩))
    have HBZ : Hid (Below base w wz) := HBA.out.trans hbel
    clear hown hgr hbel HO1 HRR HBA
    go_wp2_with fail
    go_ret
    exact ⟨_, rfl, ⟨_, _, _, rfl⟩, HOZ.out, HBZ.out⟩

set_option maxRecDepth 100000 in
set_option maxHeartbeats 1000000 in
theorem rints (v : Value) (xs : List Int) (w : World) (h : MonW.IntsAt w v xs) (hl : xs.length ≤ 256) :
    Calls Tryz.prog 64 #[v] w fun e w' => ∃ u, e = .returned u ∧ OwnD w.heap.size w' u (xs.map encI) ∧ Below w.heap.size w w' := by
  obtain ⟨A, c, rfl, h1, h2⟩ := SliceAt.form h
  unfold maxLen at h2
  obtain ⟨i0, hi0, hz0, hz1, hz2⟩ := info_parts infoD
  have HL := Lib.hid h
  clear h
  go_enter Tryz.func64, Tryz.ntmps64
  go_wp2_with fail
  go_loopg [3, 4] xs.length (fun gg s3 s4 wr => ∃ (kk : Nat) (A1 : Option Addr) (n1 c1 : Nat), kk ≤ xs.length ∧ xs.length - kk ≤ gg ∧ s3 = .slice A1 n1 c1 ∧ s4 = i kk ∧ Hid (OwnD w.heap.size wr (.slice A1 n1 c1) ((xs.take kk).map encI)) ∧ Hid (Below w.heap.size w wr))
  case atStart => exact ⟨0, _, _, _, Nat.zero_le _, by omega, rfl, rfl, Own.nil, Below.refl _ _⟩
  case round =>
    obtain ⟨kk, A2, n2, c2, hkk, hg, rfl, rfl, HO, BW⟩ := hrel
    by_cases hlt : kk < xs.length
    · have hltz : (kk : Int) < (xs.length : Int) := by omega
      obtain ⟨b, off, rfl, _, hx, hrow⟩ := MonW.IntsAt.at_ HL.out hlt
      have l0 := hrow wr (Kept.of BW.out)
      have HSU : Hid ((xs.take (kk + 1)).map encI = (xs.take kk).map encI ++ [encI xs[kk]]) := by
        show _ = _
        rw [List.take_succ_eq_append_getElem hlt, List.map_append]
        rfl
      have HLT : Hid (((xs.take kk).map encI).length ≤ 256) := by show _ ≤ _; rw [List.length_map, List.length_take]; omega
      have HP := Lib.hid (rputInt xs[kk] wr hx)
      clear hrow hx
      generalize xs[kk] = y at *
      generalize (xs.take kk).map encI = es at *
      go_wp2_with fail
      refine HP.out.mono ?_
      rintro e w3 ⟨u, rfl, hu, hb⟩
      obtain ⟨A4, n4, c4, rfl⟩ := OwnB.isSl hu
      have HD3 := Lib.hid (Data.of hu)
      have HO3 := Lib.hid (OwnD.call HO.out hb)
      have BW3 := Lib.hid (below_call BW.out hb)
      clear hu hb l0
      have HO4 := Lib.hid (OwnD.call HO3.out (below_new w3 (.cells #[.slice A4 n4 c4] 48)))
      have HR4 : Hid (DatR (w3.alloc (.cells #[.slice A4 n4 c4] 48)) (#[.slice A4 n4 c4] : Array Value).toList (encI y)) := ⟨_, rfl, Data.call HD3.out (below_new _ _)⟩
      have HROW := Lib.hid (OwnD.row HO4.out)
      have BW4 := Lib.hid (below_alloc BW3.out (.cells #[.slice A4 n4 c4] 48))
      have HLT2 := Lib.hid (show es.length ≤ 16777216 by have := HLT.out; omega)
      go_wp2_with (at_builtin; refine wpList_grow rfl (.tmp 11) (.tmp 17) 109 rfl i0 _ 24 Tryz.underlying109 hi0 hz0 hz1 hz2 rfl (by omega) rfl HO4.out w3.heap.size (encI y) _ 48 rfl (Blk.new w3 _ _) rfl HR4.out (one_dat _ _ _ HR4.out) HLT2.out (by omega) BW4.out.size ?_)
      rintro v' w5 hown hgr hbel ⟨A5, n5, c5, rfl⟩
      have HO5 : Hid (OwnD w.heap.size w5 (.slice A5 n5 c5) ((xs.take (kk + 1)).map encI)) := by
        show OwnD _ _ _ _
        rw [HSU.out]
        exact Own.mono hown (DatR.keep hgr (fun k hk => by obtain ⟨cs, fz, hh⟩ := HROW.out k hk; exact ⟨cs, _, fz, hh, by decide⟩))
      have BW5 := Lib.hid (BW4.out.trans hbel)
      clear hown hgr hbel HO4 HR4 BW4 HO3 BW3
      go_wp2_with fail
      go_roundg (xs.length - (kk + 1))
      case measure => omega
      case rel => exact ⟨kk + 1, _, _, _, by omega, by omega, rfl, by go_num, HO5, BW5⟩
    · have hltz : ¬ (kk : Int) < (xs.length : Int) := by omega
      have hke : kk = xs.length := by omega
      subst hke
      rw [List.take_length] at HO
      go_wp2_with fail
      go_ret
      exact ⟨_, rfl, HO.out, BW.out⟩
end EncW
end Go.Proofs.YtpmcdjpfolgpiaaGreatDoor
