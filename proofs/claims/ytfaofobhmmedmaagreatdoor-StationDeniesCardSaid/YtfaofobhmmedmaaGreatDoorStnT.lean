/-
  station.Step on the example's station: a boot is sent.
-/
import Derived.Test.YtfaofobhmmedmaaGreatDoorStnE
namespace Go.Proofs.YtfaofobhmmedmaaGreatDoor
namespace Stn
set_option linter.unusedSimpArgs false
set_option linter.unusedVariables false
open Go.RowKit Go.Great

theorem StO.rowTy {base p : Nat} {W : World} {s : St} {l : Sl} {old : Array Value} (h : StO base W s l) (hk : Blk W p 110 old) (cs : Array Value) : StO base (W.setRow p cs) s l :=
  ⟨own_rowTy h.C hk (by decide) _, own_rowTy h.M hk (by decide) _, own_rowTy h.T hk (by decide) _, h.P, h.LT, h.CA, h.RE, h.IT, h.Q, h.O, h.S, own_rowTy h.OV hk (by decide) _, own_rowTy h.LM hk (by decide) _, own_rowTy h.SH hk (by decide) _⟩
theorem StO.min {base : Nat} {W : World} {n b m c : Int} {l : Sl} (h : StO base W (s1t n b) l) : StO base W (s1t m c) l :=
  ⟨h.C, h.M, h.T, h.P, h.LT, h.CA, h.RE, h.IT, h.Q, h.O, h.S, h.OV, h.LM, h.SH⟩
theorem nocalls1 (n b : Int) (bC cC bM cM bT cT bO cO bL cL bS cS : Nat) : NoCalls (s1t n b) (uSl bC cC bM cM bT cT bO cO bL cL bS cS) := ⟨rfl, rfl, rfl, rfl, rfl, rfl, rfl, rfl⟩

set_option maxRecDepth 100000 in
set_option maxHeartbeats 4000000 in
theorem step1 (l : Sl) (A : Option Addr) (c : Nat) (w : World) (h : StAt w s1 l) (he : IntsAt w (.slice A 1 c) [0]) :
    Calls Tryz.prog 17 #[.agg (stA s1 l), i 1, .slice A 1 c] w fun e w' => ∃ (s' : St) (l' : Sl) (u : SP), e = .returned (.tuple #[.agg (stA s' l'), slv u, i 0]) ∧ Own MsR 63 25 w.heap.size w' (slv u) [⟨1, 1, 1, 0, ⟨#[]⟩, ⟨#[83]⟩⟩] ∧ Below w.heap.size w w' ∧ (stA s' l').all (·.oneCell') = true := by
  have HV : Hid (∀ W, Below w.heap.size w W → _) := fun W hb => valid1 l W (h.call hb)
  have HVE : Hid (∀ W, Below w.heap.size w W → _) := fun W hb => validEnergy1 A c l W (h.call hb) (he.call hb)
  have HCL : Hid (∀ W, Below w.heap.size w W → _) := fun W hb => cloneSt s1 l W (h.call hb) ⟨by decide, by decide, by decide, by decide, by decide, by decide⟩
  have HE : Hid (∀ W, Below w.heap.size w W → IntsAt W (.slice A 1 c) [0]) := fun W hb => he.call hb
  clear h he
  have HS := Lib.hid ((Blk.new w 43 (stA s1 l)).alloc (.cells zA 43))
  have HR := Lib.hid (Blk.new (w.alloc (.cells (stA s1 l) 43)) 43 zA)
  have HB := Lib.hid (below_alloc (below_new w (.cells (stA s1 l) 43)) (.cells zA 43))
  have hs1 : (w.alloc (.cells (stA s1 l) 43)).heap.size = w.heap.size + 1 := by simp
  rw [hs1] at HR
  clear hs1
  go_enter Tryz.func17, Tryz.ntmps17
  go_upto_region 1 with (fail)
  generalize (w.alloc (.cells _ 43)).alloc (.cells _ 43) = w1 at *
  go_wp2_with (refine wpList_load_row rfl 43 (.tmp 3) rfl w.heap.size rfl 43 (stA s1 l) (0, 0) _ HS.out Tryz.underlying43 rfl (by kernel_rfl) ?_)
  refine (HV.out w1 HB.out).mono ?_
  rintro e w2 ⟨rfl, hb⟩
  have HSx := Lib.hid (HS.out.call hb)
  have HRx := Lib.hid (HR.out.call hb)
  have HBx := Lib.hid (below_call HB.out hb)
  clear hb HS HR HB
  have HS := HSx
  have HR := HRx
  have HB := HBx
  clear HSx HRx HBx
  have kc := HS.out.cell
  go_wp2_with (refine wpList_load_row rfl 43 (.tmp 3) rfl w.heap.size rfl 43 (stA s1 l) (0, 0) _ HS.out Tryz.underlying43 rfl (by kernel_rfl) ?_)
  refine (HVE.out w2 HB.out).mono ?_
  clear kc
  rintro e w3 ⟨rfl, hb⟩
  have HSx := Lib.hid (HS.out.call hb)
  have HRx := Lib.hid (HR.out.call hb)
  have HBx := Lib.hid (below_call HB.out hb)
  clear hb HS HR HB
  have HS := HSx
  have HR := HRx
  have HB := HBx
  clear HSx HRx HBx
  go_wp2_with (refine wpList_load_row rfl 43 (.tmp 3) rfl w.heap.size rfl 43 (stA s1 l) (0, 0) _ HS.out Tryz.underlying43 rfl (by kernel_rfl) ?_)
  refine (HCL.out w3 HB.out).mono ?_
  rintro e w4 ⟨l', rfl, ho, hb⟩
  have hu := UAt.mk (Blk.new w4 110 (stA s1 l')) ((StO.lower (ho.call (below_new w4 (.cells (stA s1 l') 110))) (Nat.zero_le _)) : StO 0 _ s1 l')
  obtain ⟨bC, cC, bM, cM, bT, cT, bO, cO, bL, cL, bS, cS, rfl, -⟩ := uopen (n := 0) (b := 0) hu
  have hb' := below_call hb (below_new w4 (.cells (stA s1 (uSl bC cC bM cM bT cT bO cO bL cL bS cS)) 110))
  have HU := Lib.hid hu
  have HRx := Lib.hid (HR.out.call hb')
  have HBx := Lib.hid (below_call HB.out hb')
  have hgr : Hid (w.heap.size + 1 < w4.heap.size) := (HR.out.call hb).lt
  clear hb hb' ho hu HR HB HS HV HVE HCL
  have HR := HRx
  have HB := HBx
  clear HRx HBx
  go_upto_region 9 with (refine wpList_buildTo rfl 110 _ rfl (some 35) rfl (stA s1 (uSl bC cC bM cM bT cT bO cO bL cL bS cS)) (by kernel_rfl) ?_)
  generalize w4.alloc (.cells (stA s1 (uSl bC cC bM cM bT cT bO cO bL cL bS cS)) 110) = w5 at *
  generalize w4.heap.size = g at *
  go_wp2_with fail
  refine (count1 g 0 0 (uSl bC cC bM cM bT cT bO cO bL cL bS cS) A c w5 HU.out (HE.out _ HB.out)).mono ?_
  rintro e w6 ⟨rfl, hb⟩
  have HUx := Lib.hid (HU.out.call hb)
  have HRx := Lib.hid (HR.out.call hb)
  have HBx := Lib.hid (below_call HB.out hb)
  clear hb HU HR HB
  have HU := HUx
  have HR := HRx
  have HB := HBx
  clear HUx HRx HBx
  have hg0 := hgr.out
  have HUx := Lib.hid (UAt.mk (row_blk (stA (s1t 1 0) (uSl bC cC bM cM bT cT bO cO bL cL bS cS)) HU.out.k) ((HU.out.a.rowTy HU.out.k (stA (s1t 1 0) (uSl bC cC bM cM bT cT bO cO bL cL bS cS))).min) : UAt _ g (s1t 1 0) (uSl bC cC bM cM bT cT bO cO bL cL bS cS))
  have HRx := Lib.hid (row_other (stA (s1t 1 0) (uSl bC cC bM cM bT cT bO cO bL cL bS cS)) HR.out (show w.heap.size + 1 ≠ g by omega))
  have HBx := Lib.hid (row_below (stA (s1t 1 0) (uSl bC cC bM cM bT cT bO cO bL cL bS cS)) HB.out (show w.heap.size ≤ g by omega))
  have e1 : Hid (w6.setCell ⟨g, 1, none⟩ (i 1) = w6.setRow g (stA (s1t 1 0) (uSl bC cC bM cM bT cT bO cO bL cL bS cS))) := stSet HU.out.k rfl
  have kc := HU.out.k.cell
  have kf := HU.out.k.frozen
  go_upto_region 11 with (fail)
  rw [show w6.setCell ⟨g, 1, none⟩ (i 1) = w6.setRow g (stA (s1t 1 0) (uSl bC cC bM cM bT cT bO cO bL cL bS cS)) from e1.out]
  clear kc kf e1 HU HR HB hg0
  have HU := HUx
  have HR := HRx
  have HB := HBx
  clear HUx HRx HBx
  generalize w6.setRow g (stA (s1t 1 0) (uSl bC cC bM cM bT cT bO cO bL cL bS cS)) = w7 at *
  go_wp2_with fail
  refine (watch1 g 1 0 (uSl bC cC bM cM bT cT bO cO bL cL bS cS) A c w7 HU.out (HE.out _ HB.out)).mono ?_
  rintro e w8 ⟨rfl, hb⟩
  have HUx := Lib.hid (HU.out.call hb)
  have HRx := Lib.hid (HR.out.call hb)
  have HBx := Lib.hid (below_call HB.out hb)
  clear hb HU HR HB
  have HU := HUx
  have HR := HRx
  have HB := HBx
  clear HUx HRx HBx
  go_wp2_with fail
  refine (expire1 g 1 0 (uSl bC cC bM cM bT cT bO cO bL cL bS cS) w8 HU.out).mono ?_
  rintro e w9 ⟨rfl, hb⟩
  have HUx := Lib.hid (HU.out.call hb)
  have HRx := Lib.hid (HR.out.call hb)
  have HBx := Lib.hid (below_call HB.out hb)
  clear hb HU HR HB
  have HU := HUx
  have HR := HRx
  have HB := HBx
  clear HUx HRx HBx
  go_wp2_with fail
  refine (update1 g 1 0 (uSl bC cC bM cM bT cT bO cO bL cL bS cS) w9 HU.out).mono ?_
  rintro e w10 ⟨rfl, hb⟩
  have HUx := Lib.hid (HU.out.call hb)
  have HRx := Lib.hid (HR.out.call hb)
  have HBx := Lib.hid (below_call HB.out hb)
  clear hb HU HR HB
  have HU := HUx
  have HR := HRx
  have HB := HBx
  clear HUx HRx HBx
  go_wp2_with fail
  refine (report1 g 1 0 (uSl bC cC bM cM bT cT bO cO bL cL bS cS) w10 HU.out).mono ?_
  rintro e w11 ⟨rfl, hb⟩
  have HUx := Lib.hid (HU.out.call hb)
  have HRx := Lib.hid (HR.out.call hb)
  have HBx := Lib.hid (below_call HB.out hb)
  clear hb HU HR HB
  have HU := HUx
  have HR := HRx
  have HB := HBx
  clear HUx HRx HBx
  go_wp2_with fail
  refine (limit1 g 1 0 (uSl bC cC bM cM bT cT bO cO bL cL bS cS) w11 HU.out).mono ?_
  rintro e w12 ⟨rfl, hb⟩
  have HUx := Lib.hid (HU.out.call hb)
  have HRx := Lib.hid (HR.out.call hb)
  have HBx := Lib.hid (below_call HB.out hb)
  clear hb HU HR HB
  have HU := HUx
  have HR := HRx
  have HB := HBx
  clear HUx HRx HBx
  have kc := HU.out.k.cell
  go_wp2_with fail
  clear kc
  refine (boot1 g (uSl bC cC bM cM bT cT bO cO bL cL bS cS) w12 HU.out.k (nocalls1 _ _ bC cC bM cM bT cT bO cO bL cL bS cS)).mono ?_
  rintro e w20 ⟨w13, q, o, t, rfl, hb, rfl, hq, ho, ht⟩
  have hk13 := HU.out.k.call hb
  have hg0 := hgr.out
  have hq' := own_rowTy hq hk13 (by decide) (stA { s1t 1 6 with nx := 2 } { (uSl bC cC bM cM bT cT bO cO bL cL bS cS) with Q := q, O := o, S := t })
  have HQ : Hid (MsAt _ q [⟨1, 1, 1, 0, ⟨#[]⟩, ⟨#[83]⟩⟩]) := Own.at_ hq' (by omega)
  have HO : Hid (MsAt (w13.setRow g (stA { s1t 1 6 with nx := 2 } { (uSl bC cC bM cM bT cT bO cO bL cL bS cS) with Q := q, O := o, S := t })) o []) := MsAt.any ho
  have HT : Hid (MsAt (w13.setRow g (stA { s1t 1 6 with nx := 2 } { (uSl bC cC bM cM bT cT bO cO bL cL bS cS) with Q := q, O := o, S := t })) t []) := MsAt.any ht
  have HUx := Lib.hid (row_blk (stA { s1t 1 6 with nx := 2 } { (uSl bC cC bM cM bT cT bO cO bL cL bS cS) with Q := q, O := o, S := t }) hk13)
  have HRx := Lib.hid (row_other (stA { s1t 1 6 with nx := 2 } { (uSl bC cC bM cM bT cT bO cO bL cL bS cS) with Q := q, O := o, S := t }) (HR.out.call hb) (show w.heap.size + 1 ≠ g by omega))
  have HBx := Lib.hid (row_below (stA { s1t 1 6 with nx := 2 } { (uSl bC cC bM cM bT cT bO cO bL cL bS cS) with Q := q, O := o, S := t }) (below_call HB.out hb) (show w.heap.size ≤ g by omega))
  clear hb hk13 hg0 hq' hq ho ht HU HR HB
  generalize w13.setRow g _ = w14 at *
  go_wp2_with fail
  refine (send1 g { (uSl bC cC bM cM bT cT bO cO bL cL bS cS) with Q := q, O := o, S := t } ⟨1, 1, 1, 0, ⟨#[]⟩, ⟨#[83]⟩⟩ w14 HUx.out HQ.out HO.out HT.out).mono ?_
  rintro e w21 ⟨w15, γ, rfl, hb, rfl, hu⟩
  have hk15 := HUx.out.call hb
  have hg0 := hgr.out
  have hu' := own_rowTy hu hk15 (by decide) (stA { s1t 1 6 with nx := 2, due := 4, tr := 1 } { (uSl bC cC bM cM bT cT bO cO bL cL bS cS) with Q := slv γ.1, O := slv γ.2.1, S := slv γ.2.2.1 })
  have HSN := Lib.hid (Own.lower hu' HBx.out.size)
  have HK := Lib.hid (row_blk (stA { s1t 1 6 with nx := 2, due := 4, tr := 1 } { (uSl bC cC bM cM bT cT bO cO bL cL bS cS) with Q := slv γ.1, O := slv γ.2.1, S := slv γ.2.2.1 }) hk15)
  have HRy := Lib.hid (row_other (stA { s1t 1 6 with nx := 2, due := 4, tr := 1 } { (uSl bC cC bM cM bT cT bO cO bL cL bS cS) with Q := slv γ.1, O := slv γ.2.1, S := slv γ.2.2.1 }) (HRx.out.call hb) (show w.heap.size + 1 ≠ g by omega))
  have HBy := Lib.hid (row_below (stA { s1t 1 6 with nx := 2, due := 4, tr := 1 } { (uSl bC cC bM cM bT cT bO cO bL cL bS cS) with Q := slv γ.1, O := slv γ.2.1, S := slv γ.2.2.1 }) (below_call HBx.out hb) (show w.heap.size ≤ g by omega))
  clear hb hk15 hg0 hu' hu HUx HRx HBx HQ HO HT
  generalize w15.setRow g _ = w16 at *
  go_wp2_with (first
    | (refine wpList_load_row rfl 43 (.tmp 69) rfl g rfl 110 (stA { s1t 1 6 with nx := 2, due := 4, tr := 1 } { (uSl bC cC bM cM bT cT bO cO bL cL bS cS) with Q := slv γ.1, O := slv γ.2.1, S := slv γ.2.2.1 }) (0, 0) _ HK.out Tryz.underlying43 rfl (by kernel_rfl) ?_)
    | (refine wpList_store_rowTo rfl 43 (.tmp 6) (.tmp 70) rfl rfl (w.heap.size + 1) (stA { s1t 1 6 with nx := 2, due := 4, tr := 1 } { (uSl bC cC bM cM bT cT bO cO bL cL bS cS) with Q := slv γ.1, O := slv γ.2.1, S := slv γ.2.2.1 }) (by kernel_rfl) (by kernel_rfl) 43 zA HRy.out (by kernel_rfl) (by kernel_rfl) (by kernel_rfl) ?_))
  refine bodyPost_ret (results_cell3 rfl _ _ (w.heap.size + 1) 43 (stA { s1t 1 6 with nx := 2, due := 4, tr := 1 } { (uSl bC cC bM cM bT cT bO cO bL cL bS cS) with Q := slv γ.1, O := slv γ.2.1, S := slv γ.2.2.1 }) (0, 0) _ rfl (row_blk _ HRy.out) Tryz.underlying43 rfl (by kernel_rfl)) rfl ?_
  exact ⟨_, _, _, rfl, own_rowTy HSN.out HRy.out (by decide) _, row_below _ HBy.out (by omega), by kernel_rfl⟩

end Stn
end Go.Proofs.YtfaofobhmmedmaaGreatDoor
