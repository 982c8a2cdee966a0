/-
  The walk of the statement CdrCancels.
-/
import Derived.Test.YtpmcdjpfolgpiaaGreatDoorCdrU
import Derived.Test.YtpmcdjpfolgpiaaGreatDoorLawB
import Derived.Test.YtpmcdjpfolgpiaaGreatDoorCdrK
import Derived.Test.YtpmcdjpfolgpiaaGreatDoorCdrO
import Derived.Deep.DeepCutAuto
import Derived.Great.BuildSlice
import Derived.BigRegion
namespace Go.Proofs.YtpmcdjpfolgpiaaGreatDoor
namespace Ex
set_option linter.unusedSimpArgs false
set_option linter.unusedVariables false
open Go.RowKit Go.Great TarW Usg UsgW Prc PriW Cdr MonW CdrW EncW

/-- What the law needs to know of the record that is made, and of its credit. -/
structure CanF (D : CDR) : Prop where
  ok : D.ok
  e : cdrE D = 0
theorem canF {id0 op pr : ByteArray} {r : Rec} {t : Trf} {z : Int} {s : Bool} {m : Int} {D : CDR} (hc : CaseOk id0 op pr r t m) (h : makeR id0 op pr r t z s m = (D, 0)) : CanF D := by
  have h0 : (makeR id0 op pr r t z s m).2 = 0 := by rw [h]
  have hD : D = mkCdr id0 op pr r t (billR r t z s m) := by
    have := made_is (made h0)
    rw [h] at this
    exact congrArg Prod.fst this
  refine ⟨?_, ?_⟩
  · rw [hD]
    exact ⟨hc.h1, hc.h2, hc.h3, hc.ho.s2, hc.hid, hc.hcur, by show 0 ≤ maxLen; omega, by show I64 1; unfold I64; omega, hc.hs1, hc.hs2, hc.hs3, bill_I64 r t z s m⟩
  · have := make_ok h0
    rw [h] at this
    exact this
structure CanG (D D2 : CDR) : Prop where
  ok : D2.ok
  e : cdrE D2 = 0
  l : D2.items.length = D.items.length
  t : IntKind.i64.wrap (D.total + D2.total) = 0
  cr : D2.credit = true
  rf : D2.ref = D.id
  o : ∀ q (h : q < D.items.length) (h2 : q < D2.items.length), Opp D.items[q] D2.items[q]
theorem canG {D D2 : CDR} {id : ByteArray} (hz : id.size ≤ maxLen) (hD : CanF D) (h : creditR D id = (D2, 0)) : CanG D D2 := by
  obtain ⟨g1, g2, g3, g4, g5⟩ := credited (c := D) (id := id) (by rw [h])
  have e : D2 = crd D id := by rw [h] at g5; exact congrArg Prod.fst g5
  have hi := itemsE_ok (cdrE_ok g1).it
  have ht := crd_total hi id
  subst e
  have hk := hD.ok
  refine ⟨⟨hz, hk.s2, hk.s3, hk.s4, hk.s5, hk.s6, hk.s1, hk.n1, hk.n2, hk.n3, hk.n4, ?_⟩, crd_ok g1 g3 g4, ?_, ?_, rfl, rfl, fun q h1 h2 => ?_⟩
  · rw [ht.1]; unfold I64; omega
  · show (D.items.map ngi).length = _
    rw [List.length_map]
  · rw [ht.1, show D.total + -D.total = 0 by omega]
    rfl
  · have h3 : q < (D.items.map ngi).length := h2
    show Opp D.items[q] ((D.items.map ngi)[q]'h3)
    rw [List.getElem_map]
    exact opp (hi.a q h1)
theorem opp_sum {a b : Int} (h : b = -a) : IntKind.i64.wrap (a + b) = 0 := by
  rw [h, show a + -a = 0 by omega]
  rfl
theorem step_kk (kk n k2 : Nat) (h : kk < n) (h2 : n ≤ k2) (h3 : k2 ≤ maxLen) : Value.int IntKind.i64 (wrap64 ((kk : Int) + 1)) = i ((kk + 1 : Nat) : Int) := by
  unfold maxLen at h3
  have : wrap64 ((kk : Int) + 1) = ((kk + 1 : Nat) : Int) := by unfold wrap64; omega
  rw [this]
/-- The two items, in boxes. -/
def PairR (w : World) (x y : Itm) (s13 s14 : Value) (wc : World) : Prop := ∃ g1 g2, s13 = .pointer (some ⟨g1, 0, none⟩) ∧ s14 = .pointer (some ⟨g2, 0, none⟩) ∧ Blk wc g1 52 (itmA x) ∧ Blk wc g2 52 (itmA y) ∧ Below w.heap.size w wc
def OthPost (g : Nat) (cs : Array Value) (w wc : World) : Prop := Blk wc g 40 cs ∧ Below w.heap.size w wc

set_option maxRecDepth 100000 in
set_option maxHeartbeats 4000000 in
theorem law_cancels (id0 op pr : ByteArray) (r : Rec) (A : Option Addr) (n k : Nat) (t : Trf) (A' : Option Addr) (n' k' : Nat) (z : Int) (s : Bool) (m : Int) (id : ByteArray) (w : World) (ht : CalW.Tab w) (hR : RdgsAt w (.slice A n k) r.rds) (hE : ElemsAt w (.slice A' n' k') t.els) (hc : CaseOk id0 op pr r t m) (hz : id.size ≤ maxLen) :
    Calls Tryz.prog 7 #[.agg (caseA id0 op pr r (.slice A n k) t (.slice A' n' k') z s m), .string id] w (LawPost w) := by
  have hB := below_new w (.cells (caseA id0 op pr r (.slice A n k) t (.slice A' n' k') z s m) 40)
  have HS := Lib.hid (small id0 op pr r A n k t A' n' k' z s m _ (hR.call hB) (hE.call hB))
  obtain ⟨D, E, hD⟩ : ∃ D E, makeR id0 op pr r t z s m = (D, E) := ⟨_, _, rfl⟩
  have HM : Hid (∀ W, Below w.heap.size w W → Calls Tryz.prog 13 #[.agg (caseA id0 op pr r (.slice A n k) t (.slice A' n' k') z s m)] W (MakePost (D, E) W)) := fun W hb => by
    have := make46 id0 op pr r A n k t A' n' k' z s m W (ht.below hb ht.lt) (by have := hb.size; have := ht.lt; omega) (hR.call hb) (hE.call hb) hc.h1 hc.h2 hc.h3 hc.ho hc.hid hc.hcur hc.hm hc.hl hc.hmo hc.hs1 hc.hs2 hc.hs3
    rw [hD] at this
    exact this
  have HM2 : Hid (E = 0 → ∀ W, Below w.heap.size w W → Calls Tryz.prog 13 #[.agg (caseA id0 op pr (othR r) (.slice A n k) t (.slice A' n' k') z s m)] W (MakePost (D, 0) W)) := fun he W hb => by
    have h0 : (makeR id0 op pr r t z s m).2 = 0 := by rw [hD]; exact he
    have := make46 id0 op pr (othR r) A n k t A' n' k' z s m W (ht.below hb ht.lt) (by have := hb.size; have := ht.lt; omega) (hR.call hb) (hE.call hb) hc.h1 hc.h2 hc.h3 ⟨by show (⟨#[111, 116, 104, 101, 114]⟩ : ByteArray).size ≤ maxLen; unfold maxLen; decide, hc.ho.s2, by show (⟨#[84]⟩ : ByteArray).size ≤ maxLen; unfold maxLen; decide⟩ hc.hid hc.hcur hc.hm hc.hl hc.hmo hc.hs1 hc.hs2 hc.hs3
    rw [make_oth h0, hD, he] at this
    exact this
  have HCF := Lib.hid (fun (he : E = 0) => canF hc (he ▸ hD))
  have HSZ := Lib.hid hz
  have HCR : Hid (E = 0 → ∀ W A n k, ItmsAt W (.slice A n k) D.items → Calls Tryz.prog 16 #[.agg (cdrA D (.slice A n k)), .string id] W (MakePost (creditR D id) W)) := fun he W A n k h => credit D id A n k W (canF hc (he ▸ hD)).ok h hz
  have HEX := Lib.hid (fun W (hb : Below w.heap.size w W) => example_holds W (ht.below hb ht.lt))
  have HB := Lib.hid hB
  have HK := Lib.hid (Blk.new w 40 (caseA id0 op pr r (.slice A n k) t (.slice A' n' k') z s m))
  clear hB ht hR hE hc hD
  unfold maxLen at hz
  go_enter Tryz.func7, Tryz.ntmps7
  go_upto_region 1 with (fail)
  generalize w.alloc (.cells (caseA id0 op pr r (.slice A n k) t (.slice A' n' k') z s m) 40) = w0 at *
  refine wp_region_lit ?_
  refine wpList_load_row rfl 40 (.tmp 2) rfl w.heap.size rfl 40 (caseA id0 op pr r (.slice A n k) t (.slice A' n' k') z s m) (0, 0) _ HK.out Tryz.underlying40 rfl (by kernel_rfl) ?_
  go_wp2_with fail
  refine HS.out.mono ?_
  rintro e w1 ⟨b, rfl, hb⟩
  have HB1 := Lib.hid (below_call HB.out hb)
  have HK1 := Lib.hid (HK.out.call hb)
  clear hb HK HB HS
  cases b
  case false =>
    go_wp2_with fail
    refine (HEX.out _ HB1.out).mono ?_
    rintro e w2 ⟨rfl, hb2⟩
    go_wp2_with fail
    go_ret
    exact ⟨rfl, below_call HB1.out hb2⟩
  by_cases hl : 200 < id.size
  · have hlz : (200 : Int) < (id.size : Int) := by omega
    go_wp2_with fail
    refine (HEX.out _ HB1.out).mono ?_
    rintro e w2 ⟨rfl, hb2⟩
    go_wp2_with fail
    go_ret
    exact ⟨rfl, below_call HB1.out hb2⟩
  have hlz : ¬ (200 : Int) < (id.size : Int) := by omega
  go_upto_region 3 with (fail)
  refine wp_region_lit ?_
  refine wpList_load_row rfl 40 (.tmp 2) rfl w.heap.size rfl 40 (caseA id0 op pr r (.slice A n k) t (.slice A' n' k') z s m) (0, 0) _ HK1.out Tryz.underlying40 rfl (by kernel_rfl) ?_
  go_wp2_with fail
  refine (HM.out _ HB1.out).mono ?_
  rintro e w2 ⟨u, rfl, hI, hb⟩
  obtain ⟨A2, k2, rfl, hka, hkb⟩ := SliceAt.form hI
  have HI2 : Hid (ItmsAt w2 (.slice A2 D.items.length k2) D.items) := hI
  have HB2 := Lib.hid (below_call HB1.out hb)
  have HK2 := Lib.hid (HK1.out.call hb)
  clear hI hb HK1 HB1 HM
  go_upto_region 4 with (fail)
  have HB3 := Lib.hid (below_alloc HB2.out (.cells (cdrA D (.slice A2 D.items.length k2)) 24))
  have HK3 := Lib.hid (HK2.out.alloc (.cells (cdrA D (.slice A2 D.items.length k2)) 24))
  have HD3 := Lib.hid (Blk.new w2 24 (cdrA D (.slice A2 D.items.length k2)))
  have HI3 := Lib.hid (ItmsAt.call HI2.out (below_new w2 (.cells (cdrA D (.slice A2 D.items.length k2)) 24)))
  generalize w2.alloc (.cells (cdrA D (.slice A2 D.items.length k2)) 24) = w3 at *
  generalize w2.heap.size = gD at *
  clear HB2 HK2 HI2
  by_cases hE0 : E = 0
  case neg =>
    have hEz : (E != 0) = true := by simpa using hE0
    clear hE0
    go_wp2_with fail
    refine (HEX.out _ HB3.out).mono ?_
    rintro e w4 ⟨rfl, hb2⟩
    go_wp2_with fail
    go_ret
    exact ⟨rfl, below_call HB3.out hb2⟩
  replace HM2 := Lib.hid (HM2.out hE0)
  replace HCF := Lib.hid (HCF.out hE0)
  replace HCR := Lib.hid (HCR.out hE0)
  subst hE0
  go_upto_region 6 with (fail)
  have hbig : Hid (Below w.heap.size w (w3.alloc (.cells (caseA id0 op pr r (.slice A n k) t (.slice A' n' k') z s m) 40))) := below_alloc HB3.out _
  have HY := Lib.hid (Blk.new w3 40 (caseA id0 op pr r (.slice A n k) t (.slice A' n' k') z s m))
  have HK4 := Lib.hid (HK3.out.alloc (.cells (caseA id0 op pr r (.slice A n k) t (.slice A' n' k') z s m) 40))
  have HD4 := Lib.hid (HD3.out.alloc (.cells (caseA id0 op pr r (.slice A n k) t (.slice A' n' k') z s m) 40))
  have HI4 := Lib.hid (ItmsAt.call HI3.out (below_new w3 (.cells (caseA id0 op pr r (.slice A n k) t (.slice A' n' k') z s m) 40)))
  have HBY := Lib.hid (below_new w3 (.cells (caseA id0 op pr r (.slice A n k) t (.slice A' n' k') z s m) 40))
  generalize hw4 : w3.alloc (.cells (caseA id0 op pr r (.slice A n k) t (.slice A' n' k') z s m) 40) = w4 at *
  go_cut [7] (fun s7 wd => s7 = .pointer (some ⟨w3.heap.size, 0, none⟩) ∧ w4 = wd)
  case first =>
    refine wp_region_lit ?_
    refine wpList_load_row rfl 40 (.tmp 2) rfl w.heap.size rfl 40 (caseA id0 op pr r (.slice A n k) t (.slice A' n' k') z s m) (0, 0) _ HK3.out Tryz.underlying40 rfl (by kernel_rfl) ?_
    refine PriW.listRun (w' := w3.alloc (.cells zero25 40)) rfl (.pointer (some ⟨w3.heap.size, 0, none⟩)) (by kernel_rfl) ?_
    refine wpList_store_rowTo rfl 40 (.tmp 7) (.tmp 32) rfl rfl w3.heap.size (caseA id0 op pr r (.slice A n k) t (.slice A' n' k') z s m) (by kernel_rfl) (by kernel_rfl) 40 zero25 (heap_alloc_last _ _) (by kernel_rfl) (by kernel_rfl) (by kernel_rfl) ?_
    rw [World.setRow_alloc_new, hw4]
    go_wp2_with fail
    go_meet
    exact ⟨rfl, rfl⟩
  case rest =>
  obtain ⟨rfl, rfl⟩ := hcut
  clear hw4
  go_upto_region 7 with (fail)
  go_cut [] (fun wc => Hid (OthPost w3.heap.size (caseA id0 op pr (othR r) (.slice A n k) t (.slice A' n' k') z s m) w3 wc))
  case first =>
    have k12 : w4.cell? ⟨w.heap.size, 12, none⟩ = some (.bool r.off) := HK4.out.cell 12
    have ky := HY.out.cell
    have fy := HY.out.frozen
    have hYO : Hid (OthPost w3.heap.size (caseA id0 op pr (othR r) (.slice A n k) t (.slice A' n' k') z s m) w3 ((((w4.setCell ⟨w3.heap.size, 3, none⟩ (.string ⟨#[111, 116, 104, 101, 114]⟩)).setCell ⟨w3.heap.size, 6, none⟩ (.string ⟨#[84]⟩)).setCell ⟨w3.heap.size, 11, none⟩ (i 6)).setCell ⟨w3.heap.size, 12, none⟩ (.bool (!r.off)))) := by
      refine ⟨?_, ?_⟩
      · simpa [othR] using (((HY.out.set_ 3 (.string ⟨#[111, 116, 104, 101, 114]⟩)).set_ 6 (.string ⟨#[84]⟩)).set_ 11 (i 6)).set_ 12 (.bool (!r.off))
      · exact (((HBY.out.setCell (p := ⟨w3.heap.size, 3, none⟩) (Nat.le_refl _) _).setCell (p := ⟨w3.heap.size, 6, none⟩) (Nat.le_refl _) _).setCell (p := ⟨w3.heap.size, 11, none⟩) (Nat.le_refl _) _).setCell (p := ⟨w3.heap.size, 12, none⟩) (Nat.le_refl _) _
    go_region
    all_goals go_wp2_with fail
    all_goals go_meet
    all_goals exact ⟨Blk.drew hYO.out.1, Below.drew hYO.out.2⟩
  case rest =>
  have HYc := Lib.hid hcut.out.1
  have HBc := Lib.hid (below_call HB3.out hcut.out.2)
  have HDc := Lib.hid (HD3.out.call hcut.out.2)
  have HIc := Lib.hid (ItmsAt.call HI3.out hcut.out.2)
  clear hcut HY HK4 HD4 HI4 HBY hbig HD3 HI3 HB3 HK3
  generalize w3.heap.size = gY at *
  go_upto_region 8 with (fail)
  refine wp_region_lit ?_
  refine wpList_load_row rfl 40 (.tmp 7) rfl gY rfl 40 (caseA id0 op pr (othR r) (.slice A n k) t (.slice A' n' k') z s m) (0, 0) _ HYc.out Tryz.underlying40 rfl (by kernel_rfl) ?_
  go_wp2_with fail
  refine (HM2.out _ HBc.out).mono ?_
  rintro e w5 ⟨u, rfl, hI, hb⟩
  obtain ⟨A5, k5, rfl, _, _⟩ := SliceAt.form hI
  have HI5 : Hid (ItmsAt w5 (.slice A5 D.items.length k5) D.items) := hI
  have HB5 := Lib.hid (below_call HBc.out hb)
  have HD5 := Lib.hid (HDc.out.call hb)
  have HJ5 := Lib.hid (ItmsAt.call HIc.out hb)
  clear hI hb HYc HBc HDc HIc HM2
  go_upto_region 9 with (fail)
  have HB6 := Lib.hid (below_alloc HB5.out (.cells (cdrA D (.slice A5 D.items.length k5)) 24))
  have HD6 := Lib.hid (HD5.out.alloc (.cells (cdrA D (.slice A5 D.items.length k5)) 24))
  have HF6 := Lib.hid (Blk.new w5 24 (cdrA D (.slice A5 D.items.length k5)))
  have HI6 := Lib.hid (ItmsAt.call HI5.out (below_new w5 (.cells (cdrA D (.slice A5 D.items.length k5)) 24)))
  have HJ6 := Lib.hid (ItmsAt.call HJ5.out (below_new w5 (.cells (cdrA D (.slice A5 D.items.length k5)) 24)))
  generalize w5.alloc (.cells (cdrA D (.slice A5 D.items.length k5)) 24) = w6 at *
  have HSM := Lib.hid (same D (.slice A2 D.items.length k2) (.slice A5 D.items.length k5) w6 HJ6.out HI6.out)
  have kd := HD6.out.cell
  have kf := HF6.out.cell
  clear HB5 HD5 HI5 HJ5
  go_wp2_with fail
  refine HSM.out.mono ?_
  rintro e w7 ⟨rfl, hb⟩
  have HB7 := Lib.hid (below_call HB6.out hb)
  have HD7 := Lib.hid (HD6.out.call hb)
  have HJ7 := Lib.hid (ItmsAt.call HJ6.out hb)
  clear hb kd kf HB6 HD6 HF6 HI6 HJ6 HSM
  have HV7 := Lib.hid (valid D A2 D.items.length k2 w7 HCF.out.ok HJ7.out HCF.out.e)
  have kd := HD7.out.cell
  go_wp2_with fail
  refine HV7.out.mono ?_
  rintro e w8 ⟨rfl, hb⟩
  have HB8 := Lib.hid (below_call HB7.out hb)
  have HD8 := Lib.hid (HD7.out.call hb)
  have HJ8 := Lib.hid (ItmsAt.call HJ7.out hb)
  clear hb kd HB7 HD7 HJ7 HV7
  obtain ⟨D2, E2, hD2⟩ : ∃ D2 E2, creditR D id = (D2, E2) := ⟨_, _, rfl⟩
  have HC8 : Hid (Calls Tryz.prog 16 #[.agg (cdrA D (.slice A2 D.items.length k2)), .string id] w8 (MakePost (D2, E2) w8)) := by
    have := HCR.out w8 A2 _ k2 HJ8.out
    rw [hD2] at this
    exact this
  have HCG : Hid (E2 = 0 → CanG D D2) := fun h => canG HSZ.out HCF.out (h ▸ hD2)
  clear hD2 HCR
  have kd := HD8.out.cell
  go_wp2_with fail
  refine HC8.out.mono ?_
  rintro e w9 ⟨u, rfl, hI, hb⟩
  obtain ⟨A9, k9, rfl, _, _⟩ := SliceAt.form hI
  have HI9 : Hid (ItmsAt w9 (.slice A9 D2.items.length k9) D2.items) := hI
  have HB9 := Lib.hid (below_call HB8.out hb)
  have HD9 := Lib.hid (HD8.out.call hb)
  have HJ9 := Lib.hid (ItmsAt.call HJ8.out hb)
  clear hI hb kd HB8 HD8 HJ8 HC8
  go_upto_region 12 with (fail)
  have HB10 := Lib.hid (below_alloc HB9.out (.cells (cdrA D2 (.slice A9 D2.items.length k9)) 24))
  have HD10 := Lib.hid (HD9.out.alloc (.cells (cdrA D2 (.slice A9 D2.items.length k9)) 24))
  have HG10 := Lib.hid (Blk.new w9 24 (cdrA D2 (.slice A9 D2.items.length k9)))
  have HI10 := Lib.hid (ItmsAt.call HI9.out (below_new w9 (.cells (cdrA D2 (.slice A9 D2.items.length k9)) 24)))
  have HJ10 := Lib.hid (ItmsAt.call HJ9.out (below_new w9 (.cells (cdrA D2 (.slice A9 D2.items.length k9)) 24)))
  generalize w9.alloc (.cells (cdrA D2 (.slice A9 D2.items.length k9)) 24) = wA at *
  generalize w9.heap.size = gG at *
  clear HB9 HD9 HI9 HJ9
  by_cases hE2 : E2 = 0
  case neg =>
    have hEz : (E2 != 0) = true := by simpa using hE2
    clear hE2
    go_wp2_with fail
    refine (HEX.out _ HB10.out).mono ?_
    rintro e wB ⟨rfl, hb2⟩
    go_wp2_with fail
    go_ret
    exact ⟨rfl, below_call HB10.out hb2⟩
  replace HCG := Lib.hid (HCG.out hE2)
  subst hE2
  have HV10 := Lib.hid (valid D2 A9 D2.items.length k9 wA HCG.out.ok HI10.out HCG.out.e)
  have kg := HG10.out.cell
  go_wp2_with fail
  refine HV10.out.mono ?_
  rintro e wB ⟨rfl, hb⟩
  have HB11 := Lib.hid (below_call HB10.out hb)
  have HD11 := Lib.hid (HD10.out.call hb)
  have HG11 := Lib.hid (HG10.out.call hb)
  have HI11 := Lib.hid (ItmsAt.call HI10.out hb)
  have HJ11 := Lib.hid (ItmsAt.call HJ10.out hb)
  clear hb kg HB10 HD10 HG10 HI10 HJ10 HV10
  have hlz2 : ((D2.items.length : Int) != (D.items.length : Int)) = false := by rw [HCG.out.l]; simp
  have htz := HCG.out.t
  have d0 : wB.cell? ⟨gD, 0, none⟩ = some (.string D.id) := HD11.out.cell 0
  have d10 : wB.cell? ⟨gD, 10, none⟩ = some (.slice A2 D.items.length k2) := HD11.out.cell 10
  have d11 : wB.cell? ⟨gD, 11, none⟩ = some (i D.total) := HD11.out.cell 11
  have g10 : wB.cell? ⟨gG, 10, none⟩ = some (.slice A9 D2.items.length k9) := HG11.out.cell 10
  have g11 : wB.cell? ⟨gG, 11, none⟩ = some (i D2.total) := HG11.out.cell 11
  have g12 : wB.cell? ⟨gG, 12, none⟩ = some (.bool true) := by have := HG11.out.cell 12; rw [← HCG.out.cr]; exact this
  have g13 : wB.cell? ⟨gG, 13, none⟩ = some (.string D.id) := by have := HG11.out.cell 13; rw [← HCG.out.rf]; exact this
  have hsz : ((D.id.toList != D.id.toList) : Bool) = false := by simp
  go_upto_region 16 with (fail)
  clear d0 d11 g10 g11 g12 g13 hsz htz hlz2
  have HLL := Lib.hid HCG.out.l
  go_wp2_with fail
  clear d10
  go_loopg [107] D.items.length (fun gg s107 wr => ∃ kk : Nat, kk ≤ D.items.length ∧ D.items.length - kk ≤ gg ∧ s107 = i kk ∧ Hid (Below wB.heap.size wB wr))
  case atStart => exact ⟨0, Nat.zero_le _, by omega, rfl, Below.refl _ _⟩
  case round =>
    obtain ⟨kk, hkk, hg, rfl, BW⟩ := hrel
    by_cases hlt : kk < D.items.length
    case neg =>
      have hltz : ¬ (kk : Int) < (D.items.length : Int) := by omega
      have HBZ := Lib.hid (below_call HB11.out BW.out)
      go_wp2_with fail
      refine (HEX.out _ HBZ.out).mono ?_
      rintro e wZ ⟨rfl, hb2⟩
      go_wp2_with fail
      go_ret
      exact ⟨rfl, below_call HBZ.out hb2⟩
    have hltz : (kk : Int) < (D.items.length : Int) := by omega
    have hlt2 : kk < D2.items.length := by rw [HLL.out]; exact hlt
    have hltz2 : (kk : Int) < (D2.items.length : Int) := by omega
    have hk0 : (0 : Int) ≤ (kk : Int) := by omega
    have HO := Lib.hid (HCG.out.o kk hlt hlt2)
    obtain ⟨b1, o1, rfl, _, _, hr1⟩ := ItmsAt.at_ HJ11.out hlt
    obtain ⟨b2, o2, rfl, _, _, hr2⟩ := ItmsAt.at_ HI11.out hlt2
    have HR1 := Lib.hid (fun W (hb : Below wB.heap.size wB W) => hr1 W (Kept.of hb))
    have HR2 := Lib.hid (fun W (hb : Below wB.heap.size wB W) => hr2 W (Kept.of hb))
    have HDR := Lib.hid (fun W (hb : Below wB.heap.size wB W) => (HD11.out.call hb).cell 10)
    have HGR := Lib.hid (fun W (hb : Below wB.heap.size wB W) => (HG11.out.call hb).cell 10)
    clear hr1 hr2
    generalize D.items[kk] = x at *
    generalize D2.items[kk] = y at *
    go_upto_region 19 with (fail)
    go_cut [13, 14] (fun s13 s14 wc => Hid (PairR wr x y s13 s14 wc))
    case first =>
      have hw1 := fun ob => below_alloc BW.out ob
      have hw2 := fun ob ob2 => below_alloc (below_alloc BW.out ob) ob2
      obtain ⟨x0, x1, x2, x3, x4, x5, x6⟩ := HR1.out wr BW.out
      obtain ⟨y0, y1, y2, y3, y4, y5, y6⟩ := HR2.out wr BW.out
      have xa := fun ob => HR1.out (wr.alloc ob) (hw1 ob)
      have ya := fun ob => HR2.out (wr.alloc ob) (hw1 ob)
      have xb := fun ob ob2 => HR1.out ((wr.alloc ob).alloc ob2) (hw2 ob ob2)
      have yb := fun ob ob2 => HR2.out ((wr.alloc ob).alloc ob2) (hw2 ob ob2)
      have dr : wr.cell? ⟨gD, 10, none⟩ = some (.slice (some ⟨b1, o1, none⟩) D.items.length k2) := HDR.out wr BW.out
      have gr : wr.cell? ⟨gG, 10, none⟩ = some (.slice (some ⟨b2, o2, none⟩) D2.items.length k9) := HGR.out wr BW.out
      have da : ∀ ob, (wr.alloc ob).cell? ⟨gD, 10, none⟩ = some (.slice (some ⟨b1, o1, none⟩) D.items.length k2) := fun ob => HDR.out _ (hw1 ob)
      have ga : ∀ ob, (wr.alloc ob).cell? ⟨gG, 10, none⟩ = some (.slice (some ⟨b2, o2, none⟩) D2.items.length k9) := fun ob => HGR.out _ (hw1 ob)
      have db : ∀ ob ob2, ((wr.alloc ob).alloc ob2).cell? ⟨gD, 10, none⟩ = some (.slice (some ⟨b1, o1, none⟩) D.items.length k2) := fun ob ob2 => HDR.out _ (hw2 ob ob2)
      have gb : ∀ ob ob2, ((wr.alloc ob).alloc ob2).cell? ⟨gG, 10, none⟩ = some (.slice (some ⟨b2, o2, none⟩) D2.items.length k9) := fun ob ob2 => HGR.out _ (hw2 ob ob2)
      clear hw1 hw2
      go_region
      all_goals go_wp2_with fail
      all_goals go_meet
      all_goals first
        | exact ⟨_, _, rfl, rfl, Blk.drew ((Blk.new' (by first | rfl | (simp; done)) _ (itmA x)).alloc _), Blk.drew (Blk.new' (by first | rfl | (simp; done)) _ (itmA y)), Below.drew (below_alloc (below_alloc (Below.refl _ _) _) _)⟩
        | exact ⟨_, _, rfl, rfl, Blk.drew (Blk.new' (by first | rfl | (simp; done)) _ (itmA x)), Blk.drew ((Blk.new' (by first | rfl | (simp; done)) _ (itmA y)).alloc _), Below.drew (below_alloc (below_alloc (Below.refl _ _) _) _)⟩
    case rest =>
      obtain ⟨g1, g2, rfl, rfl, hk1, hk2, hb⟩ := hcut.out
      have HBW : Hid (Below wB.heap.size wB wc) := below_call BW.out hb
      have p0 : wc.cell? ⟨g1, 0, none⟩ = some (i x.kind) := hk1.cell 0
      have p3 : wc.cell? ⟨g1, 3, none⟩ = some (i x.qty) := hk1.cell 3
      have p4 : wc.cell? ⟨g1, 4, none⟩ = some (i x.net) := hk1.cell 4
      have p5 : wc.cell? ⟨g1, 5, none⟩ = some (i x.vat) := hk1.cell 5
      have p6 : wc.cell? ⟨g1, 6, none⟩ = some (i x.gross) := hk1.cell 6
      have q0 : wc.cell? ⟨g2, 0, none⟩ = some (i x.kind) := by have := hk2.cell 0; rw [← HO.out.kd]; exact this
      have q3 : wc.cell? ⟨g2, 3, none⟩ = some (i x.qty) := by have := hk2.cell 3; rw [← HO.out.qt]; exact this
      have q4 : wc.cell? ⟨g2, 4, none⟩ = some (i y.net) := hk2.cell 4
      have q5 : wc.cell? ⟨g2, 5, none⟩ = some (i y.vat) := hk2.cell 5
      have q6 : wc.cell? ⟨g2, 6, none⟩ = some (i y.gross) := hk2.cell 6
      have hn4 := opp_sum HO.out.nt
      have hn5 := opp_sum HO.out.vt
      have hn6 := opp_sum HO.out.gr
      have hn0 : (x.kind != x.kind) = false := by simp
      have hn3 : (x.qty != x.qty) = false := by simp
      clear hcut hb hk1 hk2
      go_wp2_with fail
      go_roundg (D.items.length - (kk + 1))
      case measure => omega
      case rel =>
        exact ⟨kk + 1, by omega, by omega, step_kk kk _ k2 hlt hka hkb, HBW.out⟩
end Ex
end Go.Proofs.YtpmcdjpfolgpiaaGreatDoor
