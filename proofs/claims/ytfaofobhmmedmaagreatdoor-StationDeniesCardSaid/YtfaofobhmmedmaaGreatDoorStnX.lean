/-
  connector.Valid, validConn and Valid, on a fresh station of one connector.
-/
import Derived.Test.YtfaofobhmmedmaaGreatDoorStnV
namespace Go.Proofs.YtfaofobhmmedmaaGreatDoor
namespace Stn
set_option linter.unusedSimpArgs false
set_option linter.unusedVariables false
open Go.RowKit Go.Great

set_option maxRecDepth 100000 in
set_option maxHeartbeats 1000000 in
theorem connValid1 (w : World) : Calls Tryz.prog 173 #[.agg #[i 1, .bool false, .bool false, .bool false, i 0]] w fun e w' => e = .returned (i 0) ∧ Below w.heap.size w w' := by
  have HB := Lib.hid (below_new w (.cells #[i 1, .bool false, .bool false, .bool false, i 0] 80))
  have HK := Lib.hid (Blk.new w 80 #[i 1, .bool false, .bool false, .bool false, i 0])
  have HS := Lib.hid session1
  have HE := Lib.hid base1
  go_enter Tryz.func173, Tryz.ntmps173
  go_upto_region 1 with (fail)
  generalize w.alloc (.cells #[i 1, .bool false, .bool false, .bool false, i 0] 80) = w0 at *
  have kc := HK.out.cell
  have kf := HK.out.frozen
  go_wp2_with fail
  refine (HS.out _).mono ?_
  rintro e w1 ⟨rfl, hb⟩
  have HB1 := Lib.hid (below_call HB.out hb)
  have HK1 := Lib.hid (HK.out.call hb)
  clear kc kf hb HB HK HS
  have kc := HK1.out.cell
  have kf := HK1.out.frozen
  go_upto_region 7 with (fail)
  go_region_with (go_at_call 177; go_loud (refine (HE.out _).mono ?_; rintro e w5 ⟨rfl, hb1⟩; have hb : Below w1.heap.size w1 w5 := ⟨hb1.os, hb1.tape, hb1.output, hb1.size, hb1.block⟩; clear hb1; have kc5 := (HK1.out.call hb).cell; have HB5 := Lib.hid (below_call HB1.out hb); clear hb))
  all_goals
    go_wp2_with fail
    go_ret
    exact ⟨rfl, by repeat (first | (with_reducible exact Below.refl _ _) | (with_reducible refine below_drewN' ?_ _) | (with_reducible refine Below.drew ?_) | (with_reducible refine Below.setCell ?_ (by first | (simp; done) | (simp; omega) | omega) _) | (with_reducible refine below_alloc ?_ _) | (with_reducible refine Below.alloc ?_ (by first | (simp; done) | (simp; omega) | omega) _) | (with_reducible exact HB5.out) | (with_reducible refine below_call ?_ HB5.out))⟩
theorem Blk.new' {w : World} {g : Nat} (h : g = w.heap.size) (t : TypeId) (cs : Array Value) : Blk (w.alloc (.cells cs t)) g t cs := by
  subst h
  exact Blk.new w t cs
def PairC (w : World) (s5 s6 : Value) (wc : World) : Prop := ∃ g1 g2, s5 = .pointer (some ⟨g1, 0, none⟩) ∧ s6 = .pointer (some ⟨g2, 0, none⟩) ∧ Blk wc g1 80 (cnA ⟨1, false, false, false, 0⟩) ∧ Blk wc g2 54 #[.string ⟨#[]⟩, i 0, .string ⟨#[]⟩, .string ⟨#[]⟩, i 0, i 0, .bool false, i 0, i 0] ∧ Below w.heap.size w wc

set_option maxRecDepth 100000 in
set_option maxHeartbeats 4000000 in
theorem validConn1 (l : Sl) (w : World) (h : StAt w s1 l) : Calls Tryz.prog 154 #[.agg (stA s1 l), i 1] w fun e w' => e = .returned (.bool true) ∧ Below w.heap.size w w' := by
  obtain ⟨AC, cC, AM, cM, AT, cT, AP, cP, ALT, cLT, ACA, cCA, ARE, cRE, AIT, cIT, AQ, cQ, AO, cO, AS, cS, AOV, cOV, ALM, cLM, ASH, cSH, rfl⟩ := forms h
  obtain ⟨bC, oC, rfl, rC⟩ := CnsAt.at_ (j := 0) h.C (by decide)
  obtain ⟨bM, oM, rfl, rM⟩ := MtsAt.at_ (j := 0) h.M (by decide)
  obtain ⟨bT, oT, rfl, rT⟩ := TxsAt.at_ (j := 0) h.T (by decide)
  obtain ⟨bL, oL, rfl, rL⟩ := IntsAt.at_ (j := 0) h.LM (by decide)
  obtain ⟨bS, oS, rfl, rS⟩ := IntsAt.at_ (j := 0) h.SH (by decide)
  clear h
  simp [zTx] at rC rM rT rL rS
  have HB := Lib.hid (below_new w (.cells (stA s1 ⟨.slice (some ⟨bC, oC, none⟩) 1 cC, .slice (some ⟨bM, oM, none⟩) 1 cM, .slice (some ⟨bT, oT, none⟩) 1 cT, .slice AP 0 cP, .slice ALT 0 cLT, .slice ACA 0 cCA, .slice ARE 0 cRE, .slice AIT 0 cIT, .slice AQ 0 cQ, .slice AO 0 cO, .slice AS 0 cS, .slice AOV 1 cOV, .slice (some ⟨bL, oL, none⟩) 1 cLM, .slice (some ⟨bS, oS, none⟩) 1 cSH⟩) 43))
  have HK := Lib.hid (Blk.new w 43 (stA s1 ⟨.slice (some ⟨bC, oC, none⟩) 1 cC, .slice (some ⟨bM, oM, none⟩) 1 cM, .slice (some ⟨bT, oT, none⟩) 1 cT, .slice AP 0 cP, .slice ALT 0 cLT, .slice ACA 0 cCA, .slice ARE 0 cRE, .slice AIT 0 cIT, .slice AQ 0 cQ, .slice AO 0 cO, .slice AS 0 cS, .slice AOV 1 cOV, .slice (some ⟨bL, oL, none⟩) 1 cLM, .slice (some ⟨bS, oS, none⟩) 1 cSH⟩))
  have RC : Hid (∀ W, Below w.heap.size w W → _) := fun W hb => rC W (Kept.of hb)
  have RM : Hid (∀ W, Below w.heap.size w W → _) := fun W hb => rM W (Kept.of hb)
  have RT : Hid (∀ W, Below w.heap.size w W → _) := fun W hb => rT W (Kept.of hb)
  have RL : Hid (∀ W, Below w.heap.size w W → _) := fun W hb => rL W (Kept.of hb)
  have RS : Hid (∀ W, Below w.heap.size w W → _) := fun W hb => rS W (Kept.of hb)
  clear rC rM rT rL rS
  have HV := Lib.hid connValid1
  have HM := Lib.hid (meterValid ⟨0, 100000, 0, 0⟩)
  have HN : Hid (∀ W, (binOp .neq 54 (.agg #[.string ⟨#[]⟩, i 0, .string ⟨#[]⟩, .string ⟨#[]⟩, i 0, i 0, .bool false, i 0, i 0]) (.agg #[.string ⟨#[]⟩, i 0, .string ⟨#[]⟩, .string ⟨#[]⟩, i 0, i 0, .bool false, i 0, i 0])).run Tryz.prog W = .ok (.bool false) W) := neqTx zTx
  go_enter Tryz.func154, Tryz.ntmps154
  go_upto_region 1 with (fail)
  generalize w.alloc (.cells _ 43) = w0 at *
  have kp : Hid (∀ W, Below w0.heap.size w0 W → W.cell? ⟨w.heap.size, 6, none⟩ = some (.slice (some ⟨bC, oC, none⟩) 1 cC) ∧ W.cell? ⟨w.heap.size, 7, none⟩ = some (.slice (some ⟨bM, oM, none⟩) 1 cM) ∧ W.cell? ⟨w.heap.size, 8, none⟩ = some (.slice (some ⟨bT, oT, none⟩) 1 cT) ∧ W.cell? ⟨w.heap.size, 13, none⟩ = some (.slice ARE 0 cRE) ∧ W.cell? ⟨w.heap.size, 34, none⟩ = some (.slice (some ⟨bL, oL, none⟩) 1 cLM) ∧ W.cell? ⟨w.heap.size, 35, none⟩ = some (.slice (some ⟨bS, oS, none⟩) 1 cSH)) := fun W hb => ⟨(HK.out.call hb).cell 6, (HK.out.call hb).cell 7, (HK.out.call hb).cell 8, (HK.out.call hb).cell 13, (HK.out.call hb).cell 34, (HK.out.call hb).cell 35⟩
  go_cut [5, 6] (fun s5 s6 wc => Hid (PairC w0 s5 s6 wc))
  case first =>
    have hw1 := fun ob => below_alloc (Below.refl w0.heap.size w0) ob
    have hw2 := fun ob ob2 => below_alloc (below_alloc (Below.refl w0.heap.size w0) ob) ob2
    have xa := RC.out w0 HB.out
    have xb := fun ob => RC.out _ (below_call HB.out (hw1 ob))
    have xc := fun ob ob2 => RC.out _ (below_call HB.out (hw2 ob ob2))
    have ya := RT.out w0 HB.out
    have yb := fun ob => RT.out _ (below_call HB.out (hw1 ob))
    have yc := fun ob ob2 => RT.out _ (below_call HB.out (hw2 ob ob2))
    have za := kp.out w0 (Below.refl _ _)
    have zb := fun ob => kp.out _ (hw1 ob)
    have zc := fun ob ob2 => kp.out _ (hw2 ob ob2)
    clear hw1 hw2
    go_region
    all_goals go_wp2_with fail
    all_goals go_meet
    all_goals first
      | exact ⟨_, _, rfl, rfl, Blk.drew ((Blk.new' (by first | rfl | (simp; done)) _ _).alloc _), Blk.drew (Blk.new' (by first | rfl | (simp; done)) _ _), Below.drew (below_alloc (below_alloc (Below.refl _ _) _) _)⟩
      | exact ⟨_, _, rfl, rfl, Blk.drew (Blk.new' (by first | rfl | (simp; done)) _ _), Blk.drew ((Blk.new' (by first | rfl | (simp; done)) _ _).alloc _), Below.drew (below_alloc (below_alloc (Below.refl _ _) _) _)⟩
  case rest =>
    obtain ⟨g1, g2, rfl, rfl, hk1, hk2, hb⟩ := hcut.out
    clear hcut
    have HB0 := Lib.hid hb
    obtain ⟨q6, q7, q8, q13, q34, q35⟩ := kp.out _ hb
    have kx := hk1.cell
    have fx := hk1.frozen
    have H1 := Lib.hid hk1
    have H2 := Lib.hid hk2
    clear hb hk1 hk2
    go_wp2_with fail
    refine (HV.out _).mono ?_
    rintro e w2 ⟨rfl, hb⟩
    have K1 := Lib.hid (H1.out.call hb)
    have K2 := Lib.hid (H2.out.call hb)
    have HB2 := Lib.hid (below_call HB0.out hb)
    clear kx fx H1 H2 HV HB0 q6 q7 q8 q13 q34 q35 hb
    obtain ⟨q6, q7, q8, q13, q34, q35⟩ := kp.out _ HB2.out
    obtain ⟨m0, m1, m2, m3⟩ := RM.out _ (below_call HB.out HB2.out)
    go_wp2_with fail
    refine (HM.out _).mono ?_
    rintro e w3 ⟨he, hb⟩
    obtain rfl := he.trans (show _ = Ending.returned (i 0) from rfl)
    have K3 := Lib.hid (K1.out.call hb)
    have K4 := Lib.hid (K2.out.call hb)
    have HB3 := Lib.hid (below_call HB2.out hb)
    clear K1 K2 HB2 q6 q7 q8 q13 q34 q35 m0 m1 m2 m3 hb HM
    obtain ⟨q6, q7, q8, q13, q34, q35⟩ := kp.out _ HB3.out
    have l0 := RL.out _ (below_call HB.out HB3.out)
    have s0 := RS.out _ (below_call HB.out HB3.out)
    have kx := K3.out.cell
    have fx := K3.out.frozen
    have ky := K4.out.cell
    have fy := K4.out.frozen
    have hn := HN.out
    go_wp2_with fail
    go_loopg [10, 90] 0 (fun gg s10 s90 wr => s10 = .bool false ∧ s90 = i 0 ∧ wr = w3)
    case atStart => exact ⟨rfl, rfl, rfl⟩
    case round =>
      obtain ⟨rfl, rfl, rfl⟩ := hrel
      go_wp2_with fail
      go_ret
      exact ⟨rfl, by have := below_call HB.out HB3.out; repeat (first | (with_reducible exact Below.refl _ _) | (with_reducible refine below_drewN' ?_ _) | (with_reducible refine Below.drew ?_) | (with_reducible refine Below.setCell ?_ (by first | (simp; done) | (simp; omega) | omega) _) | (with_reducible refine below_alloc ?_ _) | (with_reducible refine Below.alloc ?_ (by first | (simp; done) | (simp; omega) | omega) _) | (with_reducible exact this) | (with_reducible refine below_call ?_ this))⟩
theorem wpList_load_rowW {P : Program} {ops : Array Oper} {rest : List Oper} {o : Oper} {a : Act} {w : World} {Q : Exit → Act → World → Prop} (hw : Region.wanted o (yielded ops a.tmps) = true) (ty : TypeId) (x : Operand) (ho : o.op = .load ty x)
    (g : Nat) (hx : a.eval x = .pointer (some ⟨g, 0, none⟩)) (t : TypeId) (cs : Array Value) (fr : Nat × Nat) (d : TypeDesc) (hg : w.heap[g]? = some (.cells cs t fr))
    (hu : P.underlying ty = some d) (hd : (match d with | .struct _ | .array _ _ => true | _ => false) = true) (hi : (P.info? ty).map (·.size) = some cs.size)
    (h : wpList P ops Q rest (a.put o.dst (.agg cs)) w) : wpList P ops Q (o :: rest) a w :=
  BigFrame.wpList_want hw fun _ hK => wp_load_row ty x ho g hx t cs fr d hg hu hd hi (hK _ _ h)

set_option maxRecDepth 100000 in
set_option maxHeartbeats 4000000 in
theorem valid1 (l : Sl) (w : World) (h : StAt w s1 l) : Calls Tryz.prog 63 #[.agg (stA s1 l)] w fun e w' => e = .returned (i 0) ∧ Below w.heap.size w w' := by
  obtain ⟨AC, cC, AM, cM, AT, cT, AP, cP, ALT, cLT, ACA, cCA, ARE, cRE, AIT, cIT, AQ, cQ, AO, cO, AS, cS, AOV, cOV, ALM, cLM, ASH, cSH, rfl⟩ := forms h
  have HB0 := below_new w (.cells (stA s1 ⟨.slice AC 1 cC, .slice AM 1 cM, .slice AT 1 cT, .slice AP 0 cP, .slice ALT 0 cLT, .slice ACA 0 cCA, .slice ARE 0 cRE, .slice AIT 0 cIT, .slice AQ 0 cQ, .slice AO 0 cO, .slice AS 0 cS, .slice AOV 1 cOV, .slice ALM 1 cLM, .slice ASH 1 cSH⟩) 43)
  have HB := Lib.hid HB0
  have HK := Lib.hid (Blk.new w 43 (stA s1 ⟨.slice AC 1 cC, .slice AM 1 cM, .slice AT 1 cT, .slice AP 0 cP, .slice ALT 0 cLT, .slice ACA 0 cCA, .slice ARE 0 cRE, .slice AIT 0 cIT, .slice AQ 0 cQ, .slice AO 0 cO, .slice AS 0 cS, .slice AOV 1 cOV, .slice ALM 1 cLM, .slice ASH 1 cSH⟩))
  have C1 : Hid (∀ W, _) := fun W => validName ⟨#[83]⟩ W (by unfold maxLen; decide) (b := true) (by decide)
  have C2 := Lib.hid vtime
  have C3 : Hid (∀ W, Below w.heap.size w W → _) := fun W hb => shaped1 _ W (h.call hb)
  have C4 := Lib.hid (listValid1 ALT cLT)
  have C5 := Lib.hid (outValid1 AIT cIT)
  have C6 := Lib.hid (callValid1 AQ AO AS cQ cO cS)
  have C7 := Lib.hid fwValid1
  have C8 : Hid (∀ W, Below w.heap.size w W → _) := fun W hb => safeValid1 AOV cOV W (h.OV.call hb)
  have C9 : Hid (∀ W, Below w.heap.size w W → _) := fun W hb => validLists1 _ W (h.call hb)
  have CA : Hid (∀ W, Below w.heap.size w W → _) := fun W hb => validConn1 _ W (h.call hb)
  clear h HB0
  go_enter Tryz.func63, Tryz.ntmps63
  go_upto_region 1 with (fail)
  generalize w.alloc (.cells _ 43) = w0 at *
  have kc := HK.out.cell
  go_wp2_with fail
  refine (C1.out _).mono ?_
  rintro e w1 ⟨rfl, hb⟩
  have HB1 := Lib.hid (below_call HB.out hb)
  have HK1 := Lib.hid (HK.out.call hb)
  clear kc hb
  have kc := HK1.out.cell
  go_wp2_with fail
  refine (C2.out _).mono ?_
  rintro e w2 ⟨rfl, hb⟩
  have HB2 := Lib.hid (below_call HB1.out hb)
  have HK2 := Lib.hid (HK1.out.call hb)
  clear kc hb
  have kc := HK2.out.cell
  go_wp2_with fail
  refine (C2.out _).mono ?_
  rintro e w3 ⟨rfl, hb⟩
  have HB3 := Lib.hid (below_call HB2.out hb)
  have HK3 := Lib.hid (HK2.out.call hb)
  clear kc hb
  have kc := HK3.out.cell
  go_wp2_with fail
  refine (C2.out _).mono ?_
  rintro e w4 ⟨rfl, hb⟩
  have HB4 := Lib.hid (below_call HB3.out hb)
  have HK4 := Lib.hid (HK3.out.call hb)
  clear kc hb
  have kc := HK4.out.cell
  go_wp2_with (refine wpList_load_rowW rfl 43 (.tmp 1) rfl w.heap.size rfl 43 (stA s1 ⟨.slice AC 1 cC, .slice AM 1 cM, .slice AT 1 cT, .slice AP 0 cP, .slice ALT 0 cLT, .slice ACA 0 cCA, .slice ARE 0 cRE, .slice AIT 0 cIT, .slice AQ 0 cQ, .slice AO 0 cO, .slice AS 0 cS, .slice AOV 1 cOV, .slice ALM 1 cLM, .slice ASH 1 cSH⟩) (0, 0) _ HK4.out Tryz.underlying43 rfl (by kernel_rfl) ?_)
  refine (C3.out _ HB4.out).mono ?_
  rintro e w5 ⟨rfl, hb⟩
  have HB5 := Lib.hid (below_call HB4.out hb)
  have HK5 := Lib.hid (HK4.out.call hb)
  clear kc hb
  have kc := HK5.out.cell
  go_wp2_with fail
  refine (C4.out _).mono ?_
  rintro e w6 ⟨rfl, hb⟩
  have HB6 := Lib.hid (below_call HB5.out hb)
  have HK6 := Lib.hid (HK5.out.call hb)
  clear kc hb
  have kc := HK6.out.cell
  go_wp2_with fail
  refine (C5.out _).mono ?_
  rintro e w7 ⟨rfl, hb⟩
  have HB7 := Lib.hid (below_call HB6.out hb)
  have HK7 := Lib.hid (HK6.out.call hb)
  clear kc hb
  have kc := HK7.out.cell
  go_wp2_with fail
  refine (C6.out _).mono ?_
  rintro e w8 ⟨rfl, hb⟩
  have HB8 := Lib.hid (below_call HB7.out hb)
  have HK8 := Lib.hid (HK7.out.call hb)
  clear kc hb
  have kc := HK8.out.cell
  go_wp2_with fail
  refine (C7.out _).mono ?_
  rintro e w9 ⟨rfl, hb⟩
  have HB9 := Lib.hid (below_call HB8.out hb)
  have HK9 := Lib.hid (HK8.out.call hb)
  clear kc hb
  have kc := HK9.out.cell
  go_wp2_with fail
  refine (C8.out _ HB9.out).mono ?_
  rintro e w10 ⟨rfl, hb⟩
  have HB10 := Lib.hid (below_call HB9.out hb)
  have HK10 := Lib.hid (HK9.out.call hb)
  clear kc hb
  have kc := HK10.out.cell
  go_wp2_with (refine wpList_load_rowW rfl 43 (.tmp 1) rfl w.heap.size rfl 43 (stA s1 ⟨.slice AC 1 cC, .slice AM 1 cM, .slice AT 1 cT, .slice AP 0 cP, .slice ALT 0 cLT, .slice ACA 0 cCA, .slice ARE 0 cRE, .slice AIT 0 cIT, .slice AQ 0 cQ, .slice AO 0 cO, .slice AS 0 cS, .slice AOV 1 cOV, .slice ALM 1 cLM, .slice ASH 1 cSH⟩) (0, 0) _ HK10.out Tryz.underlying43 rfl (by kernel_rfl) ?_)
  refine (C9.out _ HB10.out).mono ?_
  rintro e w11 ⟨rfl, hb⟩
  have HB11 := Lib.hid (below_call HB10.out hb)
  have HK11 := Lib.hid (HK10.out.call hb)
  clear kc hb
  have kc := HK11.out.cell
  go_wp2_with fail
  clear kc
  go_loopg [4] 1 (fun gg s4 wr => ∃ kk : Nat, kk ≤ 1 ∧ 1 - kk ≤ gg ∧ s4 = i (1 + kk) ∧ Hid (Blk wr w.heap.size 43 (stA s1 ⟨.slice AC 1 cC, .slice AM 1 cM, .slice AT 1 cT, .slice AP 0 cP, .slice ALT 0 cLT, .slice ACA 0 cCA, .slice ARE 0 cRE, .slice AIT 0 cIT, .slice AQ 0 cQ, .slice AO 0 cO, .slice AS 0 cS, .slice AOV 1 cOV, .slice ALM 1 cLM, .slice ASH 1 cSH⟩)) ∧ Hid (Below w.heap.size w wr))
  case atStart => exact ⟨0, by omega, by omega, rfl, HK11, HB11⟩
  case round =>
    obtain ⟨kk, hkk, hg, rfl, HK12, HB12⟩ := hrel
    rcases (show kk = 0 ∨ kk = 1 by omega) with rfl | rfl
    · have kc := HK12.out.cell
      go_wp2_with (refine wpList_load_rowW rfl 43 (.tmp 1) rfl w.heap.size rfl 43 (stA s1 ⟨.slice AC 1 cC, .slice AM 1 cM, .slice AT 1 cT, .slice AP 0 cP, .slice ALT 0 cLT, .slice ACA 0 cCA, .slice ARE 0 cRE, .slice AIT 0 cIT, .slice AQ 0 cQ, .slice AO 0 cO, .slice AS 0 cS, .slice AOV 1 cOV, .slice ALM 1 cLM, .slice ASH 1 cSH⟩) (0, 0) _ HK12.out Tryz.underlying43 rfl (by kernel_rfl) ?_)
      refine (CA.out _ HB12.out).mono ?_
      rintro e w13 ⟨rfl, hb⟩
      have HB13 := Lib.hid (below_call HB12.out hb)
      have HK13 := Lib.hid (HK12.out.call hb)
      clear kc hb
      go_wp2_with fail
      go_roundg 0
      case measure => omega
      case rel => exact ⟨1, by omega, by omega, by rfl, HK13, HB13⟩
    · go_wp2_with fail
      go_ret
      exact ⟨rfl, HB12.out⟩
end Stn
end Go.Proofs.YtfaofobhmmedmaaGreatDoor
