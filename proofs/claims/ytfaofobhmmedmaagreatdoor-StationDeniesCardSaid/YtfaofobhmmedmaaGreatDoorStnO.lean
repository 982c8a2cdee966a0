/-
  queue, pendingAction, setBeat and boot on a unit without calls.
-/
import Derived.Test.YtfaofobhmmedmaaGreatDoorStnB
namespace Go.Proofs.YtfaofobhmmedmaaGreatDoor
namespace Stn
set_option linter.unusedSimpArgs false
set_option linter.unusedVariables false
open Go.RowKit Go.Great

theorem own_rowTy {α : Type} {R : List Value → α → Prop} {e t : TypeId} {size base p : Nat} {W : World} {v : Value} {xs : List α} {old : Array Value} (h : Own R e size base W v xs) (hk : Blk W p t old) (hne : t ≠ e) (cs : Array Value) : Own R e size base (W.setRow p cs) v xs := by
  obtain ⟨rs, ⟨h1, h2⟩, h3⟩ := h
  refine ⟨rs, ⟨h1, ?_⟩, h3⟩
  rcases h2 with h0 | ⟨g', cap, cur, r1, r2, r3, r4⟩
  · exact .inl h0
  · refine .inr ⟨g', cap, cur, r1, r2, (setRow_other W p g' cs (fun e' => hne ?_)).trans r3, r4⟩
    subst e'
    unfold Blk at hk
    rw [hk] at r3
    injection r3 with r3
    injection r3
theorem exec_load_row {P : Program} {o : Oper} {a : Act} {w : World} (ty : TypeId) (x : Operand) (ho : o.op = .load ty x) (g : Nat) (hx : a.eval x = .pointer (some ⟨g, 0, none⟩)) (t : TypeId) (cs : Array Value) (d : TypeDesc) (hg : Blk w g t cs)
    (hu : P.underlying ty = some d) (hd : (match d with | .struct _ | .array _ _ => true | _ => false) = true) (hi : (P.info? ty).map (·.size) = some cs.size) : (execOp a.eval o).run P w = .ok (.value (.agg cs)) w := by
  unfold execOp
  simp only [ho, hx, Instr.loadAt, Instr.sureAddr, Sem.run_bind, Sem.run_pure, Result.andThen_ok, run_loadVar_row w g t ty cs (0, 0) d hg hu hd hi]
/-- A slice's three parts. -/
abbrev SP := Option Addr × Nat × Nat
abbrev slv (x : SP) : Value := .slice x.1 x.2.1 x.2.2
/-- What Call answers, and leaves. -/
def QPost (w : World) (x : Ms) (w' : World) (v : Value) (W : World) : Prop := ∃ γ : SP × SP × SP, v = .tuple #[.agg (enA 2 3 2 (slv γ.1) (slv γ.2.1) 0 0 (slv γ.2.2)), i 1, i 0] ∧ Own MsR 63 25 w.heap.size W (slv γ.1) [x] ∧ MsAt w (slv γ.2.1) [] ∧ MsAt w (slv γ.2.2) [] ∧ Below w'.heap.size w' W
/-- A unit without calls. -/
structure NoCalls (s : St) (l : Sl) : Prop where
  nx : s.nx = 1
  tmo : s.tmo = 3
  rt : s.rt = 2
  due : s.due = 0
  tr : s.tr = 0
  Q : l.Q = .slice none 0 0
  O : l.O = .slice none 0 0
  S : l.S = .slice none 0 0
theorem nocalls_eq {s : St} {l : Sl} (hn : NoCalls s l) : ({ s with nx := 2, tmo := 3, rt := 2, due := 0, tr := 0 } : St) = { s with nx := 2 } := by
  simp [hn.tmo, hn.rt, hn.due, hn.tr]
theorem put8s {w : World} {g : Nat} {T : TypeId} {s : St} {l : Sl} {x0 x1 x2 x5 x6 : Int} {v3 v4 v7 : Value} (h : Blk w g T (stA s l)) :
    ((((((((w.setCell ⟨g, 17, none⟩ (i x0)).setCell ⟨g, 18, none⟩ (i x1)).setCell ⟨g, 19, none⟩ (i x2)).setCell ⟨g, 20, none⟩ v3).setCell ⟨g, 21, none⟩ v4).setCell ⟨g, 22, none⟩ (i x5)).setCell ⟨g, 23, none⟩ (i x6)).setCell ⟨g, 24, none⟩ v7) = w.setRow g (stA { s with nx := x0, tmo := x1, rt := x2, due := x5, tr := x6 } { l with Q := v3, O := v4, S := v7 }) := by
  rw [stSet h (cs' := (stA { s with nx := x0 } l)) rfl, rowSetTo h (cs' := (stA { s with nx := x0, tmo := x1 } l)) rfl, rowSetTo h (cs' := (stA { s with nx := x0, tmo := x1, rt := x2 } l)) rfl, rowSetTo h (cs' := (stA { s with nx := x0, tmo := x1, rt := x2 } { l with Q := v3 })) rfl, rowSetTo h (cs' := (stA { s with nx := x0, tmo := x1, rt := x2 } { l with Q := v3, O := v4 })) rfl, rowSetTo h (cs' := (stA { s with nx := x0, tmo := x1, rt := x2, due := x5 } { l with Q := v3, O := v4 })) rfl, rowSetTo h (cs' := (stA { s with nx := x0, tmo := x1, rt := x2, due := x5, tr := x6 } { l with Q := v3, O := v4 })) rfl, rowSetTo h (cs' := (stA { s with nx := x0, tmo := x1, rt := x2, due := x5, tr := x6 } { l with Q := v3, O := v4, S := v7 })) rfl]

set_option maxRecDepth 100000 in
set_option maxHeartbeats 4000000 in
theorem queueL (ac cn : Int) (tok txt : ByteArray) (g : Nat) (s : St) (l : Sl) (w : World) (h : Blk w g 110 (stA s l)) (hn : NoCalls s l)
    (hv : ∀ W, Calls Tryz.prog 54 #[.agg (msA 1 1 ac cn tok txt)] W fun e w' => e = .returned (i 0) ∧ Below W.heap.size W w') :
    Calls Tryz.prog 95 #[.pointer (some ⟨g, 0, none⟩), .agg (msA 0 0 ac cn tok txt)] w fun e w' => ∃ w2 q o t, e = .returned (i 0) ∧ Below w.heap.size w w2 ∧ w' = w2.setRow g (stA { s with nx := 2 } { l with Q := q, O := o, S := t }) ∧ Own MsR 63 25 w.heap.size w2 q [⟨1, 1, ac, cn, tok, txt⟩] ∧ MsAt w o [] ∧ MsAt w t [] := by
  have he : MsAt w (.slice none 0 0) [] := SliceAt.nil
  have HC : Hid (∀ W, Calls Tryz.prog 181 #[.agg (enA 1 3 2 (.slice none 0 0) (.slice none 0 0) 0 0 (.slice none 0 0)), .agg (msA 0 0 ac cn tok txt)] W _) := fun W => callL ac cn tok txt none none none 0 0 0 W (MsAt.any he) (MsAt.any he) (MsAt.any he) hv
  clear hv he
  have HU0 := Lib.hid (h.alloc (.cells (msA 0 0 ac cn tok txt) 63))
  have HM0 := Lib.hid (Blk.new w 63 (msA 0 0 ac cn tok txt))
  have HB0 := Lib.hid (below_new w (.cells (msA 0 0 ac cn tok txt) 63))
  have hgl := Lib.hid h.lt
  have c17 : ∀ W, Below (w.alloc (.cells (msA 0 0 ac cn tok txt) 63)).heap.size (w.alloc (.cells (msA 0 0 ac cn tok txt) 63)) W → W.cell? ⟨g, 17, none⟩ = some (i 1) ∧ W.cell? ⟨g, 18, none⟩ = some (i 3) ∧ W.cell? ⟨g, 19, none⟩ = some (i 2) ∧ W.cell? ⟨g, 20, none⟩ = some (.slice none 0 0) ∧ W.cell? ⟨g, 21, none⟩ = some (.slice none 0 0) ∧ W.cell? ⟨g, 22, none⟩ = some (i 0) ∧ W.cell? ⟨g, 23, none⟩ = some (i 0) ∧ W.cell? ⟨g, 24, none⟩ = some (.slice none 0 0) := fun W hb => by
    have kc := (HU0.out.call hb).cell
    have e0 := hn.nx
    have e1 := hn.tmo
    have e2 := hn.rt
    have e3 := hn.Q
    have e4 := hn.O
    have e5 := hn.due
    have e6 := hn.tr
    have e7 := hn.S
    refine ⟨?_, ?_, ?_, ?_, ?_, ?_, ?_, ?_⟩
    · rw [kc 17, ← e0]; rfl
    · rw [kc 18, ← e1]; rfl
    · rw [kc 19, ← e2]; rfl
    · rw [kc 20, ← e3]; rfl
    · rw [kc 21, ← e4]; rfl
    · rw [kc 22, ← e5]; rfl
    · rw [kc 23, ← e6]; rfl
    · rw [kc 24, ← e7]; rfl
  have C17 := Lib.hid c17
  have HEQ := Lib.hid (nocalls_eq hn)
  clear c17 hn
  go_enter Tryz.func95, Tryz.ntmps95
  go_upto_region 1 with (fail)
  generalize w.alloc (.cells _ 63) = w0 at *
  go_cut [5, 7] (fun s5 s7 wd => Hid (∃ p q o t, s5 = .pointer (some ⟨p, 0, none⟩) ∧ s7 = i 0 ∧ Blk wd p 37 (enA 2 3 2 (slv q) (slv o) 0 0 (slv t)) ∧ Own MsR 63 25 w.heap.size wd (slv q) [⟨1, 1, ac, cn, tok, txt⟩] ∧ MsAt w (slv o) [] ∧ MsAt w (slv t) [] ∧ Below w.heap.size w wd ∧ w0.heap.size ≤ p ∧ Below w0.heap.size w0 wd))
  case first =>
    refine RegA.region (Γ := SP × SP × SP) 15 (fun γ k => match k with | 0 => some (.pointer (some ⟨g, 0, none⟩)) | 1 => some (.pointer (some ⟨g, 0, none⟩)) | 2 => some (.pointer (some ⟨g, 0, none⟩)) | 3 => some (.pointer (some ⟨g, 17, none⟩)) | 4 => some (.agg (enA 1 3 2 (.slice none 0 0) (.slice none 0 0) 0 0 (.slice none 0 0))) | 5 => some (.agg (msA 0 0 ac cn tok txt)) | 6 => some (.tuple #[.agg (enA 2 3 2 (slv γ.1) (slv γ.2.1) 0 0 (slv γ.2.2)), i 1, i 0]) | 7 => some (.tuple #[.agg (enA 2 3 2 (slv γ.1) (slv γ.2.1) 0 0 (slv γ.2.2)), i 1, i 0]) | 8 => some (.agg (enA 2 3 2 (slv γ.1) (slv γ.2.1) 0 0 (slv γ.2.2))) | 9 => some (i 1) | 10 => some (i 0) | 11 => none | 12 => none | 13 => some (i 1) | 14 => some (i 0) | _ => none) (fun γ W => Own MsR 63 25 w.heap.size W (slv γ.1) [⟨1, 1, ac, cn, tok, txt⟩] ∧ MsAt w (slv γ.2.1) [] ∧ MsAt w (slv γ.2.2) []) 37 (enA 0 0 0 (.slice none 0 0) (.slice none 0 0) 0 0 (.slice none 0 0)) (fun γ => (enA 2 3 2 (slv γ.1) (slv γ.2.1) 0 0 (slv γ.2.2))) 11 6 12 5 16 8 (by kernel_rfl) (by kernel_rfl) (Reg4.in_of (n := 27) (by kernel_rfl) rfl) (by decide) (fun _ => rfl) (fun _ => rfl) (fun _ => rfl) ?_ (fun _ _ _ h hb => ⟨h.1.call hb, h.2⟩) (fun _ _ _ _ h hk _ => ⟨own_rowTy h.1 hk (by decide) _, h.2⟩) rfl rfl ?_ (fun _ => by kernel_rfl) (fun _ => rfl) (fun _ => by kernel_rfl) ?_ ?_ ?_ ?_
    · intro γ k hk h1 h2
      have hk : k = 0 ∨ k = 1 ∨ k = 2 ∨ k = 3 ∨ k = 4 ∨ k = 5 ∨ k = 6 ∨ k = 7 ∨ k = 8 ∨ k = 9 ∨ k = 10 ∨ k = 11 ∨ k = 12 ∨ k = 13 ∨ k = 14 := by omega
      rcases hk with rfl | rfl | rfl | rfl | rfl | rfl | rfl | rfl | rfl | rfl | rfl | rfl | rfl | rfl | rfl
      all_goals first | exact ⟨_, rfl⟩ | exact absurd rfl h1 | exact absurd rfl h2
    · intro o ho
      obtain rfl := Option.some.inj ho
      exact ⟨rfl, by first | exact ⟨_, by simp, rfl, rfl⟩ | decide⟩
    · intro γ idx o x hj hne ho hx a' w' hG hop
      have hj' : idx = 0 ∨ idx = 1 ∨ idx = 2 ∨ idx = 3 ∨ idx = 4 ∨ idx = 5 ∨ idx = 6 ∨ idx = 7 ∨ idx = 8 ∨ idx = 9 ∨ idx = 10 ∨ idx = 11 ∨ idx = 12 ∨ idx = 13 ∨ idx = 14 := by omega
      clear hj
      rcases hj' with rfl | rfl | rfl | rfl | rfl | rfl | rfl | rfl | rfl | rfl | rfl | rfl | rfl | rfl | rfl
      · obtain rfl := Option.some.inj ho
        obtain rfl := Option.some.inj hx
        have h0 : a'.tmps[0]?.getD undef = _ := (Array.getD_eq_getD_getElem? ..).symm.trans (hop 0 (by simp [Op.operands, Call.operands]))
        go_simp
      · obtain rfl := Option.some.inj ho
        obtain rfl := Option.some.inj hx
        have h9 : a'.tmps[9]?.getD undef = .pointer (some ⟨g, 0, none⟩) := (Array.getD_eq_getD_getElem? ..).symm.trans (hop 9 (by simp [Op.operands, Call.operands]) _ rfl)
        go_simp
      · obtain rfl := Option.some.inj ho
        obtain rfl := Option.some.inj hx
        have h10 : a'.tmps[10]?.getD undef = .pointer (some ⟨g, 0, none⟩) := (Array.getD_eq_getD_getElem? ..).symm.trans (hop 10 (by simp [Op.operands, Call.operands]) _ rfl)
        go_simp
      · obtain rfl := Option.some.inj ho
        obtain rfl := Option.some.inj hx
        have h11 : a'.tmps[11]?.getD undef = .pointer (some ⟨g, 0, none⟩) := (Array.getD_eq_getD_getElem? ..).symm.trans (hop 11 (by simp [Op.operands, Call.operands]) _ rfl)
        go_simp
      · obtain rfl := Option.some.inj ho
        obtain rfl := Option.some.inj hx
        have h12 : a'.tmps[12]?.getD undef = .pointer (some ⟨g, 17, none⟩) := (Array.getD_eq_getD_getElem? ..).symm.trans (hop 12 (by simp [Op.operands, Call.operands]) _ rfl)
        obtain ⟨k17, k18, k19, k20, k21, k22, k23, k24⟩ := C17.out w' hG
        go_simp
      · obtain rfl := Option.some.inj ho
        obtain rfl := Option.some.inj hx
        have h3 : a'.tmps[3]?.getD undef = _ := (Array.getD_eq_getD_getElem? ..).symm.trans (hop 3 (by simp [Op.operands, Call.operands]))
        exact exec_load_row 63 (.tmp 3) rfl w.heap.size (hop 3 (by simp [Op.operands, Call.operands])) 63 (msA 0 0 ac cn tok txt) _ (HM0.out.call hG) Tryz.underlying63 rfl (by kernel_rfl)
      · exact absurd rfl hne
      · obtain rfl := Option.some.inj ho
        obtain rfl := Option.some.inj hx
        have h15 : a'.tmps[15]?.getD undef = .tuple #[.agg (enA 2 3 2 (slv γ.1) (slv γ.2.1) 0 0 (slv γ.2.2)), i 1, i 0] := (Array.getD_eq_getD_getElem? ..).symm.trans (hop 15 (by simp [Op.operands, Call.operands]) _ rfl)
        go_simp
      · obtain rfl := Option.some.inj ho
        obtain rfl := Option.some.inj hx
        have h8 : a'.tmps[8]?.getD undef = .tuple #[.agg (enA 2 3 2 (slv γ.1) (slv γ.2.1) 0 0 (slv γ.2.2)), i 1, i 0] := (Array.getD_eq_getD_getElem? ..).symm.trans (hop 8 (by simp [Op.operands, Call.operands]) _ rfl)
        go_simp
      · obtain rfl := Option.some.inj ho
        obtain rfl := Option.some.inj hx
        have h8 : a'.tmps[8]?.getD undef = .tuple #[.agg (enA 2 3 2 (slv γ.1) (slv γ.2.1) 0 0 (slv γ.2.2)), i 1, i 0] := (Array.getD_eq_getD_getElem? ..).symm.trans (hop 8 (by simp [Op.operands, Call.operands]) _ rfl)
        go_simp
      · obtain rfl := Option.some.inj ho
        obtain rfl := Option.some.inj hx
        have h8 : a'.tmps[8]?.getD undef = .tuple #[.agg (enA 2 3 2 (slv γ.1) (slv γ.2.1) 0 0 (slv γ.2.2)), i 1, i 0] := (Array.getD_eq_getD_getElem? ..).symm.trans (hop 8 (by simp [Op.operands, Call.operands]) _ rfl)
        go_simp
      · cases hx
      · cases hx
      · obtain rfl := Option.some.inj ho
        obtain rfl := Option.some.inj hx
        have h17 : a'.tmps[17]?.getD undef = i 1 := (Array.getD_eq_getD_getElem? ..).symm.trans (hop 17 (by simp [Op.operands, Call.operands]) _ rfl)
        go_simp
      · obtain rfl := Option.some.inj ho
        obtain rfl := Option.some.inj hx
        have h18 : a'.tmps[18]?.getD undef = i 0 := (Array.getD_eq_getD_getElem? ..).symm.trans (hop 18 (by simp [Op.operands, Call.operands]) _ rfl)
        go_simp
    · intro o ho a' w' hG hop
      obtain rfl := Option.some.inj ho
      have h13 : a'.tmps[13]?.getD undef = .agg (enA 1 3 2 (.slice none 0 0) (.slice none 0 0) 0 0 (.slice none 0 0)) := (Array.getD_eq_getD_getElem? ..).symm.trans (hop ((none, 0, 0), (none, 0, 0), (none, 0, 0)) 13 (by simp [Op.operands, Call.operands]) _ rfl)
      have h14 : a'.tmps[14]?.getD undef = .agg (msA 0 0 ac cn tok txt) := (Array.getD_eq_getD_getElem? ..).symm.trans (hop ((none, 0, 0), (none, 0, 0), (none, 0, 0)) 14 (by simp [Op.operands, Call.operands]) _ rfl)
      refine Reg4.StepOk.mono (R := fun v W => QPost w ⟨1, 1, ac, cn, tok, txt⟩ w' v W) ?_ (fun v W h => ?_)
      · go_simp
        refine (HC.out _).mono ?_
        rintro e w5 ⟨q, o, t, rfl, h1, h2, h3, hb⟩
        obtain ⟨A1, n1, c1, rfl⟩ := own_sl h1
        obtain ⟨A2, c2, rfl⟩ := h2.nil_form
        obtain ⟨A3, c3, rfl⟩ := h3.nil_form
        have hsz := hG.size
        have hs0 := HB0.out.size
        exact ⟨_, rfl, (show QPost _ _ _ _ _ from ⟨((A1, n1, c1), (A2, 0, c2), (A3, 0, c3)), rfl, h1.lower (by omega), MsAt.any h2, MsAt.any h3, hb⟩)⟩
      · obtain ⟨γ, e1, h1, h2, h3, hb⟩ := h
        subst e1
        exact ⟨γ, rfl, ⟨h1, h2, h3⟩, hb⟩
    · intro o ho a' w'
      obtain rfl := Option.some.inj ho
      first | kernel_rfl | rfl
    · intro γ vals p w' hG hF hK hp hv hpv
      have hv0 : vals 0 = .pointer (some ⟨g, 0, none⟩) := hv 0 _ (by omega) rfl
      have hv1 : vals 1 = .pointer (some ⟨g, 0, none⟩) := hv 1 _ (by omega) rfl
      have hv2 : vals 2 = .pointer (some ⟨g, 0, none⟩) := hv 2 _ (by omega) rfl
      have hv3 : vals 3 = .pointer (some ⟨g, 17, none⟩) := hv 3 _ (by omega) rfl
      have hv4 : vals 4 = .agg (enA 1 3 2 (.slice none 0 0) (.slice none 0 0) 0 0 (.slice none 0 0)) := hv 4 _ (by omega) rfl
      have hv5 : vals 5 = .agg (msA 0 0 ac cn tok txt) := hv 5 _ (by omega) rfl
      have hv6 : vals 6 = .tuple #[.agg (enA 2 3 2 (slv γ.1) (slv γ.2.1) 0 0 (slv γ.2.2)), i 1, i 0] := hv 6 _ (by omega) rfl
      have hv7 : vals 7 = .tuple #[.agg (enA 2 3 2 (slv γ.1) (slv γ.2.1) 0 0 (slv γ.2.2)), i 1, i 0] := hv 7 _ (by omega) rfl
      have hv8 : vals 8 = .agg (enA 2 3 2 (slv γ.1) (slv γ.2.1) 0 0 (slv γ.2.2)) := hv 8 _ (by omega) rfl
      have hv9 : vals 9 = i 1 := hv 9 _ (by omega) rfl
      have hv10 : vals 10 = i 0 := hv 10 _ (by omega) rfl
      have hv13 : vals 13 = i 1 := hv 13 _ (by omega) rfl
      have hv14 : vals 14 = i 0 := hv 14 _ (by omega) rfl
      simp only [Reg4.puts, Reg4.dstOf, List.range, List.range.loop, if_true, List.drop_succ_cons, List.drop_zero, hpv, hv0, hv1, hv2, hv3, hv4, hv5, hv6, hv7, hv8, hv9, hv10, hv13, hv14]
      clear hv hpv hv0 hv1 hv2 hv3 hv4 hv5 hv6 hv7 hv8 hv9 hv10 hv13 hv14
      generalize vals 12 = zst
      simp [Act.put]
      go_wp2_with fail
      go_meet
      exact ⟨p, γ.1, γ.2.1, γ.2.2, rfl, rfl, hK, hF.1, hF.2.1, hF.2.2, below_call HB0.out hG, hp, hG⟩
  case rest =>
  obtain ⟨p, q, o, t, rfl, rfl, hk, hq, ho, ht, hb, hp, hb0⟩ := hcut.out
  clear hcut
  have HKP := Lib.hid hk
  have HQ := Lib.hid hq
  have HO := Lib.hid ho
  have HT := Lib.hid ht
  have HB := Lib.hid hb
  have HU := Lib.hid (HU0.out.call hb0)
  clear hk hq ho ht hb hp hb0 HU0 HM0 HB0 C17
  have kp := HKP.out.cell
  have kc := HU.out.cell
  have kf := HU.out.frozen
  have H8 := Lib.hid (put8s (x0 := 2) (x1 := 3) (x2 := 2) (v3 := slv q) (v4 := slv o) (x5 := 0) (x6 := 0) (v7 := slv t) HU.out)
  go_upto_region 5 with (fail)
  rw [show ((((((((wc.setCell ⟨g, 17, none⟩ (.int .i64 2)).setCell ⟨g, 18, none⟩ (.int .i64 3)).setCell ⟨g, 19, none⟩ (.int .i64 2)).setCell ⟨g, 20, none⟩ (.slice q.1 q.2.1 q.2.2)).setCell ⟨g, 21, none⟩ (.slice o.1 o.2.1 o.2.2)).setCell ⟨g, 22, none⟩ (.int .i64 0)).setCell ⟨g, 23, none⟩ (.int .i64 0)).setCell ⟨g, 24, none⟩ (.slice t.1 t.2.1 t.2.2)) = _ from H8.out]
  go_wp2_with fail
  go_ret
  refine ⟨wc, slv q, slv o, slv t, rfl, HB.out, ?_, HQ.out, HO.out, HT.out⟩
  rw [← HEQ.out]

set_option maxRecDepth 100000 in
set_option maxHeartbeats 4000000 in
theorem pending1 (g : Nat) (s : St) (l : Sl) (f : Value) (w : World) (h : Blk w g 110 (stA s l)) (hn : NoCalls s l) :
    Calls Tryz.prog 93 #[.pointer (some ⟨g, 0, none⟩), f] w fun e w' => e = .returned (.bool false) ∧ Below w.heap.size w w' := by
  have HH := Lib.hid hasMsgNil
  have C20 : Hid (∀ W, Below w.heap.size w W → W.cell? ⟨g, 20, none⟩ = some (.slice none 0 0) ∧ W.cell? ⟨g, 21, none⟩ = some (.slice none 0 0)) := fun W hb => by
    have kc := (h.call hb).cell
    exact ⟨by rw [kc 20, ← hn.Q]; rfl, by rw [kc 21, ← hn.O]; rfl⟩
  clear h hn
  go_enter Tryz.func93, Tryz.ntmps93
  obtain ⟨k20, k21⟩ := C20.out w (Below.refl _ _)
  go_wp2_with fail
  refine (HH.out _ _).mono ?_
  rintro e w1 ⟨rfl, hb⟩
  clear k20 k21
  obtain ⟨k20, k21⟩ := C20.out w1 hb
  have HB := Lib.hid hb
  clear hb
  go_wp2_with fail
  refine (HH.out _ _).mono ?_
  rintro e w2 ⟨rfl, hb⟩
  have HB2 := Lib.hid (below_call HB.out hb)
  clear hb k20 k21
  go_wp2_with fail
  go_ret
  exact ⟨rfl, HB2.out⟩

set_option maxRecDepth 100000 in
set_option maxHeartbeats 4000000 in
theorem pendAct1 (g : Nat) (s : St) (l : Sl) (n : Int) (w : World) (h : Blk w g 110 (stA s l)) (hn : NoCalls s l) :
    Calls Tryz.prog 163 #[.pointer (some ⟨g, 0, none⟩), i n] w fun e w' => e = .returned (.bool false) ∧ Below w.heap.size w w' := by
  have HP : Hid (∀ W f, Below w.heap.size w W → _) := fun W f hb => pending1 g s l f W (h.call hb) hn
  have HB := Lib.hid (below_new w (.cells #[i n] 3))
  clear h hn
  go_enter Tryz.func163, Tryz.ntmps163
  go_upto_region 1 with (fail)
  generalize w.alloc (.cells #[i n] 3) = w0 at *
  go_wp2_with fail
  refine (HP.out w0 _ HB.out).mono ?_
  rintro e w1 ⟨rfl, hb⟩
  have HB1 := Lib.hid (below_call HB.out hb)
  clear hb
  go_wp2_with fail
  go_ret
  exact ⟨rfl, HB1.out⟩

set_option maxRecDepth 100000 in
set_option maxHeartbeats 4000000 in
theorem setBeat1 (g : Nat) (s : St) (l : Sl) (n : Int) (w : World) (h : Blk w g 110 (stA s l)) (hn : n ≤ 268435456) :
    Calls Tryz.prog 137 #[.pointer (some ⟨g, 0, none⟩), i n] w fun e w' => e = .returned (.tuple #[]) ∧ w' = w.setRow g (stA { s with bt := n } l) := by
  have H8 : Hid (w.setCell ⟨g, 4, none⟩ (i n) = w.setRow g (stA { s with bt := n } l)) := stSet h rfl
  have kc := h.cell
  have kf := h.frozen
  go_enter Tryz.func137, Tryz.ntmps137
  go_wp2_with fail
  refine bodyPost_end0 rfl rfl ?_
  refine ⟨rfl, ?_⟩
  rw [Int.min_eq_left hn]
  exact H8.out

/-- What boot leaves. -/
def BootR (w : World) (g : Nat) (l : Sl) (e : Ending) (w' : World) : Prop := ∃ w2 q o t, e = .returned (.tuple #[]) ∧ Below w.heap.size w w2 ∧ w' = w2.setRow g (stA { s1t 1 6 with nx := 2 } { l with Q := q, O := o, S := t }) ∧ Own MsR 63 25 w.heap.size w2 q [⟨1, 1, 1, 0, ⟨#[]⟩, ⟨#[83]⟩⟩] ∧ MsAt w o [] ∧ MsAt w t []

set_option maxRecDepth 100000 in
set_option maxHeartbeats 4000000 in
theorem boot1 (g : Nat) (l : Sl) (w : World) (h : Blk w g 110 (stA (s1t 1 0) l)) (hn : NoCalls (s1t 1 0) l) :
    Calls Tryz.prog 72 #[.pointer (some ⟨g, 0, none⟩)] w (BootR w g l) := by
  have HP : Hid (∀ W, Below w.heap.size w W → _) := fun W hb => pendAct1 g (s1t 1 0) l 1 W (h.call hb) hn
  have HQ : Hid (∀ W, Below w.heap.size w W → _) := fun W hb => queueL 1 0 ⟨#[]⟩ ⟨#[83]⟩ g (s1t 1 0) l W (h.call hb) hn mvalidB
  have HK := Lib.hid (fun W (hb : Below w.heap.size w W) => (h.call hb).cell)
  have HU := Lib.hid (fun W (hb : Below w.heap.size w W) => h.call hb)
  have HGL := Lib.hid h.lt
  clear h hn
  go_enter Tryz.func72, Tryz.ntmps72
  go_upto_region 0 with (fail)
  go_cut [17] (fun s17 wd => s17 = .bool true ∧ Hid (Below w.heap.size w wd))
  case first =>
    refine RegG.region 16 (fun k => match k with | 0 => some (.pointer (some ⟨g, 0, none⟩)) | 1 => some (.pointer (some ⟨g, 0, none⟩)) | 2 => some (.pointer (some ⟨g, 0, none⟩)) | 3 => some (.pointer (some ⟨g, 1, none⟩)) | 4 => some (i 1) | 5 => some (.pointer (some ⟨g, 0, none⟩)) | 6 => some (.pointer (some ⟨g, 0, none⟩)) | 7 => some (.pointer (some ⟨g, 0, none⟩)) | 8 => some (.pointer (some ⟨g, 4, none⟩)) | 9 => some (i 0) | 10 => some (.bool true) | 11 => some (.bool true) | 12 => some (.pointer (some ⟨g, 0, none⟩)) | 13 => some (.bool false) | 14 => some (.bool true) | 15 => some (.bool true) | _ => none) (by kernel_rfl) (by kernel_rfl) (Reg4.in_of (n := 34) (by kernel_rfl) rfl) ?_ ?_ ?_ ?_
    · intro idx o hj ho
      have hj' : idx = 0 ∨ idx = 1 ∨ idx = 2 ∨ idx = 3 ∨ idx = 4 ∨ idx = 5 ∨ idx = 6 ∨ idx = 7 ∨ idx = 8 ∨ idx = 9 ∨ idx = 10 ∨ idx = 11 ∨ idx = 12 ∨ idx = 13 ∨ idx = 14 ∨ idx = 15 := by omega
      clear hj
      rcases hj' with rfl | rfl | rfl | rfl | rfl | rfl | rfl | rfl | rfl | rfl | rfl | rfl | rfl | rfl | rfl | rfl
      · obtain rfl := Option.some.inj ho
        refine .inr (fun a' w' hG hop => ?_)
        have h0 : a'.tmps[0]?.getD undef = _ := (Array.getD_eq_getD_getElem? ..).symm.trans (hop 0 (by simp [Op.operands, Call.operands]))
        refine Reg4.StepOk.mono (R := fun v W => v = .pointer (some ⟨g, 0, none⟩) ∧ W = w') ?_ (fun v W h => ?_)
        · go_simp
          all_goals (try exact ⟨rfl, rfl⟩)
        · obtain ⟨rfl, rfl⟩ := h
          exact ⟨fun x hx => Option.some.inj hx, Below.refl _ _⟩
      · obtain rfl := Option.some.inj ho
        refine .inr (fun a' w' hG hop => ?_)
        have h2 : a'.tmps[2]?.getD undef = .pointer (some ⟨g, 0, none⟩) := (Array.getD_eq_getD_getElem? ..).symm.trans (hop 2 (by simp [Op.operands, Call.operands]) _ rfl)
        refine Reg4.StepOk.mono (R := fun v W => v = .pointer (some ⟨g, 0, none⟩) ∧ W = w') ?_ (fun v W h => ?_)
        · go_simp
          all_goals (try exact ⟨rfl, rfl⟩)
        · obtain ⟨rfl, rfl⟩ := h
          exact ⟨fun x hx => Option.some.inj hx, Below.refl _ _⟩
      · obtain rfl := Option.some.inj ho
        refine .inr (fun a' w' hG hop => ?_)
        have h3 : a'.tmps[3]?.getD undef = .pointer (some ⟨g, 0, none⟩) := (Array.getD_eq_getD_getElem? ..).symm.trans (hop 3 (by simp [Op.operands, Call.operands]) _ rfl)
        refine Reg4.StepOk.mono (R := fun v W => v = .pointer (some ⟨g, 0, none⟩) ∧ W = w') ?_ (fun v W h => ?_)
        · go_simp
          all_goals (try exact ⟨rfl, rfl⟩)
        · obtain ⟨rfl, rfl⟩ := h
          exact ⟨fun x hx => Option.some.inj hx, Below.refl _ _⟩
      · obtain rfl := Option.some.inj ho
        refine .inr (fun a' w' hG hop => ?_)
        have h4 : a'.tmps[4]?.getD undef = .pointer (some ⟨g, 0, none⟩) := (Array.getD_eq_getD_getElem? ..).symm.trans (hop 4 (by simp [Op.operands, Call.operands]) _ rfl)
        refine Reg4.StepOk.mono (R := fun v W => v = .pointer (some ⟨g, 1, none⟩) ∧ W = w') ?_ (fun v W h => ?_)
        · go_simp
          all_goals (try exact ⟨rfl, rfl⟩)
        · obtain ⟨rfl, rfl⟩ := h
          exact ⟨fun x hx => Option.some.inj hx, Below.refl _ _⟩
      · obtain rfl := Option.some.inj ho
        refine .inr (fun a' w' hG hop => ?_)
        have h5 : a'.tmps[5]?.getD undef = .pointer (some ⟨g, 1, none⟩) := (Array.getD_eq_getD_getElem? ..).symm.trans (hop 5 (by simp [Op.operands, Call.operands]) _ rfl)
        have kc := HK.out _ hG
        refine Reg4.StepOk.mono (R := fun v W => v = i 1 ∧ W = w') ?_ (fun v W h => ?_)
        · go_simp
          all_goals (try exact ⟨rfl, rfl⟩)
        · obtain ⟨rfl, rfl⟩ := h
          exact ⟨fun x hx => Option.some.inj hx, Below.refl _ _⟩
      · obtain rfl := Option.some.inj ho
        refine .inr (fun a' w' hG hop => ?_)
        have h0 : a'.tmps[0]?.getD undef = _ := (Array.getD_eq_getD_getElem? ..).symm.trans (hop 0 (by simp [Op.operands, Call.operands]))
        refine Reg4.StepOk.mono (R := fun v W => v = .pointer (some ⟨g, 0, none⟩) ∧ W = w') ?_ (fun v W h => ?_)
        · go_simp
          all_goals (try exact ⟨rfl, rfl⟩)
        · obtain ⟨rfl, rfl⟩ := h
          exact ⟨fun x hx => Option.some.inj hx, Below.refl _ _⟩
      · obtain rfl := Option.some.inj ho
        refine .inr (fun a' w' hG hop => ?_)
        have h7 : a'.tmps[7]?.getD undef = .pointer (some ⟨g, 0, none⟩) := (Array.getD_eq_getD_getElem? ..).symm.trans (hop 7 (by simp [Op.operands, Call.operands]) _ rfl)
        refine Reg4.StepOk.mono (R := fun v W => v = .pointer (some ⟨g, 0, none⟩) ∧ W = w') ?_ (fun v W h => ?_)
        · go_simp
          all_goals (try exact ⟨rfl, rfl⟩)
        · obtain ⟨rfl, rfl⟩ := h
          exact ⟨fun x hx => Option.some.inj hx, Below.refl _ _⟩
      · obtain rfl := Option.some.inj ho
        refine .inr (fun a' w' hG hop => ?_)
        have h8 : a'.tmps[8]?.getD undef = .pointer (some ⟨g, 0, none⟩) := (Array.getD_eq_getD_getElem? ..).symm.trans (hop 8 (by simp [Op.operands, Call.operands]) _ rfl)
        refine Reg4.StepOk.mono (R := fun v W => v = .pointer (some ⟨g, 0, none⟩) ∧ W = w') ?_ (fun v W h => ?_)
        · go_simp
          all_goals (try exact ⟨rfl, rfl⟩)
        · obtain ⟨rfl, rfl⟩ := h
          exact ⟨fun x hx => Option.some.inj hx, Below.refl _ _⟩
      · obtain rfl := Option.some.inj ho
        refine .inr (fun a' w' hG hop => ?_)
        have h9 : a'.tmps[9]?.getD undef = .pointer (some ⟨g, 0, none⟩) := (Array.getD_eq_getD_getElem? ..).symm.trans (hop 9 (by simp [Op.operands, Call.operands]) _ rfl)
        refine Reg4.StepOk.mono (R := fun v W => v = .pointer (some ⟨g, 4, none⟩) ∧ W = w') ?_ (fun v W h => ?_)
        · go_simp
          all_goals (try exact ⟨rfl, rfl⟩)
        · obtain ⟨rfl, rfl⟩ := h
          exact ⟨fun x hx => Option.some.inj hx, Below.refl _ _⟩
      · obtain rfl := Option.some.inj ho
        refine .inr (fun a' w' hG hop => ?_)
        have h10 : a'.tmps[10]?.getD undef = .pointer (some ⟨g, 4, none⟩) := (Array.getD_eq_getD_getElem? ..).symm.trans (hop 10 (by simp [Op.operands, Call.operands]) _ rfl)
        have kc := HK.out _ hG
        refine Reg4.StepOk.mono (R := fun v W => v = i 0 ∧ W = w') ?_ (fun v W h => ?_)
        · go_simp
          all_goals (try exact ⟨rfl, rfl⟩)
        · obtain ⟨rfl, rfl⟩ := h
          exact ⟨fun x hx => Option.some.inj hx, Below.refl _ _⟩
      · obtain rfl := Option.some.inj ho
        refine .inr (fun a' w' hG hop => ?_)
        have h6 : a'.tmps[6]?.getD undef = i 1 := (Array.getD_eq_getD_getElem? ..).symm.trans (hop 6 (by simp [Op.operands, Call.operands]) _ rfl)
        have h11 : a'.tmps[11]?.getD undef = i 0 := (Array.getD_eq_getD_getElem? ..).symm.trans (hop 11 (by simp [Op.operands, Call.operands]) _ rfl)
        refine Reg4.StepOk.mono (R := fun v W => v = .bool true ∧ W = w') ?_ (fun v W h => ?_)
        · go_simp
          all_goals (try exact ⟨rfl, rfl⟩)
        · obtain ⟨rfl, rfl⟩ := h
          exact ⟨fun x hx => Option.some.inj hx, Below.refl _ _⟩
      · obtain rfl := Option.some.inj ho
        refine .inr (fun a' w' hG hop => ?_)
        have h12 : a'.tmps[12]?.getD undef = .bool true := (Array.getD_eq_getD_getElem? ..).symm.trans (hop 12 (by simp [Op.operands, Call.operands]) _ rfl)
        refine Reg4.StepOk.mono (R := fun v W => v = .bool true ∧ W = w') ?_ (fun v W h => ?_)
        · go_simp
          all_goals (try exact ⟨rfl, rfl⟩)
        · obtain ⟨rfl, rfl⟩ := h
          exact ⟨fun x hx => Option.some.inj hx, Below.refl _ _⟩
      · obtain rfl := Option.some.inj ho
        refine .inr (fun a' w' hG hop => ?_)
        have h0 : a'.tmps[0]?.getD undef = _ := (Array.getD_eq_getD_getElem? ..).symm.trans (hop 0 (by simp [Op.operands, Call.operands]))
        refine Reg4.StepOk.mono (R := fun v W => v = .pointer (some ⟨g, 0, none⟩) ∧ W = w') ?_ (fun v W h => ?_)
        · go_simp
          all_goals (try exact ⟨rfl, rfl⟩)
        · obtain ⟨rfl, rfl⟩ := h
          exact ⟨fun x hx => Option.some.inj hx, Below.refl _ _⟩
      · obtain rfl := Option.some.inj ho
        refine .inr (fun a' w' hG hop => ?_)
        have h14 : a'.tmps[14]?.getD undef = .pointer (some ⟨g, 0, none⟩) := (Array.getD_eq_getD_getElem? ..).symm.trans (hop 14 (by simp [Op.operands, Call.operands]) _ rfl)
        refine Reg4.StepOk.mono (R := fun v W => v = .bool false ∧ Hid (Below w'.heap.size w' W)) ?_ (fun v W h => ?_)
        · go_simp
          refine (HP.out _ hG).mono ?_
          rintro e w5 ⟨rfl, hb⟩
          exact ⟨_, rfl, rfl, hb⟩
        · obtain ⟨rfl, hb⟩ := h
          exact ⟨fun x hx => Option.some.inj hx, hb.out⟩
      · obtain rfl := Option.some.inj ho
        refine .inr (fun a' w' hG hop => ?_)
        have h15 : a'.tmps[15]?.getD undef = .bool false := (Array.getD_eq_getD_getElem? ..).symm.trans (hop 15 (by simp [Op.operands, Call.operands]) _ rfl)
        refine Reg4.StepOk.mono (R := fun v W => v = .bool true ∧ W = w') ?_ (fun v W h => ?_)
        · go_simp
          all_goals (try exact ⟨rfl, rfl⟩)
        · obtain ⟨rfl, rfl⟩ := h
          exact ⟨fun x hx => Option.some.inj hx, Below.refl _ _⟩
      · obtain rfl := Option.some.inj ho
        refine .inr (fun a' w' hG hop => ?_)
        have h13 : a'.tmps[13]?.getD undef = .bool true := (Array.getD_eq_getD_getElem? ..).symm.trans (hop 13 (by simp [Op.operands, Call.operands]) _ rfl)
        have h16 : a'.tmps[16]?.getD undef = .bool true := (Array.getD_eq_getD_getElem? ..).symm.trans (hop 16 (by simp [Op.operands, Call.operands]) _ rfl)
        refine Reg4.StepOk.mono (R := fun v W => v = .bool true ∧ W = w') ?_ (fun v W h => ?_)
        · go_simp
          all_goals (try exact ⟨rfl, rfl⟩)
        · obtain ⟨rfl, rfl⟩ := h
          exact ⟨fun x hx => Option.some.inj hx, Below.refl _ _⟩
    · intro idx o hj ho j b hg
      have hj' : idx = 0 ∨ idx = 1 ∨ idx = 2 ∨ idx = 3 ∨ idx = 4 ∨ idx = 5 ∨ idx = 6 ∨ idx = 7 ∨ idx = 8 ∨ idx = 9 ∨ idx = 10 ∨ idx = 11 ∨ idx = 12 ∨ idx = 13 ∨ idx = 14 ∨ idx = 15 := by omega
      clear hj
      rcases hj' with rfl | rfl | rfl | rfl | rfl | rfl | rfl | rfl | rfl | rfl | rfl | rfl | rfl | rfl | rfl | rfl
      · obtain rfl := Option.some.inj ho
        cases hg
      · obtain rfl := Option.some.inj ho
        cases hg
      · obtain rfl := Option.some.inj ho
        cases hg
      · obtain rfl := Option.some.inj ho
        cases hg
      · obtain rfl := Option.some.inj ho
        cases hg
      · obtain rfl := Option.some.inj ho
        cases hg
      · obtain rfl := Option.some.inj ho
        cases hg
      · obtain rfl := Option.some.inj ho
        cases hg
      · obtain rfl := Option.some.inj ho
        cases hg
      · obtain rfl := Option.some.inj ho
        cases hg
      · obtain rfl := Option.some.inj ho
        cases hg
      · obtain rfl := Option.some.inj ho
        cases hg
      · obtain rfl := Option.some.inj ho
        obtain ⟨rfl, rfl⟩ := Prod.mk.inj (Option.some.inj hg)
        exact ⟨_, rfl⟩
      · obtain rfl := Option.some.inj ho
        obtain ⟨rfl, rfl⟩ := Prod.mk.inj (Option.some.inj hg)
        exact ⟨_, rfl⟩
      · obtain rfl := Option.some.inj ho
        obtain ⟨rfl, rfl⟩ := Prod.mk.inj (Option.some.inj hg)
        exact ⟨_, rfl⟩
      · obtain rfl := Option.some.inj ho
        cases hg
    · intro idx o hj ho j b hg hk x hx
      have hj' : idx = 0 ∨ idx = 1 ∨ idx = 2 ∨ idx = 3 ∨ idx = 4 ∨ idx = 5 ∨ idx = 6 ∨ idx = 7 ∨ idx = 8 ∨ idx = 9 ∨ idx = 10 ∨ idx = 11 ∨ idx = 12 ∨ idx = 13 ∨ idx = 14 ∨ idx = 15 := by omega
      clear hj
      rcases hj' with rfl | rfl | rfl | rfl | rfl | rfl | rfl | rfl | rfl | rfl | rfl | rfl | rfl | rfl | rfl | rfl
      · obtain rfl := Option.some.inj ho
        cases hg
      · obtain rfl := Option.some.inj ho
        cases hg
      · obtain rfl := Option.some.inj ho
        cases hg
      · obtain rfl := Option.some.inj ho
        cases hg
      · obtain rfl := Option.some.inj ho
        cases hg
      · obtain rfl := Option.some.inj ho
        cases hg
      · obtain rfl := Option.some.inj ho
        cases hg
      · obtain rfl := Option.some.inj ho
        cases hg
      · obtain rfl := Option.some.inj ho
        cases hg
      · obtain rfl := Option.some.inj ho
        cases hg
      · obtain rfl := Option.some.inj ho
        cases hg
      · obtain rfl := Option.some.inj ho
        cases hg
      · obtain rfl := Option.some.inj ho
        obtain ⟨rfl, rfl⟩ := Prod.mk.inj (Option.some.inj hg)
        cases hk
      · obtain rfl := Option.some.inj ho
        obtain ⟨rfl, rfl⟩ := Prod.mk.inj (Option.some.inj hg)
        cases hk
      · obtain rfl := Option.some.inj ho
        obtain ⟨rfl, rfl⟩ := Prod.mk.inj (Option.some.inj hg)
        cases hk
      · obtain rfl := Option.some.inj ho
        cases hg
    · intro vals w' hG hv
      have hv0 : vals 0 = .pointer (some ⟨g, 0, none⟩) := hv 0 _ (by omega) rfl
      have hv1 : vals 1 = .pointer (some ⟨g, 0, none⟩) := hv 1 _ (by omega) rfl
      have hv2 : vals 2 = .pointer (some ⟨g, 0, none⟩) := hv 2 _ (by omega) rfl
      have hv3 : vals 3 = .pointer (some ⟨g, 1, none⟩) := hv 3 _ (by omega) rfl
      have hv4 : vals 4 = i 1 := hv 4 _ (by omega) rfl
      have hv5 : vals 5 = .pointer (some ⟨g, 0, none⟩) := hv 5 _ (by omega) rfl
      have hv6 : vals 6 = .pointer (some ⟨g, 0, none⟩) := hv 6 _ (by omega) rfl
      have hv7 : vals 7 = .pointer (some ⟨g, 0, none⟩) := hv 7 _ (by omega) rfl
      have hv8 : vals 8 = .pointer (some ⟨g, 4, none⟩) := hv 8 _ (by omega) rfl
      have hv9 : vals 9 = i 0 := hv 9 _ (by omega) rfl
      have hv10 : vals 10 = .bool true := hv 10 _ (by omega) rfl
      have hv11 : vals 11 = .bool true := hv 11 _ (by omega) rfl
      have hv12 : vals 12 = .pointer (some ⟨g, 0, none⟩) := hv 12 _ (by omega) rfl
      have hv13 : vals 13 = .bool false := hv 13 _ (by omega) rfl
      have hv14 : vals 14 = .bool true := hv 14 _ (by omega) rfl
      have hv15 : vals 15 = .bool true := hv 15 _ (by omega) rfl
      simp only [Reg4.puts, Reg4.dstOf, List.range, List.range.loop, if_true, List.drop_succ_cons, List.drop_zero, hv0, hv1, hv2, hv3, hv4, hv5, hv6, hv7, hv8, hv9, hv10, hv11, hv12, hv13, hv14, hv15]
      clear hv hv0 hv1 hv2 hv3 hv4 hv5 hv6 hv7 hv8 hv9 hv10 hv11 hv12 hv13 hv14 hv15
      simp [Act.put]
      go_wp2_with fail
      go_meet
      exact ⟨rfl, hG⟩
  case rest =>
  obtain ⟨rfl, HB⟩ := hcut
  have kc := HK.out wc HB.out
  go_upto_region 1 with (fail)
  go_wp2_with fail
  refine (HQ.out wc HB.out).mono ?_
  rintro e w5 ⟨w2, q, o, t, rfl, hb, rfl, h1, h2, h3⟩
  have hw := HB.out.size
  have H1 := Lib.hid (Own.lower h1 hw)
  have H2 := Lib.hid (MsAt.any (w' := w) h2)
  have H3 := Lib.hid (MsAt.any (w' := w) h3)
  have HB2 := Lib.hid (below_call HB.out hb)
  clear h1 h2 h3 hb hw kc
  have hk := row_blk (stA { s1t 1 0 with nx := 2 } { l with Q := q, O := o, S := t }) (HU.out w2 HB2.out)
  have HK3 := Lib.hid hk
  have kc := hk.cell
  clear hk
  go_wp2_with fail
  refine (setBeat1 g _ _ 6 _ HK3.out (by omega)).mono ?_
  rintro e w6 ⟨rfl, rfl⟩
  clear kc
  go_wp2_with fail
  refine bodyPost_end0 rfl rfl ?_
  refine ⟨w2, q, o, t, rfl, HB2.out, ?_, H1.out, H2.out, H3.out⟩
  rw [setRow_setRow]

end Stn
end Go.Proofs.YtfaofobhmmedmaaGreatDoor
