/-
  runs, ask and Present on a station of two plugged connectors.
-/
import Derived.Test.YtfaofobhmmedmaaGreatDoorDenD
namespace Go.Proofs.YtfaofobhmmedmaaGreatDoor
namespace Stn
set_option linter.unusedSimpArgs false
set_option linter.unusedVariables false
open Go.RowKit Go.Great

theorem StO.rowTyD {base p : Nat} {W : World} {s : St} {l : Sl} {old : Array Value} (h : StO base W s l) (hk : Blk W p 110 old) (cs : Array Value) : StO base (W.setRow p cs) s l :=
  ⟨own_rowTy h.C hk (by decide) _, own_rowTy h.M hk (by decide) _, own_rowTy h.T hk (by decide) _, h.P, h.LT, h.CA, h.RE, h.IT, h.Q, h.O, h.S, own_rowTy h.OV hk (by decide) _, own_rowTy h.LM hk (by decide) _, own_rowTy h.SH hk (by decide) _⟩
set_option maxRecDepth 100000 in
set_option maxHeartbeats 4000000 in
theorem runs21 (base g : Nat) (c1 c2 : Cn) (ac : Bool) (iv : Int) (l : Sl) (w : World) (h : UD base w g (dS c1 c2 ac iv) l) : Calls Tryz.prog 38 #[.pointer (some ⟨g, 0, none⟩), i 1] w fun e w' => e = .returned (.bool false) ∧ Below w.heap.size w w' := by
  obtain ⟨bC, cC, bM, cM, bT, cT, bO, cO, bL, cL, bS, cS, rfl⟩ := dform h.a
  obtain ⟨x, o, e, r⟩ := TxsAt.at_ (j := 0) h.a.at_.T (by simp)
  obtain ⟨rfl, rfl⟩ : bT = x ∧ 0 = o := by simpa using e
  have r0 := r w (Kept.refl _)
  simp [zTx] at r0
  obtain ⟨t0, t1, t2, t3, t4, t5, t6, t7, t8⟩ := r0
  have k8 : w.cell? ⟨g, 8, none⟩ = some (.slice (some ⟨bT, 0, none⟩) 2 cT) := h.k.cell 8
  clear h r e
  have HN : ∀ W, (binOp .neq 54 (.agg #[.string ⟨#[]⟩, i 0, .string ⟨#[]⟩, .string ⟨#[]⟩, i 0, i 0, .bool false, i 0, i 0]) (.agg #[.string ⟨#[]⟩, i 0, .string ⟨#[]⟩, .string ⟨#[]⟩, i 0, i 0, .bool false, i 0, i 0])).run Tryz.prog W = .ok (.bool false) W := neqTx zTx
  go_enter Tryz.func38, Tryz.ntmps38
  go_wp2_with fail
  go_ret
  exact ⟨rfl, by repeat (first | (with_reducible exact Below.refl _ _) | (with_reducible refine below_drewN' ?_ _) | (with_reducible refine Below.drew ?_) | (with_reducible refine Below.setCell ?_ (by first | (simp; done) | (simp; omega) | omega) _) | (with_reducible refine below_alloc ?_ _) | (with_reducible refine Below.alloc ?_ (by first | (simp; done) | (simp; omega) | omega) _))⟩

set_option maxRecDepth 100000 in
set_option maxHeartbeats 4000000 in
theorem runs22 (base g : Nat) (c1 c2 : Cn) (ac : Bool) (iv : Int) (l : Sl) (w : World) (h : UD base w g (dS c1 c2 ac iv) l) : Calls Tryz.prog 38 #[.pointer (some ⟨g, 0, none⟩), i 2] w fun e w' => e = .returned (.bool false) ∧ Below w.heap.size w w' := by
  obtain ⟨bC, cC, bM, cM, bT, cT, bO, cO, bL, cL, bS, cS, rfl⟩ := dform h.a
  obtain ⟨x, o, e, r⟩ := TxsAt.at_ (j := 1) h.a.at_.T (by simp)
  obtain ⟨rfl, rfl⟩ : bT = x ∧ 0 = o := by simpa using e
  have r0 := r w (Kept.refl _)
  simp [zTx] at r0
  obtain ⟨t0, t1, t2, t3, t4, t5, t6, t7, t8⟩ := r0
  have k8 : w.cell? ⟨g, 8, none⟩ = some (.slice (some ⟨bT, 0, none⟩) 2 cT) := h.k.cell 8
  clear h r e
  have HN : ∀ W, (binOp .neq 54 (.agg #[.string ⟨#[]⟩, i 0, .string ⟨#[]⟩, .string ⟨#[]⟩, i 0, i 0, .bool false, i 0, i 0]) (.agg #[.string ⟨#[]⟩, i 0, .string ⟨#[]⟩, .string ⟨#[]⟩, i 0, i 0, .bool false, i 0, i 0])).run Tryz.prog W = .ok (.bool false) W := neqTx zTx
  go_enter Tryz.func38, Tryz.ntmps38
  go_wp2_with fail
  go_ret
  exact ⟨rfl, by repeat (first | (with_reducible exact Below.refl _ _) | (with_reducible refine below_drewN' ?_ _) | (with_reducible refine Below.drew ?_) | (with_reducible refine Below.setCell ?_ (by first | (simp; done) | (simp; omega) | omega) _) | (with_reducible refine below_alloc ?_ _) | (with_reducible refine Below.alloc ?_ (by first | (simp; done) | (simp; omega) | omega) _))⟩

/-- What ask leaves. -/
def AskR (w : World) (g : Nat) (s : St) (l : Sl) (cn : Int) (id : ByteArray) (e : Ending) (w' : World) : Prop := ∃ w2 q o t, e = .returned (i 0) ∧ Below w.heap.size w w2 ∧ w' = w2.setRow g (stA { s with nx := 2 } { l with Q := q, O := o, S := t }) ∧ Own MsR 63 25 w.heap.size w2 q [⟨1, 1, 4, cn, id, ⟨#[]⟩⟩] ∧ MsAt w o [] ∧ MsAt w t []

set_option maxRecDepth 100000 in
set_option maxHeartbeats 4000000 in
theorem ask1 (g : Nat) (s : St) (l : Sl) (cn : Int) (id : ByteArray) (w : World) (h : Blk w g 110 (stA s l)) (hn : NoCalls s l) (hc : 1 ≤ cn ∧ cn ≤ 32) (ht : IdW.identOk id = true) (hs : id.size ≤ maxLen) :
    Calls Tryz.prog 44 #[.pointer (some ⟨g, 0, none⟩), i cn, .string id] w (AskR w g s l cn id) := by
  have hmf : ∀ (fn : Fn) (first cap : Array Value) (w : World), (Instr.makeFunc fn first cap).run Tryz.prog w = .ok (.func fn first cap) w := fun _ _ _ _ => rfl
  have HP : Hid (∀ W f, Below w.heap.size w W → _) := fun W f hb => pending1 g s l f W (h.call hb) hn
  have HQ : Hid (∀ W, Below w.heap.size w W → _) := fun W hb => queueL 4 cn id ⟨#[]⟩ g s l W (h.call hb) hn (fun W => mvalidA cn id W hc ht hs)
  have HB := Lib.hid (below_new w (.cells #[i cn] 3))
  have HK := Lib.hid (Blk.new w 3 #[i cn])
  clear h hn hc ht hs
  go_enter Tryz.func44, Tryz.ntmps44
  go_upto_region 1 with (fail)
  generalize w.alloc (.cells #[i cn] 3) = w1 at *
  go_wp2_with fail
  refine (HP.out w1 _ HB.out).mono ?_
  rintro e w2 ⟨rfl, hb⟩
  have HB2 := Lib.hid (below_call HB.out hb)
  have k0 : w2.cell? ⟨w.heap.size, 0, none⟩ = some (i cn) := (HK.out.call hb).cell 0
  clear hb HB HK
  go_wp2_with fail
  refine (HQ.out w2 HB2.out).mono ?_
  rintro e w3 ⟨w4, q, o, t, rfl, hb, rfl, h1, h2, h3⟩
  have hw := HB2.out.size
  have H1 := Lib.hid (Own.lower h1 hw)
  have H2 := Lib.hid (MsAt.any (w' := w) h2)
  have H3 := Lib.hid (MsAt.any (w' := w) h3)
  have HB4 := Lib.hid (below_call HB2.out hb)
  clear h1 h2 h3 hb hw k0
  go_wp2_with fail
  go_ret
  exact ⟨w4, q, o, t, rfl, HB4.out, rfl, H1.out, H2.out, H3.out⟩

set_option maxRecDepth 100000 in
set_option maxHeartbeats 4000000 in
theorem present1true (l : Sl) (id : ByteArray) (w : World) (h : StAt w (dS cnG cnG true 5) l) (ht : IdW.identOk id = true) (hs : id.size ≤ maxLen) :
    Calls Tryz.prog 11 #[.agg (stA (dS cnG cnG true 5) l), i 1, .string id] w fun e w' => ∃ l' q o t, e = .returned (.tuple #[.agg (stA { dS cnG cnG true 5 with nx := 2 } { l' with Q := q, O := o, S := t }), i 0]) ∧ StAt w' (dS cnG cnG true 5) l' ∧ MsAt w' q [⟨1, 1, 4, 1, id, ⟨#[]⟩⟩] ∧ MsAt w' o [] ∧ MsAt w' t [] ∧ Below w.heap.size w w' ∧ (stA { dS cnG cnG true 5 with nx := 2 } { l' with Q := q, O := o, S := t }).all (·.oneCell') = true := by
  have HO : Hid (∀ W, Below w.heap.size w W → _) := fun W hb => openYes cnG cnG true 5 1 l W (h.call hb) ⟨by omega, by omega⟩
  have HI : Hid (∀ W, Calls Tryz.prog 41 #[.string id] W fun e w' => e = .returned (.bool true) ∧ Below W.heap.size W w') := fun W => by
    have := IdW.valid_ id W hs
    rw [ht] at this
    exact this
  have HL := Lib.hid (local0 id)
  have HT := Lib.hid ht
  have HSZ := Lib.hid hs
  obtain ⟨AC, cC, AM, cM, AT, cT, AOV, cOV, ALM, cLM, ASH, cSH, rfl⟩ := formsD h
  clear h ht hs
  have HS := Lib.hid ((Blk.new w 43 (stA (dS cnG cnG true 5) ⟨.slice AC 2 cC, .slice AM 2 cM, .slice AT 2 cT, .slice none 0 0, .slice none 0 0, .slice none 0 0, .slice none 0 0, .slice none 0 0, .slice none 0 0, .slice none 0 0, .slice none 0 0, .slice AOV 2 cOV, .slice ALM 2 cLM, .slice ASH 2 cSH⟩)).alloc (.cells zA 43))
  have HR := Lib.hid (Blk.new (w.alloc (.cells (stA (dS cnG cnG true 5) ⟨.slice AC 2 cC, .slice AM 2 cM, .slice AT 2 cT, .slice none 0 0, .slice none 0 0, .slice none 0 0, .slice none 0 0, .slice none 0 0, .slice none 0 0, .slice none 0 0, .slice none 0 0, .slice AOV 2 cOV, .slice ALM 2 cLM, .slice ASH 2 cSH⟩) 43)) 43 zA)
  have HB := Lib.hid (below_alloc (below_new w (.cells (stA (dS cnG cnG true 5) ⟨.slice AC 2 cC, .slice AM 2 cM, .slice AT 2 cT, .slice none 0 0, .slice none 0 0, .slice none 0 0, .slice none 0 0, .slice none 0 0, .slice none 0 0, .slice none 0 0, .slice none 0 0, .slice AOV 2 cOV, .slice ALM 2 cLM, .slice ASH 2 cSH⟩) 43)) (.cells zA 43))
  have hs1 : (w.alloc (.cells (stA (dS cnG cnG true 5) ⟨.slice AC 2 cC, .slice AM 2 cM, .slice AT 2 cT, .slice none 0 0, .slice none 0 0, .slice none 0 0, .slice none 0 0, .slice none 0 0, .slice none 0 0, .slice none 0 0, .slice none 0 0, .slice AOV 2 cOV, .slice ALM 2 cLM, .slice ASH 2 cSH⟩) 43)).heap.size = w.heap.size + 1 := by simp
  rw [hs1] at HR
  clear hs1
  go_enter Tryz.func11, Tryz.ntmps11
  go_upto_region 1 with (fail)
  generalize (w.alloc (.cells _ 43)).alloc (.cells _ 43) = w1 at *
  go_wp2_with (refine wpList_load_row rfl 43 (.tmp 3) rfl w.heap.size rfl 43 (stA (dS cnG cnG true 5) ⟨.slice AC 2 cC, .slice AM 2 cM, .slice AT 2 cT, .slice none 0 0, .slice none 0 0, .slice none 0 0, .slice none 0 0, .slice none 0 0, .slice none 0 0, .slice none 0 0, .slice none 0 0, .slice AOV 2 cOV, .slice ALM 2 cLM, .slice ASH 2 cSH⟩) (0, 0) _ HS.out Tryz.underlying43 rfl (by kernel_rfl) ?_)
  refine (HO.out w1 HB.out).mono ?_
  rintro e w2 ⟨g, l', rfl, hu, hg, hb⟩
  obtain ⟨bC, dC, bM, dM, bT, dT, bO, dO, bL, dL, bS, dS2, rfl⟩ := dform hu.a
  have HUx := Lib.hid hu
  have HRx := Lib.hid (HR.out.call hb)
  have HSx := Lib.hid (HS.out.call hb)
  have HBx := Lib.hid (below_call HB.out hb)
  have hs1 : w.heap.size + 1 < w1.heap.size := HR.out.lt
  have hgr : Hid (w.heap.size + 1 < g) := by show _ < _; omega
  have hs0 : Hid (w.heap.size + 1 < w1.heap.size) := hs1
  clear hu hg hb hs1 HR HB HS HO
  go_wp2_with fail
  refine (HI.out _).mono ?_
  rintro e w3 ⟨rfl, hb⟩
  have HU := Lib.hid (HUx.out.call hb)
  have HR := Lib.hid (HRx.out.call hb)
  have HS := Lib.hid (HSx.out.call hb)
  have HB := Lib.hid (below_call HBx.out hb)
  clear hb HUx HRx HSx HBx HI
  go_upto_region 6 with (fail)
  go_cut [10] (fun s10 wd => Hid (∃ p, s10 = .pointer (some ⟨p, 0, none⟩) ∧ Blk wd p 112 #[i 4, i 4, .string ⟨#[]⟩] ∧ Below w3.heap.size w3 wd))
  case first =>
    refine RegA.region (Γ := Unit) 19 (fun γ k => match k with | 0 => some (.pointer (some ⟨g, 0, none⟩)) | 1 => some (.pointer (some ⟨g, 0, none⟩)) | 2 => some (.pointer (some ⟨g, 0, none⟩)) | 3 => some (.pointer (some ⟨g, 10, none⟩)) | 4 => some (.agg #[i 0, .slice none 0 0]) | 5 => some (.pointer (some ⟨g, 0, none⟩)) | 6 => some (.pointer (some ⟨g, 0, none⟩)) | 7 => some (.pointer (some ⟨g, 0, none⟩)) | 8 => some (.pointer (some ⟨g, 12, none⟩)) | 9 => some (.slice none 0 0) | 10 => some (.string id) | 11 => some (.pointer (some ⟨g, 0, none⟩)) | 12 => some (.pointer (some ⟨g, 0, none⟩)) | 13 => some (.pointer (some ⟨g, 0, none⟩)) | 14 => some (.pointer (some ⟨g, 1, none⟩)) | 15 => some (i 0) | 16 => some (.agg #[i 4, i 4, .string ⟨#[]⟩]) | 17 => none | 18 => none | _ => none) (fun _ _ => True) 112 #[i 0, i 0, .string ⟨#[]⟩] (fun _ => #[i 4, i 4, .string ⟨#[]⟩]) 17 16 18 10 42 16 (by kernel_rfl) (by kernel_rfl) (Reg4.in_of (n := 113) (by kernel_rfl) rfl) (by decide) (fun _ => rfl) (fun _ => rfl) (fun _ => rfl) ?_ (fun _ _ _ h _ => h) (fun _ _ _ _ h _ _ => h) rfl rfl ?_ (fun _ => by kernel_rfl) (fun _ => rfl) (fun _ => by kernel_rfl) ?_ ?_ ?_ ?_
    · intro γ k hk h1 h2
      have hk : k = 0 ∨ k = 1 ∨ k = 2 ∨ k = 3 ∨ k = 4 ∨ k = 5 ∨ k = 6 ∨ k = 7 ∨ k = 8 ∨ k = 9 ∨ k = 10 ∨ k = 11 ∨ k = 12 ∨ k = 13 ∨ k = 14 ∨ k = 15 ∨ k = 16 ∨ k = 17 ∨ k = 18 := by omega
      rcases hk with rfl | rfl | rfl | rfl | rfl | rfl | rfl | rfl | rfl | rfl | rfl | rfl | rfl | rfl | rfl | rfl | rfl | rfl | rfl
      all_goals first | exact ⟨_, rfl⟩ | exact absurd rfl h1 | exact absurd rfl h2
    · intro o ho
      obtain rfl := Option.some.inj ho
      exact ⟨rfl, by first | exact ⟨_, by simp, rfl, rfl⟩ | decide⟩
    · intro γ idx o x hj hne ho hx a' w' hG hop
      have hj' : idx = 0 ∨ idx = 1 ∨ idx = 2 ∨ idx = 3 ∨ idx = 4 ∨ idx = 5 ∨ idx = 6 ∨ idx = 7 ∨ idx = 8 ∨ idx = 9 ∨ idx = 10 ∨ idx = 11 ∨ idx = 12 ∨ idx = 13 ∨ idx = 14 ∨ idx = 15 ∨ idx = 16 ∨ idx = 17 ∨ idx = 18 := by omega
      clear hj
      rcases hj' with rfl | rfl | rfl | rfl | rfl | rfl | rfl | rfl | rfl | rfl | rfl | rfl | rfl | rfl | rfl | rfl | rfl | rfl | rfl
      · obtain rfl := Option.some.inj ho
        obtain rfl := Option.some.inj hx
        have h8 : a'.tmps[8]?.getD undef = _ := (Array.getD_eq_getD_getElem? ..).symm.trans (hop 8 (by simp [Op.operands, Call.operands]))
        go_simp
      · obtain rfl := Option.some.inj ho
        obtain rfl := Option.some.inj hx
        have h26 : a'.tmps[26]?.getD undef = .pointer (some ⟨g, 0, none⟩) := (Array.getD_eq_getD_getElem? ..).symm.trans (hop 26 (by simp [Op.operands, Call.operands]) _ rfl)
        go_simp
      · obtain rfl := Option.some.inj ho
        obtain rfl := Option.some.inj hx
        have h27 : a'.tmps[27]?.getD undef = .pointer (some ⟨g, 0, none⟩) := (Array.getD_eq_getD_getElem? ..).symm.trans (hop 27 (by simp [Op.operands, Call.operands]) _ rfl)
        go_simp
      · obtain rfl := Option.some.inj ho
        obtain rfl := Option.some.inj hx
        have h28 : a'.tmps[28]?.getD undef = .pointer (some ⟨g, 0, none⟩) := (Array.getD_eq_getD_getElem? ..).symm.trans (hop 28 (by simp [Op.operands, Call.operands]) _ rfl)
        go_simp
      · obtain rfl := Option.some.inj ho
        obtain rfl := Option.some.inj hx
        have h29 : a'.tmps[29]?.getD undef = .pointer (some ⟨g, 10, none⟩) := (Array.getD_eq_getD_getElem? ..).symm.trans (hop 29 (by simp [Op.operands, Call.operands]) _ rfl)
        have k10 := (HU.out.k.call hG).cell 10
        have k11 := (HU.out.k.call hG).cell 11
        go_simp
      · obtain rfl := Option.some.inj ho
        obtain rfl := Option.some.inj hx
        have h8 : a'.tmps[8]?.getD undef = _ := (Array.getD_eq_getD_getElem? ..).symm.trans (hop 8 (by simp [Op.operands, Call.operands]))
        go_simp
      · obtain rfl := Option.some.inj ho
        obtain rfl := Option.some.inj hx
        have h31 : a'.tmps[31]?.getD undef = .pointer (some ⟨g, 0, none⟩) := (Array.getD_eq_getD_getElem? ..).symm.trans (hop 31 (by simp [Op.operands, Call.operands]) _ rfl)
        go_simp
      · obtain rfl := Option.some.inj ho
        obtain rfl := Option.some.inj hx
        have h32 : a'.tmps[32]?.getD undef = .pointer (some ⟨g, 0, none⟩) := (Array.getD_eq_getD_getElem? ..).symm.trans (hop 32 (by simp [Op.operands, Call.operands]) _ rfl)
        go_simp
      · obtain rfl := Option.some.inj ho
        obtain rfl := Option.some.inj hx
        have h33 : a'.tmps[33]?.getD undef = .pointer (some ⟨g, 0, none⟩) := (Array.getD_eq_getD_getElem? ..).symm.trans (hop 33 (by simp [Op.operands, Call.operands]) _ rfl)
        go_simp
      · obtain rfl := Option.some.inj ho
        obtain rfl := Option.some.inj hx
        have h34 : a'.tmps[34]?.getD undef = .pointer (some ⟨g, 12, none⟩) := (Array.getD_eq_getD_getElem? ..).symm.trans (hop 34 (by simp [Op.operands, Call.operands]) _ rfl)
        have k12 := (HU.out.k.call hG).cell 12
        go_simp
      · obtain rfl := Option.some.inj ho
        obtain rfl := Option.some.inj hx
        have h2 : a'.tmps[2]?.getD undef = _ := (Array.getD_eq_getD_getElem? ..).symm.trans (hop 2 (by simp [Op.operands, Call.operands]))
        go_simp
      · obtain rfl := Option.some.inj ho
        obtain rfl := Option.some.inj hx
        have h8 : a'.tmps[8]?.getD undef = _ := (Array.getD_eq_getD_getElem? ..).symm.trans (hop 8 (by simp [Op.operands, Call.operands]))
        go_simp
      · obtain rfl := Option.some.inj ho
        obtain rfl := Option.some.inj hx
        have h37 : a'.tmps[37]?.getD undef = .pointer (some ⟨g, 0, none⟩) := (Array.getD_eq_getD_getElem? ..).symm.trans (hop 37 (by simp [Op.operands, Call.operands]) _ rfl)
        go_simp
      · obtain rfl := Option.some.inj ho
        obtain rfl := Option.some.inj hx
        have h38 : a'.tmps[38]?.getD undef = .pointer (some ⟨g, 0, none⟩) := (Array.getD_eq_getD_getElem? ..).symm.trans (hop 38 (by simp [Op.operands, Call.operands]) _ rfl)
        go_simp
      · obtain rfl := Option.some.inj ho
        obtain rfl := Option.some.inj hx
        have h39 : a'.tmps[39]?.getD undef = .pointer (some ⟨g, 0, none⟩) := (Array.getD_eq_getD_getElem? ..).symm.trans (hop 39 (by simp [Op.operands, Call.operands]) _ rfl)
        go_simp
      · obtain rfl := Option.some.inj ho
        obtain rfl := Option.some.inj hx
        have h40 : a'.tmps[40]?.getD undef = .pointer (some ⟨g, 1, none⟩) := (Array.getD_eq_getD_getElem? ..).symm.trans (hop 40 (by simp [Op.operands, Call.operands]) _ rfl)
        have k1 := (HU.out.k.call hG).cell 1
        go_simp
      · exact absurd rfl hne
      · cases hx
      · cases hx
    · intro o ho a' w' hG hop
      obtain rfl := Option.some.inj ho
      have h30 : a'.tmps[30]?.getD undef = .agg #[i 0, .slice none 0 0] := (Array.getD_eq_getD_getElem? ..).symm.trans (hop () 30 (by simp [Op.operands, Call.operands]) _ rfl)
      have h35 : a'.tmps[35]?.getD undef = .slice none 0 0 := (Array.getD_eq_getD_getElem? ..).symm.trans (hop () 35 (by simp [Op.operands, Call.operands]) _ rfl)
      have h36 : a'.tmps[36]?.getD undef = .string id := (Array.getD_eq_getD_getElem? ..).symm.trans (hop () 36 (by simp [Op.operands, Call.operands]) _ rfl)
      have h41 : a'.tmps[41]?.getD undef = i 0 := (Array.getD_eq_getD_getElem? ..).symm.trans (hop () 41 (by simp [Op.operands, Call.operands]) _ rfl)
      refine Reg4.StepOk.mono (R := fun v W => v = .agg #[i 4, i 4, .string ⟨#[]⟩] ∧ Hid (Below w'.heap.size w' W)) ?_ (fun v W h => ?_)
      · go_simp
        refine (HL.out _).mono ?_
        rintro e w5 ⟨rfl, hb⟩
        exact ⟨_, rfl, rfl, hb⟩
      · obtain ⟨rfl, hb⟩ := h
        exact ⟨(), rfl, trivial, hb.out⟩
    · intro o ho a' w'
      obtain rfl := Option.some.inj ho
      first | kernel_rfl | rfl
    · intro γ vals p w' hG hF hK hp hv hpv
      have hv0 : vals 0 = .pointer (some ⟨g, 0, none⟩) := hv 0 _ (by omega) rfl
      have hv1 : vals 1 = .pointer (some ⟨g, 0, none⟩) := hv 1 _ (by omega) rfl
      have hv2 : vals 2 = .pointer (some ⟨g, 0, none⟩) := hv 2 _ (by omega) rfl
      have hv3 : vals 3 = .pointer (some ⟨g, 10, none⟩) := hv 3 _ (by omega) rfl
      have hv4 : vals 4 = .agg #[i 0, .slice none 0 0] := hv 4 _ (by omega) rfl
      have hv5 : vals 5 = .pointer (some ⟨g, 0, none⟩) := hv 5 _ (by omega) rfl
      have hv6 : vals 6 = .pointer (some ⟨g, 0, none⟩) := hv 6 _ (by omega) rfl
      have hv7 : vals 7 = .pointer (some ⟨g, 0, none⟩) := hv 7 _ (by omega) rfl
      have hv8 : vals 8 = .pointer (some ⟨g, 12, none⟩) := hv 8 _ (by omega) rfl
      have hv9 : vals 9 = .slice none 0 0 := hv 9 _ (by omega) rfl
      have hv10 : vals 10 = .string id := hv 10 _ (by omega) rfl
      have hv11 : vals 11 = .pointer (some ⟨g, 0, none⟩) := hv 11 _ (by omega) rfl
      have hv12 : vals 12 = .pointer (some ⟨g, 0, none⟩) := hv 12 _ (by omega) rfl
      have hv13 : vals 13 = .pointer (some ⟨g, 0, none⟩) := hv 13 _ (by omega) rfl
      have hv14 : vals 14 = .pointer (some ⟨g, 1, none⟩) := hv 14 _ (by omega) rfl
      have hv15 : vals 15 = i 0 := hv 15 _ (by omega) rfl
      have hv16 : vals 16 = .agg #[i 4, i 4, .string ⟨#[]⟩] := hv 16 _ (by omega) rfl
      simp only [Reg4.puts, Reg4.dstOf, List.range, List.range.loop, if_true, List.drop_succ_cons, List.drop_zero, hpv, hv0, hv1, hv2, hv3, hv4, hv5, hv6, hv7, hv8, hv9, hv10, hv11, hv12, hv13, hv14, hv15, hv16]
      clear hv hpv hv0 hv1 hv2 hv3 hv4 hv5 hv6 hv7 hv8 hv9 hv10 hv11 hv12 hv13 hv14 hv15 hv16
      generalize vals 18 = zst
      simp [Act.put]
      go_wp2_with fail
      go_meet
      exact ⟨p, rfl, hK, hG⟩
  case rest =>
  obtain ⟨p, rfl, hd, hb⟩ := hcut.out
  clear hcut HL
  have HUx := Lib.hid (HU.out.call hb)
  have HRx := Lib.hid (HR.out.call hb)
  have HSx := Lib.hid (HS.out.call hb)
  have HBx := Lib.hid (below_call HB.out hb)
  have HDx := Lib.hid hd
  clear hb hd HU HR HS HB
  go_wp2_with fail
  refine (runs21 w1.heap.size g cnG cnG true 5 _ wc HUx.out).mono ?_
  rintro e w5 ⟨rfl, hb⟩
  have HU := Lib.hid (HUx.out.call hb)
  have HR := Lib.hid (HRx.out.call hb)
  have HS := Lib.hid (HSx.out.call hb)
  have HB := Lib.hid (below_call HBx.out hb)
  have HD := Lib.hid (HDx.out.call hb)
  clear hb HUx HRx HSx HBx HDx
  have k6 : w5.cell? ⟨g, 6, none⟩ = some (.slice (some ⟨bC, 0, none⟩) 2 dC) := HU.out.k.cell 6
  have k2 : w5.cell? ⟨g, 2, none⟩ = some (.bool true) := HU.out.k.cell 2
  have kd := HD.out.cell
  obtain ⟨x, o, e1, r⟩ := CnsAt.at_ (j := 0) HU.out.a.at_.C (by simp)
  obtain ⟨rfl, rfl⟩ : bC = x ∧ 0 = o := by simpa using e1
  have r0 := (r w5 (Kept.refl _)).1
  simp at r0
  clear r e1
  go_wp2_with fail
  refine (ask1 g (dS cnG cnG true 5) _ 1 id w5 HU.out.k ⟨rfl, rfl, rfl, rfl, rfl, rfl, rfl, rfl⟩ ⟨by omega, by omega⟩ HT.out HSZ.out).mono ?_
  clear k6 k2 kd r0
  rintro e w6 ⟨w7, q, o, t, rfl, hb, rfl, hq, ho, ht⟩
  obtain ⟨Aq, nq, cq, rfl⟩ := own_sl hq
  obtain ⟨Ao, co, rfl⟩ := ho.nil_form
  obtain ⟨As, cs, rfl⟩ := ht.nil_form
  have hk := HU.out.k.call hb
  have h0 := hs0.out
  have h1 := hgr.out
  have HK7 := Lib.hid (row_blk (stA { dS cnG cnG true 5 with nx := 2 } { (⟨.slice (some ⟨bC, 0, none⟩) 2 dC, .slice (some ⟨bM, 0, none⟩) 2 dM, .slice (some ⟨bT, 0, none⟩) 2 dT, .slice none 0 0, .slice none 0 0, .slice none 0 0, .slice none 0 0, .slice none 0 0, .slice none 0 0, .slice none 0 0, .slice none 0 0, .slice (some ⟨bO, 0, none⟩) 2 dO, .slice (some ⟨bL, 0, none⟩) 2 dL, .slice (some ⟨bS, 0, none⟩) 2 dS2⟩ : Sl) with Q := .slice Aq nq cq, O := .slice Ao 0 co, S := .slice As 0 cs }) hk)
  have HR7 := Lib.hid (row_other (stA { dS cnG cnG true 5 with nx := 2 } { (⟨.slice (some ⟨bC, 0, none⟩) 2 dC, .slice (some ⟨bM, 0, none⟩) 2 dM, .slice (some ⟨bT, 0, none⟩) 2 dT, .slice none 0 0, .slice none 0 0, .slice none 0 0, .slice none 0 0, .slice none 0 0, .slice none 0 0, .slice none 0 0, .slice none 0 0, .slice (some ⟨bO, 0, none⟩) 2 dO, .slice (some ⟨bL, 0, none⟩) 2 dL, .slice (some ⟨bS, 0, none⟩) 2 dS2⟩ : Sl) with Q := .slice Aq nq cq, O := .slice Ao 0 co, S := .slice As 0 cs }) (HR.out.call hb) (show w.heap.size + 1 ≠ g by omega))
  have HB7 := Lib.hid (row_below (stA { dS cnG cnG true 5 with nx := 2 } { (⟨.slice (some ⟨bC, 0, none⟩) 2 dC, .slice (some ⟨bM, 0, none⟩) 2 dM, .slice (some ⟨bT, 0, none⟩) 2 dT, .slice none 0 0, .slice none 0 0, .slice none 0 0, .slice none 0 0, .slice none 0 0, .slice none 0 0, .slice none 0 0, .slice none 0 0, .slice (some ⟨bO, 0, none⟩) 2 dO, .slice (some ⟨bL, 0, none⟩) 2 dL, .slice (some ⟨bS, 0, none⟩) 2 dS2⟩ : Sl) with Q := .slice Aq nq cq, O := .slice Ao 0 co, S := .slice As 0 cs }) (below_call HB.out hb) (show w.heap.size ≤ g by omega))
  have HQ7 := Lib.hid (own_rowTy hq hk (by decide) (stA { dS cnG cnG true 5 with nx := 2 } { (⟨.slice (some ⟨bC, 0, none⟩) 2 dC, .slice (some ⟨bM, 0, none⟩) 2 dM, .slice (some ⟨bT, 0, none⟩) 2 dT, .slice none 0 0, .slice none 0 0, .slice none 0 0, .slice none 0 0, .slice none 0 0, .slice none 0 0, .slice none 0 0, .slice none 0 0, .slice (some ⟨bO, 0, none⟩) 2 dO, .slice (some ⟨bL, 0, none⟩) 2 dL, .slice (some ⟨bS, 0, none⟩) 2 dS2⟩ : Sl) with Q := .slice Aq nq cq, O := .slice Ao 0 co, S := .slice As 0 cs }))
  have HA7 := Lib.hid (StO.rowTyD (HU.out.a.call hb) hk (stA { dS cnG cnG true 5 with nx := 2 } { (⟨.slice (some ⟨bC, 0, none⟩) 2 dC, .slice (some ⟨bM, 0, none⟩) 2 dM, .slice (some ⟨bT, 0, none⟩) 2 dT, .slice none 0 0, .slice none 0 0, .slice none 0 0, .slice none 0 0, .slice none 0 0, .slice none 0 0, .slice none 0 0, .slice none 0 0, .slice (some ⟨bO, 0, none⟩) 2 dO, .slice (some ⟨bL, 0, none⟩) 2 dL, .slice (some ⟨bS, 0, none⟩) 2 dS2⟩ : Sl) with Q := .slice Aq nq cq, O := .slice Ao 0 co, S := .slice As 0 cs }))
  have HOT : Hid (MsAt w (.slice Ao 0 co) [] ∧ MsAt w (.slice As 0 cs) []) := ⟨MsAt.any ho, MsAt.any ht⟩
  clear hq ho ht hk h0 h1 hb HU HR HS HB HD
  generalize w7.setRow g _ = w8 at *
  go_wp2_with (first
    | (refine wpList_load_row rfl 43 (.tmp 111) rfl g rfl 110 (stA { dS cnG cnG true 5 with nx := 2 } { (⟨.slice (some ⟨bC, 0, none⟩) 2 dC, .slice (some ⟨bM, 0, none⟩) 2 dM, .slice (some ⟨bT, 0, none⟩) 2 dT, .slice none 0 0, .slice none 0 0, .slice none 0 0, .slice none 0 0, .slice none 0 0, .slice none 0 0, .slice none 0 0, .slice none 0 0, .slice (some ⟨bO, 0, none⟩) 2 dO, .slice (some ⟨bL, 0, none⟩) 2 dL, .slice (some ⟨bS, 0, none⟩) 2 dS2⟩ : Sl) with Q := .slice Aq nq cq, O := .slice Ao 0 co, S := .slice As 0 cs }) (0, 0) _ HK7.out Tryz.underlying43 rfl (by kernel_rfl) ?_)
    | (refine wpList_store_rowTo rfl 43 (.tmp 6) (.tmp 112) rfl rfl (w.heap.size + 1) (stA { dS cnG cnG true 5 with nx := 2 } { (⟨.slice (some ⟨bC, 0, none⟩) 2 dC, .slice (some ⟨bM, 0, none⟩) 2 dM, .slice (some ⟨bT, 0, none⟩) 2 dT, .slice none 0 0, .slice none 0 0, .slice none 0 0, .slice none 0 0, .slice none 0 0, .slice none 0 0, .slice none 0 0, .slice none 0 0, .slice (some ⟨bO, 0, none⟩) 2 dO, .slice (some ⟨bL, 0, none⟩) 2 dL, .slice (some ⟨bS, 0, none⟩) 2 dS2⟩ : Sl) with Q := .slice Aq nq cq, O := .slice Ao 0 co, S := .slice As 0 cs }) (by kernel_rfl) (by kernel_rfl) 43 zA HR7.out (by kernel_rfl) (by kernel_rfl) (by kernel_rfl) ?_))
  refine bodyPost_ret (results_cell2 rfl _ _ (w.heap.size + 1) 43 (stA { dS cnG cnG true 5 with nx := 2 } { (⟨.slice (some ⟨bC, 0, none⟩) 2 dC, .slice (some ⟨bM, 0, none⟩) 2 dM, .slice (some ⟨bT, 0, none⟩) 2 dT, .slice none 0 0, .slice none 0 0, .slice none 0 0, .slice none 0 0, .slice none 0 0, .slice none 0 0, .slice none 0 0, .slice none 0 0, .slice (some ⟨bO, 0, none⟩) 2 dO, .slice (some ⟨bL, 0, none⟩) 2 dL, .slice (some ⟨bS, 0, none⟩) 2 dS2⟩ : Sl) with Q := .slice Aq nq cq, O := .slice Ao 0 co, S := .slice As 0 cs }) (0, 0) _ rfl (row_blk _ HR7.out) Tryz.underlying43 rfl (by kernel_rfl)) rfl ?_
  have h0 := hs0.out
  refine ⟨_, _, _, _, rfl, ?_, Own.at_ (own_rowTy HQ7.out HR7.out (by decide) _) (by omega), MsAt.any HOT.out.1, MsAt.any HOT.out.2, row_below _ HB7.out (by omega), by kernel_rfl⟩
  exact StO.at_ ⟨Own.row_keep HA7.out.C h0 _, Own.row_keep HA7.out.M h0 _, Own.row_keep HA7.out.T h0 _, rfl, rfl, rfl, rfl, rfl, rfl, rfl, rfl, Own.row_keep HA7.out.OV h0 _, Own.row_keep HA7.out.LM h0 _, Own.row_keep HA7.out.SH h0 _⟩

set_option maxRecDepth 100000 in
set_option maxHeartbeats 4000000 in
theorem present1false (l : Sl) (id : ByteArray) (w : World) (h : StAt w (dS cnG cnG false 5) l) (ht : IdW.identOk id = true) (hs : id.size ≤ maxLen) :
    Calls Tryz.prog 11 #[.agg (stA (dS cnG cnG false 5) l), i 1, .string id] w fun e w' => e = .returned (.tuple #[.agg (stA (dS cnG cnG false 5) l), i 15]) ∧ Below w.heap.size w w' := by
  have HO : Hid (∀ W, Below w.heap.size w W → _) := fun W hb => openYes cnG cnG false 5 1 l W (h.call hb) ⟨by omega, by omega⟩
  have HI : Hid (∀ W, Calls Tryz.prog 41 #[.string id] W fun e w' => e = .returned (.bool true) ∧ Below W.heap.size W w') := fun W => by
    have := IdW.valid_ id W hs
    rw [ht] at this
    exact this
  have HL := Lib.hid (local0 id)
  have HT := Lib.hid ht
  have HSZ := Lib.hid hs
  obtain ⟨AC, cC, AM, cM, AT, cT, AOV, cOV, ALM, cLM, ASH, cSH, rfl⟩ := formsD h
  clear h ht hs
  have HS := Lib.hid ((Blk.new w 43 (stA (dS cnG cnG false 5) ⟨.slice AC 2 cC, .slice AM 2 cM, .slice AT 2 cT, .slice none 0 0, .slice none 0 0, .slice none 0 0, .slice none 0 0, .slice none 0 0, .slice none 0 0, .slice none 0 0, .slice none 0 0, .slice AOV 2 cOV, .slice ALM 2 cLM, .slice ASH 2 cSH⟩)).alloc (.cells zA 43))
  have HR := Lib.hid (Blk.new (w.alloc (.cells (stA (dS cnG cnG false 5) ⟨.slice AC 2 cC, .slice AM 2 cM, .slice AT 2 cT, .slice none 0 0, .slice none 0 0, .slice none 0 0, .slice none 0 0, .slice none 0 0, .slice none 0 0, .slice none 0 0, .slice none 0 0, .slice AOV 2 cOV, .slice ALM 2 cLM, .slice ASH 2 cSH⟩) 43)) 43 zA)
  have HB := Lib.hid (below_alloc (below_new w (.cells (stA (dS cnG cnG false 5) ⟨.slice AC 2 cC, .slice AM 2 cM, .slice AT 2 cT, .slice none 0 0, .slice none 0 0, .slice none 0 0, .slice none 0 0, .slice none 0 0, .slice none 0 0, .slice none 0 0, .slice none 0 0, .slice AOV 2 cOV, .slice ALM 2 cLM, .slice ASH 2 cSH⟩) 43)) (.cells zA 43))
  have hs1 : (w.alloc (.cells (stA (dS cnG cnG false 5) ⟨.slice AC 2 cC, .slice AM 2 cM, .slice AT 2 cT, .slice none 0 0, .slice none 0 0, .slice none 0 0, .slice none 0 0, .slice none 0 0, .slice none 0 0, .slice none 0 0, .slice none 0 0, .slice AOV 2 cOV, .slice ALM 2 cLM, .slice ASH 2 cSH⟩) 43)).heap.size = w.heap.size + 1 := by simp
  rw [hs1] at HR
  clear hs1
  go_enter Tryz.func11, Tryz.ntmps11
  go_upto_region 1 with (fail)
  generalize (w.alloc (.cells _ 43)).alloc (.cells _ 43) = w1 at *
  go_wp2_with (refine wpList_load_row rfl 43 (.tmp 3) rfl w.heap.size rfl 43 (stA (dS cnG cnG false 5) ⟨.slice AC 2 cC, .slice AM 2 cM, .slice AT 2 cT, .slice none 0 0, .slice none 0 0, .slice none 0 0, .slice none 0 0, .slice none 0 0, .slice none 0 0, .slice none 0 0, .slice none 0 0, .slice AOV 2 cOV, .slice ALM 2 cLM, .slice ASH 2 cSH⟩) (0, 0) _ HS.out Tryz.underlying43 rfl (by kernel_rfl) ?_)
  refine (HO.out w1 HB.out).mono ?_
  rintro e w2 ⟨g, l', rfl, hu, hg, hb⟩
  obtain ⟨bC, dC, bM, dM, bT, dT, bO, dO, bL, dL, bS, dS2, rfl⟩ := dform hu.a
  have HUx := Lib.hid hu
  have HRx := Lib.hid (HR.out.call hb)
  have HSx := Lib.hid (HS.out.call hb)
  have HBx := Lib.hid (below_call HB.out hb)
  have hs1 : w.heap.size + 1 < w1.heap.size := HR.out.lt
  have hgr : Hid (w.heap.size + 1 < g) := by show _ < _; omega
  have hs0 : Hid (w.heap.size + 1 < w1.heap.size) := hs1
  clear hu hg hb hs1 HR HB HS HO
  go_wp2_with fail
  refine (HI.out _).mono ?_
  rintro e w3 ⟨rfl, hb⟩
  have HU := Lib.hid (HUx.out.call hb)
  have HR := Lib.hid (HRx.out.call hb)
  have HS := Lib.hid (HSx.out.call hb)
  have HB := Lib.hid (below_call HBx.out hb)
  clear hb HUx HRx HSx HBx HI
  go_upto_region 6 with (fail)
  go_cut [10] (fun s10 wd => Hid (∃ p, s10 = .pointer (some ⟨p, 0, none⟩) ∧ Blk wd p 112 #[i 4, i 4, .string ⟨#[]⟩] ∧ Below w3.heap.size w3 wd))
  case first =>
    refine RegA.region (Γ := Unit) 19 (fun γ k => match k with | 0 => some (.pointer (some ⟨g, 0, none⟩)) | 1 => some (.pointer (some ⟨g, 0, none⟩)) | 2 => some (.pointer (some ⟨g, 0, none⟩)) | 3 => some (.pointer (some ⟨g, 10, none⟩)) | 4 => some (.agg #[i 0, .slice none 0 0]) | 5 => some (.pointer (some ⟨g, 0, none⟩)) | 6 => some (.pointer (some ⟨g, 0, none⟩)) | 7 => some (.pointer (some ⟨g, 0, none⟩)) | 8 => some (.pointer (some ⟨g, 12, none⟩)) | 9 => some (.slice none 0 0) | 10 => some (.string id) | 11 => some (.pointer (some ⟨g, 0, none⟩)) | 12 => some (.pointer (some ⟨g, 0, none⟩)) | 13 => some (.pointer (some ⟨g, 0, none⟩)) | 14 => some (.pointer (some ⟨g, 1, none⟩)) | 15 => some (i 0) | 16 => some (.agg #[i 4, i 4, .string ⟨#[]⟩]) | 17 => none | 18 => none | _ => none) (fun _ _ => True) 112 #[i 0, i 0, .string ⟨#[]⟩] (fun _ => #[i 4, i 4, .string ⟨#[]⟩]) 17 16 18 10 42 16 (by kernel_rfl) (by kernel_rfl) (Reg4.in_of (n := 113) (by kernel_rfl) rfl) (by decide) (fun _ => rfl) (fun _ => rfl) (fun _ => rfl) ?_ (fun _ _ _ h _ => h) (fun _ _ _ _ h _ _ => h) rfl rfl ?_ (fun _ => by kernel_rfl) (fun _ => rfl) (fun _ => by kernel_rfl) ?_ ?_ ?_ ?_
    · intro γ k hk h1 h2
      have hk : k = 0 ∨ k = 1 ∨ k = 2 ∨ k = 3 ∨ k = 4 ∨ k = 5 ∨ k = 6 ∨ k = 7 ∨ k = 8 ∨ k = 9 ∨ k = 10 ∨ k = 11 ∨ k = 12 ∨ k = 13 ∨ k = 14 ∨ k = 15 ∨ k = 16 ∨ k = 17 ∨ k = 18 := by omega
      rcases hk with rfl | rfl | rfl | rfl | rfl | rfl | rfl | rfl | rfl | rfl | rfl | rfl | rfl | rfl | rfl | rfl | rfl | rfl | rfl
      all_goals first | exact ⟨_, rfl⟩ | exact absurd rfl h1 | exact absurd rfl h2
    · intro o ho
      obtain rfl := Option.some.inj ho
      exact ⟨rfl, by first | exact ⟨_, by simp, rfl, rfl⟩ | decide⟩
    · intro γ idx o x hj hne ho hx a' w' hG hop
      have hj' : idx = 0 ∨ idx = 1 ∨ idx = 2 ∨ idx = 3 ∨ idx = 4 ∨ idx = 5 ∨ idx = 6 ∨ idx = 7 ∨ idx = 8 ∨ idx = 9 ∨ idx = 10 ∨ idx = 11 ∨ idx = 12 ∨ idx = 13 ∨ idx = 14 ∨ idx = 15 ∨ idx = 16 ∨ idx = 17 ∨ idx = 18 := by omega
      clear hj
      rcases hj' with rfl | rfl | rfl | rfl | rfl | rfl | rfl | rfl | rfl | rfl | rfl | rfl | rfl | rfl | rfl | rfl | rfl | rfl | rfl
      · obtain rfl := Option.some.inj ho
        obtain rfl := Option.some.inj hx
        have h8 : a'.tmps[8]?.getD undef = _ := (Array.getD_eq_getD_getElem? ..).symm.trans (hop 8 (by simp [Op.operands, Call.operands]))
        go_simp
      · obtain rfl := Option.some.inj ho
        obtain rfl := Option.some.inj hx
        have h26 : a'.tmps[26]?.getD undef = .pointer (some ⟨g, 0, none⟩) := (Array.getD_eq_getD_getElem? ..).symm.trans (hop 26 (by simp [Op.operands, Call.operands]) _ rfl)
        go_simp
      · obtain rfl := Option.some.inj ho
        obtain rfl := Option.some.inj hx
        have h27 : a'.tmps[27]?.getD undef = .pointer (some ⟨g, 0, none⟩) := (Array.getD_eq_getD_getElem? ..).symm.trans (hop 27 (by simp [Op.operands, Call.operands]) _ rfl)
        go_simp
      · obtain rfl := Option.some.inj ho
        obtain rfl := Option.some.inj hx
        have h28 : a'.tmps[28]?.getD undef = .pointer (some ⟨g, 0, none⟩) := (Array.getD_eq_getD_getElem? ..).symm.trans (hop 28 (by simp [Op.operands, Call.operands]) _ rfl)
        go_simp
      · obtain rfl := Option.some.inj ho
        obtain rfl := Option.some.inj hx
        have h29 : a'.tmps[29]?.getD undef = .pointer (some ⟨g, 10, none⟩) := (Array.getD_eq_getD_getElem? ..).symm.trans (hop 29 (by simp [Op.operands, Call.operands]) _ rfl)
        have k10 := (HU.out.k.call hG).cell 10
        have k11 := (HU.out.k.call hG).cell 11
        go_simp
      · obtain rfl := Option.some.inj ho
        obtain rfl := Option.some.inj hx
        have h8 : a'.tmps[8]?.getD undef = _ := (Array.getD_eq_getD_getElem? ..).symm.trans (hop 8 (by simp [Op.operands, Call.operands]))
        go_simp
      · obtain rfl := Option.some.inj ho
        obtain rfl := Option.some.inj hx
        have h31 : a'.tmps[31]?.getD undef = .pointer (some ⟨g, 0, none⟩) := (Array.getD_eq_getD_getElem? ..).symm.trans (hop 31 (by simp [Op.operands, Call.operands]) _ rfl)
        go_simp
      · obtain rfl := Option.some.inj ho
        obtain rfl := Option.some.inj hx
        have h32 : a'.tmps[32]?.getD undef = .pointer (some ⟨g, 0, none⟩) := (Array.getD_eq_getD_getElem? ..).symm.trans (hop 32 (by simp [Op.operands, Call.operands]) _ rfl)
        go_simp
      · obtain rfl := Option.some.inj ho
        obtain rfl := Option.some.inj hx
        have h33 : a'.tmps[33]?.getD undef = .pointer (some ⟨g, 0, none⟩) := (Array.getD_eq_getD_getElem? ..).symm.trans (hop 33 (by simp [Op.operands, Call.operands]) _ rfl)
        go_simp
      · obtain rfl := Option.some.inj ho
        obtain rfl := Option.some.inj hx
        have h34 : a'.tmps[34]?.getD undef = .pointer (some ⟨g, 12, none⟩) := (Array.getD_eq_getD_getElem? ..).symm.trans (hop 34 (by simp [Op.operands, Call.operands]) _ rfl)
        have k12 := (HU.out.k.call hG).cell 12
        go_simp
      · obtain rfl := Option.some.inj ho
        obtain rfl := Option.some.inj hx
        have h2 : a'.tmps[2]?.getD undef = _ := (Array.getD_eq_getD_getElem? ..).symm.trans (hop 2 (by simp [Op.operands, Call.operands]))
        go_simp
      · obtain rfl := Option.some.inj ho
        obtain rfl := Option.some.inj hx
        have h8 : a'.tmps[8]?.getD undef = _ := (Array.getD_eq_getD_getElem? ..).symm.trans (hop 8 (by simp [Op.operands, Call.operands]))
        go_simp
      · obtain rfl := Option.some.inj ho
        obtain rfl := Option.some.inj hx
        have h37 : a'.tmps[37]?.getD undef = .pointer (some ⟨g, 0, none⟩) := (Array.getD_eq_getD_getElem? ..).symm.trans (hop 37 (by simp [Op.operands, Call.operands]) _ rfl)
        go_simp
      · obtain rfl := Option.some.inj ho
        obtain rfl := Option.some.inj hx
        have h38 : a'.tmps[38]?.getD undef = .pointer (some ⟨g, 0, none⟩) := (Array.getD_eq_getD_getElem? ..).symm.trans (hop 38 (by simp [Op.operands, Call.operands]) _ rfl)
        go_simp
      · obtain rfl := Option.some.inj ho
        obtain rfl := Option.some.inj hx
        have h39 : a'.tmps[39]?.getD undef = .pointer (some ⟨g, 0, none⟩) := (Array.getD_eq_getD_getElem? ..).symm.trans (hop 39 (by simp [Op.operands, Call.operands]) _ rfl)
        go_simp
      · obtain rfl := Option.some.inj ho
        obtain rfl := Option.some.inj hx
        have h40 : a'.tmps[40]?.getD undef = .pointer (some ⟨g, 1, none⟩) := (Array.getD_eq_getD_getElem? ..).symm.trans (hop 40 (by simp [Op.operands, Call.operands]) _ rfl)
        have k1 := (HU.out.k.call hG).cell 1
        go_simp
      · exact absurd rfl hne
      · cases hx
      · cases hx
    · intro o ho a' w' hG hop
      obtain rfl := Option.some.inj ho
      have h30 : a'.tmps[30]?.getD undef = .agg #[i 0, .slice none 0 0] := (Array.getD_eq_getD_getElem? ..).symm.trans (hop () 30 (by simp [Op.operands, Call.operands]) _ rfl)
      have h35 : a'.tmps[35]?.getD undef = .slice none 0 0 := (Array.getD_eq_getD_getElem? ..).symm.trans (hop () 35 (by simp [Op.operands, Call.operands]) _ rfl)
      have h36 : a'.tmps[36]?.getD undef = .string id := (Array.getD_eq_getD_getElem? ..).symm.trans (hop () 36 (by simp [Op.operands, Call.operands]) _ rfl)
      have h41 : a'.tmps[41]?.getD undef = i 0 := (Array.getD_eq_getD_getElem? ..).symm.trans (hop () 41 (by simp [Op.operands, Call.operands]) _ rfl)
      refine Reg4.StepOk.mono (R := fun v W => v = .agg #[i 4, i 4, .string ⟨#[]⟩] ∧ Hid (Below w'.heap.size w' W)) ?_ (fun v W h => ?_)
      · go_simp
        refine (HL.out _).mono ?_
        rintro e w5 ⟨rfl, hb⟩
        exact ⟨_, rfl, rfl, hb⟩
      · obtain ⟨rfl, hb⟩ := h
        exact ⟨(), rfl, trivial, hb.out⟩
    · intro o ho a' w'
      obtain rfl := Option.some.inj ho
      first | kernel_rfl | rfl
    · intro γ vals p w' hG hF hK hp hv hpv
      have hv0 : vals 0 = .pointer (some ⟨g, 0, none⟩) := hv 0 _ (by omega) rfl
      have hv1 : vals 1 = .pointer (some ⟨g, 0, none⟩) := hv 1 _ (by omega) rfl
      have hv2 : vals 2 = .pointer (some ⟨g, 0, none⟩) := hv 2 _ (by omega) rfl
      have hv3 : vals 3 = .pointer (some ⟨g, 10, none⟩) := hv 3 _ (by omega) rfl
      have hv4 : vals 4 = .agg #[i 0, .slice none 0 0] := hv 4 _ (by omega) rfl
      have hv5 : vals 5 = .pointer (some ⟨g, 0, none⟩) := hv 5 _ (by omega) rfl
      have hv6 : vals 6 = .pointer (some ⟨g, 0, none⟩) := hv 6 _ (by omega) rfl
      have hv7 : vals 7 = .pointer (some ⟨g, 0, none⟩) := hv 7 _ (by omega) rfl
      have hv8 : vals 8 = .pointer (some ⟨g, 12, none⟩) := hv 8 _ (by omega) rfl
      have hv9 : vals 9 = .slice none 0 0 := hv 9 _ (by omega) rfl
      have hv10 : vals 10 = .string id := hv 10 _ (by omega) rfl
      have hv11 : vals 11 = .pointer (some ⟨g, 0, none⟩) := hv 11 _ (by omega) rfl
      have hv12 : vals 12 = .pointer (some ⟨g, 0, none⟩) := hv 12 _ (by omega) rfl
      have hv13 : vals 13 = .pointer (some ⟨g, 0, none⟩) := hv 13 _ (by omega) rfl
      have hv14 : vals 14 = .pointer (some ⟨g, 1, none⟩) := hv 14 _ (by omega) rfl
      have hv15 : vals 15 = i 0 := hv 15 _ (by omega) rfl
      have hv16 : vals 16 = .agg #[i 4, i 4, .string ⟨#[]⟩] := hv 16 _ (by omega) rfl
      simp only [Reg4.puts, Reg4.dstOf, List.range, List.range.loop, if_true, List.drop_succ_cons, List.drop_zero, hpv, hv0, hv1, hv2, hv3, hv4, hv5, hv6, hv7, hv8, hv9, hv10, hv11, hv12, hv13, hv14, hv15, hv16]
      clear hv hpv hv0 hv1 hv2 hv3 hv4 hv5 hv6 hv7 hv8 hv9 hv10 hv11 hv12 hv13 hv14 hv15 hv16
      generalize vals 18 = zst
      simp [Act.put]
      go_wp2_with fail
      go_meet
      exact ⟨p, rfl, hK, hG⟩
  case rest =>
  obtain ⟨p, rfl, hd, hb⟩ := hcut.out
  clear hcut HL
  have HUx := Lib.hid (HU.out.call hb)
  have HRx := Lib.hid (HR.out.call hb)
  have HSx := Lib.hid (HS.out.call hb)
  have HBx := Lib.hid (below_call HB.out hb)
  have HDx := Lib.hid hd
  clear hb hd HU HR HS HB
  go_wp2_with fail
  refine (runs21 w1.heap.size g cnG cnG false 5 _ wc HUx.out).mono ?_
  rintro e w5 ⟨rfl, hb⟩
  have HU := Lib.hid (HUx.out.call hb)
  have HR := Lib.hid (HRx.out.call hb)
  have HS := Lib.hid (HSx.out.call hb)
  have HB := Lib.hid (below_call HBx.out hb)
  have HD := Lib.hid (HDx.out.call hb)
  clear hb HUx HRx HSx HBx HDx
  have k6 : w5.cell? ⟨g, 6, none⟩ = some (.slice (some ⟨bC, 0, none⟩) 2 dC) := HU.out.k.cell 6
  have k2 : w5.cell? ⟨g, 2, none⟩ = some (.bool false) := HU.out.k.cell 2
  have kd := HD.out.cell
  obtain ⟨x, o, e1, r⟩ := CnsAt.at_ (j := 0) HU.out.a.at_.C (by simp)
  obtain ⟨rfl, rfl⟩ : bC = x ∧ 0 = o := by simpa using e1
  have r0 := (r w5 (Kept.refl _)).1
  simp at r0
  clear r e1
  go_wp2_with (first
    | (refine wpList_load_row rfl 43 (.tmp 3) rfl w.heap.size rfl 43 (stA (dS cnG cnG false 5) ⟨.slice AC 2 cC, .slice AM 2 cM, .slice AT 2 cT, .slice none 0 0, .slice none 0 0, .slice none 0 0, .slice none 0 0, .slice none 0 0, .slice none 0 0, .slice none 0 0, .slice none 0 0, .slice AOV 2 cOV, .slice ALM 2 cLM, .slice ASH 2 cSH⟩) (0, 0) _ HS.out Tryz.underlying43 rfl (by kernel_rfl) ?_)
    | (refine wpList_store_rowTo rfl 43 (.tmp 6) (.tmp 104) rfl rfl (w.heap.size + 1) (stA (dS cnG cnG false 5) ⟨.slice AC 2 cC, .slice AM 2 cM, .slice AT 2 cT, .slice none 0 0, .slice none 0 0, .slice none 0 0, .slice none 0 0, .slice none 0 0, .slice none 0 0, .slice none 0 0, .slice none 0 0, .slice AOV 2 cOV, .slice ALM 2 cLM, .slice ASH 2 cSH⟩) (by kernel_rfl) (by kernel_rfl) 43 zA HR.out (by kernel_rfl) (by kernel_rfl) (by kernel_rfl) ?_))
  refine bodyPost_ret (results_cell2 rfl _ _ (w.heap.size + 1) 43 (stA (dS cnG cnG false 5) ⟨.slice AC 2 cC, .slice AM 2 cM, .slice AT 2 cT, .slice none 0 0, .slice none 0 0, .slice none 0 0, .slice none 0 0, .slice none 0 0, .slice none 0 0, .slice none 0 0, .slice none 0 0, .slice AOV 2 cOV, .slice ALM 2 cLM, .slice ASH 2 cSH⟩) (0, 0) _ rfl (row_blk _ HR.out) Tryz.underlying43 rfl (by kernel_rfl)) rfl ?_
  exact ⟨rfl, row_below _ HB.out (by omega)⟩

set_option maxRecDepth 100000 in
set_option maxHeartbeats 4000000 in
theorem present2true (l : Sl) (id : ByteArray) (w : World) (h : StAt w (dS cnG cnG true 5) l) (ht : IdW.identOk id = true) (hs : id.size ≤ maxLen) :
    Calls Tryz.prog 11 #[.agg (stA (dS cnG cnG true 5) l), i 2, .string id] w fun e w' => ∃ l' q o t, e = .returned (.tuple #[.agg (stA { dS cnG cnG true 5 with nx := 2 } { l' with Q := q, O := o, S := t }), i 0]) ∧ StAt w' (dS cnG cnG true 5) l' ∧ MsAt w' q [⟨1, 1, 4, 2, id, ⟨#[]⟩⟩] ∧ MsAt w' o [] ∧ MsAt w' t [] ∧ Below w.heap.size w w' ∧ (stA { dS cnG cnG true 5 with nx := 2 } { l' with Q := q, O := o, S := t }).all (·.oneCell') = true := by
  have HO : Hid (∀ W, Below w.heap.size w W → _) := fun W hb => openYes cnG cnG true 5 2 l W (h.call hb) ⟨by omega, by omega⟩
  have HI : Hid (∀ W, Calls Tryz.prog 41 #[.string id] W fun e w' => e = .returned (.bool true) ∧ Below W.heap.size W w') := fun W => by
    have := IdW.valid_ id W hs
    rw [ht] at this
    exact this
  have HL := Lib.hid (local0 id)
  have HT := Lib.hid ht
  have HSZ := Lib.hid hs
  obtain ⟨AC, cC, AM, cM, AT, cT, AOV, cOV, ALM, cLM, ASH, cSH, rfl⟩ := formsD h
  clear h ht hs
  have HS := Lib.hid ((Blk.new w 43 (stA (dS cnG cnG true 5) ⟨.slice AC 2 cC, .slice AM 2 cM, .slice AT 2 cT, .slice none 0 0, .slice none 0 0, .slice none 0 0, .slice none 0 0, .slice none 0 0, .slice none 0 0, .slice none 0 0, .slice none 0 0, .slice AOV 2 cOV, .slice ALM 2 cLM, .slice ASH 2 cSH⟩)).alloc (.cells zA 43))
  have HR := Lib.hid (Blk.new (w.alloc (.cells (stA (dS cnG cnG true 5) ⟨.slice AC 2 cC, .slice AM 2 cM, .slice AT 2 cT, .slice none 0 0, .slice none 0 0, .slice none 0 0, .slice none 0 0, .slice none 0 0, .slice none 0 0, .slice none 0 0, .slice none 0 0, .slice AOV 2 cOV, .slice ALM 2 cLM, .slice ASH 2 cSH⟩) 43)) 43 zA)
  have HB := Lib.hid (below_alloc (below_new w (.cells (stA (dS cnG cnG true 5) ⟨.slice AC 2 cC, .slice AM 2 cM, .slice AT 2 cT, .slice none 0 0, .slice none 0 0, .slice none 0 0, .slice none 0 0, .slice none 0 0, .slice none 0 0, .slice none 0 0, .slice none 0 0, .slice AOV 2 cOV, .slice ALM 2 cLM, .slice ASH 2 cSH⟩) 43)) (.cells zA 43))
  have hs1 : (w.alloc (.cells (stA (dS cnG cnG true 5) ⟨.slice AC 2 cC, .slice AM 2 cM, .slice AT 2 cT, .slice none 0 0, .slice none 0 0, .slice none 0 0, .slice none 0 0, .slice none 0 0, .slice none 0 0, .slice none 0 0, .slice none 0 0, .slice AOV 2 cOV, .slice ALM 2 cLM, .slice ASH 2 cSH⟩) 43)).heap.size = w.heap.size + 1 := by simp
  rw [hs1] at HR
  clear hs1
  go_enter Tryz.func11, Tryz.ntmps11
  go_upto_region 1 with (fail)
  generalize (w.alloc (.cells _ 43)).alloc (.cells _ 43) = w1 at *
  go_wp2_with (refine wpList_load_row rfl 43 (.tmp 3) rfl w.heap.size rfl 43 (stA (dS cnG cnG true 5) ⟨.slice AC 2 cC, .slice AM 2 cM, .slice AT 2 cT, .slice none 0 0, .slice none 0 0, .slice none 0 0, .slice none 0 0, .slice none 0 0, .slice none 0 0, .slice none 0 0, .slice none 0 0, .slice AOV 2 cOV, .slice ALM 2 cLM, .slice ASH 2 cSH⟩) (0, 0) _ HS.out Tryz.underlying43 rfl (by kernel_rfl) ?_)
  refine (HO.out w1 HB.out).mono ?_
  rintro e w2 ⟨g, l', rfl, hu, hg, hb⟩
  obtain ⟨bC, dC, bM, dM, bT, dT, bO, dO, bL, dL, bS, dS2, rfl⟩ := dform hu.a
  have HUx := Lib.hid hu
  have HRx := Lib.hid (HR.out.call hb)
  have HSx := Lib.hid (HS.out.call hb)
  have HBx := Lib.hid (below_call HB.out hb)
  have hs1 : w.heap.size + 1 < w1.heap.size := HR.out.lt
  have hgr : Hid (w.heap.size + 1 < g) := by show _ < _; omega
  have hs0 : Hid (w.heap.size + 1 < w1.heap.size) := hs1
  clear hu hg hb hs1 HR HB HS HO
  go_wp2_with fail
  refine (HI.out _).mono ?_
  rintro e w3 ⟨rfl, hb⟩
  have HU := Lib.hid (HUx.out.call hb)
  have HR := Lib.hid (HRx.out.call hb)
  have HS := Lib.hid (HSx.out.call hb)
  have HB := Lib.hid (below_call HBx.out hb)
  clear hb HUx HRx HSx HBx HI
  go_upto_region 6 with (fail)
  go_cut [10] (fun s10 wd => Hid (∃ p, s10 = .pointer (some ⟨p, 0, none⟩) ∧ Blk wd p 112 #[i 4, i 4, .string ⟨#[]⟩] ∧ Below w3.heap.size w3 wd))
  case first =>
    refine RegA.region (Γ := Unit) 19 (fun γ k => match k with | 0 => some (.pointer (some ⟨g, 0, none⟩)) | 1 => some (.pointer (some ⟨g, 0, none⟩)) | 2 => some (.pointer (some ⟨g, 0, none⟩)) | 3 => some (.pointer (some ⟨g, 10, none⟩)) | 4 => some (.agg #[i 0, .slice none 0 0]) | 5 => some (.pointer (some ⟨g, 0, none⟩)) | 6 => some (.pointer (some ⟨g, 0, none⟩)) | 7 => some (.pointer (some ⟨g, 0, none⟩)) | 8 => some (.pointer (some ⟨g, 12, none⟩)) | 9 => some (.slice none 0 0) | 10 => some (.string id) | 11 => some (.pointer (some ⟨g, 0, none⟩)) | 12 => some (.pointer (some ⟨g, 0, none⟩)) | 13 => some (.pointer (some ⟨g, 0, none⟩)) | 14 => some (.pointer (some ⟨g, 1, none⟩)) | 15 => some (i 0) | 16 => some (.agg #[i 4, i 4, .string ⟨#[]⟩]) | 17 => none | 18 => none | _ => none) (fun _ _ => True) 112 #[i 0, i 0, .string ⟨#[]⟩] (fun _ => #[i 4, i 4, .string ⟨#[]⟩]) 17 16 18 10 42 16 (by kernel_rfl) (by kernel_rfl) (Reg4.in_of (n := 113) (by kernel_rfl) rfl) (by decide) (fun _ => rfl) (fun _ => rfl) (fun _ => rfl) ?_ (fun _ _ _ h _ => h) (fun _ _ _ _ h _ _ => h) rfl rfl ?_ (fun _ => by kernel_rfl) (fun _ => rfl) (fun _ => by kernel_rfl) ?_ ?_ ?_ ?_
    · intro γ k hk h1 h2
      have hk : k = 0 ∨ k = 1 ∨ k = 2 ∨ k = 3 ∨ k = 4 ∨ k = 5 ∨ k = 6 ∨ k = 7 ∨ k = 8 ∨ k = 9 ∨ k = 10 ∨ k = 11 ∨ k = 12 ∨ k = 13 ∨ k = 14 ∨ k = 15 ∨ k = 16 ∨ k = 17 ∨ k = 18 := by omega
      rcases hk with rfl | rfl | rfl | rfl | rfl | rfl | rfl | rfl | rfl | rfl | rfl | rfl | rfl | rfl | rfl | rfl | rfl | rfl | rfl
      all_goals first | exact ⟨_, rfl⟩ | exact absurd rfl h1 | exact absurd rfl h2
    · intro o ho
      obtain rfl := Option.some.inj ho
      exact ⟨rfl, by first | exact ⟨_, by simp, rfl, rfl⟩ | decide⟩
    · intro γ idx o x hj hne ho hx a' w' hG hop
      have hj' : idx = 0 ∨ idx = 1 ∨ idx = 2 ∨ idx = 3 ∨ idx = 4 ∨ idx = 5 ∨ idx = 6 ∨ idx = 7 ∨ idx = 8 ∨ idx = 9 ∨ idx = 10 ∨ idx = 11 ∨ idx = 12 ∨ idx = 13 ∨ idx = 14 ∨ idx = 15 ∨ idx = 16 ∨ idx = 17 ∨ idx = 18 := by omega
      clear hj
      rcases hj' with rfl | rfl | rfl | rfl | rfl | rfl | rfl | rfl | rfl | rfl | rfl | rfl | rfl | rfl | rfl | rfl | rfl | rfl | rfl
      · obtain rfl := Option.some.inj ho
        obtain rfl := Option.some.inj hx
        have h8 : a'.tmps[8]?.getD undef = _ := (Array.getD_eq_getD_getElem? ..).symm.trans (hop 8 (by simp [Op.operands, Call.operands]))
        go_simp
      · obtain rfl := Option.some.inj ho
        obtain rfl := Option.some.inj hx
        have h26 : a'.tmps[26]?.getD undef = .pointer (some ⟨g, 0, none⟩) := (Array.getD_eq_getD_getElem? ..).symm.trans (hop 26 (by simp [Op.operands, Call.operands]) _ rfl)
        go_simp
      · obtain rfl := Option.some.inj ho
        obtain rfl := Option.some.inj hx
        have h27 : a'.tmps[27]?.getD undef = .pointer (some ⟨g, 0, none⟩) := (Array.getD_eq_getD_getElem? ..).symm.trans (hop 27 (by simp [Op.operands, Call.operands]) _ rfl)
        go_simp
      · obtain rfl := Option.some.inj ho
        obtain rfl := Option.some.inj hx
        have h28 : a'.tmps[28]?.getD undef = .pointer (some ⟨g, 0, none⟩) := (Array.getD_eq_getD_getElem? ..).symm.trans (hop 28 (by simp [Op.operands, Call.operands]) _ rfl)
        go_simp
      · obtain rfl := Option.some.inj ho
        obtain rfl := Option.some.inj hx
        have h29 : a'.tmps[29]?.getD undef = .pointer (some ⟨g, 10, none⟩) := (Array.getD_eq_getD_getElem? ..).symm.trans (hop 29 (by simp [Op.operands, Call.operands]) _ rfl)
        have k10 := (HU.out.k.call hG).cell 10
        have k11 := (HU.out.k.call hG).cell 11
        go_simp
      · obtain rfl := Option.some.inj ho
        obtain rfl := Option.some.inj hx
        have h8 : a'.tmps[8]?.getD undef = _ := (Array.getD_eq_getD_getElem? ..).symm.trans (hop 8 (by simp [Op.operands, Call.operands]))
        go_simp
      · obtain rfl := Option.some.inj ho
        obtain rfl := Option.some.inj hx
        have h31 : a'.tmps[31]?.getD undef = .pointer (some ⟨g, 0, none⟩) := (Array.getD_eq_getD_getElem? ..).symm.trans (hop 31 (by simp [Op.operands, Call.operands]) _ rfl)
        go_simp
      · obtain rfl := Option.some.inj ho
        obtain rfl := Option.some.inj hx
        have h32 : a'.tmps[32]?.getD undef = .pointer (some ⟨g, 0, none⟩) := (Array.getD_eq_getD_getElem? ..).symm.trans (hop 32 (by simp [Op.operands, Call.operands]) _ rfl)
        go_simp
      · obtain rfl := Option.some.inj ho
        obtain rfl := Option.some.inj hx
        have h33 : a'.tmps[33]?.getD undef = .pointer (some ⟨g, 0, none⟩) := (Array.getD_eq_getD_getElem? ..).symm.trans (hop 33 (by simp [Op.operands, Call.operands]) _ rfl)
        go_simp
      · obtain rfl := Option.some.inj ho
        obtain rfl := Option.some.inj hx
        have h34 : a'.tmps[34]?.getD undef = .pointer (some ⟨g, 12, none⟩) := (Array.getD_eq_getD_getElem? ..).symm.trans (hop 34 (by simp [Op.operands, Call.operands]) _ rfl)
        have k12 := (HU.out.k.call hG).cell 12
        go_simp
      · obtain rfl := Option.some.inj ho
        obtain rfl := Option.some.inj hx
        have h2 : a'.tmps[2]?.getD undef = _ := (Array.getD_eq_getD_getElem? ..).symm.trans (hop 2 (by simp [Op.operands, Call.operands]))
        go_simp
      · obtain rfl := Option.some.inj ho
        obtain rfl := Option.some.inj hx
        have h8 : a'.tmps[8]?.getD undef = _ := (Array.getD_eq_getD_getElem? ..).symm.trans (hop 8 (by simp [Op.operands, Call.operands]))
        go_simp
      · obtain rfl := Option.some.inj ho
        obtain rfl := Option.some.inj hx
        have h37 : a'.tmps[37]?.getD undef = .pointer (some ⟨g, 0, none⟩) := (Array.getD_eq_getD_getElem? ..).symm.trans (hop 37 (by simp [Op.operands, Call.operands]) _ rfl)
        go_simp
      · obtain rfl := Option.some.inj ho
        obtain rfl := Option.some.inj hx
        have h38 : a'.tmps[38]?.getD undef = .pointer (some ⟨g, 0, none⟩) := (Array.getD_eq_getD_getElem? ..).symm.trans (hop 38 (by simp [Op.operands, Call.operands]) _ rfl)
        go_simp
      · obtain rfl := Option.some.inj ho
        obtain rfl := Option.some.inj hx
        have h39 : a'.tmps[39]?.getD undef = .pointer (some ⟨g, 0, none⟩) := (Array.getD_eq_getD_getElem? ..).symm.trans (hop 39 (by simp [Op.operands, Call.operands]) _ rfl)
        go_simp
      · obtain rfl := Option.some.inj ho
        obtain rfl := Option.some.inj hx
        have h40 : a'.tmps[40]?.getD undef = .pointer (some ⟨g, 1, none⟩) := (Array.getD_eq_getD_getElem? ..).symm.trans (hop 40 (by simp [Op.operands, Call.operands]) _ rfl)
        have k1 := (HU.out.k.call hG).cell 1
        go_simp
      · exact absurd rfl hne
      · cases hx
      · cases hx
    · intro o ho a' w' hG hop
      obtain rfl := Option.some.inj ho
      have h30 : a'.tmps[30]?.getD undef = .agg #[i 0, .slice none 0 0] := (Array.getD_eq_getD_getElem? ..).symm.trans (hop () 30 (by simp [Op.operands, Call.operands]) _ rfl)
      have h35 : a'.tmps[35]?.getD undef = .slice none 0 0 := (Array.getD_eq_getD_getElem? ..).symm.trans (hop () 35 (by simp [Op.operands, Call.operands]) _ rfl)
      have h36 : a'.tmps[36]?.getD undef = .string id := (Array.getD_eq_getD_getElem? ..).symm.trans (hop () 36 (by simp [Op.operands, Call.operands]) _ rfl)
      have h41 : a'.tmps[41]?.getD undef = i 0 := (Array.getD_eq_getD_getElem? ..).symm.trans (hop () 41 (by simp [Op.operands, Call.operands]) _ rfl)
      refine Reg4.StepOk.mono (R := fun v W => v = .agg #[i 4, i 4, .string ⟨#[]⟩] ∧ Hid (Below w'.heap.size w' W)) ?_ (fun v W h => ?_)
      · go_simp
        refine (HL.out _).mono ?_
        rintro e w5 ⟨rfl, hb⟩
        exact ⟨_, rfl, rfl, hb⟩
      · obtain ⟨rfl, hb⟩ := h
        exact ⟨(), rfl, trivial, hb.out⟩
    · intro o ho a' w'
      obtain rfl := Option.some.inj ho
      first | kernel_rfl | rfl
    · intro γ vals p w' hG hF hK hp hv hpv
      have hv0 : vals 0 = .pointer (some ⟨g, 0, none⟩) := hv 0 _ (by omega) rfl
      have hv1 : vals 1 = .pointer (some ⟨g, 0, none⟩) := hv 1 _ (by omega) rfl
      have hv2 : vals 2 = .pointer (some ⟨g, 0, none⟩) := hv 2 _ (by omega) rfl
      have hv3 : vals 3 = .pointer (some ⟨g, 10, none⟩) := hv 3 _ (by omega) rfl
      have hv4 : vals 4 = .agg #[i 0, .slice none 0 0] := hv 4 _ (by omega) rfl
      have hv5 : vals 5 = .pointer (some ⟨g, 0, none⟩) := hv 5 _ (by omega) rfl
      have hv6 : vals 6 = .pointer (some ⟨g, 0, none⟩) := hv 6 _ (by omega) rfl
      have hv7 : vals 7 = .pointer (some ⟨g, 0, none⟩) := hv 7 _ (by omega) rfl
      have hv8 : vals 8 = .pointer (some ⟨g, 12, none⟩) := hv 8 _ (by omega) rfl
      have hv9 : vals 9 = .slice none 0 0 := hv 9 _ (by omega) rfl
      have hv10 : vals 10 = .string id := hv 10 _ (by omega) rfl
      have hv11 : vals 11 = .pointer (some ⟨g, 0, none⟩) := hv 11 _ (by omega) rfl
      have hv12 : vals 12 = .pointer (some ⟨g, 0, none⟩) := hv 12 _ (by omega) rfl
      have hv13 : vals 13 = .pointer (some ⟨g, 0, none⟩) := hv 13 _ (by omega) rfl
      have hv14 : vals 14 = .pointer (some ⟨g, 1, none⟩) := hv 14 _ (by omega) rfl
      have hv15 : vals 15 = i 0 := hv 15 _ (by omega) rfl
      have hv16 : vals 16 = .agg #[i 4, i 4, .string ⟨#[]⟩] := hv 16 _ (by omega) rfl
      simp only [Reg4.puts, Reg4.dstOf, List.range, List.range.loop, if_true, List.drop_succ_cons, List.drop_zero, hpv, hv0, hv1, hv2, hv3, hv4, hv5, hv6, hv7, hv8, hv9, hv10, hv11, hv12, hv13, hv14, hv15, hv16]
      clear hv hpv hv0 hv1 hv2 hv3 hv4 hv5 hv6 hv7 hv8 hv9 hv10 hv11 hv12 hv13 hv14 hv15 hv16
      generalize vals 18 = zst
      simp [Act.put]
      go_wp2_with fail
      go_meet
      exact ⟨p, rfl, hK, hG⟩
  case rest =>
  obtain ⟨p, rfl, hd, hb⟩ := hcut.out
  clear hcut HL
  have HUx := Lib.hid (HU.out.call hb)
  have HRx := Lib.hid (HR.out.call hb)
  have HSx := Lib.hid (HS.out.call hb)
  have HBx := Lib.hid (below_call HB.out hb)
  have HDx := Lib.hid hd
  clear hb hd HU HR HS HB
  go_wp2_with fail
  refine (runs22 w1.heap.size g cnG cnG true 5 _ wc HUx.out).mono ?_
  rintro e w5 ⟨rfl, hb⟩
  have HU := Lib.hid (HUx.out.call hb)
  have HR := Lib.hid (HRx.out.call hb)
  have HS := Lib.hid (HSx.out.call hb)
  have HB := Lib.hid (below_call HBx.out hb)
  have HD := Lib.hid (HDx.out.call hb)
  clear hb HUx HRx HSx HBx HDx
  have k6 : w5.cell? ⟨g, 6, none⟩ = some (.slice (some ⟨bC, 0, none⟩) 2 dC) := HU.out.k.cell 6
  have k2 : w5.cell? ⟨g, 2, none⟩ = some (.bool true) := HU.out.k.cell 2
  have kd := HD.out.cell
  obtain ⟨x, o, e1, r⟩ := CnsAt.at_ (j := 1) HU.out.a.at_.C (by simp)
  obtain ⟨rfl, rfl⟩ : bC = x ∧ 0 = o := by simpa using e1
  have r0 := (r w5 (Kept.refl _)).1
  simp at r0
  clear r e1
  go_wp2_with fail
  refine (ask1 g (dS cnG cnG true 5) _ 2 id w5 HU.out.k ⟨rfl, rfl, rfl, rfl, rfl, rfl, rfl, rfl⟩ ⟨by omega, by omega⟩ HT.out HSZ.out).mono ?_
  clear k6 k2 kd r0
  rintro e w6 ⟨w7, q, o, t, rfl, hb, rfl, hq, ho, ht⟩
  obtain ⟨Aq, nq, cq, rfl⟩ := own_sl hq
  obtain ⟨Ao, co, rfl⟩ := ho.nil_form
  obtain ⟨As, cs, rfl⟩ := ht.nil_form
  have hk := HU.out.k.call hb
  have h0 := hs0.out
  have h1 := hgr.out
  have HK7 := Lib.hid (row_blk (stA { dS cnG cnG true 5 with nx := 2 } { (⟨.slice (some ⟨bC, 0, none⟩) 2 dC, .slice (some ⟨bM, 0, none⟩) 2 dM, .slice (some ⟨bT, 0, none⟩) 2 dT, .slice none 0 0, .slice none 0 0, .slice none 0 0, .slice none 0 0, .slice none 0 0, .slice none 0 0, .slice none 0 0, .slice none 0 0, .slice (some ⟨bO, 0, none⟩) 2 dO, .slice (some ⟨bL, 0, none⟩) 2 dL, .slice (some ⟨bS, 0, none⟩) 2 dS2⟩ : Sl) with Q := .slice Aq nq cq, O := .slice Ao 0 co, S := .slice As 0 cs }) hk)
  have HR7 := Lib.hid (row_other (stA { dS cnG cnG true 5 with nx := 2 } { (⟨.slice (some ⟨bC, 0, none⟩) 2 dC, .slice (some ⟨bM, 0, none⟩) 2 dM, .slice (some ⟨bT, 0, none⟩) 2 dT, .slice none 0 0, .slice none 0 0, .slice none 0 0, .slice none 0 0, .slice none 0 0, .slice none 0 0, .slice none 0 0, .slice none 0 0, .slice (some ⟨bO, 0, none⟩) 2 dO, .slice (some ⟨bL, 0, none⟩) 2 dL, .slice (some ⟨bS, 0, none⟩) 2 dS2⟩ : Sl) with Q := .slice Aq nq cq, O := .slice Ao 0 co, S := .slice As 0 cs }) (HR.out.call hb) (show w.heap.size + 1 ≠ g by omega))
  have HB7 := Lib.hid (row_below (stA { dS cnG cnG true 5 with nx := 2 } { (⟨.slice (some ⟨bC, 0, none⟩) 2 dC, .slice (some ⟨bM, 0, none⟩) 2 dM, .slice (some ⟨bT, 0, none⟩) 2 dT, .slice none 0 0, .slice none 0 0, .slice none 0 0, .slice none 0 0, .slice none 0 0, .slice none 0 0, .slice none 0 0, .slice none 0 0, .slice (some ⟨bO, 0, none⟩) 2 dO, .slice (some ⟨bL, 0, none⟩) 2 dL, .slice (some ⟨bS, 0, none⟩) 2 dS2⟩ : Sl) with Q := .slice Aq nq cq, O := .slice Ao 0 co, S := .slice As 0 cs }) (below_call HB.out hb) (show w.heap.size ≤ g by omega))
  have HQ7 := Lib.hid (own_rowTy hq hk (by decide) (stA { dS cnG cnG true 5 with nx := 2 } { (⟨.slice (some ⟨bC, 0, none⟩) 2 dC, .slice (some ⟨bM, 0, none⟩) 2 dM, .slice (some ⟨bT, 0, none⟩) 2 dT, .slice none 0 0, .slice none 0 0, .slice none 0 0, .slice none 0 0, .slice none 0 0, .slice none 0 0, .slice none 0 0, .slice none 0 0, .slice (some ⟨bO, 0, none⟩) 2 dO, .slice (some ⟨bL, 0, none⟩) 2 dL, .slice (some ⟨bS, 0, none⟩) 2 dS2⟩ : Sl) with Q := .slice Aq nq cq, O := .slice Ao 0 co, S := .slice As 0 cs }))
  have HA7 := Lib.hid (StO.rowTyD (HU.out.a.call hb) hk (stA { dS cnG cnG true 5 with nx := 2 } { (⟨.slice (some ⟨bC, 0, none⟩) 2 dC, .slice (some ⟨bM, 0, none⟩) 2 dM, .slice (some ⟨bT, 0, none⟩) 2 dT, .slice none 0 0, .slice none 0 0, .slice none 0 0, .slice none 0 0, .slice none 0 0, .slice none 0 0, .slice none 0 0, .slice none 0 0, .slice (some ⟨bO, 0, none⟩) 2 dO, .slice (some ⟨bL, 0, none⟩) 2 dL, .slice (some ⟨bS, 0, none⟩) 2 dS2⟩ : Sl) with Q := .slice Aq nq cq, O := .slice Ao 0 co, S := .slice As 0 cs }))
  have HOT : Hid (MsAt w (.slice Ao 0 co) [] ∧ MsAt w (.slice As 0 cs) []) := ⟨MsAt.any ho, MsAt.any ht⟩
  clear hq ho ht hk h0 h1 hb HU HR HS HB HD
  generalize w7.setRow g _ = w8 at *
  go_wp2_with (first
    | (refine wpList_load_row rfl 43 (.tmp 111) rfl g rfl 110 (stA { dS cnG cnG true 5 with nx := 2 } { (⟨.slice (some ⟨bC, 0, none⟩) 2 dC, .slice (some ⟨bM, 0, none⟩) 2 dM, .slice (some ⟨bT, 0, none⟩) 2 dT, .slice none 0 0, .slice none 0 0, .slice none 0 0, .slice none 0 0, .slice none 0 0, .slice none 0 0, .slice none 0 0, .slice none 0 0, .slice (some ⟨bO, 0, none⟩) 2 dO, .slice (some ⟨bL, 0, none⟩) 2 dL, .slice (some ⟨bS, 0, none⟩) 2 dS2⟩ : Sl) with Q := .slice Aq nq cq, O := .slice Ao 0 co, S := .slice As 0 cs }) (0, 0) _ HK7.out Tryz.underlying43 rfl (by kernel_rfl) ?_)
    | (refine wpList_store_rowTo rfl 43 (.tmp 6) (.tmp 112) rfl rfl (w.heap.size + 1) (stA { dS cnG cnG true 5 with nx := 2 } { (⟨.slice (some ⟨bC, 0, none⟩) 2 dC, .slice (some ⟨bM, 0, none⟩) 2 dM, .slice (some ⟨bT, 0, none⟩) 2 dT, .slice none 0 0, .slice none 0 0, .slice none 0 0, .slice none 0 0, .slice none 0 0, .slice none 0 0, .slice none 0 0, .slice none 0 0, .slice (some ⟨bO, 0, none⟩) 2 dO, .slice (some ⟨bL, 0, none⟩) 2 dL, .slice (some ⟨bS, 0, none⟩) 2 dS2⟩ : Sl) with Q := .slice Aq nq cq, O := .slice Ao 0 co, S := .slice As 0 cs }) (by kernel_rfl) (by kernel_rfl) 43 zA HR7.out (by kernel_rfl) (by kernel_rfl) (by kernel_rfl) ?_))
  refine bodyPost_ret (results_cell2 rfl _ _ (w.heap.size + 1) 43 (stA { dS cnG cnG true 5 with nx := 2 } { (⟨.slice (some ⟨bC, 0, none⟩) 2 dC, .slice (some ⟨bM, 0, none⟩) 2 dM, .slice (some ⟨bT, 0, none⟩) 2 dT, .slice none 0 0, .slice none 0 0, .slice none 0 0, .slice none 0 0, .slice none 0 0, .slice none 0 0, .slice none 0 0, .slice none 0 0, .slice (some ⟨bO, 0, none⟩) 2 dO, .slice (some ⟨bL, 0, none⟩) 2 dL, .slice (some ⟨bS, 0, none⟩) 2 dS2⟩ : Sl) with Q := .slice Aq nq cq, O := .slice Ao 0 co, S := .slice As 0 cs }) (0, 0) _ rfl (row_blk _ HR7.out) Tryz.underlying43 rfl (by kernel_rfl)) rfl ?_
  have h0 := hs0.out
  refine ⟨_, _, _, _, rfl, ?_, Own.at_ (own_rowTy HQ7.out HR7.out (by decide) _) (by omega), MsAt.any HOT.out.1, MsAt.any HOT.out.2, row_below _ HB7.out (by omega), by kernel_rfl⟩
  exact StO.at_ ⟨Own.row_keep HA7.out.C h0 _, Own.row_keep HA7.out.M h0 _, Own.row_keep HA7.out.T h0 _, rfl, rfl, rfl, rfl, rfl, rfl, rfl, rfl, Own.row_keep HA7.out.OV h0 _, Own.row_keep HA7.out.LM h0 _, Own.row_keep HA7.out.SH h0 _⟩

set_option maxRecDepth 100000 in
set_option maxHeartbeats 4000000 in
theorem present2false (l : Sl) (id : ByteArray) (w : World) (h : StAt w (dS cnG cnG false 5) l) (ht : IdW.identOk id = true) (hs : id.size ≤ maxLen) :
    Calls Tryz.prog 11 #[.agg (stA (dS cnG cnG false 5) l), i 2, .string id] w fun e w' => e = .returned (.tuple #[.agg (stA (dS cnG cnG false 5) l), i 15]) ∧ Below w.heap.size w w' := by
  have HO : Hid (∀ W, Below w.heap.size w W → _) := fun W hb => openYes cnG cnG false 5 2 l W (h.call hb) ⟨by omega, by omega⟩
  have HI : Hid (∀ W, Calls Tryz.prog 41 #[.string id] W fun e w' => e = .returned (.bool true) ∧ Below W.heap.size W w') := fun W => by
    have := IdW.valid_ id W hs
    rw [ht] at this
    exact this
  have HL := Lib.hid (local0 id)
  have HT := Lib.hid ht
  have HSZ := Lib.hid hs
  obtain ⟨AC, cC, AM, cM, AT, cT, AOV, cOV, ALM, cLM, ASH, cSH, rfl⟩ := formsD h
  clear h ht hs
  have HS := Lib.hid ((Blk.new w 43 (stA (dS cnG cnG false 5) ⟨.slice AC 2 cC, .slice AM 2 cM, .slice AT 2 cT, .slice none 0 0, .slice none 0 0, .slice none 0 0, .slice none 0 0, .slice none 0 0, .slice none 0 0, .slice none 0 0, .slice none 0 0, .slice AOV 2 cOV, .slice ALM 2 cLM, .slice ASH 2 cSH⟩)).alloc (.cells zA 43))
  have HR := Lib.hid (Blk.new (w.alloc (.cells (stA (dS cnG cnG false 5) ⟨.slice AC 2 cC, .slice AM 2 cM, .slice AT 2 cT, .slice none 0 0, .slice none 0 0, .slice none 0 0, .slice none 0 0, .slice none 0 0, .slice none 0 0, .slice none 0 0, .slice none 0 0, .slice AOV 2 cOV, .slice ALM 2 cLM, .slice ASH 2 cSH⟩) 43)) 43 zA)
  have HB := Lib.hid (below_alloc (below_new w (.cells (stA (dS cnG cnG false 5) ⟨.slice AC 2 cC, .slice AM 2 cM, .slice AT 2 cT, .slice none 0 0, .slice none 0 0, .slice none 0 0, .slice none 0 0, .slice none 0 0, .slice none 0 0, .slice none 0 0, .slice none 0 0, .slice AOV 2 cOV, .slice ALM 2 cLM, .slice ASH 2 cSH⟩) 43)) (.cells zA 43))
  have hs1 : (w.alloc (.cells (stA (dS cnG cnG false 5) ⟨.slice AC 2 cC, .slice AM 2 cM, .slice AT 2 cT, .slice none 0 0, .slice none 0 0, .slice none 0 0, .slice none 0 0, .slice none 0 0, .slice none 0 0, .slice none 0 0, .slice none 0 0, .slice AOV 2 cOV, .slice ALM 2 cLM, .slice ASH 2 cSH⟩) 43)).heap.size = w.heap.size + 1 := by simp
  rw [hs1] at HR
  clear hs1
  go_enter Tryz.func11, Tryz.ntmps11
  go_upto_region 1 with (fail)
  generalize (w.alloc (.cells _ 43)).alloc (.cells _ 43) = w1 at *
  go_wp2_with (refine wpList_load_row rfl 43 (.tmp 3) rfl w.heap.size rfl 43 (stA (dS cnG cnG false 5) ⟨.slice AC 2 cC, .slice AM 2 cM, .slice AT 2 cT, .slice none 0 0, .slice none 0 0, .slice none 0 0, .slice none 0 0, .slice none 0 0, .slice none 0 0, .slice none 0 0, .slice none 0 0, .slice AOV 2 cOV, .slice ALM 2 cLM, .slice ASH 2 cSH⟩) (0, 0) _ HS.out Tryz.underlying43 rfl (by kernel_rfl) ?_)
  refine (HO.out w1 HB.out).mono ?_
  rintro e w2 ⟨g, l', rfl, hu, hg, hb⟩
  obtain ⟨bC, dC, bM, dM, bT, dT, bO, dO, bL, dL, bS, dS2, rfl⟩ := dform hu.a
  have HUx := Lib.hid hu
  have HRx := Lib.hid (HR.out.call hb)
  have HSx := Lib.hid (HS.out.call hb)
  have HBx := Lib.hid (below_call HB.out hb)
  have hs1 : w.heap.size + 1 < w1.heap.size := HR.out.lt
  have hgr : Hid (w.heap.size + 1 < g) := by show _ < _; omega
  have hs0 : Hid (w.heap.size + 1 < w1.heap.size) := hs1
  clear hu hg hb hs1 HR HB HS HO
  go_wp2_with fail
  refine (HI.out _).mono ?_
  rintro e w3 ⟨rfl, hb⟩
  have HU := Lib.hid (HUx.out.call hb)
  have HR := Lib.hid (HRx.out.call hb)
  have HS := Lib.hid (HSx.out.call hb)
  have HB := Lib.hid (below_call HBx.out hb)
  clear hb HUx HRx HSx HBx HI
  go_upto_region 6 with (fail)
  go_cut [10] (fun s10 wd => Hid (∃ p, s10 = .pointer (some ⟨p, 0, none⟩) ∧ Blk wd p 112 #[i 4, i 4, .string ⟨#[]⟩] ∧ Below w3.heap.size w3 wd))
  case first =>
    refine RegA.region (Γ := Unit) 19 (fun γ k => match k with | 0 => some (.pointer (some ⟨g, 0, none⟩)) | 1 => some (.pointer (some ⟨g, 0, none⟩)) | 2 => some (.pointer (some ⟨g, 0, none⟩)) | 3 => some (.pointer (some ⟨g, 10, none⟩)) | 4 => some (.agg #[i 0, .slice none 0 0]) | 5 => some (.pointer (some ⟨g, 0, none⟩)) | 6 => some (.pointer (some ⟨g, 0, none⟩)) | 7 => some (.pointer (some ⟨g, 0, none⟩)) | 8 => some (.pointer (some ⟨g, 12, none⟩)) | 9 => some (.slice none 0 0) | 10 => some (.string id) | 11 => some (.pointer (some ⟨g, 0, none⟩)) | 12 => some (.pointer (some ⟨g, 0, none⟩)) | 13 => some (.pointer (some ⟨g, 0, none⟩)) | 14 => some (.pointer (some ⟨g, 1, none⟩)) | 15 => some (i 0) | 16 => some (.agg #[i 4, i 4, .string ⟨#[]⟩]) | 17 => none | 18 => none | _ => none) (fun _ _ => True) 112 #[i 0, i 0, .string ⟨#[]⟩] (fun _ => #[i 4, i 4, .string ⟨#[]⟩]) 17 16 18 10 42 16 (by kernel_rfl) (by kernel_rfl) (Reg4.in_of (n := 113) (by kernel_rfl) rfl) (by decide) (fun _ => rfl) (fun _ => rfl) (fun _ => rfl) ?_ (fun _ _ _ h _ => h) (fun _ _ _ _ h _ _ => h) rfl rfl ?_ (fun _ => by kernel_rfl) (fun _ => rfl) (fun _ => by kernel_rfl) ?_ ?_ ?_ ?_
    · intro γ k hk h1 h2
      have hk : k = 0 ∨ k = 1 ∨ k = 2 ∨ k = 3 ∨ k = 4 ∨ k = 5 ∨ k = 6 ∨ k = 7 ∨ k = 8 ∨ k = 9 ∨ k = 10 ∨ k = 11 ∨ k = 12 ∨ k = 13 ∨ k = 14 ∨ k = 15 ∨ k = 16 ∨ k = 17 ∨ k = 18 := by omega
      rcases hk with rfl | rfl | rfl | rfl | rfl | rfl | rfl | rfl | rfl | rfl | rfl | rfl | rfl | rfl | rfl | rfl | rfl | rfl | rfl
      all_goals first | exact ⟨_, rfl⟩ | exact absurd rfl h1 | exact absurd rfl h2
    · intro o ho
      obtain rfl := Option.some.inj ho
      exact ⟨rfl, by first | exact ⟨_, by simp, rfl, rfl⟩ | decide⟩
    · intro γ idx o x hj hne ho hx a' w' hG hop
      have hj' : idx = 0 ∨ idx = 1 ∨ idx = 2 ∨ idx = 3 ∨ idx = 4 ∨ idx = 5 ∨ idx = 6 ∨ idx = 7 ∨ idx = 8 ∨ idx = 9 ∨ idx = 10 ∨ idx = 11 ∨ idx = 12 ∨ idx = 13 ∨ idx = 14 ∨ idx = 15 ∨ idx = 16 ∨ idx = 17 ∨ idx = 18 := by omega
      clear hj
      rcases hj' with rfl | rfl | rfl | rfl | rfl | rfl | rfl | rfl | rfl | rfl | rfl | rfl | rfl | rfl | rfl | rfl | rfl | rfl | rfl
      · obtain rfl := Option.some.inj ho
        obtain rfl := Option.some.inj hx
        have h8 : a'.tmps[8]?.getD undef = _ := (Array.getD_eq_getD_getElem? ..).symm.trans (hop 8 (by simp [Op.operands, Call.operands]))
        go_simp
      · obtain rfl := Option.some.inj ho
        obtain rfl := Option.some.inj hx
        have h26 : a'.tmps[26]?.getD undef = .pointer (some ⟨g, 0, none⟩) := (Array.getD_eq_getD_getElem? ..).symm.trans (hop 26 (by simp [Op.operands, Call.operands]) _ rfl)
        go_simp
      · obtain rfl := Option.some.inj ho
        obtain rfl := Option.some.inj hx
        have h27 : a'.tmps[27]?.getD undef = .pointer (some ⟨g, 0, none⟩) := (Array.getD_eq_getD_getElem? ..).symm.trans (hop 27 (by simp [Op.operands, Call.operands]) _ rfl)
        go_simp
      · obtain rfl := Option.some.inj ho
        obtain rfl := Option.some.inj hx
        have h28 : a'.tmps[28]?.getD undef = .pointer (some ⟨g, 0, none⟩) := (Array.getD_eq_getD_getElem? ..).symm.trans (hop 28 (by simp [Op.operands, Call.operands]) _ rfl)
        go_simp
      · obtain rfl := Option.some.inj ho
        obtain rfl := Option.some.inj hx
        have h29 : a'.tmps[29]?.getD undef = .pointer (some ⟨g, 10, none⟩) := (Array.getD_eq_getD_getElem? ..).symm.trans (hop 29 (by simp [Op.operands, Call.operands]) _ rfl)
        have k10 := (HU.out.k.call hG).cell 10
        have k11 := (HU.out.k.call hG).cell 11
        go_simp
      · obtain rfl := Option.some.inj ho
        obtain rfl := Option.some.inj hx
        have h8 : a'.tmps[8]?.getD undef = _ := (Array.getD_eq_getD_getElem? ..).symm.trans (hop 8 (by simp [Op.operands, Call.operands]))
        go_simp
      · obtain rfl := Option.some.inj ho
        obtain rfl := Option.some.inj hx
        have h31 : a'.tmps[31]?.getD undef = .pointer (some ⟨g, 0, none⟩) := (Array.getD_eq_getD_getElem? ..).symm.trans (hop 31 (by simp [Op.operands, Call.operands]) _ rfl)
        go_simp
      · obtain rfl := Option.some.inj ho
        obtain rfl := Option.some.inj hx
        have h32 : a'.tmps[32]?.getD undef = .pointer (some ⟨g, 0, none⟩) := (Array.getD_eq_getD_getElem? ..).symm.trans (hop 32 (by simp [Op.operands, Call.operands]) _ rfl)
        go_simp
      · obtain rfl := Option.some.inj ho
        obtain rfl := Option.some.inj hx
        have h33 : a'.tmps[33]?.getD undef = .pointer (some ⟨g, 0, none⟩) := (Array.getD_eq_getD_getElem? ..).symm.trans (hop 33 (by simp [Op.operands, Call.operands]) _ rfl)
        go_simp
      · obtain rfl := Option.some.inj ho
        obtain rfl := Option.some.inj hx
        have h34 : a'.tmps[34]?.getD undef = .pointer (some ⟨g, 12, none⟩) := (Array.getD_eq_getD_getElem? ..).symm.trans (hop 34 (by simp [Op.operands, Call.operands]) _ rfl)
        have k12 := (HU.out.k.call hG).cell 12
        go_simp
      · obtain rfl := Option.some.inj ho
        obtain rfl := Option.some.inj hx
        have h2 : a'.tmps[2]?.getD undef = _ := (Array.getD_eq_getD_getElem? ..).symm.trans (hop 2 (by simp [Op.operands, Call.operands]))
        go_simp
      · obtain rfl := Option.some.inj ho
        obtain rfl := Option.some.inj hx
        have h8 : a'.tmps[8]?.getD undef = _ := (Array.getD_eq_getD_getElem? ..).symm.trans (hop 8 (by simp [Op.operands, Call.operands]))
        go_simp
      · obtain rfl := Option.some.inj ho
        obtain rfl := Option.some.inj hx
        have h37 : a'.tmps[37]?.getD undef = .pointer (some ⟨g, 0, none⟩) := (Array.getD_eq_getD_getElem? ..).symm.trans (hop 37 (by simp [Op.operands, Call.operands]) _ rfl)
        go_simp
      · obtain rfl := Option.some.inj ho
        obtain rfl := Option.some.inj hx
        have h38 : a'.tmps[38]?.getD undef = .pointer (some ⟨g, 0, none⟩) := (Array.getD_eq_getD_getElem? ..).symm.trans (hop 38 (by simp [Op.operands, Call.operands]) _ rfl)
        go_simp
      · obtain rfl := Option.some.inj ho
        obtain rfl := Option.some.inj hx
        have h39 : a'.tmps[39]?.getD undef = .pointer (some ⟨g, 0, none⟩) := (Array.getD_eq_getD_getElem? ..).symm.trans (hop 39 (by simp [Op.operands, Call.operands]) _ rfl)
        go_simp
      · obtain rfl := Option.some.inj ho
        obtain rfl := Option.some.inj hx
        have h40 : a'.tmps[40]?.getD undef = .pointer (some ⟨g, 1, none⟩) := (Array.getD_eq_getD_getElem? ..).symm.trans (hop 40 (by simp [Op.operands, Call.operands]) _ rfl)
        have k1 := (HU.out.k.call hG).cell 1
        go_simp
      · exact absurd rfl hne
      · cases hx
      · cases hx
    · intro o ho a' w' hG hop
      obtain rfl := Option.some.inj ho
      have h30 : a'.tmps[30]?.getD undef = .agg #[i 0, .slice none 0 0] := (Array.getD_eq_getD_getElem? ..).symm.trans (hop () 30 (by simp [Op.operands, Call.operands]) _ rfl)
      have h35 : a'.tmps[35]?.getD undef = .slice none 0 0 := (Array.getD_eq_getD_getElem? ..).symm.trans (hop () 35 (by simp [Op.operands, Call.operands]) _ rfl)
      have h36 : a'.tmps[36]?.getD undef = .string id := (Array.getD_eq_getD_getElem? ..).symm.trans (hop () 36 (by simp [Op.operands, Call.operands]) _ rfl)
      have h41 : a'.tmps[41]?.getD undef = i 0 := (Array.getD_eq_getD_getElem? ..).symm.trans (hop () 41 (by simp [Op.operands, Call.operands]) _ rfl)
      refine Reg4.StepOk.mono (R := fun v W => v = .agg #[i 4, i 4, .string ⟨#[]⟩] ∧ Hid (Below w'.heap.size w' W)) ?_ (fun v W h => ?_)
      · go_simp
        refine (HL.out _).mono ?_
        rintro e w5 ⟨rfl, hb⟩
        exact ⟨_, rfl, rfl, hb⟩
      · obtain ⟨rfl, hb⟩ := h
        exact ⟨(), rfl, trivial, hb.out⟩
    · intro o ho a' w'
      obtain rfl := Option.some.inj ho
      first | kernel_rfl | rfl
    · intro γ vals p w' hG hF hK hp hv hpv
      have hv0 : vals 0 = .pointer (some ⟨g, 0, none⟩) := hv 0 _ (by omega) rfl
      have hv1 : vals 1 = .pointer (some ⟨g, 0, none⟩) := hv 1 _ (by omega) rfl
      have hv2 : vals 2 = .pointer (some ⟨g, 0, none⟩) := hv 2 _ (by omega) rfl
      have hv3 : vals 3 = .pointer (some ⟨g, 10, none⟩) := hv 3 _ (by omega) rfl
      have hv4 : vals 4 = .agg #[i 0, .slice none 0 0] := hv 4 _ (by omega) rfl
      have hv5 : vals 5 = .pointer (some ⟨g, 0, none⟩) := hv 5 _ (by omega) rfl
      have hv6 : vals 6 = .pointer (some ⟨g, 0, none⟩) := hv 6 _ (by omega) rfl
      have hv7 : vals 7 = .pointer (some ⟨g, 0, none⟩) := hv 7 _ (by omega) rfl
      have hv8 : vals 8 = .pointer (some ⟨g, 12, none⟩) := hv 8 _ (by omega) rfl
      have hv9 : vals 9 = .slice none 0 0 := hv 9 _ (by omega) rfl
      have hv10 : vals 10 = .string id := hv 10 _ (by omega) rfl
      have hv11 : vals 11 = .pointer (some ⟨g, 0, none⟩) := hv 11 _ (by omega) rfl
      have hv12 : vals 12 = .pointer (some ⟨g, 0, none⟩) := hv 12 _ (by omega) rfl
      have hv13 : vals 13 = .pointer (some ⟨g, 0, none⟩) := hv 13 _ (by omega) rfl
      have hv14 : vals 14 = .pointer (some ⟨g, 1, none⟩) := hv 14 _ (by omega) rfl
      have hv15 : vals 15 = i 0 := hv 15 _ (by omega) rfl
      have hv16 : vals 16 = .agg #[i 4, i 4, .string ⟨#[]⟩] := hv 16 _ (by omega) rfl
      simp only [Reg4.puts, Reg4.dstOf, List.range, List.range.loop, if_true, List.drop_succ_cons, List.drop_zero, hpv, hv0, hv1, hv2, hv3, hv4, hv5, hv6, hv7, hv8, hv9, hv10, hv11, hv12, hv13, hv14, hv15, hv16]
      clear hv hpv hv0 hv1 hv2 hv3 hv4 hv5 hv6 hv7 hv8 hv9 hv10 hv11 hv12 hv13 hv14 hv15 hv16
      generalize vals 18 = zst
      simp [Act.put]
      go_wp2_with fail
      go_meet
      exact ⟨p, rfl, hK, hG⟩
  case rest =>
  obtain ⟨p, rfl, hd, hb⟩ := hcut.out
  clear hcut HL
  have HUx := Lib.hid (HU.out.call hb)
  have HRx := Lib.hid (HR.out.call hb)
  have HSx := Lib.hid (HS.out.call hb)
  have HBx := Lib.hid (below_call HB.out hb)
  have HDx := Lib.hid hd
  clear hb hd HU HR HS HB
  go_wp2_with fail
  refine (runs22 w1.heap.size g cnG cnG false 5 _ wc HUx.out).mono ?_
  rintro e w5 ⟨rfl, hb⟩
  have HU := Lib.hid (HUx.out.call hb)
  have HR := Lib.hid (HRx.out.call hb)
  have HS := Lib.hid (HSx.out.call hb)
  have HB := Lib.hid (below_call HBx.out hb)
  have HD := Lib.hid (HDx.out.call hb)
  clear hb HUx HRx HSx HBx HDx
  have k6 : w5.cell? ⟨g, 6, none⟩ = some (.slice (some ⟨bC, 0, none⟩) 2 dC) := HU.out.k.cell 6
  have k2 : w5.cell? ⟨g, 2, none⟩ = some (.bool false) := HU.out.k.cell 2
  have kd := HD.out.cell
  obtain ⟨x, o, e1, r⟩ := CnsAt.at_ (j := 1) HU.out.a.at_.C (by simp)
  obtain ⟨rfl, rfl⟩ : bC = x ∧ 0 = o := by simpa using e1
  have r0 := (r w5 (Kept.refl _)).1
  simp at r0
  clear r e1
  go_wp2_with (first
    | (refine wpList_load_row rfl 43 (.tmp 3) rfl w.heap.size rfl 43 (stA (dS cnG cnG false 5) ⟨.slice AC 2 cC, .slice AM 2 cM, .slice AT 2 cT, .slice none 0 0, .slice none 0 0, .slice none 0 0, .slice none 0 0, .slice none 0 0, .slice none 0 0, .slice none 0 0, .slice none 0 0, .slice AOV 2 cOV, .slice ALM 2 cLM, .slice ASH 2 cSH⟩) (0, 0) _ HS.out Tryz.underlying43 rfl (by kernel_rfl) ?_)
    | (refine wpList_store_rowTo rfl 43 (.tmp 6) (.tmp 104) rfl rfl (w.heap.size + 1) (stA (dS cnG cnG false 5) ⟨.slice AC 2 cC, .slice AM 2 cM, .slice AT 2 cT, .slice none 0 0, .slice none 0 0, .slice none 0 0, .slice none 0 0, .slice none 0 0, .slice none 0 0, .slice none 0 0, .slice none 0 0, .slice AOV 2 cOV, .slice ALM 2 cLM, .slice ASH 2 cSH⟩) (by kernel_rfl) (by kernel_rfl) 43 zA HR.out (by kernel_rfl) (by kernel_rfl) (by kernel_rfl) ?_))
  refine bodyPost_ret (results_cell2 rfl _ _ (w.heap.size + 1) 43 (stA (dS cnG cnG false 5) ⟨.slice AC 2 cC, .slice AM 2 cM, .slice AT 2 cT, .slice none 0 0, .slice none 0 0, .slice none 0 0, .slice none 0 0, .slice none 0 0, .slice none 0 0, .slice none 0 0, .slice none 0 0, .slice AOV 2 cOV, .slice ALM 2 cLM, .slice ASH 2 cSH⟩) (0, 0) _ rfl (row_blk _ HR.out) Tryz.underlying43 rfl (by kernel_rfl)) rfl ?_
  exact ⟨rfl, row_below _ HB.out (by omega)⟩


end Stn
end Go.Proofs.YtfaofobhmmedmaaGreatDoor
