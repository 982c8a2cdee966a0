/-
  The methods of a unit that station.Step calls, on the example's station.
-/
import Derived.Test.YtfaofobhmmedmaaGreatDoorStnR
import Derived.Great.Walk
import Derived.Test.YtfaofobhmmedmaaGreatDoorRegG
namespace Go.Proofs.YtfaofobhmmedmaaGreatDoor
namespace Stn
set_option linter.unusedSimpArgs false
set_option linter.unusedVariables false
open Go.RowKit Go.Great

/-- A unit in memory. -/
structure UAt (w : World) (g : Nat) (s : St) (l : Sl) : Prop where
  k : Blk w g 110 (stA s l)
  a : StO 0 w s l
theorem UAt.call {w w' : World} {g : Nat} {s : St} {l : Sl} (h : UAt w g s l) (hb : Below w.heap.size w w') : UAt w' g s l := ⟨h.k.call hb, h.a.call hb⟩
/-- The cells of the example's unit, wherever only memory has been made. -/
structure UCl (W : World) (g : Nat) (n b : Int) (bC cC bM cM bT cT bO cO bL cL bS cS : Nat) : Prop where
  k0 : W.cell? ⟨g, 0, none⟩ = some (.string ⟨#[83]⟩)
  k1 : W.cell? ⟨g, 1, none⟩ = some (i n)
  k2 : W.cell? ⟨g, 2, none⟩ = some (.bool false)
  k4 : W.cell? ⟨g, 4, none⟩ = some (i b)
  k6 : W.cell? ⟨g, 6, none⟩ = some (.slice (some ⟨bC, 0, none⟩) 1 cC)
  k7 : W.cell? ⟨g, 7, none⟩ = some (.slice (some ⟨bM, 0, none⟩) 1 cM)
  k8 : W.cell? ⟨g, 8, none⟩ = some (.slice (some ⟨bT, 0, none⟩) 1 cT)
  k9 : W.cell? ⟨g, 9, none⟩ = some (.slice none 0 0)
  k13 : W.cell? ⟨g, 13, none⟩ = some (.slice none 0 0)
  k34 : W.cell? ⟨g, 34, none⟩ = some (.slice (some ⟨bL, 0, none⟩) 1 cL)
  k25 : W.cell? ⟨g, 25, none⟩ = some (i 0)
  k26 : W.cell? ⟨g, 26, none⟩ = some (i 0)
  k27 : W.cell? ⟨g, 27, none⟩ = some (i 0)
  k28 : W.cell? ⟨g, 28, none⟩ = some (i 0)
  k29 : W.cell? ⟨g, 29, none⟩ = some (i 0)
  fr : ∀ j, W.frozen? ⟨g, j, none⟩ = false
  c0 : W.cell? ⟨bC, 0, none⟩ = some (i 1)
  m0 : W.cell? ⟨bM, 0, none⟩ = some (i 0)
  m1 : W.cell? ⟨bM, 1, none⟩ = some (i 100000)
  m2 : W.cell? ⟨bM, 2, none⟩ = some (i 0)
  m3 : W.cell? ⟨bM, 3, none⟩ = some (i 0)
  t0 : W.cell? ⟨bT, 0, none⟩ = some (.string ⟨#[]⟩)
  t1 : W.cell? ⟨bT, 1, none⟩ = some (i 0)
  t2 : W.cell? ⟨bT, 2, none⟩ = some (.string ⟨#[]⟩)
  t3 : W.cell? ⟨bT, 3, none⟩ = some (.string ⟨#[]⟩)
  t4 : W.cell? ⟨bT, 4, none⟩ = some (i 0)
  t5 : W.cell? ⟨bT, 5, none⟩ = some (i 0)
  t6 : W.cell? ⟨bT, 6, none⟩ = some (.bool false)
  t7 : W.cell? ⟨bT, 7, none⟩ = some (i 0)
  t8 : W.cell? ⟨bT, 8, none⟩ = some (i 0)
  l0 : W.cell? ⟨bL, 0, none⟩ = some (i 0)
  fM : ∀ j, W.frozen? ⟨bM, j, none⟩ = false
  fL : ∀ j, W.frozen? ⟨bL, j, none⟩ = false
abbrev uSl (bC cC bM cM bT cT bO cO bL cL bS cS : Nat) : Sl := ⟨.slice (some ⟨bC, 0, none⟩) 1 cC, .slice (some ⟨bM, 0, none⟩) 1 cM, .slice (some ⟨bT, 0, none⟩) 1 cT, .slice none 0 0, .slice none 0 0, .slice none 0 0, .slice none 0 0, .slice none 0 0, .slice none 0 0, .slice none 0 0, .slice none 0 0, .slice (some ⟨bO, 0, none⟩) 1 cO, .slice (some ⟨bL, 0, none⟩) 1 cL, .slice (some ⟨bS, 0, none⟩) 1 cS⟩
theorem uopen {w : World} {g : Nat} {n b : Int} {l : Sl} (h : UAt w g (s1t n b) l) : ∃ bC cC bM cM bT cT bO cO bL cL bS cS, l = uSl bC cC bM cM bT cT bO cO bL cL bS cS ∧ ∀ W, Below w.heap.size w W → UCl W g n b bC cC bM cM bT cT bO cO bL cL bS cS := by
  have h' := h
  obtain ⟨hk, hC, hM, hT, hP, hLT, hCA, hRE, hIT, hQ, hO, hS, hOV, hLM, hSH⟩ := h
  obtain ⟨lC, lM, lT, lP, lLT, lCA, lRE, lIT, lQ, lO, lS, lOV, lLM, lSH⟩ := l
  simp only [EmpS] at hC hM hT hP hLT hCA hRE hIT hQ hO hS hOV hLM hSH
  subst hP hLT hCA hRE hIT hQ hO hS
  obtain ⟨bC, cC, rfl, -, -⟩ := Own.form hC (by simp)
  obtain ⟨bM, cM, rfl, -, -⟩ := Own.form hM (by simp)
  obtain ⟨bT, cT, rfl, -, -⟩ := Own.form hT (by simp)
  obtain ⟨bO, cO, rfl, -, -⟩ := Own.form hOV (by simp)
  obtain ⟨bL, cL, rfl, -, -⟩ := Own.form hLM (by simp)
  obtain ⟨bS, cS, rfl, -, -⟩ := Own.form hSH (by simp)
  refine ⟨bC, cC, bM, cM, bT, cT, bO, cO, bL, cL, bS, cS, rfl, fun W hb => ?_⟩
  obtain ⟨x1, o1, e1, rC⟩ := CnsAt.at_ (j := 0) (h'.a.at_.C.call hb) (by simp)
  obtain ⟨x2, o2, e2, rM⟩ := MtsAt.at_ (j := 0) (h'.a.at_.M.call hb) (by simp)
  obtain ⟨x3, o3, e3, rT⟩ := TxsAt.at_ (j := 0) (h'.a.at_.T.call hb) (by simp)
  obtain ⟨x5, o5, e5, rL⟩ := IntsAt.at_ (j := 0) (h'.a.at_.LM.call hb) (by simp)
  obtain ⟨rfl, rfl⟩ : bC = x1 ∧ 0 = o1 := by simpa using e1
  obtain ⟨rfl, rfl⟩ : bM = x2 ∧ 0 = o2 := by simpa using e2
  obtain ⟨rfl, rfl⟩ : bT = x3 ∧ 0 = o3 := by simpa using e3
  obtain ⟨rfl, rfl⟩ : bL = x5 ∧ 0 = o5 := by simpa using e5
  have fM := Own.frz (n := 1) (c := cM) (hM.call hb)
  have fL := Own.frz (n := 1) (c := cL) (hLM.call hb)
  have hkw := hk.call hb
  clear hC hM hT hOV hLM hSH e1 e2 e3 e5 h'
  simp [zTx] at rC rM rT rL
  obtain ⟨c0, -⟩ := rC W (Kept.refl _)
  obtain ⟨m0, m1, m2, m3⟩ := rM W (Kept.refl _)
  obtain ⟨t0, t1, t2, t3, t4, t5, t6, t7, t8⟩ := rT W (Kept.refl _)
  exact ⟨hkw.cell 0, hkw.cell 1, hkw.cell 2, hkw.cell 4, hkw.cell 6, hkw.cell 7, hkw.cell 8, hkw.cell 9, hkw.cell 13, hkw.cell 34, hkw.cell 25, hkw.cell 26, hkw.cell 27, hkw.cell 28, hkw.cell 29, hkw.frozen, c0, m0, m1, m2, m3, t0, t1, t2, t3, t4, t5, t6, t7, t8, rL W (Kept.refl _), fM, fL⟩

set_option maxRecDepth 100000 in
set_option maxHeartbeats 1000000 in
theorem runs1 (g : Nat) (n b : Int) (l : Sl) (w : World) (h : UAt w g (s1t n b) l) : Calls Tryz.prog 38 #[.pointer (some ⟨g, 0, none⟩), i 1] w fun e w' => e = .returned (.bool false) ∧ Below w.heap.size w w' := by
  obtain ⟨bC, cC, bM, cM, bT, cT, bO, cO, bL, cL, bS, cS, -, hU⟩ := uopen h
  obtain ⟨k0, k1, k2, k4, k6, k7, k8, k9, k13, k34, k25, k26, k27, k28, k29, fr, c0, m0, m1, m2, m3, t0, t1, t2, t3, t4, t5, t6, t7, t8, l0, fM, fL⟩ := hU w (Below.refl _ _)
  clear hU h
  have HN : ∀ W, (binOp .neq 54 (.agg #[.string ⟨#[]⟩, i 0, .string ⟨#[]⟩, .string ⟨#[]⟩, i 0, i 0, .bool false, i 0, i 0]) (.agg #[.string ⟨#[]⟩, i 0, .string ⟨#[]⟩, .string ⟨#[]⟩, i 0, i 0, .bool false, i 0, i 0])).run Tryz.prog W = .ok (.bool false) W := neqTx zTx
  go_enter Tryz.func38, Tryz.ntmps38
  go_wp2_with fail
  go_ret
  exact ⟨rfl, by repeat (first | (with_reducible exact Below.refl _ _) | (with_reducible refine below_drewN' ?_ _) | (with_reducible refine Below.drew ?_) | (with_reducible refine Below.setCell ?_ (by first | (simp; done) | (simp; omega) | omega) _) | (with_reducible refine below_alloc ?_ _) | (with_reducible refine Below.alloc ?_ (by first | (simp; done) | (simp; omega) | omega) _))⟩

def CntR (w : World) (s6 s7 : Value) (wc : World) : Prop := ∃ g6, s6 = .pointer (some ⟨g6, 0, none⟩) ∧ s7 = i 0 ∧ Blk wc g6 82 #[i 0, i 100000, i 0, i 0] ∧ Below w.heap.size w wc
theorem put4_self {w : World} {b : Nat} {x0 x1 x2 x3 : Value} (h0 : w.cell? ⟨b, 0, none⟩ = some x0) (h1 : w.cell? ⟨b, 1, none⟩ = some x1) (h2 : w.cell? ⟨b, 2, none⟩ = some x2) (h3 : w.cell? ⟨b, 3, none⟩ = some x3) :
    (((w.setCell ⟨b, 0, none⟩ x0).setCell ⟨b, 1, none⟩ x1).setCell ⟨b, 2, none⟩ x2).setCell ⟨b, 3, none⟩ x3 = w := by
  rw [setCell_self h0, setCell_self h1, setCell_self h2, setCell_self h3]

set_option maxRecDepth 100000 in
set_option maxHeartbeats 4000000 in
theorem count1 (g : Nat) (n b : Int) (l : Sl) (A : Option Addr) (c : Nat) (w : World) (h : UAt w g (s1t n b) l) (he : IntsAt w (.slice A 1 c) [0]) : Calls Tryz.prog 65 #[.pointer (some ⟨g, 0, none⟩), .slice A 1 c] w fun e w' => e = .returned (.tuple #[]) ∧ Below w.heap.size w w' := by
  obtain ⟨be, oe, rfl, re⟩ := IntsAt.at_ he (j := 0) (by simp)
  simp at re
  obtain ⟨bC, cC, bM, cM, bT, cT, bO, cO, bL, cL, bS, cS, -, hU⟩ := uopen h
  have HU := Lib.hid hU
  have HE : Hid (∀ W, Below w.heap.size w W → W.cell? ⟨be, oe, none⟩ = some (i 0)) := fun W hb => re W (Kept.of hb)
  have HM := Lib.hid mcount1
  clear hU h he re
  go_enter Tryz.func65, Tryz.ntmps65
  obtain ⟨k0, k1, k2, k4, k6, k7, k8, k9, k13, k34, k25, k26, k27, k28, k29, fr, c0, m0, m1, m2, m3, t0, t1, t2, t3, t4, t5, t6, t7, t8, l0, fM, fL⟩ := HU.out w (Below.refl _ _)
  go_wp2_with fail
  clear k0 k1 k2 k4 k6 k7 k8 k9 k13 k34 k25 k26 k27 k28 k29 fr c0 m0 m1 m2 m3 t0 t1 t2 t3 t4 t5 t6 t7 t8 l0 fM fL
  go_loopg [14] 1 (fun gg s14 wr => ∃ kk : Nat, kk ≤ 1 ∧ 1 - kk ≤ gg ∧ s14 = i kk ∧ Hid (Below w.heap.size w wr))
  case atStart => exact ⟨0, by omega, by omega, rfl, Below.refl _ _⟩
  case round =>
    obtain ⟨kk, hkk, hg, rfl, HB⟩ := hrel
    obtain ⟨k0, k1, k2, k4, k6, k7, k8, k9, k13, k34, k25, k26, k27, k28, k29, fr, c0, m0, m1, m2, m3, t0, t1, t2, t3, t4, t5, t6, t7, t8, l0, fM, fL⟩ := HU.out wr HB.out
    rcases (show kk = 0 ∨ kk = 1 by omega) with rfl | rfl
    · go_upto_region 3 with (fail)
      have HB0 := Lib.hid (below_new wr (.cells #[i 0, i 100000, i 0, i 0] 82))
      have HK0 := Lib.hid (Blk.new wr 82 #[i 0, i 100000, i 0, i 0])
      generalize hW : wr.alloc (.cells #[i 0, i 100000, i 0, i 0] 82) = wx at *
      clear hW
      have HB1 := Lib.hid (below_call HB.out HB0.out)
      clear k0 k1 k2 k4 k6 k7 k8 k9 k13 k34 k25 k26 k27 k28 k29 fr c0 m0 m1 m2 m3 t0 t1 t2 t3 t4 t5 t6 t7 t8 l0 fM fL
      go_cut [6, 7] (fun s6 s7 wc => Hid (CntR wx s6 s7 wc))
      case first =>
        refine RegA.region (Γ := Unit) 12 (fun γ k => match k with | 0 => some (.agg #[i 0, i 100000, i 0, i 0]) | 1 => some (.slice (some ⟨be, oe, none⟩) 1 c) | 2 => some (i 0) | 3 => some (.pointer (some ⟨be, oe, none⟩)) | 4 => some (i 0) | 5 => some (.tuple #[.agg #[i 0, i 100000, i 0, i 0], i 0]) | 6 => some (.tuple #[.agg #[i 0, i 100000, i 0, i 0], i 0]) | 7 => some (.agg #[i 0, i 100000, i 0, i 0]) | 8 => some (i 0) | 9 => none | 10 => none | 11 => some (i 0) | _ => none) (fun _ _ => True) 82 #[i 0, i 0, i 0, i 0] (fun _ => #[i 0, i 100000, i 0, i 0]) 9 5 10 6 26 7 (by kernel_rfl) (by kernel_rfl) (Reg4.in_of (n := 39) (by kernel_rfl) rfl) (by decide) (fun _ => rfl) (fun _ => rfl) (fun _ => rfl) ?_ (fun _ _ _ h _ => h) (fun _ _ _ _ h _ _ => h) rfl rfl ?_ (fun _ => by kernel_rfl) (fun _ => rfl) (fun _ => by kernel_rfl) ?_ ?_ ?_ ?_
        · intro γ k hk h1 h2
          have hk : k = 0 ∨ k = 1 ∨ k = 2 ∨ k = 3 ∨ k = 4 ∨ k = 5 ∨ k = 6 ∨ k = 7 ∨ k = 8 ∨ k = 9 ∨ k = 10 ∨ k = 11 := by omega
          rcases hk with rfl | rfl | rfl | rfl | rfl | rfl | rfl | rfl | rfl | rfl | rfl | rfl
          all_goals first | exact ⟨_, rfl⟩ | exact absurd rfl h1 | exact absurd rfl h2
        · intro o ho
          obtain rfl := Option.some.inj ho
          exact ⟨rfl, by first | exact ⟨_, by simp, rfl, rfl⟩ | decide⟩
        · intro γ idx o x hj hne ho hx a' w' hG hop
          have hj' : idx = 0 ∨ idx = 1 ∨ idx = 2 ∨ idx = 3 ∨ idx = 4 ∨ idx = 5 ∨ idx = 6 ∨ idx = 7 ∨ idx = 8 ∨ idx = 9 ∨ idx = 10 ∨ idx = 11 := by omega
          clear hj
          rcases hj' with rfl | rfl | rfl | rfl | rfl | rfl | rfl | rfl | rfl | rfl | rfl | rfl
          · obtain rfl := Option.some.inj ho
            obtain rfl := Option.some.inj hx
            have h5 : a'.tmps[5]?.getD undef = _ := (Array.getD_eq_getD_getElem? ..).symm.trans (hop 5 (by simp [Op.operands, Call.operands]))
            have kc := (HK0.out.call hG).cell
            go_simp
          · obtain rfl := Option.some.inj ho
            obtain rfl := Option.some.inj hx
            have h1 : a'.tmps[1]?.getD undef = _ := (Array.getD_eq_getD_getElem? ..).symm.trans (hop 1 (by simp [Op.operands, Call.operands]))
            go_simp
          · obtain rfl := Option.some.inj ho
            obtain rfl := Option.some.inj hx
            have h4 : a'.tmps[4]?.getD undef = _ := (Array.getD_eq_getD_getElem? ..).symm.trans (hop 4 (by simp [Op.operands, Call.operands]))
            go_simp
          · obtain rfl := Option.some.inj ho
            obtain rfl := Option.some.inj hx
            have h21 : a'.tmps[21]?.getD undef = .slice (some ⟨be, oe, none⟩) 1 c := (Array.getD_eq_getD_getElem? ..).symm.trans (hop 21 (by simp [Op.operands, Call.operands]) _ rfl)
            have h22 : a'.tmps[22]?.getD undef = i 0 := (Array.getD_eq_getD_getElem? ..).symm.trans (hop 22 (by simp [Op.operands, Call.operands]) _ rfl)
            go_simp
          · obtain rfl := Option.some.inj ho
            obtain rfl := Option.some.inj hx
            have h23 : a'.tmps[23]?.getD undef = .pointer (some ⟨be, oe, none⟩) := (Array.getD_eq_getD_getElem? ..).symm.trans (hop 23 (by simp [Op.operands, Call.operands]) _ rfl)
            have ke := HE.out _ (below_call HB1.out hG)
            go_simp
          · exact absurd rfl hne
          · obtain rfl := Option.some.inj ho
            obtain rfl := Option.some.inj hx
            have h25 : a'.tmps[25]?.getD undef = .tuple #[.agg #[i 0, i 100000, i 0, i 0], i 0] := (Array.getD_eq_getD_getElem? ..).symm.trans (hop 25 (by simp [Op.operands, Call.operands]) _ rfl)
            go_simp
          · obtain rfl := Option.some.inj ho
            obtain rfl := Option.some.inj hx
            have h19 : a'.tmps[19]?.getD undef = .tuple #[.agg #[i 0, i 100000, i 0, i 0], i 0] := (Array.getD_eq_getD_getElem? ..).symm.trans (hop 19 (by simp [Op.operands, Call.operands]) _ rfl)
            go_simp
          · obtain rfl := Option.some.inj ho
            obtain rfl := Option.some.inj hx
            have h19 : a'.tmps[19]?.getD undef = .tuple #[.agg #[i 0, i 100000, i 0, i 0], i 0] := (Array.getD_eq_getD_getElem? ..).symm.trans (hop 19 (by simp [Op.operands, Call.operands]) _ rfl)
            go_simp
          · cases hx
          · cases hx
          · obtain rfl := Option.some.inj ho
            obtain rfl := Option.some.inj hx
            have h27 : a'.tmps[27]?.getD undef = i 0 := (Array.getD_eq_getD_getElem? ..).symm.trans (hop 27 (by simp [Op.operands, Call.operands]) _ rfl)
            go_simp
        · intro o ho a' w' hG hop
          obtain rfl := Option.some.inj ho
          have h20 : a'.tmps[20]?.getD undef = .agg #[i 0, i 100000, i 0, i 0] := (Array.getD_eq_getD_getElem? ..).symm.trans (hop () 20 (by simp [Op.operands, Call.operands]) _ rfl)
          have h24 : a'.tmps[24]?.getD undef = i 0 := (Array.getD_eq_getD_getElem? ..).symm.trans (hop () 24 (by simp [Op.operands, Call.operands]) _ rfl)
          refine Reg4.StepOk.mono (R := fun v W => v = .tuple #[.agg #[i 0, i 100000, i 0, i 0], i 0] ∧ Hid (Below w'.heap.size w' W)) ?_ (fun v W h => ?_)
          · go_simp
            refine (HM.out _).mono ?_
            rintro e w5 ⟨rfl, hb⟩
            exact ⟨_, rfl, rfl, hb⟩
          · obtain ⟨rfl, hb⟩ := h
            exact ⟨(), rfl, trivial, hb.out⟩
        · intro o ho a' w'
          obtain rfl := Option.some.inj ho
          first | kernel_rfl | rfl
        · intro γ vals p w' hG hF hK hp hv hpv
          have hv0 : vals 0 = .agg #[i 0, i 100000, i 0, i 0] := hv 0 _ (by omega) rfl
          have hv1 : vals 1 = .slice (some ⟨be, oe, none⟩) 1 c := hv 1 _ (by omega) rfl
          have hv2 : vals 2 = i 0 := hv 2 _ (by omega) rfl
          have hv3 : vals 3 = .pointer (some ⟨be, oe, none⟩) := hv 3 _ (by omega) rfl
          have hv4 : vals 4 = i 0 := hv 4 _ (by omega) rfl
          have hv5 : vals 5 = .tuple #[.agg #[i 0, i 100000, i 0, i 0], i 0] := hv 5 _ (by omega) rfl
          have hv6 : vals 6 = .tuple #[.agg #[i 0, i 100000, i 0, i 0], i 0] := hv 6 _ (by omega) rfl
          have hv7 : vals 7 = .agg #[i 0, i 100000, i 0, i 0] := hv 7 _ (by omega) rfl
          have hv8 : vals 8 = i 0 := hv 8 _ (by omega) rfl
          have hv11 : vals 11 = i 0 := hv 11 _ (by omega) rfl
          simp only [Reg4.puts, Reg4.dstOf, List.range, List.range.loop, if_true, List.drop_succ_cons, List.drop_zero, hpv, hv0, hv1, hv2, hv3, hv4, hv5, hv6, hv7, hv8, hv11]
          clear hv hpv hv0 hv1 hv2 hv3 hv4 hv5 hv6 hv7 hv8 hv11
          generalize vals 10 = zst
          simp [Act.put]
          go_wp2_with fail
          go_meet
          exact ⟨p, rfl, rfl, hK, hG⟩
      case rest =>
        obtain ⟨g6, rfl, rfl, hk6, hb6⟩ := hcut.out
        clear hcut
        have HB2 := Lib.hid (below_call HB1.out hb6)
        obtain ⟨k0, k1, k2, k4, k6, k7, k8, k9, k13, k34, k25, k26, k27, k28, k29, fr, c0, m0, m1, m2, m3, t0, t1, t2, t3, t4, t5, t6, t7, t8, l0, fM, fL⟩ := HU.out wc HB2.out
        have HP := Lib.hid (put4_self m0 m1 m2 m3)
        have kc := hk6.cell
        go_upto_region 5 with (fail)
        go_region
        all_goals
          rw [show (((wc.setCell ⟨bM, 0, none⟩ (.int .i64 0)).setCell ⟨bM, 1, none⟩ (.int .i64 100000)).setCell ⟨bM, 2, none⟩ (.int .i64 0)).setCell ⟨bM, 3, none⟩ (.int .i64 0) = wc from HP.out]
          go_wp2_with fail
          go_roundg 0
          case measure => omega
          case rel => exact ⟨1, by omega, by omega, rfl, Below.drew HB2.out⟩
    · go_wp2_with fail
      refine bodyPost_end0 rfl rfl ?_
      exact ⟨rfl, HB.out⟩
set_option maxRecDepth 100000 in
set_option maxHeartbeats 4000000 in
theorem watch1 (g : Nat) (n b : Int) (l : Sl) (A : Option Addr) (c : Nat) (w : World) (h : UAt w g (s1t n b) l) (he : IntsAt w (.slice A 1 c) [0]) : Calls Tryz.prog 66 #[.pointer (some ⟨g, 0, none⟩), .slice A 1 c] w fun e w' => e = .returned (.tuple #[]) ∧ Below w.heap.size w w' := by
  obtain ⟨be, oe, rfl, re⟩ := IntsAt.at_ he (j := 0) (by simp)
  simp at re
  have HU := Lib.hid (fun W (hb : Below w.heap.size w W) => h.call hb)
  have HE : Hid (∀ W, Below w.heap.size w W → W.cell? ⟨be, oe, none⟩ = some (i 0)) := fun W hb => re W (Kept.of hb)
  have HC := Lib.hid (charging1 n b l)
  clear h he re
  go_enter Tryz.func66, Tryz.ntmps66
  go_wp2_with fail
  go_loopg [11] 1 (fun gg s11 wr => ∃ kk : Nat, kk ≤ 1 ∧ 1 - kk ≤ gg ∧ s11 = i kk ∧ Hid (Below w.heap.size w wr))
  case atStart => exact ⟨0, by omega, by omega, rfl, Below.refl _ _⟩
  case round =>
    obtain ⟨kk, hkk, hg, rfl, HB⟩ := hrel
    rcases (show kk = 0 ∨ kk = 1 by omega) with rfl | rfl
    · have ke := HE.out wr HB.out
      have HK := Lib.hid (HU.out wr HB.out)
      go_wp2_with (refine wpList_load_row rfl 43 (.tmp 20) rfl g rfl 110 (stA (s1t n b) l) (0, 0) _ HK.out.k Tryz.underlying43 rfl (by kernel_rfl) ?_)
      refine (HC.out wr HK.out.a.at_).mono ?_
      rintro e w1 ⟨rfl, hb⟩
      have HB1 := Lib.hid (below_call HB.out hb)
      clear hb ke HK
      go_wp2_with fail
      go_roundg 0
      case measure => omega
      case rel => exact ⟨1, by omega, by omega, by rfl, HB1⟩
    · go_wp2_with fail
      refine bodyPost_end0 rfl rfl ?_
      exact ⟨rfl, HB.out⟩

set_option maxRecDepth 100000 in
set_option maxHeartbeats 4000000 in
theorem expire1 (g : Nat) (n b : Int) (l : Sl) (w : World) (h : UAt w g (s1t n b) l) : Calls Tryz.prog 67 #[.pointer (some ⟨g, 0, none⟩)] w fun e w' => e = .returned (.tuple #[]) ∧ Below w.heap.size w w' := by
  obtain ⟨bC, cC, bM, cM, bT, cT, bO, cO, bL, cL, bS, cS, -, hU⟩ := uopen h
  have HU := Lib.hid hU
  have HX := Lib.hid expireNil
  clear hU h
  go_enter Tryz.func67, Tryz.ntmps67
  go_upto_region 0 with (fail)
  go_cut [2, 3] (fun s2 s3 wc => s2 = .slice none 0 0 ∧ s3 = .slice none 0 0 ∧ Hid (Below w.heap.size w wc))
  case first =>
    refine RegC.region 16 (fun k => match k with | 0 => some (.pointer (some ⟨g, 0, none⟩)) | 1 => some (.pointer (some ⟨g, 0, none⟩)) | 2 => some (.pointer (some ⟨g, 0, none⟩)) | 3 => some (.pointer (some ⟨g, 13, none⟩)) | 4 => some (.slice none 0 0) | 5 => some (.pointer (some ⟨g, 0, none⟩)) | 6 => some (.pointer (some ⟨g, 0, none⟩)) | 7 => some (.pointer (some ⟨g, 0, none⟩)) | 8 => some (.pointer (some ⟨g, 1, none⟩)) | 9 => some (i n) | 10 => some (.tuple #[.slice none 0 0, .slice none 0 0]) | 11 => some (.tuple #[.slice none 0 0, .slice none 0 0]) | 12 => some (.slice none 0 0) | 13 => some (.slice none 0 0) | 14 => some (.slice none 0 0) | 15 => some (.slice none 0 0) | _ => none) (by kernel_rfl) (by kernel_rfl) (Reg4.in_of (n := 36) (by kernel_rfl) rfl) ?_ ?_
    · intro idx o hj ho a' w' hG hop
      have hj' : idx = 0 ∨ idx = 1 ∨ idx = 2 ∨ idx = 3 ∨ idx = 4 ∨ idx = 5 ∨ idx = 6 ∨ idx = 7 ∨ idx = 8 ∨ idx = 9 ∨ idx = 10 ∨ idx = 11 ∨ idx = 12 ∨ idx = 13 ∨ idx = 14 ∨ idx = 15 := by omega
      clear hj
      rcases hj' with rfl | rfl | rfl | rfl | rfl | rfl | rfl | rfl | rfl | rfl | rfl | rfl | rfl | rfl | rfl | rfl
      · obtain rfl := Option.some.inj ho
        have h0 : a'.tmps[0]?.getD undef = _ := (Array.getD_eq_getD_getElem? ..).symm.trans (hop 0 (by simp [Op.operands, Call.operands]))
        refine Reg4.StepOk.mono (R := fun v W => v = .pointer (some ⟨g, 0, none⟩) ∧ W = w') ?_ (fun v W h => ?_)
        · go_simp
          all_goals (try exact ⟨rfl, rfl⟩)
        · obtain ⟨rfl, rfl⟩ := h
          exact ⟨fun x hx => Option.some.inj hx, Below.refl _ _⟩
      · obtain rfl := Option.some.inj ho
        have h7 : a'.tmps[7]?.getD undef = .pointer (some ⟨g, 0, none⟩) := (Array.getD_eq_getD_getElem? ..).symm.trans (hop 7 (by simp [Op.operands, Call.operands]) _ rfl)
        refine Reg4.StepOk.mono (R := fun v W => v = .pointer (some ⟨g, 0, none⟩) ∧ W = w') ?_ (fun v W h => ?_)
        · go_simp
          all_goals (try exact ⟨rfl, rfl⟩)
        · obtain ⟨rfl, rfl⟩ := h
          exact ⟨fun x hx => Option.some.inj hx, Below.refl _ _⟩
      · obtain rfl := Option.some.inj ho
        have h8 : a'.tmps[8]?.getD undef = .pointer (some ⟨g, 0, none⟩) := (Array.getD_eq_getD_getElem? ..).symm.trans (hop 8 (by simp [Op.operands, Call.operands]) _ rfl)
        refine Reg4.StepOk.mono (R := fun v W => v = .pointer (some ⟨g, 0, none⟩) ∧ W = w') ?_ (fun v W h => ?_)
        · go_simp
          all_goals (try exact ⟨rfl, rfl⟩)
        · obtain ⟨rfl, rfl⟩ := h
          exact ⟨fun x hx => Option.some.inj hx, Below.refl _ _⟩
      · obtain rfl := Option.some.inj ho
        have h9 : a'.tmps[9]?.getD undef = .pointer (some ⟨g, 0, none⟩) := (Array.getD_eq_getD_getElem? ..).symm.trans (hop 9 (by simp [Op.operands, Call.operands]) _ rfl)
        refine Reg4.StepOk.mono (R := fun v W => v = .pointer (some ⟨g, 13, none⟩) ∧ W = w') ?_ (fun v W h => ?_)
        · go_simp
          all_goals (try exact ⟨rfl, rfl⟩)
        · obtain ⟨rfl, rfl⟩ := h
          exact ⟨fun x hx => Option.some.inj hx, Below.refl _ _⟩
      · obtain rfl := Option.some.inj ho
        have h10 : a'.tmps[10]?.getD undef = .pointer (some ⟨g, 13, none⟩) := (Array.getD_eq_getD_getElem? ..).symm.trans (hop 10 (by simp [Op.operands, Call.operands]) _ rfl)
        have k13 := (HU.out _ hG).k13
        refine Reg4.StepOk.mono (R := fun v W => v = .slice none 0 0 ∧ W = w') ?_ (fun v W h => ?_)
        · go_simp
          all_goals (try exact ⟨rfl, rfl⟩)
        · obtain ⟨rfl, rfl⟩ := h
          exact ⟨fun x hx => Option.some.inj hx, Below.refl _ _⟩
      · obtain rfl := Option.some.inj ho
        have h0 : a'.tmps[0]?.getD undef = _ := (Array.getD_eq_getD_getElem? ..).symm.trans (hop 0 (by simp [Op.operands, Call.operands]))
        refine Reg4.StepOk.mono (R := fun v W => v = .pointer (some ⟨g, 0, none⟩) ∧ W = w') ?_ (fun v W h => ?_)
        · go_simp
          all_goals (try exact ⟨rfl, rfl⟩)
        · obtain ⟨rfl, rfl⟩ := h
          exact ⟨fun x hx => Option.some.inj hx, Below.refl _ _⟩
      · obtain rfl := Option.some.inj ho
        have h12 : a'.tmps[12]?.getD undef = .pointer (some ⟨g, 0, none⟩) := (Array.getD_eq_getD_getElem? ..).symm.trans (hop 12 (by simp [Op.operands, Call.operands]) _ rfl)
        refine Reg4.StepOk.mono (R := fun v W => v = .pointer (some ⟨g, 0, none⟩) ∧ W = w') ?_ (fun v W h => ?_)
        · go_simp
          all_goals (try exact ⟨rfl, rfl⟩)
        · obtain ⟨rfl, rfl⟩ := h
          exact ⟨fun x hx => Option.some.inj hx, Below.refl _ _⟩
      · obtain rfl := Option.some.inj ho
        have h13 : a'.tmps[13]?.getD undef = .pointer (some ⟨g, 0, none⟩) := (Array.getD_eq_getD_getElem? ..).symm.trans (hop 13 (by simp [Op.operands, Call.operands]) _ rfl)
        refine Reg4.StepOk.mono (R := fun v W => v = .pointer (some ⟨g, 0, none⟩) ∧ W = w') ?_ (fun v W h => ?_)
        · go_simp
          all_goals (try exact ⟨rfl, rfl⟩)
        · obtain ⟨rfl, rfl⟩ := h
          exact ⟨fun x hx => Option.some.inj hx, Below.refl _ _⟩
      · obtain rfl := Option.some.inj ho
        have h14 : a'.tmps[14]?.getD undef = .pointer (some ⟨g, 0, none⟩) := (Array.getD_eq_getD_getElem? ..).symm.trans (hop 14 (by simp [Op.operands, Call.operands]) _ rfl)
        refine Reg4.StepOk.mono (R := fun v W => v = .pointer (some ⟨g, 1, none⟩) ∧ W = w') ?_ (fun v W h => ?_)
        · go_simp
          all_goals (try exact ⟨rfl, rfl⟩)
        · obtain ⟨rfl, rfl⟩ := h
          exact ⟨fun x hx => Option.some.inj hx, Below.refl _ _⟩
      · obtain rfl := Option.some.inj ho
        have h15 : a'.tmps[15]?.getD undef = .pointer (some ⟨g, 1, none⟩) := (Array.getD_eq_getD_getElem? ..).symm.trans (hop 15 (by simp [Op.operands, Call.operands]) _ rfl)
        have k1 := (HU.out _ hG).k1
        refine Reg4.StepOk.mono (R := fun v W => v = i n ∧ W = w') ?_ (fun v W h => ?_)
        · go_simp
          all_goals (try exact ⟨rfl, rfl⟩)
        · obtain ⟨rfl, rfl⟩ := h
          exact ⟨fun x hx => Option.some.inj hx, Below.refl _ _⟩
      · obtain rfl := Option.some.inj ho
        have h11 : a'.tmps[11]?.getD undef = .slice none 0 0 := (Array.getD_eq_getD_getElem? ..).symm.trans (hop 11 (by simp [Op.operands, Call.operands]) _ rfl)
        have h16 : a'.tmps[16]?.getD undef = i n := (Array.getD_eq_getD_getElem? ..).symm.trans (hop 16 (by simp [Op.operands, Call.operands]) _ rfl)
        refine Reg4.StepOk.mono (R := fun v W => v = .tuple #[.slice none 0 0, .slice none 0 0] ∧ Hid (Below w'.heap.size w' W)) ?_ (fun v W h => ?_)
        · go_simp
          refine (HX.out _ _).mono ?_
          rintro e w5 ⟨rfl, hb⟩
          exact ⟨_, rfl, rfl, hb⟩
        · obtain ⟨rfl, hb⟩ := h
          exact ⟨fun x hx => Option.some.inj hx, hb.out⟩
      · obtain rfl := Option.some.inj ho
        have h17 : a'.tmps[17]?.getD undef = .tuple #[.slice none 0 0, .slice none 0 0] := (Array.getD_eq_getD_getElem? ..).symm.trans (hop 17 (by simp [Op.operands, Call.operands]) _ rfl)
        refine Reg4.StepOk.mono (R := fun v W => v = .tuple #[.slice none 0 0, .slice none 0 0] ∧ W = w') ?_ (fun v W h => ?_)
        · go_simp
          all_goals (try exact ⟨rfl, rfl⟩)
        · obtain ⟨rfl, rfl⟩ := h
          exact ⟨fun x hx => Option.some.inj hx, Below.refl _ _⟩
      · obtain rfl := Option.some.inj ho
        have h6 : a'.tmps[6]?.getD undef = .tuple #[.slice none 0 0, .slice none 0 0] := (Array.getD_eq_getD_getElem? ..).symm.trans (hop 6 (by simp [Op.operands, Call.operands]) _ rfl)
        refine Reg4.StepOk.mono (R := fun v W => v = .slice none 0 0 ∧ W = w') ?_ (fun v W h => ?_)
        · go_simp
          all_goals (try exact ⟨rfl, rfl⟩)
        · obtain ⟨rfl, rfl⟩ := h
          exact ⟨fun x hx => Option.some.inj hx, Below.refl _ _⟩
      · obtain rfl := Option.some.inj ho
        have h6 : a'.tmps[6]?.getD undef = .tuple #[.slice none 0 0, .slice none 0 0] := (Array.getD_eq_getD_getElem? ..).symm.trans (hop 6 (by simp [Op.operands, Call.operands]) _ rfl)
        refine Reg4.StepOk.mono (R := fun v W => v = .slice none 0 0 ∧ W = w') ?_ (fun v W h => ?_)
        · go_simp
          all_goals (try exact ⟨rfl, rfl⟩)
        · obtain ⟨rfl, rfl⟩ := h
          exact ⟨fun x hx => Option.some.inj hx, Below.refl _ _⟩
      · obtain rfl := Option.some.inj ho
        have h18 : a'.tmps[18]?.getD undef = .slice none 0 0 := (Array.getD_eq_getD_getElem? ..).symm.trans (hop 18 (by simp [Op.operands, Call.operands]) _ rfl)
        refine Reg4.StepOk.mono (R := fun v W => v = .slice none 0 0 ∧ W = w') ?_ (fun v W h => ?_)
        · go_simp
          all_goals (try exact ⟨rfl, rfl⟩)
        · obtain ⟨rfl, rfl⟩ := h
          exact ⟨fun x hx => Option.some.inj hx, Below.refl _ _⟩
      · obtain rfl := Option.some.inj ho
        have h19 : a'.tmps[19]?.getD undef = .slice none 0 0 := (Array.getD_eq_getD_getElem? ..).symm.trans (hop 19 (by simp [Op.operands, Call.operands]) _ rfl)
        refine Reg4.StepOk.mono (R := fun v W => v = .slice none 0 0 ∧ W = w') ?_ (fun v W h => ?_)
        · go_simp
          all_goals (try exact ⟨rfl, rfl⟩)
        · obtain ⟨rfl, rfl⟩ := h
          exact ⟨fun x hx => Option.some.inj hx, Below.refl _ _⟩
    · intro vals w' hG hv
      have hv0 : vals 0 = .pointer (some ⟨g, 0, none⟩) := hv 0 _ (by omega) rfl
      have hv1 : vals 1 = .pointer (some ⟨g, 0, none⟩) := hv 1 _ (by omega) rfl
      have hv2 : vals 2 = .pointer (some ⟨g, 0, none⟩) := hv 2 _ (by omega) rfl
      have hv3 : vals 3 = .pointer (some ⟨g, 13, none⟩) := hv 3 _ (by omega) rfl
      have hv4 : vals 4 = .slice none 0 0 := hv 4 _ (by omega) rfl
      have hv5 : vals 5 = .pointer (some ⟨g, 0, none⟩) := hv 5 _ (by omega) rfl
      have hv6 : vals 6 = .pointer (some ⟨g, 0, none⟩) := hv 6 _ (by omega) rfl
      have hv7 : vals 7 = .pointer (some ⟨g, 0, none⟩) := hv 7 _ (by omega) rfl
      have hv8 : vals 8 = .pointer (some ⟨g, 1, none⟩) := hv 8 _ (by omega) rfl
      have hv9 : vals 9 = i n := hv 9 _ (by omega) rfl
      have hv10 : vals 10 = .tuple #[.slice none 0 0, .slice none 0 0] := hv 10 _ (by omega) rfl
      have hv11 : vals 11 = .tuple #[.slice none 0 0, .slice none 0 0] := hv 11 _ (by omega) rfl
      have hv12 : vals 12 = .slice none 0 0 := hv 12 _ (by omega) rfl
      have hv13 : vals 13 = .slice none 0 0 := hv 13 _ (by omega) rfl
      have hv14 : vals 14 = .slice none 0 0 := hv 14 _ (by omega) rfl
      have hv15 : vals 15 = .slice none 0 0 := hv 15 _ (by omega) rfl
      simp only [Reg4.puts, Reg4.dstOf, List.range, List.range.loop, if_true, List.drop_succ_cons, List.drop_zero, hv0, hv1, hv2, hv3, hv4, hv5, hv6, hv7, hv8, hv9, hv10, hv11, hv12, hv13, hv14, hv15]
      clear hv hv0 hv1 hv2 hv3 hv4 hv5 hv6 hv7 hv8 hv9 hv10 hv11 hv12 hv13 hv14 hv15
      simp [Act.put]
      go_wp2_with fail
      go_meet
      exact ⟨rfl, rfl, hG⟩
  case rest =>
    obtain ⟨rfl, rfl, HB⟩ := hcut
    obtain ⟨k0, k1, k2, k4, k6, k7, k8, k9, k13, k34, k25, k26, k27, k28, k29, fr, c0, m0, m1, m2, m3, t0, t1, t2, t3, t4, t5, t6, t7, t8, l0, fM, fL⟩ := HU.out wc HB.out
    have HP := Lib.hid (setCell_self k13)
    go_upto_region 2 with (fail)
    rw [show wc.setCell ⟨g, 13, none⟩ (.slice none 0 0) = wc from HP.out]
    clear k0 k1 k2 k4 k6 k7 k8 k9 k13 k34 k25 k26 k27 k28 k29 fr c0 m0 m1 m2 m3 t0 t1 t2 t3 t4 t5 t6 t7 t8 l0 fM fL
    go_wp2_with fail
    go_loopg [27] 0 (fun gg s27 wr => s27 = i 0 ∧ wr = wc)
    case atStart => exact ⟨rfl, rfl⟩
    case round =>
      obtain ⟨rfl, rfl⟩ := hrel
      go_wp2_with fail
      refine bodyPost_end0 rfl rfl ?_
      exact ⟨rfl, HB.out⟩
def UpdR (w : World) (s4 s5 : Value) (wc : World) : Prop := ∃ p, s4 = .pointer (some ⟨p, 0, none⟩) ∧ s5 = .bool false ∧ Blk wc p 39 #[i 0, i 0, i 0, i 0, i 0] ∧ Below w.heap.size w wc
theorem put5_self {w : World} {b o : Nat} {x0 x1 x2 x3 x4 : Value} (h0 : w.cell? ⟨b, 25, none⟩ = some x0) (h1 : w.cell? ⟨b, 26, none⟩ = some x1) (h2 : w.cell? ⟨b, 27, none⟩ = some x2) (h3 : w.cell? ⟨b, 28, none⟩ = some x3) (h4 : w.cell? ⟨b, 29, none⟩ = some x4) :
    ((((w.setCell ⟨b, 25, none⟩ x0).setCell ⟨b, 26, none⟩ x1).setCell ⟨b, 27, none⟩ x2).setCell ⟨b, 28, none⟩ x3).setCell ⟨b, 29, none⟩ x4 = w := by
  rw [setCell_self h0, setCell_self h1, setCell_self h2, setCell_self h3, setCell_self h4]

set_option maxRecDepth 100000 in
set_option maxHeartbeats 4000000 in
theorem update1 (g : Nat) (n b : Int) (l : Sl) (w : World) (h : UAt w g (s1t n b) l) : Calls Tryz.prog 68 #[.pointer (some ⟨g, 0, none⟩)] w fun e w' => e = .returned (.tuple #[]) ∧ Below w.heap.size w w' := by
  obtain ⟨bC, cC, bM, cM, bT, cT, bO, cO, bL, cL, bS, cS, -, hU⟩ := uopen h
  have HU := Lib.hid hU
  have HA := Lib.hid (fun W (hb : Below w.heap.size w W) => h.call hb)
  have HR := Lib.hid (runs1 g n b l)
  have HF := Lib.hid (fwStep1 n)
  clear hU h
  go_enter Tryz.func68, Tryz.ntmps68
  go_wp2_with fail
  go_loopg [2, 3] 2 (fun gg s2 s3 wr => ∃ kk : Nat, 1 ≤ kk ∧ kk ≤ 2 ∧ 2 - kk ≤ gg ∧ s2 = .bool true ∧ s3 = i kk ∧ Hid (Below w.heap.size w wr))
  case atStart => exact ⟨1, by omega, by omega, by omega, rfl, rfl, Below.refl _ _⟩
  case round =>
    obtain ⟨kk, hk1, hkk, hg, rfl, rfl, HB⟩ := hrel
    obtain ⟨k0, k1, k2, k4, k6, k7, k8, k9, k13, k34, k25, k26, k27, k28, k29, fr, c0, m0, m1, m2, m3, t0, t1, t2, t3, t4, t5, t6, t7, t8, l0, fM, fL⟩ := HU.out wr HB.out
    rcases (show kk = 1 ∨ kk = 2 by omega) with rfl | rfl
    · go_wp2_with fail
      refine (HR.out wr (HA.out wr HB.out)).mono ?_
      rintro e w1 ⟨rfl, hb⟩
      have HB1 := Lib.hid (below_call HB.out hb)
      clear hb
      clear k0 k1 k2 k4 k6 k7 k8 k9 k13 k34 k25 k26 k27 k28 k29 fr c0 m0 m1 m2 m3 t0 t1 t2 t3 t4 t5 t6 t7 t8 l0 fM fL
      go_wp2_with fail
      go_roundg 0
      case measure => omega
      case rel => exact ⟨2, by omega, by omega, by omega, by rfl, by rfl, HB1⟩
    · go_upto_region 5 with (fail)
      clear k0 k1 k2 k4 k6 k7 k8 k9 k13 k34 k25 k26 k27 k28 k29 fr c0 m0 m1 m2 m3 t0 t1 t2 t3 t4 t5 t6 t7 t8 l0 fM fL
      go_cut [4, 5] (fun s4 s5 wc => Hid (UpdR wr s4 s5 wc))
      case first =>
        refine RegA.region (Γ := Unit) 26 (fun γ k => match k with | 0 => some (.pointer (some ⟨g, 0, none⟩)) | 1 => some (.pointer (some ⟨g, 0, none⟩)) | 2 => some (.pointer (some ⟨g, 0, none⟩)) | 3 => some (.pointer (some ⟨g, 25, none⟩)) | 4 => some (.agg #[i 0, i 0, i 0, i 0, i 0]) | 5 => some (.pointer (some ⟨g, 0, none⟩)) | 6 => some (.pointer (some ⟨g, 0, none⟩)) | 7 => some (.pointer (some ⟨g, 0, none⟩)) | 8 => some (.pointer (some ⟨g, 1, none⟩)) | 9 => some (i n) | 10 => some (.bool true) | 11 => some (.pointer (some ⟨g, 0, none⟩)) | 12 => some (.pointer (some ⟨g, 0, none⟩)) | 13 => some (.pointer (some ⟨g, 0, none⟩)) | 14 => some (.pointer (some ⟨g, 25, none⟩)) | 15 => some (.pointer (some ⟨g, 27, none⟩)) | 16 => some (i 0) | 17 => some (i 0) | 18 => some (.bool false) | 19 => some (.tuple #[.agg #[i 0, i 0, i 0, i 0, i 0], .bool false]) | 20 => some (.tuple #[.agg #[i 0, i 0, i 0, i 0, i 0], .bool false]) | 21 => some (.agg #[i 0, i 0, i 0, i 0, i 0]) | 22 => some (.bool false) | 23 => none | 24 => none | 25 => some (.bool false) | _ => none) (fun _ _ => True) 39 #[i 0, i 0, i 0, i 0, i 0] (fun _ => #[i 0, i 0, i 0, i 0, i 0]) 23 19 24 4 44 21 (by kernel_rfl) (by kernel_rfl) (Reg4.in_of (n := 64) (by kernel_rfl) rfl) (by decide) (fun _ => rfl) (fun _ => rfl) (fun _ => rfl) ?_ (fun _ _ _ h _ => h) (fun _ _ _ _ h _ _ => h) rfl rfl ?_ (fun _ => by kernel_rfl) (fun _ => rfl) (fun _ => by kernel_rfl) ?_ ?_ ?_ ?_
        · intro γ k hk h1 h2
          have hk : k = 0 ∨ k = 1 ∨ k = 2 ∨ k = 3 ∨ k = 4 ∨ k = 5 ∨ k = 6 ∨ k = 7 ∨ k = 8 ∨ k = 9 ∨ k = 10 ∨ k = 11 ∨ k = 12 ∨ k = 13 ∨ k = 14 ∨ k = 15 ∨ k = 16 ∨ k = 17 ∨ k = 18 ∨ k = 19 ∨ k = 20 ∨ k = 21 ∨ k = 22 ∨ k = 23 ∨ k = 24 ∨ k = 25 := by omega
          rcases hk with rfl | rfl | rfl | rfl | rfl | rfl | rfl | rfl | rfl | rfl | rfl | rfl | rfl | rfl | rfl | rfl | rfl | rfl | rfl | rfl | rfl | rfl | rfl | rfl | rfl | rfl
          all_goals first | exact ⟨_, rfl⟩ | exact absurd rfl h1 | exact absurd rfl h2
        · intro o ho
          obtain rfl := Option.some.inj ho
          exact ⟨rfl, by first | exact ⟨_, by simp, rfl, rfl⟩ | decide⟩
        · intro γ idx o x hj hne ho hx a' w' hG hop
          have hj' : idx = 0 ∨ idx = 1 ∨ idx = 2 ∨ idx = 3 ∨ idx = 4 ∨ idx = 5 ∨ idx = 6 ∨ idx = 7 ∨ idx = 8 ∨ idx = 9 ∨ idx = 10 ∨ idx = 11 ∨ idx = 12 ∨ idx = 13 ∨ idx = 14 ∨ idx = 15 ∨ idx = 16 ∨ idx = 17 ∨ idx = 18 ∨ idx = 19 ∨ idx = 20 ∨ idx = 21 ∨ idx = 22 ∨ idx = 23 ∨ idx = 24 ∨ idx = 25 := by omega
          clear hj
          rcases hj' with rfl | rfl | rfl | rfl | rfl | rfl | rfl | rfl | rfl | rfl | rfl | rfl | rfl | rfl | rfl | rfl | rfl | rfl | rfl | rfl | rfl | rfl | rfl | rfl | rfl | rfl
          · obtain rfl := Option.some.inj ho
            obtain rfl := Option.some.inj hx
            have h0 : a'.tmps[0]?.getD undef = _ := (Array.getD_eq_getD_getElem? ..).symm.trans (hop 0 (by simp [Op.operands, Call.operands]))
            go_simp
          · obtain rfl := Option.some.inj ho
            obtain rfl := Option.some.inj hx
            have h24 : a'.tmps[24]?.getD undef = .pointer (some ⟨g, 0, none⟩) := (Array.getD_eq_getD_getElem? ..).symm.trans (hop 24 (by simp [Op.operands, Call.operands]) _ rfl)
            go_simp
          · obtain rfl := Option.some.inj ho
            obtain rfl := Option.some.inj hx
            have h25 : a'.tmps[25]?.getD undef = .pointer (some ⟨g, 0, none⟩) := (Array.getD_eq_getD_getElem? ..).symm.trans (hop 25 (by simp [Op.operands, Call.operands]) _ rfl)
            go_simp
          · obtain rfl := Option.some.inj ho
            obtain rfl := Option.some.inj hx
            have h26 : a'.tmps[26]?.getD undef = .pointer (some ⟨g, 0, none⟩) := (Array.getD_eq_getD_getElem? ..).symm.trans (hop 26 (by simp [Op.operands, Call.operands]) _ rfl)
            go_simp
          · obtain rfl := Option.some.inj ho
            obtain rfl := Option.some.inj hx
            have h27 : a'.tmps[27]?.getD undef = .pointer (some ⟨g, 25, none⟩) := (Array.getD_eq_getD_getElem? ..).symm.trans (hop 27 (by simp [Op.operands, Call.operands]) _ rfl)
            have k25 := (HU.out _ (below_call HB.out hG)).k25
            have k26 := (HU.out _ (below_call HB.out hG)).k26
            have k27 := (HU.out _ (below_call HB.out hG)).k27
            have k28 := (HU.out _ (below_call HB.out hG)).k28
            have k29 := (HU.out _ (below_call HB.out hG)).k29
            go_simp
          · obtain rfl := Option.some.inj ho
            obtain rfl := Option.some.inj hx
            have h0 : a'.tmps[0]?.getD undef = _ := (Array.getD_eq_getD_getElem? ..).symm.trans (hop 0 (by simp [Op.operands, Call.operands]))
            go_simp
          · obtain rfl := Option.some.inj ho
            obtain rfl := Option.some.inj hx
            have h29 : a'.tmps[29]?.getD undef = .pointer (some ⟨g, 0, none⟩) := (Array.getD_eq_getD_getElem? ..).symm.trans (hop 29 (by simp [Op.operands, Call.operands]) _ rfl)
            go_simp
          · obtain rfl := Option.some.inj ho
            obtain rfl := Option.some.inj hx
            have h30 : a'.tmps[30]?.getD undef = .pointer (some ⟨g, 0, none⟩) := (Array.getD_eq_getD_getElem? ..).symm.trans (hop 30 (by simp [Op.operands, Call.operands]) _ rfl)
            go_simp
          · obtain rfl := Option.some.inj ho
            obtain rfl := Option.some.inj hx
            have h31 : a'.tmps[31]?.getD undef = .pointer (some ⟨g, 0, none⟩) := (Array.getD_eq_getD_getElem? ..).symm.trans (hop 31 (by simp [Op.operands, Call.operands]) _ rfl)
            go_simp
          · obtain rfl := Option.some.inj ho
            obtain rfl := Option.some.inj hx
            have h32 : a'.tmps[32]?.getD undef = .pointer (some ⟨g, 1, none⟩) := (Array.getD_eq_getD_getElem? ..).symm.trans (hop 32 (by simp [Op.operands, Call.operands]) _ rfl)
            have k1 := (HU.out _ (below_call HB.out hG)).k1
            go_simp
          · obtain rfl := Option.some.inj ho
            obtain rfl := Option.some.inj hx
            have h2 : a'.tmps[2]?.getD undef = _ := (Array.getD_eq_getD_getElem? ..).symm.trans (hop 2 (by simp [Op.operands, Call.operands]))
            go_simp
          · obtain rfl := Option.some.inj ho
            obtain rfl := Option.some.inj hx
            have h0 : a'.tmps[0]?.getD undef = _ := (Array.getD_eq_getD_getElem? ..).symm.trans (hop 0 (by simp [Op.operands, Call.operands]))
            go_simp
          · obtain rfl := Option.some.inj ho
            obtain rfl := Option.some.inj hx
            have h35 : a'.tmps[35]?.getD undef = .pointer (some ⟨g, 0, none⟩) := (Array.getD_eq_getD_getElem? ..).symm.trans (hop 35 (by simp [Op.operands, Call.operands]) _ rfl)
            go_simp
          · obtain rfl := Option.some.inj ho
            obtain rfl := Option.some.inj hx
            have h36 : a'.tmps[36]?.getD undef = .pointer (some ⟨g, 0, none⟩) := (Array.getD_eq_getD_getElem? ..).symm.trans (hop 36 (by simp [Op.operands, Call.operands]) _ rfl)
            go_simp
          · obtain rfl := Option.some.inj ho
            obtain rfl := Option.some.inj hx
            have h37 : a'.tmps[37]?.getD undef = .pointer (some ⟨g, 0, none⟩) := (Array.getD_eq_getD_getElem? ..).symm.trans (hop 37 (by simp [Op.operands, Call.operands]) _ rfl)
            go_simp
          · obtain rfl := Option.some.inj ho
            obtain rfl := Option.some.inj hx
            have h38 : a'.tmps[38]?.getD undef = .pointer (some ⟨g, 25, none⟩) := (Array.getD_eq_getD_getElem? ..).symm.trans (hop 38 (by simp [Op.operands, Call.operands]) _ rfl)
            go_simp
          · obtain rfl := Option.some.inj ho
            obtain rfl := Option.some.inj hx
            have h39 : a'.tmps[39]?.getD undef = .pointer (some ⟨g, 27, none⟩) := (Array.getD_eq_getD_getElem? ..).symm.trans (hop 39 (by simp [Op.operands, Call.operands]) _ rfl)
            have k27 := (HU.out _ (below_call HB.out hG)).k27
            go_simp
          · obtain rfl := Option.some.inj ho
            obtain rfl := Option.some.inj hx
            have h40 : a'.tmps[40]?.getD undef = i 0 := (Array.getD_eq_getD_getElem? ..).symm.trans (hop 40 (by simp [Op.operands, Call.operands]) _ rfl)
            go_simp
          · obtain rfl := Option.some.inj ho
            obtain rfl := Option.some.inj hx
            have h41 : a'.tmps[41]?.getD undef = i 0 := (Array.getD_eq_getD_getElem? ..).symm.trans (hop 41 (by simp [Op.operands, Call.operands]) _ rfl)
            go_simp
          · exact absurd rfl hne
          · obtain rfl := Option.some.inj ho
            obtain rfl := Option.some.inj hx
            have h43 : a'.tmps[43]?.getD undef = .tuple #[.agg #[i 0, i 0, i 0, i 0, i 0], .bool false] := (Array.getD_eq_getD_getElem? ..).symm.trans (hop 43 (by simp [Op.operands, Call.operands]) _ rfl)
            go_simp
          · obtain rfl := Option.some.inj ho
            obtain rfl := Option.some.inj hx
            have h23 : a'.tmps[23]?.getD undef = .tuple #[.agg #[i 0, i 0, i 0, i 0, i 0], .bool false] := (Array.getD_eq_getD_getElem? ..).symm.trans (hop 23 (by simp [Op.operands, Call.operands]) _ rfl)
            go_simp
          · obtain rfl := Option.some.inj ho
            obtain rfl := Option.some.inj hx
            have h23 : a'.tmps[23]?.getD undef = .tuple #[.agg #[i 0, i 0, i 0, i 0, i 0], .bool false] := (Array.getD_eq_getD_getElem? ..).symm.trans (hop 23 (by simp [Op.operands, Call.operands]) _ rfl)
            go_simp
          · cases hx
          · cases hx
          · obtain rfl := Option.some.inj ho
            obtain rfl := Option.some.inj hx
            have h45 : a'.tmps[45]?.getD undef = .bool false := (Array.getD_eq_getD_getElem? ..).symm.trans (hop 45 (by simp [Op.operands, Call.operands]) _ rfl)
            go_simp
        · intro o ho a' w' hG hop
          obtain rfl := Option.some.inj ho
          have h28 : a'.tmps[28]?.getD undef = .agg #[i 0, i 0, i 0, i 0, i 0] := (Array.getD_eq_getD_getElem? ..).symm.trans (hop () 28 (by simp [Op.operands, Call.operands]) _ rfl)
          have h33 : a'.tmps[33]?.getD undef = i n := (Array.getD_eq_getD_getElem? ..).symm.trans (hop () 33 (by simp [Op.operands, Call.operands]) _ rfl)
          have h34 : a'.tmps[34]?.getD undef = .bool true := (Array.getD_eq_getD_getElem? ..).symm.trans (hop () 34 (by simp [Op.operands, Call.operands]) _ rfl)
          have h42 : a'.tmps[42]?.getD undef = .bool false := (Array.getD_eq_getD_getElem? ..).symm.trans (hop () 42 (by simp [Op.operands, Call.operands]) _ rfl)
          refine Reg4.StepOk.mono (R := fun v W => v = .tuple #[.agg #[i 0, i 0, i 0, i 0, i 0], .bool false] ∧ Hid (Below w'.heap.size w' W)) ?_ (fun v W h => ?_)
          · go_simp
            refine (HF.out _).mono ?_
            rintro e w5 ⟨rfl, hb⟩
            exact ⟨_, rfl, rfl, hb⟩
          · obtain ⟨rfl, hb⟩ := h
            exact ⟨(), rfl, trivial, hb.out⟩
        · intro o ho a' w'
          obtain rfl := Option.some.inj ho
          first | kernel_rfl | rfl
        · intro γ vals p w' hG hF hK hp hv hpv
          have hv0 : vals 0 = .pointer (some ⟨g, 0, none⟩) := hv 0 _ (by omega) rfl
          have hv1 : vals 1 = .pointer (some ⟨g, 0, none⟩) := hv 1 _ (by omega) rfl
          have hv2 : vals 2 = .pointer (some ⟨g, 0, none⟩) := hv 2 _ (by omega) rfl
          have hv3 : vals 3 = .pointer (some ⟨g, 25, none⟩) := hv 3 _ (by omega) rfl
          have hv4 : vals 4 = .agg #[i 0, i 0, i 0, i 0, i 0] := hv 4 _ (by omega) rfl
          have hv5 : vals 5 = .pointer (some ⟨g, 0, none⟩) := hv 5 _ (by omega) rfl
          have hv6 : vals 6 = .pointer (some ⟨g, 0, none⟩) := hv 6 _ (by omega) rfl
          have hv7 : vals 7 = .pointer (some ⟨g, 0, none⟩) := hv 7 _ (by omega) rfl
          have hv8 : vals 8 = .pointer (some ⟨g, 1, none⟩) := hv 8 _ (by omega) rfl
          have hv9 : vals 9 = i n := hv 9 _ (by omega) rfl
          have hv10 : vals 10 = .bool true := hv 10 _ (by omega) rfl
          have hv11 : vals 11 = .pointer (some ⟨g, 0, none⟩) := hv 11 _ (by omega) rfl
          have hv12 : vals 12 = .pointer (some ⟨g, 0, none⟩) := hv 12 _ (by omega) rfl
          have hv13 : vals 13 = .pointer (some ⟨g, 0, none⟩) := hv 13 _ (by omega) rfl
          have hv14 : vals 14 = .pointer (some ⟨g, 25, none⟩) := hv 14 _ (by omega) rfl
          have hv15 : vals 15 = .pointer (some ⟨g, 27, none⟩) := hv 15 _ (by omega) rfl
          have hv16 : vals 16 = i 0 := hv 16 _ (by omega) rfl
          have hv17 : vals 17 = i 0 := hv 17 _ (by omega) rfl
          have hv18 : vals 18 = .bool false := hv 18 _ (by omega) rfl
          have hv19 : vals 19 = .tuple #[.agg #[i 0, i 0, i 0, i 0, i 0], .bool false] := hv 19 _ (by omega) rfl
          have hv20 : vals 20 = .tuple #[.agg #[i 0, i 0, i 0, i 0, i 0], .bool false] := hv 20 _ (by omega) rfl
          have hv21 : vals 21 = .agg #[i 0, i 0, i 0, i 0, i 0] := hv 21 _ (by omega) rfl
          have hv22 : vals 22 = .bool false := hv 22 _ (by omega) rfl
          have hv25 : vals 25 = .bool false := hv 25 _ (by omega) rfl
          simp only [Reg4.puts, Reg4.dstOf, List.range, List.range.loop, if_true, List.drop_succ_cons, List.drop_zero, hpv, hv0, hv1, hv2, hv3, hv4, hv5, hv6, hv7, hv8, hv9, hv10, hv11, hv12, hv13, hv14, hv15, hv16, hv17, hv18, hv19, hv20, hv21, hv22, hv25]
          clear hv hpv hv0 hv1 hv2 hv3 hv4 hv5 hv6 hv7 hv8 hv9 hv10 hv11 hv12 hv13 hv14 hv15 hv16 hv17 hv18 hv19 hv20 hv21 hv22 hv25
          generalize vals 24 = zst
          simp [Act.put]
          go_wp2_with fail
          go_meet
          exact ⟨p, rfl, rfl, hK, hG⟩
      case rest =>
        obtain ⟨p, rfl, rfl, hp, hb6⟩ := hcut.out
        clear hcut
        have HB2 := Lib.hid (below_call HB.out hb6)
        obtain ⟨k0, k1, k2, k4, k6, k7, k8, k9, k13, k34, k25, k26, k27, k28, k29, fr, c0, m0, m1, m2, m3, t0, t1, t2, t3, t4, t5, t6, t7, t8, l0, fM, fL⟩ := HU.out wc HB2.out
        have HP := Lib.hid (put5_self (o := 0) k25 k26 k27 k28 k29)
        have kc := hp.cell
        go_upto_region 7 with (fail)
        rw [show ((((wc.setCell ⟨g, 25, none⟩ (.int .i64 0)).setCell ⟨g, 26, none⟩ (.int .i64 0)).setCell ⟨g, 27, none⟩ (.int .i64 0)).setCell ⟨g, 28, none⟩ (.int .i64 0)).setCell ⟨g, 29, none⟩ (.int .i64 0) = wc from HP.out]
        go_wp2_with fail
        refine bodyPost_end0 rfl rfl ?_
        exact ⟨rfl, HB2.out⟩

set_option maxRecDepth 100000 in
set_option maxHeartbeats 4000000 in
theorem report1 (g : Nat) (n b : Int) (l : Sl) (w : World) (h : UAt w g (s1t n b) l) : Calls Tryz.prog 69 #[.pointer (some ⟨g, 0, none⟩)] w fun e w' => e = .returned (.tuple #[]) ∧ Below w.heap.size w w' := by
  obtain ⟨bC, cC, bM, cM, bT, cT, bO, cO, bL, cL, bS, cS, -, hU⟩ := uopen h
  have HU := Lib.hid hU
  have HA := Lib.hid (fun W (hb : Below w.heap.size w W) => h.call hb)
  have HR := Lib.hid (runs1 g n b l)
  clear hU h
  go_enter Tryz.func69, Tryz.ntmps69
  obtain ⟨k0, k1, k2, k4, k6, k7, k8, k9, k13, k34, k25, k26, k27, k28, k29, fr, c0, m0, m1, m2, m3, t0, t1, t2, t3, t4, t5, t6, t7, t8, l0, fM, fL⟩ := HU.out w (Below.refl _ _)
  go_wp2_with fail
  clear k0 k1 k2 k4 k6 k7 k8 k9 k13 k34 k25 k26 k27 k28 k29 fr c0 m0 m1 m2 m3 t0 t1 t2 t3 t4 t5 t6 t7 t8 l0 fM fL
  go_loopg [14] 1 (fun gg s14 wr => ∃ kk : Nat, kk ≤ 1 ∧ 1 - kk ≤ gg ∧ s14 = i kk ∧ Hid (Below w.heap.size w wr))
  case atStart => exact ⟨0, by omega, by omega, rfl, Below.refl _ _⟩
  case round =>
    obtain ⟨kk, hkk, hg, rfl, HB⟩ := hrel
    rcases (show kk = 0 ∨ kk = 1 by omega) with rfl | rfl
    · obtain ⟨k0, k1, k2, k4, k6, k7, k8, k9, k13, k34, k25, k26, k27, k28, k29, fr, c0, m0, m1, m2, m3, t0, t1, t2, t3, t4, t5, t6, t7, t8, l0, fM, fL⟩ := HU.out wr HB.out
      have HB0 := Lib.hid (below_new wr (.cells #[.string ⟨#[]⟩, i 0, .string ⟨#[]⟩, .string ⟨#[]⟩, i 0, i 0, .bool false, i 0, i 0] 54))
      go_upto_region 4 with (fail)
      clear k0 k1 k2 k4 k6 k7 k8 k9 k13 k34 k25 k26 k27 k28 k29 fr c0 m0 m1 m2 m3 t0 t1 t2 t3 t4 t5 t6 t7 t8 l0 fM fL
      generalize wr.alloc (.cells #[.string ⟨#[]⟩, i 0, .string ⟨#[]⟩, .string ⟨#[]⟩, i 0, i 0, .bool false, i 0, i 0] 54) = wx at *
      have HB1 := Lib.hid (below_call HB.out HB0.out)
      refine RegG.region 27 (fun k => match k with | 0 => some (.pointer (some ⟨g, 0, none⟩)) | 1 => some (i 1) | 2 => some (.bool false) | 3 => some (.bool true) | 4 => some (.bool true) | 5 => some (undef) | 6 => some (undef) | 7 => some (undef) | 8 => some (undef) | 9 => some (undef) | 10 => some (undef) | 11 => some (undef) | 12 => some (undef) | 13 => some (undef) | 14 => some (undef) | 15 => some (.bool true) | 16 => some (.bool true) | 17 => some (undef) | 18 => some (undef) | 19 => some (undef) | 20 => some (undef) | 21 => some (undef) | 22 => some (undef) | 23 => some (undef) | 24 => some (undef) | 25 => some (undef) | 26 => some (.bool true) | _ => none) (by kernel_rfl) (by kernel_rfl) (Reg4.in_of (n := 82) (by kernel_rfl) rfl) ?_ ?_ ?_ ?_
      · intro idx o hj ho
        have hj' : idx = 0 ∨ idx = 1 ∨ idx = 2 ∨ idx = 3 ∨ idx = 4 ∨ idx = 5 ∨ idx = 6 ∨ idx = 7 ∨ idx = 8 ∨ idx = 9 ∨ idx = 10 ∨ idx = 11 ∨ idx = 12 ∨ idx = 13 ∨ idx = 14 ∨ idx = 15 ∨ idx = 16 ∨ idx = 17 ∨ idx = 18 ∨ idx = 19 ∨ idx = 20 ∨ idx = 21 ∨ idx = 22 ∨ idx = 23 ∨ idx = 24 ∨ idx = 25 ∨ idx = 26 := by omega
        clear hj
        rcases hj' with rfl | rfl | rfl | rfl | rfl | rfl | rfl | rfl | rfl | rfl | rfl | rfl | rfl | rfl | rfl | rfl | rfl | rfl | rfl | rfl | rfl | rfl | rfl | rfl | rfl | rfl | rfl
        · obtain rfl := Option.some.inj ho
          refine .inr (fun a' w' hG hop => ?_)
          have h0 : a'.tmps[0]?.getD undef = _ := (Array.getD_eq_getD_getElem? ..).symm.trans (hop 0 (by simp [Op.operands, Call.operands]))
          refine Reg4.StepOk.mono (R := fun v W => v = .pointer (some ⟨g, 0, none⟩) ∧ W = w') ?_ (fun v W h => ?_)
          · go_simp
            all_goals (try exact ⟨rfl, rfl⟩)
          · obtain ⟨rfl, rfl⟩ := h
            exact ⟨fun x hx => Option.some.inj hx, Below.refl _ _⟩
        · obtain rfl := Option.some.inj ho
          refine .inr (fun a' w' hG hop => ?_)
          have h4 : a'.tmps[4]?.getD undef = _ := (Array.getD_eq_getD_getElem? ..).symm.trans (hop 4 (by simp [Op.operands, Call.operands]))
          refine Reg4.StepOk.mono (R := fun v W => v = i 1 ∧ W = w') ?_ (fun v W h => ?_)
          · go_simp
            all_goals (try exact ⟨rfl, rfl⟩)
          · obtain ⟨rfl, rfl⟩ := h
            exact ⟨fun x hx => Option.some.inj hx, Below.refl _ _⟩
        · obtain rfl := Option.some.inj ho
          refine .inr (fun a' w' hG hop => ?_)
          have h21 : a'.tmps[21]?.getD undef = .pointer (some ⟨g, 0, none⟩) := (Array.getD_eq_getD_getElem? ..).symm.trans (hop 21 (by simp [Op.operands, Call.operands]) _ rfl)
          have h22 : a'.tmps[22]?.getD undef = i 1 := (Array.getD_eq_getD_getElem? ..).symm.trans (hop 22 (by simp [Op.operands, Call.operands]) _ rfl)
          refine Reg4.StepOk.mono (R := fun v W => v = .bool false ∧ Hid (Below w'.heap.size w' W)) ?_ (fun v W h => ?_)
          · go_simp
            refine (HR.out _ (HA.out _ (below_call HB1.out hG))).mono ?_
            rintro e w5 ⟨rfl, hb⟩
            exact ⟨_, rfl, rfl, hb⟩
          · obtain ⟨rfl, hb⟩ := h
            exact ⟨fun x hx => Option.some.inj hx, hb.out⟩
        · obtain rfl := Option.some.inj ho
          refine .inr (fun a' w' hG hop => ?_)
          have h23 : a'.tmps[23]?.getD undef = .bool false := (Array.getD_eq_getD_getElem? ..).symm.trans (hop 23 (by simp [Op.operands, Call.operands]) _ rfl)
          refine Reg4.StepOk.mono (R := fun v W => v = .bool true ∧ W = w') ?_ (fun v W h => ?_)
          · go_simp
            all_goals (try exact ⟨rfl, rfl⟩)
          · obtain ⟨rfl, rfl⟩ := h
            exact ⟨fun x hx => Option.some.inj hx, Below.refl _ _⟩
        · obtain rfl := Option.some.inj ho
          refine .inr (fun a' w' hG hop => ?_)
          have h24 : a'.tmps[24]?.getD undef = .bool true := (Array.getD_eq_getD_getElem? ..).symm.trans (hop 24 (by simp [Op.operands, Call.operands]) _ rfl)
          refine Reg4.StepOk.mono (R := fun v W => v = .bool true ∧ W = w') ?_ (fun v W h => ?_)
          · go_simp
            all_goals (try exact ⟨rfl, rfl⟩)
          · obtain ⟨rfl, rfl⟩ := h
            exact ⟨fun x hx => Option.some.inj hx, Below.refl _ _⟩
        · obtain rfl := Option.some.inj ho
          exact .inl ⟨4, false, rfl, ⟨true, rfl, by decide⟩, fun x hx => (Option.some.inj hx).symm⟩
        · obtain rfl := Option.some.inj ho
          exact .inl ⟨4, false, rfl, ⟨true, rfl, by decide⟩, fun x hx => (Option.some.inj hx).symm⟩
        · obtain rfl := Option.some.inj ho
          exact .inl ⟨4, false, rfl, ⟨true, rfl, by decide⟩, fun x hx => (Option.some.inj hx).symm⟩
        · obtain rfl := Option.some.inj ho
          exact .inl ⟨4, false, rfl, ⟨true, rfl, by decide⟩, fun x hx => (Option.some.inj hx).symm⟩
        · obtain rfl := Option.some.inj ho
          exact .inl ⟨4, false, rfl, ⟨true, rfl, by decide⟩, fun x hx => (Option.some.inj hx).symm⟩
        · obtain rfl := Option.some.inj ho
          exact .inl ⟨4, false, rfl, ⟨true, rfl, by decide⟩, fun x hx => (Option.some.inj hx).symm⟩
        · obtain rfl := Option.some.inj ho
          exact .inl ⟨4, false, rfl, ⟨true, rfl, by decide⟩, fun x hx => (Option.some.inj hx).symm⟩
        · obtain rfl := Option.some.inj ho
          exact .inl ⟨4, false, rfl, ⟨true, rfl, by decide⟩, fun x hx => (Option.some.inj hx).symm⟩
        · obtain rfl := Option.some.inj ho
          exact .inl ⟨4, false, rfl, ⟨true, rfl, by decide⟩, fun x hx => (Option.some.inj hx).symm⟩
        · obtain rfl := Option.some.inj ho
          exact .inl ⟨4, false, rfl, ⟨true, rfl, by decide⟩, fun x hx => (Option.some.inj hx).symm⟩
        · obtain rfl := Option.some.inj ho
          refine .inr (fun a' w' hG hop => ?_)
          have h25 : a'.tmps[25]?.getD undef = .bool true := (Array.getD_eq_getD_getElem? ..).symm.trans (hop 25 (by simp [Op.operands, Call.operands]) _ rfl)
          have h35 : a'.tmps[35]?.getD undef = undef := (Array.getD_eq_getD_getElem? ..).symm.trans (hop 35 (by simp [Op.operands, Call.operands]) _ rfl)
          refine Reg4.StepOk.mono (R := fun v W => v = .bool true ∧ W = w') ?_ (fun v W h => ?_)
          · go_simp
            all_goals (try exact ⟨rfl, rfl⟩)
          · obtain ⟨rfl, rfl⟩ := h
            exact ⟨fun x hx => Option.some.inj hx, Below.refl _ _⟩
        · obtain rfl := Option.some.inj ho
          refine .inr (fun a' w' hG hop => ?_)
          have h36 : a'.tmps[36]?.getD undef = .bool true := (Array.getD_eq_getD_getElem? ..).symm.trans (hop 36 (by simp [Op.operands, Call.operands]) _ rfl)
          refine Reg4.StepOk.mono (R := fun v W => v = .bool true ∧ W = w') ?_ (fun v W h => ?_)
          · go_simp
            all_goals (try exact ⟨rfl, rfl⟩)
          · obtain ⟨rfl, rfl⟩ := h
            exact ⟨fun x hx => Option.some.inj hx, Below.refl _ _⟩
        · obtain rfl := Option.some.inj ho
          exact .inl ⟨16, false, rfl, ⟨true, rfl, by decide⟩, fun x hx => (Option.some.inj hx).symm⟩
        · obtain rfl := Option.some.inj ho
          exact .inl ⟨16, false, rfl, ⟨true, rfl, by decide⟩, fun x hx => (Option.some.inj hx).symm⟩
        · obtain rfl := Option.some.inj ho
          exact .inl ⟨16, false, rfl, ⟨true, rfl, by decide⟩, fun x hx => (Option.some.inj hx).symm⟩
        · obtain rfl := Option.some.inj ho
          exact .inl ⟨16, false, rfl, ⟨true, rfl, by decide⟩, fun x hx => (Option.some.inj hx).symm⟩
        · obtain rfl := Option.some.inj ho
          exact .inl ⟨16, false, rfl, ⟨true, rfl, by decide⟩, fun x hx => (Option.some.inj hx).symm⟩
        · obtain rfl := Option.some.inj ho
          exact .inl ⟨16, false, rfl, ⟨true, rfl, by decide⟩, fun x hx => (Option.some.inj hx).symm⟩
        · obtain rfl := Option.some.inj ho
          exact .inl ⟨16, false, rfl, ⟨true, rfl, by decide⟩, fun x hx => (Option.some.inj hx).symm⟩
        · obtain rfl := Option.some.inj ho
          exact .inl ⟨16, false, rfl, ⟨true, rfl, by decide⟩, fun x hx => (Option.some.inj hx).symm⟩
        · obtain rfl := Option.some.inj ho
          exact .inl ⟨16, false, rfl, ⟨true, rfl, by decide⟩, fun x hx => (Option.some.inj hx).symm⟩
        · obtain rfl := Option.some.inj ho
          refine .inr (fun a' w' hG hop => ?_)
          have h37 : a'.tmps[37]?.getD undef = .bool true := (Array.getD_eq_getD_getElem? ..).symm.trans (hop 37 (by simp [Op.operands, Call.operands]) _ rfl)
          have h46 : a'.tmps[46]?.getD undef = undef := (Array.getD_eq_getD_getElem? ..).symm.trans (hop 46 (by simp [Op.operands, Call.operands]) _ rfl)
          refine Reg4.StepOk.mono (R := fun v W => v = .bool true ∧ W = w') ?_ (fun v W h => ?_)
          · go_simp
            all_goals (try exact ⟨rfl, rfl⟩)
          · obtain ⟨rfl, rfl⟩ := h
            exact ⟨fun x hx => Option.some.inj hx, Below.refl _ _⟩
      · intro idx o hj ho j b hg
        have hj' : idx = 0 ∨ idx = 1 ∨ idx = 2 ∨ idx = 3 ∨ idx = 4 ∨ idx = 5 ∨ idx = 6 ∨ idx = 7 ∨ idx = 8 ∨ idx = 9 ∨ idx = 10 ∨ idx = 11 ∨ idx = 12 ∨ idx = 13 ∨ idx = 14 ∨ idx = 15 ∨ idx = 16 ∨ idx = 17 ∨ idx = 18 ∨ idx = 19 ∨ idx = 20 ∨ idx = 21 ∨ idx = 22 ∨ idx = 23 ∨ idx = 24 ∨ idx = 25 ∨ idx = 26 := by omega
        clear hj
        rcases hj' with rfl | rfl | rfl | rfl | rfl | rfl | rfl | rfl | rfl | rfl | rfl | rfl | rfl | rfl | rfl | rfl | rfl | rfl | rfl | rfl | rfl | rfl | rfl | rfl | rfl | rfl | rfl
        · obtain rfl := Option.some.inj ho
          cases hg
        · obtain rfl := Option.some.inj ho
          cases hg
        · obtain rfl := Option.some.inj ho
          cases hg
        · obtain rfl := Option.some.inj ho
          cases hg
        · obtain rfl := Option.some.inj ho
          cases hg
        · obtain rfl := Option.some.inj ho
          obtain ⟨rfl, rfl⟩ := Prod.mk.inj (Option.some.inj hg)
          exact ⟨_, rfl⟩
        · obtain rfl := Option.some.inj ho
          obtain ⟨rfl, rfl⟩ := Prod.mk.inj (Option.some.inj hg)
          exact ⟨_, rfl⟩
        · obtain rfl := Option.some.inj ho
          obtain ⟨rfl, rfl⟩ := Prod.mk.inj (Option.some.inj hg)
          exact ⟨_, rfl⟩
        · obtain rfl := Option.some.inj ho
          obtain ⟨rfl, rfl⟩ := Prod.mk.inj (Option.some.inj hg)
          exact ⟨_, rfl⟩
        · obtain rfl := Option.some.inj ho
          obtain ⟨rfl, rfl⟩ := Prod.mk.inj (Option.some.inj hg)
          exact ⟨_, rfl⟩
        · obtain rfl := Option.some.inj ho
          obtain ⟨rfl, rfl⟩ := Prod.mk.inj (Option.some.inj hg)
          exact ⟨_, rfl⟩
        · obtain rfl := Option.some.inj ho
          obtain ⟨rfl, rfl⟩ := Prod.mk.inj (Option.some.inj hg)
          exact ⟨_, rfl⟩
        · obtain rfl := Option.some.inj ho
          obtain ⟨rfl, rfl⟩ := Prod.mk.inj (Option.some.inj hg)
          exact ⟨_, rfl⟩
        · obtain rfl := Option.some.inj ho
          obtain ⟨rfl, rfl⟩ := Prod.mk.inj (Option.some.inj hg)
          exact ⟨_, rfl⟩
        · obtain rfl := Option.some.inj ho
          obtain ⟨rfl, rfl⟩ := Prod.mk.inj (Option.some.inj hg)
          exact ⟨_, rfl⟩
        · obtain rfl := Option.some.inj ho
          cases hg
        · obtain rfl := Option.some.inj ho
          cases hg
        · obtain rfl := Option.some.inj ho
          obtain ⟨rfl, rfl⟩ := Prod.mk.inj (Option.some.inj hg)
          exact ⟨_, rfl⟩
        · obtain rfl := Option.some.inj ho
          obtain ⟨rfl, rfl⟩ := Prod.mk.inj (Option.some.inj hg)
          exact ⟨_, rfl⟩
        · obtain rfl := Option.some.inj ho
          obtain ⟨rfl, rfl⟩ := Prod.mk.inj (Option.some.inj hg)
          exact ⟨_, rfl⟩
        · obtain rfl := Option.some.inj ho
          obtain ⟨rfl, rfl⟩ := Prod.mk.inj (Option.some.inj hg)
          exact ⟨_, rfl⟩
        · obtain rfl := Option.some.inj ho
          obtain ⟨rfl, rfl⟩ := Prod.mk.inj (Option.some.inj hg)
          exact ⟨_, rfl⟩
        · obtain rfl := Option.some.inj ho
          obtain ⟨rfl, rfl⟩ := Prod.mk.inj (Option.some.inj hg)
          exact ⟨_, rfl⟩
        · obtain rfl := Option.some.inj ho
          obtain ⟨rfl, rfl⟩ := Prod.mk.inj (Option.some.inj hg)
          exact ⟨_, rfl⟩
        · obtain rfl := Option.some.inj ho
          obtain ⟨rfl, rfl⟩ := Prod.mk.inj (Option.some.inj hg)
          exact ⟨_, rfl⟩
        · obtain rfl := Option.some.inj ho
          obtain ⟨rfl, rfl⟩ := Prod.mk.inj (Option.some.inj hg)
          exact ⟨_, rfl⟩
        · obtain rfl := Option.some.inj ho
          cases hg
      · intro idx o hj ho j b hg hk x hx
        have hj' : idx = 0 ∨ idx = 1 ∨ idx = 2 ∨ idx = 3 ∨ idx = 4 ∨ idx = 5 ∨ idx = 6 ∨ idx = 7 ∨ idx = 8 ∨ idx = 9 ∨ idx = 10 ∨ idx = 11 ∨ idx = 12 ∨ idx = 13 ∨ idx = 14 ∨ idx = 15 ∨ idx = 16 ∨ idx = 17 ∨ idx = 18 ∨ idx = 19 ∨ idx = 20 ∨ idx = 21 ∨ idx = 22 ∨ idx = 23 ∨ idx = 24 ∨ idx = 25 ∨ idx = 26 := by omega
        clear hj
        rcases hj' with rfl | rfl | rfl | rfl | rfl | rfl | rfl | rfl | rfl | rfl | rfl | rfl | rfl | rfl | rfl | rfl | rfl | rfl | rfl | rfl | rfl | rfl | rfl | rfl | rfl | rfl | rfl
        · obtain rfl := Option.some.inj ho
          cases hg
        · obtain rfl := Option.some.inj ho
          cases hg
        · obtain rfl := Option.some.inj ho
          cases hg
        · obtain rfl := Option.some.inj ho
          cases hg
        · obtain rfl := Option.some.inj ho
          cases hg
        · obtain rfl := Option.some.inj ho
          exact (Option.some.inj hx).symm
        · obtain rfl := Option.some.inj ho
          exact (Option.some.inj hx).symm
        · obtain rfl := Option.some.inj ho
          exact (Option.some.inj hx).symm
        · obtain rfl := Option.some.inj ho
          exact (Option.some.inj hx).symm
        · obtain rfl := Option.some.inj ho
          exact (Option.some.inj hx).symm
        · obtain rfl := Option.some.inj ho
          exact (Option.some.inj hx).symm
        · obtain rfl := Option.some.inj ho
          exact (Option.some.inj hx).symm
        · obtain rfl := Option.some.inj ho
          exact (Option.some.inj hx).symm
        · obtain rfl := Option.some.inj ho
          exact (Option.some.inj hx).symm
        · obtain rfl := Option.some.inj ho
          exact (Option.some.inj hx).symm
        · obtain rfl := Option.some.inj ho
          cases hg
        · obtain rfl := Option.some.inj ho
          cases hg
        · obtain rfl := Option.some.inj ho
          exact (Option.some.inj hx).symm
        · obtain rfl := Option.some.inj ho
          exact (Option.some.inj hx).symm
        · obtain rfl := Option.some.inj ho
          exact (Option.some.inj hx).symm
        · obtain rfl := Option.some.inj ho
          exact (Option.some.inj hx).symm
        · obtain rfl := Option.some.inj ho
          exact (Option.some.inj hx).symm
        · obtain rfl := Option.some.inj ho
          exact (Option.some.inj hx).symm
        · obtain rfl := Option.some.inj ho
          exact (Option.some.inj hx).symm
        · obtain rfl := Option.some.inj ho
          exact (Option.some.inj hx).symm
        · obtain rfl := Option.some.inj ho
          exact (Option.some.inj hx).symm
        · obtain rfl := Option.some.inj ho
          cases hg
      · intro vals w' hG hv
        have hv0 : vals 0 = .pointer (some ⟨g, 0, none⟩) := hv 0 _ (by omega) rfl
        have hv1 : vals 1 = i 1 := hv 1 _ (by omega) rfl
        have hv2 : vals 2 = .bool false := hv 2 _ (by omega) rfl
        have hv3 : vals 3 = .bool true := hv 3 _ (by omega) rfl
        have hv4 : vals 4 = .bool true := hv 4 _ (by omega) rfl
        have hv5 : vals 5 = undef := hv 5 _ (by omega) rfl
        have hv6 : vals 6 = undef := hv 6 _ (by omega) rfl
        have hv7 : vals 7 = undef := hv 7 _ (by omega) rfl
        have hv8 : vals 8 = undef := hv 8 _ (by omega) rfl
        have hv9 : vals 9 = undef := hv 9 _ (by omega) rfl
        have hv10 : vals 10 = undef := hv 10 _ (by omega) rfl
        have hv11 : vals 11 = undef := hv 11 _ (by omega) rfl
        have hv12 : vals 12 = undef := hv 12 _ (by omega) rfl
        have hv13 : vals 13 = undef := hv 13 _ (by omega) rfl
        have hv14 : vals 14 = undef := hv 14 _ (by omega) rfl
        have hv15 : vals 15 = .bool true := hv 15 _ (by omega) rfl
        have hv16 : vals 16 = .bool true := hv 16 _ (by omega) rfl
        have hv17 : vals 17 = undef := hv 17 _ (by omega) rfl
        have hv18 : vals 18 = undef := hv 18 _ (by omega) rfl
        have hv19 : vals 19 = undef := hv 19 _ (by omega) rfl
        have hv20 : vals 20 = undef := hv 20 _ (by omega) rfl
        have hv21 : vals 21 = undef := hv 21 _ (by omega) rfl
        have hv22 : vals 22 = undef := hv 22 _ (by omega) rfl
        have hv23 : vals 23 = undef := hv 23 _ (by omega) rfl
        have hv24 : vals 24 = undef := hv 24 _ (by omega) rfl
        have hv25 : vals 25 = undef := hv 25 _ (by omega) rfl
        have hv26 : vals 26 = .bool true := hv 26 _ (by omega) rfl
        simp only [Reg4.puts, Reg4.dstOf, List.range, List.range.loop, if_true, List.drop_succ_cons, List.drop_zero, hv0, hv1, hv2, hv3, hv4, hv5, hv6, hv7, hv8, hv9, hv10, hv11, hv12, hv13, hv14, hv15, hv16, hv17, hv18, hv19, hv20, hv21, hv22, hv23, hv24, hv25, hv26]
        clear hv hv0 hv1 hv2 hv3 hv4 hv5 hv6 hv7 hv8 hv9 hv10 hv11 hv12 hv13 hv14 hv15 hv16 hv17 hv18 hv19 hv20 hv21 hv22 hv23 hv24 hv25 hv26
        simp [Act.put]
        go_wp2_with fail
        go_roundg 0
        case measure => omega
        case rel => exact ⟨1, by omega, by omega, by rfl, below_call HB1.out hG⟩
    · go_wp2_with fail
      refine bodyPost_end0 rfl rfl ?_
      exact ⟨rfl, HB.out⟩

set_option maxRecDepth 100000 in
set_option maxHeartbeats 4000000 in
theorem limit1 (g : Nat) (n b : Int) (l : Sl) (w : World) (h : UAt w g (s1t n b) l) : Calls Tryz.prog 70 #[.pointer (some ⟨g, 0, none⟩)] w fun e w' => e = .returned (.tuple #[]) ∧ Below w.heap.size w w' := by
  obtain ⟨bC, cC, bM, cM, bT, cT, bO, cO, bL, cL, bS, cS, -, hU⟩ := uopen h
  have HU := Lib.hid hU
  have HA := Lib.hid (fun W (hb : Below w.heap.size w W) => h.call hb)
  have HR := Lib.hid (runs1 g n b l)
  clear hU h
  go_enter Tryz.func70, Tryz.ntmps70
  obtain ⟨k0, k1, k2, k4, k6, k7, k8, k9, k13, k34, k25, k26, k27, k28, k29, fr, c0, m0, m1, m2, m3, t0, t1, t2, t3, t4, t5, t6, t7, t8, l0, fM, fL⟩ := HU.out w (Below.refl _ _)
  go_wp2_with fail
  clear k0 k1 k2 k4 k6 k7 k8 k9 k13 k34 k25 k26 k27 k28 k29 fr c0 m0 m1 m2 m3 t0 t1 t2 t3 t4 t5 t6 t7 t8 l0 fM fL
  go_loopg [13] 1 (fun gg s13 wr => ∃ kk : Nat, kk ≤ 1 ∧ 1 - kk ≤ gg ∧ s13 = i kk ∧ Hid (Below w.heap.size w wr))
  case atStart => exact ⟨0, by omega, by omega, rfl, Below.refl _ _⟩
  case round =>
    obtain ⟨kk, hkk, hg, rfl, HB⟩ := hrel
    rcases (show kk = 0 ∨ kk = 1 by omega) with rfl | rfl
    · obtain ⟨k0, k1, k2, k4, k6, k7, k8, k9, k13, k34, k25, k26, k27, k28, k29, fr, c0, m0, m1, m2, m3, t0, t1, t2, t3, t4, t5, t6, t7, t8, l0, fM, fL⟩ := HU.out wr HB.out
      have HB0 := Lib.hid (below_call HB.out (below_new wr (.cells #[.string ⟨#[]⟩, i 0, .string ⟨#[]⟩, .string ⟨#[]⟩, i 0, i 0, .bool false, i 0, i 0] 54)))
      go_upto_region 4 with (fail)
      clear k0 k1 k2 k4 k6 k7 k8 k9 k13 k34 k25 k26 k27 k28 k29 fr c0 m0 m1 m2 m3 t0 t1 t2 t3 t4 t5 t6 t7 t8 l0 fM fL
      generalize wr.alloc (.cells #[.string ⟨#[]⟩, i 0, .string ⟨#[]⟩, .string ⟨#[]⟩, i 0, i 0, .bool false, i 0, i 0] 54) = wx at *
      go_wp2_with fail
      refine (HR.out wx (HA.out wx HB0.out)).mono ?_
      rintro e w1 ⟨rfl, hb⟩
      have HB1 := Lib.hid (below_call HB0.out hb)
      clear hb
      obtain ⟨k0, k1, k2, k4, k6, k7, k8, k9, k13, k34, k25, k26, k27, k28, k29, fr, c0, m0, m1, m2, m3, t0, t1, t2, t3, t4, t5, t6, t7, t8, l0, fM, fL⟩ := HU.out w1 HB1.out
      have HP := Lib.hid (setCell_self l0)
      go_upto_region 13 with (fail)
      rw [show w1.setCell ⟨bL, 0, none⟩ (.int .i64 0) = w1 from HP.out]
      go_wp2_with fail
      go_roundg 0
      case measure => omega
      case rel => exact ⟨1, by omega, by omega, by rfl, HB1⟩
    · go_wp2_with fail
      refine bodyPost_end0 rfl rfl ?_
      exact ⟨rfl, HB.out⟩
end Stn
end Go.Proofs.YtfaofobhmmedmaaGreatDoor
