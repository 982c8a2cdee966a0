/-
  has, input, shaped, open and Plug on a station of two connectors.
-/
import Derived.Test.YtfaofobhmmedmaaGreatDoorDenA
namespace Go.Proofs.YtfaofobhmmedmaaGreatDoor
namespace Stn
set_option linter.unusedSimpArgs false
set_option linter.unusedVariables false
open Go.RowKit Go.Great

/-- A station of two connectors. -/
abbrev dS (c1 c2 : Cn) (ac : Bool) (iv : Int) : St := ⟨⟨#[83]⟩, 0, ac, iv, 0, 0, [c1, c2], [⟨0, 100000, 0, 0⟩, ⟨0, 100000, 0, 0⟩], [zTx, zTx], 0, 64, 0, 1, 3, 2, 0, 0, 0, 0, 0, 0, 0, 0, 30, 2000, [0, 0], [0, 0], [0, 0]⟩
abbrev cnF : Cn := ⟨1, false, false, false, 0⟩
abbrev cnG : Cn := ⟨2, true, false, false, 0⟩
/-- A unit in memory whose lists are its own. -/
structure UD (base : Nat) (w : World) (g : Nat) (s : St) (l : Sl) : Prop where
  k : Blk w g 110 (stA s l)
  a : StO base w s l
theorem UD.call {base : Nat} {w w' : World} {g : Nat} {s : St} {l : Sl} (h : UD base w g s l) (hb : Below w.heap.size w w') : UD base w' g s l := ⟨h.k.call hb, h.a.call hb⟩
theorem own_grownTy {α : Type} {R : List Value → α → Prop} {e t : TypeId} {size base p : Nat} {W W' : World} {v : Value} {xs : List α} {old : Array Value} (h : Own R e size base W v xs) (hk : Blk W p t old) (hne : t ≠ e) (hg : W.grownBy W' (some p)) : Own R e size base W' v xs := by
  obtain ⟨rs, ⟨h1, h2⟩, h3⟩ := h
  refine ⟨rs, ⟨h1, ?_⟩, h3⟩
  rcases h2 with h0 | ⟨g', cap, cur, r1, r2, r3, r4⟩
  · exact .inl h0
  · refine .inr ⟨g', cap, cur, r1, r2, (hg.block g' (Array.getElem?_eq_some_iff.1 r3).1 (fun e' => hne ?_)).trans r3, r4⟩
    obtain rfl := Option.some.inj e'
    unfold Blk at hk
    rw [hk] at r3
    injection r3 with r3
    injection r3
theorem own_blk {α : Type} {R : List Value → α → Prop} {e : TypeId} {size base g n c : Nat} {w : World} {xs : List α} (h : Own R e size base w (.slice (some ⟨g, 0, none⟩) n c) xs) : base ≤ g ∧ ∃ cur, Blk w g e cur := by
  obtain ⟨rs, h1, h3⟩ := h
  obtain ⟨h1, h2⟩ := h1
  rcases h2 with ⟨h0, -⟩ | ⟨g', cap, cur, r1, r2, r3, r4⟩
  · cases h0
  · injection r1 with r1
    injection r1 with r1
    injection r1 with r1
    subst r1
    exact ⟨r2, cur, r3⟩
theorem UD.putC {base : Nat} {w : World} {g : Nat} {s : St} {l : Sl} {gC cC j : Nat} (x : Cn) (h : UD base w g s l) (hl : l.C = .slice (some ⟨gC, 0, none⟩) s.cs.length cC) (hj : j < s.cs.length) (hB : base ≤ w.heap.size) :
    UD base (putCells w gC (j * 5) (cnA x).toList) g { s with cs := s.cs.set j x } l ∧ Below base w (putCells w gC (j * 5) (cnA x).toList) := by
  have hC := h.a.C
  rw [hl] at hC
  obtain ⟨hbg, cur, hkC⟩ := own_blk hC
  have hp := Own.put (us := (cnA x).toList) (x := x) hC rfl hj rfl rfl
  have hg : w.grownBy (putCells w gC (j * 5) (cnA x).toList) (some gC) := put_grown _ _ _ _
  have hne : g ≠ gC := fun e => by
    subst e
    have h1 := h.k
    unfold Blk at h1 hkC
    rw [h1] at hkC
    injection hkC with hkC
    injection hkC with _ hkC
    exact absurd hkC (by decide)
  refine ⟨⟨(hg.block g h.k.lt (fun e => hne (Option.some.inj e))).trans h.k, ⟨?_, own_grownTy h.a.M hkC (by decide) hg, own_grownTy h.a.T hkC (by decide) hg, h.a.P, h.a.LT, h.a.CA, h.a.RE, h.a.IT, h.a.Q, h.a.O, h.a.S, own_grownTy h.a.OV hkC (by decide) hg, own_grownTy h.a.LM hkC (by decide) hg, own_grownTy h.a.SH hkC (by decide) hg⟩⟩, (Below.refl _ _).grown hg hB (fun k hk => by obtain rfl := Option.some.inj hk; exact hbg)⟩
  rw [hl]
  exact hp.1

/-- The slices of a station of two, its own. -/
theorem dform {base : Nat} {w : World} {c1 c2 : Cn} {ac : Bool} {iv : Int} {l : Sl} (h : StO base w (dS c1 c2 ac iv) l) : ∃ bC cC bM cM bT cT bO cO bL cL bS cS, l = ⟨.slice (some ⟨bC, 0, none⟩) 2 cC, .slice (some ⟨bM, 0, none⟩) 2 cM, .slice (some ⟨bT, 0, none⟩) 2 cT, .slice none 0 0, .slice none 0 0, .slice none 0 0, .slice none 0 0, .slice none 0 0, .slice none 0 0, .slice none 0 0, .slice none 0 0, .slice (some ⟨bO, 0, none⟩) 2 cO, .slice (some ⟨bL, 0, none⟩) 2 cL, .slice (some ⟨bS, 0, none⟩) 2 cS⟩ := by
  obtain ⟨lC, lM, lT, lP, lLT, lCA, lRE, lIT, lQ, lO, lS, lOV, lLM, lSH⟩ := l
  obtain ⟨hC, hM, hT, hP, hLT, hCA, hRE, hIT, hQ, hO, hS, hOV, hLM, hSH⟩ := h
  simp only [EmpS] at hC hM hT hP hLT hCA hRE hIT hQ hO hS hOV hLM hSH
  subst hP hLT hCA hRE hIT hQ hO hS
  obtain ⟨bC, cC, rfl, -, -⟩ := Own.form hC (by simp)
  obtain ⟨bM, cM, rfl, -, -⟩ := Own.form hM (by simp)
  obtain ⟨bT, cT, rfl, -, -⟩ := Own.form hT (by simp)
  obtain ⟨bO, cO, rfl, -, -⟩ := Own.form hOV (by simp)
  obtain ⟨bL, cL, rfl, -, -⟩ := Own.form hLM (by simp)
  obtain ⟨bS, cS, rfl, -, -⟩ := Own.form hSH (by simp)
  exact ⟨bC, cC, bM, cM, bT, cT, bO, cO, bL, cL, bS, cS, rfl⟩
/-- The slices of any station. -/
theorem formsD {w : World} {c1 c2 : Cn} {ac : Bool} {iv : Int} {l : Sl} (h : StAt w (dS c1 c2 ac iv) l) : ∃ AC cC AM cM AT cT AOV cOV ALM cLM ASH cSH, l = ⟨.slice AC 2 cC, .slice AM 2 cM, .slice AT 2 cT, .slice none 0 0, .slice none 0 0, .slice none 0 0, .slice none 0 0, .slice none 0 0, .slice none 0 0, .slice none 0 0, .slice none 0 0, .slice AOV 2 cOV, .slice ALM 2 cLM, .slice ASH 2 cSH⟩ := by
  obtain ⟨C, M, T, P, LT, CA, RE, IT, Q, O, S, OV, LM, SH⟩ := l
  obtain ⟨hC, hM, hT, hP, hLT, hCA, hRE, hIT, hQ, hO, hS, hOV, hLM, hSH⟩ := h
  simp only [EmpS] at hC hM hT hP hLT hCA hRE hIT hQ hO hS hOV hLM hSH
  subst hP hLT hCA hRE hIT hQ hO hS
  obtain ⟨AC, cC, rfl, -, -⟩ := SliceAt.form hC
  obtain ⟨AM, cM, rfl, -, -⟩ := SliceAt.form hM
  obtain ⟨AT, cT, rfl, -, -⟩ := SliceAt.form hT
  obtain ⟨AOV, cOV, rfl, -, -⟩ := SliceAt.form hOV
  obtain ⟨ALM, cLM, rfl, -, -⟩ := SliceAt.form hLM
  obtain ⟨ASH, cSH, rfl, -, -⟩ := SliceAt.form hSH
  exact ⟨_, _, _, _, _, _, _, _, _, _, _, _, rfl⟩

set_option maxRecDepth 100000 in
set_option maxHeartbeats 4000000 in
theorem shaped2 (c1 c2 : Cn) (ac : Bool) (iv : Int) (l : Sl) (w : World) (h : StAt w (dS c1 c2 ac iv) l) : Calls Tryz.prog 55 #[.agg (stA (dS c1 c2 ac iv) l)] w fun e w' => e = .returned (.bool true) ∧ Below w.heap.size w w' := by
  obtain ⟨AC, cC, AM, cM, AT, cT, AOV, cOV, ALM, cLM, ASH, cSH, rfl⟩ := formsD h
  clear h
  have HB := Lib.hid (below_new w (.cells (stA (dS c1 c2 ac iv) ⟨.slice AC 2 cC, .slice AM 2 cM, .slice AT 2 cT, .slice none 0 0, .slice none 0 0, .slice none 0 0, .slice none 0 0, .slice none 0 0, .slice none 0 0, .slice none 0 0, .slice none 0 0, .slice AOV 2 cOV, .slice ALM 2 cLM, .slice ASH 2 cSH⟩) 43))
  have HK := Lib.hid (Blk.new w 43 (stA (dS c1 c2 ac iv) ⟨.slice AC 2 cC, .slice AM 2 cM, .slice AT 2 cT, .slice none 0 0, .slice none 0 0, .slice none 0 0, .slice none 0 0, .slice none 0 0, .slice none 0 0, .slice none 0 0, .slice none 0 0, .slice AOV 2 cOV, .slice ALM 2 cLM, .slice ASH 2 cSH⟩))
  go_enter Tryz.func55, Tryz.ntmps55
  go_upto_region 1 with (fail)
  generalize w.alloc (.cells _ 43) = w1 at *
  have kc := HK.out.cell
  go_wp2_with fail
  go_ret
  exact ⟨rfl, HB.out⟩

/-- What open answers where there is the connector. -/
def OpenR (s : St) (w : World) (e : Ending) (w' : World) : Prop := ∃ g l', e = .returned (.tuple #[.pointer (some ⟨g, 0, none⟩), i 0]) ∧ UD w.heap.size w' g s l' ∧ w.heap.size ≤ g ∧ Below w.heap.size w w'
set_option maxRecDepth 100000 in
set_option maxHeartbeats 4000000 in
theorem openYes (c1 c2 : Cn) (ac : Bool) (iv conn : Int) (l : Sl) (w : World) (h : StAt w (dS c1 c2 ac iv) l) (hc : 1 ≤ conn ∧ conn ≤ 2) : Calls Tryz.prog 37 #[.agg (stA (dS c1 c2 ac iv) l), i conn] w (OpenR (dS c1 c2 ac iv) w) := by
  have HS : Hid (∀ W, Below w.heap.size w W → _) := fun W hb => shaped2 c1 c2 ac iv l W (h.call hb)
  have HC : Hid (∀ W, Below w.heap.size w W → _) := fun W hb => cloneSt (dS c1 c2 ac iv) l W (h.call hb) ⟨by simp, by simp, by simp, by simp, by simp, by simp⟩
  obtain ⟨AC, cC, AM, cM, AT, cT, AOV, cOV, ALM, cLM, ASH, cSH, rfl⟩ := formsD h
  clear h
  have HB := Lib.hid (below_new w (.cells (stA (dS c1 c2 ac iv) ⟨.slice AC 2 cC, .slice AM 2 cM, .slice AT 2 cT, .slice none 0 0, .slice none 0 0, .slice none 0 0, .slice none 0 0, .slice none 0 0, .slice none 0 0, .slice none 0 0, .slice none 0 0, .slice AOV 2 cOV, .slice ALM 2 cLM, .slice ASH 2 cSH⟩) 43))
  have HK := Lib.hid (Blk.new w 43 (stA (dS c1 c2 ac iv) ⟨.slice AC 2 cC, .slice AM 2 cM, .slice AT 2 cT, .slice none 0 0, .slice none 0 0, .slice none 0 0, .slice none 0 0, .slice none 0 0, .slice none 0 0, .slice none 0 0, .slice none 0 0, .slice AOV 2 cOV, .slice ALM 2 cLM, .slice ASH 2 cSH⟩))
  have c1z : ¬ (conn < 1) := by omega
  have c2z : ¬ (2 < conn) := by omega
  go_enter Tryz.func37, Tryz.ntmps37
  go_upto_region 1 with (fail)
  generalize w.alloc (.cells _ 43) = w1 at *
  have kc := HK.out.cell
  go_upto_region 3 with (fail)
  clear kc
  go_wp2_with (refine wpList_load_row rfl 43 (.tmp 2) rfl w.heap.size rfl 43 (stA (dS c1 c2 ac iv) ⟨.slice AC 2 cC, .slice AM 2 cM, .slice AT 2 cT, .slice none 0 0, .slice none 0 0, .slice none 0 0, .slice none 0 0, .slice none 0 0, .slice none 0 0, .slice none 0 0, .slice none 0 0, .slice AOV 2 cOV, .slice ALM 2 cLM, .slice ASH 2 cSH⟩) (0, 0) _ HK.out Tryz.underlying43 rfl (by kernel_rfl) ?_)
  refine (HS.out w1 HB.out).mono ?_
  rintro e w2 ⟨rfl, hb⟩
  have HB2 := Lib.hid (below_call HB.out hb)
  have HK2 := Lib.hid (HK.out.call hb)
  clear hb HB HK HS
  go_wp2_with (refine wpList_load_row rfl 43 (.tmp 2) rfl w.heap.size rfl 43 (stA (dS c1 c2 ac iv) ⟨.slice AC 2 cC, .slice AM 2 cM, .slice AT 2 cT, .slice none 0 0, .slice none 0 0, .slice none 0 0, .slice none 0 0, .slice none 0 0, .slice none 0 0, .slice none 0 0, .slice none 0 0, .slice AOV 2 cOV, .slice ALM 2 cLM, .slice ASH 2 cSH⟩) (0, 0) _ HK2.out Tryz.underlying43 rfl (by kernel_rfl) ?_)
  refine (HC.out w2 HB2.out).mono ?_
  rintro e w3 ⟨l', rfl, ho, hb⟩
  have hsz := HB2.out.size
  have hu := UD.mk (Blk.new w3 110 (stA (dS c1 c2 ac iv) l')) (StO.lower (ho.call (below_new w3 (.cells (stA (dS c1 c2 ac iv) l') 110))) hsz)
  have HU := Lib.hid hu
  have HB3 := Lib.hid (below_call HB2.out hb)
  have hb' := Lib.hid (below_new w3 (.cells (stA (dS c1 c2 ac iv) l') 110))
  obtain ⟨bC, dC, bM, dM, bT, dT, bO, dO, bL, dL, bS, dS', rfl⟩ := dform ho
  clear ho hu hb hsz HB2 HK2 HC
  go_wp2_with (refine wpList_buildTo rfl 110 _ rfl (some 20) rfl (stA (dS c1 c2 ac iv) _) (by kernel_rfl) ?_)
  go_ret2
  exact ⟨w3.heap.size, _, rfl, HU.out, HB3.out.size, below_call HB3.out hb'.out⟩
set_option maxRecDepth 100000 in
set_option maxHeartbeats 4000000 in
theorem openNo (c1 c2 : Cn) (ac : Bool) (iv conn : Int) (l : Sl) (w : World) (h : StAt w (dS c1 c2 ac iv) l) (hc : conn < 1 ∨ 2 < conn) : Calls Tryz.prog 37 #[.agg (stA (dS c1 c2 ac iv) l), i conn] w fun e w' => e = .returned (.tuple #[.pointer none, i 2]) ∧ Below w.heap.size w w' := by
  obtain ⟨AC, cC, AM, cM, AT, cT, AOV, cOV, ALM, cLM, ASH, cSH, rfl⟩ := formsD h
  clear h
  have HB := Lib.hid (below_new w (.cells (stA (dS c1 c2 ac iv) ⟨.slice AC 2 cC, .slice AM 2 cM, .slice AT 2 cT, .slice none 0 0, .slice none 0 0, .slice none 0 0, .slice none 0 0, .slice none 0 0, .slice none 0 0, .slice none 0 0, .slice none 0 0, .slice AOV 2 cOV, .slice ALM 2 cLM, .slice ASH 2 cSH⟩) 43))
  have HK := Lib.hid (Blk.new w 43 (stA (dS c1 c2 ac iv) ⟨.slice AC 2 cC, .slice AM 2 cM, .slice AT 2 cT, .slice none 0 0, .slice none 0 0, .slice none 0 0, .slice none 0 0, .slice none 0 0, .slice none 0 0, .slice none 0 0, .slice none 0 0, .slice AOV 2 cOV, .slice ALM 2 cLM, .slice ASH 2 cSH⟩))
  rcases hc with hc | hc
  · go_enter Tryz.func37, Tryz.ntmps37
    go_upto_region 1 with (fail)
    generalize w.alloc (.cells _ 43) = w1 at *
    have kc := HK.out.cell
    go_wp2_with fail
    go_ret2
    exact ⟨rfl, HB.out⟩
  · have c1z : ¬ (conn < 1) := by omega
    go_enter Tryz.func37, Tryz.ntmps37
    go_upto_region 1 with (fail)
    generalize w.alloc (.cells _ 43) = w1 at *
    have kc := HK.out.cell
    go_wp2_with fail
    go_ret2
    exact ⟨rfl, HB.out⟩

end Stn
end Go.Proofs.YtfaofobhmmedmaaGreatDoor
