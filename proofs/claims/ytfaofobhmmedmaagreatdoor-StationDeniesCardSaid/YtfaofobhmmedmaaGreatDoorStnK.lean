/-
  station.clone, of a station whose lists of profiles, tokens, reservations, events and messages are nil.
-/
import Derived.Test.YtfaofobhmmedmaaGreatDoorStnC
namespace Go.Proofs.YtfaofobhmmedmaaGreatDoor
namespace Stn
set_option linter.unusedSimpArgs false
set_option linter.unusedVariables false
open Go.RowKit Go.Great

theorem setCell_self {w : World} {b o : Nat} {v : Value} (h : w.cell? ⟨b, o, none⟩ = some v) : w.setCell ⟨b, o, none⟩ v = w := by
  have e : ∀ f : Obj → Obj, (∀ x, w.heap[b]? = some x → f x = x) → w.heap.modify b f = w.heap := by
    intro f hf
    apply Array.ext_getElem?
    intro k
    rw [Array.getElem?_modify]
    split
    · rename_i hk
      subst hk
      cases hq : w.heap[b]? with
      | none => rfl
      | some x => simp [hf x hq]
    · rfl
  unfold World.setCell
  rw [e]
  intro x hx
  unfold World.cell? at h
  simp only [hx] at h
  cases x with
  | cells c t fr =>
    have h2 : c[o]? = some v := by simpa using h
    have h3 : c.setIfInBounds o v = c := by
      apply Array.ext_getElem?
      intro k
      rw [Array.getElem?_setIfInBounds]
      split
      · rename_i hk
        subst hk
        obtain ⟨hlt, -⟩ := Array.getElem?_eq_some_iff.1 h2
        rw [if_pos hlt, h2]
      · rfl
    simp [h3]
  | _ => simp at h
theorem stSet {w : World} {g k : Nat} {t : TypeId} {cs cs' : Array Value} {u : Value} (h : Blk w g t cs) (he : cs.setIfInBounds k u = cs') : w.setCell ⟨g, k, none⟩ u = w.setRow g cs' := by
  rw [setCell_eq_setRow w g k cs t (0, 0) u h, he]

/-- A station whose lists are its own. -/
structure StO (base : Nat) (w : World) (s : St) (l : Sl) : Prop where
  C : Own CnR 80 5 base w l.C s.cs
  M : Own MtR 82 4 base w l.M s.ms
  T : Own TxR 54 9 base w l.T s.ts
  P : EmpS l.P
  LT : EmpS l.LT
  CA : EmpS l.CA
  RE : EmpS l.RE
  IT : EmpS l.IT
  Q : EmpS l.Q
  O : EmpS l.O
  S : EmpS l.S
  OV : Own InR 3 1 base w l.OV s.ov
  LM : Own InR 3 1 base w l.LM s.lm
  SH : Own InR 3 1 base w l.SH s.sh
theorem StO.at_ {base : Nat} {w : World} {s : St} {l : Sl} (h : StO base w s l) : StAt w s l :=
  ⟨h.C.at_ (by omega), h.M.at_ (by omega), h.T.at_ (by omega), h.P, h.LT, h.CA, h.RE, h.IT, h.Q, h.O, h.S, h.OV.at_ (by omega), h.LM.at_ (by omega), h.SH.at_ (by omega)⟩
theorem StO.call {base : Nat} {w w' : World} {s : St} {l : Sl} (h : StO base w s l) (hb : Below w.heap.size w w') : StO base w' s l :=
  ⟨h.C.call hb, h.M.call hb, h.T.call hb, h.P, h.LT, h.CA, h.RE, h.IT, h.Q, h.O, h.S, h.OV.call hb, h.LM.call hb, h.SH.call hb⟩
theorem StO.lower {base base' : Nat} {w : World} {s : St} {l : Sl} (h : StO base w s l) (hb : base' ≤ base) : StO base' w s l :=
  ⟨h.C.lower hb, h.M.lower hb, h.T.lower hb, h.P, h.LT, h.CA, h.RE, h.IT, h.Q, h.O, h.S, h.OV.lower hb, h.LM.lower hb, h.SH.lower hb⟩
/-- A row of the call's own that is not empty. -/
theorem Own.form {α : Type} {R : List Value → α → Prop} {e : TypeId} {size base : Nat} {w : World} {v : Value} {xs : List α} (h : Own R e size base w v xs) (hn : xs ≠ []) : ∃ g c, v = .slice (some ⟨g, 0, none⟩) xs.length c ∧ base ≤ g ∧ g < w.heap.size := by
  obtain ⟨rs, ⟨h1, h2⟩, h3⟩ := h
  rcases h2 with ⟨-, h0⟩ | ⟨g, cap, cur, r1, r2, r3, r4⟩
  · exact absurd (List.length_eq_zero_iff.1 h0) hn
  · exact ⟨g, cap, r1, r2, (Array.getElem?_eq_some_iff.1 r3).1⟩
theorem Own.frz {α : Type} {R : List Value → α → Prop} {e : TypeId} {size base g n c : Nat} {w : World} {xs : List α} (h : Own R e size base w (.slice (some ⟨g, 0, none⟩) n c) xs) : ∀ j, w.frozen? ⟨g, j, none⟩ = false := by
  obtain ⟨rs, h1, h3⟩ := h
  obtain ⟨h1, h2⟩ := h1
  rcases h2 with ⟨h0, -⟩ | ⟨g', cap, cur, r1, r2, r3, r4⟩
  · cases h0
  · intro j
    injection r1 with r1
    injection r1 with r1
    injection r1 with r1
    subst r1
    exact Blk.frozen (t := e) (cs := cur) r3 j
/-- A station's cells with its slices as they stand. -/
abbrev ClR (s : St) (w : World) (e : Ending) (w' : World) : Prop := ∃ l', e = .returned (.agg (stA s l')) ∧ StO w.heap.size w' s l' ∧ Below w.heap.size w w'

set_option maxRecDepth 100000 in
set_option maxHeartbeats 4000000 in
theorem cloneSt (s : St) (l : Sl) (w : World) (h : StAt w s l) (hl : s.cs.length ≤ 65536 ∧ s.ms.length ≤ 65536 ∧ s.ts.length ≤ 65536 ∧ s.ov.length ≤ 65536 ∧ s.lm.length ≤ 65536 ∧ s.sh.length ≤ 65536) :
    Calls Tryz.prog 56 #[.agg (stA s l)] w (ClR s w) := by
  obtain ⟨lC, lM, lT, lP, lLT, lCA, lRE, lIT, lQ, lO, lS, lOV, lLM, lSH⟩ := l
  obtain ⟨hC, hM, hT, hP, hLT, hCA, hRE, hIT, hQ, hO, hS, hOV, hLM, hSH⟩ := h
  obtain ⟨b1, b2, b3, b4, b5, b6⟩ := hl
  simp only [EmpS] at hC hM hT hP hLT hCA hRE hIT hQ hO hS hOV hLM hSH
  subst hP hLT hCA hRE hIT hQ hO hS
  have XC : Hid (∀ W, Below w.heap.size w W → _) := fun W hb => cloneCn lC s.cs W (hC.call hb) b1
  have XM : Hid (∀ W, Below w.heap.size w W → _) := fun W hb => cloneMt lM s.ms W (hM.call hb) b2
  have XT : Hid (∀ W, Below w.heap.size w W → _) := fun W hb => cloneTx lT s.ts W (hT.call hb) b3
  have XOV : Hid (∀ W, Below w.heap.size w W → _) := fun W hb => cloneIn lOV s.ov W (hOV.call hb) b4
  have XLM : Hid (∀ W, Below w.heap.size w W → _) := fun W hb => cloneIn lLM s.lm W (hLM.call hb) b5
  have XSH : Hid (∀ W, Below w.heap.size w W → _) := fun W hb => cloneIn lSH s.sh W (hSH.call hb) b6
  have YPro := Lib.hid clonePro
  have YTok := Lib.hid cloneTok
  have YRes := Lib.hid cloneRes
  have YEvt := Lib.hid cloneEvt
  have YMsgs := Lib.hid cloneMsgs
  have HB0 := below_new w (.cells (stA s ⟨lC, lM, lT, .slice none 0 0, .slice none 0 0, .slice none 0 0, .slice none 0 0, .slice none 0 0, .slice none 0 0, .slice none 0 0, .slice none 0 0, lOV, lLM, lSH⟩) 43)
  have HK0 := Blk.new w 43 (stA s ⟨lC, lM, lT, .slice none 0 0, .slice none 0 0, .slice none 0 0, .slice none 0 0, .slice none 0 0, .slice none 0 0, .slice none 0 0, .slice none 0 0, lOV, lLM, lSH⟩)
  clear hC hM hT hOV hLM hSH b1 b2 b3 b4 b5 b6
  go_enter Tryz.func56, Tryz.ntmps56
  go_upto_region 1 with (refine wpList_allocSt rfl rfl ?_)
  have HB := Lib.hid (below_alloc HB0 (.cells zA 43))
  have HK := Lib.hid (HK0.alloc (.cells zA 43))
  have HZ := Lib.hid (Blk.new (w.alloc (.cells (stA s ⟨lC, lM, lT, .slice none 0 0, .slice none 0 0, .slice none 0 0, .slice none 0 0, .slice none 0 0, .slice none 0 0, .slice none 0 0, .slice none 0 0, lOV, lLM, lSH⟩) 43)) 43 zA)
  have hsz : (w.alloc (.cells (stA s ⟨lC, lM, lT, .slice none 0 0, .slice none 0 0, .slice none 0 0, .slice none 0 0, .slice none 0 0, .slice none 0 0, .slice none 0 0, .slice none 0 0, lOV, lLM, lSH⟩) 43)).heap.size = w.heap.size + 1 := by simp
  rw [hsz] at HZ
  have hgz : w.heap.size + 2 ≤ ((w.alloc (.cells (stA s ⟨lC, lM, lT, .slice none 0 0, .slice none 0 0, .slice none 0 0, .slice none 0 0, .slice none 0 0, .slice none 0 0, .slice none 0 0, .slice none 0 0, lOV, lLM, lSH⟩) 43)).alloc (.cells zA 43)).heap.size := by simp
  clear HB0 HK0
  simp only [hsz]
  clear hsz
  generalize (w.alloc (.cells (stA s ⟨lC, lM, lT, .slice none 0 0, .slice none 0 0, .slice none 0 0, .slice none 0 0, .slice none 0 0, .slice none 0 0, .slice none 0 0, .slice none 0 0, lOV, lLM, lSH⟩) 43)).alloc (.cells zA 43) = w0 at *
  have kc := HK.out.cell
  have kf := HK.out.frozen
  go_wp2_with fail
  refine (XC.out _ HB.out).mono ?_
  rintro e w1 ⟨uC, rfl, ho, hb⟩
  obtain ⟨AC, kC, rfl, -, -⟩ := SliceAt.form (ho.at_ (by omega))
  have OC1 : Hid (Own CnR 80 5 (w.heap.size + 2) w1 (.slice AC s.cs.length kC) s.cs) := ho.lower hgz
  have HB1 := Lib.hid (below_call HB.out hb)
  have HK1 := Lib.hid (HK.out.call hb)
  have HZ1 := Lib.hid (HZ.out.call hb)
  have hgz1 : w.heap.size + 2 ≤ w1.heap.size := Nat.le_trans hgz hb.size
  have OC := OC1
  clear OC1 ho hb kc kf HB HK HZ hgz
  have hgz := hgz1
  clear hgz1
  have kc := HK1.out.cell
  have kf := HK1.out.frozen
  go_upto_region 2 with (fail)
  rw [stSet (cs' := stA s ⟨(.slice AC s.cs.length kC), lM, lT, .slice none 0 0, .slice none 0 0, .slice none 0 0, .slice none 0 0, .slice none 0 0, .slice none 0 0, .slice none 0 0, .slice none 0 0, lOV, lLM, lSH⟩) HK1.out (by simp)]
  have HKa := Lib.hid (row_blk (stA s ⟨(.slice AC s.cs.length kC), lM, lT, .slice none 0 0, .slice none 0 0, .slice none 0 0, .slice none 0 0, .slice none 0 0, .slice none 0 0, .slice none 0 0, .slice none 0 0, lOV, lLM, lSH⟩) HK1.out)
  have HZa := Lib.hid (row_other (stA s ⟨(.slice AC s.cs.length kC), lM, lT, .slice none 0 0, .slice none 0 0, .slice none 0 0, .slice none 0 0, .slice none 0 0, .slice none 0 0, .slice none 0 0, .slice none 0 0, lOV, lLM, lSH⟩) HZ1.out (show w.heap.size + 1 ≠ w.heap.size by omega))
  have HBa := Lib.hid (row_below (stA s ⟨(.slice AC s.cs.length kC), lM, lT, .slice none 0 0, .slice none 0 0, .slice none 0 0, .slice none 0 0, .slice none 0 0, .slice none 0 0, .slice none 0 0, .slice none 0 0, lOV, lLM, lSH⟩) HB1.out (Nat.le_refl _))
  have hgza : w.heap.size + 2 ≤ (w1.setRow w.heap.size (stA s ⟨(.slice AC s.cs.length kC), lM, lT, .slice none 0 0, .slice none 0 0, .slice none 0 0, .slice none 0 0, .slice none 0 0, .slice none 0 0, .slice none 0 0, .slice none 0 0, lOV, lLM, lSH⟩)).heap.size := by rw [size_setRow]; exact hgz
  have OCa := Lib.hid (Own.row_keep OC.out (show w.heap.size < w.heap.size + 2 by omega) (stA s ⟨(.slice AC s.cs.length kC), lM, lT, .slice none 0 0, .slice none 0 0, .slice none 0 0, .slice none 0 0, .slice none 0 0, .slice none 0 0, .slice none 0 0, .slice none 0 0, lOV, lLM, lSH⟩))
  clear kc kf HK1 HZ1 HB1 hgz OC
  generalize w1.setRow w.heap.size (stA s ⟨(.slice AC s.cs.length kC), lM, lT, .slice none 0 0, .slice none 0 0, .slice none 0 0, .slice none 0 0, .slice none 0 0, .slice none 0 0, .slice none 0 0, .slice none 0 0, lOV, lLM, lSH⟩) = v1 at *
  have OC := OCa
  have HK := HKa
  have HZ := HZa
  have HB := HBa
  have hgz := hgza
  clear HKa HZa HBa hgza OCa
  have kc := HK.out.cell
  have kf := HK.out.frozen
  go_wp2_with fail
  refine (XM.out _ HB.out).mono ?_
  rintro e w2 ⟨uM, rfl, ho, hb⟩
  obtain ⟨AM, kM, rfl, -, -⟩ := SliceAt.form (ho.at_ (by omega))
  have OM2 : Hid (Own MtR 82 4 (w.heap.size + 2) w2 (.slice AM s.ms.length kM) s.ms) := ho.lower hgz
  have HB2 := Lib.hid (below_call HB.out hb)
  have HK2 := Lib.hid (HK.out.call hb)
  have HZ2 := Lib.hid (HZ.out.call hb)
  have hgz2 : w.heap.size + 2 ≤ w2.heap.size := Nat.le_trans hgz hb.size
  have OC2 := Lib.hid (OC.out.call hb)
  clear OC
  have OC := OC2
  clear OC2
  have OM := OM2
  clear OM2 ho hb kc kf HB HK HZ hgz
  have hgz := hgz2
  clear hgz2
  have kc := HK2.out.cell
  have kf := HK2.out.frozen
  go_upto_region 3 with (fail)
  rw [stSet (cs' := stA s ⟨(.slice AC s.cs.length kC), (.slice AM s.ms.length kM), lT, .slice none 0 0, .slice none 0 0, .slice none 0 0, .slice none 0 0, .slice none 0 0, .slice none 0 0, .slice none 0 0, .slice none 0 0, lOV, lLM, lSH⟩) HK2.out (by simp)]
  have HKa := Lib.hid (row_blk (stA s ⟨(.slice AC s.cs.length kC), (.slice AM s.ms.length kM), lT, .slice none 0 0, .slice none 0 0, .slice none 0 0, .slice none 0 0, .slice none 0 0, .slice none 0 0, .slice none 0 0, .slice none 0 0, lOV, lLM, lSH⟩) HK2.out)
  have HZa := Lib.hid (row_other (stA s ⟨(.slice AC s.cs.length kC), (.slice AM s.ms.length kM), lT, .slice none 0 0, .slice none 0 0, .slice none 0 0, .slice none 0 0, .slice none 0 0, .slice none 0 0, .slice none 0 0, .slice none 0 0, lOV, lLM, lSH⟩) HZ2.out (show w.heap.size + 1 ≠ w.heap.size by omega))
  have HBa := Lib.hid (row_below (stA s ⟨(.slice AC s.cs.length kC), (.slice AM s.ms.length kM), lT, .slice none 0 0, .slice none 0 0, .slice none 0 0, .slice none 0 0, .slice none 0 0, .slice none 0 0, .slice none 0 0, .slice none 0 0, lOV, lLM, lSH⟩) HB2.out (Nat.le_refl _))
  have hgza : w.heap.size + 2 ≤ (w2.setRow w.heap.size (stA s ⟨(.slice AC s.cs.length kC), (.slice AM s.ms.length kM), lT, .slice none 0 0, .slice none 0 0, .slice none 0 0, .slice none 0 0, .slice none 0 0, .slice none 0 0, .slice none 0 0, .slice none 0 0, lOV, lLM, lSH⟩)).heap.size := by rw [size_setRow]; exact hgz
  have OCa := Lib.hid (Own.row_keep OC.out (show w.heap.size < w.heap.size + 2 by omega) (stA s ⟨(.slice AC s.cs.length kC), (.slice AM s.ms.length kM), lT, .slice none 0 0, .slice none 0 0, .slice none 0 0, .slice none 0 0, .slice none 0 0, .slice none 0 0, .slice none 0 0, .slice none 0 0, lOV, lLM, lSH⟩))
  have OMa := Lib.hid (Own.row_keep OM.out (show w.heap.size < w.heap.size + 2 by omega) (stA s ⟨(.slice AC s.cs.length kC), (.slice AM s.ms.length kM), lT, .slice none 0 0, .slice none 0 0, .slice none 0 0, .slice none 0 0, .slice none 0 0, .slice none 0 0, .slice none 0 0, .slice none 0 0, lOV, lLM, lSH⟩))
  clear kc kf HK2 HZ2 HB2 hgz OC OM
  generalize w2.setRow w.heap.size (stA s ⟨(.slice AC s.cs.length kC), (.slice AM s.ms.length kM), lT, .slice none 0 0, .slice none 0 0, .slice none 0 0, .slice none 0 0, .slice none 0 0, .slice none 0 0, .slice none 0 0, .slice none 0 0, lOV, lLM, lSH⟩) = v2 at *
  have OC := OCa
  have OM := OMa
  have HK := HKa
  have HZ := HZa
  have HB := HBa
  have hgz := hgza
  clear HKa HZa HBa hgza OCa OMa
  have kc := HK.out.cell
  have kf := HK.out.frozen
  go_wp2_with fail
  refine (XT.out _ HB.out).mono ?_
  rintro e w3 ⟨uT, rfl, ho, hb⟩
  obtain ⟨AT, kT, rfl, -, -⟩ := SliceAt.form (ho.at_ (by omega))
  have OT3 : Hid (Own TxR 54 9 (w.heap.size + 2) w3 (.slice AT s.ts.length kT) s.ts) := ho.lower hgz
  have HB3 := Lib.hid (below_call HB.out hb)
  have HK3 := Lib.hid (HK.out.call hb)
  have HZ3 := Lib.hid (HZ.out.call hb)
  have hgz3 : w.heap.size + 2 ≤ w3.heap.size := Nat.le_trans hgz hb.size
  have OC3 := Lib.hid (OC.out.call hb)
  clear OC
  have OC := OC3
  clear OC3
  have OM3 := Lib.hid (OM.out.call hb)
  clear OM
  have OM := OM3
  clear OM3
  have OT := OT3
  clear OT3 ho hb kc kf HB HK HZ hgz
  have hgz := hgz3
  clear hgz3
  have kc := HK3.out.cell
  have kf := HK3.out.frozen
  go_upto_region 4 with (fail)
  rw [stSet (cs' := stA s ⟨(.slice AC s.cs.length kC), (.slice AM s.ms.length kM), (.slice AT s.ts.length kT), .slice none 0 0, .slice none 0 0, .slice none 0 0, .slice none 0 0, .slice none 0 0, .slice none 0 0, .slice none 0 0, .slice none 0 0, lOV, lLM, lSH⟩) HK3.out (by simp)]
  have HKa := Lib.hid (row_blk (stA s ⟨(.slice AC s.cs.length kC), (.slice AM s.ms.length kM), (.slice AT s.ts.length kT), .slice none 0 0, .slice none 0 0, .slice none 0 0, .slice none 0 0, .slice none 0 0, .slice none 0 0, .slice none 0 0, .slice none 0 0, lOV, lLM, lSH⟩) HK3.out)
  have HZa := Lib.hid (row_other (stA s ⟨(.slice AC s.cs.length kC), (.slice AM s.ms.length kM), (.slice AT s.ts.length kT), .slice none 0 0, .slice none 0 0, .slice none 0 0, .slice none 0 0, .slice none 0 0, .slice none 0 0, .slice none 0 0, .slice none 0 0, lOV, lLM, lSH⟩) HZ3.out (show w.heap.size + 1 ≠ w.heap.size by omega))
  have HBa := Lib.hid (row_below (stA s ⟨(.slice AC s.cs.length kC), (.slice AM s.ms.length kM), (.slice AT s.ts.length kT), .slice none 0 0, .slice none 0 0, .slice none 0 0, .slice none 0 0, .slice none 0 0, .slice none 0 0, .slice none 0 0, .slice none 0 0, lOV, lLM, lSH⟩) HB3.out (Nat.le_refl _))
  have hgza : w.heap.size + 2 ≤ (w3.setRow w.heap.size (stA s ⟨(.slice AC s.cs.length kC), (.slice AM s.ms.length kM), (.slice AT s.ts.length kT), .slice none 0 0, .slice none 0 0, .slice none 0 0, .slice none 0 0, .slice none 0 0, .slice none 0 0, .slice none 0 0, .slice none 0 0, lOV, lLM, lSH⟩)).heap.size := by rw [size_setRow]; exact hgz
  have OCa := Lib.hid (Own.row_keep OC.out (show w.heap.size < w.heap.size + 2 by omega) (stA s ⟨(.slice AC s.cs.length kC), (.slice AM s.ms.length kM), (.slice AT s.ts.length kT), .slice none 0 0, .slice none 0 0, .slice none 0 0, .slice none 0 0, .slice none 0 0, .slice none 0 0, .slice none 0 0, .slice none 0 0, lOV, lLM, lSH⟩))
  have OMa := Lib.hid (Own.row_keep OM.out (show w.heap.size < w.heap.size + 2 by omega) (stA s ⟨(.slice AC s.cs.length kC), (.slice AM s.ms.length kM), (.slice AT s.ts.length kT), .slice none 0 0, .slice none 0 0, .slice none 0 0, .slice none 0 0, .slice none 0 0, .slice none 0 0, .slice none 0 0, .slice none 0 0, lOV, lLM, lSH⟩))
  have OTa := Lib.hid (Own.row_keep OT.out (show w.heap.size < w.heap.size + 2 by omega) (stA s ⟨(.slice AC s.cs.length kC), (.slice AM s.ms.length kM), (.slice AT s.ts.length kT), .slice none 0 0, .slice none 0 0, .slice none 0 0, .slice none 0 0, .slice none 0 0, .slice none 0 0, .slice none 0 0, .slice none 0 0, lOV, lLM, lSH⟩))
  clear kc kf HK3 HZ3 HB3 hgz OC OM OT
  generalize w3.setRow w.heap.size (stA s ⟨(.slice AC s.cs.length kC), (.slice AM s.ms.length kM), (.slice AT s.ts.length kT), .slice none 0 0, .slice none 0 0, .slice none 0 0, .slice none 0 0, .slice none 0 0, .slice none 0 0, .slice none 0 0, .slice none 0 0, lOV, lLM, lSH⟩) = v3 at *
  have OC := OCa
  have OM := OMa
  have OT := OTa
  have HK := HKa
  have HZ := HZa
  have HB := HBa
  have hgz := hgza
  clear HKa HZa HBa hgza OCa OMa OTa
  have kc := HK.out.cell
  have kf := HK.out.frozen
  go_wp2_with fail
  refine (YPro.out _).mono ?_
  rintro e w4 ⟨rfl, rfl⟩
  go_upto_region 5 with (fail)
  rw [setCell_self (show v3.cell? ⟨w.heap.size, 9, none⟩ = some (.slice none 0 0) from HK.out.cell 9)]
  clear kc kf
  have kc := HK.out.cell
  go_wp2_with fail
  go_loopg [26] 0 (fun gg s26 wq => s26 = i 0 ∧ wq = v3)
  case atStart => exact ⟨rfl, rfl⟩
  case round =>
  obtain ⟨rfl, rfl⟩ := hrel
  clear kc
  have kc := HK.out.cell
  have kf := HK.out.frozen
  go_wp2_with fail
  refine (YTok.out _).mono ?_
  rintro e w5 ⟨rfl, rfl⟩
  go_upto_region 11 with (fail)
  rw [setCell_self (show wr.cell? ⟨w.heap.size, 11, none⟩ = some (.slice none 0 0) from HK.out.cell 11)]
  clear kc kf
  have kc := HK.out.cell
  have kf := HK.out.frozen
  go_wp2_with fail
  refine (YTok.out _).mono ?_
  rintro e w6 ⟨rfl, rfl⟩
  go_upto_region 12 with (fail)
  rw [setCell_self (show wr.cell? ⟨w.heap.size, 12, none⟩ = some (.slice none 0 0) from HK.out.cell 12)]
  clear kc kf
  have kc := HK.out.cell
  have kf := HK.out.frozen
  go_wp2_with fail
  refine (YRes.out _).mono ?_
  rintro e w7 ⟨rfl, rfl⟩
  go_upto_region 13 with (fail)
  rw [setCell_self (show wr.cell? ⟨w.heap.size, 13, none⟩ = some (.slice none 0 0) from HK.out.cell 13)]
  clear kc kf
  have kc := HK.out.cell
  have kf := HK.out.frozen
  go_wp2_with fail
  refine (YEvt.out _).mono ?_
  rintro e w8 ⟨rfl, rfl⟩
  go_upto_region 14 with (fail)
  rw [setCell_self (show wr.cell? ⟨w.heap.size, 15, none⟩ = some (.slice none 0 0) from HK.out.cell 15)]
  clear kc kf
  have kc := HK.out.cell
  go_wp2_with fail
  go_loopg [64] 0 (fun gg s64 wq => s64 = i 0 ∧ wq = wr)
  case atStart => exact ⟨rfl, rfl⟩
  case round =>
  obtain ⟨rfl, rfl⟩ := hrel
  clear kc
  have kc := HK.out.cell
  have kf := HK.out.frozen
  go_wp2_with fail
  refine (YMsgs.out _).mono ?_
  rintro e w9 ⟨rfl, rfl⟩
  go_upto_region 20 with (fail)
  rw [setCell_self (show wr.cell? ⟨w.heap.size, 20, none⟩ = some (.slice none 0 0) from HK.out.cell 20)]
  clear kc kf
  have kc := HK.out.cell
  have kf := HK.out.frozen
  go_wp2_with fail
  refine (YMsgs.out _).mono ?_
  rintro e w10 ⟨rfl, rfl⟩
  go_upto_region 21 with (fail)
  rw [setCell_self (show wr.cell? ⟨w.heap.size, 21, none⟩ = some (.slice none 0 0) from HK.out.cell 21)]
  clear kc kf
  have kc := HK.out.cell
  have kf := HK.out.frozen
  go_wp2_with fail
  refine (YMsgs.out _).mono ?_
  rintro e w11 ⟨rfl, rfl⟩
  go_upto_region 22 with (fail)
  rw [setCell_self (show wr.cell? ⟨w.heap.size, 24, none⟩ = some (.slice none 0 0) from HK.out.cell 24)]
  clear kc kf
  have kc := HK.out.cell
  have kf := HK.out.frozen
  go_wp2_with fail
  refine (XOV.out _ HB.out).mono ?_
  rintro e w12 ⟨uOV, rfl, ho, hb⟩
  obtain ⟨AOV, kOV, rfl, -, -⟩ := SliceAt.form (ho.at_ (by omega))
  have OOV12 : Hid (Own InR 3 1 (w.heap.size + 2) w12 (.slice AOV s.ov.length kOV) s.ov) := ho.lower hgz
  have HB12 := Lib.hid (below_call HB.out hb)
  have HK12 := Lib.hid (HK.out.call hb)
  have HZ12 := Lib.hid (HZ.out.call hb)
  have hgz12 : w.heap.size + 2 ≤ w12.heap.size := Nat.le_trans hgz hb.size
  have OC12 := Lib.hid (OC.out.call hb)
  clear OC
  have OC := OC12
  clear OC12
  have OM12 := Lib.hid (OM.out.call hb)
  clear OM
  have OM := OM12
  clear OM12
  have OT12 := Lib.hid (OT.out.call hb)
  clear OT
  have OT := OT12
  clear OT12
  have OOV := OOV12
  clear OOV12 ho hb kc kf HB HK HZ hgz
  have hgz := hgz12
  clear hgz12
  have kc := HK12.out.cell
  have kf := HK12.out.frozen
  go_upto_region 23 with (fail)
  rw [stSet (cs' := stA s ⟨(.slice AC s.cs.length kC), (.slice AM s.ms.length kM), (.slice AT s.ts.length kT), .slice none 0 0, .slice none 0 0, .slice none 0 0, .slice none 0 0, .slice none 0 0, .slice none 0 0, .slice none 0 0, .slice none 0 0, (.slice AOV s.ov.length kOV), lLM, lSH⟩) HK12.out (by simp)]
  have HKa := Lib.hid (row_blk (stA s ⟨(.slice AC s.cs.length kC), (.slice AM s.ms.length kM), (.slice AT s.ts.length kT), .slice none 0 0, .slice none 0 0, .slice none 0 0, .slice none 0 0, .slice none 0 0, .slice none 0 0, .slice none 0 0, .slice none 0 0, (.slice AOV s.ov.length kOV), lLM, lSH⟩) HK12.out)
  have HZa := Lib.hid (row_other (stA s ⟨(.slice AC s.cs.length kC), (.slice AM s.ms.length kM), (.slice AT s.ts.length kT), .slice none 0 0, .slice none 0 0, .slice none 0 0, .slice none 0 0, .slice none 0 0, .slice none 0 0, .slice none 0 0, .slice none 0 0, (.slice AOV s.ov.length kOV), lLM, lSH⟩) HZ12.out (show w.heap.size + 1 ≠ w.heap.size by omega))
  have HBa := Lib.hid (row_below (stA s ⟨(.slice AC s.cs.length kC), (.slice AM s.ms.length kM), (.slice AT s.ts.length kT), .slice none 0 0, .slice none 0 0, .slice none 0 0, .slice none 0 0, .slice none 0 0, .slice none 0 0, .slice none 0 0, .slice none 0 0, (.slice AOV s.ov.length kOV), lLM, lSH⟩) HB12.out (Nat.le_refl _))
  have hgza : w.heap.size + 2 ≤ (w12.setRow w.heap.size (stA s ⟨(.slice AC s.cs.length kC), (.slice AM s.ms.length kM), (.slice AT s.ts.length kT), .slice none 0 0, .slice none 0 0, .slice none 0 0, .slice none 0 0, .slice none 0 0, .slice none 0 0, .slice none 0 0, .slice none 0 0, (.slice AOV s.ov.length kOV), lLM, lSH⟩)).heap.size := by rw [size_setRow]; exact hgz
  have OCa := Lib.hid (Own.row_keep OC.out (show w.heap.size < w.heap.size + 2 by omega) (stA s ⟨(.slice AC s.cs.length kC), (.slice AM s.ms.length kM), (.slice AT s.ts.length kT), .slice none 0 0, .slice none 0 0, .slice none 0 0, .slice none 0 0, .slice none 0 0, .slice none 0 0, .slice none 0 0, .slice none 0 0, (.slice AOV s.ov.length kOV), lLM, lSH⟩))
  have OMa := Lib.hid (Own.row_keep OM.out (show w.heap.size < w.heap.size + 2 by omega) (stA s ⟨(.slice AC s.cs.length kC), (.slice AM s.ms.length kM), (.slice AT s.ts.length kT), .slice none 0 0, .slice none 0 0, .slice none 0 0, .slice none 0 0, .slice none 0 0, .slice none 0 0, .slice none 0 0, .slice none 0 0, (.slice AOV s.ov.length kOV), lLM, lSH⟩))
  have OTa := Lib.hid (Own.row_keep OT.out (show w.heap.size < w.heap.size + 2 by omega) (stA s ⟨(.slice AC s.cs.length kC), (.slice AM s.ms.length kM), (.slice AT s.ts.length kT), .slice none 0 0, .slice none 0 0, .slice none 0 0, .slice none 0 0, .slice none 0 0, .slice none 0 0, .slice none 0 0, .slice none 0 0, (.slice AOV s.ov.length kOV), lLM, lSH⟩))
  have OOVa := Lib.hid (Own.row_keep OOV.out (show w.heap.size < w.heap.size + 2 by omega) (stA s ⟨(.slice AC s.cs.length kC), (.slice AM s.ms.length kM), (.slice AT s.ts.length kT), .slice none 0 0, .slice none 0 0, .slice none 0 0, .slice none 0 0, .slice none 0 0, .slice none 0 0, .slice none 0 0, .slice none 0 0, (.slice AOV s.ov.length kOV), lLM, lSH⟩))
  clear kc kf HK12 HZ12 HB12 hgz OC OM OT OOV
  generalize w12.setRow w.heap.size (stA s ⟨(.slice AC s.cs.length kC), (.slice AM s.ms.length kM), (.slice AT s.ts.length kT), .slice none 0 0, .slice none 0 0, .slice none 0 0, .slice none 0 0, .slice none 0 0, .slice none 0 0, .slice none 0 0, .slice none 0 0, (.slice AOV s.ov.length kOV), lLM, lSH⟩) = v12 at *
  have OC := OCa
  have OM := OMa
  have OT := OTa
  have OOV := OOVa
  have HK := HKa
  have HZ := HZa
  have HB := HBa
  have hgz := hgza
  clear HKa HZa HBa hgza OCa OMa OTa OOVa
  have kc := HK.out.cell
  have kf := HK.out.frozen
  go_wp2_with fail
  refine (XLM.out _ HB.out).mono ?_
  rintro e w13 ⟨uLM, rfl, ho, hb⟩
  obtain ⟨ALM, kLM, rfl, -, -⟩ := SliceAt.form (ho.at_ (by omega))
  have OLM13 : Hid (Own InR 3 1 (w.heap.size + 2) w13 (.slice ALM s.lm.length kLM) s.lm) := ho.lower hgz
  have HB13 := Lib.hid (below_call HB.out hb)
  have HK13 := Lib.hid (HK.out.call hb)
  have HZ13 := Lib.hid (HZ.out.call hb)
  have hgz13 : w.heap.size + 2 ≤ w13.heap.size := Nat.le_trans hgz hb.size
  have OC13 := Lib.hid (OC.out.call hb)
  clear OC
  have OC := OC13
  clear OC13
  have OM13 := Lib.hid (OM.out.call hb)
  clear OM
  have OM := OM13
  clear OM13
  have OT13 := Lib.hid (OT.out.call hb)
  clear OT
  have OT := OT13
  clear OT13
  have OOV13 := Lib.hid (OOV.out.call hb)
  clear OOV
  have OOV := OOV13
  clear OOV13
  have OLM := OLM13
  clear OLM13 ho hb kc kf HB HK HZ hgz
  have hgz := hgz13
  clear hgz13
  have kc := HK13.out.cell
  have kf := HK13.out.frozen
  go_upto_region 24 with (fail)
  rw [stSet (cs' := stA s ⟨(.slice AC s.cs.length kC), (.slice AM s.ms.length kM), (.slice AT s.ts.length kT), .slice none 0 0, .slice none 0 0, .slice none 0 0, .slice none 0 0, .slice none 0 0, .slice none 0 0, .slice none 0 0, .slice none 0 0, (.slice AOV s.ov.length kOV), (.slice ALM s.lm.length kLM), lSH⟩) HK13.out (by simp)]
  have HKa := Lib.hid (row_blk (stA s ⟨(.slice AC s.cs.length kC), (.slice AM s.ms.length kM), (.slice AT s.ts.length kT), .slice none 0 0, .slice none 0 0, .slice none 0 0, .slice none 0 0, .slice none 0 0, .slice none 0 0, .slice none 0 0, .slice none 0 0, (.slice AOV s.ov.length kOV), (.slice ALM s.lm.length kLM), lSH⟩) HK13.out)
  have HZa := Lib.hid (row_other (stA s ⟨(.slice AC s.cs.length kC), (.slice AM s.ms.length kM), (.slice AT s.ts.length kT), .slice none 0 0, .slice none 0 0, .slice none 0 0, .slice none 0 0, .slice none 0 0, .slice none 0 0, .slice none 0 0, .slice none 0 0, (.slice AOV s.ov.length kOV), (.slice ALM s.lm.length kLM), lSH⟩) HZ13.out (show w.heap.size + 1 ≠ w.heap.size by omega))
  have HBa := Lib.hid (row_below (stA s ⟨(.slice AC s.cs.length kC), (.slice AM s.ms.length kM), (.slice AT s.ts.length kT), .slice none 0 0, .slice none 0 0, .slice none 0 0, .slice none 0 0, .slice none 0 0, .slice none 0 0, .slice none 0 0, .slice none 0 0, (.slice AOV s.ov.length kOV), (.slice ALM s.lm.length kLM), lSH⟩) HB13.out (Nat.le_refl _))
  have hgza : w.heap.size + 2 ≤ (w13.setRow w.heap.size (stA s ⟨(.slice AC s.cs.length kC), (.slice AM s.ms.length kM), (.slice AT s.ts.length kT), .slice none 0 0, .slice none 0 0, .slice none 0 0, .slice none 0 0, .slice none 0 0, .slice none 0 0, .slice none 0 0, .slice none 0 0, (.slice AOV s.ov.length kOV), (.slice ALM s.lm.length kLM), lSH⟩)).heap.size := by rw [size_setRow]; exact hgz
  have OCa := Lib.hid (Own.row_keep OC.out (show w.heap.size < w.heap.size + 2 by omega) (stA s ⟨(.slice AC s.cs.length kC), (.slice AM s.ms.length kM), (.slice AT s.ts.length kT), .slice none 0 0, .slice none 0 0, .slice none 0 0, .slice none 0 0, .slice none 0 0, .slice none 0 0, .slice none 0 0, .slice none 0 0, (.slice AOV s.ov.length kOV), (.slice ALM s.lm.length kLM), lSH⟩))
  have OMa := Lib.hid (Own.row_keep OM.out (show w.heap.size < w.heap.size + 2 by omega) (stA s ⟨(.slice AC s.cs.length kC), (.slice AM s.ms.length kM), (.slice AT s.ts.length kT), .slice none 0 0, .slice none 0 0, .slice none 0 0, .slice none 0 0, .slice none 0 0, .slice none 0 0, .slice none 0 0, .slice none 0 0, (.slice AOV s.ov.length kOV), (.slice ALM s.lm.length kLM), lSH⟩))
  have OTa := Lib.hid (Own.row_keep OT.out (show w.heap.size < w.heap.size + 2 by omega) (stA s ⟨(.slice AC s.cs.length kC), (.slice AM s.ms.length kM), (.slice AT s.ts.length kT), .slice none 0 0, .slice none 0 0, .slice none 0 0, .slice none 0 0, .slice none 0 0, .slice none 0 0, .slice none 0 0, .slice none 0 0, (.slice AOV s.ov.length kOV), (.slice ALM s.lm.length kLM), lSH⟩))
  have OOVa := Lib.hid (Own.row_keep OOV.out (show w.heap.size < w.heap.size + 2 by omega) (stA s ⟨(.slice AC s.cs.length kC), (.slice AM s.ms.length kM), (.slice AT s.ts.length kT), .slice none 0 0, .slice none 0 0, .slice none 0 0, .slice none 0 0, .slice none 0 0, .slice none 0 0, .slice none 0 0, .slice none 0 0, (.slice AOV s.ov.length kOV), (.slice ALM s.lm.length kLM), lSH⟩))
  have OLMa := Lib.hid (Own.row_keep OLM.out (show w.heap.size < w.heap.size + 2 by omega) (stA s ⟨(.slice AC s.cs.length kC), (.slice AM s.ms.length kM), (.slice AT s.ts.length kT), .slice none 0 0, .slice none 0 0, .slice none 0 0, .slice none 0 0, .slice none 0 0, .slice none 0 0, .slice none 0 0, .slice none 0 0, (.slice AOV s.ov.length kOV), (.slice ALM s.lm.length kLM), lSH⟩))
  clear kc kf HK13 HZ13 HB13 hgz OC OM OT OOV OLM
  generalize w13.setRow w.heap.size (stA s ⟨(.slice AC s.cs.length kC), (.slice AM s.ms.length kM), (.slice AT s.ts.length kT), .slice none 0 0, .slice none 0 0, .slice none 0 0, .slice none 0 0, .slice none 0 0, .slice none 0 0, .slice none 0 0, .slice none 0 0, (.slice AOV s.ov.length kOV), (.slice ALM s.lm.length kLM), lSH⟩) = v13 at *
  have OC := OCa
  have OM := OMa
  have OT := OTa
  have OOV := OOVa
  have OLM := OLMa
  have HK := HKa
  have HZ := HZa
  have HB := HBa
  have hgz := hgza
  clear HKa HZa HBa hgza OCa OMa OTa OOVa OLMa
  have kc := HK.out.cell
  have kf := HK.out.frozen
  go_wp2_with fail
  refine (XSH.out _ HB.out).mono ?_
  rintro e w14 ⟨uSH, rfl, ho, hb⟩
  obtain ⟨ASH, kSH, rfl, -, -⟩ := SliceAt.form (ho.at_ (by omega))
  have OSH14 : Hid (Own InR 3 1 (w.heap.size + 2) w14 (.slice ASH s.sh.length kSH) s.sh) := ho.lower hgz
  have HB14 := Lib.hid (below_call HB.out hb)
  have HK14 := Lib.hid (HK.out.call hb)
  have HZ14 := Lib.hid (HZ.out.call hb)
  have hgz14 : w.heap.size + 2 ≤ w14.heap.size := Nat.le_trans hgz hb.size
  have OC14 := Lib.hid (OC.out.call hb)
  clear OC
  have OC := OC14
  clear OC14
  have OM14 := Lib.hid (OM.out.call hb)
  clear OM
  have OM := OM14
  clear OM14
  have OT14 := Lib.hid (OT.out.call hb)
  clear OT
  have OT := OT14
  clear OT14
  have OOV14 := Lib.hid (OOV.out.call hb)
  clear OOV
  have OOV := OOV14
  clear OOV14
  have OLM14 := Lib.hid (OLM.out.call hb)
  clear OLM
  have OLM := OLM14
  clear OLM14
  have OSH := OSH14
  clear OSH14 ho hb kc kf HB HK HZ hgz
  have hgz := hgz14
  clear hgz14
  have kc := HK14.out.cell
  have kf := HK14.out.frozen
  go_upto_region 25 with (fail)
  rw [stSet (cs' := stA s ⟨(.slice AC s.cs.length kC), (.slice AM s.ms.length kM), (.slice AT s.ts.length kT), .slice none 0 0, .slice none 0 0, .slice none 0 0, .slice none 0 0, .slice none 0 0, .slice none 0 0, .slice none 0 0, .slice none 0 0, (.slice AOV s.ov.length kOV), (.slice ALM s.lm.length kLM), (.slice ASH s.sh.length kSH)⟩) HK14.out (by simp)]
  have HKa := Lib.hid (row_blk (stA s ⟨(.slice AC s.cs.length kC), (.slice AM s.ms.length kM), (.slice AT s.ts.length kT), .slice none 0 0, .slice none 0 0, .slice none 0 0, .slice none 0 0, .slice none 0 0, .slice none 0 0, .slice none 0 0, .slice none 0 0, (.slice AOV s.ov.length kOV), (.slice ALM s.lm.length kLM), (.slice ASH s.sh.length kSH)⟩) HK14.out)
  have HZa := Lib.hid (row_other (stA s ⟨(.slice AC s.cs.length kC), (.slice AM s.ms.length kM), (.slice AT s.ts.length kT), .slice none 0 0, .slice none 0 0, .slice none 0 0, .slice none 0 0, .slice none 0 0, .slice none 0 0, .slice none 0 0, .slice none 0 0, (.slice AOV s.ov.length kOV), (.slice ALM s.lm.length kLM), (.slice ASH s.sh.length kSH)⟩) HZ14.out (show w.heap.size + 1 ≠ w.heap.size by omega))
  have HBa := Lib.hid (row_below (stA s ⟨(.slice AC s.cs.length kC), (.slice AM s.ms.length kM), (.slice AT s.ts.length kT), .slice none 0 0, .slice none 0 0, .slice none 0 0, .slice none 0 0, .slice none 0 0, .slice none 0 0, .slice none 0 0, .slice none 0 0, (.slice AOV s.ov.length kOV), (.slice ALM s.lm.length kLM), (.slice ASH s.sh.length kSH)⟩) HB14.out (Nat.le_refl _))
  have hgza : w.heap.size + 2 ≤ (w14.setRow w.heap.size (stA s ⟨(.slice AC s.cs.length kC), (.slice AM s.ms.length kM), (.slice AT s.ts.length kT), .slice none 0 0, .slice none 0 0, .slice none 0 0, .slice none 0 0, .slice none 0 0, .slice none 0 0, .slice none 0 0, .slice none 0 0, (.slice AOV s.ov.length kOV), (.slice ALM s.lm.length kLM), (.slice ASH s.sh.length kSH)⟩)).heap.size := by rw [size_setRow]; exact hgz
  have OCa := Lib.hid (Own.row_keep OC.out (show w.heap.size < w.heap.size + 2 by omega) (stA s ⟨(.slice AC s.cs.length kC), (.slice AM s.ms.length kM), (.slice AT s.ts.length kT), .slice none 0 0, .slice none 0 0, .slice none 0 0, .slice none 0 0, .slice none 0 0, .slice none 0 0, .slice none 0 0, .slice none 0 0, (.slice AOV s.ov.length kOV), (.slice ALM s.lm.length kLM), (.slice ASH s.sh.length kSH)⟩))
  have OMa := Lib.hid (Own.row_keep OM.out (show w.heap.size < w.heap.size + 2 by omega) (stA s ⟨(.slice AC s.cs.length kC), (.slice AM s.ms.length kM), (.slice AT s.ts.length kT), .slice none 0 0, .slice none 0 0, .slice none 0 0, .slice none 0 0, .slice none 0 0, .slice none 0 0, .slice none 0 0, .slice none 0 0, (.slice AOV s.ov.length kOV), (.slice ALM s.lm.length kLM), (.slice ASH s.sh.length kSH)⟩))
  have OTa := Lib.hid (Own.row_keep OT.out (show w.heap.size < w.heap.size + 2 by omega) (stA s ⟨(.slice AC s.cs.length kC), (.slice AM s.ms.length kM), (.slice AT s.ts.length kT), .slice none 0 0, .slice none 0 0, .slice none 0 0, .slice none 0 0, .slice none 0 0, .slice none 0 0, .slice none 0 0, .slice none 0 0, (.slice AOV s.ov.length kOV), (.slice ALM s.lm.length kLM), (.slice ASH s.sh.length kSH)⟩))
  have OOVa := Lib.hid (Own.row_keep OOV.out (show w.heap.size < w.heap.size + 2 by omega) (stA s ⟨(.slice AC s.cs.length kC), (.slice AM s.ms.length kM), (.slice AT s.ts.length kT), .slice none 0 0, .slice none 0 0, .slice none 0 0, .slice none 0 0, .slice none 0 0, .slice none 0 0, .slice none 0 0, .slice none 0 0, (.slice AOV s.ov.length kOV), (.slice ALM s.lm.length kLM), (.slice ASH s.sh.length kSH)⟩))
  have OLMa := Lib.hid (Own.row_keep OLM.out (show w.heap.size < w.heap.size + 2 by omega) (stA s ⟨(.slice AC s.cs.length kC), (.slice AM s.ms.length kM), (.slice AT s.ts.length kT), .slice none 0 0, .slice none 0 0, .slice none 0 0, .slice none 0 0, .slice none 0 0, .slice none 0 0, .slice none 0 0, .slice none 0 0, (.slice AOV s.ov.length kOV), (.slice ALM s.lm.length kLM), (.slice ASH s.sh.length kSH)⟩))
  have OSHa := Lib.hid (Own.row_keep OSH.out (show w.heap.size < w.heap.size + 2 by omega) (stA s ⟨(.slice AC s.cs.length kC), (.slice AM s.ms.length kM), (.slice AT s.ts.length kT), .slice none 0 0, .slice none 0 0, .slice none 0 0, .slice none 0 0, .slice none 0 0, .slice none 0 0, .slice none 0 0, .slice none 0 0, (.slice AOV s.ov.length kOV), (.slice ALM s.lm.length kLM), (.slice ASH s.sh.length kSH)⟩))
  clear kc kf HK14 HZ14 HB14 hgz OC OM OT OOV OLM OSH
  generalize w14.setRow w.heap.size (stA s ⟨(.slice AC s.cs.length kC), (.slice AM s.ms.length kM), (.slice AT s.ts.length kT), .slice none 0 0, .slice none 0 0, .slice none 0 0, .slice none 0 0, .slice none 0 0, .slice none 0 0, .slice none 0 0, .slice none 0 0, (.slice AOV s.ov.length kOV), (.slice ALM s.lm.length kLM), (.slice ASH s.sh.length kSH)⟩) = v14 at *
  have OC := OCa
  have OM := OMa
  have OT := OTa
  have OOV := OOVa
  have OLM := OLMa
  have OSH := OSHa
  have HK := HKa
  have HZ := HZa
  have HB := HBa
  have hgz := hgza
  clear HKa HZa HBa hgza OCa OMa OTa OOVa OLMa OSHa
  go_wp2_with (first
    | (refine wpList_load_row rfl 43 (.tmp 1) rfl w.heap.size rfl 43 (stA s ⟨(.slice AC s.cs.length kC), (.slice AM s.ms.length kM), (.slice AT s.ts.length kT), .slice none 0 0, .slice none 0 0, .slice none 0 0, .slice none 0 0, .slice none 0 0, .slice none 0 0, .slice none 0 0, .slice none 0 0, (.slice AOV s.ov.length kOV), (.slice ALM s.lm.length kLM), (.slice ASH s.sh.length kSH)⟩) (0, 0) _ HK.out Tryz.underlying43 rfl (by kernel_rfl) ?_)
    | (refine wpList_store_rowTo rfl 43 (.tmp 2) (.tmp 111) rfl rfl (w.heap.size + 1) (stA s ⟨(.slice AC s.cs.length kC), (.slice AM s.ms.length kM), (.slice AT s.ts.length kT), .slice none 0 0, .slice none 0 0, .slice none 0 0, .slice none 0 0, .slice none 0 0, .slice none 0 0, .slice none 0 0, .slice none 0 0, (.slice AOV s.ov.length kOV), (.slice ALM s.lm.length kLM), (.slice ASH s.sh.length kSH)⟩) (by kernel_rfl) (by kernel_rfl) 43 zA HZ.out (by kernel_rfl) (by kernel_rfl) (by kernel_rfl) ?_))
  refine bodyPost_ret (results_cell_row rfl _ _ (w.heap.size + 1) 43 (stA s ⟨(.slice AC s.cs.length kC), (.slice AM s.ms.length kM), (.slice AT s.ts.length kT), .slice none 0 0, .slice none 0 0, .slice none 0 0, .slice none 0 0, .slice none 0 0, .slice none 0 0, .slice none 0 0, .slice none 0 0, (.slice AOV s.ov.length kOV), (.slice ALM s.lm.length kLM), (.slice ASH s.sh.length kSH)⟩) (0, 0) _ rfl (row_blk _ HZ.out) Tryz.underlying43 rfl (by kernel_rfl)) rfl ?_
  have PC := (Own.row_keep OC.out (show w.heap.size + 1 < w.heap.size + 2 by omega) (stA s ⟨(.slice AC s.cs.length kC), (.slice AM s.ms.length kM), (.slice AT s.ts.length kT), .slice none 0 0, .slice none 0 0, .slice none 0 0, .slice none 0 0, .slice none 0 0, .slice none 0 0, .slice none 0 0, .slice none 0 0, (.slice AOV s.ov.length kOV), (.slice ALM s.lm.length kLM), (.slice ASH s.sh.length kSH)⟩)).lower (show w.heap.size ≤ w.heap.size + 2 by omega)
  have PM := (Own.row_keep OM.out (show w.heap.size + 1 < w.heap.size + 2 by omega) (stA s ⟨(.slice AC s.cs.length kC), (.slice AM s.ms.length kM), (.slice AT s.ts.length kT), .slice none 0 0, .slice none 0 0, .slice none 0 0, .slice none 0 0, .slice none 0 0, .slice none 0 0, .slice none 0 0, .slice none 0 0, (.slice AOV s.ov.length kOV), (.slice ALM s.lm.length kLM), (.slice ASH s.sh.length kSH)⟩)).lower (show w.heap.size ≤ w.heap.size + 2 by omega)
  have PT := (Own.row_keep OT.out (show w.heap.size + 1 < w.heap.size + 2 by omega) (stA s ⟨(.slice AC s.cs.length kC), (.slice AM s.ms.length kM), (.slice AT s.ts.length kT), .slice none 0 0, .slice none 0 0, .slice none 0 0, .slice none 0 0, .slice none 0 0, .slice none 0 0, .slice none 0 0, .slice none 0 0, (.slice AOV s.ov.length kOV), (.slice ALM s.lm.length kLM), (.slice ASH s.sh.length kSH)⟩)).lower (show w.heap.size ≤ w.heap.size + 2 by omega)
  have POV := (Own.row_keep OOV.out (show w.heap.size + 1 < w.heap.size + 2 by omega) (stA s ⟨(.slice AC s.cs.length kC), (.slice AM s.ms.length kM), (.slice AT s.ts.length kT), .slice none 0 0, .slice none 0 0, .slice none 0 0, .slice none 0 0, .slice none 0 0, .slice none 0 0, .slice none 0 0, .slice none 0 0, (.slice AOV s.ov.length kOV), (.slice ALM s.lm.length kLM), (.slice ASH s.sh.length kSH)⟩)).lower (show w.heap.size ≤ w.heap.size + 2 by omega)
  have PLM := (Own.row_keep OLM.out (show w.heap.size + 1 < w.heap.size + 2 by omega) (stA s ⟨(.slice AC s.cs.length kC), (.slice AM s.ms.length kM), (.slice AT s.ts.length kT), .slice none 0 0, .slice none 0 0, .slice none 0 0, .slice none 0 0, .slice none 0 0, .slice none 0 0, .slice none 0 0, .slice none 0 0, (.slice AOV s.ov.length kOV), (.slice ALM s.lm.length kLM), (.slice ASH s.sh.length kSH)⟩)).lower (show w.heap.size ≤ w.heap.size + 2 by omega)
  have PSH := (Own.row_keep OSH.out (show w.heap.size + 1 < w.heap.size + 2 by omega) (stA s ⟨(.slice AC s.cs.length kC), (.slice AM s.ms.length kM), (.slice AT s.ts.length kT), .slice none 0 0, .slice none 0 0, .slice none 0 0, .slice none 0 0, .slice none 0 0, .slice none 0 0, .slice none 0 0, .slice none 0 0, (.slice AOV s.ov.length kOV), (.slice ALM s.lm.length kLM), (.slice ASH s.sh.length kSH)⟩)).lower (show w.heap.size ≤ w.heap.size + 2 by omega)
  exact ⟨_, rfl, ⟨PC, PM, PT, rfl, rfl, rfl, rfl, rfl, rfl, rfl, rfl, POV, PLM, PSH⟩, row_below _ HB.out (by omega)⟩

end Stn
end Go.Proofs.YtfaofobhmmedmaaGreatDoor
