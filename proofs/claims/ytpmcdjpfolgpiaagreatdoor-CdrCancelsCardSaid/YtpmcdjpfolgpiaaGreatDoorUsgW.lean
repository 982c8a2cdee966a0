/-
  Readings in memory; the walks of usage.Valid and of the reference's Valid.
-/
import Derived.Test.YtpmcdjpfolgpiaaGreatDoorUsg
import Derived.Test.YtpmcdjpfolgpiaaGreatDoorBase
import Derived.Test.YtpmcdjpfolgpiaaGreatDoorTaxD
import Derived.Deep.LoopGhost
import Derived.Deep.QuietTactic
import Derived.BigQuiet
import Derived.IntWalk
namespace Go.Proofs.YtpmcdjpfolgpiaaGreatDoor
namespace UsgW
set_option linter.unusedSimpArgs false
set_option linter.unusedVariables false
open Go.RowKit CalW TarW Usg

def RdgR (r : List Value) (x : Rdg) : Prop := r = [i x.at_, i x.reg] ∧ MonW.I64 x.at_ ∧ MonW.I64 x.reg
def RdgsAt (w : World) (v : Value) (xs : List Rdg) : Prop := SliceAt RdgR 2 w v xs
theorem RdgsAt.keep {w w' : World} {v : Value} {xs : List Rdg} (h : RdgsAt w v xs) (hk : Kept w w') : RdgsAt w' v xs := SliceAt.keep h hk (fun _ _ h => h)
theorem RdgsAt.call {w w' : World} {v : Value} {xs : List Rdg} (h : RdgsAt w v xs) (hb : Below w.heap.size w w') : RdgsAt w' v xs := h.keep (Kept.of hb)
theorem RdgsAt.at_ {w : World} {A : Option Addr} {n c j : Nat} {xs : List Rdg} (h : RdgsAt w (.slice A n c) xs) (hj : j < xs.length) :
    ∃ b off, A = some ⟨b, off, none⟩ ∧ b < w.heap.size ∧ MonW.I64 xs[j].at_ ∧ MonW.I64 xs[j].reg ∧ ∀ W, Kept w W → W.cell? ⟨b, off + j * 2, none⟩ = some (i xs[j].at_) ∧ W.cell? ⟨b, off + j * 2 + 1, none⟩ = some (i xs[j].reg) := by
  obtain ⟨b, off, r, rfl, hl, ⟨hr, ho, hp⟩, hc⟩ := SliceAt.at_ h hj
  subst hr
  exact ⟨b, off, rfl, World.block_lt_of_cell? w _ (hc 0 _ rfl), ho, hp, fun W hk => ⟨hk _ _ (hc 0 _ rfl), hk _ _ (hc 1 _ rfl)⟩⟩

theorem rdg_bad {l : List Rdg} {m : Int} {k : Nat} (hk : k < l.length) (h : l[k].at_ < 0 ∨ 268435456 < l[k].at_ ∨ l[k].reg < 0 ∨ m ≤ l[k].reg) : rdgE l m k = 2 := by
  unfold rdgE
  rw [List.getElem?_eq_getElem hk]
  simp only
  rw [if_pos h]
theorem rdg_first {l : List Rdg} {m : Int} (hk : 0 < l.length) (h : ¬ (l[0].at_ < 0 ∨ 268435456 < l[0].at_ ∨ l[0].reg < 0 ∨ m ≤ l[0].reg)) : rdgE l m 0 = 0 := by
  unfold rdgE
  rw [List.getElem?_eq_getElem hk]
  exact if_neg h
theorem rdg_next {l : List Rdg} {m : Int} {k : Nat} (hk : k + 1 < l.length) (h : ¬ (l[k + 1].at_ < 0 ∨ 268435456 < l[k + 1].at_ ∨ l[k + 1].reg < 0 ∨ m ≤ l[k + 1].reg)) : rdgE l m (k + 1) = if l[k + 1].at_ ≤ l[k].at_ then 1 else 0 := by
  unfold rdgE
  rw [List.getElem?_eq_getElem hk]
  simp only
  rw [if_neg h, List.getElem?_eq_getElem (by omega)]
structure UseE (l : List Rdg) (m E : Int) : Prop where
  a : m < 1000 ∨ 1099511627776 < m → E = 2
  b : 1000 ≤ m → m ≤ 1099511627776 → l.length = 0 → E = 1
  c : 1000 ≤ m → m ≤ 1099511627776 → 0 < l.length → 1024 < l.length → E = 3
  d : 1000 ≤ m → m ≤ 1099511627776 → 0 < l.length → l.length ≤ 1024 → E = scan (rdgE l m) l.length 0
theorem useE_re (l : List Rdg) (m : Int) : UseE l m (useE l m) := by
  constructor
  all_goals intros
  all_goals unfold useE
  · rw [if_pos (by assumption)]
  · rw [if_neg (by omega), if_pos (by assumption)]
  · rw [if_neg (by omega), if_neg (by omega), if_pos (by assumption)]
  · rw [if_neg (by omega), if_neg (by omega), if_neg (by omega)]

set_option maxRecDepth 100000 in
set_option maxHeartbeats 1000000 in
theorem valid (v : Value) (l : List Rdg) (m : Int) (w : World) (h : RdgsAt w v l) : Calls Tryz.prog 118 #[v, i m] w fun e w' => e = .returned (i (useE l m)) ∧ Below w.heap.size w w' := by
  obtain ⟨A, c, rfl, h1, h2⟩ := SliceAt.form h
  unfold maxLen at h2
  have HL := Lib.hid h
  have HE := Lib.hid (useE_re l m)
  clear h
  generalize useE l m = E at *
  by_cases hm : m < 1000 ∨ 1099511627776 < m
  · have HF := Lib.hid (HE.out.a hm)
    clear HE
    rcases hm with hm | hm
    · go_enter Tryz.func118, Tryz.ntmps118
      go_wp2_with fail
      go_ret
      exact ⟨by rw [HF.out]; rfl, Below.refl _ _⟩
    · have hm1 : ¬ m < 1000 := by omega
      go_enter Tryz.func118, Tryz.ntmps118
      go_wp2_with fail
      go_ret
      exact ⟨by rw [HF.out]; rfl, Below.refl _ _⟩
  · have hm1 : ¬ m < 1000 := by omega
    have hm2 : ¬ 1099511627776 < m := by omega
    by_cases hn : l.length = 0
    · have HF := Lib.hid (HE.out.b (by omega) (by omega) hn)
      have hnz : (l.length : Int) = 0 := by omega
      clear HE hm
      go_enter Tryz.func118, Tryz.ntmps118
      go_wp2_with fail
      go_ret
      exact ⟨by rw [HF.out]; rfl, Below.refl _ _⟩
    · have hnz : ((l.length : Int) == 0) = false := beq_eq_false_iff_ne.2 (by omega)
      by_cases hb : 1024 < l.length
      · have HF := Lib.hid (HE.out.c (by omega) (by omega) (by omega) hb)
        have hbz : (1024 : Int) < (l.length : Int) := by omega
        clear HE hm hn
        go_enter Tryz.func118, Tryz.ntmps118
        go_wp2_with fail
        go_ret
        exact ⟨by rw [HF.out]; rfl, Below.refl _ _⟩
      · have HF := Lib.hid (HE.out.d (by omega) (by omega) (by omega) (by omega))
        have hbz : ¬ (1024 : Int) < (l.length : Int) := by omega
        clear HE hm hn
        go_enter Tryz.func118, Tryz.ntmps118
        go_wp2_with fail
        go_loopg [21] l.length (fun gg s21 wr => ∃ kk : Nat, kk ≤ l.length ∧ l.length - kk ≤ gg ∧ s21 = i kk ∧ Hid (Below w.heap.size w wr) ∧ Hid (scan (rdgE l m) l.length 0 = scan (rdgE l m) l.length kk))
        case atStart => exact ⟨0, Nat.zero_le _, by omega, rfl, Below.refl _ _, rfl⟩
        case round =>
          obtain ⟨kk, hkk, hg, rfl, BW, HA⟩ := hrel
          by_cases hlt : kk < l.length
          · have hltz : (kk : Int) < (l.length : Int) := by omega
            obtain ⟨b, off, rfl, _, _, _, hrow⟩ := RdgsAt.at_ HL.out hlt
            obtain ⟨l0, l1⟩ := hrow wr (Kept.of BW.out)
            clear hrow
            by_cases hbad : l[kk].at_ < 0 ∨ 268435456 < l[kk].at_ ∨ l[kk].reg < 0 ∨ m ≤ l[kk].reg
            · have hv := rdg_bad (m := m) hlt hbad
              have HV : Hid (E = 2) := HF.out.trans (HA.out.trans ((scan_hit hlt (by rw [hv]; decide)).trans hv))
              clear hv HF HA
              generalize l[kk] = y at *
              obtain ⟨ya, yr⟩ := y
              simp only at *
              by_cases c1 : ya < 0
              · clear hbad
                go_wp2_with fail
                go_ret
                exact ⟨by rw [HV.out]; rfl, below_alloc BW.out _⟩
              · by_cases c2 : 268435456 < ya
                · clear hbad
                  go_wp2_with fail
                  go_ret
                  exact ⟨by rw [HV.out]; rfl, below_alloc BW.out _⟩
                · by_cases c3 : yr < 0
                  · clear hbad
                    go_wp2_with fail
                    go_ret
                    exact ⟨by rw [HV.out]; rfl, below_alloc BW.out _⟩
                  · have c4 : m ≤ yr := by omega
                    clear hbad
                    go_wp2_with fail
                    go_ret
                    exact ⟨by rw [HV.out]; rfl, below_alloc BW.out _⟩
            · have y1 : ¬ l[kk].at_ < 0 := by omega
              have y2 : ¬ 268435456 < l[kk].at_ := by omega
              have y3 : ¬ l[kk].reg < 0 := by omega
              have y4 : ¬ m ≤ l[kk].reg := by omega
              by_cases h0 : kk = 0
              · have hgd : decide ((0 : Int) < (kk : Int)) = false := by simp [h0]
                have hgn : decide (0 < kk) = false := by simp [h0]
                have HV := Lib.hid (show rdgE l m kk = 0 by subst h0; exact rdg_first (m := m) hlt hbad)
                clear hbad h0
                generalize l[kk] = y at *
                obtain ⟨ya, yr⟩ := y
                simp only at *
                go_wp2_with fail
                go_quiet (fail)
                go_wp2_with fail
                go_roundg (l.length - (kk + 1))
                case measure => omega
                case rel => exact ⟨kk + 1, by omega, by omega, by go_num, below_drewN' (below_alloc BW.out _) _, HA.out.trans (scan_next hlt HV.out)⟩
              · have hgd : decide ((0 : Int) < (kk : Int)) = true := by simp; omega
                have hgn : decide (0 < kk) = true := by simp; omega
                obtain ⟨j, hj⟩ : ∃ j, kk = j + 1 := ⟨kk - 1, by omega⟩
                have hjl : j < l.length := by omega
                have hjz : (kk : Int) - 1 = (j : Int) := by omega
                have hjlz : (j : Int) < (l.length : Int) := by omega
                have hjw : IntKind.i64.wrap (j : Int) = (j : Int) := IntWalk.i64_in _ (by omega)
                have hj0 : (0 : Int) ≤ (j : Int) := by omega
                have HE0 := Lib.hid (show rdgE l m kk = if l[kk].at_ ≤ l[j].at_ then 1 else 0 by subst hj; exact rdg_next (m := m) hlt hbad)
                obtain ⟨b', off', hA', _, _, _, hrow⟩ := RdgsAt.at_ HL.out hjl
                obtain ⟨rfl, rfl⟩ : b = b' ∧ off = off' := by simpa using hA'
                have p0 := fun ob => (hrow (wr.alloc ob) (Kept.of (below_alloc BW.out ob))).1
                clear hrow hbad h0 hj hA'
                generalize l[kk] = y at *
                generalize l[j] = p at *
                obtain ⟨ya, yr⟩ := y
                obtain ⟨pa, pr⟩ := p
                simp only at *
                by_cases hc : ya ≤ pa
                · have hcd : decide (ya ≤ pa) = true := by simp [hc]
                  have HV : Hid (E = 1) := HF.out.trans (HA.out.trans ((scan_hit hlt (by rw [HE0.out, if_pos hc]; decide)).trans (by rw [HE0.out, if_pos hc])))
                  clear HF HA HE0
                  go_wp2_with fail
                  go_quiet (fail)
                  go_wp2_with fail
                  go_ret
                  exact ⟨by rw [HV.out]; rfl, below_drewN' (below_alloc BW.out _) _⟩
                · have hcd : decide (ya ≤ pa) = false := by simp [hc]
                  have HV := Lib.hid (show rdgE l m kk = 0 by rw [HE0.out, if_neg hc])
                  clear HE0
                  go_wp2_with fail
                  go_quiet (fail)
                  go_wp2_with fail
                  go_roundg (l.length - (kk + 1))
                  case measure => omega
                  case rel => exact ⟨kk + 1, by omega, by omega, by go_num, below_drewN' (below_alloc BW.out _) _, HA.out.trans (scan_next hlt HV.out)⟩
          · have hltz : ¬ (kk : Int) < (l.length : Int) := by omega
            have HV : Hid (E = 0) := HF.out.trans (HA.out.trans (scan_end (by omega)))
            go_wp2_with fail
            go_ret
            exact ⟨by rw [HV.out]; rfl, BW.out⟩

set_option maxRecDepth 100000 in
set_option maxHeartbeats 1000000 in
theorem rvalid (v : Value) (l : List Rdg) (m : Int) (w : World) (h : RdgsAt w v l) : Calls Tryz.prog 105 #[v, i m] w fun e w' => e = .returned (i (useE l m)) ∧ Below w.heap.size w w' := by
  obtain ⟨A, c, rfl, h1, h2⟩ := SliceAt.form h
  unfold maxLen at h2
  have HL := Lib.hid h
  have HE := Lib.hid (useE_re l m)
  clear h
  generalize useE l m = E at *
  by_cases hm : m < 1000 ∨ 1099511627776 < m
  · have HF := Lib.hid (HE.out.a hm)
    clear HE
    rcases hm with hm | hm
    · go_enter Tryz.func105, Tryz.ntmps105
      go_wp2_with fail
      go_ret
      exact ⟨by rw [HF.out]; rfl, Below.refl _ _⟩
    · have hm1 : ¬ m < 1000 := by omega
      go_enter Tryz.func105, Tryz.ntmps105
      go_wp2_with fail
      go_ret
      exact ⟨by rw [HF.out]; rfl, Below.refl _ _⟩
  · have hm1 : ¬ m < 1000 := by omega
    have hm2 : ¬ 1099511627776 < m := by omega
    by_cases hn : l.length = 0
    · have HF := Lib.hid (HE.out.b (by omega) (by omega) hn)
      have hnz : (l.length : Int) = 0 := by omega
      clear HE hm
      go_enter Tryz.func105, Tryz.ntmps105
      go_wp2_with fail
      go_ret
      exact ⟨by rw [HF.out]; rfl, Below.refl _ _⟩
    · have hnz : ((l.length : Int) == 0) = false := beq_eq_false_iff_ne.2 (by omega)
      by_cases hb : 1024 < l.length
      · have HF := Lib.hid (HE.out.c (by omega) (by omega) (by omega) hb)
        have hbz : (1024 : Int) < (l.length : Int) := by omega
        clear HE hm hn
        go_enter Tryz.func105, Tryz.ntmps105
        go_wp2_with fail
        go_ret
        exact ⟨by rw [HF.out]; rfl, Below.refl _ _⟩
      · have HF := Lib.hid (HE.out.d (by omega) (by omega) (by omega) (by omega))
        have hbz : ¬ (1024 : Int) < (l.length : Int) := by omega
        clear HE hm hn
        go_enter Tryz.func105, Tryz.ntmps105
        go_wp2_with fail
        go_loopg [5] l.length (fun gg s5 wr => ∃ kk : Nat, kk ≤ l.length ∧ l.length - kk ≤ gg ∧ s5 = i kk ∧ Hid (Below w.heap.size w wr) ∧ Hid (scan (rdgE l m) l.length 0 = scan (rdgE l m) l.length kk))
        case atStart => exact ⟨0, Nat.zero_le _, by omega, rfl, Below.refl _ _, rfl⟩
        case round =>
          obtain ⟨kk, hkk, hg, rfl, BW, HA⟩ := hrel
          by_cases hlt : kk < l.length
          · have hltz : (kk : Int) < (l.length : Int) := by omega
            obtain ⟨b, off, rfl, _, _, _, hrow⟩ := RdgsAt.at_ HL.out hlt
            obtain ⟨l0, l1⟩ := hrow wr (Kept.of BW.out)
            clear hrow
            by_cases hbad : l[kk].at_ < 0 ∨ 268435456 < l[kk].at_ ∨ l[kk].reg < 0 ∨ m ≤ l[kk].reg
            · have hv := rdg_bad (m := m) hlt hbad
              have HV : Hid (E = 2) := HF.out.trans (HA.out.trans ((scan_hit hlt (by rw [hv]; decide)).trans hv))
              clear hv HF HA
              generalize l[kk] = y at *
              obtain ⟨ya, yr⟩ := y
              simp only at *
              by_cases c1 : ya < 0
              · clear hbad
                go_wp2_with fail
                go_ret
                exact ⟨by rw [HV.out]; rfl, BW.out⟩
              · by_cases c2 : 268435456 < ya
                · clear hbad
                  go_wp2_with fail
                  go_ret
                  exact ⟨by rw [HV.out]; rfl, BW.out⟩
                · by_cases c3 : yr < 0
                  · clear hbad
                    go_wp2_with fail
                    go_ret
                    exact ⟨by rw [HV.out]; rfl, BW.out⟩
                  · have c4 : m ≤ yr := by omega
                    clear hbad
                    go_wp2_with fail
                    go_ret
                    exact ⟨by rw [HV.out]; rfl, BW.out⟩
            · have y1 : ¬ l[kk].at_ < 0 := by omega
              have y2 : ¬ 268435456 < l[kk].at_ := by omega
              have y3 : ¬ l[kk].reg < 0 := by omega
              have y4 : ¬ m ≤ l[kk].reg := by omega
              by_cases h0 : kk = 0
              · have hgd : decide ((0 : Int) < (kk : Int)) = false := by simp [h0]
                have hgn : decide (0 < kk) = false := by simp [h0]
                have HV := Lib.hid (show rdgE l m kk = 0 by subst h0; exact rdg_first (m := m) hlt hbad)
                clear hbad h0
                generalize l[kk] = y at *
                obtain ⟨ya, yr⟩ := y
                simp only at *
                go_wp2_with fail
                go_quiet (fail)
                go_wp2_with fail
                go_roundg (l.length - (kk + 1))
                case measure => omega
                case rel => exact ⟨kk + 1, by omega, by omega, by go_num, below_drewN' (BW.out) _, HA.out.trans (scan_next hlt HV.out)⟩
              · have hgd : decide ((0 : Int) < (kk : Int)) = true := by simp; omega
                have hgn : decide (0 < kk) = true := by simp; omega
                obtain ⟨j, hj⟩ : ∃ j, kk = j + 1 := ⟨kk - 1, by omega⟩
                have hjl : j < l.length := by omega
                have hjz : (kk : Int) - 1 = (j : Int) := by omega
                have hjlz : (j : Int) < (l.length : Int) := by omega
                have hjw : IntKind.i64.wrap (j : Int) = (j : Int) := IntWalk.i64_in _ (by omega)
                have hj0 : (0 : Int) ≤ (j : Int) := by omega
                have HE0 := Lib.hid (show rdgE l m kk = if l[kk].at_ ≤ l[j].at_ then 1 else 0 by subst hj; exact rdg_next (m := m) hlt hbad)
                obtain ⟨b', off', hA', _, _, _, hrow⟩ := RdgsAt.at_ HL.out hjl
                obtain ⟨rfl, rfl⟩ : b = b' ∧ off = off' := by simpa using hA'
                obtain ⟨p0, p1⟩ := hrow wr (Kept.of BW.out)
                clear hrow p1 hbad h0 hj hA'
                generalize l[kk] = y at *
                generalize l[j] = p at *
                obtain ⟨ya, yr⟩ := y
                obtain ⟨pa, pr⟩ := p
                simp only at *
                by_cases hc : ya ≤ pa
                · have hcd : decide (ya ≤ pa) = true := by simp [hc]
                  have HV : Hid (E = 1) := HF.out.trans (HA.out.trans ((scan_hit hlt (by rw [HE0.out, if_pos hc]; decide)).trans (by rw [HE0.out, if_pos hc])))
                  clear HF HA HE0
                  go_wp2_with fail
                  go_quiet (fail)
                  go_wp2_with fail
                  go_ret
                  exact ⟨by rw [HV.out]; rfl, below_drewN' (BW.out) _⟩
                · have hcd : decide (ya ≤ pa) = false := by simp [hc]
                  have HV := Lib.hid (show rdgE l m kk = 0 by rw [HE0.out, if_neg hc])
                  clear HE0
                  go_wp2_with fail
                  go_quiet (fail)
                  go_wp2_with fail
                  go_roundg (l.length - (kk + 1))
                  case measure => omega
                  case rel => exact ⟨kk + 1, by omega, by omega, by go_num, below_drewN' (BW.out) _, HA.out.trans (scan_next hlt HV.out)⟩
          · have hltz : ¬ (kk : Int) < (l.length : Int) := by omega
            have HV : Hid (E = 0) := HF.out.trans (HA.out.trans (scan_end (by omega)))
            go_wp2_with fail
            go_ret
            exact ⟨by rw [HV.out]; rfl, BW.out⟩
end UsgW
end Go.Proofs.YtpmcdjpfolgpiaaGreatDoor
