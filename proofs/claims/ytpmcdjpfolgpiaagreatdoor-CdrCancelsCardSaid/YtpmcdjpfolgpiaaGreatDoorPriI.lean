/-
  The walk of price.Run.
-/
import Derived.Test.YtpmcdjpfolgpiaaGreatDoorPriS
import Derived.Test.YtpmcdjpfolgpiaaGreatDoorTarK
import Derived.Carry
import Derived.Laws.Tables
import Derived.Great.BuildSlice
import Derived.Deep.WholeRow
namespace Go.Proofs.YtpmcdjpfolgpiaaGreatDoor
namespace PriW
set_option linter.unusedSimpArgs false
set_option linter.unusedVariables false
open Go.RowKit CalW TarW Prc Go.Great

theorem scan_all {f : Nat → Int} {n : Nat} : ∀ (d k : Nat), n - k = d → scan f n k = 0 → ∀ j, k ≤ j → j < n → f j = 0
  | 0, k, hd, _, j, h1, h2 => by omega
  | d + 1, k, hd, h, j, h1, h2 => by
    by_cases hf : f k = 0
    · rw [scan_next (by omega) hf] at h
      rcases Nat.eq_or_lt_of_le h1 with rfl | h3
      · exact hf
      · exact scan_all d (k + 1) (by omega) h j h3 h2
    · rw [scan_hit (by omega) hf] at h
      exact absurd h hf
/-- What a valid tariff's components are. -/
def CompsOk (es : List Elem) : Prop := ∀ (j : Nat) (hj : j < es.length) (k : Int) (c : Comp), es[j].cs.find? (isK k) = some c → c.kind = k ∧ compOk c = true
theorem valid_parts {t : Trf} (h : validT t = 0) : t.els.length ≤ 16 ∧ CompsOk t.els := by
  unfold validT at h
  by_cases h1 : IdW.identOk t.id = false
  · rw [if_pos h1] at h; omega
  rw [if_neg h1] at h
  by_cases h2 : curOk t.cur = false
  · rw [if_pos h2] at h; omega
  rw [if_neg h2] at h
  by_cases h3 : headOk t = false
  · rw [if_pos h3] at h; omega
  rw [if_neg h3] at h
  by_cases h4 : (optOk t.least 0 1099511627776 && optOk t.most 0 1099511627776) = false
  · rw [if_pos h4] at h; omega
  rw [if_neg h4] at h
  by_cases h5 : t.least ≠ -1 ∧ t.most ≠ -1 ∧ t.most < t.least
  · rw [if_pos h5] at h; omega
  rw [if_neg h5] at h
  by_cases h6 : t.els.length = 0
  · rw [if_pos h6] at h; omega
  rw [if_neg h6] at h
  by_cases h7 : 16 < t.els.length
  · rw [if_pos h7] at h; omega
  rw [if_neg h7] at h
  refine ⟨by omega, fun j hj k c hc => ?_⟩
  have h8 := scan_all _ 0 rfl h j (Nat.zero_le _) hj
  rw [elE_at hj] at h8
  unfold elemE at h8
  by_cases h9 : t.els[j].cs.length = 0
  · rw [if_pos h9] at h8; omega
  rw [if_neg h9] at h8
  by_cases h10 : scan (compE t.els[j].cs) t.els[j].cs.length 0 = 0
  · have hm := List.mem_of_find?_eq_some hc
    have hk := List.find?_some hc
    unfold isK at hk
    obtain ⟨q, hq, e⟩ := List.getElem_of_mem hm
    have h11 := scan_all _ 0 rfl h10 q (Nat.zero_le _) hq
    unfold compE at h11
    rw [List.getElem?_eq_getElem hq, e] at h11
    simp only at h11
    refine ⟨by simpa using hk, ?_⟩
    by_cases h12 : compOk c = true
    · exact h12
    · rw [if_neg h12] at h11; omega
  · rw [if_neg h10] at h8; exact absurd h8 h10
theorem CompsOk.steps {es : List Elem} (h : CompsOk es) : StepsOk es := by
  intro j hj k c hc hk
  obtain ⟨h1, h2⟩ := h j hj k c hc
  unfold compOk at h2
  have := of_decide_eq_true h2
  omega

def useBad (u : Prc.Use) : Bool := decide (u.en < 0 ∨ 1099511627776 < u.en)
/-- One operation of a list, its run given. -/
theorem listRun {P : Program} {ops : Array Oper} {rest : List Oper} {o : Oper} {a : Act} {w w' : World} {Q : Exit → Act → World → Prop} (hg : o.guard = none) (v : Value)
    (hrun : (execOp a.eval o).run P w = .ok (.value v) w') (h : wpList P ops Q rest (a.put o.dst v) w') : wpList P ops Q (o :: rest) a w := by
  have hw : Region.wanted o (yielded ops a.tmps) = true := by simp [Region.wanted, hg]
  unfold wpList
  rw [if_pos hw]
  unfold Oper.wp
  rw [hrun]
  exact .inl h

def runE (t : Trf) (c : Cx) (us : List Prc.Use) : Int :=
  if validT t ≠ 0 then validT t else if c.z < -840 ∨ 840 < c.z then 1 else if 20160 < us.length then 3
  else if c.start < 0 ∨ 268435456 < c.start ∨ 268435456 < c.start + us.length then 2 else if us.any useBad then 2 else 0
def runV (t : Trf) (c : Cx) (us : List Prc.Use) : List Chg0 := if runE t c us = 0 then chgs (roundS (runTo t.els c us us.length)).q t.els 0 else []
structure RunE (V : Int) (c : Cx) (us : List Prc.Use) (E : Int) : Prop where
  ra : V ≠ 0 → E = V
  rb : V = 0 → c.z < -840 ∨ 840 < c.z → E = 1
  rc : V = 0 → -840 ≤ c.z → c.z ≤ 840 → 20160 < us.length → E = 3
  rd : V = 0 → -840 ≤ c.z → c.z ≤ 840 → us.length ≤ 20160 → c.start < 0 ∨ 268435456 < c.start ∨ 268435456 < c.start + us.length → E = 2
  re : V = 0 → -840 ≤ c.z → c.z ≤ 840 → us.length ≤ 20160 → 0 ≤ c.start → c.start + us.length ≤ 268435456 → us.any useBad = true → E = 2
  rf : V = 0 → -840 ≤ c.z → c.z ≤ 840 → us.length ≤ 20160 → 0 ≤ c.start → c.start + us.length ≤ 268435456 → us.any useBad = false → E = 0
theorem runE_re (t : Trf) (c : Cx) (us : List Prc.Use) : RunE (validT t) c us (runE t c us) := by
  constructor
  all_goals intros
  all_goals unfold runE
  · rw [if_pos (by assumption)]
  · rw [if_neg (by simp_all), if_pos (by assumption)]
  · rw [if_neg (by simp_all), if_neg (by omega), if_pos (by assumption)]
  · rw [if_neg (by simp_all), if_neg (by omega), if_neg (by omega), if_pos (by assumption)]
  · rw [if_neg (by simp_all), if_neg (by omega), if_neg (by omega), if_neg (by omega), if_pos (by assumption)]
  · rw [if_neg (by simp_all), if_neg (by omega), if_neg (by omega), if_neg (by omega), if_neg (by simp_all)]
def RunPost (t : Trf) (c : Cx) (us : List Prc.Use) (w : World) (e : Ending) (w' : World) : Prop := ∃ v, e = .returned (.tuple #[v, i (runE t c us)]) ∧ Chgs0At w' v (runV t c us) ∧ Below w.heap.size w w'
theorem RunPost.no {t : Trf} {c : Cx} {us : List Prc.Use} {w w' : World} {n : Int} (h : runE t c us = n) (hn : n ≠ 0) (hb : Below w.heap.size w w') : RunPost t c us w (.returned (.tuple #[.slice none 0 0, i n])) w' := by
  refine ⟨.slice none 0 0, by rw [h], ?_, hb⟩
  unfold runV
  rw [if_neg (by omega)]
  exact SliceAt.nil
theorem RunPost.yes {t : Trf} {c : Cx} {us : List Prc.Use} {w w' : World} {v : Value} (h : runE t c us = 0) (hv : Chgs0At w' v (chgs (roundS (runTo t.els c us us.length)).q t.els 0)) (hb : Below w.heap.size w w') : RunPost t c us w (.returned (.tuple #[v, i 0])) w' := by
  refine ⟨v, by rw [h], ?_, hb⟩
  unfold runV
  rw [if_pos h]
  exact hv
theorem any_none {us : List Prc.Use} {p : Prc.Use → Bool} {k : Nat} (hk : us.length ≤ k) (h : us.any p = (us.drop k).any p) : us.any p = false := by
  rw [h, List.drop_eq_nil_of_le hk]; rfl
theorem useAny_no {us : List Prc.Use} {k : Nat} (hk : k < us.length) (h : us.any useBad = (us.drop k).any useBad) (hp : useBad us[k] = false) : us.any useBad = (us.drop (k + 1)).any useBad := by
  rw [h, List.drop_eq_getElem_cons hk, List.any_cons, hp]
  rfl
theorem useAny_yes {us : List Prc.Use} {k : Nat} (hk : k < us.length) (hp : useBad us[k] = true) : us.any useBad = true := List.any_eq_true.2 ⟨us[k], List.getElem_mem hk, hp⟩

abbrev trA (t : Trf) (v : Value) : Array Value := #[.string t.id, .string t.cur, i t.ver, i t.fr, i t.to, v, i t.least, i t.most]

/-- A new session's cells. -/
abbrev newA (t : Trf) (u : Value) (c : Cx) (M : Nat) : Array Value := #[.string t.id, .string t.cur, i t.ver, i t.fr, i t.to, u, i t.least, i t.most, i c.z, .bool c.s, i c.start, .map (some M), i 0, i 0, i 0, .bool false, i 0, i 0, i 0, .bool false, i 0, i 0, i 0, .bool false, i 0, i 0, i 0, .bool false, i 0, i 0, i 0, .bool false]
theorem runNew (t : Trf) (u : Value) (c : Cx) (M : Nat) (W : World) : (Instr.build 165 #[(0, trfV t u), (1, zone c.z c.s), (2, i c.start), (3, .map (some M))]).run Tryz.prog W = .ok (.agg (newA t u c M)) W := run_build W _ _ _ (by kernel_rfl)
def NewR (w : World) (t : Trf) (u : Value) (c : Cx) (s13 : Value) (wc : World) : Prop := ∃ B M : Nat, s13 = .pointer (some ⟨B, 0, none⟩) ∧ SessAt wc B M t u c st0 ∧ B ≠ M ∧ w.heap.size ≤ B ∧ w.heap.size ≤ M ∧ Below w.heap.size w wc

abbrev zero67 : Array Value := #[.string ⟨#[]⟩, .string ⟨#[]⟩, i 0, i 0, i 0, .slice none 0 0, i 0, i 0, i 0, .bool false, i 0, .map none, i 0, i 0, i 0, .bool false, i 0, i 0, i 0, .bool false, i 0, i 0, i 0, .bool false, i 0, i 0, i 0, .bool false, i 0, i 0, i 0, .bool false]
theorem any_uses {us : List Prc.Use} (h : us.any useBad = false) : ∀ u ∈ us, 0 ≤ u.en ∧ u.en ≤ 1099511627776 := by
  intro u hu
  have h1 := List.any_eq_false.1 h u hu
  unfold useBad at h1
  simp at h1
  omega
theorem two_ge {B M n : Nat} (h1 : n ≤ B) (h2 : n ≤ M) : ∀ k, two B M k → n ≤ k := by
  intro k hk
  rcases hk with rfl | rfl <;> assumption
theorem round_q {es : List Elem} {T : Int} {st : St} (h : Inv es T st) (hT : T ≤ 2305843009213693952) : ∀ a b, 0 ≤ st.q a b ∧ st.q a b ≤ 2305843009213693952 := fun a b => ⟨h.low a b, Int.le_trans (h.high a b) hT⟩
theorem round_l {es : List Elem} {T : Int} {st : St} (h : Inv es T st) (hc : CompsOk es) (hl : es.length ≤ 1000) : ∀ (k : Int) (j : Nat) (s : Int), st.last k = some (j, s) → j ≤ 1000 ∧ s ≤ 1099511627776 := by
  intro k j s hl'
  obtain ⟨hj, c, h1, h2, _⟩ := h.last k j s hl'
  obtain ⟨_, h3⟩ := hc j hj k c h1
  unfold compOk at h3
  have := of_decide_eq_true h3
  omega

set_option maxRecDepth 100000 in
set_option maxHeartbeats 1500000 in
theorem run (t : Trf) (u : Value) (c : Cx) (us : List Prc.Use) (v : Value) (w : World) (ht : Tab w) (hE : ElemsAt w u t.els) (hid : t.id.size ≤ maxLen) (hcur : t.cur.size ≤ maxLen) (hU : UsesAt w v us) :
    Calls Tryz.prog 77 #[trfV t u, zone c.z c.s, i c.start, v] w (RunPost t c us w) := by
  obtain ⟨A, cp, rfl, h1, h2⟩ := SliceAt.form hU
  obtain ⟨A1, cp1, rfl, h3, h4⟩ := SliceAt.form hE
  unfold maxLen at h2 h4
  have HT := Lib.hid ht
  have HE := Lib.hid hE
  have HU := Lib.hid hU
  have HRE := Lib.hid (runE_re t c us)
  have hb0 := below_alloc (below_new w (.cells (trA t (.slice A1 t.els.length cp1)) 36)) (.cells #[i c.z, .bool c.s] 38)
  have HV := Lib.hid (valid_ t _ _ (hE.call hb0) hid hcur)
  have kt := (Blk.new w 36 (trA t (.slice A1 t.els.length cp1))).alloc (.cells #[i c.z, .bool c.s] 38)
  have kz := Blk.new' (w := w.alloc (.cells (trA t (.slice A1 t.els.length cp1)) 36)) (g := w.heap.size + 1) (by simp) 38 #[i c.z, .bool c.s]
  have HB0 := Lib.hid hb0
  have KT := Lib.hid kt
  have KZ := Lib.hid kz
  have HVP := Lib.hid (@valid_parts t)
  clear ht hE hU hb0 kt kz hid hcur
  have hmm := @run_makeMap Tryz.prog
  go_enter Tryz.func77, Tryz.ntmps77
  go_wp2_with fail
  refine HV.out.mono ?_
  rintro e w1 ⟨rfl, hb1⟩
  have HB1 := Lib.hid (below_call HB0.out hb1)
  have kt := KT.out.call hb1
  have kz := KZ.out.call hb1
  have hl1 := HB0.out.size
  have kl := kz.lt
  clear KT KZ HB0 HV hb1
  generalize validT t = V at *
  by_cases hV : V = 0
  · subst hV
    have HVP2 := Lib.hid (HVP.out rfl)
    have HRB := Lib.hid (HRE.out.rb rfl)
    have HRC := Lib.hid (HRE.out.rc rfl)
    have HRD := Lib.hid (HRE.out.rd rfl)
    have HREE := Lib.hid (HRE.out.re rfl)
    have HRF := Lib.hid (HRE.out.rf rfl)
    have zc := kz.cell
    by_cases hz : c.z < -840 ∨ 840 < c.z
    · have HF := Lib.hid (HRB.out hz)
      clear HRB HRC HRD HREE HRF
      rcases hz with hz | hz
      · go_wp2_with fail
        go_ret2
        exact RunPost.no HF.out (by decide) HB1.out
      · have hz1 : ¬ c.z < -840 := by omega
        go_wp2_with fail
        go_ret2
        exact RunPost.no HF.out (by decide) HB1.out
    · have hz1 : ¬ c.z < -840 := by omega
      have hz2 : ¬ 840 < c.z := by omega
      by_cases hn : 20160 < us.length
      · have HF := Lib.hid (HRC.out (by omega) (by omega) hn)
        have hnz : (20160 : Int) < (us.length : Int) := by omega
        clear HRB HRC HRD HREE HRF hz
        go_wp2_with fail
        go_ret2
        exact RunPost.no HF.out (by decide) HB1.out
      · have hnz : ¬ (20160 : Int) < (us.length : Int) := by omega
        by_cases hs : c.start < 0 ∨ 268435456 < c.start ∨ 268435456 < c.start + us.length
        · have HF := Lib.hid (HRD.out (by omega) (by omega) (by omega) hs)
          clear HRB HRC HRD HREE HRF hz
          rcases hs with hs | hs | hs
          · go_wp2_with fail
            go_ret2
            exact RunPost.no HF.out (by decide) HB1.out
          · have hs1 : ¬ c.start < 0 := by omega
            go_wp2_with fail
            go_ret2
            exact RunPost.no HF.out (by decide) HB1.out
          · by_cases hs1 : c.start < 0
            · exact absurd hs (by omega)
            · by_cases hs2 : 268435456 < c.start
              · go_wp2_with fail
                go_ret2
                exact RunPost.no HF.out (by decide) HB1.out
              · go_wp2_with fail
                go_ret2
                exact RunPost.no HF.out (by decide) HB1.out
        · have hs1 : ¬ c.start < 0 := by omega
          have hs2 : ¬ 268435456 < c.start := by omega
          have hs3 : ¬ 268435456 < c.start + (us.length : Int) := by omega
          have HF1 := Lib.hid (HREE.out (by omega) (by omega) (by omega) (by omega) (by omega))
          have HF0 := Lib.hid (HRF.out (by omega) (by omega) (by omega) (by omega) (by omega))
          clear HRB HRC HRD HREE HRF hz hs
          have KZ := Lib.hid kz
          have KT := Lib.hid kt
          clear kz kt
          go_wp2_with fail
          clear zc
          go_loopg [45] us.length (fun gg s45 wr => ∃ kk : Nat, kk ≤ us.length ∧ us.length - kk ≤ gg ∧ s45 = i kk ∧ Hid (Below w1.heap.size w1 wr) ∧ Hid (us.any useBad = (us.drop kk).any useBad))
          case atStart => exact ⟨0, Nat.zero_le _, by omega, rfl, Below.refl _ _, rfl⟩
          case round =>
            obtain ⟨kk, hkk, hg, rfl, BW, HA⟩ := hrel
            have BWW := Lib.hid (below_call HB1.out BW.out)
            by_cases hlt : kk < us.length
            · have hltz : (kk : Int) < (us.length : Int) := by omega
              obtain ⟨b, off, rfl, _, _, hrow⟩ := UsesAt.at_ HU.out hlt
              obtain ⟨l0, l1⟩ := hrow wr (Kept.of BWW.out)
              clear hrow
              have HNO := Lib.hid (useAny_no hlt HA.out)
              have HYES := Lib.hid (@useAny_yes us kk hlt)
              unfold useBad at HNO HYES
              generalize us[kk] = y at *
              obtain ⟨y, id⟩ := y
              simp only at *
              by_cases hy : y < 0
              · have HF := Lib.hid (HF1.out (HYES.out (decide_eq_true (.inl hy))))
                clear HNO HYES HF0 HF1
                go_wp2_with fail
                go_ret2
                exact RunPost.no HF.out (by decide) (below_alloc BWW.out _)
              · by_cases hy2 : 1099511627776 < y
                · have HF := Lib.hid (HF1.out (HYES.out (decide_eq_true (.inr hy2))))
                  clear HNO HYES HF0 HF1
                  go_wp2_with fail
                  go_ret2
                  exact RunPost.no HF.out (by decide) (below_alloc BWW.out _)
                · have HF := Lib.hid (HNO.out (decide_eq_false (by omega)))
                  clear HNO HYES
                  go_wp2_with fail
                  go_roundg (us.length - (kk + 1))
                  case measure => omega
                  case rel => exact ⟨kk + 1, by omega, by omega, by go_num, below_alloc BW.out _, HF⟩
            · have hltz : ¬ (kk : Int) < (us.length : Int) := by omega
              have HNB := Lib.hid (any_none (by omega) HA.out)
              have kt := KT.out.call BW.out
              have kz := KZ.out.call BW.out
              have tc := kt.cell
              have zc := kz.cell
              go_upto_region 16 with (fail)
              clear HF1 hmm
              have hmm := @run_makeMap Tryz.prog
              have hbn := runNew t (.slice A1 t.els.length cp1) c wr.heap.size
              have hsz := BWW.out.size
              go_cut [13] (fun s13 wc => NewR w t (.slice A1 t.els.length cp1) c s13 wc)
              case first =>
                clear hmm hbn
                refine wp_region_lit ?_
                refine listRun (w' := wr) rfl (trfV t (.slice A1 t.els.length cp1)) (by go_simp) ?_
                refine listRun (w' := wr) rfl (zone c.z c.s) (by go_simp) ?_
                refine listRun (w' := wr) rfl (i c.start) rfl ?_
                refine listRun (w' := wr.alloc (.map #[] 0)) rfl (.map (some wr.heap.size)) rfl ?_
                refine wpList_buildTo rfl 165 _ rfl (some 62) rfl (newA t (.slice A1 t.els.length cp1) c wr.heap.size) (by kernel_rfl) ?_
                refine listRun (w' := (wr.alloc (.map #[] 0)).alloc (.cells zero67 165)) rfl (.pointer (some ⟨(wr.alloc (.map #[] 0)).heap.size, 0, none⟩)) (by kernel_rfl) ?_
                refine wpList_store_rowTo rfl 165 (.tmp 13) (.tmp 62) rfl rfl (wr.alloc (.map #[] 0)).heap.size (newA t (.slice A1 t.els.length cp1) c wr.heap.size) (by kernel_rfl) (by kernel_rfl) 165 zero67 (heap_alloc_last _ _) (by kernel_rfl) (by kernel_rfl) (by kernel_rfl) ?_
                rw [World.setRow_alloc_new]
                have hm := below_new wr (.map #[] 0)
                have HR : Hid (NewR w t (.slice A1 t.els.length cp1) c (.pointer (some ⟨(wr.alloc (.map #[] 0)).heap.size, 0, none⟩)) ((wr.alloc (.map #[] 0)).alloc (.cells (newA t (.slice A1 t.els.length cp1) c wr.heap.size) 165))) := by
                  refine ⟨(wr.alloc (.map #[] 0)).heap.size, wr.heap.size, rfl, ⟨Blk.new _ _ _, #[], 0, ?_, Map2.fits_empty⟩, by simp, ?_, hsz, below_alloc (below_alloc BWW.out _) _⟩
                  · exact (Below.heap_alloc (wr.alloc (.map #[] 0)) _ wr.heap.size (by simp)).trans (heap_alloc_last wr _)
                  · have := hm.size
                    omega
                clear hm tc zc
                generalize (wr.alloc (.map #[] 0)).alloc (.cells (newA t (.slice A1 t.els.length cp1) c wr.heap.size) 165) = W9 at *
                generalize (wr.alloc (.map #[] 0)).heap.size = g9 at *
                generalize newA t (.slice A1 t.els.length cp1) c wr.heap.size = NA at *
                go_wp2_with fail
                go_meet
                exact HR.out
              case rest =>
                obtain ⟨B, M, rfl, hS, hBM, hlB, hlM, hbc⟩ := hcut
                have HUS := Lib.hid (any_uses HNB.out)
                have HCN := Lib.hid (count B M t _ c us _ w wc hS hBM HT.out hbc hlB hlM HE.out HU.out (by omega) (by omega) (by omega) HUS.out (by have := HVP2.out.1; omega))
                have HBC := Lib.hid hbc
                have HLB := Lib.hid hlB
                have HLM := Lib.hid hlM
                have HBM := Lib.hid hBM
                clear hS hbc tc zc kt kz hmm hbn hlB hlM hBM
                go_wp2_with fail
                refine HCN.out.mono ?_
                rintro e w4 ⟨rfl, hS4, hK4⟩
                have HINV := Lib.hid (runTo_inv t.els c us HUS.out us.length (Nat.le_refl _))
                have HB4 := Lib.hid (hK4.below HBC.out HBC.out.size (two_ge HLB.out HLM.out))
                have HSZ4 := Lib.hid hK4.size
                have HRD := Lib.hid (round B M t _ c _ w4 hS4 HBM.out (round_q HINV.out (by omega)) (round_l HINV.out HVP2.out.2 (by have := HVP2.out.1; omega)))
                clear hS4 hK4 HCN
                go_wp2_with fail
                refine HRD.out.mono ?_
                rintro e w5 ⟨rfl, hS5, hK5⟩
                have HB5 := Lib.hid (hK5.below HB4.out HB4.out.size (two_ge HLB.out HLM.out))
                have HCH := Lib.hid (charges B M t _ c _ w5 hS5 (HE.out.call HB5.out) (by have := HVP2.out.1; omega))
                clear hS5 hK5 HRD
                go_wp2_with fail
                refine HCH.out.mono ?_
                rintro e w6 ⟨v6, rfl, hv6, hb6⟩
                have HF := Lib.hid (HF0.out HNB.out)
                have HV6 := Lib.hid hv6
                have HB6 := Lib.hid (below_call HB5.out hb6)
                clear hv6 hb6 HCH
                go_wp2_with fail
                go_ret2
                exact RunPost.yes HF.out HV6.out HB6.out
  · have HF := Lib.hid (HRE.out.ra hV)
    clear HRE
    go_wp2_with fail
    go_ret2
    exact RunPost.no HF.out hV HB1.out
end PriW
end Go.Proofs.YtpmcdjpfolgpiaaGreatDoor
