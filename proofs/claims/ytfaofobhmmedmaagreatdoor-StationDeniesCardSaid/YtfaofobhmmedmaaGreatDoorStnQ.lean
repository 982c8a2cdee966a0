/-
  The walk of the reference's New of layer 35.
-/
import Derived.Test.YtfaofobhmmedmaaGreatDoorStnP
namespace Go.Proofs.YtfaofobhmmedmaaGreatDoor
namespace Stn
set_option linter.unusedSimpArgs false
set_option linter.unusedVariables false
open Go.RowKit Go.Great

abbrev rA (name : ByteArray) (C M T L S : Value) : Array Value := #[.string name, i 0, .bool false, i 0, i 0, i 0, C, M, T, .slice none 0 0, i 0, .slice none 0 0, .slice none 0 0, .slice none 0 0, i 0, .slice none 0 0, i 0, i 0, i 0, i 0, .slice none 0 0, .slice none 0 0, i 0, i 0, .slice none 0 0, i 0, i 0, i 0, i 0, i 0, i 0, i 0, i 0, .slice none 0 0, L, S]
abbrev rA1 (name : ByteArray) (C M T L S : Value) : Array Value := #[.string name, i 0, .bool false, i 0, i 0, i 0, C, M, T, .slice none 0 0, i 0, .slice none 0 0, .slice none 0 0, .slice none 0 0, i 64, .slice none 0 0, i 0, i 0, i 0, i 0, .slice none 0 0, .slice none 0 0, i 0, i 0, .slice none 0 0, i 0, i 0, i 0, i 0, i 0, i 0, i 0, i 0, .slice none 0 0, L, S]
abbrev rA2 (name : ByteArray) (C M T L S : Value) : Array Value := #[.string name, i 0, .bool false, i 0, i 0, i 0, C, M, T, .slice none 0 0, i 0, .slice none 0 0, .slice none 0 0, .slice none 0 0, i 64, .slice none 0 0, i 0, i 1, i 3, i 2, .slice none 0 0, .slice none 0 0, i 0, i 0, .slice none 0 0, i 0, i 0, i 0, i 0, i 0, i 0, i 0, i 0, .slice none 0 0, L, S]
abbrev rA3 (name : ByteArray) (C M T L S O : Value) : Array Value := #[.string name, i 0, .bool false, i 0, i 0, i 0, C, M, T, .slice none 0 0, i 0, .slice none 0 0, .slice none 0 0, .slice none 0 0, i 64, .slice none 0 0, i 0, i 1, i 3, i 2, .slice none 0 0, .slice none 0 0, i 0, i 0, .slice none 0 0, i 0, i 0, i 0, i 0, i 0, i 0, i 30, i 2000, O, L, S]
theorem own_row {α : Type} {R : List Value → α → Prop} {e : TypeId} {size base : Nat} {W : World} {v : Value} {xs : List α} (h : Own R e size base W v xs) : ∀ k, v.ownBlock = some k → ∃ cs fz, W.heap[k]? = some (.cells cs e fz) := by
  obtain ⟨rs, h1, h2⟩ := h
  intro k hk
  rcases h1.2 with ⟨rfl, _⟩ | ⟨g, cap, cur, rfl, _, hg, _⟩
  · simp [Value.ownBlock] at hk
  · obtain rfl : g = k := by simpa [Value.ownBlock] using hk
    exact ⟨_, _, hg⟩
theorem own_kept {α : Type} {R : List Value → α → Prop} {e e' : TypeId} {size base : Nat} {row : Option Nat} {W W' : World} {v : Value} {xs : List α} (h : Own R e size base W v xs) (hg : W.grownBy W' row) (hr : ∀ k, row = some k → ∃ cs fz, W.heap[k]? = some (.cells cs e' fz)) (hne : e ≠ e') : Own R e size base W' v xs := by
  have hrow := own_row h
  obtain ⟨rs, h1, h2⟩ := h
  refine ⟨rs, h1.kept hg ?_, h2⟩
  cases hv : v.ownBlock with
  | none => exact .inl rfl
  | some k =>
    refine .inr (fun ee => ?_)
    obtain ⟨cs, fz, h3⟩ := hrow k hv
    obtain ⟨cs', fz', h4⟩ := hr k ee.symm
    rw [h3] at h4
    cases h4
    exact hne rfl
theorem blk_kept {t e' : TypeId} {g : Nat} {row : Option Nat} {W W' : World} {cs : Array Value} (h : Blk W g t cs) (hg : W.grownBy W' row) (hr : ∀ k, row = some k → ∃ cs fz, W.heap[k]? = some (.cells cs e' fz)) (hne : t ≠ e') : Blk W' g t cs := by
  refine (hg.block g h.lt (fun e => ?_)).trans h
  obtain ⟨cs', fz', h4⟩ := hr g e.symm
  rw [show W.heap[g]? = _ from h] at h4
  cases h4
  exact hne rfl
/-- The state of the reference's New; cs: the cells of the station. -/
structure RSt (w : World) (base n : Nat) (g : Nat) (C M T L S : Value) (cl : List Cn) (ml : List Mt) (cs : Array Value) (W : World) : Prop where
  c : Own CnR 80 5 base W C cl
  m : Own MtR 82 4 base W M ml
  t : Own TxR 54 9 base W T (List.replicate n zTx)
  l : Own InR 3 1 base W L (List.replicate n 0)
  s : Own InR 3 1 base W S (List.replicate n 0)
  kg : Blk W g 43 cs
  k8 : Blk W w.heap.size 43 zA
  hb : Below w.heap.size w W
  sz : base ≤ W.heap.size
section
variable {w W W' : World} {base n g : Nat} {C M T L S : Value} {cl : List Cn} {ml : List Mt} {cs cs' : Array Value}
theorem RSt.call (h : RSt w base n g C M T L S cl ml cs W) (hb : Below W.heap.size W W') : RSt w base n g C M T L S cl ml cs W' :=
  ⟨h.c.call hb, h.m.call hb, h.t.call hb, h.l.call hb, h.s.call hb, h.kg.call hb, h.k8.call hb, below_call h.hb hb, Nat.le_trans h.sz hb.size⟩
theorem RSt.put (h : RSt w base n g C M T L S cl ml cs W) (hg : w.heap.size < g) (p : Nat) (us : List Value) (hk : Blk (putCells W g p us) g 43 cs') : RSt w base n g C M T L S cl ml cs' (putCells W g p us) := by
  have h2 := put_grown us W g p
  have hr : ∀ k, some g = some k → ∃ cs fz, W.heap[k]? = some (.cells cs 43 fz) := fun k e => by injection e with e; subst e; exact ⟨_, _, h.kg⟩
  refine ⟨own_kept h.c h2 hr (by decide), own_kept h.m h2 hr (by decide), own_kept h.t h2 hr (by decide), own_kept h.l h2 hr (by decide), own_kept h.s h2 hr (by decide), hk, (h2.block _ h.k8.lt (fun e => ?_)).trans h.k8, h.hb.grown h2 h.hb.size (fun k hk => ?_), Nat.le_trans h.sz h2.size⟩
  · injection e with e; omega
  · injection hk with hk; omega
theorem RSt.growM {M' : Value} {ml' : List Mt} (h : RSt w base n g C M T L S cl ml cs W) (hB : w.heap.size ≤ base) (ho : Own MtR 82 4 base W' M' ml') (hg : W.grownBy W' M.ownBlock) (hb : Below base W W') : RSt w base n g C M' T L S cl ml' cs W' := by
  have hr := own_row h.m
  exact ⟨own_kept h.c hg hr (by decide), ho, own_kept h.t hg hr (by decide), own_kept h.l hg hr (by decide), own_kept h.s hg hr (by decide), blk_kept h.kg hg hr (by decide), blk_kept h.k8 hg hr (by decide), h.hb.trans (hb.mono hB), Nat.le_trans h.sz hb.size⟩
theorem RSt.growC {C' : Value} {cl' : List Cn} (h : RSt w base n g C M T L S cl ml cs W) (hB : w.heap.size ≤ base) (ho : Own CnR 80 5 base W' C' cl') (hg : W.grownBy W' C.ownBlock) (hb : Below base W W') : RSt w base n g C' M T L S cl' ml cs W' := by
  have hr := own_row h.c
  exact ⟨ho, own_kept h.m hg hr (by decide), own_kept h.t hg hr (by decide), own_kept h.l hg hr (by decide), own_kept h.s hg hr (by decide), blk_kept h.kg hg hr (by decide), blk_kept h.k8 hg hr (by decide), h.hb.trans (hb.mono hB), Nat.le_trans h.sz hb.size⟩
theorem blkR7 {name : ByteArray} {M' : Value} (h : Blk W g 43 (rA name C M T L S)) : Blk (putCells W g 7 [M']) g 43 (rA name C M' T L S) := by
  have h1 := h.set_ 7 M'
  have e : putCells W g 7 [M'] = W.setCell ⟨g, 7, none⟩ M' := rfl
  rw [e]
  simpa using h1
theorem blkR6 {name : ByteArray} {C' : Value} (h : Blk W g 43 (rA name C M T L S)) : Blk (putCells W g 6 [C']) g 43 (rA name C' M T L S) := by
  have h1 := h.set_ 6 C'
  have e : putCells W g 6 [C'] = W.setCell ⟨g, 6, none⟩ C' := rfl
  rw [e]
  simpa using h1
theorem blkR1 {name : ByteArray} (h : Blk W g 43 (rA name C M T L S)) : Blk (putCells W g 14 [i 64, .slice none 0 0, i 0]) g 43 (rA1 name C M T L S) := by
  have h1 := ((h.set_ 14 (i 64)).set_ 15 (.slice none 0 0)).set_ 16 (i 0)
  have e : putCells W g 14 [i 64, .slice none 0 0, i 0] = ((W.setCell ⟨g, 14, none⟩ (i 64)).setCell ⟨g, 15, none⟩ (.slice none 0 0)).setCell ⟨g, 16, none⟩ (i 0) := rfl
  rw [e]
  simpa using h1
theorem blkR2 {name : ByteArray} (h : Blk W g 43 (rA1 name C M T L S)) : Blk (putCells W g 17 [i 1, i 3, i 2, .slice none 0 0, .slice none 0 0, i 0, i 0, .slice none 0 0]) g 43 (rA2 name C M T L S) := by
  have h1 := (((((((h.set_ 17 (i 1)).set_ 18 (i 3)).set_ 19 (i 2)).set_ 20 (.slice none 0 0)).set_ 21 (.slice none 0 0)).set_ 22 (i 0)).set_ 23 (i 0)).set_ 24 (.slice none 0 0)
  have e : putCells W g 17 [i 1, i 3, i 2, .slice none 0 0, .slice none 0 0, i 0, i 0, .slice none 0 0] = (((((((W.setCell ⟨g, 17, none⟩ (i 1)).setCell ⟨g, 18, none⟩ (i 3)).setCell ⟨g, 19, none⟩ (i 2)).setCell ⟨g, 20, none⟩ (.slice none 0 0)).setCell ⟨g, 21, none⟩ (.slice none 0 0)).setCell ⟨g, 22, none⟩ (i 0)).setCell ⟨g, 23, none⟩ (i 0)).setCell ⟨g, 24, none⟩ (.slice none 0 0) := rfl
  rw [e]
  simpa using h1
theorem blkR3 {name : ByteArray} {O : Value} (h : Blk W g 43 (rA2 name C M T L S)) : Blk (putCells W g 30 [i 0, i 30, i 2000, O]) g 43 (rA3 name C M T L S O) := by
  have h1 := (((h.set_ 30 (i 0)).set_ 31 (i 30)).set_ 32 (i 2000)).set_ 33 O
  have e : putCells W g 30 [i 0, i 30, i 2000, O] = (((W.setCell ⟨g, 30, none⟩ (i 0)).setCell ⟨g, 31, none⟩ (i 30)).setCell ⟨g, 32, none⟩ (i 2000)).setCell ⟨g, 33, none⟩ O := rfl
  rw [e]
  simpa using h1
theorem one_mt (r : List Value) (x : Mt) (h : MtR r x) : ∀ u ∈ r, u.oneCell' = true := by
  have e : r = (mtA x).toList := h
  subst e
  intro u hu
  simp at hu
  rcases hu with rfl | rfl | rfl | rfl <;> rfl
theorem one_cn (r : List Value) (x : Cn) (h : CnR r x) : ∀ u ∈ r, u.oneCell' = true := by
  have e : r = (cnA x).toList := h
  subst e
  intro u hu
  simp at hu
  rcases hu with rfl | rfl | rfl | rfl | rfl <;> rfl
end
def mT (m : Int) (gs : List Int) (k : Nat) : List Mt := (gs.take k).map (fun x => ⟨0, m, 0, x⟩)
def rΦ (base n : Nat) (name : ByteArray) (k : Nat) (v : Value) (W : World) : Prop := match k with
  | 0 => v = .string name
  | 1 => v = i (n : Int)
  | 2 => MadeAt TxR 54 9 base n zTx W v
  | 3 => v = i (n : Int)
  | 4 => MadeAt InR 3 1 base n (0 : Int) W v
  | 5 => v = i (n : Int)
  | 6 => MadeAt InR 3 1 base n (0 : Int) W v
  | 7 => ∃ gt gl gs, v = .agg (rA name (.slice none 0 0) (.slice none 0 0) (.slice (some ⟨gt, 0, none⟩) n n) (.slice (some ⟨gl, 0, none⟩) n n) (.slice (some ⟨gs, 0, none⟩) n n)) ∧ Own TxR 54 9 base W (.slice (some ⟨gt, 0, none⟩) n n) (List.replicate n zTx) ∧ Own InR 3 1 base W (.slice (some ⟨gl, 0, none⟩) n n) (List.replicate n 0) ∧ Own InR 3 1 base W (.slice (some ⟨gs, 0, none⟩) n n) (List.replicate n 0)
  | 8 => ∃ g, v = .pointer (some ⟨g, 0, none⟩) ∧ base ≤ g ∧ Blk W g 43 zA
  | _ => True
theorem rΦ_keep {base n : Nat} {name : ByteArray} {W W' : World} (hb : Below W.heap.size W W') : ∀ k v, rΦ base n name k v W → rΦ base n name k v W' := by
  intro k v h
  unfold rΦ at *
  split at h
  · exact h
  · exact h
  · exact MadeAt.call h hb
  · exact h
  · exact MadeAt.call h hb
  · exact h
  · exact MadeAt.call h hb
  · obtain ⟨a, b, c, h1, h2, h3, h4⟩ := h
    exact ⟨a, b, c, h1, h2.call hb, h3.call hb, h4.call hb⟩
  · obtain ⟨g, h1, h2, h3⟩ := h
    exact ⟨g, h1, h2, h3.call hb⟩
  · trivial

def R7 (w : World) (base n : Nat) (name : ByteArray) (v : Value) (W : World) : Prop :=
  ∃ g gt gl gsh, v = .pointer (some ⟨g, 0, none⟩) ∧ base ≤ g ∧ RSt w base n g (.slice none 0 0) (.slice none 0 0) (.slice (some ⟨gt, 0, none⟩) n n) (.slice (some ⟨gl, 0, none⟩) n n) (.slice (some ⟨gsh, 0, none⟩) n n) [] [] (rA name (.slice none 0 0) (.slice none 0 0) (.slice (some ⟨gt, 0, none⟩) n n) (.slice (some ⟨gl, 0, none⟩) n n) (.slice (some ⟨gsh, 0, none⟩) n n)) W
theorem hsz' {B : Nat} {w w' : World} (h : Below B w w') (hB : B = w.heap.size := by rfl) : B ≤ w'.heap.size := by subst hB; exact h.size

set_option maxRecDepth 100000 in
set_option maxHeartbeats 4000000 in
theorem rstationNew (name : ByteArray) (conns m : Int) (A : Option Addr) (n' k : Nat) (gs : List Int) (w : World) (hg : IntsAt w (.slice A n' k) gs) (hs : name.size ≤ maxLen) :
    Calls Tryz.prog 8 #[.string name, i conns, i m, .slice A n' k] w (NPost (newR name conns m gs) w) := by
  obtain ⟨iC, hCi, hCz, hCs, hCb⟩ := info_parts infoC
  obtain ⟨iM, hMi, hMz, hMs, hMb⟩ := info_parts infoM
  obtain ⟨iT, hTi, hTz, hTs, hTb⟩ := info_parts infoT
  obtain ⟨iI, hIi, hIz, hIs, hIb⟩ := info_parts infoI
  obtain ⟨hn', hnk, hkm⟩ := SliceAt.len hg
  subst hn'
  obtain ⟨Ra, Rb, Rc, Rd, Re⟩ := newC name conns m gs
  have HB := Lib.hid (below_new w (.cells zA 43))
  have HK := Lib.hid (Blk.new w 43 zA)
  have HN := Lib.hid (IdW.rvalid name (w.alloc (.cells zA 43)) hs)
  have HGC : Hid (∀ W, Below w.heap.size w W → IntsAt W (.slice A gs.length k) gs) := fun W hb => hg.call hb
  unfold maxLen at hs
  clear hg
  generalize newR name conns m gs = R at *
  have RA := Lib.hid Ra
  have RB := Lib.hid Rb
  have RC := Lib.hid Rc
  have RD := Lib.hid Rd
  have RE := Lib.hid Re
  clear Ra Rb Rc Rd Re
  go_enter Tryz.func8, Tryz.ntmps8
  go_upto_region 1 with (refine wpList_allocSt rfl rfl ?_)
  generalize w.alloc (.cells zA 43) = w0 at *
  go_wp2_with fail
  refine HN.out.mono ?_
  rintro e w1 ⟨rfl, mm, hm⟩
  have hb : Below w0.heap.size w0 w1 := by rw [hm]; exact below_drewN' (Below.refl _ _) _
  clear hm
  have HB1 := Lib.hid (below_call HB.out hb)
  have HK1 := Lib.hid (HK.out.call hb)
  clear hb HB HK HN
  cases hid : IdW.identOk name
  case false =>
    rw [hid] at RA
    have HV := Lib.hid (RA.out rfl)
    clear RA RB RC RD RE
    go_wp2_with (first
      | (refine wpList_buildTo rfl 43 #[] rfl (some 23) rfl zA (by kernel_rfl) ?_)
      | (refine wpList_store_rowTo rfl 43 (.tmp 8) (.tmp 23) rfl rfl w.heap.size zA (by kernel_rfl) (by kernel_rfl) 43 zA HK1.out (by kernel_rfl) (by kernel_rfl) (by kernel_rfl) ?_))
    refine bodyPost_ret (results_cell2 rfl _ _ w.heap.size 43 _ (0, 0) _ rfl (row_blk zA HK1.out) Tryz.underlying43 rfl (by kernel_rfl)) rfl ?_
    exact NPost.no HV.out (row_below _ HB1.out (Nat.le_refl _))
  rw [hid] at RA RB RC RD RE
  by_cases hl : 20 < name.size
  · have hlz : (20 : Int) < (name.size : Int) := by omega
    have HV := Lib.hid (RA.out (by rw [decide_eq_false (by omega)]; rfl))
    clear RA RB RC RD RE
    go_wp2_with (first
      | (refine wpList_buildTo rfl 43 #[] rfl (some 23) rfl zA (by kernel_rfl) ?_)
      | (refine wpList_store_rowTo rfl 43 (.tmp 8) (.tmp 23) rfl rfl w.heap.size zA (by kernel_rfl) (by kernel_rfl) 43 zA HK1.out (by kernel_rfl) (by kernel_rfl) (by kernel_rfl) ?_))
    refine bodyPost_ret (results_cell2 rfl _ _ w.heap.size 43 _ (0, 0) _ rfl (row_blk zA HK1.out) Tryz.underlying43 rfl (by kernel_rfl)) rfl ?_
    exact NPost.no HV.out (row_below _ HB1.out (Nat.le_refl _))
  have hlz : ¬ (20 : Int) < (name.size : Int) := by omega
  have hd20 : (true && decide (name.size ≤ 20)) = true := by rw [decide_eq_true (by omega)]; rfl
  replace RB := Lib.hid (RB.out hd20)
  replace RC := Lib.hid (RC.out hd20)
  replace RD := Lib.hid (RD.out hd20)
  replace RE := Lib.hid (RE.out hd20)
  clear RA hd20 hl hid
  by_cases c1 : conns < 1
  · have HV := Lib.hid (RB.out (.inl c1))
    clear RB RC RD RE
    go_wp2_with (first
      | (refine wpList_buildTo rfl 43 #[] rfl (some 30) rfl zA (by kernel_rfl) ?_)
      | (refine wpList_store_rowTo rfl 43 (.tmp 8) (.tmp 30) rfl rfl w.heap.size zA (by kernel_rfl) (by kernel_rfl) 43 zA HK1.out (by kernel_rfl) (by kernel_rfl) (by kernel_rfl) ?_))
    refine bodyPost_ret (results_cell2 rfl _ _ w.heap.size 43 _ (0, 0) _ rfl (row_blk zA HK1.out) Tryz.underlying43 rfl (by kernel_rfl)) rfl ?_
    exact NPost.no HV.out (row_below _ HB1.out (Nat.le_refl _))
  by_cases c2 : 8 < conns
  · have HV := Lib.hid (RB.out (.inr c2))
    clear RB RC RD RE
    go_wp2_with (first
      | (refine wpList_buildTo rfl 43 #[] rfl (some 30) rfl zA (by kernel_rfl) ?_)
      | (refine wpList_store_rowTo rfl 43 (.tmp 8) (.tmp 30) rfl rfl w.heap.size zA (by kernel_rfl) (by kernel_rfl) 43 zA HK1.out (by kernel_rfl) (by kernel_rfl) (by kernel_rfl) ?_))
    refine bodyPost_ret (results_cell2 rfl _ _ w.heap.size 43 _ (0, 0) _ rfl (row_blk zA HK1.out) Tryz.underlying43 rfl (by kernel_rfl)) rfl ?_
    exact NPost.no HV.out (row_below _ HB1.out (Nat.le_refl _))
  replace RC := Lib.hid (RC.out (by omega))
  replace RD := Lib.hid (RD.out (by omega))
  replace RE := Lib.hid (RE.out (by omega))
  clear RB
  by_cases c3 : (gs.length : Int) = conns
  case neg =>
    have c3z : ((gs.length : Int) != conns) = true := by simpa using c3
    have HV := Lib.hid (RC.out c3)
    clear RC RD RE
    go_wp2_with (first
      | (refine wpList_buildTo rfl 43 #[] rfl (some 35) rfl zA (by kernel_rfl) ?_)
      | (refine wpList_store_rowTo rfl 43 (.tmp 8) (.tmp 35) rfl rfl w.heap.size zA (by kernel_rfl) (by kernel_rfl) 43 zA HK1.out (by kernel_rfl) (by kernel_rfl) (by kernel_rfl) ?_))
    refine bodyPost_ret (results_cell2 rfl _ _ w.heap.size 43 _ (0, 0) _ rfl (row_blk zA HK1.out) Tryz.underlying43 rfl (by kernel_rfl)) rfl ?_
    exact NPost.no HV.out (row_below _ HB1.out (Nat.le_refl _))
  replace RD := Lib.hid (RD.out c3)
  replace RE := Lib.hid (RE.out c3)
  clear RC
  subst c3
  have hn1 : 1 ≤ gs.length := by omega
  have hn8 : gs.length ≤ 8 := by omega
  generalize hn : gs.length = n at *
  go_upto_region 7 with (fail)
  go_cut [10] (fun s10 wd => Hid (R7 w w1.heap.size n name s10 wd))
  case first =>
    refine Reg4.region 9 (fun W => Below w1.heap.size w1 W) (rΦ w1.heap.size n name) (by kernel_rfl) (by kernel_rfl) ?_ (Below.drew (Below.refl _ _)) ?_ ?_
    · exact Reg4.in_of (n := 89) (by kernel_rfl) rfl
    · intro idx o hj0 ho a' w' hG hop
      have hj' : idx = 0 ∨ idx = 1 ∨ idx = 2 ∨ idx = 3 ∨ idx = 4 ∨ idx = 5 ∨ idx = 6 ∨ idx = 7 ∨ idx = 8 := by omega
      have hsz := hG.size
      rcases hj' with rfl | rfl | rfl | rfl | rfl | rfl | rfl | rfl | rfl
      all_goals
        obtain rfl := Option.some.inj ho
        clear ho hj0
      · skip
        have h0 : a'.tmps[0]?.getD undef = .string name := (Array.getD_eq_getD_getElem? ..).symm.trans (hop 0 (by simp [Op.operands, Call.operands]))
        refine Reg4.StepOk.mono (R := fun v W => v = .string name ∧ W = w') ?_ (fun v W h => ?_)
        · go_simp
          all_goals (try exact ⟨rfl, rfl⟩)
        · obtain ⟨rfl, rfl⟩ := h
          exact ⟨hG, rfl, fun k u _ _ _ h => h⟩
      · skip
        have h1 : a'.tmps[1]?.getD undef = i (n : Int) := (Array.getD_eq_getD_getElem? ..).symm.trans (hop 1 (by simp [Op.operands, Call.operands]))
        refine Reg4.StepOk.mono (R := fun v W => v = i (n : Int) ∧ W = w') ?_ (fun v W h => ?_)
        · go_simp
          all_goals (try exact ⟨rfl, rfl⟩)
        · obtain ⟨rfl, rfl⟩ := h
          exact ⟨hG, rfl, fun k u _ _ _ h => h⟩
      · skip
        have h37 : a'.tmps[37]?.getD undef = i (n : Int) := (Array.getD_eq_getD_getElem? ..).symm.trans (hop 37 (by simp [Op.operands, Call.operands]))
        obtain ⟨w5, hrun, r1, r2⟩ := run_make_full (P := Tryz.prog) w' w1.heap.size 26 54 iT _ 9 Tryz.underlying26 hTi hTz hTs .i64 .i64 n (by rw [hTb]; omega) (by unfold maxLen; omega) hsz
        refine Reg4.StepOk.mono (R := fun v W => v = .slice (some ⟨w'.heap.size, 0, none⟩) n n ∧ W = w5) ?_ (fun v W h => ?_)
        · go_simp
          all_goals (try exact ⟨rfl, rfl⟩)
        · obtain ⟨rfl, rfl⟩ := h
          exact ⟨hG.trans (below_none' hsz r2), ⟨_, rfl, own_made (z := .agg #[.string ⟨#[]⟩, i 0, .string ⟨#[]⟩, .string ⟨#[]⟩, i 0, i 0, .bool false, i 0, i 0]) (x := zTx) (by omega) rfl rfl r1⟩, fun k u _ _ _ h => rΦ_keep (below_none r2) k u h⟩
      · skip
        have h1 : a'.tmps[1]?.getD undef = i (n : Int) := (Array.getD_eq_getD_getElem? ..).symm.trans (hop 1 (by simp [Op.operands, Call.operands]))
        refine Reg4.StepOk.mono (R := fun v W => v = i (n : Int) ∧ W = w') ?_ (fun v W h => ?_)
        · go_simp
          all_goals (try exact ⟨rfl, rfl⟩)
        · obtain ⟨rfl, rfl⟩ := h
          exact ⟨hG, rfl, fun k u _ _ _ h => h⟩
      · skip
        have h39 : a'.tmps[39]?.getD undef = i (n : Int) := (Array.getD_eq_getD_getElem? ..).symm.trans (hop 39 (by simp [Op.operands, Call.operands]))
        obtain ⟨w5, hrun, r1, r2⟩ := run_make_full (P := Tryz.prog) w' w1.heap.size 22 3 iI _ 1 Tryz.underlying22 hIi hIz hIs .i64 .i64 n (by rw [hIb]; omega) (by unfold maxLen; omega) hsz
        refine Reg4.StepOk.mono (R := fun v W => v = .slice (some ⟨w'.heap.size, 0, none⟩) n n ∧ W = w5) ?_ (fun v W h => ?_)
        · go_simp
          all_goals (try exact ⟨rfl, rfl⟩)
        · obtain ⟨rfl, rfl⟩ := h
          exact ⟨hG.trans (below_none' hsz r2), ⟨_, rfl, own_made (z := .int .i64 0) (x := (0 : Int)) (by omega) rfl rfl r1⟩, fun k u _ _ _ h => rΦ_keep (below_none r2) k u h⟩
      · skip
        have h1 : a'.tmps[1]?.getD undef = i (n : Int) := (Array.getD_eq_getD_getElem? ..).symm.trans (hop 1 (by simp [Op.operands, Call.operands]))
        refine Reg4.StepOk.mono (R := fun v W => v = i (n : Int) ∧ W = w') ?_ (fun v W h => ?_)
        · go_simp
          all_goals (try exact ⟨rfl, rfl⟩)
        · obtain ⟨rfl, rfl⟩ := h
          exact ⟨hG, rfl, fun k u _ _ _ h => h⟩
      · skip
        have h41 : a'.tmps[41]?.getD undef = i (n : Int) := (Array.getD_eq_getD_getElem? ..).symm.trans (hop 41 (by simp [Op.operands, Call.operands]))
        obtain ⟨w5, hrun, r1, r2⟩ := run_make_full (P := Tryz.prog) w' w1.heap.size 22 3 iI _ 1 Tryz.underlying22 hIi hIz hIs .i64 .i64 n (by rw [hIb]; omega) (by unfold maxLen; omega) hsz
        refine Reg4.StepOk.mono (R := fun v W => v = .slice (some ⟨w'.heap.size, 0, none⟩) n n ∧ W = w5) ?_ (fun v W h => ?_)
        · go_simp
          all_goals (try exact ⟨rfl, rfl⟩)
        · obtain ⟨rfl, rfl⟩ := h
          exact ⟨hG.trans (below_none' hsz r2), ⟨_, rfl, own_made (z := .int .i64 0) (x := (0 : Int)) (by omega) rfl rfl r1⟩, fun k u _ _ _ h => rΦ_keep (below_none r2) k u h⟩
      · skip
        have h36 : a'.eval (.tmp 36) = .string name := hop 36 (by simp [Op.operands, Call.operands])
        obtain ⟨g38, h38, o38⟩ : MadeAt TxR 54 9 w1.heap.size n zTx w' (a'.eval (.tmp 38)) := hop 38 (by simp [Op.operands, Call.operands])
        rw [h38] at o38
        obtain ⟨g40, h40, o40⟩ : MadeAt InR 3 1 w1.heap.size n (0 : Int) w' (a'.eval (.tmp 40)) := hop 40 (by simp [Op.operands, Call.operands])
        rw [h40] at o40
        obtain ⟨g42, h42, o42⟩ : MadeAt InR 3 1 w1.heap.size n (0 : Int) w' (a'.eval (.tmp 42)) := hop 42 (by simp [Op.operands, Call.operands])
        rw [h42] at o42
        refine step_build rfl (rA name (.slice none 0 0) (.slice none 0 0) (.slice (some ⟨g38, 0, none⟩) n n) (.slice (some ⟨g40, 0, none⟩) n n) (.slice (some ⟨g42, 0, none⟩) n n)) (by simp [h36, h38, h40, h42]; kernel_rfl) ⟨hG, ⟨_, _, _, rfl, o38, o40, o42⟩, fun k u _ _ _ h => h⟩
      · skip
        exact step_run (v := .pointer (some ⟨w'.heap.size, 0, none⟩)) (w := w'.alloc (.cells zA 43)) (by kernel_rfl) ⟨hG.alloc hsz _, ⟨_, rfl, hsz, Blk.new w' _ _⟩, fun k u _ _ _ h => rΦ_keep (below_new w' _) k u h⟩
    · intro vals w' hG hΦ
      obtain ⟨gt, gl, gs', h11, ot, ol, os⟩ : ∃ gt gl gs, vals 7 = .agg (rA name (.slice none 0 0) (.slice none 0 0) (.slice (some ⟨gt, 0, none⟩) n n) (.slice (some ⟨gl, 0, none⟩) n n) (.slice (some ⟨gs, 0, none⟩) n n)) ∧ Own TxR 54 9 w1.heap.size w' (.slice (some ⟨gt, 0, none⟩) n n) (List.replicate n zTx) ∧ Own InR 3 1 w1.heap.size w' (.slice (some ⟨gl, 0, none⟩) n n) (List.replicate n 0) ∧ Own InR 3 1 w1.heap.size w' (.slice (some ⟨gs, 0, none⟩) n n) (List.replicate n 0) := hΦ 7 (by omega)
      obtain ⟨g, h12, hgg, hkg⟩ : ∃ g, vals 8 = .pointer (some ⟨g, 0, none⟩) ∧ w1.heap.size ≤ g ∧ Blk w' g 43 zA := hΦ 8 (by omega)
      have hrw := row_grown w' g (rA name (.slice none 0 0) (.slice none 0 0) (.slice (some ⟨gt, 0, none⟩) n n) (.slice (some ⟨gl, 0, none⟩) n n) (.slice (some ⟨gs', 0, none⟩) n n))
      have hk8 := HK1.out.call hG
      have hlt8 := HK1.out.lt
      have hN : Hid (∃ g gt gl gsh, Value.pointer (some ⟨g, 0, none⟩) = .pointer (some ⟨g, 0, none⟩) ∧ w1.heap.size ≤ g ∧ True) := ⟨g, gt, gl, gs', rfl, hgg, trivial⟩
      have hR : Hid (R7 w w1.heap.size n name (.pointer (some ⟨g, 0, none⟩)) (w'.setRow g (rA name (.slice none 0 0) (.slice none 0 0) (.slice (some ⟨gt, 0, none⟩) n n) (.slice (some ⟨gl, 0, none⟩) n n) (.slice (some ⟨gs', 0, none⟩) n n)))) := ⟨g, gt, gl, gs', rfl, hgg, Own.nil, Own.nil, own_key (by decide) hkg hrw ot, own_key (by decide) hkg hrw ol, own_key (by decide) hkg hrw os, row_blk _ hkg, row_other _ hk8 (by omega), row_below _ (below_call HB1.out hG) (by omega), by rw [setRow_size]; exact hsz' hG⟩
      have HKG := Lib.hid hkg
      simp only [Reg4.puts, Reg4.dstOf, List.range, List.range.loop, if_true, List.drop_succ_cons, List.drop_zero, h11, h12]
      clear hΦ hG h11 h12 ot ol os hkg hgg hrw hk8 hlt8 hN
      generalize vals 0 = z0, vals 1 = z1, vals 2 = z2, vals 3 = z3, vals 4 = z4, vals 5 = z5, vals 6 = z6
      simp [Act.put]
      refine wpList_store_rowTo rfl 43 (.tmp 10) (.tmp 43) rfl rfl g (rA name (.slice none 0 0) (.slice none 0 0) (.slice (some ⟨gt, 0, none⟩) n n) (.slice (some ⟨gl, 0, none⟩) n n) (.slice (some ⟨gs', 0, none⟩) n n)) (by kernel_rfl) (by kernel_rfl) 43 zA HKG.out (by kernel_rfl) (by kernel_rfl) (by kernel_rfl) ?_
      go_wp2_with fail
      go_meet
      exact hR.out
  case rest =>
  obtain ⟨g, gt, gl, gsh, rfl, hgg, h5⟩ := hcut.out
  have hBB := Nat.le_of_lt HK1.out.lt
  have hBL := HK1.out.lt
  have HN0 := Lib.hid h5
  clear hcut h5 HB1 HK1
  have HBB := Lib.hid hBB
  have HLG : Hid (w.heap.size < g) := by show _ < _; omega
  clear hgg hBB hBL
  generalize w1.heap.size = gB at *
  generalize wc = wd at *
  obtain ⟨T, hT⟩ : ∃ T, Value.slice (some ⟨gt, 0, none⟩) n n = T := ⟨_, rfl⟩
  obtain ⟨L, hL⟩ : ∃ T, Value.slice (some ⟨gl, 0, none⟩) n n = T := ⟨_, rfl⟩
  obtain ⟨S, hS⟩ : ∃ T, Value.slice (some ⟨gsh, 0, none⟩) n n = T := ⟨_, rfl⟩
  rw [hT, hL, hS] at HN0
  have HTF := Lib.hid hT
  have HLF := Lib.hid hL
  have HSF := Lib.hid hS
  clear hT hL hS
  go_wp2_with fail
  go_loopg [46] n (fun gg s46 wr => ∃ (kk : Nat) (AC : Option Addr) (nC cC : Nat) (AM : Option Addr) (nM cM : Nat), kk ≤ n ∧ n - kk ≤ gg ∧ s46 = i kk ∧ Hid (RSt w gB n g (.slice AC nC cC) (.slice AM nM cM) T L S (List.replicate kk av) (mT m gs kk) (rA name (.slice AC nC cC) (.slice AM nM cM) T L S) wr) ∧ Hid (∀ x, x ∈ gs.take kk → mtE ⟨0, m, 0, x⟩ = 0))
  case atStart => exact ⟨0, _, _, _, _, _, _, Nat.zero_le _, by omega, rfl, HN0.out, fun x hx => by simp at hx⟩
  case round =>
    obtain ⟨kk, AC, nC, cC, AM, nM, cM, hkk, hg, rfl, HS, HA⟩ := hrel
    by_cases hlt : kk < n
    · have hltz : (kk : Int) < (n : Int) := by omega
      have hk0 : (0 : Int) ≤ (kk : Int) := by omega
      have hltg : kk < gs.length := by omega
      have HTK := Lib.hid (List.take_succ_eq_append_getElem hltg)
      have HIN := Lib.hid (List.getElem_mem hltg)
      obtain ⟨gb, go, rfl, hgrow⟩ := IntsAt.at_ (HGC.out w (Below.refl _ _)) hltg
      have ky := hgrow wr (Kept.of HS.out.hb)
      clear hgrow
      generalize gs[kk] = y at *
      have HSB := Lib.hid (HS.out.call (below_new wr (.cells #[i 0, i m, i 0, i y] 82)))
      have HKB := Lib.hid (Blk.new wr 82 #[i 0, i m, i 0, i y])
      have HMV := Lib.hid (rmeterValid ⟨0, m, 0, y⟩ (wr.alloc (.cells #[i 0, i m, i 0, i y] 82)))
      go_wp2_with fail
      refine HMV.out.mono ?_
      rintro e wh ⟨rfl, hbw⟩
      have HS3 := Lib.hid (HSB.out.call hbw)
      have HKB3 := Lib.hid (HKB.out.call hbw)
      clear hbw ky HMV HSB HKB HS
      generalize wr.heap.size = gb2 at *
      rcases mtE_01 ⟨0, m, 0, y⟩ with ⟨he0, -⟩ | ⟨he1, -⟩
      · rw [he0]
        have HE0 := Lib.hid he0
        clear he0
        go_upto_region 15 with (fail)
        go_cut [] (fun wd => Hid (∃ AM nM cM, RSt w gB n g (.slice AC nC cC) (.slice AM nM cM) T L S (List.replicate kk av) (mT m gs (kk + 1)) (rA name (.slice AC nC cC) (.slice AM nM cM) T L S) wd))
        case first =>
          have k7 : wh.cell? ⟨g, 7, none⟩ = some (.slice AM nM cM) := HS3.out.kg.cell 7
          have kb := HKB3.out.cell
          have HS4 := Lib.hid (HS3.out.call (below_new wh (.cells #[i 0, i m, i 0, i y] 82)))
          have HRR : Hid (MtR (#[i 0, i m, i 0, i y] : Array Value).toList ⟨0, m, 0, y⟩) := rfl
          have hll : (mT m gs kk).length ≤ 16777216 := by unfold mT; rw [List.length_map, List.length_take]; omega
          go_wp2_with (at_builtin; refine wpList_grow rfl (.tmp 60) (.tmp 62) 25 rfl iM _ 32 Tryz.underlying25 hMi hMz hMs hMb rfl (by omega) rfl HS4.out.m wh.heap.size ⟨0, m, 0, y⟩ _ 82 rfl (Blk.new wh _ _) rfl HRR.out (one_mt _ _ HRR.out) hll (by omega) HS4.out.sz ?_)
          rintro v' w5 hown hgr hbel ⟨A5, n5, c5, rfl⟩
          have HS5 := Lib.hid (HS4.out.growM HBB.out hown hgr hbel)
          have kc := HS5.out.kg.cell
          have fz := HS5.out.kg.frozen
          have HP := Lib.hid (HS5.out.put HLG.out 7 [.slice A5 n5 c5] (blkR7 HS5.out.kg))
          have HLS : Hid (mT m gs kk ++ [⟨0, m, 0, y⟩] = mT m gs (kk + 1)) := by show _ = _; unfold mT; rw [HTK.out, List.map_append]; rfl
          rw [HLS.out] at HP
          clear hown hgr hbel
          go_wp2_with fail
          go_meet
          exact ⟨_, _, _, HP.out⟩
        case rest =>
        obtain ⟨AM', nM', cM', hr⟩ := hcut.out
        have HS6 := Lib.hid hr
        clear hcut hr HS3 HKB3
        generalize wc = we at *
        have k6 : we.cell? ⟨g, 6, none⟩ = some (.slice AC nC cC) := HS6.out.kg.cell 6
        have HS7 := Lib.hid (HS6.out.call (below_new we (.cells #[i 1, .bool false, .bool false, .bool false, i 0] 80)))
        have HRR : Hid (CnR (#[i 1, .bool false, .bool false, .bool false, i 0] : Array Value).toList av) := rfl
        have hll : (List.replicate kk av).length ≤ 16777216 := by rw [List.length_replicate]; omega
        go_wp2_with (at_builtin; refine wpList_grow rfl (.tmp 66) (.tmp 68) 24 rfl iC _ 24 Tryz.underlying24 hCi hCz hCs hCb rfl (by omega) rfl HS7.out.c we.heap.size av _ 80 rfl (Blk.new we _ _) rfl HRR.out (one_cn _ _ HRR.out) hll (by omega) HS7.out.sz ?_)
        rintro v' w5 hown hgr hbel ⟨A5, n5, c5, rfl⟩
        have HLS : Hid (List.replicate kk av ++ [av] = List.replicate (kk + 1) av) := by show _ = _; rw [List.replicate_succ']
        have HS8 := Lib.hid (HS7.out.growC (cl' := List.replicate (kk + 1) av) HBB.out (by rw [← HLS.out]; exact hown) hgr hbel)
        have kc := HS8.out.kg.cell
        have fz := HS8.out.kg.frozen
        have HS9 := Lib.hid (HS8.out.put HLG.out 6 [.slice A5 n5 c5] (blkR6 HS8.out.kg))
        clear hown hgr hbel k6 hll
        go_wp2_with fail
        go_roundg (n - (kk + 1))
        case measure => omega
        case rel =>
          refine ⟨kk + 1, _, _, _, _, _, _, by omega, by omega, by go_num, HS9, fun x hx => ?_⟩
          rw [HTK.out] at hx
          rcases List.mem_append.1 hx with hx | hx
          · exact HA.out x hx
          · obtain rfl : x = y := by simpa using hx
            exact HE0.out
      · have HV := Lib.hid (RD.out ⟨y, HIN.out, by rw [he1]; decide⟩)
        have HB8 := Lib.hid HS3.out.hb
        have HK8 := Lib.hid HS3.out.k8
        rw [he1]
        clear he1
        go_wp2_with (first
          | (refine wpList_buildTo rfl 43 #[] rfl (some 57) rfl zA (by kernel_rfl) ?_)
          | (refine wpList_store_rowTo rfl 43 (.tmp 8) (.tmp 57) rfl rfl w.heap.size zA (by kernel_rfl) (by kernel_rfl) 43 zA HK8.out (by kernel_rfl) (by kernel_rfl) (by kernel_rfl) ?_))
        refine bodyPost_ret (results_cell2 rfl _ _ w.heap.size 43 _ (0, 0) _ rfl (row_blk zA HK8.out) Tryz.underlying43 rfl (by kernel_rfl)) rfl ?_
        exact NPost.no HV.out (row_below _ HB8.out (Nat.le_refl _))
    · have hltz : ¬ (kk : Int) < (n : Int) := by omega
      have hke : kk = n := by omega
      subst hke
      have HT : Hid (RSt w gB kk g (.slice AC nC cC) (.slice AM nM cM) T L S (List.replicate kk av) (gs.map (fun x => ⟨0, m, 0, x⟩)) (rA name (.slice AC nC cC) (.slice AM nM cM) T L S) wr) := by
        have h := HS.out
        unfold mT at h
        rw [show gs.take kk = gs from by rw [← hn]; exact List.take_length] at h
        exact h
      have HRE : Hid (R = (fresh name gs m, 0)) := RE.out (by have := HA.out; rw [← hn, List.take_length] at this; exact this)
      clear HS HA RD RE HGC HN0
      have HCT := Lib.hid (routNew wr)
      go_upto_region 18 with (fail)
      go_cut [] (fun wd => Hid (RSt w gB kk g (.slice AC nC cC) (.slice AM nM cM) T L S (List.replicate kk av) (gs.map (fun x => ⟨0, m, 0, x⟩)) (rA1 name (.slice AC nC cC) (.slice AM nM cM) T L S) wd))
      case first =>
        go_wp2_with fail
        refine HCT.out.mono ?_
        rintro e wa ⟨rfl, hba⟩
        have HTa := Lib.hid (HT.out.call hba)
        have kc := HTa.out.kg.cell
        have fz := HTa.out.kg.frozen
        have HP := Lib.hid (HTa.out.put HLG.out 14 [i 64, .slice none 0 0, i 0] (blkR1 HTa.out.kg))
        clear hba HTa
        go_wp2_with fail
        go_meet
        exact HP.out
      case rest =>
      have HT1 := Lib.hid hcut.out
      clear hcut HCT HT
      generalize wc = wX at *
      have HT := HT1
      clear HT1
      have HCT := Lib.hid (rcallNew wX)
      go_upto_region 19 with (fail)
      go_cut [] (fun wd => Hid (RSt w gB kk g (.slice AC nC cC) (.slice AM nM cM) T L S (List.replicate kk av) (gs.map (fun x => ⟨0, m, 0, x⟩)) (rA2 name (.slice AC nC cC) (.slice AM nM cM) T L S) wd))
      case first =>
        go_wp2_with fail
        refine HCT.out.mono ?_
        rintro e wa ⟨rfl, hba⟩
        have HTa := Lib.hid (HT.out.call hba)
        have kc := HTa.out.kg.cell
        have fz := HTa.out.kg.frozen
        have HP := Lib.hid (HTa.out.put HLG.out 17 [i 1, i 3, i 2, .slice none 0 0, .slice none 0 0, i 0, i 0, .slice none 0 0] (blkR2 HTa.out.kg))
        clear hba HTa
        go_wp2_with fail
        go_meet
        exact HP.out
      case rest =>
      have HT1 := Lib.hid hcut.out
      clear hcut HCT HT
      generalize wc = wX at *
      have HT := HT1
      clear HT1
      have HSN := Lib.hid (rsafeNew kk wX hn1 hn8)
      go_upto_region 20 with (fail)
      go_cut [] (fun wd => Hid (∃ q, RSt w gB kk g (.slice AC nC cC) (.slice AM nM cM) T L S (List.replicate kk av) (gs.map (fun x => ⟨0, m, 0, x⟩)) (rA3 name (.slice AC nC cC) (.slice AM nM cM) T L S (.slice (some ⟨q, 0, none⟩) kk kk)) wd ∧ Own InR 3 1 wX.heap.size wd (.slice (some ⟨q, 0, none⟩) kk kk) (List.replicate kk 0)))
      case first =>
        go_wp2_with fail
        refine HSN.out.mono ?_
        rintro e wa ⟨q, rfl, hoq, hba⟩
        have HTa := Lib.hid (HT.out.call hba)
        have kc := HTa.out.kg.cell
        have fz := HTa.out.kg.frozen
        have HP := Lib.hid (HTa.out.put HLG.out 30 [i 0, i 30, i 2000, .slice (some ⟨q, 0, none⟩) kk kk] (blkR3 HTa.out.kg))
        have HO := Lib.hid (own_key (by decide) HTa.out.kg (put_grown [i 0, i 30, i 2000, .slice (some ⟨q, 0, none⟩) kk kk] wa g 30) hoq)
        clear hba HTa hoq
        go_wp2_with fail
        go_meet
        exact ⟨q, HP.out, HO.out⟩
      case rest =>
      obtain ⟨q, hT3, hoq⟩ := hcut.out
      have HT3 := Lib.hid hT3
      have HOQ := Lib.hid hoq
      clear hT3 hoq hcut HT HSN
      generalize wc = wC at *
      have hTf := HTF.out
      have hLf := HLF.out
      have hSf := HSF.out
      subst hTf hLf hSf
      go_upto_region 21 with (fail)
      go_wp2_with (first
        | (refine wpList_load_row rfl 43 (.tmp 10) rfl g rfl 43 (rA3 name (.slice AC nC cC) (.slice AM nM cM) (.slice (some ⟨gt, 0, none⟩) kk kk) (.slice (some ⟨gl, 0, none⟩) kk kk) (.slice (some ⟨gsh, 0, none⟩) kk kk) (.slice (some ⟨q, 0, none⟩) kk kk)) (0, 0) _ HT3.out.kg Tryz.underlying43 rfl (by kernel_rfl) ?_)
        | (refine wpList_store_rowTo rfl 43 (.tmp 8) (.tmp 88) rfl rfl w.heap.size (rA3 name (.slice AC nC cC) (.slice AM nM cM) (.slice (some ⟨gt, 0, none⟩) kk kk) (.slice (some ⟨gl, 0, none⟩) kk kk) (.slice (some ⟨gsh, 0, none⟩) kk kk) (.slice (some ⟨q, 0, none⟩) kk kk)) (by kernel_rfl) (by kernel_rfl) 43 zA HT3.out.k8 (by kernel_rfl) (by kernel_rfl) (by kernel_rfl) ?_))
      refine bodyPost_ret (results_cell2 rfl _ _ w.heap.size 43 _ (0, 0) _ rfl (row_blk (rA3 name (.slice AC nC cC) (.slice AM nM cM) (.slice (some ⟨gt, 0, none⟩) kk kk) (.slice (some ⟨gl, 0, none⟩) kk kk) (.slice (some ⟨gsh, 0, none⟩) kk kk) (.slice (some ⟨q, 0, none⟩) kk kk)) HT3.out.k8) Tryz.underlying43 rfl (by kernel_rfl)) rfl ?_
      have hrw := row_grown wC w.heap.size (rA3 name (.slice AC nC cC) (.slice AM nM cM) (.slice (some ⟨gt, 0, none⟩) kk kk) (.slice (some ⟨gl, 0, none⟩) kk kk) (.slice (some ⟨gsh, 0, none⟩) kk kk) (.slice (some ⟨q, 0, none⟩) kk kk))
      have hrr : ∀ k, some w.heap.size = some k → ∃ cs fz, wC.heap[k]? = some (.cells cs 43 fz) := fun k e => by injection e with e; subst e; exact ⟨_, _, HT3.out.k8⟩
      have oc := own_kept HT3.out.c hrw hrr (by decide)
      have om := own_kept HT3.out.m hrw hrr (by decide)
      have ot := own_kept HT3.out.t hrw hrr (by decide)
      have ol := own_kept HT3.out.l hrw hrr (by decide)
      have os := own_kept HT3.out.s hrw hrr (by decide)
      have oo := own_kept HOQ.out hrw hrr (by decide)
      subst hn
      rw [HRE.out]
      exact ⟨⟨.slice AC nC cC, .slice AM nM cM, .slice (some ⟨gt, 0, none⟩) gs.length gs.length, .slice none 0 0, .slice none 0 0, .slice none 0 0, .slice none 0 0, .slice none 0 0, .slice none 0 0, .slice none 0 0, .slice none 0 0, .slice (some ⟨q, 0, none⟩) gs.length gs.length, .slice (some ⟨gl, 0, none⟩) gs.length gs.length, .slice (some ⟨gsh, 0, none⟩) gs.length gs.length⟩, rfl,
        ⟨oc.at_ (by omega), om.at_ (by omega), ot.at_ (by omega), emp_nil, emp_nil, emp_nil, emp_nil, emp_nil, emp_nil, emp_nil, emp_nil, oo.at_ (by omega), ol.at_ (by omega), os.at_ (by omega)⟩, row_below _ HT3.out.hb (Nat.le_refl _)⟩
end Stn
end Go.Proofs.YtfaofobhmmedmaaGreatDoor
