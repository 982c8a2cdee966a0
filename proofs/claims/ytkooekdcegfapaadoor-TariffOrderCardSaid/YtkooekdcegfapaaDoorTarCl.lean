/-
  The walk of tariff.clone.
-/
import Derived.Test.YtkooekdcegfapaaDoorTarC
namespace Go.Proofs.YtkooekdcegfapaaDoor
namespace TarW
set_option linter.unusedSimpArgs false
set_option linter.unusedVariables false
open Go.RowKit CalW

theorem Blk.newG {w : World} {g : Nat} (h : g = w.heap.size) (t : TypeId) (cs : Array Value) : Blk (w.alloc (.cells cs t)) g t cs := by
  subst h
  exact Blk.new w t cs
theorem blk_ne {w : World} {g : Nat} {t t' : TypeId} {cs cs' : Array Value} (h : Blk w g t cs) (h' : w.heap[g]? = some (.cells cs' t' (0, 0))) (hne : t ≠ t') : False := by
  unfold Blk at h
  rw [h] at h'
  injection h' with e
  injection e with _ e2
  exact hne e2
/-- The blocks of type t stay as they were. -/
def KeepsT (t : TypeId) (w w' : World) : Prop := ∀ (k : Nat) (cur : Array Value), w.heap[k]? = some (.cells cur t (0, 0)) → w'.heap[k]? = some (.cells cur t (0, 0))
theorem KeepsT.below {t : TypeId} {w w' : World} (h : Below w.heap.size w w') : KeepsT t w w' := fun k cur hk => (h.block k (Array.getElem?_eq_some_iff.1 hk).1).trans hk
theorem KeepsT.set_ {t t' : TypeId} {w : World} {g : Nat} {cur : Array Value} (hg : w.heap[g]? = some (.cells cur t' (0, 0))) (hne : t ≠ t') (o : Nat) (u : Value) : KeepsT t w (w.setCell ⟨g, o, none⟩ u) := by
  intro k c hk
  have : k ≠ g := by
    rintro rfl
    rw [hk] at hg
    injection hg with e
    injection e with _ e2
    exact hne e2
  exact (Below.heap_setCell w ⟨g, o, none⟩ u k this).trans hk
theorem KeepsT.trans {t : TypeId} {a b c : World} (h : KeepsT t a b) (k : KeepsT t b c) : KeepsT t a c := fun n cur hn => k n cur (h n cur hn)
theorem own_keep {w w' : World} {base : Nat} {e : TypeId} {size : Nat} {v : Value} {n : Nat} {xs : List Value} (h : w.ownsRow base e size v n xs) (hk : KeepsT e w w') : w'.ownsRow base e size v n xs := by
  refine ⟨h.1, ?_⟩
  rcases h.2 with h0 | ⟨g, cap, cur, r1, r2, r3, r4⟩
  · exact .inl h0
  · exact .inr ⟨g, cap, cur, r1, r2, hk g cur r3, r4⟩
theorem own_base {w : World} {base base' : Nat} {e : TypeId} {size : Nat} {v : Value} {n : Nat} {xs : List Value} (h : w.ownsRow base e size v n xs) (hk : base' ≤ base) : w.ownsRow base' e size v n xs := by
  refine ⟨h.1, ?_⟩
  rcases h.2 with h0 | ⟨g, cap, cur, r1, r2, r3, r4⟩
  · exact .inl h0
  · exact .inr ⟨g, cap, cur, r1, by omega, r3, r4⟩
theorem OwnsC.keep {B : Nat} {w w' : World} {u : Value} {cs : List Comp} (h : OwnsC B w u cs) (hk : KeepsT 40 w w') : OwnsC B w' u cs := by
  obtain ⟨rs, h1, h2⟩ := h
  exact ⟨rs, own_keep h1 hk, h2⟩

/-- The first k rows have components of their own, the others those of w0. -/
def CloneRel (B : Nat) (w0 w : World) (u : Value) (es : List Elem) (k : Nat) : Prop :=
  ∃ rs : List (List Value), w.ownsRow B 49 12 u es.length rs.flatten ∧ rs.length = es.length ∧
    ∀ (j : Nat) (r : List Value) (e : Elem), rs[j]? = some r → es[j]? = some e → ∃ x, r = x :: whL e.wh ∧ ((j < k ∧ OwnsC B w x e.cs) ∨ (k ≤ j ∧ CompsAt w0 x e.cs))

theorem CloneRel.each {es : List Elem} {rs : List (List Value)} {Q : Nat → Value → Elem → Prop} (hl : rs.length = es.length)
    (h : ∀ (j : Nat) (r : List Value) (e : Elem), rs[j]? = some r → es[j]? = some e → ∃ x, r = x :: whL e.wh ∧ Q j x e) : ∀ r ∈ rs, r.length = 12 := by
  intro r hr
  obtain ⟨j, hj, rfl⟩ := List.getElem_of_mem hr
  obtain ⟨x, hx, _⟩ := h j rs[j] (es[j]'(by omega)) (List.getElem?_eq_getElem hj) (List.getElem?_eq_getElem _)
  rw [hx]
  rfl
theorem CloneRel.start {B B' : Nat} {w0 w : World} {u : Value} {es : List Elem} (h : OwnsE0 B' w0 w u es) (hB : B ≤ B') : CloneRel B w0 w u es 0 := by
  obtain ⟨rs, h1, h2⟩ := h
  refine ⟨rs, own_base h1 hB, h2.1, fun j r e hr he => ?_⟩
  obtain ⟨x, hx, hc⟩ := (h2.2 j r e hr he).2
  exact ⟨x, hx, .inr ⟨Nat.zero_le _, hc⟩⟩
theorem CloneRel.keep {B : Nat} {w0 w w' : World} {u : Value} {es : List Elem} {k : Nat} (h : CloneRel B w0 w u es k) (h1 : KeepsT 49 w w') (h2 : KeepsT 40 w w') : CloneRel B w0 w' u es k := by
  obtain ⟨rs, a, b, c⟩ := h
  refine ⟨rs, own_keep a h1, b, fun j r e hr he => ?_⟩
  obtain ⟨x, hx, hc⟩ := c j r e hr he
  refine ⟨x, hx, ?_⟩
  rcases hc with ⟨p, q⟩ | ⟨p, q⟩
  · exact .inl ⟨p, q.keep h2⟩
  · exact .inr ⟨p, q⟩
theorem CloneRel.call {B : Nat} {w0 w w' : World} {u : Value} {es : List Elem} {k : Nat} (h : CloneRel B w0 w u es k) (hb : Below w.heap.size w w') : CloneRel B w0 w' u es k := h.keep (KeepsT.below hb) (KeepsT.below hb)
theorem CloneRel.row {B : Nat} {w0 w : World} {A : Option Addr} {n c : Nat} {es : List Elem} {k : Nat} (h : CloneRel B w0 w (.slice A n c) es k) (hk : k < es.length) :
    ∃ g x cur, A = some ⟨g, 0, none⟩ ∧ B ≤ g ∧ w.heap[g]? = some (.cells cur 49 (0, 0)) ∧ CompsAt w0 x es[k].cs ∧ (∀ o, w.frozen? ⟨g, o, none⟩ = false) ∧
      (∀ o, o < 12 → w.cell? ⟨g, k * 12 + o, none⟩ = (x :: whL es[k].wh)[o]?) ∧
      ∀ x', OwnsC B w x' es[k].cs → CloneRel B w0 (w.setCell ⟨g, k * 12, none⟩ x') (.slice A n c) es (k + 1) := by
  obtain ⟨rs, a, b, d⟩ := h
  have heach := CloneRel.each b d
  rcases a.2 with ⟨h0, h0'⟩ | ⟨g, cap, cur, hv, hB, hg, hnc, hcm, hcs, ht⟩
  · omega
  · have hv' := hv
    injection hv with e1 e2 e3
    subst e1; subst e2; subst e3
    obtain ⟨x, hx, hq⟩ := d k rs[k] es[k] (List.getElem?_eq_getElem (by omega)) (List.getElem?_eq_getElem hk)
    have hq' : CompsAt w0 x es[k].cs := by
      rcases hq with ⟨p, _⟩ | ⟨_, q⟩
      · omega
      · exact q
    refine ⟨g, x, cur, rfl, hB, hg, hq', fun o => a.frozenAt o, fun o ho => ?_, fun x' hx' => ?_⟩
    · rw [a.cellAt (k * 12 + o) (by omega), flat_get rs heach k o ho, List.getElem?_eq_getElem (by omega), hx]
      rfl
    · have hst := (a.stored (k * 12) x').1
      have hset := flat_set x' rs heach k 0 (by omega) rs[k] (List.getElem?_eq_getElem (by omega))
      rw [Nat.add_zero] at hset
      rw [hset] at hst
      refine ⟨rs.set k (rs[k].set 0 x'), hst, by rw [List.length_set]; exact b, fun j r e hr he => ?_⟩
      by_cases hjk : j = k
      · subst hjk
        rw [List.getElem?_set_self (by omega)] at hr
        have er : rs[j].set 0 x' = r := by simpa using hr
        have ee : es[j] = e := by rw [List.getElem?_eq_getElem hk] at he; simpa using he
        subst er; subst ee
        refine ⟨x', by rw [hx]; rfl, .inl ⟨by omega, hx'.keep (KeepsT.set_ hg (by decide) _ _)⟩⟩
      · rw [List.getElem?_set_ne (by omega)] at hr
        obtain ⟨y, hy, hyq⟩ := d j r e hr he
        refine ⟨y, hy, ?_⟩
        rcases hyq with ⟨p, q⟩ | ⟨p, q⟩
        · exact .inl ⟨by omega, q.keep (KeepsT.set_ hg (by decide) _ _)⟩
        · exact .inr ⟨by omega, q⟩
theorem CloneRel.fin {B : Nat} {w0 w : World} {u : Value} {es : List Elem} {k : Nat} (h : CloneRel B w0 w u es k) (hk : es.length ≤ k) : ElemsAt w u es := by
  obtain ⟨rs, a, b, d⟩ := h
  refine SliceAt.of_own (by omega) a ⟨b, fun j r e hr he => ?_⟩ rfl
  obtain ⟨x, hx, hq⟩ := d j r e hr he
  refine ⟨by rw [hx]; rfl, x, hx, ?_⟩
  have hj : j < es.length := (List.getElem?_eq_some_iff.1 he).1
  rcases hq with ⟨_, q⟩ | ⟨p, _⟩
  · exact q.at_
  · omega

theorem keeps8 {t t' : TypeId} {w : World} {g : Nat} {cs : Array Value} (h : Blk w g t' cs) (hne : t ≠ t') (v0 v1 v2 v3 v4 v5 v6 v7 : Value) : KeepsT t w ((((((((w.setCell ⟨g, 0, none⟩ v0).setCell ⟨g, 1, none⟩ v1).setCell ⟨g, 2, none⟩ v2).setCell ⟨g, 3, none⟩ v3).setCell ⟨g, 4, none⟩ v4).setCell ⟨g, 5, none⟩ v5).setCell ⟨g, 6, none⟩ v6).setCell ⟨g, 7, none⟩ v7) :=
  KeepsT.trans (KeepsT.set_ h hne 0 v0) (KeepsT.trans (KeepsT.set_ (h.set_ 0 v0) hne 1 v1) (KeepsT.trans (KeepsT.set_ ((h.set_ 0 v0).set_ 1 v1) hne 2 v2) (KeepsT.trans (KeepsT.set_ (((h.set_ 0 v0).set_ 1 v1).set_ 2 v2) hne 3 v3) (KeepsT.trans (KeepsT.set_ ((((h.set_ 0 v0).set_ 1 v1).set_ 2 v2).set_ 3 v3) hne 4 v4) (KeepsT.trans (KeepsT.set_ (((((h.set_ 0 v0).set_ 1 v1).set_ 2 v2).set_ 3 v3).set_ 4 v4) hne 5 v5) (KeepsT.trans (KeepsT.set_ ((((((h.set_ 0 v0).set_ 1 v1).set_ 2 v2).set_ 3 v3).set_ 4 v4).set_ 5 v5) hne 6 v6) ((KeepsT.set_ (((((((h.set_ 0 v0).set_ 1 v1).set_ 2 v2).set_ 3 v3).set_ 4 v4).set_ 5 v5).set_ 6 v6) hne 7 v7))))))))
theorem below8 {B g : Nat} {a w : World} (h : Below B a w) (hg : B ≤ g) (v0 v1 v2 v3 v4 v5 v6 v7 : Value) : Below B a ((((((((w.setCell ⟨g, 0, none⟩ v0).setCell ⟨g, 1, none⟩ v1).setCell ⟨g, 2, none⟩ v2).setCell ⟨g, 3, none⟩ v3).setCell ⟨g, 4, none⟩ v4).setCell ⟨g, 5, none⟩ v5).setCell ⟨g, 6, none⟩ v6).setCell ⟨g, 7, none⟩ v7) :=
  ((((((((h.setCell (p := ⟨g, 0, none⟩) hg v0).setCell (p := ⟨g, 1, none⟩) hg v1).setCell (p := ⟨g, 2, none⟩) hg v2).setCell (p := ⟨g, 3, none⟩) hg v3).setCell (p := ⟨g, 4, none⟩) hg v4).setCell (p := ⟨g, 5, none⟩) hg v5).setCell (p := ⟨g, 6, none⟩) hg v6).setCell (p := ⟨g, 7, none⟩) hg v7)

def Fin3 (W w' : World) : Prop := Below W.heap.size W w'
theorem Fin3.below {W w' : World} (h : Fin3 W w') : Below W.heap.size W w' := h
abbrev trfA (t : Trf) (v : Value) : Array Value := #[.string t.id, .string t.cur, i t.ver, i t.fr, i t.to, v, i t.least, i t.most]
def ClonePost (t : Trf) (w : World) (r : Ending) (w' : World) : Prop := ∃ u, r = .returned (trfV t u) ∧ CloneRel w.heap.size w w' u t.els t.els.length ∧ Below w.heap.size w w'

set_option maxRecDepth 100000 in
set_option maxHeartbeats 2000000 in
theorem clone_ (t : Trf) (v : Value) (w : World) (h : ElemsAt w v t.els) (hn : t.els.length ≤ 65536) (hcs : ∀ e ∈ t.els, e.cs.length ≤ 65536) :
    Calls Tryd.prog 41 #[trfV t v] w (ClonePost t w) := by
  obtain ⟨A, c, rfl, h1, h2⟩ := SliceAt.form h
  unfold maxLen at h2
  have b0 := (Blk.new w 26 (trfA t (.slice A t.els.length c))).alloc (.cells #[.string ⟨#[]⟩, .string ⟨#[]⟩, .int .i64 0, .int .i64 0, .int .i64 0, .slice none 0 0, .int .i64 0, .int .i64 0] 26)
  have hb0 := below_alloc (below_new w (.cells (trfA t (.slice A t.els.length c)) 26)) (.cells #[.string ⟨#[]⟩, .string ⟨#[]⟩, .int .i64 0, .int .i64 0, .int .i64 0, .slice none 0 0, .int .i64 0, .int .i64 0] 26)
  have HE := Lib.hid (SliceAt.keep (R' := ElemR w) h (Kept.of hb0) (fun _ _ h => h))
  have HB := Lib.hid h
  have r0 := Blk.newG (w := w.alloc (.cells (trfA t (.slice A t.els.length c)) 26)) (g := w.heap.size + 1) (by simp) 26 #[.string ⟨#[]⟩, .string ⟨#[]⟩, .int .i64 0, .int .i64 0, .int .i64 0, .slice none 0 0, .int .i64 0, .int .i64 0]
  obtain ⟨es, hes⟩ : ∃ es : List Elem, t.els = es := ⟨_, rfl⟩
  have hP : ClonePost t w = fun r w' => ∃ u, r = .returned (trfV t u) ∧ CloneRel w.heap.size w w' u es es.length ∧ Below w.heap.size w w' := by unfold ClonePost; rw [hes]
  rw [hes] at HE HB h1 hb0 b0 r0 hn hcs ⊢
  have HPO := Lib.hid hP
  clear h hP hes
  have HCS := Lib.hid hcs
  clear hcs
  go_enter Tryd.func41, Tryd.ntmps41
  go_wp2_with fail
  refine (cloneE w _ es _ HE.out hn).mono ?_
  rintro r w1 ⟨u, rfl, hown, hb1⟩
  have hbw1 := below_call hb0 hb1
  obtain ⟨A1, c1, rfl, h3, h4⟩ := SliceAt.form (hown.at_ (Kept.of hbw1))
  unfold maxLen at h4
  have b1 := b0.call hb1
  have r1 := r0.call hb1
  have bc := b1.cell
  have bf := b1.frozen
  have b2 : Blk (w1.setCell ⟨w.heap.size, 5, none⟩ (.slice A1 es.length c1)) w.heap.size 26 (trfA t (.slice A1 es.length c1)) := b1.set_ 5 _
  have r2 := r1.far (p := ⟨w.heap.size, 5, none⟩) (by simp) (.slice A1 es.length c1)
  have rel := (CloneRel.start (B := w.heap.size) hown hb0.size).keep (KeepsT.set_ b1 (by decide) 5 (.slice A1 es.length c1)) (KeepsT.set_ b1 (by decide) 5 (.slice A1 es.length c1))
  have bw2 := hbw1.setCell (p := ⟨w.heap.size, 5, none⟩) (Nat.le_refl _) (.slice A1 es.length c1)
  clear hown hb1 HE b0 r0
  go_wp2_with fail
  clear bc bf
  generalize w1.setCell ⟨w.heap.size, 5, none⟩ (.slice A1 es.length c1) = w2 at *
  go_loopg [12] es.length (fun gg s12 wr => ∃ kk : Nat, kk ≤ es.length ∧ es.length - kk ≤ gg ∧ s12 = i kk ∧ Hid (CloneRel w.heap.size w wr (.slice A1 es.length c1) es kk) ∧ Hid (Blk wr w.heap.size 26 (trfA t (.slice A1 es.length c1))) ∧
    Hid (Blk wr (w.heap.size + 1) 26 #[.string ⟨#[]⟩, .string ⟨#[]⟩, .int .i64 0, .int .i64 0, .int .i64 0, .slice none 0 0, .int .i64 0, .int .i64 0]) ∧ Hid (Below w.heap.size w wr))
  case atStart => exact ⟨0, Nat.zero_le _, by omega, rfl, rel, b2, r2, bw2⟩
  case round =>
    obtain ⟨kk, hkk, hg, rfl, REL, BL, RB, BW⟩ := hrel
    clear rel b2 r2 bw2 b1 r1 hbw1
    by_cases hlt : kk < es.length
    · have hltz : (kk : Int) < (es.length : Int) := by omega
      obtain ⟨g, x, cur, rfl, hBg, hgb, hx, hfz, hcell, _⟩ := CloneRel.row REL.out hlt
      have hlen := HCS.out es[kk] (List.getElem_mem _)
      have hx' := hx
      generalize hy : es[kk] = y at *
      have HY := Lib.hid hy
      clear hy
      obtain ⟨A2, c2, rfl, h5, h6⟩ := SliceAt.form hx'
      unfold maxLen at h6
      have l0 : wr.cell? ⟨g, kk * 12, none⟩ = some (.slice A2 y.cs.length c2) := hcell 0 (by omega)
      have l1 : wr.cell? ⟨g, kk * 12 + 1, none⟩ = some (i y.wh.s) := hcell 1 (by omega)
      have l2 : wr.cell? ⟨g, kk * 12 + 2, none⟩ = some (i y.wh.e) := hcell 2 (by omega)
      have l3 : wr.cell? ⟨g, kk * 12 + 3, none⟩ = some (i y.wh.d) := hcell 3 (by omega)
      have l4 : wr.cell? ⟨g, kk * 12 + 4, none⟩ = some (i y.wh.f) := hcell 4 (by omega)
      have l5 : wr.cell? ⟨g, kk * 12 + 5, none⟩ = some (i y.wh.t) := hcell 5 (by omega)
      have l6 : wr.cell? ⟨g, kk * 12 + 6, none⟩ = some (i y.wh.e0) := hcell 6 (by omega)
      have l7 : wr.cell? ⟨g, kk * 12 + 7, none⟩ = some (i y.wh.e1) := hcell 7 (by omega)
      have l8 : wr.cell? ⟨g, kk * 12 + 8, none⟩ = some (i y.wh.p0) := hcell 8 (by omega)
      have l9 : wr.cell? ⟨g, kk * 12 + 9, none⟩ = some (i y.wh.p1) := hcell 9 (by omega)
      have l10 : wr.cell? ⟨g, kk * 12 + 10, none⟩ = some (i y.wh.t0) := hcell 10 (by omega)
      have l11 : wr.cell? ⟨g, kk * 12 + 11, none⟩ = some (i y.wh.t1) := hcell 11 (by omega)
      clear hcell
      have e3 := Blk.new wr 49 #[.slice A2 y.cs.length c2, i y.wh.s, i y.wh.e, i y.wh.d, i y.wh.f, i y.wh.t, i y.wh.e0, i y.wh.e1, i y.wh.p0, i y.wh.p1, i y.wh.t0, i y.wh.t1]
      have hbw3 := below_new wr (.cells #[.slice A2 y.cs.length c2, i y.wh.s, i y.wh.e, i y.wh.d, i y.wh.f, i y.wh.t, i y.wh.e0, i y.wh.e1, i y.wh.p0, i y.wh.p1, i y.wh.t0, i y.wh.t1] 49)
      have hglt : g < wr.heap.size := (Array.getElem?_eq_some_iff.1 hgb).1
      have hfz0 := hfz (kk * 12)
      clear hfz
      go_wp2_with fail
      have hkz : (0 : Int) ≤ (kk : Int) := by omega
      generalize wr.alloc (.cells #[.slice A2 y.cs.length c2, i y.wh.s, i y.wh.e, i y.wh.d, i y.wh.f, i y.wh.t, i y.wh.e0, i y.wh.e1, i y.wh.p0, i y.wh.p1, i y.wh.t0, i y.wh.t1] 49) = w3 at *
      have hS : w3.cell? ⟨w.heap.size, 5, none⟩ = some (.slice (some ⟨g, 0, none⟩) es.length c1) := (BL.out.call hbw3).cell 5
      have hX0 : w3.cell? ⟨wr.heap.size, 0, none⟩ = some (.slice A2 y.cs.length c2) := e3.cell 0
      have HR3 := Lib.hid (REL.out.call hbw3)
      have HX : Hid (∀ w', Below w3.heap.size w3 w' → CompsAt w' (.slice A2 y.cs.length c2) y.cs) := fun w' hb => hx.call (below_call (below_call BW.out hbw3) hb)
      have HAF : Hid (∀ w', Below w3.heap.size w3 w' → w'.cell? ⟨w.heap.size, 5, none⟩ = some (.slice (some ⟨g, 0, none⟩) es.length c1) ∧ w'.cell? ⟨wr.heap.size, 0, none⟩ = some (.slice A2 y.cs.length c2) ∧ w'.cell? ⟨g, kk * 12, none⟩ = some (.slice A2 y.cs.length c2) ∧ w'.frozen? ⟨g, kk * 12, none⟩ = false) := fun w' hb =>
        ⟨((BL.out.call hbw3).call hb).cell 5, (e3.call hb).cell 0, (Kept.of hb) _ _ (Kept.of hbw3 _ _ l0), ((hb.frozen (p := ⟨g, kk * 12, none⟩) (show g < w3.heap.size from Nat.lt_of_lt_of_le hglt hbw3.size)).trans (hbw3.frozen (p := ⟨g, kk * 12, none⟩) hglt)).trans hfz0⟩
      have HBL3 := Lib.hid (BL.out.call hbw3)
      have HRB3 := Lib.hid (RB.out.call hbw3)
      have HBW3 := Lib.hid (below_call BW.out hbw3)
      generalize wr.heap.size = gx at *
      clear l0 l1 l2 l3 l4 l5 l6 l7 l8 l9 l10 l11 hx hx' hfz0
      go_region_with (first | (go_at_call 57; refine (cloneC _ y.cs _ (HX.out _ (by first | exact Below.refl _ _ | exact below_drewN' (Below.refl _ _) _ | exact Below.drew (Below.refl _ _))) hlen).mono ?_; rintro e wx ⟨x', rfl, hox, hbx⟩; obtain ⟨A3, c3, rfl, h7, h8⟩ := SliceAt.form hox.at_; have hbx' : Below w3.heap.size w3 wx := below_call (Below.drew (Below.refl _ _)) hbx; obtain ⟨q1, q2, q3, q4⟩ := HAF.out wx hbx'))
      all_goals
        go_wp2_with fail
        go_roundg (es.length - (kk + 1))
        case measure => omega
        case rel =>
          have hn1 : w.heap.size ≠ g := fun e => blk_ne BL.out (by rw [e]; exact hgb) (by decide)
          have hn2 : w.heap.size + 1 ≠ g := fun e => blk_ne RB.out (by rw [e]; exact hgb) (by decide)
          refine ⟨kk + 1, by omega, by omega, by go_num, ?_, (HBL3.out.call hbx').far (p := ⟨g, kk * 12, none⟩) hn1 _, (HRB3.out.call hbx').far (p := ⟨g, kk * 12, none⟩) hn2 _, (below_call HBW3.out hbx').setCell (p := ⟨g, kk * 12, none⟩) hBg _⟩
          obtain ⟨g', x2, cur2, hA', _, _, _, _, _, hnext⟩ := CloneRel.row (HR3.out.call hbx') hlt
          obtain rfl : g = g' := by simpa using hA'
          rw [HY.out] at hnext
          refine hnext _ ?_
          obtain ⟨rs3, o1, o2⟩ := hox
          exact ⟨rs3, own_base o1 HBW3.out.size, o2⟩
    · have hltz : ¬ (kk : Int) < (es.length : Int) := by omega
      have bc := BL.out.cell
      have rc := RB.out.cell
      have rf := RB.out.frozen
      obtain rfl : kk = es.length := by omega
      go_wp2_with fail
      refine bodyPost_ret (v := trfV t (.slice A1 es.length c1)) (by simp [results, Tryd.results41, go_sem, rc]) rfl ?_
      rw [HPO.out]
      exact ⟨_, rfl, REL.out.keep (keeps8 RB.out (by decide) _ _ _ _ _ _ _ _) (keeps8 RB.out (by decide) _ _ _ _ _ _ _ _), below8 BW.out (by omega) _ _ _ _ _ _ _ _⟩
end TarW
end Go.Proofs.YtkooekdcegfapaaDoor
