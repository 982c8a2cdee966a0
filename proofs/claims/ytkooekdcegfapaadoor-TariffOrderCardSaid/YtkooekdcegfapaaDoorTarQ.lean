/-
  The walk of the statement TariffOrder.
-/
import Derived.Test.YtkooekdcegfapaaDoorTarN
import Derived.Test.YtkooekdcegfapaaDoorReg2
import Derived.Laws.AppendOwnNone
namespace Go.Proofs.YtkooekdcegfapaaDoor
namespace TarW
set_option linter.unusedSimpArgs false
set_option linter.unusedVariables false
open Go.RowKit CalW

set_option maxHeartbeats 400000 in
theorem order1 (c : Cs) (x : Comp) (B : Nat) (W : World) (hc : W.cell? ⟨B, 2, none⟩ = some (i c.k)) :
    Calls Tryd.prog 21 #[compV x, .pointer (some ⟨B, 0, none⟩)] W fun e w' => e = .returned (.bool (isK c.k x)) ∧ Below W.heap.size W w' := by
  have hB := World.block_lt_of_cell? W _ hc
  simp only at hB
  have hne : B ≠ W.heap.size := by omega
  go_enter Tryd.func21, Tryd.ntmps21
  go_wp2
  go_ret
  exact ⟨rfl, below_new _ _⟩
theorem eg21 : ∀ args w, (callFunc 21 args).run Tryd.prog w = .ok (.enter 21 args) w := enters_own Tryd.func21 (by kernel_rfl) rfl
theorem indexOrder (c : Cs) (v : Value) (cs : List Comp) (B : Nat) (w : World) (hc : w.cell? ⟨B, 2, none⟩ = some (i c.k)) (h : CompsAt w v cs) {n : Int} (hn : idxV (isK c.k) cs = n) :
    Calls Tryd.prog 20 #[v, .func (.func 21) #[] #[.pointer (some ⟨B, 0, none⟩)]] w fun e w' => e = .returned (i n) ∧ Below w.heap.size w w' := by
  subst hn
  refine indexFunc (isK c.k) _ _ eg21 v cs w (fun W x hb => ?_) h
  exact (order1 c x B W (Kept.of hb _ _ hc)).mono fun _ _ ⟨he, hb'⟩ => ⟨he, below_call hb hb'⟩

def hitE (c : Cs) (e : Elem) : Option Comp := elemC (fun x => Tar.holds x c.z c.s c.a c.since c.en c.po) c.k e
def fndL (c : Cs) (es : List Elem) : Option Comp := findC (fun x => Tar.holds x c.z c.s c.a c.since c.en c.po) c.k es
theorem fndL_front (c : Cs) (e : Elem) (es : List Elem) : fndL c (e :: es) = (match hitE c e with | some q => some q | none => fndL c es) := by
  unfold fndL findC hitE
  rw [List.findSome?_cons]
  split <;> simp_all
theorem fndL_end (c : Cs) (e : Elem) (es : List Elem) : fndL c (es ++ [e]) = (match fndL c es with | some q => some q | none => hitE c e) := by
  unfold fndL findC hitE
  rw [List.findSome?_append]
  cases List.findSome? (elemC (fun x => Tar.holds x c.z c.s c.a c.since c.en c.po) c.k) es with
  | some q => rfl
  | none => simp

def TwoT (W : World) (t : Trf) (v : Value) (s9 s10 : Value) (wc : World) : Prop := ∃ g9 g10, s9 = .pointer (some ⟨g9, 0, none⟩) ∧ s10 = .pointer (some ⟨g10, 0, none⟩) ∧ g9 ≠ g10 ∧ W.heap.size ≤ g9 ∧ W.heap.size ≤ g10 ∧
  Blk wc g9 26 (trfA t v) ∧ Blk wc g10 26 (trfA t v) ∧ Below W.heap.size W wc

abbrev elA (v : Value) (x : Tar.Wh) : Array Value := #[v, i x.s, i x.e, i x.d, i x.f, i x.t, i x.e0, i x.e1, i x.p0, i x.p1, i x.t0, i x.t1]
def ordΦ (B : Nat) (w0 : World) (v : Value) (es : List Elem) (ev : Array Value) (g0 : Nat) (k : Nat) (y : Value) (w : World) : Prop := match k with
  | 0 => y = .pointer (some ⟨g0, 5, none⟩)
  | 1 => y = v
  | 2 => ∃ A c, y = .slice A es.length c ∧ OwnsE0 B w0 w y es
  | 3 => y = .agg ev
  | 4 => ∃ g, y = .slice (some ⟨g, 0, none⟩) 1 1 ∧ B ≤ g ∧ Blk w g 49 ev
  | _ => True
theorem ordΦ_keep {B : Nat} {w0 : World} {v : Value} {es : List Elem} {ev : Array Value} {g0 : Nat} {w w' : World} (h : Below w.heap.size w w') : ∀ k u, ordΦ B w0 v es ev g0 k u w → ordΦ B w0 v es ev g0 k u w' := by
  intro k u hk
  unfold ordΦ at *
  split at hk
  · exact hk
  · exact hk
  · obtain ⟨A, c, a, rs, b, d⟩ := hk
    exact ⟨A, c, a, rs, own_keep b (KeepsT.below h), d⟩
  · exact hk
  · obtain ⟨g, a, hB, b⟩ := hk
    exact ⟨g, a, hB, b.call h⟩
  · trivial
theorem rows_snoc {α : Type} {R : List Value → α → Prop} {size : Nat} {r : List Value} {x : α} {rs : List (List Value)} {xs : List α} (hr : RowsOf R size rs xs) (hl : r.length = size) (h : R r x) : RowsOf R size (rs ++ [r]) (xs ++ [x]) := by
  refine ⟨by simp [hr.1], fun j r' x' h1 h2 => ?_⟩
  by_cases hj : j < rs.length
  · rw [List.getElem?_append_left hj] at h1
    rw [List.getElem?_append_left (by rw [← hr.1]; exact hj)] at h2
    exact hr.2 j r' x' h1 h2
  · rw [List.getElem?_append_right (by omega)] at h1
    rw [List.getElem?_append_right (by rw [← hr.1]; omega), ← hr.1] at h2
    have h0 : j - rs.length = 0 := by
      rcases Nat.eq_zero_or_pos (j - rs.length) with h0 | h0
      · exact h0
      · rw [List.getElem?_eq_none (by simp; omega)] at h1; cases h1
    rw [h0] at h1 h2
    have e1 : r = r' := by simpa using h1
    have e2 : x = x' := by simpa using h2
    subst e1; subst e2
    exact ⟨hl, h⟩
theorem one_el (A : Option Addr) (n c : Nat) (x : Tar.Wh) : ∀ u ∈ (elA (.slice A n c) x).toList, u.oneCell' = true := by
  intro u hu
  simp at hu
  rcases hu with rfl | rfl | rfl | rfl | rfl | rfl | rfl | rfl | rfl | rfl | rfl | rfl <;> rfl
theorem cells_of_blk {w : World} {g : Nat} {t : TypeId} {cs : Array Value} (h : Blk w g t cs) : ∀ j u, cs.toList[j]? = some u → w.cell? ((⟨g, 0, none⟩ : Addr).add j) = some u := by
  intro j u hu
  rw [Addr.add_lit, Nat.zero_add, h.cell j]
  simpa using hu
theorem blk_grown {w w' : World} {g g' : Nat} {t : TypeId} {cs : Array Value} (h : Blk w g t cs) (hb : w.grownBy w' (some g')) (hg : g ≠ g') : Blk w' g t cs := (hb.block g h.lt (fun e => hg (by injection e))).trans h
/-- Behind 'front.Elements = append([]api.Element{x}, t.Elements...)'. -/
def FrontR (W : World) (t : Trf) (x : Elem) (g : Nat) (wc : World) : Prop := ∃ y, Blk wc g 26 (trfA t y) ∧ ElemsAt wc y (x :: t.els) ∧ (∃ A n c, y = .slice A n c) ∧ W.grownBy wc (some g)
/-- Behind 'end.Elements = append(slices.Clone(t.Elements), x)'. -/
def EndR (w0 W : World) (t : Trf) (x : Elem) (g9 : Nat) (wc : World) : Prop := ∃ y, Blk wc g9 26 (trfA t y) ∧ OwnsE0 W.heap.size w0 wc y (t.els ++ [x]) ∧ (∃ A n c, y = .slice A n c) ∧ W.grownBy wc (some g9)

set_option maxRecDepth 100000 in
set_option maxHeartbeats 8000000 in
theorem law_order (t : Trf) (u : Value) (x : Elem) (ux : Value) (c : Cs) (w : World) (ht : Tab w) (he : ElemsAt w u t.els) (h1 : t.id.size ≤ maxLen) (h2 : t.cur.size ≤ maxLen) (hx : CompsAt w ux x.cs) :
    Calls Tryd.prog 7 #[trfV t u, elemV ux x.wh, .agg (caseA c)] w fun e w' => e = .returned (.bool true) ∧ Below w.heap.size w w' := by
  obtain ⟨A, k, rfl, m1, m2⟩ := SliceAt.form he
  obtain ⟨Ax, kx, rfl, m3, m4⟩ := SliceAt.form hx
  unfold maxLen at m2 m4
  have hB := below_alloc (below_alloc (below_new w (.cells (trfA t (.slice A t.els.length k)) 26)) (.cells #[.slice Ax x.cs.length kx, i x.wh.s, i x.wh.e, i x.wh.d, i x.wh.f, i x.wh.t, i x.wh.e0, i x.wh.e1, i x.wh.p0, i x.wh.p1, i x.wh.t0, i x.wh.t1] 49)) (.cells (caseA c) 36)
  have k0 := ((Blk.new w 26 (trfA t (.slice A t.els.length k))).alloc (.cells #[.slice Ax x.cs.length kx, i x.wh.s, i x.wh.e, i x.wh.d, i x.wh.f, i x.wh.t, i x.wh.e0, i x.wh.e1, i x.wh.p0, i x.wh.p1, i x.wh.t0, i x.wh.t1] 49)).alloc (.cells (caseA c) 36)
  have k1 := (Blk.newG (w := w.alloc (.cells (trfA t (.slice A t.els.length k)) 26)) (g := w.heap.size + 1) (by simp) 49 #[.slice Ax x.cs.length kx, i x.wh.s, i x.wh.e, i x.wh.d, i x.wh.f, i x.wh.t, i x.wh.e0, i x.wh.e1, i x.wh.p0, i x.wh.p1, i x.wh.t0, i x.wh.t1]).alloc (.cells (caseA c) 36)
  have k2 := Blk.newG (w := (w.alloc (.cells (trfA t (.slice A t.els.length k)) 26)).alloc (.cells #[.slice Ax x.cs.length kx, i x.wh.s, i x.wh.e, i x.wh.d, i x.wh.f, i x.wh.t, i x.wh.e0, i x.wh.e1, i x.wh.p0, i x.wh.p1, i x.wh.t0, i x.wh.t1] 49)) (g := w.heap.size + 1 + 1) (by simp) 36 (caseA c)
  have hT := ht.below hB ht.lt
  have hE := he.call hB
  have HB := Lib.hid (fun W hx => big_ t (.slice A t.els.length k) W hx h1 h2)
  have HT0 := Lib.hid ht
  clear h1 h2 ht
  go_enter Tryd.func7, Tryd.ntmps7
  go_wp2_with fail
  refine (HB.out _ hE).mono ?_
  rintro e w1 ⟨rfl, hb1⟩
  have HW0 := Lib.hid (And.intro he hx)
  have hB1 := below_call hB hb1
  have k01 := k0.call hb1
  have k11 := k1.call hb1
  have k21 := k2.call hb1
  have hT1 := hT.below hb1 hT.lt
  have c1 := k11.cell
  clear hB hb1 k0 k1 k2 hT hE HB he hx
  generalize w.heap.size + 1 + 1 = g2 at *
  generalize w.heap.size + 1 = g1 at *
  by_cases hbig : bigT t = true ∨ 24 < x.cs.length
  · cases hb : bigT t with
    | true =>
      clear hb hbig
      go_wp2_with fail
      refine (example_holds _ hT1).mono ?_
      rintro e w2 ⟨rfl, hb2⟩
      go_wp2_with fail
      go_ret
      exact ⟨rfl, below_call hB1 hb2⟩
    | false =>
      have zz : 24 < x.cs.length := by
        rcases hbig with h | h
        · rw [hb] at h; cases h
        · exact h
      have zz' : (24 : Int) < (x.cs.length : Int) := by omega
      clear hb hbig
      go_wp2_with fail
      refine (example_holds _ hT1).mono ?_
      rintro e w2 ⟨rfl, hb2⟩
      go_wp2_with fail
      go_ret
      exact ⟨rfl, below_call hB1 hb2⟩
  · obtain ⟨b1, b2⟩ : bigT t = false ∧ x.cs.length ≤ 24 := by
      constructor
      · cases hh : bigT t with
        | true => exact absurd (.inl hh) hbig
        | false => rfl
      · omega
    obtain ⟨z1, _, _, z4⟩ := bigT_small b1
    have zz : (x.cs.length : Int) ≤ 24 := by omega
    rw [b1]
    have HZ4 := Lib.hid z4
    clear z4 hbig b1
    have c0 := k01.cell
    have c2 := k21.cell
    go_wp2_with fail
    obtain ⟨o, ho⟩ : ∃ o, fndL c t.els = o := ⟨_, rfl⟩
    refine (lfind t _ c _ hT1 (HW0.out.1.call hB1) ho).mono ?_
    rintro e w2 ⟨he2, hb2⟩
    obtain ⟨q, hq⟩ : ∃ q, compO o = q := ⟨_, rfl⟩
    obtain ⟨b, hb⟩ : ∃ b, o.isSome = b := ⟨_, rfl⟩
    rw [hq, hb] at he2
    subst he2
    have HO := Lib.hid (And.intro ho (And.intro hq hb))
    clear ho hq hb
    have hb3 := below_alloc hb2 (.cells #[i q.kind, i q.price, i q.step, i q.tax] 40)
    have n7 := Blk.new w2 40 #[i q.kind, i q.price, i q.step, i q.tax]
    have k03 := k01.call hb3
    have k13 := k11.call hb3
    have k23 := k21.call hb3
    have hT3 := hT1.below hb3 hT1.lt
    have hB3 := below_call hB1 hb3
    clear c0 c1 c2 k01 k11 k21 hT1 hB1 hb2 hb3
    go_upto_region 4 with (fail)
    generalize w2.alloc (.cells #[i q.kind, i q.price, i q.step, i q.tax] 40) = W3 at *
    generalize w2.heap.size = g7 at *
    go_cut [9, 10] (fun s9 s10 wc => TwoT W3 t (.slice A t.els.length k) s9 s10 wc)
    case first =>
      have c0 := k03.cell
      have l0 := k03.lt
      have hne0 : w.heap.size ≠ W3.heap.size := by omega
      have hne1 : w.heap.size ≠ W3.heap.size + 1 := by omega
      go_region
      · go_wp2_with fail
        go_meet
        exact ⟨_, _, rfl, rfl, by omega, by omega, by omega, Blk.drew ((Blk.new W3 26 (trfA t (.slice A t.els.length k))).alloc _), Blk.drew (Blk.newG (by simp) _ _), Below.drew (below_alloc (below_new _ _) _)⟩
      · go_wp2_with fail
        go_meet
        exact ⟨_, _, rfl, rfl, by omega, by omega, by omega, Blk.drew (Blk.newG (by simp) _ _), Blk.drew ((Blk.new W3 26 (trfA t (.slice A t.els.length k))).alloc _), Below.drew (below_alloc (below_new _ _) _)⟩
    case rest =>
      obtain ⟨g9, g10, rfl, rfl, hne, hl9, hl10, b9, b10, hbw⟩ := hcut
      have k04 := k03.call hbw
      have k14 := k13.call hbw
      have k24 := k23.call hbw
      have n74 := n7.call hbw
      have hT4 := hT3.below hbw hT3.lt
      have hB4 := below_call hB3 hbw
      have hw9 : w.heap.size ≤ g9 := Nat.le_trans hB3.size hl9
      have hw10 : w.heap.size ≤ g10 := Nat.le_trans hB3.size hl10
      have e0 : w.heap.size ≠ g9 ∧ w.heap.size ≠ g10 := by have := k03.lt; omega
      have e1 : g1 ≠ g9 ∧ g1 ≠ g10 := by have := k13.lt; omega
      have e2 : g2 ≠ g9 ∧ g2 ≠ g10 := by have := k23.lt; omega
      have e7 : g7 ≠ g9 ∧ g7 ≠ g10 := by have := n7.lt; omega
      clear k03 k13 k23 n7 hT3 hB3
      go_upto_region 5 with (fail)
      have hln : t.els.length ≤ 65536 := by omega
      obtain ⟨w4, rfl⟩ : ∃ w4 : World, w4 = wc := ⟨_, rfl⟩
      go_cut [38] (fun s38 wd => EndR w w4 t x g9 wd)
      case first =>
        have hX : SliceAt (ElemR w) 12 w4 (.slice A t.els.length k) t.els := SliceAt.keep HW0.out.1 (Kept.of hB4) (fun _ _ h => h)
        refine Reg2.region 5 (fun w' => Below w4.heap.size w4 w') (ordΦ w4.heap.size w (.slice A t.els.length k) t.els (elA (.slice Ax x.cs.length kx) x.wh) w.heap.size) (by kernel_rfl) (by kernel_rfl) ?_ (Below.drew (Below.refl _ _)) ?_ ?_
        · exact Reg2.in_of (n := 104) (by kernel_rfl) rfl
        · intro j o hj ho a' w' hG hop
          have hj' : j = 0 ∨ j = 1 ∨ j = 2 ∨ j = 3 ∨ j = 4 := by omega
          have bc := (k04.call hG).cell
          have xc := (k14.call hG).cell
          rcases hj' with rfl | rfl | rfl | rfl | rfl
          all_goals
            obtain rfl := Option.some.inj ho
            clear ho hj
          · have h3 : a'.tmps[3]?.getD undef = .pointer (some ⟨w.heap.size, 0, none⟩) := (Array.getD_eq_getD_getElem? ..).symm.trans (hop 3 (by simp [Op.operands]))
            go_simp
            exact ⟨hG, rfl, fun _ _ _ h => h⟩
          · have h33 : a'.tmps[33]?.getD undef = .pointer (some ⟨w.heap.size, 5, none⟩) := (Array.getD_eq_getD_getElem? ..).symm.trans (hop 33 (by simp [Op.operands]))
            go_simp
            exact ⟨hG, rfl, fun _ _ _ h => h⟩
          · have h34 : a'.tmps[34]?.getD undef = .slice A t.els.length k := (Array.getD_eq_getD_getElem? ..).symm.trans (hop 34 (by simp [Op.operands, Call.operands]))
            go_simp
            refine (cloneE w _ t.els _ (SliceAt.keep hX (Kept.of hG) (fun _ _ h => h)) hln).mono ?_
            rintro e w'' ⟨y, rfl, hy, hby⟩
            obtain ⟨Ay, cy, rfl, _, _⟩ := SliceAt.form (hy.at_ (Kept.of (below_call (below_call hB4 hG) hby)))
            obtain ⟨rs, o1, o2⟩ := hy
            exact ⟨_, rfl, below_call hG hby, ⟨Ay, cy, rfl, rs, own_base o1 hG.size, o2⟩, fun k u _ h => ordΦ_keep hby k u h⟩
          · have h4 : a'.tmps[4]?.getD undef = .pointer (some ⟨g1, 0, none⟩) := (Array.getD_eq_getD_getElem? ..).symm.trans (hop 4 (by simp [Op.operands]))
            go_simp
            exact ⟨hG, rfl, fun _ _ _ h => h⟩
          · have h36 : a'.tmps[36]?.getD undef = .agg (elA (.slice Ax x.cs.length kx) x.wh) := (Array.getD_eq_getD_getElem? ..).symm.trans (hop 36 (by simp [Op.operands]))
            go_simp
            exact ⟨below_alloc hG _, ⟨_, rfl, hG.size, Blk.new _ _ _⟩, fun k u _ h => ordΦ_keep (below_new _ _) k u h⟩
        · intro vals w' hG hΦ
          obtain ⟨Ay, cy, hv2, rs, o1, o2⟩ := hΦ 2 (by omega)
          obtain ⟨g, hv4, hBg, bg⟩ := hΦ 4 (by omega)
          have hv0 : vals 0 = .pointer (some ⟨w.heap.size, 5, none⟩) := hΦ 0 (by omega)
          have hv1 : vals 1 = .slice A t.els.length k := hΦ 1 (by omega)
          have hv3 : vals 3 = .agg (elA (.slice Ax x.cs.length kx) x.wh) := hΦ 3 (by omega)
          rw [hv2] at o1
          obtain ⟨i0, hi0, hz0, hz1, hz2⟩ := info_parts infoE
          have HO1 := Lib.hid o1
          have HBG := Lib.hid (cells_of_blk bg)
          have HO2 := Lib.hid o2
          simp only [Reg2.puts, Reg2.dstOf, List.range, List.range.loop, hv0, hv1, hv2, hv3, hv4, if_true, List.drop_succ_cons, List.drop_zero]
          clear hv0 hv1 hv2 hv3 hv4 o1 o2 hΦ
          go_wp2_with (at_builtin; refine wpList_append_own _ rfl (.tmp 35) (.tmp 37) 24 rfl w4.heap.size 49 i0 _ 12 112 Tryd.underlying24 hi0 hz0 hz1 hz2 rfl (by omega) (.slice Ay t.els.length cy) t.els.length rs.flatten rfl HO1.out ⟨g, 0, none⟩ 1 1 (elA (.slice Ax x.cs.length kx) x.wh).toList rfl rfl HBG.out (one_el _ _ _ _) (by simp only [maxLen]; omega) (by omega) hG.size ?_)
          intro v' w2 hown2 hgr _
          have hown3 := hown2
          rcases hown3.2 with ⟨_, h0⟩ | ⟨gy, capy, cury, rfl, hy⟩
          · exact absurd h0 (by omega)
          clear hy hown3
          have hbel : Below w4.heap.size w4 w2 := hG.grown hgr hG.size (fun q hq => (HO1.out.lt q hq).1)
          have b92 := b9.call hbel
          have fc := b92.cell
          have ff := b92.frozen
          have HOWN : Hid (w2.ownsRow w4.heap.size 49 12 (.slice (some ⟨gy, 0, none⟩) (t.els.length + 1) capy) (t.els.length + 1) (rs.flatten ++ (elA (.slice Ax x.cs.length kx) x.wh).toList)) := hown2
          clear hown2 hgr
          have hbw3 := (below_call hB4 hbel).setCell (p := ⟨g9, 5, none⟩) hw9 (.slice (some ⟨gy, 0, none⟩) (t.els.length + 1) capy)
          have HK := Lib.hid (Kept.of hbw3)
          have b93 : Blk (w2.setCell ⟨g9, 5, none⟩ (.slice (some ⟨gy, 0, none⟩) (t.els.length + 1) capy)) g9 26 (trfA t (.slice (some ⟨gy, 0, none⟩) (t.els.length + 1) capy)) := b92.set_ 5 _
          have hgrow : w4.grownBy (w2.setCell ⟨g9, 5, none⟩ (.slice (some ⟨gy, 0, none⟩) (t.els.length + 1) capy)) (some g9) :=
            ⟨hbel.os, hbel.tape, hbel.output, by simpa [World.setCell] using hbel.size, fun q hq hne => (Below.heap_setCell w2 ⟨g9, 5, none⟩ _ q (fun e => hne (by rw [e]))).trans (hbel.block q hq)⟩
          have HEND : Hid (EndR w w4 t x g9 (w2.setCell ⟨g9, 5, none⟩ (.slice (some ⟨gy, 0, none⟩) (t.els.length + 1) capy))) := by
            refine ⟨_, b93, ⟨rs ++ [(elA (.slice Ax x.cs.length kx) x.wh).toList], ?_, rows_snoc HO2.out rfl ⟨_, rfl, HW0.out.2⟩⟩, ⟨_, _, _, rfl⟩, hgrow⟩
            rw [show (t.els ++ [x]).length = t.els.length + 1 by simp, List.flatten_append, List.flatten_cons, List.flatten_nil, List.append_nil]
            exact own_keep HOWN.out (KeepsT.set_ b92 (by decide) 5 _)
          clear HK b93 hgrow hbw3
          go_wp2_with fail
          go_meet
          exact HEND.out
      case rest =>
        obtain ⟨y, b95, hEnd, ⟨Ay, ny, cy, rfl⟩, hgr⟩ := hcut
        obtain ⟨w5, rfl⟩ : ∃ w5 : World, w5 = wc := ⟨_, rfl⟩
        have k05 := blk_grown k04 hgr e0.1
        have k15 := blk_grown k14 hgr e1.1
        have k25 := blk_grown k24 hgr e2.1
        have n75 := blk_grown n74 hgr e7.1
        have b105 := blk_grown b10 hgr (fun e => hne e.symm)
        have hB5 : Below w.heap.size w w5 := hB4.grown hgr hB4.size (fun q hq => by injection hq with hq; omega)
        have HEnd := Lib.hid hEnd
        clear k04 k14 k24 n74 b10 b9 hgr hB4 hT4 hEnd
        have k0c := k05.cell
        have k1c := k15.cell
        have hl0 := k05.lt
        have hl1 := k15.lt
        go_upto_region 6 with (fail)
        go_cut [44] (fun s44 wd => FrontR w5 t x g10 wd)
        case first =>
          obtain ⟨i0, hi0, hz0, hz1, hz2⟩ := info_parts infoE
          rcases A with _ | ad
          · obtain ⟨A', c', hAc, _, hk3, hk4⟩ := SliceAt.form' HW0.out.1
            injection hAc with q1 q2 q3
            subst q1; subst q3
            have hk0 := hk4 rfl
            have hel : t.els = [] := List.eq_nil_of_length_eq_zero (by omega)
            subst hk0
            have HEL := Lib.hid hel
            have hL : t.els.length = 0 := by rw [hel]; rfl
            clear hel hk3 hk4 q2
            generalize t.els.length = L at *
            subst hL
            have HO1 := Lib.hid (World.ownsRow_lit (base := w5.heap.size) (e := 49) (size := 12) w5 (elA (.slice Ax x.cs.length kx) x.wh) 1 (Nat.le_refl _) (by simp [maxLen]) rfl)
            have hbel : Below w5.heap.size w5 (w5.alloc (.cells (elA (.slice Ax x.cs.length kx) x.wh) 49)) := below_new w5 _
            have b106 := b105.call hbel
            have fc := b106.cell
            have ff := b106.frozen
            have hbw3 := (below_call hB5 hbel).setCell (p := ⟨g10, 5, none⟩) hw10 (.slice (some ⟨w5.heap.size, 0, none⟩) 1 1)
            have HK := Lib.hid (Kept.of hbw3)
            have b93 : Blk ((w5.alloc (.cells (elA (.slice Ax x.cs.length kx) x.wh) 49)).setCell ⟨g10, 5, none⟩ (.slice (some ⟨w5.heap.size, 0, none⟩) 1 1)) g10 26 (trfA t (.slice (some ⟨w5.heap.size, 0, none⟩) 1 1)) := b106.set_ 5 _
            have hgrow : w5.grownBy ((w5.alloc (.cells (elA (.slice Ax x.cs.length kx) x.wh) 49)).setCell ⟨g10, 5, none⟩ (.slice (some ⟨w5.heap.size, 0, none⟩) 1 1)) (some g10) :=
              ⟨hbel.os, hbel.tape, hbel.output, by simp [World.setCell], fun q hq hne => (Below.heap_setCell _ ⟨g10, 5, none⟩ _ q (fun e => hne (by rw [e]))).trans (hbel.block q hq)⟩
            have HEND : Hid (FrontR w5 t x g10 ((w5.alloc (.cells (elA (.slice Ax x.cs.length kx) x.wh) 49)).setCell ⟨g10, 5, none⟩ (.slice (some ⟨w5.heap.size, 0, none⟩) 1 1))) := by
              refine ⟨_, b93, ?_, ⟨_, _, _, rfl⟩, hgrow⟩
              rw [HEL.out]
              refine SliceAt.of_own (rs := [(elA (.slice Ax x.cs.length kx) x.wh).toList]) (by omega) (own_keep (e := 49) (n := 1) (base := w5.heap.size) ?_ (KeepsT.set_ b106 (by decide) 5 _)) ?_ rfl
              · rw [List.flatten_cons, List.flatten_nil, List.append_nil]
                exact HO1.out
              · exact rows1 rfl ⟨_, rfl, HW0.out.2.keep HK.out⟩
            clear HK b93 hgrow hbw3
            go_wp2_with (at_builtin; refine wpList_append_own_none rfl (.tmp 41) (.tmp 43) 24 rfl w5.heap.size 49 i0 12 Tryd.underlying24 hi0 (.slice (some ⟨w5.heap.size, 0, none⟩) 1 1) 1 (elA (.slice Ax x.cs.length kx) x.wh).toList rfl HO1.out rfl ?_)
            go_meet
            exact HEND.out
          · obtain ⟨rs, hrs, hcells⟩ := SliceAt.rows (by omega) HW0.out.1
            have HR := Lib.hid hrs
            have HC := Lib.hid (hcells ad rfl)
            have HFL : Hid (rs.flatten.length = t.els.length * 12) := by rw [flat_len rs hrs.each, hrs.1]; rfl
            have HO := Lib.hid (flat_one hrs one_elem)
            clear hrs hcells
            go_wp2_with (at_builtin; refine wpList_append_own _ rfl (.tmp 41) (.tmp 43) 24 rfl w5.heap.size 49 i0 _ 12 112 Tryd.underlying24 hi0 hz0 hz1 hz2 rfl (by omega) (.slice (some ⟨w5.heap.size, 0, none⟩) 1 1) 1 (elA (.slice Ax x.cs.length kx) x.wh).toList rfl (World.ownsRow_lit w5 (elA (.slice Ax x.cs.length kx) x.wh) 1 (Nat.le_refl _) (by simp [maxLen]) rfl) ad t.els.length k rs.flatten rfl HFL.out ?c1 HO.out (by simp only [maxLen]; omega) (by omega) (by simp) ?_)
            case c1 =>
              intro j u hu
              exact Kept.of (below_alloc hB5 _) _ _ (HC.out j u hu)
            intro v' w6 hown2 hgr2 _
            have hown3 := hown2
            rcases hown3.2 with ⟨_, h0⟩ | ⟨gy, capy, cury, rfl, hy⟩
            · exact absurd h0 (by omega)
            clear hy hown3
            have hbel : Below w5.heap.size w5 w6 := (below_new w5 _).grown hgr2 (by simp) (by simp [Value.ownBlock])
            have b106 := b105.call hbel
            have fc := b106.cell
            have ff := b106.frozen
            have HOWN : Hid (w6.ownsRow w5.heap.size 49 12 (.slice (some ⟨gy, 0, none⟩) (1 + t.els.length) capy) (1 + t.els.length) ((elA (.slice Ax x.cs.length kx) x.wh).toList ++ rs.flatten)) := hown2
            clear hown2 hgr2
            have hbw3 := (below_call hB5 hbel).setCell (p := ⟨g10, 5, none⟩) hw10 (.slice (some ⟨gy, 0, none⟩) (1 + t.els.length) capy)
            have HK := Lib.hid (Kept.of hbw3)
            have b93 : Blk (w6.setCell ⟨g10, 5, none⟩ (.slice (some ⟨gy, 0, none⟩) (1 + t.els.length) capy)) g10 26 (trfA t (.slice (some ⟨gy, 0, none⟩) (1 + t.els.length) capy)) := b106.set_ 5 _
            have hgrow : w5.grownBy (w6.setCell ⟨g10, 5, none⟩ (.slice (some ⟨gy, 0, none⟩) (1 + t.els.length) capy)) (some g10) :=
              ⟨hbel.os, hbel.tape, hbel.output, by simpa [World.setCell] using hbel.size, fun q hq hne => (Below.heap_setCell w6 ⟨g10, 5, none⟩ _ q (fun e => hne (by rw [e]))).trans (hbel.block q hq)⟩
            have HEND : Hid (FrontR w5 t x g10 (w6.setCell ⟨g10, 5, none⟩ (.slice (some ⟨gy, 0, none⟩) (1 + t.els.length) capy))) := by
              refine ⟨_, b93, SliceAt.of_own (rs := (elA (.slice Ax x.cs.length kx) x.wh).toList :: rs) (by omega) (own_keep (e := 49) (n := 1 + t.els.length) (base := w5.heap.size) ?_ (KeepsT.set_ b106 (by decide) 5 _)) ?_ (by simp; omega), ⟨_, _, _, rfl⟩, hgrow⟩
              · rw [List.flatten_cons]
                exact HOWN.out
              · exact rowsC rfl ⟨_, rfl, HW0.out.2.keep HK.out⟩ ⟨HR.out.1, fun j r e hr he => ⟨(HR.out.2 j r e hr he).1, (HR.out.2 j r e hr he).2.keep HK.out⟩⟩
            clear HK b93 hgrow hbw3
            go_wp2_with fail
            go_meet
            exact HEND.out
        case rest =>
          obtain ⟨yf, b10f, hFr, ⟨Af, nf, cf, rfl⟩, hgr6⟩ := hcut
          obtain ⟨w6, rfl⟩ : ∃ w6 : World, w6 = wc := ⟨_, rfl⟩
          have k16 := blk_grown k15 hgr6 e1.2
          have k26 := blk_grown k25 hgr6 e2.2
          have n76 := blk_grown n75 hgr6 e7.2
          have b96 := blk_grown b95 hgr6 hne
          have hB6 : Below w.heap.size w w6 := hB5.grown hgr6 hB5.size (fun q hq => by injection hq with hq; omega)
          have hT6 := HT0.out.below hB6 HT0.out.lt
          have hKE : KeepsT 49 w5 w6 := fun q cur hq => (hgr6.block q (Array.getElem?_eq_some_iff.1 hq).1 (fun e => by injection e with e; subst e; exact blk_ne b105 hq (by decide))).trans hq
          have hE6 : ElemsAt w6 (.slice Ay ny cy) (t.els ++ [x]) := by
            obtain ⟨rs, o1, o2⟩ := HEnd.out
            exact OwnsE0.at_ ⟨rs, own_keep o1 hKE, o2⟩ (Kept.of hB6)
          have HF6 := Lib.hid hFr
          clear k05 k15 k25 n75 b95 b105 hgr6 hB5 hKE k0c k1c hl0 hl1 HEnd hFr
          obtain ⟨qE, bE, hqE⟩ : ∃ qE bE, compO (fndL c (t.els ++ [x])) = qE ∧ (fndL c (t.els ++ [x])).isSome = bE := ⟨_, _, rfl, rfl⟩
          have HE7 : Hid (b = true → qE = q ∧ bE = true) := by
            intro hbt
            obtain ⟨h1, h2, h3⟩ := HO.out
            rw [fndL_end, h1] at hqE
            cases o with
            | none => rw [← h3] at hbt; cases hbt
            | some q0 => exact ⟨hqE.1.symm.trans h2, hqE.2.symm⟩
          have HL7 : Hid (∀ W, Tab W → ElemsAt W (.slice Ay ny cy) (t.els ++ [x]) → Calls Tryd.prog 16 #[trfV t (.slice Ay ny cy), .agg (caseA c)] W fun e w' => e = .returned (.tuple #[compV qE, .bool bE]) ∧ Below W.heap.size W w') := by
            intro W h1 h2
            have := lfind ⟨t.id, t.cur, t.ver, t.fr, t.to, t.els ++ [x], t.least, t.most⟩ _ c W h1 h2 rfl
            refine this.mono fun e w' hp => ?_
            have hp' : e = .returned (.tuple #[compV (compO (fndL c (t.els ++ [x]))), .bool (fndL c (t.els ++ [x])).isSome]) ∧ Below W.heap.size W w' := hp
            rw [hqE.1, hqE.2] at hp'
            exact hp'
          clear hqE
          obtain ⟨qF, bF, hqF⟩ : ∃ qF bF, compO (fndL c (x :: t.els)) = qF ∧ (fndL c (x :: t.els)).isSome = bF := ⟨_, _, rfl, rfl⟩
          have HL9 : Hid (∀ W, Tab W → ElemsAt W (.slice Af nf cf) (x :: t.els) → Calls Tryd.prog 16 #[trfV t (.slice Af nf cf), .agg (caseA c)] W fun e w' => e = .returned (.tuple #[compV qF, .bool bF]) ∧ Below W.heap.size W w') := by
            intro W h1 h2
            have := lfind ⟨t.id, t.cur, t.ver, t.fr, t.to, x :: t.els, t.least, t.most⟩ _ c W h1 h2 rfl
            refine this.mono fun e w' hp => ?_
            have hp' : e = .returned (.tuple #[compV (compO (fndL c (x :: t.els))), .bool (fndL c (x :: t.els)).isSome]) ∧ Below W.heap.size W w' := hp
            rw [hqF.1, hqF.2] at hp'
            exact hp'
          have HNO : Hid (hitE c x = none → qF = q ∧ bF = b) := by
            intro hn
            obtain ⟨h1, h2, h3⟩ := HO.out
            rw [fndL_front, hn, h1] at hqF
            exact ⟨hqF.1.symm.trans h2, hqF.2.symm.trans h3⟩
          have HYES : Hid (∀ q0, hitE c x = some q0 → qF = q0 ∧ bF = true) := by
            intro q0 hn
            rw [fndL_front, hn] at hqF
            exact ⟨hqF.1.symm, hqF.2.symm⟩
          clear hqF
          have hcase : (b = true ∧ qE = q ∧ bE = true) ∨ b = false := by
            cases hbb : b with
            | true => exact .inl ⟨rfl, HE7.out hbb⟩
            | false => exact .inr rfl
          clear HE7 HO
          rcases hcase with ⟨rfl, rfl, rfl⟩ | rfl
          all_goals
            have c9 := b96.cell
            have c5 := k26.cell
            go_wp2_with fail
            refine (HL7.out _ hT6 hE6).mono ?_
            rintro e w7 ⟨rfl, hb7⟩
            have hb8 := below_alloc hb7 (.cells #[i qE.kind, i qE.price, i qE.step, i qE.tax] 40)
            have n11 := Blk.new w7 40 #[i qE.kind, i qE.price, i qE.step, i qE.tax]
            have k18 := k16.call hb8
            have k28 := k26.call hb8
            have n78 := n76.call hb8
            have b108 := b10f.call hb8
            have hF8 := HF6.out.call hb8
            have hB8 := below_call hB6 hb8
            have hT8 := hT6.below hb8 hT6.lt
            clear c9 c5 k16 k26 n76 b10f b96 HF6 hB6 hT6 hE6 hb7 hb8 HL7
            go_upto_region 8 with (fail)
            generalize w7.alloc (.cells #[i qE.kind, i qE.price, i qE.step, i qE.tax] 40) = w8 at *
            generalize w7.heap.size = g11 at *
            have d7 := n78.cell
            have d11 := n11.cell
            have hq := fun W => neqComp qE W
            have c10 := b108.cell
            have c5 := k28.cell
            go_wp2_with fail
            refine (HL9.out _ hT8 hF8).mono ?_
            rintro e w9 ⟨rfl, hb9⟩
            have hb10 := below_alloc hb9 (.cells #[i qF.kind, i qF.price, i qF.step, i qF.tax] 40)
            have n13 := Blk.new w9 40 #[i qF.kind, i qF.price, i qF.step, i qF.tax]
            have k1A := k18.call hb10
            have k2A := k28.call hb10
            have n7A := n78.call hb10
            have hBA := below_call hB8 hb10
            have hTA := hT8.below hb10 hT8.lt
            clear d7 d11 hq c10 c5 k18 k28 n78 b108 hF8 hB8 hT8 hb9 hb10 HL9 n11
            go_upto_region 11 with (fail)
            generalize w9.alloc (.cells #[i qF.kind, i qF.price, i qF.step, i qF.tax] 40) = wA at *
            generalize w9.heap.size = g13 at *
            have c1 := k1A.cell
            have hcA := HW0.out.2.call hBA
            rcases idx_cases (isK c.k) x.cs with ⟨hx, hi⟩ | ⟨n, hn, hx, hi⟩
            · have HX := Lib.hid (elemC_none (P := fun y => Tar.holds y c.z c.s c.a c.since c.en c.po) (e := x) hx)
              have HI := Lib.hid hi
              clear hx hi
              go_wp2_with fail
              refine (indexOrder c _ x.cs _ _ (k2A.cell 2) hcA HI.out).mono ?_
              rintro e wB ⟨rfl, hbB⟩
              have d7 := (n7A.call hbB).cell
              have d13 := (n13.call hbB).cell
              have hTB := hTA.below hbB hTA.lt
              obtain ⟨rfl, rfl⟩ := HNO.out HX.out
              clear c1 hcA HNO HYES
              have hq := fun W => eqComp qF W
              go_wp2_with fail
              refine (example_holds _ hTB).mono ?_
              rintro e wC ⟨rfl, hbC⟩
              go_wp2_with fail
              go_ret
              exact ⟨rfl, below_call (below_call hBA hbB) hbC⟩
            · cases hh : hold x.wh c with
              | false =>
                have HX : Hid (hitE c x = none) := elemC_no (P := fun y => Tar.holds y c.z c.s c.a c.since c.en c.po) hh
                have HI := Lib.hid hi
                have HH := Lib.hid hh
                clear hx hi hh
                go_wp2_with fail
                refine (indexOrder c _ x.cs _ _ (k2A.cell 2) hcA HI.out).mono ?_
                rintro e wB ⟨rfl, hbB⟩
                have c1B := (k1A.call hbB).cell
                have c2B := (k2A.call hbB).cell
                have hTB := hTA.below hbB hTA.lt
                clear c1 hcA
                go_wp2_with fail
                refine (lholds x.wh c _ hTB HH.out).mono ?_
                rintro e wC ⟨rfl, hbC⟩
                have d7 := ((n7A.call hbB).call hbC).cell
                have d13 := ((n13.call hbB).call hbC).cell
                have hTC := hTB.below hbC hTB.lt
                obtain ⟨rfl, rfl⟩ := HNO.out HX.out
                clear c1B c2B HNO HYES
                have hq := fun W => eqComp qF W
                go_wp2_with fail
                refine (example_holds _ hTC).mono ?_
                rintro e wD ⟨rfl, hbD⟩
                go_wp2_with fail
                go_ret
                exact ⟨rfl, below_call (below_call (below_call hBA hbB) hbC) hbD⟩
              | true =>
                have HX : Hid (hitE c x = some x.cs[n]) := (elemC_yes (P := fun y => Tar.holds y c.z c.s c.a c.since c.en c.po) hh).trans hx
                have HI := Lib.hid hi
                have HH := Lib.hid hh
                clear hx hi hh
                go_wp2_with fail
                refine (indexOrder c _ x.cs _ _ (k2A.cell 2) hcA HI.out).mono ?_
                rintro e wB ⟨rfl, hbB⟩
                have c1B := (k1A.call hbB).cell
                have c2B := (k2A.call hbB).cell
                have hTB := hTA.below hbB hTA.lt
                clear c1
                go_wp2_with fail
                refine (lholds x.wh c _ hTB HH.out).mono ?_
                rintro e wC ⟨rfl, hbC⟩
                have hBC := below_call (below_call hBA hbB) hbC
                have k1C := (k1A.call hbB).call hbC
                have n13C := (n13.call hbB).call hbC
                have hTC := hTB.below hbC hTB.lt
                clear c1B c2B hcA HNO
                have hnz : (n : Int) < (x.cs.length : Int) := by omega
                have hn0 : (0 : Int) ≤ (n : Int) := by omega
                obtain ⟨bc, oc, rfl, _, hrow⟩ := CompsAt.at_ HW0.out.2 hn
                have HROW := Lib.hid (fun W hb => hrow W (Kept.of (below_call hBC hb)))
                clear hrow
                have HY := Lib.hid (HYES.out _ HX.out)
                clear HYES HX
                generalize x.cs[n] = y at *
                obtain ⟨rfl, rfl⟩ := HY.out
                have hS : ∀ w', Below wC.heap.size wC w' → (∀ o, w'.cell? ⟨g13, o, none⟩ = (#[i qF.kind, i qF.price, i qF.step, i qF.tax] : Array Value)[o]?) ∧ w'.cell? ⟨g1, 0, none⟩ = some (.slice (some ⟨bc, oc, none⟩) x.cs.length kx) ∧
                    w'.cell? ⟨bc, oc + n * 4, none⟩ = some (i qF.kind) ∧ w'.cell? ⟨bc, oc + n * 4 + 1, none⟩ = some (i qF.price) ∧ w'.cell? ⟨bc, oc + n * 4 + 2, none⟩ = some (i qF.step) ∧ w'.cell? ⟨bc, oc + n * 4 + 3, none⟩ = some (i qF.tax) ∧ FinT wC w' :=
                  fun w' hb => ⟨(n13C.call hb).cell, (k1C.call hb).cell 0, (HROW.out w' hb).1, (HROW.out w' hb).2.1, (HROW.out w' hb).2.2.1, (HROW.out w' hb).2.2.2, hTC.below hb hTC.lt, hb⟩
                have HS := Lib.hid hS
                have hq := fun W => eqComp qF W
                clear hS n13C k1C hTC n13 k1A k2A n7A hTA hTB HY
                go_wp2_with fail
                go_region_held3 (fun w' => (∀ o, w'.cell? ⟨g13, o, none⟩ = (#[i qF.kind, i qF.price, i qF.step, i qF.tax] : Array Value)[o]?) ∧ w'.cell? ⟨g1, 0, none⟩ = some (.slice (some ⟨bc, oc, none⟩) x.cs.length kx) ∧
                    w'.cell? ⟨bc, oc + n * 4, none⟩ = some (i qF.kind) ∧ w'.cell? ⟨bc, oc + n * 4 + 1, none⟩ = some (i qF.price) ∧ w'.cell? ⟨bc, oc + n * 4 + 2, none⟩ = some (i qF.step) ∧ w'.cell? ⟨bc, oc + n * 4 + 3, none⟩ = some (i qF.tax) ∧ FinT wC w')
                  (first | exact HS.out _ (below_drewN' (Below.refl _ _) _) | exact HS.out _ (Below.drew (Below.refl _ _)) | (go_split_ands; exact HS.out _ (below_call (FinT.below (W := wC) (by assumption)) hbx)))
                  (first | (go_at_call 11; go_split_ands; refine (example_holds _ (FinT.tab (W := wC) (by assumption))).mono ?_; rintro e wx ⟨rfl, hbx⟩))
                go_split_ands
                have hfin := FinT.below (W := wC) (w' := wx) (by assumption)
                go_wp2_with fail
                go_ret
                exact ⟨rfl, below_call hBC hfin⟩
end TarW
end Go.Proofs.YtkooekdcegfapaaDoor
