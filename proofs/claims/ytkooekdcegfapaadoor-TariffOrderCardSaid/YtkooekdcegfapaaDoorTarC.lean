/-
  slices.Clone at components and at elements; tariff.clone.
-/
import Derived.Test.YtkooekdcegfapaaDoorTarD
import Derived.Test.YtkooekdcegfapaaDoorTarH
import Derived.WalkSpells
import Derived.OwnWalk
import Derived.Deep.RegionHeld3
import Derived.Deep.LoopGhost
namespace Go.Proofs.YtkooekdcegfapaaDoor
namespace TarW
set_option linter.unusedSimpArgs false
set_option linter.unusedVariables false
open Go.RowKit CalW

theorem infoC : (Tryd.prog.info? 40).map (fun i => (i.zero, i.size, i.bytes)) = some (some (.agg #[.int .i64 0, .int .i64 0, .int .i64 0, .int .i64 0]), 4, 32) := by kernel_rfl
theorem infoE : (Tryd.prog.info? 49).map (fun i => (i.zero, i.size, i.bytes)) = some (some (.agg #[.slice none 0 0, .int .i64 0, .int .i64 0, .int .i64 0, .int .i64 0, .int .i64 0, .int .i64 0, .int .i64 0, .int .i64 0, .int .i64 0, .int .i64 0, .int .i64 0]), 12, 112) := by kernel_rfl

theorem flat_one {α : Type} {R : List Value → α → Prop} {size : Nat} {rs : List (List Value)} {xs : List α} (h : RowsOf R size rs xs) (hR : ∀ r x, R r x → ∀ u ∈ r, u.oneCell' = true) : ∀ u ∈ rs.flatten, u.oneCell' = true := by
  intro u hu
  obtain ⟨r, hr, hur⟩ := List.mem_flatten.1 hu
  obtain ⟨j, hj, rfl⟩ := List.getElem_of_mem hr
  exact hR _ _ (h.2 j rs[j] (xs[j]'(by rw [← h.1]; exact hj)) (List.getElem?_eq_getElem hj) (List.getElem?_eq_getElem _)).2 u hur
theorem one_comp (r : List Value) (x : Comp) (h : CompR r x) : ∀ u ∈ r, u.oneCell' = true := by
  unfold CompR compL at h
  subst h
  intro u hu
  simp at hu
  rcases hu with rfl | rfl | rfl | rfl <;> rfl
theorem one_elem {w : World} (r : List Value) (x : Elem) (h : ElemR w r x) : ∀ u ∈ r, u.oneCell' = true := by
  obtain ⟨v, rfl, hv⟩ := h
  obtain ⟨A, c, rfl, _, _⟩ := SliceAt.form hv
  intro u hu
  unfold whL at hu
  simp at hu
  rcases hu with rfl | rfl | rfl | rfl | rfl | rfl | rfl | rfl | rfl | rfl | rfl | rfl <;> rfl

def OwnsC (base : Nat) (w : World) (u : Value) (cs : List Comp) : Prop := ∃ rs, w.ownsRow base 40 4 u cs.length rs.flatten ∧ RowsOf CompR 4 rs cs
def OwnsE (base : Nat) (w : World) (u : Value) (es : List Elem) : Prop := ∃ rs, w.ownsRow base 49 12 u es.length rs.flatten ∧ RowsOf (ElemR w) 12 rs es
theorem OwnsC.at_ {base : Nat} {w : World} {u : Value} {cs : List Comp} (h : OwnsC base w u cs) : CompsAt w u cs := by
  obtain ⟨rs, h1, h2⟩ := h
  exact SliceAt.of_own (by omega) h1 h2 rfl
theorem OwnsE.at_ {base : Nat} {w : World} {u : Value} {es : List Elem} (h : OwnsE base w u es) : ElemsAt w u es := by
  obtain ⟨rs, h1, h2⟩ := h
  exact SliceAt.of_own (by omega) h1 h2 rfl
def CloneCPost (cs : List Comp) (w : World) (r : Ending) (w' : World) : Prop := ∃ u, r = .returned u ∧ OwnsC w.heap.size w' u cs ∧ Below w.heap.size w w'
def OwnsE0 (base : Nat) (w0 w : World) (u : Value) (es : List Elem) : Prop := ∃ rs, w.ownsRow base 49 12 u es.length rs.flatten ∧ RowsOf (ElemR w0) 12 rs es
theorem OwnsE0.at_ {base : Nat} {w0 w : World} {u : Value} {es : List Elem} (h : OwnsE0 base w0 w u es) (hk : Kept w0 w) : ElemsAt w u es := by
  obtain ⟨rs, h1, h2⟩ := h
  exact SliceAt.of_own (by omega) h1 ⟨h2.1, fun j r x hr hx => ⟨(h2.2 j r x hr hx).1, (h2.2 j r x hr hx).2.keep hk⟩⟩ rfl
def CloneEPost (w0 : World) (es : List Elem) (w : World) (r : Ending) (w' : World) : Prop := ∃ u, r = .returned u ∧ OwnsE0 w.heap.size w0 w' u es ∧ Below w.heap.size w w'

set_option maxHeartbeats 800000 in
theorem cloneC (v : Value) (cs : List Comp) (w : World) (h : CompsAt w v cs) (hn : cs.length ≤ 65536) :
    Calls Tryd.prog 57 #[v] w (CloneCPost cs w) := by
  obtain ⟨A, c, rfl, h1, h2, h0⟩ := SliceAt.form' h
  unfold maxLen at h2
  obtain ⟨i0, hi0, hz0, hz1, hz2⟩ := info_parts infoC
  rcases A with _ | ad
  · have hc := h0 rfl
    have hcl : cs = [] := List.eq_nil_of_length_eq_zero (by omega)
    subst hcl
    subst hc
    have hq := fun (W : World) => Lib.run_eql_slice_nil (P := Tryd.prog) W 47 40 none 0 0 0 0 Tryd.underlying47
    go_enter Tryd.func57, Tryd.ntmps57
    go_wp2
    go_ret
    exact ⟨_, rfl, ⟨[], World.ownsRow_nil _ _ _ _, ⟨rfl, fun j r x h => by simp at h⟩⟩, Below.refl _ _⟩
  · obtain ⟨rs, hrs, hcells⟩ := SliceAt.rows (by omega) h
    have HR := Lib.hid hrs
    have HC := Lib.hid (hcells ad rfl)
    have hfl := flat_len rs hrs.each
    have HFL : Hid (rs.flatten.length = cs.length * 4) := by rw [hfl, hrs.1]; rfl
    have HO := Lib.hid (flat_one hrs one_comp)
    clear hcells hrs hfl h h0
    have hq := fun (W : World) => Lib.run_eql_slice_nil (P := Tryd.prog) W 47 40 (some ad) cs.length c 0 0 Tryd.underlying47
    go_enter Tryd.func57, Tryd.ntmps57
    go_wp2_with (at_builtin; refine wpList_append_own _ rfl (.tmp 5) (.tmp 6) 47 rfl w.heap.size 40 i0 _ 4 32 Tryd.underlying47 hi0 hz0 hz1 hz2 rfl (by omega) (.slice (some ⟨w.heap.size, 0, none⟩) 0 0) 0 [] rfl (World.ownsRow_made w #[] 0 (Nat.le_refl _) (by simp [maxLen]) rfl) ad cs.length c rs.flatten rfl HFL.out ?c1 HO.out (by simp only [maxLen]; omega) (by omega) (by simp) ?_)
    case c1 =>
      intro j u hu
      exact Kept.of (below_new w (.cells #[] 40)) _ _ (HC.out j u hu)
    intro u w1 hown hgr _
    have HOWN := Lib.hid hown
    have HGR := Lib.hid hgr
    clear hown hgr
    go_wp2_with fail
    go_ret
    have hown := HOWN.out
    (try simp only [Nat.zero_add, List.nil_append] at hown)
    exact ⟨u, rfl, ⟨rs, hown, HR.out⟩, (below_new w _).grown HGR.out (by simp) (by simp [Value.ownBlock])⟩

set_option maxHeartbeats 800000 in
theorem cloneE (w0 : World) (v : Value) (es : List Elem) (w : World) (h : SliceAt (ElemR w0) 12 w v es) (hn : es.length ≤ 65536) :
    Calls Tryd.prog 19 #[v] w (CloneEPost w0 es w) := by
  obtain ⟨A, c, rfl, h1, h2, h0⟩ := SliceAt.form' h
  unfold maxLen at h2
  obtain ⟨i0, hi0, hz0, hz1, hz2⟩ := info_parts infoE
  rcases A with _ | ad
  · have hc := h0 rfl
    have hcl : es = [] := List.eq_nil_of_length_eq_zero (by omega)
    subst hcl
    subst hc
    have hq := fun (W : World) => Lib.run_eql_slice_nil (P := Tryd.prog) W 24 49 none 0 0 0 0 Tryd.underlying24
    go_enter Tryd.func19, Tryd.ntmps19
    go_wp2
    go_ret
    exact ⟨_, rfl, ⟨[], World.ownsRow_nil _ _ _ _, ⟨rfl, fun j r x h => by simp at h⟩⟩, Below.refl _ _⟩
  · obtain ⟨rs, hrs, hcells⟩ := SliceAt.rows (by omega) h
    have HR := Lib.hid hrs
    have HC := Lib.hid (hcells ad rfl)
    have hfl := flat_len rs hrs.each
    have HFL : Hid (rs.flatten.length = es.length * 12) := by rw [hfl, hrs.1]; rfl
    have HO := Lib.hid (flat_one hrs one_elem)
    clear hcells hrs hfl h h0
    have hq := fun (W : World) => Lib.run_eql_slice_nil (P := Tryd.prog) W 24 49 (some ad) es.length c 0 0 Tryd.underlying24
    go_enter Tryd.func19, Tryd.ntmps19
    go_wp2_with (at_builtin; refine wpList_append_own _ rfl (.tmp 5) (.tmp 6) 24 rfl w.heap.size 49 i0 _ 12 112 Tryd.underlying24 hi0 hz0 hz1 hz2 rfl (by omega) (.slice (some ⟨w.heap.size, 0, none⟩) 0 0) 0 [] rfl (World.ownsRow_made w #[] 0 (Nat.le_refl _) (by simp [maxLen]) rfl) ad es.length c rs.flatten rfl HFL.out ?c1 HO.out (by simp only [maxLen]; omega) (by omega) (by simp) ?_)
    case c1 =>
      intro j u hu
      exact Kept.of (below_new w (.cells #[] 49)) _ _ (HC.out j u hu)
    intro u w1 hown hgr _
    have HOWN := Lib.hid hown
    have HGR := Lib.hid hgr
    clear hown hgr
    go_wp2_with fail
    go_ret
    have hown := HOWN.out
    (try simp only [Nat.zero_add, List.nil_append] at hown)
    have hb : Below w.heap.size w w1 := (below_new w _).grown HGR.out (by simp) (by simp [Value.ownBlock])
    exact ⟨u, rfl, ⟨rs, hown, HR.out⟩, hb⟩
end TarW
end Go.Proofs.YtkooekdcegfapaaDoor
