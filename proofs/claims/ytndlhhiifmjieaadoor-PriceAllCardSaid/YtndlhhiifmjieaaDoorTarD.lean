/-
  The data of tariffs: components, elements, tariffs in memory, read as lists. (Printed by gen41.py.)
-/
import Derived.Test.YtndlhhiifmjieaaDoorTarW
import Derived.Test.YtndlhhiifmjieaaDoorSl
namespace Go.Proofs.YtndlhhiifmjieaaDoor
namespace TarW
set_option linter.unusedSimpArgs false
set_option linter.unusedVariables false
open Go.RowKit CalW Go.ChangeShapes Go.WideShapes Go.Deep

structure Comp where
  (kind price step tax : Int)
structure Elem where
  (cs : List Comp)
  (wh : Tar.Wh)
structure Trf where
  (id cur : ByteArray)
  (ver fr to : Int)
  (els : List Elem)
  (least most : Int)

def compL (c : Comp) : List Value := [i c.kind, i c.price, i c.step, i c.tax]
abbrev compV (c : Comp) : Value := .agg #[i c.kind, i c.price, i c.step, i c.tax]
def whL (w : Tar.Wh) : List Value := [i w.s, i w.e, i w.d, i w.f, i w.t, i w.e0, i w.e1, i w.p0, i w.p1, i w.t0, i w.t1]
abbrev elemV (u : Value) (w : Tar.Wh) : Value := .agg #[u, i w.s, i w.e, i w.d, i w.f, i w.t, i w.e0, i w.e1, i w.p0, i w.p1, i w.t0, i w.t1]
abbrev trfV (t : Trf) (u : Value) : Value := .agg #[.string t.id, .string t.cur, i t.ver, i t.fr, i t.to, u, i t.least, i t.most]
def CompR (r : List Value) (c : Comp) : Prop := r = compL c
def CompsAt (w : World) (v : Value) (cs : List Comp) : Prop := SliceAt CompR 4 w v cs
def ElemR (w : World) (r : List Value) (e : Elem) : Prop := ∃ u, r = u :: whL e.wh ∧ CompsAt w u e.cs
def ElemsAt (w : World) (v : Value) (es : List Elem) : Prop := SliceAt (ElemR w) 12 w v es
def TrfR (w : World) (r : List Value) (t : Trf) : Prop := ∃ u, r = [.string t.id, .string t.cur, i t.ver, i t.fr, i t.to, u, i t.least, i t.most] ∧ ElemsAt w u t.els ∧ t.id.size ≤ maxLen ∧ t.cur.size ≤ maxLen
def TrfsAt (w : World) (v : Value) (ts : List Trf) : Prop := SliceAt (TrfR w) 8 w v ts

theorem CompsAt.keep {w w' : World} {v : Value} {cs : List Comp} (h : CompsAt w v cs) (hk : Kept w w') : CompsAt w' v cs := SliceAt.keep h hk (fun _ _ h => h)
theorem ElemR.keep {w w' : World} {r : List Value} {e : Elem} (h : ElemR w r e) (hk : Kept w w') : ElemR w' r e := by
  obtain ⟨u, e, hu⟩ := h
  exact ⟨u, e, hu.keep hk⟩
theorem ElemsAt.keep {w w' : World} {v : Value} {es : List Elem} (h : ElemsAt w v es) (hk : Kept w w') : ElemsAt w' v es := SliceAt.keep h hk (fun _ _ h => h.keep hk)
theorem TrfR.keep {w w' : World} {r : List Value} {e : Trf} (h : TrfR w r e) (hk : Kept w w') : TrfR w' r e := by
  obtain ⟨u, e, hu, h1⟩ := h
  exact ⟨u, e, hu.keep hk, h1⟩
theorem TrfsAt.keep {w w' : World} {v : Value} {ts : List Trf} (h : TrfsAt w v ts) (hk : Kept w w') : TrfsAt w' v ts := SliceAt.keep h hk (fun _ _ h => h.keep hk)
theorem CompsAt.call {w w' : World} {v : Value} {cs : List Comp} (h : CompsAt w v cs) (hb : Below w.heap.size w w') : CompsAt w' v cs := h.keep (Kept.of hb)
theorem ElemsAt.call {w w' : World} {v : Value} {es : List Elem} (h : ElemsAt w v es) (hb : Below w.heap.size w w') : ElemsAt w' v es := h.keep (Kept.of hb)
theorem TrfsAt.call {w w' : World} {v : Value} {ts : List Trf} (h : TrfsAt w v ts) (hb : Below w.heap.size w w') : TrfsAt w' v ts := h.keep (Kept.of hb)

/-- Component j, in memory. -/
theorem CompsAt.at_ {w : World} {A : Option Addr} {n c j : Nat} {cs : List Comp} (h : CompsAt w (.slice A n c) cs) (hj : j < cs.length) :
    ∃ b off, A = some ⟨b, off, none⟩ ∧ b < w.heap.size ∧
      ∀ W, Kept w W → W.cell? ⟨b, off + j * 4, none⟩ = some (i cs[j].kind) ∧ W.cell? ⟨b, off + j * 4 + 1, none⟩ = some (i cs[j].price) ∧ W.cell? ⟨b, off + j * 4 + 2, none⟩ = some (i cs[j].step) ∧ W.cell? ⟨b, off + j * 4 + 3, none⟩ = some (i cs[j].tax) := by
  obtain ⟨b, off, r, rfl, hl, hr, hc⟩ := SliceAt.at_ h hj
  unfold CompR compL at hr
  subst hr
  exact ⟨b, off, rfl, World.block_lt_of_cell? w _ (hc 0 _ rfl), fun W hk => ⟨hk _ _ (hc 0 _ rfl), hk _ _ (hc 1 _ rfl), hk _ _ (hc 2 _ rfl), hk _ _ (hc 3 _ rfl)⟩⟩
/-- Element j, in memory. -/
theorem ElemsAt.at_ {w : World} {A : Option Addr} {n c j : Nat} {es : List Elem} (h : ElemsAt w (.slice A n c) es) (hj : j < es.length) :
    ∃ b off u, A = some ⟨b, off, none⟩ ∧ b < w.heap.size ∧ CompsAt w u es[j].cs ∧
      ∀ W, Kept w W → W.cell? ⟨b, off + j * 12, none⟩ = some (u) ∧ W.cell? ⟨b, off + j * 12 + 1, none⟩ = some (i es[j].wh.s) ∧ W.cell? ⟨b, off + j * 12 + 2, none⟩ = some (i es[j].wh.e) ∧ W.cell? ⟨b, off + j * 12 + 3, none⟩ = some (i es[j].wh.d) ∧ W.cell? ⟨b, off + j * 12 + 4, none⟩ = some (i es[j].wh.f) ∧ W.cell? ⟨b, off + j * 12 + 5, none⟩ = some (i es[j].wh.t) ∧ W.cell? ⟨b, off + j * 12 + 6, none⟩ = some (i es[j].wh.e0) ∧ W.cell? ⟨b, off + j * 12 + 7, none⟩ = some (i es[j].wh.e1) ∧ W.cell? ⟨b, off + j * 12 + 8, none⟩ = some (i es[j].wh.p0) ∧ W.cell? ⟨b, off + j * 12 + 9, none⟩ = some (i es[j].wh.p1) ∧ W.cell? ⟨b, off + j * 12 + 10, none⟩ = some (i es[j].wh.t0) ∧ W.cell? ⟨b, off + j * 12 + 11, none⟩ = some (i es[j].wh.t1) := by
  obtain ⟨b, off, r, rfl, hl, ⟨u, hr, hu⟩, hc⟩ := SliceAt.at_ h hj
  unfold whL at hr
  subst hr
  exact ⟨b, off, u, rfl, World.block_lt_of_cell? w _ (hc 0 _ rfl), hu, fun W hk => ⟨hk _ _ (hc 0 _ rfl), hk _ _ (hc 1 _ rfl), hk _ _ (hc 2 _ rfl), hk _ _ (hc 3 _ rfl), hk _ _ (hc 4 _ rfl), hk _ _ (hc 5 _ rfl), hk _ _ (hc 6 _ rfl), hk _ _ (hc 7 _ rfl), hk _ _ (hc 8 _ rfl), hk _ _ (hc 9 _ rfl), hk _ _ (hc 10 _ rfl), hk _ _ (hc 11 _ rfl)⟩⟩
/-- Tariff j, in memory. -/
theorem TrfsAt.at_ {w : World} {A : Option Addr} {n c j : Nat} {ts : List Trf} (h : TrfsAt w (.slice A n c) ts) (hj : j < ts.length) :
    ∃ b off u, A = some ⟨b, off, none⟩ ∧ b < w.heap.size ∧ ElemsAt w u ts[j].els ∧ ts[j].id.size ≤ maxLen ∧ ts[j].cur.size ≤ maxLen ∧
      ∀ W, Kept w W → W.cell? ⟨b, off + j * 8, none⟩ = some (.string ts[j].id) ∧ W.cell? ⟨b, off + j * 8 + 1, none⟩ = some (.string ts[j].cur) ∧ W.cell? ⟨b, off + j * 8 + 2, none⟩ = some (i ts[j].ver) ∧ W.cell? ⟨b, off + j * 8 + 3, none⟩ = some (i ts[j].fr) ∧ W.cell? ⟨b, off + j * 8 + 4, none⟩ = some (i ts[j].to) ∧ W.cell? ⟨b, off + j * 8 + 5, none⟩ = some (u) ∧ W.cell? ⟨b, off + j * 8 + 6, none⟩ = some (i ts[j].least) ∧ W.cell? ⟨b, off + j * 8 + 7, none⟩ = some (i ts[j].most) := by
  obtain ⟨b, off, r, rfl, hl, ⟨u, hr, hu, h1, h2⟩, hc⟩ := SliceAt.at_ h hj
  subst hr
  exact ⟨b, off, u, rfl, World.block_lt_of_cell? w _ (hc 0 _ rfl), hu, h1, h2, fun W hk => ⟨hk _ _ (hc 0 _ rfl), hk _ _ (hc 1 _ rfl), hk _ _ (hc 2 _ rfl), hk _ _ (hc 3 _ rfl), hk _ _ (hc 4 _ rfl), hk _ _ (hc 5 _ rfl), hk _ _ (hc 6 _ rfl), hk _ _ (hc 7 _ rfl)⟩⟩

end TarW
end Go.Proofs.YtndlhhiifmjieaaDoor
