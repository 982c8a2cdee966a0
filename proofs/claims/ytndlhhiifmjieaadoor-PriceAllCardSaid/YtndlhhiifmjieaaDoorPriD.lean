/-
  The data of prices: uses, a session in memory; worlds that keep all but two blocks; the walk of price.has.
-/
import Derived.Test.YtndlhhiifmjieaaDoorPrc
import Derived.Test.YtndlhhiifmjieaaDoorMap
import Derived.Test.YtndlhhiifmjieaaDoorGrow
import Derived.Deep.LoopGhost
namespace Go.Proofs.YtndlhhiifmjieaaDoor
namespace PriW
set_option linter.unusedSimpArgs false
set_option linter.unusedVariables false
open Go.RowKit CalW TarW Prc Go.ChangeShapes Go.WideShapes Go.Deep

/-- All blocks but some are kept. -/
structure Kp (S : Nat → Prop) (w w' : World) : Prop where
  os : w'.os = w.os
  tape : w'.tape = w.tape
  output : w'.output = w.output
  size : w.heap.size ≤ w'.heap.size
  block : ∀ k, k < w.heap.size → ¬ S k → w'.heap[k]? = w.heap[k]?
section
variable {S : Nat → Prop} {a w w' : World}
theorem Kp.refl : Kp S w w := ⟨rfl, rfl, rfl, Nat.le_refl _, fun _ _ _ => rfl⟩
theorem Kp.trans (h : Kp S a w) (k : Kp S w w') : Kp S a w' := ⟨k.os.trans h.os, k.tape.trans h.tape, k.output.trans h.output, Nat.le_trans h.size k.size, fun q hq hn => (k.block q (Nat.lt_of_lt_of_le hq h.size) hn).trans (h.block q hq hn)⟩
theorem Kp.of (h : Below w.heap.size w w') : Kp S w w' := ⟨h.os, h.tape, h.output, h.size, fun k hk _ => h.block k hk⟩
theorem Kp.call (h : Kp S a w) (hb : Below w.heap.size w w') : Kp S a w' := h.trans (Kp.of hb)
theorem Kp.blk {g : Nat} {t : TypeId} {cs : Array Value} (h : Kp S w w') (hb : Blk w g t cs) (hg : ¬ S g) : Blk w' g t cs := (h.block g hb.lt hg).trans hb
theorem Kp.below {B : Nat} {w0 : World} (h : Kp S w w') (hb : Below B w0 w) (hB : B ≤ w.heap.size) (hS : ∀ k, S k → B ≤ k) : Below B w0 w' :=
  ⟨h.os.trans hb.os, h.tape.trans hb.tape, h.output.trans hb.output, Nat.le_trans hb.size h.size, fun k hk => (h.block k (Nat.lt_of_lt_of_le hk hB) (fun hs => by have := hS k hs; omega)).trans (hb.block k hk)⟩
theorem Kp.set {g o : Nat} {u : Value} (hg : S g) : Kp S w (w.setCell ⟨g, o, none⟩ u) := ⟨rfl, rfl, rfl, by simp, fun k _ hn => heap_setCell_other w ⟨g, o, none⟩ k u (fun e => hn (by rw [e]; exact hg))⟩
theorem Kp.setB {g : Nat} {o : Obj} (hg : S g) : Kp S w (ChangeMaps.setBlock w g o) :=
  ⟨rfl, rfl, rfl, by simp [ChangeMaps.setBlock], fun k hk hn => by
    unfold ChangeMaps.setBlock
    exact Array.getElem?_setIfInBounds_ne (fun e => hn (by rw [← e]; exact hg))⟩
end

def UseR (r : List Value) (u : Prc.Use) : Prop := r = [i u.en, .bool u.idle] ∧ Map2.I64 u.en
def UsesAt (w : World) (v : Value) (us : List Prc.Use) : Prop := SliceAt UseR 2 w v us
theorem UsesAt.keep {w w' : World} {v : Value} {xs : List Prc.Use} (h : UsesAt w v xs) (hk : Kept w w') : UsesAt w' v xs := SliceAt.keep h hk (fun _ _ h => h)
theorem UsesAt.call {w w' : World} {v : Value} {xs : List Prc.Use} (h : UsesAt w v xs) (hb : Below w.heap.size w w') : UsesAt w' v xs := h.keep (Kept.of hb)
theorem UsesAt.at_ {w : World} {A : Option Addr} {n c j : Nat} {xs : List Prc.Use} (h : UsesAt w (.slice A n c) xs) (hj : j < xs.length) :
    ∃ b off, A = some ⟨b, off, none⟩ ∧ b < w.heap.size ∧ Map2.I64 xs[j].en ∧ ∀ W, Kept w W → W.cell? ⟨b, off + j * 2, none⟩ = some (i xs[j].en) ∧ W.cell? ⟨b, off + j * 2 + 1, none⟩ = some (.bool xs[j].idle) := by
  obtain ⟨b, off, r, rfl, hl, ⟨hr, ho⟩, hc⟩ := SliceAt.at_ h hj
  subst hr
  exact ⟨b, off, rfl, World.block_lt_of_cell? w _ (hc 0 _ rfl), ho, fun W hk => ⟨hk _ _ (hc 0 _ rfl), hk _ _ (hc 1 _ rfl)⟩⟩

abbrev La := Int → Option (Nat × Int)
def lE (l : La) (k : Int) : Int := match l k with | some (j, _) => j | none => 0
def lK (l : La) (k : Int) : Int := match l k with | some _ => k | none => 0
def lS (l : La) (k : Int) : Int := match l k with | some (_, s) => s | none => 0
def lB (l : La) (k : Int) : Bool := (l k).isSome
abbrev sessA (t : Trf) (u : Value) (c : Cx) (M : Nat) (l : La) : Array Value := #[.string t.id, .string t.cur, i t.ver, i t.fr, i t.to, u, i t.least, i t.most, i c.z, .bool c.s, i c.start, .map (some M),
  i (lE l 0), i (lK l 0), i (lS l 0), .bool (lB l 0), i (lE l 1), i (lK l 1), i (lS l 1), .bool (lB l 1), i (lE l 2), i (lK l 2), i (lS l 2), .bool (lB l 2), i (lE l 3), i (lK l 3), i (lS l 3), .bool (lB l 3), i (lE l 4), i (lK l 4), i (lS l 4), .bool (lB l 4)]
/-- The session's block B and its map M. -/
def SessAt (w : World) (B M : Nat) (t : Trf) (u : Value) (c : Cx) (st : St) : Prop := Blk w B 67 (sessA t u c M st.last) ∧ Map2.MapAt w M st.q
def two (B M : Nat) : Nat → Prop := fun k => k = B ∨ k = M

theorem any_take {cs : List Comp} {p : Comp → Bool} {k : Nat} (hk : k < cs.length) (h : cs.any p = (cs.drop k).any p) (hp : p cs[k] = false) : cs.any p = (cs.drop (k + 1)).any p := by
  rw [h, List.drop_eq_getElem_cons hk, List.any_cons, hp]
  rfl
theorem any_hit {cs : List Comp} {p : Comp → Bool} {k : Nat} (hk : k < cs.length) (hp : p cs[k] = true) : cs.any p = true := List.any_eq_true.2 ⟨cs[k], List.getElem_mem hk, hp⟩

set_option maxHeartbeats 1000000 in
theorem has (e : Elem) (v : Value) (k : Int) (w : World) (h : CompsAt w v e.cs) : Calls Tryd.prog 61 #[elemV v e.wh, i k] w fun r w' => r = .returned (.bool (e.cs.any (isK k))) ∧ Below w.heap.size w w' := by
  obtain ⟨A, c, rfl, h1, h2⟩ := SliceAt.form h
  unfold maxLen at h2
  obtain ⟨cs, x⟩ := e
  simp only at *
  have HB0 := Lib.hid (below_new w (.cells #[.slice A cs.length c, i x.s, i x.e, i x.d, i x.f, i x.t, i x.e0, i x.e1, i x.p0, i x.p1, i x.t0, i x.t1] 55))
  have HC := Lib.hid h
  clear h
  go_enter Tryd.func61, Tryd.ntmps61
  go_wp2_with fail
  go_loopg [10] cs.length (fun gg s10 wr => ∃ kk : Nat, kk ≤ cs.length ∧ cs.length - kk ≤ gg ∧ s10 = i kk ∧ Hid (Below w.heap.size w wr) ∧ Hid (cs.any (isK k) = (cs.drop kk).any (isK k)))
  case atStart => exact ⟨0, Nat.zero_le _, by omega, rfl, HB0, rfl⟩
  case round =>
    obtain ⟨kk, hkk, hg, rfl, BW, HA⟩ := hrel
    clear HB0
    by_cases hlt : kk < cs.length
    · have hltz : (kk : Int) < (cs.length : Int) := by omega
      obtain ⟨b, off, rfl, _, hrow⟩ := CompsAt.at_ HC.out hlt
      obtain ⟨l0, l1, l2, l3⟩ := hrow wr (Kept.of BW.out)
      clear hrow
      have HNO := Lib.hid (any_take hlt HA.out)
      have HYES := Lib.hid (@any_hit cs (isK k) kk hlt)
      unfold isK at HNO HYES
      generalize cs[kk] = y at *
      cases hy : (y.kind == k) with
      | true =>
        have HF := Lib.hid (HYES.out hy)
        clear HNO HYES
        go_wp2_with fail
        go_ret
        exact ⟨congrArg (fun b => Ending.returned (.bool b)) HF.out.symm, below_alloc BW.out _⟩
      | false =>
        have HF := Lib.hid (HNO.out hy)
        clear HNO HYES
        go_wp2_with fail
        go_roundg (cs.length - (kk + 1))
        case measure => omega
        case rel => exact ⟨kk + 1, by omega, by omega, by go_num, below_alloc BW.out _, HF⟩
    · have hltz : ¬ (kk : Int) < (cs.length : Int) := by omega
      have hke : kk = cs.length := by omega
      subst hke
      rw [List.drop_length] at HA
      have HF := Lib.hid HA.out
      go_wp2_with fail
      go_ret
      exact ⟨congrArg (fun b => Ending.returned (.bool b)) HF.out.symm, BW.out⟩
end PriW
end Go.Proofs.YtndlhhiifmjieaaDoor
