/-
  Lists of charges compared; the examples of the chapter hold (chargenetlaw42.exampleHolds).
-/
import Derived.Test.YtndlhhiifmjieaaDoorPriI
import Derived.Test.YtndlhhiifmjieaaDoorTaxM
namespace Go.Proofs.YtndlhhiifmjieaaDoor
namespace PriW
set_option linter.unusedSimpArgs false
set_option linter.unusedVariables false
open Go.RowKit CalW TarW Prc

theorem Chgs0At.keep {w w' : World} {v : Value} {xs : List Chg0} (h : Chgs0At w v xs) (hk : Kept w w') : Chgs0At w' v xs := SliceAt.keep h hk (fun _ _ h => h)
theorem Chgs0At.call {w w' : World} {v : Value} {xs : List Chg0} (h : Chgs0At w v xs) (hb : Below w.heap.size w w') : Chgs0At w' v xs := h.keep (Kept.of hb)
theorem Chgs0At.at_ {w : World} {A : Option Addr} {n c j : Nat} {xs : List Chg0} (h : Chgs0At w (.slice A n c) xs) (hj : j < xs.length) :
    ∃ b off, A = some ⟨b, off, none⟩ ∧ b < w.heap.size ∧
      ∀ W, Kept w W → W.cell? ⟨b, off + j * 4, none⟩ = some (i xs[j].kind) ∧ W.cell? ⟨b, off + j * 4 + 1, none⟩ = some (i xs[j].price) ∧ W.cell? ⟨b, off + j * 4 + 2, none⟩ = some (i xs[j].tax) ∧ W.cell? ⟨b, off + j * 4 + 3, none⟩ = some (i xs[j].qty) := by
  obtain ⟨b, off, r, rfl, hl, hr, hc⟩ := SliceAt.at_ h hj
  unfold ChgR0 MonW.chgL at hr
  subst hr
  exact ⟨b, off, rfl, World.block_lt_of_cell? w _ (hc 0 _ rfl), fun W hk => ⟨hk _ _ (hc 0 _ rfl), hk _ _ (hc 1 _ rfl), hk _ _ (hc 2 _ rfl), hk _ _ (hc 3 _ rfl)⟩⟩
theorem slice_of_blk {α : Type} {R : List Value → α → Prop} {size n g : Nat} {w : World} {t : TypeId} {cs : Array Value} {rs : List (List Value)} {xs : List α} (hs : 0 < size) (h : Blk w g t cs) (hc : cs.toList = rs.flatten) (hr : RowsOf R size rs xs) (hn : n = xs.length) (hm : n ≤ maxLen) :
    SliceAt R size w (.slice (some ⟨g, 0, none⟩) n n) xs := by
  have hl := flat_len rs hr.each
  have hsz : cs.size = n * size := by rw [← Array.length_toList, hc, hl, hr.1, hn]
  refine SliceAt.of_own (base := 0) (e := t) (rs := rs) hs ⟨by rw [hl, hr.1, hn], .inr ⟨g, n, cs, rfl, Nat.zero_le _, h, Nat.le_refl _, hm, hsz, ?_⟩⟩ hr hn
  rw [← hc, List.take_of_length_le (by rw [Array.length_toList, hsz]; exact Nat.le_refl _)]
theorem rows_c {α : Type} {R : List Value → α → Prop} {size : Nat} {r : List Value} {x : α} {rs : List (List Value)} {xs : List α} (hl : r.length = size) (h : R r x) (hr : RowsOf R size rs xs) : RowsOf R size (r :: rs) (x :: xs) := by
  refine ⟨by simp [hr.1], fun j r' x' h1 h2 => ?_⟩
  match j, h1, h2 with
  | 0, h1, h2 =>
    have e1 : r = r' := by simpa using h1
    have e2 : x = x' := by simpa using h2
    subst e1; subst e2
    exact ⟨hl, h⟩
  | j + 1, h1, h2 => exact hr.2 j r' x' (by simpa using h1) (by simpa using h2)

set_option maxRecDepth 100000 in
set_option maxHeartbeats 1000000 in
theorem rsame (va vb : Value) (xs : List Chg0) (w : World) (ha : Chgs0At w va xs) (hb : Chgs0At w vb xs) : Calls Tryd.prog 12 #[va, vb] w fun e w' => e = .returned (.bool true) ∧ ∃ n, w' = w.drewN n := by
  obtain ⟨A, c, rfl, h1, h2⟩ := SliceAt.form ha
  obtain ⟨B, d, rfl, h3, h4⟩ := SliceAt.form hb
  unfold maxLen at h2 h4
  have HA := Lib.hid ha
  have HB := Lib.hid hb
  clear ha hb
  go_enter Tryd.func12, Tryd.ntmps12
  go_wp2_with fail
  go_loopg [5] xs.length (fun gg s5 wr => ∃ (kk n : Nat), kk ≤ xs.length ∧ xs.length - kk ≤ gg ∧ s5 = i kk ∧ Hid (wr = w.drewN n))
  case atStart => exact ⟨0, 0, Nat.zero_le _, by omega, rfl, rfl⟩
  case round =>
    obtain ⟨kk, n, hkk, hg, rfl, HW⟩ := hrel
    have hw := HW.out
    clear HW
    subst hw
    by_cases hlt : kk < xs.length
    · have hltz : (kk : Int) < (xs.length : Int) := by omega
      have hkz : (0 : Int) ≤ (kk : Int) := by omega
      obtain ⟨b1, o1, rfl, _, hr1⟩ := HA.out.at_ hlt
      obtain ⟨b2, o2, rfl, _, hr2⟩ := HB.out.at_ hlt
      obtain ⟨a0, a1, a2, a3⟩ := hr1 w (Kept.refl _)
      obtain ⟨e0, e1, e2, e3⟩ := hr2 w (Kept.refl _)
      clear hr1 hr2
      generalize xs[kk] = y at *
      go_upto_region 6 with (fail)
      go_quiet (fail)
      go_wp2_with fail
      go_roundg (xs.length - (kk + 1))
      case measure => omega
      case rel => exact ⟨kk + 1, _, by omega, by omega, by go_num, rfl⟩
    · have hltz : ¬ (kk : Int) < (xs.length : Int) := by omega
      go_wp2_with fail
      go_ret
      exact ⟨rfl, n, rfl⟩

abbrev freeA : Array Value := #[i 0, i 0, i 0, i (-1), i (-1), i (-1), i (-1), i (-1), i (-1), i (-1), i (-1)]
def freeW : Tar.Wh := ⟨0, 0, 0, -1, -1, -1, -1, -1, -1, -1, -1⟩
theorem always_ (w : World) : Calls Tryd.prog 19 #[] w fun e w' => e = .returned (.agg freeA) ∧ w' = w.alloc (.cells freeA 51) := by
  go_enter Tryd.func19, Tryd.ntmps19
  go_wp2_with fail
  refine bodyPost_ret (v := .agg freeA) (by simp [results, Tryd.results19, go_sem]) rfl ⟨rfl, rfl⟩

def exEls : List Elem := [⟨[⟨2, 300, 60, 0⟩, ⟨4, 2000, 1, 0⟩], freeW⟩]
def exT : Trf := ⟨⟨#[84]⟩, ⟨#[69, 85, 82]⟩, 1, 0, -1, exEls, -1, -1⟩
def exC : Cx := ⟨0, false, 0⟩
def exUs : List Prc.Use := [⟨100, false⟩, ⟨50, false⟩, ⟨0, true⟩]
theorem ex_runE : runE exT exC exUs = 0 := by kernel_rfl
theorem ex_runV : runV exT exC exUs = [⟨2, 300, 0, 180⟩, ⟨4, 2000, 0, 1⟩] := by kernel_rfl
theorem ex_valid : validT exT = 0 := by kernel_rfl
theorem ex_els {w : World} {g1 g2 : Nat} (h1 : Blk w g1 58 #[i 2, i 300, i 60, i 0, i 4, i 2000, i 1, i 0]) (h2 : Blk w g2 55 #[.slice (some ⟨g1, 0, none⟩) 2 2, i 0, i 0, i 0, i (-1), i (-1), i (-1), i (-1), i (-1), i (-1), i (-1), i (-1)]) :
    ElemsAt w (.slice (some ⟨g2, 0, none⟩) 1 1) exEls := by
  have c1 : CompsAt w (.slice (some ⟨g1, 0, none⟩) 2 2) [⟨2, 300, 60, 0⟩, ⟨4, 2000, 1, 0⟩] := slice_of_blk (rs := [compL ⟨2, 300, 60, 0⟩, compL ⟨4, 2000, 1, 0⟩]) (by omega) h1 rfl (rows_c rfl rfl (rows_c rfl rfl rows_nil)) rfl (by unfold maxLen; omega)
  exact slice_of_blk (rs := [.slice (some ⟨g1, 0, none⟩) 2 2 :: whL freeW]) (by omega) h2 rfl (rows_c rfl ⟨_, rfl, c1⟩ rows_nil) rfl (by unfold maxLen; omega)
theorem ex_uses {w : World} {g : Nat} (h : Blk w g 48 #[i 100, .bool false, i 50, .bool false, i 0, .bool true]) : UsesAt w (.slice (some ⟨g, 0, none⟩) 3 3) exUs :=
  slice_of_blk (rs := [[i 100, .bool false], [i 50, .bool false], [i 0, .bool true]]) (by omega) h rfl (rows_c rfl ⟨rfl, by unfold Map2.I64; simp⟩ (rows_c rfl ⟨rfl, by unfold Map2.I64; simp⟩ (rows_c rfl ⟨rfl, by unfold Map2.I64; simp⟩ rows_nil))) rfl (by unfold maxLen; omega)
theorem ex_run (u v : Value) (w : World) (ht : Tab w) (hE : ElemsAt w u exEls) (hU : UsesAt w v exUs) :
    Calls Tryd.prog 10 #[.agg #[.string ⟨#[84]⟩, .string ⟨#[69, 85, 82]⟩, i 1, i 0, i (-1), u, i (-1), i (-1)], .agg #[i 0, .bool false], i 0, v] w fun e w' => ∃ A c, e = .returned (.tuple #[.slice A 2 c, i 0]) ∧ Chgs0At w' (.slice A 2 c) [⟨2, 300, 0, 180⟩, ⟨4, 2000, 0, 1⟩] ∧ Below w.heap.size w w' := by
  refine (run exT u exC exUs v w ht hE (by unfold maxLen; decide) (by unfold maxLen; decide) hU).mono fun e w' hp => ?_
  obtain ⟨v', h1, h2, h3⟩ := hp
  rw [ex_runE] at h1
  rw [ex_runV] at h2
  obtain ⟨A, c, rfl, _, _⟩ := SliceAt.form h2
  exact ⟨A, c, h1, h2, h3⟩
theorem ex_val (u : Value) (w : World) (h : ElemsAt w u exEls) : Calls Tryd.prog 20 #[.agg #[.string ⟨#[84]⟩, .string ⟨#[69, 85, 82]⟩, i 1, i 0, i (-1), u, i (-1), i (-1)]] w fun e w' => e = .returned (i 0) ∧ Below w.heap.size w w' := by
  have := valid_ exT u w h (by unfold maxLen; decide) (by unfold maxLen; decide)
  rw [ex_valid] at this
  exact this
theorem ex_net1 (w : World) : Calls Tryd.prog 13 #[.agg #[i 2, i 301, i 0, i 30000]] w fun e w' => e = .returned (.tuple #[i 151, i 0]) ∧ Below w.heap.size w w' := by
  have := MonW.net ⟨2, 301, 0, 30000⟩ w (by unfold MonW.Chg.ok MonW.I64; simp)
  rw [show MonW.netV ⟨2, 301, 0, 30000⟩ = 151 by kernel_rfl, show MonW.netE ⟨2, 301, 0, 30000⟩ = 0 by kernel_rfl] at this
  exact this
theorem ex_net2 (w : World) : Calls Tryd.prog 13 #[.agg #[i 3, i 2000, i 0, i 120]] w fun e w' => e = .returned (.tuple #[i 4000, i 0]) ∧ Below w.heap.size w w' := by
  have := MonW.net ⟨3, 2000, 0, 120⟩ w (by unfold MonW.Chg.ok MonW.I64; simp)
  rw [show MonW.netV ⟨3, 2000, 0, 120⟩ = 4000 by kernel_rfl, show MonW.netE ⟨3, 2000, 0, 120⟩ = 0 by kernel_rfl] at this
  exact this
theorem ex_unit1 (w : World) : Calls Tryd.prog 15 #[i 3] w fun e w' => e = .returned (i 60) ∧ Below w.heap.size w w' := by
  refine (MonW.unit 3 w).mono fun e w' h => ?_
  obtain ⟨h1, n, rfl⟩ := h
  exact ⟨h1, below_drewN' (Below.refl _ _) _⟩
theorem ex_unit2 (w : World) : Calls Tryd.prog 15 #[i 9] w fun e w' => e = .returned (i 0) ∧ Below w.heap.size w w' := by
  refine (MonW.unit 9 w).mono fun e w' h => ?_
  obtain ⟨h1, n, rfl⟩ := h
  exact ⟨h1, below_drewN' (Below.refl _ _) _⟩

abbrev cA : Array Value := #[i 2, i 300, i 60, i 0, i 4, i 2000, i 1, i 0]
abbrev eA (g : Nat) : Array Value := #[.slice (some ⟨g, 0, none⟩) 2 2, i 0, i 0, i 0, i (-1), i (-1), i (-1), i (-1), i (-1), i (-1), i (-1), i (-1)]
abbrev tA (g : Nat) : Array Value := #[.string ⟨#[84]⟩, .string ⟨#[69, 85, 82]⟩, i 1, i 0, i (-1), .slice (some ⟨g, 0, none⟩) 1 1, i (-1), i (-1)]

set_option maxRecDepth 100000 in
set_option maxHeartbeats 1000000 in
theorem example_holds (w : World) (ht : Tab w) : Calls Tryd.prog 9 #[] w fun e w' => e = .returned (.bool true) ∧ Below w.heap.size w w' := by
  have HT := Lib.hid ht
  clear ht
  go_enter Tryd.func9, Tryd.ntmps9
  go_upto_region 2 with (go_at_call 19; refine (always_ _).mono ?_; rintro e w' ⟨rfl, rfl⟩)
  have hb0 := below_alloc (below_alloc (below_alloc (below_new w (.cells freeA 51)) (.cells cA 58)) (.cells (eA (w.heap.size + 1)) 55)) (.cells (tA (w.heap.size + 1 + 1)) 26)
  have k1 := ((Blk.new' (w := w.alloc (.cells freeA 51)) (g := w.heap.size + 1) (by simp) 58 cA).alloc (.cells (eA (w.heap.size + 1)) 55)).alloc (.cells (tA (w.heap.size + 1 + 1)) 26)
  have k2 := (Blk.new' (w := (w.alloc (.cells freeA 51)).alloc (.cells cA 58)) (g := w.heap.size + 1 + 1) (by simp) 55 (eA (w.heap.size + 1))).alloc (.cells (tA (w.heap.size + 1 + 1)) 26)
  have k3 := Blk.new' (w := ((w.alloc (.cells freeA 51)).alloc (.cells cA 58)).alloc (.cells (eA (w.heap.size + 1)) 55)) (g := w.heap.size + 1 + 1 + 1) (by simp) 26 (tA (w.heap.size + 1 + 1))
  have HE := Lib.hid (ex_els k1 k2)
  have K3 := Lib.hid k3
  have HB0 := Lib.hid hb0
  have tc := k3.cell
  have kl := k3.lt
  clear k1 k2 k3 hb0
  generalize (((w.alloc (.cells freeA 51)).alloc (.cells cA 58)).alloc (.cells (eA (w.heap.size + 1)) 55)).alloc (.cells (tA (w.heap.size + 1 + 1)) 26) = w1 at *
  generalize w.heap.size + 1 + 1 + 1 = g3 at *
  generalize w.heap.size + 1 + 1 = g2 at *
  have hb1 := below_new w1 (.cells #[i 100, .bool false, i 50, .bool false, i 0, .bool true] 48)
  have HRUN := Lib.hid (ex_run _ _ _ (HT.out.below (below_call HB0.out hb1) HT.out.lt) (HE.out.call hb1) (ex_uses (Blk.new w1 48 #[i 100, .bool false, i 50, .bool false, i 0, .bool true])))
  have HB1 := Lib.hid (below_call HB0.out hb1)
  have HBX := Lib.hid hb1
  clear hb1
  go_wp2_with fail
  refine HRUN.out.mono ?_
  rintro e w2 ⟨A, c, rfl, hv, hb2⟩
  have hb3 := below_call HBX.out hb2
  have tc2 := (K3.out.call hb3).cell
  have HVAL := Lib.hid (fun W hb => ex_val _ W ((HE.out.call hb3).call hb))
  obtain ⟨b, off, rfl, _, hr0⟩ := hv.at_ (j := 0) (by simp)
  obtain ⟨b', off', e', _, hr1⟩ := hv.at_ (j := 1) (by simp)
  injection e' with e'
  injection e' with e1 e2
  subst e1; subst e2
  have HR0 := Lib.hid hr0
  have HR1 := Lib.hid hr1
  have HB2 := Lib.hid (below_call HB1.out hb2)
  clear hr0 hr1 hv tc hb2 hb3 HRUN HBX HB1 HB0 HE K3 HT
  go_wp2_with fail
  refine (HVAL.out _ (Below.refl _ _)).mono ?_
  rintro e w3 ⟨rfl, hb3⟩
  obtain ⟨q0, q1, q2, q3⟩ := HR0.out w3 (Kept.of hb3)
  obtain ⟨q4, q5, q6, q7⟩ := HR1.out w3 (Kept.of hb3)
  have HB3 := Lib.hid (below_call HB2.out hb3)
  clear hb3 HVAL HR0 HR1 tc2 HB2
  simp only [Nat.zero_mul, Nat.add_zero, Nat.one_mul, List.getElem_cons_zero, List.getElem_cons_succ] at q0 q1 q2 q3 q4 q5 q6 q7
  go_wp2_with ((go_at_call 13; first | ((with_reducible refine (ex_net1 _).mono ?_); rintro e w4 ⟨rfl, hb4⟩) | ((with_reducible refine (ex_net2 _).mono ?_); rintro e w5 ⟨rfl, hb5⟩)))
  refine (ex_unit1 _).mono ?_
  rintro e w6 ⟨rfl, hb6⟩
  go_wp2_with fail
  refine (ex_unit2 _).mono ?_
  rintro e w7 ⟨rfl, hb7⟩
  go_wp2_with fail
  go_ret
  exact ⟨rfl, below_call (below_call (below_call (below_call HB3.out hb4) hb5) hb6) hb7⟩
end PriW
end Go.Proofs.YtndlhhiifmjieaaDoor
