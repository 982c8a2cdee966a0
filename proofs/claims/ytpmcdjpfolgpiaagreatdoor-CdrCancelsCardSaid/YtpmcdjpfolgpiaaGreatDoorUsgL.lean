/-
  The walk of usage.Minutes.
-/
import Derived.Test.YtpmcdjpfolgpiaaGreatDoorUsgM
import Derived.Test.YtpmcdjpfolgpiaaGreatDoorUsgD
import Derived.Test.YtpmcdjpfolgpiaaGreatDoorReg6
import Derived.Sort.QuietIn
import Derived.Sort.LoopGhostIn
import Derived.Maps.AppendAt
namespace Go.Proofs.YtpmcdjpfolgpiaaGreatDoor
namespace UsgW
set_option linter.unusedSimpArgs false
set_option linter.unusedVariables false
open Go.RowKit CalW TarW Usg
attribute [local go_sem] Oper.semAt_some

def MinPost (l : List Rdg) (m : Int) (w : World) (e : Ending) (w' : World) : Prop := ∃ v, e = .returned (.tuple #[v, i (minE l m)]) ∧ MonW.IntsAt w' v (minV l m) ∧ Below w.heap.size w w'
theorem MinPost.no {l : List Rdg} {m n : Int} {w w' : World} (h : minE l m = n) (hn : n ≠ 0) (hb : Below w.heap.size w w') : MinPost l m w (.returned (.tuple #[.slice none 0 0, i n])) w' := by
  refine ⟨.slice none 0 0, by rw [h], ?_, hb⟩
  unfold minV
  rw [if_neg (by omega)]
  exact SliceAt.nil
/-- The three boxes behind a call. -/
theorem boxes (m : Int) {w w1 : World} (hb : Below (((w.alloc (.cells #[i m] 3)).alloc (.cells #[.slice none 0 0] 90)).alloc (.cells #[i 0] 27)).heap.size (((w.alloc (.cells #[i m] 3)).alloc (.cells #[.slice none 0 0] 90)).alloc (.cells #[i 0] 27)) w1) :
    Boxed w1 w.heap.size 3 (i m) ∧ Boxed w1 (w.heap.size + 1) 90 (.slice none 0 0) ∧ Boxed w1 (w.heap.size + 1 + 1) 27 (i 0) ∧ Hid (Below w.heap.size w w1) := by
  have b3 := ((Boxed.new w 3 (i m)).alloc (.cells #[.slice none 0 0] 90)).alloc (.cells #[i 0] 27)
  have b4 := (Boxed.new (w.alloc (.cells #[i m] 3)) 90 (.slice none 0 0)).alloc (.cells #[i 0] 27)
  have b5 := Boxed.new ((w.alloc (.cells #[i m] 3)).alloc (.cells #[.slice none 0 0] 90)) 27 (i 0)
  simp only [World.size_alloc] at b4 b5
  exact ⟨(hb.block _ b3.lt).trans b3, (hb.block _ b4.lt).trans b4, (hb.block _ b5.lt).trans b5, below_call (below_alloc (below_alloc (below_alloc (Below.refl _ _) _) _) _) hb⟩
theorem infoI : (Tryz.prog.info? 3).map (fun i => (i.zero, i.size, i.bytes)) = some (some (.int .i64 0), 1, 8) := by kernel_rfl

theorem ret2 {W : World} {tmps : Array Value} {B4 B5 : Nat} {v : Value} {e : Int} {t4 t5 : TypeId} (h4 : tmps.getD 4 undef = .pointer (some ⟨B4, 0, none⟩)) (h5 : tmps.getD 5 undef = .pointer (some ⟨B5, 0, none⟩))
    (k4 : Boxed W B4 t4 v) (k5 : Boxed W B5 t5 (i e)) : (results Tryz.f92 tmps).run Tryz.prog W = .ok (.tuple #[v, i e]) W := by
  have c4 := k4.cell
  have c5 := k5.cell
  rw [Array.getD_eq_getD_getElem?] at h4 h5
  simp [results, Tryz.f92, go_sem, h4, h5, c4, c5]

/-- What a round's loop keeps: the list so far, the boxes. -/
structure MI (N0 s0 sb B8 Bs : Nat) (S : Value) (m : Int) (w W wr : World) (xs : List Int) : Prop where
  row : ∃ v, Boxed wr B8 90 v ∧ wr.ownsRow sb 3 1 v xs.length (xs.map i)
  b3 : Boxed wr s0 3 (i m)
  b4 : Boxed wr (s0 + 1) 90 (.slice none 0 0)
  b5 : Boxed wr (s0 + 1 + 1) 27 (i 0)
  bs : Boxed wr Bs 29 S
  kf : KeepsFrom N0 W wr
  bw : Below s0 w wr
  bW : Below s0 W wr
  sz : sb ≤ wr.heap.size
theorem MI.drew {N0 s0 sb B8 Bs : Nat} {S : Value} {m : Int} {w W wr : World} {xs : List Int} (h : MI N0 s0 sb B8 Bs S m w W wr xs) : MI N0 s0 sb B8 Bs S m w W wr.drew xs :=
  ⟨h.row, h.b3, h.b4, h.b5, h.bs, ⟨h.kf.size, h.kf.same⟩, h.bw.drew, h.bW.drew, h.sz⟩
theorem MI.step {N0 s0 sb B8 Bs : Nat} {S : Value} {m x : Int} {w W wr w1 : World} {xs : List Int} (h : MI N0 s0 sb B8 Bs S m w W wr xs) {v v' : Value} {tmp : Obj} (h3 : s0 + 1 + 1 < sb) (h8 : sb ≤ B8) (hs : B8 ≠ Bs)
    (hv : Boxed wr B8 90 v) (hr : wr.ownsRow sb 3 1 v xs.length (xs.map i)) (hown : w1.ownsRow sb 3 1 v' (xs.length + 1) (xs.map i ++ [i x])) (hg : (wr.alloc tmp).grownBy w1 v.ownBlock) :
    MI N0 s0 sb B8 Bs S m w W (w1.setCell ⟨B8, 0, none⟩ v') (xs ++ [x]) := by
  obtain ⟨a1, a2, a3, a4, a5⟩ := hv.appended (by decide) hr h.sz h8 hown hg
  have a6 : Below s0 wr (w1.setCell ⟨B8, 0, none⟩ v') := a5.mono (by omega)
  refine ⟨⟨v', a2, by simpa using a3⟩, (a5.block _ (by omega)).trans h.b3, (a5.block _ (by omega)).trans h.b4, (a5.block _ (by omega)).trans h.b5, ((h.bs.alloc tmp).kept hg (h.bs.not_row (by decide) hr)).other (fun e => hs e.symm) _, h.kf.trans (a4.from _), h.bw.trans a6, h.bW.trans a6, Nat.le_trans h.sz a5.size⟩

theorem blk_own {X Y : World} {row : Option Nat} {B : Nat} {t : TypeId} {cs : Array Value} (h : Blk X B t cs) (hg : X.grownBy Y row) (hr : ∀ r, row = some r → ∃ o : Obj, X.heap[r]? = some o ∧ o.isCells = false) : Blk Y B t cs :=
  (hg.block B h.lt (fun e => by obtain ⟨o, ho, hc⟩ := hr B e.symm; rw [show X.heap[B]? = _ from h] at ho; cases ho; cases hc)).trans h
theorem MI.alloc {N0 s0 sb B8 Bs : Nat} {S : Value} {m : Int} {w W wr : World} {xs : List Int} {o : Obj} (h : MI N0 s0 sb B8 Bs S m w W wr xs) (h3 : s0 ≤ sb := by omega) : MI N0 s0 sb B8 Bs S m w W (wr.alloc o) xs := by
  obtain ⟨v, r1, r2⟩ := h.row
  have := h.sz
  exact ⟨⟨v, r1.alloc o, r2.alloc o⟩, h.b3.alloc o, h.b4.alloc o, h.b5.alloc o, h.bs.alloc o, h.kf.trans ((KeepsOthers.alloc _ _).from _), h.bw.alloc (by omega) o, h.bW.alloc (by omega) o, by simp; omega⟩
theorem flat_i : ∀ (xs : List Int), (xs.map (fun x => [i x])).flatten = xs.map i
  | [] => rfl
  | x :: xs => by rw [List.map_cons, List.flatten_cons, flat_i xs]; rfl
theorem rowI {W : World} {sb : Nat} {v : Value} {xs : List Int} (h : W.ownsRow sb 3 1 v xs.length (xs.map i)) (hx : ∀ x ∈ xs, MonW.I64 x) : MonW.IntsAt W v xs := by
  refine SliceAt.of_own (by omega) (rs := xs.map (fun x => [i x])) (by rw [flat_i]; exact h) ⟨by simp, fun j r x h1 h2 => ?_⟩ rfl
  rw [List.getElem?_map, h2] at h1
  obtain rfl : [i x] = r := by simpa using h1
  exact ⟨rfl, rfl, hx _ (List.mem_of_getElem? h2)⟩
theorem MI.restart {N0 s0 sb B8 Bs : Nat} {S : Value} {m : Int} {w W0 W : World} {xs : List Int} (h : MI N0 s0 sb B8 Bs S m w W0 W xs) : MI N0 s0 sb B8 Bs S m w W W xs :=
  ⟨h.row, h.b3, h.b4, h.b5, h.bs, KeepsFrom.refl _ _, h.bw, Below.refl _ _, h.sz⟩
theorem own_slice {W : World} {sb : Nat} {e : TypeId} {v : Value} {n k : Nat} {xs : List Value} (h : W.ownsRow sb e k v n xs) : ∃ A m c, v = .slice A m c := by
  rcases h.2 with ⟨rfl, _⟩ | ⟨g, cap, cur, rfl, _⟩
  · exact ⟨_, _, _, rfl⟩
  · exact ⟨_, _, _, rfl⟩
theorem MI.own {β : Type} {N0 s0 sb B8 Bs : Nat} {S : Value} {m : Int} {w W : World} (f : β → List Int) (h1 : W.heap.size ≤ N0) (h2 : s0 ≤ w.heap.size) (h3 : s0 ≤ W.heap.size) (h4 : s0 ≤ N0) : OwnFrom N0 (fun s wr => MI N0 s0 sb B8 Bs S m w W wr (f s)) := by
  intro s X Y row h hg hr
  have hr2 : ∀ r, row = some r → ∃ o : Obj, X.heap[r]? = some o ∧ o.isCells = false := fun r e => (hr r e).2
  obtain ⟨v, r1, r2⟩ := h.row
  obtain ⟨v', r1', r2', _⟩ := holdsRow_own sb B8 90 3 1 (fun s => (f s).length) (fun s => (f s).map i) (fun _ _ => True) s X Y row ⟨v, r1, r2, trivial⟩ hg hr2
  exact ⟨⟨v', r1', r2'⟩, boxed_own _ _ (fun _ : Unit => i m) () X Y row h.b3 hg hr2, boxed_own _ _ (fun _ : Unit => .slice none 0 0) () X Y row h.b4 hg hr2, boxed_own _ _ (fun _ : Unit => i 0) () X Y row h.b5 hg hr2, boxed_own _ _ (fun _ : Unit => S) () X Y row h.bs hg hr2,
    ownFrom_keepsFrom h1 () X Y row h.kf hg hr, ownFrom_below h2 h4 () X Y row h.bw hg hr, ownFrom_below h3 h4 () X Y row h.bW hg hr, Nat.le_trans h.sz hg.size⟩

set_option maxRecDepth 100000 in
set_option maxHeartbeats 1000000 in
theorem minutes (v : Value) (l : List Rdg) (m : Int) (w : World) (h : RdgsAt w v l) (hm : MonW.I64 m) : Calls Tryz.prog 92 #[v, i m] w (MinPost l m w) := by
  obtain ⟨A, c, rfl, h1, h2⟩ := SliceAt.form h
  unfold maxLen at h2
  have HL := Lib.hid h
  have HV : Hid (∀ (W : World), Kept w W → ∀ {r : Int}, useE l m = r → CallsIn Fence.wide 8 Tryz.prog 118 #[.slice A l.length c, i m] W fun e w' => e = .returned (i r) ∧ Below W.heap.size W w') := fun W hk r hr => by subst hr; exact callsIn_wide.2 (valid (.slice A l.length c) l m W (h.keep hk))
  refine (callsIn_wide (n := 9)).1 ?_
  have hro : Fence.wide.round = none := rfl
  have hn1 : 1 ≤ 9 := by omega
  obtain ⟨i0, hi0, hz0, hz1, hz2⟩ := info_parts infoI
  by_cases hE : useE l m = 0
  · have hG := good_of hE
    have HV := fun (W : World) (hk : Kept w W) => HV.out W hk hE
    obtain ⟨j, hj⟩ : ∃ j, l.length = j + 1 := ⟨l.length - 1, by have := hG.n1; omega⟩
    have hn2 := hG.n2
    have hjl : j < l.length := by omega
    have h0l : 0 < l.length := by omega
    have hjz : (l.length : Int) - 1 = (j : Int) := by omega
    have hjlz : (j : Int) < (l.length : Int) := by omega
    have hjw : IntKind.i64.wrap (j : Int) = (j : Int) := IntWalk.i64_in _ (by omega)
    have h0lz : (0 : Int) < (l.length : Int) := by omega
    obtain ⟨b, off, rfl, hbw, _, _, hrow⟩ := RdgsAt.at_ HL.out hjl
    have HROW := Lib.hid hrow
    obtain ⟨b', off', hA', _, _, _, hrow0⟩ := RdgsAt.at_ HL.out h0l
    obtain ⟨rfl, rfl⟩ : b = b' ∧ off = off' := by simpa using hA'
    have HROW0 := Lib.hid hrow0
    clear hrow hrow0 hA'
    have hsp := span_at h0l
    simp only [show l.length - 1 = j from by omega] at hsp
    have o1 := hG.ok j hjl
    have o2 := hG.ok 0 h0l
    have HG := Lib.hid hG
    have hw1 : IntKind.i64.wrap (l[j].at_ - l[0].at_) = l[j].at_ - l[0].at_ := IntWalk.i64_in _ (by omega)
    rw [← hsp] at hw1
    have hspz : l[j].at_ - l[0].at_ = span l := hsp.symm
    clear hG hsp o1 o2
    generalize l[j].at_ = aj at *
    generalize l[0].at_ = a0 at *
    have HS := Lib.hid hE
    have HJ := Lib.hid hj
    clear hj
    by_cases hs : 20160 < span l
    · have HM : Hid (minE l m = 3) := by show _ = _; unfold minE; rw [if_neg (by omega), if_pos hs]
      generalize span l = sp at *
      clear HS hE
      refine callsIn_of_wp_marks Tryz.func92 rfl trivial ?_ hro
      simp only [Tryz.ntmps92, List.size_toArray, List.length_cons, List.length_nil, Nat.reduceAdd, Nat.reduceSub, Array.replicate_succ, Array.replicate_zero, List.push_toArray, List.append_toArray, List.nil_append, List.cons_append]
      gi_wp2_with (refine ⟨trivial, ?_⟩; gi_at_call 118; refine (HV _ (Kept.of (below_alloc (below_alloc (below_alloc (Below.refl _ _) _) _) _))).mono ?_; rintro e w1 ⟨rfl, hb1⟩; obtain ⟨k3, k4, k5, HB1⟩ := boxes m hb1; have c3 := k3.cell; have c4 := k4.cell; have c5 := k5.cell; have f4 := k4.frozen; have f5 := k5.frozen; have lj := (HROW.out w1 (Kept.of HB1.out)).1; have l0 : w1.cell? ⟨b, off, none⟩ = some (i a0) := by simpa using (HROW0.out w1 (Kept.of HB1.out)).1)
      gi_quiet (fail)
      gi_wp2
      refine ⟨.tuple #[.slice none 0 0, i 3], ret2 rfl rfl (((show Boxed (w1.drewN nq) _ _ _ from k4).set _).other (by omega) _) (((show Boxed (w1.drewN nq) _ _ _ from k5).other (by omega) _).set _), ?_⟩
      exact MinPost.no HM.out (by decide) (((below_drewN' HB1.out nq).setCell (p := ⟨w.heap.size + 1, 0, none⟩) (by simp) _).setCell (p := ⟨w.heap.size + 1 + 1, 0, none⟩) (by simp; omega) _)
    · have HM : Hid (minE l m = 0 ∧ minV l m = mins m l) := by
        have h1 : minE l m = 0 := by unfold minE; rw [if_neg (by omega), if_neg hs]
        exact ⟨h1, by unfold minV; rw [if_pos h1]⟩
      have HSP := Lib.hid hs
      have hsp0 : Hid (0 ≤ span l) := by
        have h1 := HG.out.mono _ 0 (l.length - 1) h0l (by omega) rfl (by omega)
        have h2 := span_at h0l
        show 0 ≤ span l
        omega
      have hspn : ((span l).toNat : Int) = span l := Int.toNat_of_nonneg hsp0.out
      generalize hq : span l = sp at *
      have HQ := Lib.hid hq
      clear HS hE hq
      refine callsIn_of_wp_marks Tryz.func92 rfl trivial ?_ hro
      simp only [Tryz.ntmps92, List.size_toArray, List.length_cons, List.length_nil, Nat.reduceAdd, Nat.reduceSub, Array.replicate_succ, Array.replicate_zero, List.push_toArray, List.append_toArray, List.nil_append, List.cons_append]
      gi_wp2_with (refine ⟨trivial, ?_⟩; gi_at_call 118; refine (HV _ (Kept.of (below_alloc (below_alloc (below_alloc (Below.refl _ _) _) _) _))).mono ?_; rintro e w1 ⟨rfl, hb1⟩; obtain ⟨k3, k4, k5, HB1⟩ := boxes m hb1; have c3 := k3.cell; have c4 := k4.cell; have c5 := k5.cell; have f4 := k4.frozen; have f5 := k5.frozen; have lj := (HROW.out w1 (Kept.of HB1.out)).1; have l0 : w1.cell? ⟨b, off, none⟩ = some (i a0) := by simpa using (HROW0.out w1 (Kept.of HB1.out)).1)
      gi_quiet (fail)
      gi_wp2_with (first | (gi_at_make; refine wpListIn_make_own _ rfl _ _ 90 rfl w1.heap.size 3 i0 _ 1 Tryz.underlying90 hi0 hz0 hz1 .i64 .i64 _ sp.toNat rfl rfl hspn.symm (by rw [hz2]; omega) (by unfold maxLen; omega) (Nat.le_refl _) ?_; intro w5 hown5 hgr5; have HO5 := Lib.hid hown5; have HGR5 := Lib.hid hgr5; clear hown5 hgr5) | (refine ⟨trivial, ?_⟩; gi_at_call 119; refine (nb Fence.wide 8 trivial hro _ _ _ _).mono ?_; rintro e w6 ⟨rfl, rfl⟩))
      have HO5 : Hid (w5.ownsRow w1.heap.size 3 1 (.slice (some ⟨w1.heap.size, 0, none⟩) 0 sp.toNat) 0 []) := HO5
      have hb8 : w1.heap.size ≤ w5.heap.size := (HGR5.out).size
      have hm3 : w.heap.size + 1 + 1 < w1.heap.size := k5.lt
      generalize hsb : w1.heap.size = sb at *
      obtain ⟨q3, q4, q5⟩ : Boxed w5 w.heap.size 3 (i m) ∧ Boxed w5 (w.heap.size + 1) 90 (.slice none 0 0) ∧ Boxed w5 (w.heap.size + 1 + 1) 27 (i 0) := ⟨(show Boxed (w1.drewN nq) _ _ _ from k3).kept HGR5.out (by simp), (show Boxed (w1.drewN nq) _ _ _ from k4).kept HGR5.out (by simp), (show Boxed (w1.drewN nq) _ _ _ from k5).kept HGR5.out (by simp)⟩
      have hB5 : Below w.heap.size w w5 := (below_drewN' HB1.out nq).grown HGR5.out HB1.out.size (fun k hk => by cases hk)
      have g8 := (Boxed.new w5 90 (.slice (some ⟨sb, 0, none⟩) 0 sp.toNat)).alloc (.cells #[.slice (some ⟨b, off, none⟩) l.length c] 29)
      have gs := Boxed.new (w5.alloc (.cells #[.slice (some ⟨sb, 0, none⟩) 0 sp.toNat] 90)) 29 (.slice (some ⟨b, off, none⟩) l.length c)
      rw [World.size_alloc] at gs
      have gr : ((w5.alloc (.cells #[.slice (some ⟨sb, 0, none⟩) 0 sp.toNat] 90)).alloc (.cells #[.slice (some ⟨b, off, none⟩) l.length c] 29)).ownsRow sb 3 1 (.slice (some ⟨sb, 0, none⟩) 0 sp.toNat) 0 [] := (HO5.out.alloc _).alloc _
      have gB := below_alloc (below_alloc hB5 (.cells #[.slice (some ⟨sb, 0, none⟩) 0 sp.toNat] 90)) (.cells #[.slice (some ⟨b, off, none⟩) l.length c] 29)
      have hsz : ((w5.alloc (.cells #[.slice (some ⟨sb, 0, none⟩) 0 sp.toNat] 90)).alloc (.cells #[.slice (some ⟨b, off, none⟩) l.length c] 29)).heap.size = w5.heap.size + 2 := by simp
      have hMI : MI (w5.heap.size + 2) w.heap.size sb w5.heap.size (w5.heap.size + 1) (.slice (some ⟨b, off, none⟩) l.length c) m w ((w5.alloc (.cells #[.slice (some ⟨sb, 0, none⟩) 0 sp.toNat] 90)).alloc (.cells #[.slice (some ⟨b, off, none⟩) l.length c] 29)) ((w5.alloc (.cells #[.slice (some ⟨sb, 0, none⟩) 0 sp.toNat] 90)).alloc (.cells #[.slice (some ⟨b, off, none⟩) l.length c] 29)) (minTo l m []) :=
        ⟨⟨_, g8, gr⟩, (q3.alloc _).alloc _, (q4.alloc _).alloc _, (q5.alloc _).alloc _, gs, KeepsFrom.refl _ _, gB, Below.refl _ _, by omega⟩
      obtain ⟨W0, hW0⟩ : ∃ W0, (w5.alloc (.cells #[.slice (some ⟨sb, 0, none⟩) 0 sp.toNat] 90)).alloc (.cells #[.slice (some ⟨b, off, none⟩) l.length c] 29) = W0 := ⟨_, rfl⟩
      rw [hW0] at hMI hsz gB ⊢
      clear hW0 g8 gs gr q3 q4 q5 hB5 k3 k4 k5 c3 c4 c5 f4 f5 lj l0 HGR5 HO5
      generalize w5.heap.size = B8 at *
      have HMI := Lib.hid hMI
      have HGB := Lib.hid gB
      have HRS : Hid (∀ k (hk : k < l.length), W0.cell? ⟨b, off + k * 2, none⟩ = some (i l[k].at_) ∧ W0.cell? ⟨b, off + k * 2 + 1, none⟩ = some (i l[k].reg)) := by
        intro k hk
        obtain ⟨b', off', hA', _, _, _, hrow⟩ := RdgsAt.at_ HL.out hk
        obtain ⟨rfl, rfl⟩ : b = b' ∧ off = off' := by simpa using hA'
        exact hrow W0 (Kept.of HGB.out)
      clear gB
      have hw0 := HMI.out.bs.cell
      refine wpIn_rangeFunc_ownH hro hn1 (gf := 142) (lb := #[.pointer (some ⟨B8 + 1, 0, none⟩)]) rfl trivial (enters_of Tryz.func142 (by kernel_rfl) rfl)
        (nb_stops Fence.wide 8 trivial hro (by omega) (B8 + 1) w.heap.size b off c l hn2 h0l W0 (by omega) hbw HGB.out.size hw0 HRS.out) KpN.trans (fun W l' o o' hl hlo _ _ => ⟨belowK_b HGB.out.size W l' o o' hl hlo ‹_› ‹_›, by rw [World.putObj_heap_other (by omega)]⟩) (Below.refl _ _) (fun _ => rfl)
        (fun pre W => MI (B8 + 2) w.heap.size sb B8 (B8 + 1) (.slice (some ⟨b, off, none⟩) l.length c) m w W0 W (minTo l m (keys pre)))
        (fun _ _ _ => False)
        (by rw [hsz]; exact MI.own _ (by omega) (Nat.le_refl _) HGB.out.size (by omega))
        (fun _ _ _ _ _ hs _ _ => hs)
        hMI
        (fun x a' W => ∃ B9 B10, Blk W B9 67 #[i (l[x.1]'(by have := x.2; omega)).at_, i (l[x.1]'(by have := x.2; omega)).reg] ∧ Blk W B10 67 #[i (l[x.1 + 1]'x.2).at_, i (l[x.1 + 1]'x.2).reg] ∧ a' = { tmps := #[.slice (some ⟨b, off, none⟩) l.length c, i m, undef, .pointer (some ⟨w.heap.size, 0, none⟩), .pointer (some ⟨w.heap.size + 1, 0, none⟩), .pointer (some ⟨w.heap.size + 1 + 1, 0, none⟩), i 0, .int .i64 sp, .pointer (some ⟨B8, 0, none⟩), .pointer (some ⟨B9, 0, none⟩), .pointer (some ⟨B10, 0, none⟩), undef, undef, undef, undef, .slice (some ⟨b, off, none⟩) l.length c, i m, i 0, i 0, .bool false, undef, .slice (some ⟨b, off, none⟩) l.length c, .slice (some ⟨b, off, none⟩) l.length c, .int .i64 l.length, .int .i64 j, .pointer (some ⟨b, off + j * 2, none⟩), .pointer (some ⟨b, off + j * 2, none⟩), i aj, .slice (some ⟨b, off, none⟩) l.length c, .pointer (some ⟨b, off, none⟩), .pointer (some ⟨b, off, none⟩), i a0, .int .i64 sp, .int .i64 sp, .bool (decide (20160 < sp)), .int .i64 sp, .slice (some ⟨sb, 0, none⟩) 0 sp.toNat, .slice (some ⟨b, off, none⟩) l.length c, .func (.func 142) #[] #[.pointer (some ⟨B8 + 1, 0, none⟩)], rdgV (l[x.1]'(by have := x.2; omega)), rdgV (l[x.1 + 1]'x.2), undef, undef, undef, undef, undef, undef, undef, undef, undef, undef, undef, undef, undef, undef, undef, undef, undef, undef, undef, undef, undef, undef, undef, undef, undef, undef, undef, undef, undef, undef, undef, undef, undef, undef, undef, undef, undef, undef], defers := [] })
        (fun x a' _ X Y row hs hg hr => by obtain ⟨B9, B10, p1, p2, p3⟩ := hs; exact ⟨B9, B10, blk_own p1 hg (fun r e => (hr r e).2), blk_own p2 hg (fun r e => (hr r e).2), p3⟩)
        ?assign ?body ?done ?stop
      case assign =>
        rintro l' pre x W K hi hK
        gi_wp2
        refine hK _ _ (((KeepsOthers.alloc _ _).trans (KeepsOthers.alloc _ _)).from _) ⟨((Below.refl _ W).alloc (by have := hi.bW.size; have := HGB.out.size; omega) _).alloc (by have := hi.bW.size; have := HGB.out.size; simp; omega) _, ?_⟩ (hi.alloc.alloc) ⟨W.heap.size, W.heap.size + 1, (Blk.new W _ _).alloc _, by have := Blk.new (W.alloc (.cells #[i (l[x.1]'(by have := x.2; omega)).at_, i (l[x.1]'(by have := x.2; omega)).reg] 67)) 67 #[i (l[x.1 + 1]'x.2).at_, i (l[x.1 + 1]'x.2).reg]; rwa [World.size_alloc] at this, rfl⟩
        exact ((hi.bs.alloc _).alloc _).trans hi.bs.symm
      case body =>
        rintro l' pre x a' W hl' ⟨r, hr⟩ hi ⟨B9, B10, p9, p10, rfl⟩ hlt
        have HX := Lib.hid (partsK_at (m := m) x.2)
        have o1 := HG.out.ok x.1 (by have := x.2; omega)
        have o2 := HG.out.ok (x.1 + 1) x.2
        have op := HG.out.part (by rw [HQ.out]; have := HSP.out; omega) x.2
        have om1 := HG.out.m1
        have om2 := HG.out.m2
        have HLN := Lib.hid (minTo_len HG.out (by rw [HQ.out]; have := HSP.out; omega) (keys pre))
        have hpl : (keys pre).length < l.length := by simpa [keys] using hlt
        generalize l[x.1]'(by have := x.2; omega) = ya at *
        generalize l[x.1 + 1]'x.2 = yb at *
        obtain ⟨ta, ra⟩ := ya
        obtain ⟨tb, rb⟩ := yb
        simp only at *
        have c90 := p9.cell 0
        have c91 := p9.cell 1
        have c100 := p10.cell 0
        have c101 := p10.cell 1
        simp at c90 c91 c100 c101
        have c3 := hi.b3.cell
        have hlw : IntKind.i64.wrap (tb - ta) = tb - ta := IntWalk.i64_in _ (by omega)
        have hd1 := delta_bd (a := ra) (b := rb) om1
        have HDL := Lib.hid (fun W => UsgD.delta ra rb m W om1 om2 o1.2.2.1 o1.2.2.2 o2.2.2.1 o2.2.2.2)
        change Hid (∀ W, Calls _ _ _ _ fun e w' => e = .returned (.tuple #[i (delta ra rb m), i 0]) ∧ _) at HDL
        generalize delta ra rb m = en at *
        obtain ⟨N, hN⟩ : ∃ N : Nat, tb - ta = (N : Int) := ⟨(tb - ta).toNat, by omega⟩
        rw [hN] at hlw op HX
        gi_wp2_with (refine ⟨trivial, ?_⟩; gi_at_call 120; refine (CallsIn.inRound l' (callsIn_wide.2 (HDL.out _))).mono ?_; rintro e w' ⟨rfl, hw'⟩; subst w')
        clear c90 c91 c100 c101 p9 p10 o1 o2 hlw
        gi_loopg [59] N (fun gg s59 wr => ∃ kk : Nat, kk ≤ N ∧ N - kk ≤ gg ∧ s59 = i kk ∧ Hid (MI (B8 + 2) w.heap.size sb B8 (B8 + 1) (.slice (some ⟨b, off, none⟩) l.length c) m w W wr (minTo l m (keys pre) ++ (List.range kk).map (fun (j : Nat) => Usg.part en (N : Int) (j : Int)))))
        case atStart => exact ⟨0, by omega, by omega, rfl, (by have := hi.restart; show MI _ _ _ _ _ _ _ _ _ _ _; simpa using this)⟩
        case round =>
          obtain ⟨kk, hkk, hg, rfl, HMW⟩ := hrel
          by_cases hlt2 : kk < N
          · have hltz : (kk : Int) < (N : Int) := by omega
            obtain ⟨v, r1, r2⟩ := HMW.out.row
            obtain ⟨Av, nv, cv, rfl⟩ := own_slice r2
            have c8 : wr.cell? ⟨B8, 0, none⟩ = some (.slice Av nv cv) := r1.cell
            have c8a : (wr.alloc (.cells #[i (Usg.part en (N : Int) (kk : Int))] 3)).cell? ⟨B8, 0, none⟩ = some (.slice Av nv cv) := (r1.alloc _).cell
            have hkw : IntKind.i64.wrap ((kk : Int) + 1) = (kk : Int) + 1 := IntWalk.i64_in _ (by omega)
            have pb := part_bd hd1.1 (show (1 : Int) ≤ (N : Int) by omega) (show (0 : Int) ≤ (kk : Int) by omega) hltz
            have m1 := mul_bd hd1.1 (show en ≤ 1099511627776 by omega) (show (0 : Int) ≤ (kk : Int) by omega) (by omega)
            have m2 := mul_bd hd1.1 (show en ≤ 1099511627776 by omega) (show (0 : Int) ≤ (kk : Int) + 1 by omega) (by omega)
            obtain ⟨q1, hq1⟩ : ∃ q, en * ((kk : Int) + 1) / (N : Int) = q := ⟨_, rfl⟩
            obtain ⟨q2, hq2⟩ : ∃ q, en * (kk : Int) / (N : Int) = q := ⟨_, rfl⟩
            have hpe : q1 - q2 = Usg.part en (N : Int) (kk : Int) := by unfold Usg.part; rw [hq1, hq2]
            rw [hq1, hq2] at pb
            have t1 : (en * ((kk : Int) + 1)).tdiv (N : Int) = q1 := by rw [Int.tdiv_eq_ediv_of_nonneg m2.1]; exact hq1
            have t2 : (en * (kk : Int)).tdiv (N : Int) = q2 := by rw [Int.tdiv_eq_ediv_of_nonneg m1.1]; exact hq2
            have w1' : IntKind.i64.wrap (en * ((kk : Int) + 1)) = en * ((kk : Int) + 1) := IntWalk.i64_in _ (by omega)
            have w2' : IntKind.i64.wrap (en * (kk : Int)) = en * (kk : Int) := IntWalk.i64_in _ (by omega)
            have w3' : IntKind.i64.wrap q1 = q1 := IntWalk.i64_in _ (by omega)
            have w4' : IntKind.i64.wrap q2 = q2 := IntWalk.i64_in _ (by omega)
            have w5' : IntKind.i64.wrap (Usg.part en (N : Int) (kk : Int)) = Usg.part en (N : Int) (kk : Int) := IntWalk.i64_in _ (by omega)
            have hN0 : ¬ N = 0 := by omega
            have HPB := Lib.hid pb
            have HM1 := Lib.hid (And.intro m1 m2)
            clear hq1 hq2 pb m1 m2
            gi_wp2
            refine Reg6I.made 14 (fun k => match k with | 0 => (.slice Av nv cv) | 1 => (i en) | 2 => (i (kk : Int)) | 3 => (i ((kk : Int) + 1)) | 4 => (i (en * ((kk : Int) + 1))) | 5 => (.int .i64 (N : Int)) | 6 => (i q1) | 7 => (i en) | 8 => (i (kk : Int)) | 9 => (i (en * (kk : Int))) | 10 => (.int .i64 (N : Int)) | 11 => (i q2) | 12 => (i (Usg.part en (N : Int) (kk : Int))) | 13 => (.slice (some ⟨wr.heap.size, 0, none⟩) 1 1) | _ => undef) (.cells #[i (Usg.part en (N : Int) (kk : Int))] 3) (by kernel_rfl) (by kernel_rfl) (by kernel_rfl) (by decide) ?_ ?_ ?_ ?_
            · exact Reg4.in_of (n := 79) (by kernel_rfl) rfl
            · intro j o hj ho a hop w' hw
              have hj' : j = 0 ∨ j = 1 ∨ j = 2 ∨ j = 3 ∨ j = 4 ∨ j = 5 ∨ j = 6 ∨ j = 7 ∨ j = 8 ∨ j = 9 ∨ j = 10 ∨ j = 11 ∨ j = 12 := by omega
              rcases hj' with rfl | rfl | rfl | rfl | rfl | rfl | rfl | rfl | rfl | rfl | rfl | rfl | rfl
              all_goals
                obtain rfl := Option.some.inj ho
                clear ho hj
              · have h8 : a.tmps[8]?.getD undef = (.pointer (some ⟨B8, 0, none⟩)) := (Array.getD_eq_getD_getElem? ..).symm.trans (hop 8 (by simp [Op.operands]))
                rcases hw with rfl | rfl
                all_goals go_simp
              · have h11 : a.tmps[11]?.getD undef = (i en) := (Array.getD_eq_getD_getElem? ..).symm.trans (hop 11 (by simp [Op.operands]))
                rcases hw with rfl | rfl
                all_goals go_simp
              · have h14 : a.tmps[14]?.getD undef = (i (kk : Int)) := (Array.getD_eq_getD_getElem? ..).symm.trans (hop 14 (by simp [Op.operands]))
                rcases hw with rfl | rfl
                all_goals go_simp
              · have h64 : a.tmps[64]?.getD undef = (i (kk : Int)) := (Array.getD_eq_getD_getElem? ..).symm.trans (hop 64 (by simp [Op.operands]))
                rcases hw with rfl | rfl
                all_goals go_simp
              · have h63 : a.tmps[63]?.getD undef = (i en) := (Array.getD_eq_getD_getElem? ..).symm.trans (hop 63 (by simp [Op.operands]))
                have h65 : a.tmps[65]?.getD undef = (i ((kk : Int) + 1)) := (Array.getD_eq_getD_getElem? ..).symm.trans (hop 65 (by simp [Op.operands]))
                rcases hw with rfl | rfl
                all_goals go_simp
              · have h13 : a.tmps[13]?.getD undef = (.int .i64 (N : Int)) := (Array.getD_eq_getD_getElem? ..).symm.trans (hop 13 (by simp [Op.operands]))
                rcases hw with rfl | rfl
                all_goals go_simp
              · have h66 : a.tmps[66]?.getD undef = (i (en * ((kk : Int) + 1))) := (Array.getD_eq_getD_getElem? ..).symm.trans (hop 66 (by simp [Op.operands]))
                have h67 : a.tmps[67]?.getD undef = (.int .i64 (N : Int)) := (Array.getD_eq_getD_getElem? ..).symm.trans (hop 67 (by simp [Op.operands]))
                rcases hw with rfl | rfl
                all_goals go_simp
              · have h11 : a.tmps[11]?.getD undef = (i en) := (Array.getD_eq_getD_getElem? ..).symm.trans (hop 11 (by simp [Op.operands]))
                rcases hw with rfl | rfl
                all_goals go_simp
              · have h14 : a.tmps[14]?.getD undef = (i (kk : Int)) := (Array.getD_eq_getD_getElem? ..).symm.trans (hop 14 (by simp [Op.operands]))
                rcases hw with rfl | rfl
                all_goals go_simp
              · have h69 : a.tmps[69]?.getD undef = (i en) := (Array.getD_eq_getD_getElem? ..).symm.trans (hop 69 (by simp [Op.operands]))
                have h70 : a.tmps[70]?.getD undef = (i (kk : Int)) := (Array.getD_eq_getD_getElem? ..).symm.trans (hop 70 (by simp [Op.operands]))
                rcases hw with rfl | rfl
                all_goals go_simp
              · have h13 : a.tmps[13]?.getD undef = (.int .i64 (N : Int)) := (Array.getD_eq_getD_getElem? ..).symm.trans (hop 13 (by simp [Op.operands]))
                rcases hw with rfl | rfl
                all_goals go_simp
              · have h71 : a.tmps[71]?.getD undef = (i (en * (kk : Int))) := (Array.getD_eq_getD_getElem? ..).symm.trans (hop 71 (by simp [Op.operands]))
                have h72 : a.tmps[72]?.getD undef = (.int .i64 (N : Int)) := (Array.getD_eq_getD_getElem? ..).symm.trans (hop 72 (by simp [Op.operands]))
                rcases hw with rfl | rfl
                all_goals go_simp
              · have h68 : a.tmps[68]?.getD undef = (i q1) := (Array.getD_eq_getD_getElem? ..).symm.trans (hop 68 (by simp [Op.operands]))
                have h73 : a.tmps[73]?.getD undef = (i q2) := (Array.getD_eq_getD_getElem? ..).symm.trans (hop 73 (by simp [Op.operands]))
                rcases hw with rfl | rfl
                all_goals go_simp
            · intro o ho a hop
              obtain rfl := Option.some.inj ho
              have h74 : a.tmps[74]?.getD undef = (i (Usg.part en (N : Int) (kk : Int))) := (Array.getD_eq_getD_getElem? ..).symm.trans (hop 74 (by simp [Op.operands]))
              go_simp
            · simp only [Reg4.puts, Reg4.dstOf, List.range, List.range.loop, if_true, List.drop_succ_cons, List.drop_zero]
              have HR2 := Lib.hid (show wr.drew.ownsRow sb 3 1 (.slice (Av) nv cv) _ _ from r2)
              have HLX := Lib.hid HMW.out.drew
              have hll : (minTo l m (keys pre) ++ (List.range kk).map (fun (j : Nat) => Usg.part en (N : Int) (j : Int))).length ≤ 20160 * 1026 := by
                have := HLN.out
                simp only [List.length_append, List.length_map, List.length_range]
                omega
              have hsb := HLX.out.sz
              generalize hxs : minTo l m (keys pre) ++ (List.range kk).map (fun (j : Nat) => Usg.part en (N : Int) (j : Int)) = xs at *
              simp only [List.getElem?_toArray, List.getElem?_cons_zero, List.getElem?_cons_succ, Option.bind_some, Act.put, List.setIfInBounds_toArray, List.set_cons_succ, List.set_cons_zero]
              refine wpListIn_append_own (wr.drew.alloc (.cells #[i (Usg.part en (N : Int) (kk : Int))] 3)) rfl (.tmp 62) (.tmp 75) 90 rfl sb 3 i0 (.int .i64 0) 1 8 Tryz.underlying90 hi0 hz0 hz1 hz2 rfl (by decide) (.slice Av nv cv) _ _ rfl (HR2.out.alloc _) ⟨wr.heap.size, 0, none⟩ 1 1 [i (Usg.part en (N : Int) (kk : Int))] rfl rfl (cell_one_new wr.drew _ _) (by simp [Value.oneCell']) (by unfold maxLen; omega) (by omega) (by simp; exact Nat.le_trans hsb (Nat.le_succ _)) ?_
              intro v' w1 hown' hgrow _
              obtain ⟨g', cap', rfl⟩ := ownsRow_succ hown'
              have hst := HLX.out.step (x := Usg.part en (N : Int) (kk : Int)) hm3 hb8 (by omega) r1 HR2.out hown' hgrow
              obtain ⟨hv1, _⟩ := (show Boxed wr.drew B8 _ _ from r1).appended (by decide) HR2.out hsb hb8 hown' hgrow
              have hc1 := hv1.cell
              have hf1 := hv1.frozen
              have HST := Lib.hid hst
              clear hst hown' hgrow c8 c8a t1 t2 w1' w2' w3' w4' w5'
              gi_wp2
              gi_roundg (N - (kk + 1))
              case measure => omega
              case rel =>
                refine ⟨kk + 1, by omega, by omega, by go_num, ?_⟩
                rw [parts_succ, ← List.append_assoc, hxs]
                exact HST.out
          · obtain rfl : kk = N := by omega
            gi_wp2
            refine ⟨by rw [hsz]; exact HMW.out.kf, ⟨HMW.out.bW, HMW.out.bs.trans hi.bs.symm⟩, ?_⟩
            have hk : minTo l m (keys (pre ++ [x])) = minTo l m (keys pre) ++ (List.range kk).map (fun (j : Nat) => Usg.part en (kk : Int) (j : Int)) := by
              simp only [keys, List.map_append, List.map_cons, List.map_nil]
              rw [minTo_snoc, HX.out]
              rfl
            show MI _ _ _ _ _ _ _ _ _ _ (minTo l m (keys (pre ++ [x])))
            rw [hk]
            exact ⟨HMW.out.row, HMW.out.b3, HMW.out.b4, HMW.out.b5, HMW.out.bs, hi.kf.trans HMW.out.kf, HMW.out.bw, hi.bW.trans HMW.out.bW, HMW.out.sz⟩
      case done =>
        rintro D ys W hD hys hi hK
        obtain ⟨v, r1, r2⟩ := hi.row
        obtain ⟨Av, nv, cv, rfl⟩ := own_slice r2
        have c8 := r1.cell
        have c4 := hi.b4.cell
        have c5 := hi.b5.cell
        have f4 := hi.b4.frozen
        have f5 := hi.b5.frozen
        have HI := Lib.hid hi
        have HY := Lib.hid hys
        clear hi hys
        gi_wp2
        have hK' := (KeepsOthers.setCell _ ⟨w.heap.size + 1 + 1, 0, none⟩ (i 0)).same D _ ((KeepsOthers.setCell W ⟨w.heap.size + 1, 0, none⟩ (.slice Av nv cv)).same D _ hK rfl) rfl
        refine ⟨by simp, .inl ⟨_, _, rfl, run_takeDeferred hK', ?_⟩⟩
        have hDD : B8 + 2 ≤ D := by omega
        have r3 := ownsRow_putObj ((r2.kept (grownBy_setCell' W (w.heap.size + 1) (.slice Av nv cv)) (.inr (HI.out.b4.not_row (by decide) r2).symm)).kept (grownBy_setCell' _ (w.heap.size + 1 + 1) (i 0)) (.inr (((HI.out.b5).other (by omega) _).not_row (by decide) (r2.kept (grownBy_setCell' W (w.heap.size + 1) (.slice Av nv cv)) (.inr (HI.out.b4.not_row (by decide) r2).symm))).symm)) (.deferred none) hK' rfl
        refine ⟨.tuple #[.slice Av nv cv, i 0], ret2 rfl rfl (((HI.out.b4.set (.slice Av nv cv)).other (by omega) _).kept (grownBy_putObj' _ D _) (fun e => by cases e; omega)) (((HI.out.b5.other (by omega) _).set _).kept (grownBy_putObj' _ D _) (fun e => by cases e; omega)), _, by rw [HM.out.1], ?_, ?_⟩
        · rw [HM.out.2, mins_eq, ← HY.out]
          refine rowI r3 (fun y hy => ?_)
          rw [HY.out, ← mins_eq] at hy
          have h1 := mins_bd HG.out.m1 l y hy
          have h2 := HG.out.m2
          exact ⟨by omega, by omega⟩
        · exact ((HI.out.bw.setCell (p := ⟨w.heap.size + 1, 0, none⟩) (by simp) _).setCell (p := ⟨w.heap.size + 1 + 1, 0, none⟩) (by simp; omega) _).trans (belowK_b (w := w) (Nat.le_refl _) _ D _ _ (by omega) hK' rfl rfl)
      case stop =>
        rintro D c' pre W _ _ hx _
        exact hx.elim
  · have HM : Hid (minE l m = useE l m) := by show _ = _; unfold minE; rw [if_pos hE]
    have HV := fun (W : World) (hk : Kept w W) => HV.out W hk rfl
    generalize useE l m = E at *
    have hEz : (E != 0) = true := by simpa using hE
    refine callsIn_of_wp_marks Tryz.func92 rfl trivial ?_ hro
    simp only [Tryz.ntmps92, List.size_toArray, List.length_cons, List.length_nil, Nat.reduceAdd, Nat.reduceSub, Array.replicate_succ, Array.replicate_zero, List.push_toArray, List.append_toArray, List.nil_append, List.cons_append]
    gi_wp2_with (refine ⟨trivial, ?_⟩; gi_at_call 118; refine (HV _ (Kept.of (below_alloc (below_alloc (below_alloc (Below.refl _ _) _) _) _))).mono ?_; rintro e w1 ⟨rfl, hb1⟩; obtain ⟨k3, k4, k5, HB1⟩ := boxes m hb1; have c3 := k3.cell; have c4 := k4.cell; have c5 := k5.cell; have f4 := k4.frozen; have f5 := k5.frozen)
    refine ⟨.tuple #[.slice none 0 0, i E], ret2 rfl rfl ((k4.set _).other (by omega) _) ((k5.other (by omega) _).set _), ?_⟩
    exact MinPost.no HM.out hE ((HB1.out.setCell (p := ⟨w.heap.size + 1, 0, none⟩) (by simp) _).setCell (p := ⟨w.heap.size + 1 + 1, 0, none⟩) (by simp; omega) _)
end UsgW
end Go.Proofs.YtpmcdjpfolgpiaaGreatDoor
