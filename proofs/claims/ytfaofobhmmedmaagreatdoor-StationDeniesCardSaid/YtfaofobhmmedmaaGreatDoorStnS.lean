/-
  The walk of Same of layer 35, on stations whose lists of profiles, tokens, reservations, events and messages are empty.
-/
import Derived.Test.YtfaofobhmmedmaaGreatDoorStnW
namespace Go.Proofs.YtfaofobhmmedmaaGreatDoor
namespace Stn
set_option linter.unusedSimpArgs false
set_option linter.unusedVariables false
open Go.RowKit

set_option maxRecDepth 100000 in
theorem eqTok (v v' : Value) (w : World) (h : EmpS v) (h' : EmpS v') : Calls Tryz.prog 32 #[v, v'] w fun e w' => e = .returned (.bool true) ∧ w = w' := by
  obtain ⟨A, c, rfl, -, -⟩ := h.form
  obtain ⟨A', c', rfl, -, -⟩ := h'.form
  go_enter Tryz.func32, Tryz.ntmps32
  go_wp2_with fail
  go_loopg [13] 0 (fun gg s13 wr => s13 = i 0 ∧ wr = w)
  case atStart => exact ⟨rfl, rfl⟩
  case round =>
    obtain ⟨rfl, rfl⟩ := hrel
    go_wp2_with fail
    go_ret
    exact ⟨rfl, rfl⟩

set_option maxRecDepth 100000 in
theorem eqRes (v v' : Value) (w : World) (h : EmpS v) (h' : EmpS v') : Calls Tryz.prog 33 #[v, v'] w fun e w' => e = .returned (.bool true) ∧ w = w' := by
  obtain ⟨A, c, rfl, -, -⟩ := h.form
  obtain ⟨A', c', rfl, -, -⟩ := h'.form
  go_enter Tryz.func33, Tryz.ntmps33
  go_wp2_with fail
  go_loopg [13] 0 (fun gg s13 wr => s13 = i 0 ∧ wr = w)
  case atStart => exact ⟨rfl, rfl⟩
  case round =>
    obtain ⟨rfl, rfl⟩ := hrel
    go_wp2_with fail
    go_ret
    exact ⟨rfl, rfl⟩

set_option maxRecDepth 100000 in
theorem eqMsg (v v' : Value) (w : World) (h : EmpS v) (h' : EmpS v') : Calls Tryz.prog 16 #[v, v'] w fun e w' => e = .returned (.bool true) ∧ w = w' := by
  obtain ⟨A, c, rfl, -, -⟩ := h.form
  obtain ⟨A', c', rfl, -, -⟩ := h'.form
  go_enter Tryz.func16, Tryz.ntmps16
  go_wp2_with fail
  go_loopg [13] 0 (fun gg s13 wr => s13 = i 0 ∧ wr = w)
  case atStart => exact ⟨rfl, rfl⟩
  case round =>
    obtain ⟨rfl, rfl⟩ := hrel
    go_wp2_with fail
    go_ret
    exact ⟨rfl, rfl⟩

set_option maxRecDepth 100000 in
theorem eqEvt (v v' : Value) (w : World) (h : EmpS v) (h' : EmpS v') : Calls Tryz.prog 35 #[v, v'] w fun e w' => e = .returned (.bool true) ∧ w = w' := by
  obtain ⟨A, c, rfl, -, -⟩ := h.form
  obtain ⟨A', c', rfl, -, -⟩ := h'.form
  go_enter Tryz.func35, Tryz.ntmps35
  go_wp2_with fail
  go_loopg [13] 0 (fun gg s13 wr => s13 = i 0 ∧ wr = w)
  case atStart => exact ⟨rfl, rfl⟩
  case round =>
    obtain ⟨rfl, rfl⟩ := hrel
    go_wp2_with fail
    go_ret
    exact ⟨rfl, rfl⟩

set_option maxRecDepth 100000 in
theorem eqPro (v v' : Value) (w : World) (h : EmpS v) (h' : EmpS v') : Calls Tryz.prog 34 #[v, v'] w fun e w' => e = .returned (.bool true) ∧ w = w' := by
  obtain ⟨A, c, rfl, -, -⟩ := h.form
  obtain ⟨A', c', rfl, -, -⟩ := h'.form
  go_enter Tryz.func34, Tryz.ntmps34
  go_wp2_with fail
  go_loopg [15] 0 (fun gg s15 wr => s15 = i 0 ∧ wr = w)
  case atStart => exact ⟨rfl, rfl⟩
  case round =>
    obtain ⟨rfl, rfl⟩ := hrel
    go_wp2_with fail
    go_ret
    exact ⟨rfl, rfl⟩

abbrev enA (nx tmo rt : Int) (Q O : Value) (due tr : Int) (S : Value) : Array Value := #[i nx, i tmo, i rt, Q, O, i due, i tr, S]
set_option maxRecDepth 100000 in
set_option maxHeartbeats 1000000 in
theorem sameEnd (nx tmo rt : Int) (Q O : Value) (due tr : Int) (S Q' O' S' : Value) (w : World) (h1 : EmpS Q) (h2 : EmpS O) (h3 : EmpS S) (h1' : EmpS Q') (h2' : EmpS O') (h3' : EmpS S') :
    Calls Tryz.prog 36 #[.agg (enA nx tmo rt Q O due tr S), .agg (enA nx tmo rt Q' O' due tr S')] w fun e w' => e = .returned (.bool true) ∧ Below w.heap.size w w' := by
  have H1 := Lib.hid (fun W => eqMsg Q Q' W h1 h1')
  have H2 := Lib.hid (fun W => eqMsg O O' W h2 h2')
  have H3 := Lib.hid (fun W => eqMsg S S' W h3 h3')
  obtain ⟨A1, c1, rfl, -, -⟩ := h1.form
  obtain ⟨A2, c2, rfl, -, -⟩ := h2.form
  obtain ⟨A3, c3, rfl, -, -⟩ := h3.form
  obtain ⟨A1', c1', rfl, -, -⟩ := h1'.form
  obtain ⟨A2', c2', rfl, -, -⟩ := h2'.form
  obtain ⟨A3', c3', rfl, -, -⟩ := h3'.form
  go_enter Tryz.func36, Tryz.ntmps36
  go_wp2_with fail
  refine (H1.out _).mono ?_
  rintro e w1 ⟨rfl, rfl⟩
  go_wp2_with fail
  refine (H2.out _).mono ?_
  rintro e w1 ⟨rfl, rfl⟩
  go_wp2_with fail
  refine (H3.out _).mono ?_
  rintro e w1 ⟨rfl, rfl⟩
  go_wp2_with fail
  go_ret
  exact ⟨rfl, by repeat (first | (with_reducible exact Below.refl _ _) | (with_reducible refine below_drewN' ?_ _) | (with_reducible refine Below.drew ?_) | (with_reducible refine Below.setCell ?_ (by first | (simp; done) | (simp; omega) | omega) _) | (with_reducible refine below_alloc ?_ _) | (with_reducible refine Below.alloc ?_ (by first | (simp; done) | (simp; omega) | omega) _))⟩

theorem neqFw (a b c d e : Int) (W : World) : (binOp .neq 39 (.agg #[i a, i b, i c, i d, i e]) (.agg #[i a, i b, i c, i d, i e])).run Tryz.prog W = .ok (.bool false) W := by
  have u3 := Tryz.underlying3
  have a3 := Tryz.isAgg3
  have z3 := Tryz.sizeOf3
  have hS : Tryz.prog.underlying 39 = some (.struct (Tryz.prog.fieldsOf 39)) := by kernel_rfl
  have hp : Tryz.prog.stoodInHeld 39 = false := by kernel_rfl
  rw [run_neq_struct, show (10000 : Nat) = 9999 + 1 from rfl, run_equalIn_agg W 9999 39 _ _ hS hp]
  simp only [Program.fieldsOf, Tryz.underlying39]
  go_simp

set_option maxRecDepth 100000 in
set_option maxHeartbeats 4000000 in
theorem same (s : St) (l l' : Sl) (w : World) (h : StAt w s l) (h' : StAt w s l') :
    Calls Tryz.prog 9 #[.agg (stA s l), .agg (stA s l')] w fun e w' => e = .returned (.bool true) ∧ Below w.heap.size w w' := by
  have hb0 := below_alloc (below_alloc (Below.refl w.heap.size w) (.cells (stA s l) 43)) (.cells (stA s l') 43)
  have HA : Hid (∀ W, Below ((w.alloc (.cells (stA s l) 43)).alloc (.cells (stA s l') 43)).heap.size ((w.alloc (.cells (stA s l) 43)).alloc (.cells (stA s l') 43)) W → ∀ j, W.cell? ⟨w.heap.size, j, none⟩ = (stA s l)[j]?) := fun W hb j => (((Blk.new w 43 (stA s l)).alloc (.cells (stA s l') 43)).call hb).cell j
  have HA' : Hid (∀ W, Below ((w.alloc (.cells (stA s l) 43)).alloc (.cells (stA s l') 43)).heap.size ((w.alloc (.cells (stA s l) 43)).alloc (.cells (stA s l') 43)) W → ∀ j, W.cell? ⟨w.heap.size + 1, j, none⟩ = (stA s l')[j]?) := fun W hb j => by
    have hk := Blk.new (w.alloc (.cells (stA s l) 43)) 43 (stA s l')
    have hs : (w.alloc (.cells (stA s l) 43)).heap.size = w.heap.size + 1 := by simp
    rw [hs] at hk
    exact (hk.call hb).cell j
  have HB := Lib.hid hb0
  have HS := Lib.hid (h.call hb0)
  have HS' := Lib.hid (h'.call hb0)
  clear h h' hb0
  go_enter Tryz.func9, Tryz.ntmps9
  go_upto_region 1 with (fail)
  generalize (w.alloc (.cells (stA s l) 43)).alloc (.cells (stA s l') 43) = w0 at *
  have hb : Hid (Below w0.heap.size w0 w0) := Below.refl _ _
  have a0 : w0.cell? ⟨w.heap.size, 0, none⟩ = some (.string s.nm) := HA.out _ hb.out 0
  have b0 : w0.cell? ⟨w.heap.size + 1, 0, none⟩ = some (.string s.nm) := HA'.out _ hb.out 0
  have a1 : w0.cell? ⟨w.heap.size, 1, none⟩ = some (i s.nw) := HA.out _ hb.out 1
  have b1 : w0.cell? ⟨w.heap.size + 1, 1, none⟩ = some (i s.nw) := HA'.out _ hb.out 1
  have a2 : w0.cell? ⟨w.heap.size, 2, none⟩ = some (.bool s.ac) := HA.out _ hb.out 2
  have b2 : w0.cell? ⟨w.heap.size + 1, 2, none⟩ = some (.bool s.ac) := HA'.out _ hb.out 2
  have a3 : w0.cell? ⟨w.heap.size, 3, none⟩ = some (i s.iv) := HA.out _ hb.out 3
  have b3 : w0.cell? ⟨w.heap.size + 1, 3, none⟩ = some (i s.iv) := HA'.out _ hb.out 3
  have a4 : w0.cell? ⟨w.heap.size, 4, none⟩ = some (i s.bt) := HA.out _ hb.out 4
  have b4 : w0.cell? ⟨w.heap.size + 1, 4, none⟩ = some (i s.bt) := HA'.out _ hb.out 4
  have a5 : w0.cell? ⟨w.heap.size, 5, none⟩ = some (i s.sr) := HA.out _ hb.out 5
  have b5 : w0.cell? ⟨w.heap.size + 1, 5, none⟩ = some (i s.sr) := HA'.out _ hb.out 5
  have a6 : w0.cell? ⟨w.heap.size, 6, none⟩ = some (l.C) := HA.out _ hb.out 6
  have b6 : w0.cell? ⟨w.heap.size + 1, 6, none⟩ = some (l'.C) := HA'.out _ hb.out 6
  have HC := Lib.hid (equalCn l.C l'.C s.cs w0 (HS.out.C.call hb.out) (HS'.out.C.call hb.out))
  go_wp2_with fail
  refine HC.out.mono ?_
  rintro e w1 ⟨rfl, hbx⟩
  have hb1 := Lib.hid (below_call hb.out hbx)
  clear HC hbx a0 b0 a1 b1 a2 b2 a3 b3 a4 b4 a5 b5 a6 b6
  have a7 : w1.cell? ⟨w.heap.size, 7, none⟩ = some (l.M) := HA.out _ hb1.out 7
  have b7 : w1.cell? ⟨w.heap.size + 1, 7, none⟩ = some (l'.M) := HA'.out _ hb1.out 7
  have HC := Lib.hid (equalMt l.M l'.M s.ms w1 (HS.out.M.call hb1.out) (HS'.out.M.call hb1.out))
  go_wp2_with fail
  refine HC.out.mono ?_
  rintro e w2 ⟨rfl, hbx⟩
  have hb2 := Lib.hid (below_call hb1.out hbx)
  clear HC hbx a7 b7
  have a8 : w2.cell? ⟨w.heap.size, 8, none⟩ = some (l.T) := HA.out _ hb2.out 8
  have b8 : w2.cell? ⟨w.heap.size + 1, 8, none⟩ = some (l'.T) := HA'.out _ hb2.out 8
  have HC := Lib.hid (equalTx l.T l'.T s.ts w2 (HS.out.T.call hb2.out) (HS'.out.T.call hb2.out))
  go_wp2_with fail
  refine HC.out.mono ?_
  rintro e w3 ⟨rfl, hbx⟩
  have hb3 := Lib.hid (below_call hb2.out hbx)
  clear HC hbx a8 b8
  have a34 : w3.cell? ⟨w.heap.size, 34, none⟩ = some (l.LM) := HA.out _ hb3.out 34
  have b34 : w3.cell? ⟨w.heap.size + 1, 34, none⟩ = some (l'.LM) := HA'.out _ hb3.out 34
  have HC := Lib.hid (equalIn l.LM l'.LM s.lm w3 (HS.out.LM.call hb3.out) (HS'.out.LM.call hb3.out))
  go_wp2_with fail
  refine HC.out.mono ?_
  rintro e w4 ⟨rfl, hbx⟩
  have hb4 := Lib.hid (below_call hb3.out hbx)
  clear HC hbx a34 b34
  have a35 : w4.cell? ⟨w.heap.size, 35, none⟩ = some (l.SH) := HA.out _ hb4.out 35
  have b35 : w4.cell? ⟨w.heap.size + 1, 35, none⟩ = some (l'.SH) := HA'.out _ hb4.out 35
  have HC := Lib.hid (equalIn l.SH l'.SH s.sh w4 (HS.out.SH.call hb4.out) (HS'.out.SH.call hb4.out))
  go_wp2_with fail
  refine HC.out.mono ?_
  rintro e w5 ⟨rfl, hbx⟩
  have hb5 := Lib.hid (below_call hb4.out hbx)
  clear HC hbx a35 b35
  have a12 : w5.cell? ⟨w.heap.size, 12, none⟩ = some (l.CA) := HA.out _ hb5.out 12
  have b12 : w5.cell? ⟨w.heap.size + 1, 12, none⟩ = some (l'.CA) := HA'.out _ hb5.out 12
  have HC := Lib.hid (eqTok l.CA l'.CA w5 HS.out.CA HS'.out.CA)
  go_wp2_with fail
  refine HC.out.mono ?_
  rintro e w6 ⟨rfl, rfl⟩
  clear HC a12 b12
  have a13 : w5.cell? ⟨w.heap.size, 13, none⟩ = some (l.RE) := HA.out _ hb5.out 13
  have b13 : w5.cell? ⟨w.heap.size + 1, 13, none⟩ = some (l'.RE) := HA'.out _ hb5.out 13
  have HC := Lib.hid (eqRes l.RE l'.RE w5 HS.out.RE HS'.out.RE)
  go_wp2_with fail
  refine HC.out.mono ?_
  rintro e w7 ⟨rfl, rfl⟩
  clear HC a13 b13
  have a9 : w5.cell? ⟨w.heap.size, 9, none⟩ = some (l.P) := HA.out _ hb5.out 9
  have b9 : w5.cell? ⟨w.heap.size + 1, 9, none⟩ = some (l'.P) := HA'.out _ hb5.out 9
  have HC := Lib.hid (eqPro l.P l'.P w5 HS.out.P HS'.out.P)
  go_wp2_with fail
  refine HC.out.mono ?_
  rintro e w8 ⟨rfl, rfl⟩
  clear HC a9 b9
  have a10 : w5.cell? ⟨w.heap.size, 10, none⟩ = some (i s.lv) := HA.out _ hb5.out 10
  have b10 : w5.cell? ⟨w.heap.size + 1, 10, none⟩ = some (i s.lv) := HA'.out _ hb5.out 10
  have a11 : w5.cell? ⟨w.heap.size, 11, none⟩ = some (l.LT) := HA.out _ hb5.out 11
  have b11 : w5.cell? ⟨w.heap.size + 1, 11, none⟩ = some (l'.LT) := HA'.out _ hb5.out 11
  have HC := Lib.hid (eqTok l.LT l'.LT w5 HS.out.LT HS'.out.LT)
  go_wp2_with fail
  refine HC.out.mono ?_
  rintro e w9 ⟨rfl, rfl⟩
  clear HC a10 b10 a11 b11
  have a25 : w5.cell? ⟨w.heap.size, 25, none⟩ = some (i s.f1) := HA.out _ hb5.out 25
  have b25 : w5.cell? ⟨w.heap.size + 1, 25, none⟩ = some (i s.f1) := HA'.out _ hb5.out 25
  have a26 : w5.cell? ⟨w.heap.size, 26, none⟩ = some (i s.f2) := HA.out _ hb5.out 26
  have b26 : w5.cell? ⟨w.heap.size + 1, 26, none⟩ = some (i s.f2) := HA'.out _ hb5.out 26
  have a27 : w5.cell? ⟨w.heap.size, 27, none⟩ = some (i s.f3) := HA.out _ hb5.out 27
  have b27 : w5.cell? ⟨w.heap.size + 1, 27, none⟩ = some (i s.f3) := HA'.out _ hb5.out 27
  have a28 : w5.cell? ⟨w.heap.size, 28, none⟩ = some (i s.f4) := HA.out _ hb5.out 28
  have b28 : w5.cell? ⟨w.heap.size + 1, 28, none⟩ = some (i s.f4) := HA'.out _ hb5.out 28
  have a29 : w5.cell? ⟨w.heap.size, 29, none⟩ = some (i s.f5) := HA.out _ hb5.out 29
  have b29 : w5.cell? ⟨w.heap.size + 1, 29, none⟩ = some (i s.f5) := HA'.out _ hb5.out 29
  have a14 : w5.cell? ⟨w.heap.size, 14, none⟩ = some (i s.room) := HA.out _ hb5.out 14
  have b14 : w5.cell? ⟨w.heap.size + 1, 14, none⟩ = some (i s.room) := HA'.out _ hb5.out 14
  have a16 : w5.cell? ⟨w.heap.size, 16, none⟩ = some (i s.lost) := HA.out _ hb5.out 16
  have b16 : w5.cell? ⟨w.heap.size + 1, 16, none⟩ = some (i s.lost) := HA'.out _ hb5.out 16
  have a15 : w5.cell? ⟨w.heap.size, 15, none⟩ = some (l.IT) := HA.out _ hb5.out 15
  have b15 : w5.cell? ⟨w.heap.size + 1, 15, none⟩ = some (l'.IT) := HA'.out _ hb5.out 15
  have HC := Lib.hid (eqEvt l.IT l'.IT w5 HS.out.IT HS'.out.IT)
  have hfw := fun W => neqFw s.f1 s.f2 s.f3 s.f4 s.f5 W
  go_wp2_with fail
  refine HC.out.mono ?_
  rintro e w10 ⟨rfl, rfl⟩
  clear HC a25 b25 a26 b26 a27 b27 a28 b28 a29 b29 a14 b14 a16 b16 a15 b15 hfw
  have a17 : w5.cell? ⟨w.heap.size, 17, none⟩ = some (i s.nx) := HA.out _ hb5.out 17
  have b17 : w5.cell? ⟨w.heap.size + 1, 17, none⟩ = some (i s.nx) := HA'.out _ hb5.out 17
  have a18 : w5.cell? ⟨w.heap.size, 18, none⟩ = some (i s.tmo) := HA.out _ hb5.out 18
  have b18 : w5.cell? ⟨w.heap.size + 1, 18, none⟩ = some (i s.tmo) := HA'.out _ hb5.out 18
  have a19 : w5.cell? ⟨w.heap.size, 19, none⟩ = some (i s.rt) := HA.out _ hb5.out 19
  have b19 : w5.cell? ⟨w.heap.size + 1, 19, none⟩ = some (i s.rt) := HA'.out _ hb5.out 19
  have a20 : w5.cell? ⟨w.heap.size, 20, none⟩ = some (l.Q) := HA.out _ hb5.out 20
  have b20 : w5.cell? ⟨w.heap.size + 1, 20, none⟩ = some (l'.Q) := HA'.out _ hb5.out 20
  have a21 : w5.cell? ⟨w.heap.size, 21, none⟩ = some (l.O) := HA.out _ hb5.out 21
  have b21 : w5.cell? ⟨w.heap.size + 1, 21, none⟩ = some (l'.O) := HA'.out _ hb5.out 21
  have a22 : w5.cell? ⟨w.heap.size, 22, none⟩ = some (i s.due) := HA.out _ hb5.out 22
  have b22 : w5.cell? ⟨w.heap.size + 1, 22, none⟩ = some (i s.due) := HA'.out _ hb5.out 22
  have a23 : w5.cell? ⟨w.heap.size, 23, none⟩ = some (i s.tr) := HA.out _ hb5.out 23
  have b23 : w5.cell? ⟨w.heap.size + 1, 23, none⟩ = some (i s.tr) := HA'.out _ hb5.out 23
  have a24 : w5.cell? ⟨w.heap.size, 24, none⟩ = some (l.S) := HA.out _ hb5.out 24
  have b24 : w5.cell? ⟨w.heap.size + 1, 24, none⟩ = some (l'.S) := HA'.out _ hb5.out 24
  have HC := Lib.hid (sameEnd s.nx s.tmo s.rt l.Q l.O s.due s.tr l.S l'.Q l'.O l'.S w5 HS.out.Q HS.out.O HS.out.S HS'.out.Q HS'.out.O HS'.out.S)
  go_wp2_with fail
  refine HC.out.mono ?_
  rintro e w11 ⟨rfl, hbx⟩
  have hb11 := Lib.hid (below_call hb5.out hbx)
  clear HC hbx a17 b17 a18 b18 a19 b19 a20 b20 a21 b21 a22 b22 a23 b23 a24 b24
  have a30 : w11.cell? ⟨w.heap.size, 30, none⟩ = some (i s.ct) := HA.out _ hb11.out 30
  have b30 : w11.cell? ⟨w.heap.size + 1, 30, none⟩ = some (i s.ct) := HA'.out _ hb11.out 30
  have a31 : w11.cell? ⟨w.heap.size, 31, none⟩ = some (i s.sto) := HA.out _ hb11.out 31
  have b31 : w11.cell? ⟨w.heap.size + 1, 31, none⟩ = some (i s.sto) := HA'.out _ hb11.out 31
  have a32 : w11.cell? ⟨w.heap.size, 32, none⟩ = some (i s.fb) := HA.out _ hb11.out 32
  have b32 : w11.cell? ⟨w.heap.size + 1, 32, none⟩ = some (i s.fb) := HA'.out _ hb11.out 32
  have a33 : w11.cell? ⟨w.heap.size, 33, none⟩ = some (l.OV) := HA.out _ hb11.out 33
  have b33 : w11.cell? ⟨w.heap.size + 1, 33, none⟩ = some (l'.OV) := HA'.out _ hb11.out 33
  have HC := Lib.hid (equalIn l.OV l'.OV s.ov w11 (HS.out.OV.call hb11.out) (HS'.out.OV.call hb11.out))
  go_wp2_with fail
  refine HC.out.mono ?_
  rintro e w12 ⟨rfl, hbx⟩
  have hb12 := Lib.hid (below_call hb11.out hbx)
  clear HC hbx a30 b30 a31 b31 a32 b32 a33 b33
  go_wp2_with fail
  go_ret
  exact ⟨rfl, below_call HB.out hb12.out⟩
end Stn
end Go.Proofs.YtfaofobhmmedmaaGreatDoor
