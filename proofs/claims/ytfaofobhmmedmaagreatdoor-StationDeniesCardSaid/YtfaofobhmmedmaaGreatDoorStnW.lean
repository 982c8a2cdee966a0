/-
  Small walks of layer 35: meter.Valid and its reference, the three New's of the parts and theirs, equal of each type.
-/
import Derived.Test.YtfaofobhmmedmaaGreatDoorStnD
import Derived.Below
import Derived.Test.YtfaofobhmmedmaaGreatDoorProg
import Derived.WalkKit
import Derived.Deep.LoopGhost
import Derived.Deep.QuietTactic
import Derived.BigQuiet
import Derived.Lib.Hide
import Derived.Outline
import Derived.Deep.DeepCutAuto
import Derived.Laws.StructEq
import Derived.OwnWalk
namespace Go.Proofs.YtfaofobhmmedmaaGreatDoor
namespace Stn
set_option linter.unusedSimpArgs false
set_option linter.unusedVariables false
open Go.RowKit

theorem info_parts {x : Option TypeInfo} {z : Value} {s b : Nat} (h : x.map (fun i => (i.zero, i.size, i.bytes)) = some (some z, s, b)) : ∃ i, x = some i ∧ i.zero = some z ∧ i.size = s ∧ i.bytes = b := by
  cases x with
  | none => cases h
  | some i =>
    simp at h
    exact ⟨i, rfl, h.1, h.2.1, h.2.2⟩
theorem results_cell2 {P : Program} {fn : Func} {p q : Tmp} {ty : TypeId} (h : fn.results = #[.cell p ty, .tmp q]) (tmps : Array Value) (w : World) (g : Nat) (t : TypeId) (cs : Array Value) (fr : Nat × Nat) (d : TypeDesc)
    (hp : tmps.getD p undef = .pointer (some ⟨g, 0, none⟩)) (hg : w.heap[g]? = some (.cells cs t fr))
    (hu : P.underlying ty = some d) (hd : (match d with | .struct _ | .array _ _ => true | _ => false) = true) (hi : (P.info? ty).map (·.size) = some cs.size) :
    (results fn tmps).run P w = .ok (.tuple #[.agg cs, tmps.getD q undef]) w := by
  have hp' : tmps[p]?.getD undef = .pointer (some ⟨g, 0, none⟩) := by simpa using hp
  simp [results, h, hp', asAddr, run_loadVar_row w g t ty cs fr d hg hu hd hi]
theorem infoI : (Tryz.prog.info? 3).map (fun i => (i.zero, i.size, i.bytes)) = some (some (.int .i64 0), 1, 8) := by kernel_rfl

set_option maxRecDepth 100000 in
theorem meterValid (x : Mt) (w : World) : Calls Tryz.prog 19 #[.agg (mtA x)] w fun e w' => e = .returned (i (mtE x)) ∧ Below w.heap.size w w' := by
  obtain ⟨rg, mo, re, gn⟩ := x
  have hE : ∀ h : ¬ (1000 ≤ mo ∧ mo ≤ 1099511627776 ∧ 0 ≤ rg ∧ rg < mo ∧ 0 ≤ re ∧ re < 1000000 ∧ -100000 ≤ gn ∧ gn ≤ 100000), mtE ⟨rg, mo, re, gn⟩ = 1 := fun h => by unfold mtE mtOk; rw [decide_eq_false h]; rfl
  by_cases c0 : mo < 1000
  · have HV := Lib.hid (hE (by omega))
    clear hE
    go_enter Tryz.func19, Tryz.ntmps19
    go_wp2_with fail
    go_ret
    exact ⟨by rw [HV.out]; rfl, below_new _ _⟩
  by_cases c1 : 1099511627776 < mo
  · have HV := Lib.hid (hE (by omega))
    clear hE
    go_enter Tryz.func19, Tryz.ntmps19
    go_wp2_with fail
    go_ret
    exact ⟨by rw [HV.out]; rfl, below_new _ _⟩
  by_cases c2 : rg < 0
  · have HV := Lib.hid (hE (by omega))
    clear hE
    go_enter Tryz.func19, Tryz.ntmps19
    go_wp2_with fail
    go_ret
    exact ⟨by rw [HV.out]; rfl, below_new _ _⟩
  by_cases c3 : mo ≤ rg
  · have HV := Lib.hid (hE (by omega))
    clear hE
    go_enter Tryz.func19, Tryz.ntmps19
    go_wp2_with fail
    go_ret
    exact ⟨by rw [HV.out]; rfl, below_new _ _⟩
  by_cases c4 : re < 0
  · have HV := Lib.hid (hE (by omega))
    clear hE
    go_enter Tryz.func19, Tryz.ntmps19
    go_wp2_with fail
    go_ret
    exact ⟨by rw [HV.out]; rfl, below_new _ _⟩
  by_cases c5 : 1000000 ≤ re
  · have HV := Lib.hid (hE (by omega))
    clear hE
    go_enter Tryz.func19, Tryz.ntmps19
    go_wp2_with fail
    go_ret
    exact ⟨by rw [HV.out]; rfl, below_new _ _⟩
  by_cases c6 : gn < -100000
  · have HV := Lib.hid (hE (by omega))
    clear hE
    go_enter Tryz.func19, Tryz.ntmps19
    go_wp2_with fail
    go_ret
    exact ⟨by rw [HV.out]; rfl, below_new _ _⟩
  by_cases c7 : 100000 < gn
  · have HV := Lib.hid (hE (by omega))
    clear hE
    go_enter Tryz.func19, Tryz.ntmps19
    go_wp2_with fail
    go_ret
    exact ⟨by rw [HV.out]; rfl, below_new _ _⟩
  have HV : Hid (mtE ⟨rg, mo, re, gn⟩ = 0) := by
    show _ = _
    unfold mtE mtOk
    rw [decide_eq_true (by simp only; omega)]
    rfl
  clear hE
  go_enter Tryz.func19, Tryz.ntmps19
  go_wp2_with fail
  go_ret
  exact ⟨by rw [HV.out]; rfl, below_new _ _⟩

set_option maxRecDepth 100000 in
theorem rmeterValid (x : Mt) (w : World) : Calls Tryz.prog 24 #[.agg (mtA x)] w fun e w' => e = .returned (i (mtE x)) ∧ Below w.heap.size w w' := by
  obtain ⟨rg, mo, re, gn⟩ := x
  have hE : ∀ h : ¬ (1000 ≤ mo ∧ mo ≤ 1099511627776 ∧ 0 ≤ rg ∧ rg < mo ∧ 0 ≤ re ∧ re < 1000000 ∧ -100000 ≤ gn ∧ gn ≤ 100000), mtE ⟨rg, mo, re, gn⟩ = 1 := fun h => by unfold mtE mtOk; rw [decide_eq_false h]; rfl
  by_cases c0 : mo < 1000
  · have HV := Lib.hid (hE (by omega))
    clear hE
    go_enter Tryz.func24, Tryz.ntmps24
    go_wp2_with fail
    go_ret
    exact ⟨by rw [HV.out]; rfl, below_new _ _⟩
  by_cases c1 : 1099511627776 < mo
  · have HV := Lib.hid (hE (by omega))
    clear hE
    go_enter Tryz.func24, Tryz.ntmps24
    go_wp2_with fail
    go_ret
    exact ⟨by rw [HV.out]; rfl, below_new _ _⟩
  by_cases c2 : rg < 0
  · have HV := Lib.hid (hE (by omega))
    clear hE
    go_enter Tryz.func24, Tryz.ntmps24
    go_wp2_with fail
    go_ret
    exact ⟨by rw [HV.out]; rfl, below_new _ _⟩
  by_cases c3 : mo ≤ rg
  · have HV := Lib.hid (hE (by omega))
    clear hE
    go_enter Tryz.func24, Tryz.ntmps24
    go_wp2_with fail
    go_ret
    exact ⟨by rw [HV.out]; rfl, below_new _ _⟩
  by_cases c4 : re < 0
  · have HV := Lib.hid (hE (by omega))
    clear hE
    go_enter Tryz.func24, Tryz.ntmps24
    go_wp2_with fail
    go_ret
    exact ⟨by rw [HV.out]; rfl, below_new _ _⟩
  by_cases c5 : 1000000 ≤ re
  · have HV := Lib.hid (hE (by omega))
    clear hE
    go_enter Tryz.func24, Tryz.ntmps24
    go_wp2_with fail
    go_ret
    exact ⟨by rw [HV.out]; rfl, below_new _ _⟩
  by_cases c6 : gn < -100000
  · have HV := Lib.hid (hE (by omega))
    clear hE
    go_enter Tryz.func24, Tryz.ntmps24
    go_wp2_with fail
    go_ret
    exact ⟨by rw [HV.out]; rfl, below_new _ _⟩
  by_cases c7 : 100000 < gn
  · have HV := Lib.hid (hE (by omega))
    clear hE
    go_enter Tryz.func24, Tryz.ntmps24
    go_wp2_with fail
    go_ret
    exact ⟨by rw [HV.out]; rfl, below_new _ _⟩
  have HV : Hid (mtE ⟨rg, mo, re, gn⟩ = 0) := by
    show _ = _
    unfold mtE mtOk
    rw [decide_eq_true (by simp only; omega)]
    rfl
  clear hE
  go_enter Tryz.func24, Tryz.ntmps24
  go_wp2_with fail
  go_ret
  exact ⟨by rw [HV.out]; rfl, below_new _ _⟩

set_option maxRecDepth 100000 in
theorem outNew (w : World) : Calls Tryz.prog 20 #[i 64] w fun e w' => e = .returned (.tuple #[.agg #[i 64, .slice none 0 0, i 0], i 0]) ∧ Below w.heap.size w w' := by
  go_enter Tryz.func20, Tryz.ntmps20
  go_wp2_with fail
  refine bodyPost_ret (results_cell2 rfl _ _ w.heap.size 34 _ (0, 0) _ rfl (Blk.new w 34 _) Tryz.underlying34 rfl (by kernel_rfl)) rfl ?_
  exact ⟨rfl, by repeat (first | (with_reducible exact Below.refl _ _) | (with_reducible refine below_drewN' ?_ _) | (with_reducible refine Below.drew ?_) | (with_reducible refine Below.setCell ?_ (by first | (simp; done) | (simp; omega) | omega) _) | (with_reducible refine below_alloc ?_ _) | (with_reducible refine Below.alloc ?_ (by first | (simp; done) | (simp; omega) | omega) _))⟩

set_option maxRecDepth 100000 in
theorem settings (w : World) : Calls Tryz.prog 74 #[i 3, i 2] w fun e w' => e = .returned (.bool true) ∧ w = w' := by
  go_enter Tryz.func74, Tryz.ntmps74
  go_wp2_with fail
  go_ret
  exact ⟨rfl, rfl⟩

set_option maxRecDepth 100000 in
theorem callNew (w : World) : Calls Tryz.prog 21 #[i 3, i 2, i 1] w fun e w' => e = .returned (.tuple #[.agg #[i 1, i 3, i 2, .slice none 0 0, .slice none 0 0, i 0, i 0, .slice none 0 0], i 0]) ∧ Below w.heap.size w w' := by
  have HS := Lib.hid settings
  go_enter Tryz.func21, Tryz.ntmps21
  go_wp2_with fail
  refine (HS.out _).mono ?_
  rintro e w1 ⟨rfl, rfl⟩
  go_wp2_with fail
  refine bodyPost_ret (results_cell2 rfl _ _ w.heap.size 37 _ (0, 0) _ rfl (Blk.new w 37 _) Tryz.underlying37 rfl (by kernel_rfl)) rfl ?_
  exact ⟨rfl, by repeat (first | (with_reducible exact Below.refl _ _) | (with_reducible refine below_drewN' ?_ _) | (with_reducible refine Below.drew ?_) | (with_reducible refine Below.setCell ?_ (by first | (simp; done) | (simp; omega) | omega) _) | (with_reducible refine below_alloc ?_ _) | (with_reducible refine Below.alloc ?_ (by first | (simp; done) | (simp; omega) | omega) _))⟩

set_option maxRecDepth 100000 in
theorem room64 (w : World) : Calls Tryz.prog 76 #[i 64] w fun e w' => e = .returned (.bool true) ∧ w = w' := by
  go_enter Tryz.func76, Tryz.ntmps76
  go_wp2_with fail
  go_ret
  exact ⟨rfl, rfl⟩

set_option maxRecDepth 100000 in
theorem routNew (w : World) : Calls Tryz.prog 25 #[i 64] w fun e w' => e = .returned (.tuple #[.agg #[i 64, .slice none 0 0, i 0], i 0]) ∧ Below w.heap.size w w' := by
  have HS := Lib.hid room64
  go_enter Tryz.func25, Tryz.ntmps25
  go_wp2_with fail
  refine (HS.out _).mono ?_
  rintro e w1 ⟨rfl, rfl⟩
  go_wp2_with fail
  refine bodyPost_ret (results_cell2 rfl _ _ w.heap.size 34 _ (0, 0) _ rfl (Blk.new w 34 _) Tryz.underlying34 rfl (by kernel_rfl)) rfl ?_
  exact ⟨rfl, by repeat (first | (with_reducible exact Below.refl _ _) | (with_reducible refine below_drewN' ?_ _) | (with_reducible refine Below.drew ?_) | (with_reducible refine Below.setCell ?_ (by first | (simp; done) | (simp; omega) | omega) _) | (with_reducible refine below_alloc ?_ _) | (with_reducible refine Below.alloc ?_ (by first | (simp; done) | (simp; omega) | omega) _))⟩

set_option maxRecDepth 100000 in
theorem rcallNew (w : World) : Calls Tryz.prog 26 #[i 3, i 2, i 1] w fun e w' => e = .returned (.tuple #[.agg #[i 1, i 3, i 2, .slice none 0 0, .slice none 0 0, i 0, i 0, .slice none 0 0], i 0]) ∧ Below w.heap.size w w' := by
  go_enter Tryz.func26, Tryz.ntmps26
  go_wp2_with fail
  refine bodyPost_ret (results_cell2 rfl _ _ w.heap.size 37 _ (0, 0) _ rfl (Blk.new w 37 _) Tryz.underlying37 rfl (by kernel_rfl)) rfl ?_
  exact ⟨rfl, by repeat (first | (with_reducible exact Below.refl _ _) | (with_reducible refine below_drewN' ?_ _) | (with_reducible refine Below.drew ?_) | (with_reducible refine Below.setCell ?_ (by first | (simp; done) | (simp; omega) | omega) _) | (with_reducible refine below_alloc ?_ _) | (with_reducible refine Below.alloc ?_ (by first | (simp; done) | (simp; omega) | omega) _))⟩

theorem neqCn (x : Cn) (W : World) : (binOp .neq 80 (.agg (cnA x)) (.agg (cnA x))).run Tryz.prog W = .ok (.bool false) W := by
  have u3 := Tryz.underlying3
  have a3 := Tryz.isAgg3
  have z3 := Tryz.sizeOf3
  have u4 := Tryz.underlying4
  have a4 := Tryz.isAgg4
  have z4 := Tryz.sizeOf4
  have u5 := Tryz.underlying9
  have a5 := Tryz.isAgg9
  have z5 := Tryz.sizeOf9
  have hS : Tryz.prog.underlying 80 = some (.struct (Tryz.prog.fieldsOf 80)) := by kernel_rfl
  have hp : Tryz.prog.stoodInHeld 80 = false := by kernel_rfl
  rw [run_neq_struct, show (10000 : Nat) = 9999 + 1 from rfl, run_equalIn_agg W 9999 80 _ _ hS hp]
  simp only [Program.fieldsOf, Tryz.underlying80]
  go_simp

set_option maxRecDepth 100000 in
set_option maxHeartbeats 1000000 in
theorem equalCn (v v' : Value) (xs : List Cn) (w : World) (h : CnsAt w v xs) (h' : CnsAt w v' xs) : Calls Tryz.prog 28 #[v, v'] w fun e w' => e = .returned (.bool true) ∧ Below w.heap.size w w' := by
  obtain ⟨A, k, rfl, h1, h2⟩ := SliceAt.form h
  obtain ⟨A', k', rfl, h1', h2'⟩ := SliceAt.form h'
  unfold maxLen at h2 h2'
  have HC := Lib.hid h
  have HC' := Lib.hid h'
  clear h h'
  go_enter Tryz.func28, Tryz.ntmps28
  go_wp2_with fail
  go_loopg [13] xs.length (fun gg s13 wr => ∃ kk m : Nat, kk ≤ xs.length ∧ xs.length - kk ≤ gg ∧ s13 = i kk ∧ wr = w.drewN m)
  case atStart => exact ⟨0, 0, Nat.zero_le _, by omega, rfl, rfl⟩
  case round =>
    obtain ⟨kk, m, hkk, hg, rfl, rfl⟩ := hrel
    by_cases hlt : kk < xs.length
    · have hltz : (kk : Int) < (xs.length : Int) := by omega
      have hk0 : (0 : Int) ≤ (kk : Int) := by omega
      obtain ⟨b, off, rfl, hrow⟩ := CnsAt.at_ HC.out hlt
      obtain ⟨b', off', rfl, hrow'⟩ := CnsAt.at_ HC'.out hlt
      obtain ⟨l0, l1, l2, l3, l4⟩ := hrow w (Kept.refl _)
      obtain ⟨m0, m1, m2, m3, m4⟩ := hrow' w (Kept.refl _)
      clear hrow hrow'
      generalize xs[kk] = y at *
      have hq := fun W => neqCn y W
      go_wp2_with fail
      go_quiet (fail)
      go_wp2_with fail
      go_roundg (xs.length - (kk + 1))
      case measure => omega
      case rel => exact ⟨kk + 1, m + nq, by omega, by omega, by go_num, rfl⟩
    · have hltz : ¬ (kk : Int) < (xs.length : Int) := by omega
      go_wp2_with fail
      go_ret
      exact ⟨rfl, by repeat (first | (with_reducible exact Below.refl _ _) | (with_reducible refine below_drewN' ?_ _) | (with_reducible refine Below.drew ?_) | (with_reducible refine Below.setCell ?_ (by first | (simp; done) | (simp; omega) | omega) _) | (with_reducible refine below_alloc ?_ _) | (with_reducible refine Below.alloc ?_ (by first | (simp; done) | (simp; omega) | omega) _))⟩

theorem neqMt (x : Mt) (W : World) : (binOp .neq 82 (.agg (mtA x)) (.agg (mtA x))).run Tryz.prog W = .ok (.bool false) W := by
  have u3 := Tryz.underlying3
  have a3 := Tryz.isAgg3
  have z3 := Tryz.sizeOf3
  have u4 := Tryz.underlying4
  have a4 := Tryz.isAgg4
  have z4 := Tryz.sizeOf4
  have u5 := Tryz.underlying9
  have a5 := Tryz.isAgg9
  have z5 := Tryz.sizeOf9
  have hS : Tryz.prog.underlying 82 = some (.struct (Tryz.prog.fieldsOf 82)) := by kernel_rfl
  have hp : Tryz.prog.stoodInHeld 82 = false := by kernel_rfl
  rw [run_neq_struct, show (10000 : Nat) = 9999 + 1 from rfl, run_equalIn_agg W 9999 82 _ _ hS hp]
  simp only [Program.fieldsOf, Tryz.underlying82]
  go_simp

set_option maxRecDepth 100000 in
set_option maxHeartbeats 1000000 in
theorem equalMt (v v' : Value) (xs : List Mt) (w : World) (h : MtsAt w v xs) (h' : MtsAt w v' xs) : Calls Tryz.prog 29 #[v, v'] w fun e w' => e = .returned (.bool true) ∧ Below w.heap.size w w' := by
  obtain ⟨A, k, rfl, h1, h2⟩ := SliceAt.form h
  obtain ⟨A', k', rfl, h1', h2'⟩ := SliceAt.form h'
  unfold maxLen at h2 h2'
  have HC := Lib.hid h
  have HC' := Lib.hid h'
  clear h h'
  go_enter Tryz.func29, Tryz.ntmps29
  go_wp2_with fail
  go_loopg [13] xs.length (fun gg s13 wr => ∃ kk m : Nat, kk ≤ xs.length ∧ xs.length - kk ≤ gg ∧ s13 = i kk ∧ wr = w.drewN m)
  case atStart => exact ⟨0, 0, Nat.zero_le _, by omega, rfl, rfl⟩
  case round =>
    obtain ⟨kk, m, hkk, hg, rfl, rfl⟩ := hrel
    by_cases hlt : kk < xs.length
    · have hltz : (kk : Int) < (xs.length : Int) := by omega
      have hk0 : (0 : Int) ≤ (kk : Int) := by omega
      obtain ⟨b, off, rfl, hrow⟩ := MtsAt.at_ HC.out hlt
      obtain ⟨b', off', rfl, hrow'⟩ := MtsAt.at_ HC'.out hlt
      obtain ⟨l0, l1, l2, l3⟩ := hrow w (Kept.refl _)
      obtain ⟨m0, m1, m2, m3⟩ := hrow' w (Kept.refl _)
      clear hrow hrow'
      generalize xs[kk] = y at *
      have hq := fun W => neqMt y W
      go_wp2_with fail
      go_quiet (fail)
      go_wp2_with fail
      go_roundg (xs.length - (kk + 1))
      case measure => omega
      case rel => exact ⟨kk + 1, m + nq, by omega, by omega, by go_num, rfl⟩
    · have hltz : ¬ (kk : Int) < (xs.length : Int) := by omega
      go_wp2_with fail
      go_ret
      exact ⟨rfl, by repeat (first | (with_reducible exact Below.refl _ _) | (with_reducible refine below_drewN' ?_ _) | (with_reducible refine Below.drew ?_) | (with_reducible refine Below.setCell ?_ (by first | (simp; done) | (simp; omega) | omega) _) | (with_reducible refine below_alloc ?_ _) | (with_reducible refine Below.alloc ?_ (by first | (simp; done) | (simp; omega) | omega) _))⟩

theorem neqTx (x : Tx) (W : World) : (binOp .neq 54 (.agg (txA x)) (.agg (txA x))).run Tryz.prog W = .ok (.bool false) W := by
  have u3 := Tryz.underlying3
  have a3 := Tryz.isAgg3
  have z3 := Tryz.sizeOf3
  have u4 := Tryz.underlying4
  have a4 := Tryz.isAgg4
  have z4 := Tryz.sizeOf4
  have u5 := Tryz.underlying9
  have a5 := Tryz.isAgg9
  have z5 := Tryz.sizeOf9
  have hS : Tryz.prog.underlying 54 = some (.struct (Tryz.prog.fieldsOf 54)) := by kernel_rfl
  have hp : Tryz.prog.stoodInHeld 54 = false := by kernel_rfl
  rw [run_neq_struct, show (10000 : Nat) = 9999 + 1 from rfl, run_equalIn_agg W 9999 54 _ _ hS hp]
  simp only [Program.fieldsOf, Tryz.underlying54]
  go_simp

set_option maxRecDepth 100000 in
set_option maxHeartbeats 1000000 in
theorem equalTx (v v' : Value) (xs : List Tx) (w : World) (h : TxsAt w v xs) (h' : TxsAt w v' xs) : Calls Tryz.prog 30 #[v, v'] w fun e w' => e = .returned (.bool true) ∧ Below w.heap.size w w' := by
  obtain ⟨A, k, rfl, h1, h2⟩ := SliceAt.form h
  obtain ⟨A', k', rfl, h1', h2'⟩ := SliceAt.form h'
  unfold maxLen at h2 h2'
  have HC := Lib.hid h
  have HC' := Lib.hid h'
  clear h h'
  go_enter Tryz.func30, Tryz.ntmps30
  go_wp2_with fail
  go_loopg [13] xs.length (fun gg s13 wr => ∃ kk m : Nat, kk ≤ xs.length ∧ xs.length - kk ≤ gg ∧ s13 = i kk ∧ wr = w.drewN m)
  case atStart => exact ⟨0, 0, Nat.zero_le _, by omega, rfl, rfl⟩
  case round =>
    obtain ⟨kk, m, hkk, hg, rfl, rfl⟩ := hrel
    by_cases hlt : kk < xs.length
    · have hltz : (kk : Int) < (xs.length : Int) := by omega
      have hk0 : (0 : Int) ≤ (kk : Int) := by omega
      obtain ⟨b, off, rfl, hrow⟩ := TxsAt.at_ HC.out hlt
      obtain ⟨b', off', rfl, hrow'⟩ := TxsAt.at_ HC'.out hlt
      obtain ⟨l0, l1, l2, l3, l4, l5, l6, l7, l8⟩ := hrow w (Kept.refl _)
      obtain ⟨m0, m1, m2, m3, m4, m5, m6, m7, m8⟩ := hrow' w (Kept.refl _)
      clear hrow hrow'
      generalize xs[kk] = y at *
      have hq := fun W => neqTx y W
      go_wp2_with fail
      go_quiet (fail)
      go_wp2_with fail
      go_roundg (xs.length - (kk + 1))
      case measure => omega
      case rel => exact ⟨kk + 1, m + nq, by omega, by omega, by go_num, rfl⟩
    · have hltz : ¬ (kk : Int) < (xs.length : Int) := by omega
      go_wp2_with fail
      go_ret
      exact ⟨rfl, by repeat (first | (with_reducible exact Below.refl _ _) | (with_reducible refine below_drewN' ?_ _) | (with_reducible refine Below.drew ?_) | (with_reducible refine Below.setCell ?_ (by first | (simp; done) | (simp; omega) | omega) _) | (with_reducible refine below_alloc ?_ _) | (with_reducible refine Below.alloc ?_ (by first | (simp; done) | (simp; omega) | omega) _))⟩

theorem neqIn (x : Int) (W : World) : (binOp .neq 3 (i x) (i x)).run Tryz.prog W = .ok (.bool false) W := by go_simp

set_option maxRecDepth 100000 in
set_option maxHeartbeats 1000000 in
theorem equalIn (v v' : Value) (xs : List Int) (w : World) (h : IntsAt w v xs) (h' : IntsAt w v' xs) : Calls Tryz.prog 31 #[v, v'] w fun e w' => e = .returned (.bool true) ∧ Below w.heap.size w w' := by
  obtain ⟨A, k, rfl, h1, h2⟩ := SliceAt.form h
  obtain ⟨A', k', rfl, h1', h2'⟩ := SliceAt.form h'
  unfold maxLen at h2 h2'
  have HC := Lib.hid h
  have HC' := Lib.hid h'
  clear h h'
  go_enter Tryz.func31, Tryz.ntmps31
  go_wp2_with fail
  go_loopg [13] xs.length (fun gg s13 wr => ∃ kk m : Nat, kk ≤ xs.length ∧ xs.length - kk ≤ gg ∧ s13 = i kk ∧ wr = w.drewN m)
  case atStart => exact ⟨0, 0, Nat.zero_le _, by omega, rfl, rfl⟩
  case round =>
    obtain ⟨kk, m, hkk, hg, rfl, rfl⟩ := hrel
    by_cases hlt : kk < xs.length
    · have hltz : (kk : Int) < (xs.length : Int) := by omega
      have hk0 : (0 : Int) ≤ (kk : Int) := by omega
      obtain ⟨b, off, rfl, hrow⟩ := IntsAt.at_ HC.out hlt
      obtain ⟨b', off', rfl, hrow'⟩ := IntsAt.at_ HC'.out hlt
      have l0 := hrow w (Kept.refl _)
      have m0 := hrow' w (Kept.refl _)
      clear hrow hrow'
      generalize xs[kk] = y at *
      have hq := fun W => neqIn y W
      go_wp2_with fail
      go_quiet (fail)
      go_wp2_with fail
      go_roundg (xs.length - (kk + 1))
      case measure => omega
      case rel => exact ⟨kk + 1, m + nq, by omega, by omega, by go_num, rfl⟩
    · have hltz : ¬ (kk : Int) < (xs.length : Int) := by omega
      go_wp2_with fail
      go_ret
      exact ⟨rfl, by repeat (first | (with_reducible exact Below.refl _ _) | (with_reducible refine below_drewN' ?_ _) | (with_reducible refine Below.drew ?_) | (with_reducible refine Below.setCell ?_ (by first | (simp; done) | (simp; omega) | omega) _) | (with_reducible refine below_alloc ?_ _) | (with_reducible refine Below.alloc ?_ (by first | (simp; done) | (simp; omega) | omega) _))⟩

end Stn
end Go.Proofs.YtfaofobhmmedmaaGreatDoor
