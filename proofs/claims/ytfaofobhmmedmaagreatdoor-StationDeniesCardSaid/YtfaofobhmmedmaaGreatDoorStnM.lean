/-
  message.Valid on two calls: a boot of "S", and an authorization of any identifier at any connector.
-/
import Derived.Test.YtfaofobhmmedmaaGreatDoorStnU
namespace Go.Proofs.YtfaofobhmmedmaaGreatDoor
namespace Stn
set_option linter.unusedSimpArgs false
set_option linter.unusedVariables false
open Go.RowKit Go.Great

abbrev proA : Array Value := #[i 0, i 0, i 0, i 0, i 0, .string ⟨#[]⟩, i 0, i 0, i 0, i 0, .slice none 0 0]
/-- The cells of a message. -/
abbrev msA (k id ac cn : Int) (tok txt : ByteArray) : Array Value := #[i k, i id, i ac, i cn, i 0, i 0, i 0, i 0, .string ⟨#[]⟩, .string tok, .string txt, .bool false, .slice none 0 0, i 0, i 0, i 0, i 0, i 0, .string ⟨#[]⟩, i 0, i 0, i 0, i 0, .slice none 0 0, .slice none 0 0]

theorem str_some {a : ByteArray} (h : ¬ a.size = 0) : a.toList.isEmpty = false := by
  rw [ByteArray.toList_eq]
  obtain ⟨⟨x⟩⟩ := a
  cases x with
  | nil => exact absurd rfl h
  | cons x l => rfl
theorem ident_some {a : ByteArray} (h : IdW.identOk a = true) : ¬ a.size = 0 := fun hz => by
  rw [IdW.good_size (by omega)] at h
  cases h
theorem neqSpan (W : World) : (binOp .neq 58 (.agg #[i 0, i 0]) (.agg #[i 0, i 0])).run Tryz.prog W = .ok (.bool false) W := by
  have u3 := Tryz.underlying3
  have a3 := Tryz.isAgg3
  have z3 := Tryz.sizeOf3
  have hS : Tryz.prog.underlying 58 = some (.struct (Tryz.prog.fieldsOf 58)) := by kernel_rfl
  have hp : Tryz.prog.stoodInHeld 58 = false := by kernel_rfl
  rw [run_neq_struct, show (10000 : Nat) = 9999 + 1 from rfl, run_equalIn_agg W 9999 58 _ _ hS hp]
  simp only [Program.fieldsOf, Tryz.underlying58]
  go_simp

set_option maxRecDepth 100000 in
set_option maxHeartbeats 4000000 in
theorem usedInB (w : World) : Calls Tryz.prog 194 #[i 1] w fun e w' => e = .returned (.tuple #[i 128, .bool true]) ∧ w = w' := by
  go_enter Tryz.func194, Tryz.ntmps194
  go_wp2_with fail
  go_ret2
  exact ⟨rfl, rfl⟩
set_option maxRecDepth 100000 in
set_option maxHeartbeats 4000000 in
theorem usedB (w : World) : Calls Tryz.prog 115 #[i 1, i 1] w fun e w' => e = .returned (.tuple #[i 128, .bool true]) ∧ w = w' := by
  have HU := Lib.hid usedInB
  go_enter Tryz.func115, Tryz.ntmps115
  go_wp2_with fail
  refine (HU.out _).mono ?_
  rintro e w1 ⟨rfl, rfl⟩
  go_wp2_with fail
  go_ret2
  exact ⟨rfl, rfl⟩
/-- What is gathered after k fields. -/
def preB : Nat → Int
  | 0 => 0
  | 1 => 0
  | 2 => 0
  | 3 => 0
  | 4 => 0
  | 5 => 0
  | 6 => 0
  | 7 => 0
  | 8 => 128
  | 9 => 128
  | 10 => 128
  | 11 => 128
  | 12 => 128
  | _ => 128
set_option maxRecDepth 100000 in
set_option maxHeartbeats 4000000 in
theorem presentB (w : World) : Calls Tryz.prog 116 #[.agg (msA 1 1 1 0 ⟨#[]⟩ ⟨#[83]⟩)] w fun e w' => e = .returned (i 128) ∧ Below w.heap.size w w' := by
  have HN := neqSpan
  have HB := Lib.hid (below_alloc (below_new w (.cells (msA 1 1 1 0 ⟨#[]⟩ ⟨#[83]⟩) 63)) (.cells proA 61))
  have HK := Lib.hid ((Blk.new w 63 (msA 1 1 1 0 ⟨#[]⟩ ⟨#[83]⟩)).alloc (.cells proA 61))
  have HZ := Lib.hid (Blk.new (w.alloc (.cells (msA 1 1 1 0 ⟨#[]⟩ ⟨#[83]⟩) 63)) 61 proA)
  have hsz : (w.alloc (.cells (msA 1 1 1 0 ⟨#[]⟩ ⟨#[83]⟩) 63)).heap.size = w.heap.size + 1 := by simp
  rw [hsz] at HZ
  clear hsz
  go_enter Tryz.func116, Tryz.ntmps116
  go_upto_region 2 with (fail)
  generalize (w.alloc (.cells _ 63)).alloc (.cells _ 61) = w0 at *
  have kc := HK.out.cell
  have kz := HZ.out.cell
  go_wp2_with fail
  go_loopg [5, 96] 12 (fun gg s5 s96 wr => ∃ kk : Nat, kk ≤ 12 ∧ 12 - kk ≤ gg ∧ s5 = i (preB kk) ∧ s96 = i kk ∧ wr = w0)
  case atStart => exact ⟨0, by omega, by omega, rfl, rfl, rfl⟩
  case round =>
    obtain ⟨kk, hkk, hg, rfl, rfl, rfl⟩ := hrel
    rcases (show kk = 0 ∨ kk = 1 ∨ kk = 2 ∨ kk = 3 ∨ kk = 4 ∨ kk = 5 ∨ kk = 6 ∨ kk = 7 ∨ kk = 8 ∨ kk = 9 ∨ kk = 10 ∨ kk = 11 ∨ kk = 12 by omega) with rfl | rfl | rfl | rfl | rfl | rfl | rfl | rfl | rfl | rfl | rfl | rfl | rfl
    · have hix : ∀ W, (Instr.index 251 (.agg #[.bool false, .bool false, .bool false, .bool false, .bool false, .bool false, .bool false, .bool true, .bool false, .bool false, .bool false, .bool false]) (i 0)).run Tryz.prog W = .ok (.bool false) W := fun W => by kernel_rfl
      simp only [preB]
      go_wp2_with fail
      go_roundg 11
      case measure => omega
      case rel => exact ⟨1, by omega, by omega, by rfl, by rfl, rfl⟩
    · have hix : ∀ W, (Instr.index 251 (.agg #[.bool false, .bool false, .bool false, .bool false, .bool false, .bool false, .bool false, .bool true, .bool false, .bool false, .bool false, .bool false]) (i 1)).run Tryz.prog W = .ok (.bool false) W := fun W => by kernel_rfl
      simp only [preB]
      go_wp2_with fail
      go_roundg 10
      case measure => omega
      case rel => exact ⟨2, by omega, by omega, by rfl, by rfl, rfl⟩
    · have hix : ∀ W, (Instr.index 251 (.agg #[.bool false, .bool false, .bool false, .bool false, .bool false, .bool false, .bool false, .bool true, .bool false, .bool false, .bool false, .bool false]) (i 2)).run Tryz.prog W = .ok (.bool false) W := fun W => by kernel_rfl
      simp only [preB]
      go_wp2_with fail
      go_roundg 9
      case measure => omega
      case rel => exact ⟨3, by omega, by omega, by rfl, by rfl, rfl⟩
    · have hix : ∀ W, (Instr.index 251 (.agg #[.bool false, .bool false, .bool false, .bool false, .bool false, .bool false, .bool false, .bool true, .bool false, .bool false, .bool false, .bool false]) (i 3)).run Tryz.prog W = .ok (.bool false) W := fun W => by kernel_rfl
      simp only [preB]
      go_wp2_with fail
      go_roundg 8
      case measure => omega
      case rel => exact ⟨4, by omega, by omega, by rfl, by rfl, rfl⟩
    · have hix : ∀ W, (Instr.index 251 (.agg #[.bool false, .bool false, .bool false, .bool false, .bool false, .bool false, .bool false, .bool true, .bool false, .bool false, .bool false, .bool false]) (i 4)).run Tryz.prog W = .ok (.bool false) W := fun W => by kernel_rfl
      simp only [preB]
      go_wp2_with fail
      go_roundg 7
      case measure => omega
      case rel => exact ⟨5, by omega, by omega, by rfl, by rfl, rfl⟩
    · have hix : ∀ W, (Instr.index 251 (.agg #[.bool false, .bool false, .bool false, .bool false, .bool false, .bool false, .bool false, .bool true, .bool false, .bool false, .bool false, .bool false]) (i 5)).run Tryz.prog W = .ok (.bool false) W := fun W => by kernel_rfl
      simp only [preB]
      go_wp2_with fail
      go_roundg 6
      case measure => omega
      case rel => exact ⟨6, by omega, by omega, by rfl, by rfl, rfl⟩
    · have hix : ∀ W, (Instr.index 251 (.agg #[.bool false, .bool false, .bool false, .bool false, .bool false, .bool false, .bool false, .bool true, .bool false, .bool false, .bool false, .bool false]) (i 6)).run Tryz.prog W = .ok (.bool false) W := fun W => by kernel_rfl
      simp only [preB]
      go_wp2_with fail
      go_roundg 5
      case measure => omega
      case rel => exact ⟨7, by omega, by omega, by rfl, by rfl, rfl⟩
    · have hix : ∀ W, (Instr.index 251 (.agg #[.bool false, .bool false, .bool false, .bool false, .bool false, .bool false, .bool false, .bool true, .bool false, .bool false, .bool false, .bool false]) (i 7)).run Tryz.prog W = .ok (.bool true) W := fun W => by kernel_rfl
      simp only [preB]
      go_wp2_with fail
      go_roundg 4
      case measure => omega
      case rel => exact ⟨8, by omega, by omega, by rfl, by rfl, rfl⟩
    · have hix : ∀ W, (Instr.index 251 (.agg #[.bool false, .bool false, .bool false, .bool false, .bool false, .bool false, .bool false, .bool true, .bool false, .bool false, .bool false, .bool false]) (i 8)).run Tryz.prog W = .ok (.bool false) W := fun W => by kernel_rfl
      simp only [preB]
      go_wp2_with fail
      go_roundg 3
      case measure => omega
      case rel => exact ⟨9, by omega, by omega, by rfl, by rfl, rfl⟩
    · have hix : ∀ W, (Instr.index 251 (.agg #[.bool false, .bool false, .bool false, .bool false, .bool false, .bool false, .bool false, .bool true, .bool false, .bool false, .bool false, .bool false]) (i 9)).run Tryz.prog W = .ok (.bool false) W := fun W => by kernel_rfl
      simp only [preB]
      go_wp2_with fail
      go_roundg 2
      case measure => omega
      case rel => exact ⟨10, by omega, by omega, by rfl, by rfl, rfl⟩
    · have hix : ∀ W, (Instr.index 251 (.agg #[.bool false, .bool false, .bool false, .bool false, .bool false, .bool false, .bool false, .bool true, .bool false, .bool false, .bool false, .bool false]) (i 10)).run Tryz.prog W = .ok (.bool false) W := fun W => by kernel_rfl
      simp only [preB]
      go_wp2_with fail
      go_roundg 1
      case measure => omega
      case rel => exact ⟨11, by omega, by omega, by rfl, by rfl, rfl⟩
    · have hix : ∀ W, (Instr.index 251 (.agg #[.bool false, .bool false, .bool false, .bool false, .bool false, .bool false, .bool false, .bool true, .bool false, .bool false, .bool false, .bool false]) (i 11)).run Tryz.prog W = .ok (.bool false) W := fun W => by kernel_rfl
      simp only [preB]
      go_wp2_with fail
      go_roundg 0
      case measure => omega
      case rel => exact ⟨12, by omega, by omega, by rfl, by rfl, rfl⟩
    · go_wp2_with fail
      go_ret
      exact ⟨rfl, HB.out⟩
set_option maxRecDepth 100000 in
set_option maxHeartbeats 4000000 in
theorem numbersB (w : World) : Calls Tryz.prog 117 #[.agg (msA 1 1 1 0 ⟨#[]⟩ ⟨#[83]⟩), i 128] w fun e w' => e = .returned (.bool true) ∧ Below w.heap.size w w' := by
  have HB := Lib.hid (below_new w (.cells (msA 1 1 1 0 ⟨#[]⟩ ⟨#[83]⟩) 63))
  have HK := Lib.hid (Blk.new w 63 (msA 1 1 1 0 ⟨#[]⟩ ⟨#[83]⟩))
  go_enter Tryz.func117, Tryz.ntmps117
  go_upto_region 1 with (fail)
  generalize w.alloc (.cells _ 63) = w0 at *
  have kc := HK.out.cell
  go_wp2_with fail
  go_ret
  exact ⟨rfl, HB.out⟩
set_option maxRecDepth 100000 in
set_option maxHeartbeats 4000000 in
theorem namesB (w : World) : Calls Tryz.prog 118 #[.agg (msA 1 1 1 0 ⟨#[]⟩ ⟨#[83]⟩), i 128] w fun e w' => e = .returned (.bool true) ∧ Below w.heap.size w w' := by
  have HB := Lib.hid (below_new w (.cells (msA 1 1 1 0 ⟨#[]⟩ ⟨#[83]⟩) 63))
  have HK := Lib.hid (Blk.new w 63 (msA 1 1 1 0 ⟨#[]⟩ ⟨#[83]⟩))
  have HV := Lib.hid (fun W => IdW.valid_ ⟨#[83]⟩ W (by unfold maxLen; decide))
  have HT : Hid (IdW.identOk ⟨#[83]⟩ = true) := by show _ = _; decide
  go_enter Tryz.func118, Tryz.ntmps118
  go_upto_region 1 with (fail)
  generalize w.alloc (.cells _ 63) = w0 at *
  have kc := HK.out.cell
  go_wp2_with fail
  refine (HV.out _).mono ?_
  rw [HT.out]
  rintro e w1 ⟨rfl, hb⟩
  have HB1 := Lib.hid (below_call HB.out hb)
  clear kc
  have kc := (HK.out.call hb).cell
  clear hb
  go_wp2_with fail
  go_ret
  exact ⟨rfl, HB1.out⟩
set_option maxRecDepth 100000 in
set_option maxHeartbeats 4000000 in
theorem listsB (w : World) : Calls Tryz.prog 119 #[.agg (msA 1 1 1 0 ⟨#[]⟩ ⟨#[83]⟩), i 128] w fun e w' => e = .returned (i 0) ∧ Below w.heap.size w w' := by
  have HB := Lib.hid (below_new w (.cells (msA 1 1 1 0 ⟨#[]⟩ ⟨#[83]⟩) 63))
  have HK := Lib.hid (Blk.new w 63 (msA 1 1 1 0 ⟨#[]⟩ ⟨#[83]⟩))
  go_enter Tryz.func119, Tryz.ntmps119
  go_upto_region 1 with (fail)
  generalize w.alloc (.cells _ 63) = w0 at *
  have kc := HK.out.cell
  go_wp2_with fail
  go_loopg [14] 0 (fun gg s14 wr => s14 = i 0 ∧ wr = w0)
  case atStart => exact ⟨rfl, rfl⟩
  case round =>
    obtain ⟨rfl, rfl⟩ := hrel
    go_wp2_with fail
    go_loopg [49] 0 (fun gg s49 wq => s49 = i 0 ∧ wq = wr)
    case atStart => exact ⟨rfl, rfl⟩
    case round =>
      obtain ⟨rfl, rfl⟩ := hrel
      go_wp2_with fail
      go_ret
      exact ⟨rfl, HB.out⟩
set_option maxRecDepth 100000 in
set_option maxHeartbeats 4000000 in
theorem mvalidB (w : World) : Calls Tryz.prog 54 #[.agg (msA 1 1 1 0 ⟨#[]⟩ ⟨#[83]⟩)] w fun e w' => e = .returned (i 0) ∧ Below w.heap.size w w' := by
  have HB := Lib.hid (below_new w (.cells (msA 1 1 1 0 ⟨#[]⟩ ⟨#[83]⟩) 63))
  have HK := Lib.hid (Blk.new w 63 (msA 1 1 1 0 ⟨#[]⟩ ⟨#[83]⟩))
  have HU := Lib.hid usedB
  have HP := Lib.hid (fun W => presentB W)
  have HN := Lib.hid (fun W => numbersB W)
  have HM := Lib.hid (fun W => namesB W)
  have HL := Lib.hid (fun W => listsB W)
  go_enter Tryz.func54, Tryz.ntmps54
  go_upto_region 1 with (fail)
  generalize w.alloc (.cells _ 63) = w0 at *
  have kc := HK.out.cell
  go_wp2_with fail
  refine (HU.out _).mono ?_
  rintro e w1 ⟨rfl, rfl⟩
  go_wp2_with (refine wpList_load_row rfl 63 (.tmp 1) rfl w.heap.size rfl 63 (msA 1 1 1 0 ⟨#[]⟩ ⟨#[83]⟩) (0, 0) _ HK.out Tryz.underlying63 rfl (by kernel_rfl) ?_)
  refine (HP.out _).mono ?_
  rintro e w1 ⟨rfl, hb⟩
  have HB1 := Lib.hid (below_call HB.out hb)
  have HK1 := Lib.hid (HK.out.call hb)
  clear kc hb HB HK
  have HB := HB1
  have HK := HK1
  clear HB1 HK1
  have kc := HK.out.cell
  go_wp2_with (refine wpList_load_row rfl 63 (.tmp 1) rfl w.heap.size rfl 63 (msA 1 1 1 0 ⟨#[]⟩ ⟨#[83]⟩) (0, 0) _ HK.out Tryz.underlying63 rfl (by kernel_rfl) ?_)
  refine (HN.out _).mono ?_
  rintro e w1 ⟨rfl, hb⟩
  have HB1 := Lib.hid (below_call HB.out hb)
  have HK1 := Lib.hid (HK.out.call hb)
  clear kc hb HB HK
  have HB := HB1
  have HK := HK1
  clear HB1 HK1
  have kc := HK.out.cell
  go_wp2_with (refine wpList_load_row rfl 63 (.tmp 1) rfl w.heap.size rfl 63 (msA 1 1 1 0 ⟨#[]⟩ ⟨#[83]⟩) (0, 0) _ HK.out Tryz.underlying63 rfl (by kernel_rfl) ?_)
  refine (HM.out _).mono ?_
  rintro e w1 ⟨rfl, hb⟩
  have HB1 := Lib.hid (below_call HB.out hb)
  have HK1 := Lib.hid (HK.out.call hb)
  clear kc hb HB HK
  have HB := HB1
  have HK := HK1
  clear HB1 HK1
  have kc := HK.out.cell
  go_wp2_with (refine wpList_load_row rfl 63 (.tmp 1) rfl w.heap.size rfl 63 (msA 1 1 1 0 ⟨#[]⟩ ⟨#[83]⟩) (0, 0) _ HK.out Tryz.underlying63 rfl (by kernel_rfl) ?_)
  refine (HL.out _).mono ?_
  rintro e w1 ⟨rfl, hb⟩
  have HB1 := Lib.hid (below_call HB.out hb)
  clear kc hb HB HK
  go_wp2_with fail
  go_ret
  exact ⟨rfl, HB1.out⟩
set_option maxRecDepth 100000 in
set_option maxHeartbeats 4000000 in
theorem usedInA (w : World) : Calls Tryz.prog 194 #[i 4] w fun e w' => e = .returned (.tuple #[i 65, .bool true]) ∧ w = w' := by
  go_enter Tryz.func194, Tryz.ntmps194
  go_wp2_with fail
  go_ret2
  exact ⟨rfl, rfl⟩
set_option maxRecDepth 100000 in
set_option maxHeartbeats 4000000 in
theorem usedA (w : World) : Calls Tryz.prog 115 #[i 1, i 4] w fun e w' => e = .returned (.tuple #[i 65, .bool true]) ∧ w = w' := by
  have HU := Lib.hid usedInA
  go_enter Tryz.func115, Tryz.ntmps115
  go_wp2_with fail
  refine (HU.out _).mono ?_
  rintro e w1 ⟨rfl, rfl⟩
  go_wp2_with fail
  go_ret2
  exact ⟨rfl, rfl⟩
/-- What is gathered after k fields. -/
def preA : Nat → Int
  | 0 => 0
  | 1 => 1
  | 2 => 1
  | 3 => 1
  | 4 => 1
  | 5 => 1
  | 6 => 1
  | 7 => 65
  | 8 => 65
  | 9 => 65
  | 10 => 65
  | 11 => 65
  | 12 => 65
  | _ => 65
set_option maxRecDepth 100000 in
set_option maxHeartbeats 4000000 in
theorem presentA (cn : Int) (tok : ByteArray) (w : World) (hc : 1 ≤ cn ∧ cn ≤ 32) (ht : IdW.identOk tok = true) (hs : tok.size ≤ maxLen) : Calls Tryz.prog 116 #[.agg (msA 1 1 4 cn tok ⟨#[]⟩)] w fun e w' => e = .returned (i 65) ∧ Below w.heap.size w w' := by
  have HN := neqSpan
  have hcn : (cn != 0) = true := by simp; omega
  have htk : tok.toList.isEmpty = false := str_some (ident_some ht)
  clear ht hs hc
  have HB := Lib.hid (below_alloc (below_new w (.cells (msA 1 1 4 cn tok ⟨#[]⟩) 63)) (.cells proA 61))
  have HK := Lib.hid ((Blk.new w 63 (msA 1 1 4 cn tok ⟨#[]⟩)).alloc (.cells proA 61))
  have HZ := Lib.hid (Blk.new (w.alloc (.cells (msA 1 1 4 cn tok ⟨#[]⟩) 63)) 61 proA)
  have hsz : (w.alloc (.cells (msA 1 1 4 cn tok ⟨#[]⟩) 63)).heap.size = w.heap.size + 1 := by simp
  rw [hsz] at HZ
  clear hsz
  go_enter Tryz.func116, Tryz.ntmps116
  go_upto_region 2 with (fail)
  generalize (w.alloc (.cells _ 63)).alloc (.cells _ 61) = w0 at *
  have kc := HK.out.cell
  have kz := HZ.out.cell
  go_wp2_with fail
  go_loopg [5, 96] 12 (fun gg s5 s96 wr => ∃ kk : Nat, kk ≤ 12 ∧ 12 - kk ≤ gg ∧ s5 = i (preA kk) ∧ s96 = i kk ∧ wr = w0)
  case atStart => exact ⟨0, by omega, by omega, rfl, rfl, rfl⟩
  case round =>
    obtain ⟨kk, hkk, hg, rfl, rfl, rfl⟩ := hrel
    rcases (show kk = 0 ∨ kk = 1 ∨ kk = 2 ∨ kk = 3 ∨ kk = 4 ∨ kk = 5 ∨ kk = 6 ∨ kk = 7 ∨ kk = 8 ∨ kk = 9 ∨ kk = 10 ∨ kk = 11 ∨ kk = 12 by omega) with rfl | rfl | rfl | rfl | rfl | rfl | rfl | rfl | rfl | rfl | rfl | rfl | rfl
    · have hix : ∀ W, (Instr.index 251 (.agg #[.bool true, .bool false, .bool false, .bool false, .bool false, .bool false, .bool true, .bool false, .bool false, .bool false, .bool false, .bool false]) (i 0)).run Tryz.prog W = .ok (.bool true) W := fun W => by kernel_rfl
      simp only [preA]
      go_wp2_with fail
      go_roundg 11
      case measure => omega
      case rel => exact ⟨1, by omega, by omega, by rfl, by rfl, rfl⟩
    · have hix : ∀ W, (Instr.index 251 (.agg #[.bool true, .bool false, .bool false, .bool false, .bool false, .bool false, .bool true, .bool false, .bool false, .bool false, .bool false, .bool false]) (i 1)).run Tryz.prog W = .ok (.bool false) W := fun W => by kernel_rfl
      simp only [preA]
      go_wp2_with fail
      go_roundg 10
      case measure => omega
      case rel => exact ⟨2, by omega, by omega, by rfl, by rfl, rfl⟩
    · have hix : ∀ W, (Instr.index 251 (.agg #[.bool true, .bool false, .bool false, .bool false, .bool false, .bool false, .bool true, .bool false, .bool false, .bool false, .bool false, .bool false]) (i 2)).run Tryz.prog W = .ok (.bool false) W := fun W => by kernel_rfl
      simp only [preA]
      go_wp2_with fail
      go_roundg 9
      case measure => omega
      case rel => exact ⟨3, by omega, by omega, by rfl, by rfl, rfl⟩
    · have hix : ∀ W, (Instr.index 251 (.agg #[.bool true, .bool false, .bool false, .bool false, .bool false, .bool false, .bool true, .bool false, .bool false, .bool false, .bool false, .bool false]) (i 3)).run Tryz.prog W = .ok (.bool false) W := fun W => by kernel_rfl
      simp only [preA]
      go_wp2_with fail
      go_roundg 8
      case measure => omega
      case rel => exact ⟨4, by omega, by omega, by rfl, by rfl, rfl⟩
    · have hix : ∀ W, (Instr.index 251 (.agg #[.bool true, .bool false, .bool false, .bool false, .bool false, .bool false, .bool true, .bool false, .bool false, .bool false, .bool false, .bool false]) (i 4)).run Tryz.prog W = .ok (.bool false) W := fun W => by kernel_rfl
      simp only [preA]
      go_wp2_with fail
      go_roundg 7
      case measure => omega
      case rel => exact ⟨5, by omega, by omega, by rfl, by rfl, rfl⟩
    · have hix : ∀ W, (Instr.index 251 (.agg #[.bool true, .bool false, .bool false, .bool false, .bool false, .bool false, .bool true, .bool false, .bool false, .bool false, .bool false, .bool false]) (i 5)).run Tryz.prog W = .ok (.bool false) W := fun W => by kernel_rfl
      simp only [preA]
      go_wp2_with fail
      go_roundg 6
      case measure => omega
      case rel => exact ⟨6, by omega, by omega, by rfl, by rfl, rfl⟩
    · have hix : ∀ W, (Instr.index 251 (.agg #[.bool true, .bool false, .bool false, .bool false, .bool false, .bool false, .bool true, .bool false, .bool false, .bool false, .bool false, .bool false]) (i 6)).run Tryz.prog W = .ok (.bool true) W := fun W => by kernel_rfl
      simp only [preA]
      go_wp2_with fail
      go_roundg 5
      case measure => omega
      case rel => exact ⟨7, by omega, by omega, by rfl, by rfl, rfl⟩
    · have hix : ∀ W, (Instr.index 251 (.agg #[.bool true, .bool false, .bool false, .bool false, .bool false, .bool false, .bool true, .bool false, .bool false, .bool false, .bool false, .bool false]) (i 7)).run Tryz.prog W = .ok (.bool false) W := fun W => by kernel_rfl
      simp only [preA]
      go_wp2_with fail
      go_roundg 4
      case measure => omega
      case rel => exact ⟨8, by omega, by omega, by rfl, by rfl, rfl⟩
    · have hix : ∀ W, (Instr.index 251 (.agg #[.bool true, .bool false, .bool false, .bool false, .bool false, .bool false, .bool true, .bool false, .bool false, .bool false, .bool false, .bool false]) (i 8)).run Tryz.prog W = .ok (.bool false) W := fun W => by kernel_rfl
      simp only [preA]
      go_wp2_with fail
      go_roundg 3
      case measure => omega
      case rel => exact ⟨9, by omega, by omega, by rfl, by rfl, rfl⟩
    · have hix : ∀ W, (Instr.index 251 (.agg #[.bool true, .bool false, .bool false, .bool false, .bool false, .bool false, .bool true, .bool false, .bool false, .bool false, .bool false, .bool false]) (i 9)).run Tryz.prog W = .ok (.bool false) W := fun W => by kernel_rfl
      simp only [preA]
      go_wp2_with fail
      go_roundg 2
      case measure => omega
      case rel => exact ⟨10, by omega, by omega, by rfl, by rfl, rfl⟩
    · have hix : ∀ W, (Instr.index 251 (.agg #[.bool true, .bool false, .bool false, .bool false, .bool false, .bool false, .bool true, .bool false, .bool false, .bool false, .bool false, .bool false]) (i 10)).run Tryz.prog W = .ok (.bool false) W := fun W => by kernel_rfl
      simp only [preA]
      go_wp2_with fail
      go_roundg 1
      case measure => omega
      case rel => exact ⟨11, by omega, by omega, by rfl, by rfl, rfl⟩
    · have hix : ∀ W, (Instr.index 251 (.agg #[.bool true, .bool false, .bool false, .bool false, .bool false, .bool false, .bool true, .bool false, .bool false, .bool false, .bool false, .bool false]) (i 11)).run Tryz.prog W = .ok (.bool false) W := fun W => by kernel_rfl
      simp only [preA]
      go_wp2_with fail
      go_roundg 0
      case measure => omega
      case rel => exact ⟨12, by omega, by omega, by rfl, by rfl, rfl⟩
    · go_wp2_with fail
      go_ret
      exact ⟨rfl, HB.out⟩
set_option maxRecDepth 100000 in
set_option maxHeartbeats 4000000 in
theorem numbersA (cn : Int) (tok : ByteArray) (w : World) (hc : 1 ≤ cn ∧ cn ≤ 32) (ht : IdW.identOk tok = true) (hs : tok.size ≤ maxLen) : Calls Tryz.prog 117 #[.agg (msA 1 1 4 cn tok ⟨#[]⟩), i 65] w fun e w' => e = .returned (.bool true) ∧ Below w.heap.size w w' := by
  have HB := Lib.hid (below_new w (.cells (msA 1 1 4 cn tok ⟨#[]⟩) 63))
  have HK := Lib.hid (Blk.new w 63 (msA 1 1 4 cn tok ⟨#[]⟩))
  have c1 : (1 ≤ cn) := hc.1
  have c2 : cn ≤ 32 := hc.2
  have c3 : ¬ (cn < 1) := by omega
  have c4 : ¬ (32 < cn) := by omega
  go_enter Tryz.func117, Tryz.ntmps117
  go_upto_region 1 with (fail)
  generalize w.alloc (.cells _ 63) = w0 at *
  have kc := HK.out.cell
  go_wp2_with fail
  go_ret
  exact ⟨rfl, HB.out⟩
set_option maxRecDepth 100000 in
set_option maxHeartbeats 4000000 in
theorem namesA (cn : Int) (tok : ByteArray) (w : World) (hc : 1 ≤ cn ∧ cn ≤ 32) (ht : IdW.identOk tok = true) (hs : tok.size ≤ maxLen) : Calls Tryz.prog 118 #[.agg (msA 1 1 4 cn tok ⟨#[]⟩), i 65] w fun e w' => e = .returned (.bool true) ∧ Below w.heap.size w w' := by
  have HB := Lib.hid (below_new w (.cells (msA 1 1 4 cn tok ⟨#[]⟩) 63))
  have HK := Lib.hid (Blk.new w 63 (msA 1 1 4 cn tok ⟨#[]⟩))
  have HV := Lib.hid (fun W => IdW.valid_ tok W hs)
  have HT := Lib.hid ht
  clear ht
  go_enter Tryz.func118, Tryz.ntmps118
  go_upto_region 1 with (fail)
  generalize w.alloc (.cells _ 63) = w0 at *
  have kc := HK.out.cell
  go_wp2_with fail
  refine (HV.out _).mono ?_
  rw [HT.out]
  rintro e w1 ⟨rfl, hb⟩
  have HB1 := Lib.hid (below_call HB.out hb)
  clear kc
  have kc := (HK.out.call hb).cell
  clear hb
  go_wp2_with fail
  go_ret
  exact ⟨rfl, HB1.out⟩
set_option maxRecDepth 100000 in
set_option maxHeartbeats 4000000 in
theorem listsA (cn : Int) (tok : ByteArray) (w : World) (hc : 1 ≤ cn ∧ cn ≤ 32) (ht : IdW.identOk tok = true) (hs : tok.size ≤ maxLen) : Calls Tryz.prog 119 #[.agg (msA 1 1 4 cn tok ⟨#[]⟩), i 65] w fun e w' => e = .returned (i 0) ∧ Below w.heap.size w w' := by
  have HB := Lib.hid (below_new w (.cells (msA 1 1 4 cn tok ⟨#[]⟩) 63))
  have HK := Lib.hid (Blk.new w 63 (msA 1 1 4 cn tok ⟨#[]⟩))
  go_enter Tryz.func119, Tryz.ntmps119
  go_upto_region 1 with (fail)
  generalize w.alloc (.cells _ 63) = w0 at *
  have kc := HK.out.cell
  go_wp2_with fail
  go_loopg [14] 0 (fun gg s14 wr => s14 = i 0 ∧ wr = w0)
  case atStart => exact ⟨rfl, rfl⟩
  case round =>
    obtain ⟨rfl, rfl⟩ := hrel
    go_wp2_with fail
    go_loopg [49] 0 (fun gg s49 wq => s49 = i 0 ∧ wq = wr)
    case atStart => exact ⟨rfl, rfl⟩
    case round =>
      obtain ⟨rfl, rfl⟩ := hrel
      go_wp2_with fail
      go_ret
      exact ⟨rfl, HB.out⟩
set_option maxRecDepth 100000 in
set_option maxHeartbeats 4000000 in
theorem mvalidA (cn : Int) (tok : ByteArray) (w : World) (hc : 1 ≤ cn ∧ cn ≤ 32) (ht : IdW.identOk tok = true) (hs : tok.size ≤ maxLen) : Calls Tryz.prog 54 #[.agg (msA 1 1 4 cn tok ⟨#[]⟩)] w fun e w' => e = .returned (i 0) ∧ Below w.heap.size w w' := by
  have HB := Lib.hid (below_new w (.cells (msA 1 1 4 cn tok ⟨#[]⟩) 63))
  have HK := Lib.hid (Blk.new w 63 (msA 1 1 4 cn tok ⟨#[]⟩))
  have HU := Lib.hid usedA
  have HP := Lib.hid (fun W => presentA cn tok W hc ht hs)
  have HN := Lib.hid (fun W => numbersA cn tok W hc ht hs)
  have HM := Lib.hid (fun W => namesA cn tok W hc ht hs)
  have HL := Lib.hid (fun W => listsA cn tok W hc ht hs)
  go_enter Tryz.func54, Tryz.ntmps54
  go_upto_region 1 with (fail)
  generalize w.alloc (.cells _ 63) = w0 at *
  have kc := HK.out.cell
  go_wp2_with fail
  refine (HU.out _).mono ?_
  rintro e w1 ⟨rfl, rfl⟩
  go_wp2_with (refine wpList_load_row rfl 63 (.tmp 1) rfl w.heap.size rfl 63 (msA 1 1 4 cn tok ⟨#[]⟩) (0, 0) _ HK.out Tryz.underlying63 rfl (by kernel_rfl) ?_)
  refine (HP.out _).mono ?_
  rintro e w1 ⟨rfl, hb⟩
  have HB1 := Lib.hid (below_call HB.out hb)
  have HK1 := Lib.hid (HK.out.call hb)
  clear kc hb HB HK
  have HB := HB1
  have HK := HK1
  clear HB1 HK1
  have kc := HK.out.cell
  go_wp2_with (refine wpList_load_row rfl 63 (.tmp 1) rfl w.heap.size rfl 63 (msA 1 1 4 cn tok ⟨#[]⟩) (0, 0) _ HK.out Tryz.underlying63 rfl (by kernel_rfl) ?_)
  refine (HN.out _).mono ?_
  rintro e w1 ⟨rfl, hb⟩
  have HB1 := Lib.hid (below_call HB.out hb)
  have HK1 := Lib.hid (HK.out.call hb)
  clear kc hb HB HK
  have HB := HB1
  have HK := HK1
  clear HB1 HK1
  have kc := HK.out.cell
  go_wp2_with (refine wpList_load_row rfl 63 (.tmp 1) rfl w.heap.size rfl 63 (msA 1 1 4 cn tok ⟨#[]⟩) (0, 0) _ HK.out Tryz.underlying63 rfl (by kernel_rfl) ?_)
  refine (HM.out _).mono ?_
  rintro e w1 ⟨rfl, hb⟩
  have HB1 := Lib.hid (below_call HB.out hb)
  have HK1 := Lib.hid (HK.out.call hb)
  clear kc hb HB HK
  have HB := HB1
  have HK := HK1
  clear HB1 HK1
  have kc := HK.out.cell
  go_wp2_with (refine wpList_load_row rfl 63 (.tmp 1) rfl w.heap.size rfl 63 (msA 1 1 4 cn tok ⟨#[]⟩) (0, 0) _ HK.out Tryz.underlying63 rfl (by kernel_rfl) ?_)
  refine (HL.out _).mono ?_
  rintro e w1 ⟨rfl, hb⟩
  have HB1 := Lib.hid (below_call HB.out hb)
  clear kc hb HB HK
  go_wp2_with fail
  go_ret
  exact ⟨rfl, HB1.out⟩
end Stn
end Go.Proofs.YtfaofobhmmedmaaGreatDoor
