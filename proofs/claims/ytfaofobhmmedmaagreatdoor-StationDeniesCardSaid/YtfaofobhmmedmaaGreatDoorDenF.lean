/-
  The reference's message.Valid on an authorization.
-/
import Derived.Test.YtfaofobhmmedmaaGreatDoorDenE
namespace Go.Proofs.YtfaofobhmmedmaaGreatDoor
namespace Stn
set_option linter.unusedSimpArgs false
set_option linter.unusedVariables false
open Go.RowKit Go.Great

/-- The tags that an authorization uses. -/
def Tags (w : World) (g : Nat) : Prop := Blk w g 3 #[i 4, i 10]
theorem Tags.call {w w' : World} {g : Nat} (h : Tags w g) (hb : Below w.heap.size w w') : Tags w' g := Blk.call h hb
theorem eqlSpan (W : World) : (binOp .eql 58 (.agg #[i 0, i 0]) (.agg #[i 0, i 0])).run Tryz.prog W = .ok (.bool true) W := by
  have u3 := Tryz.underlying3
  have a3 := Tryz.isAgg3
  have z3 := Tryz.sizeOf3
  have hS : Tryz.prog.underlying 58 = some (.struct (Tryz.prog.fieldsOf 58)) := by kernel_rfl
  have hp : Tryz.prog.stoodInHeld 58 = false := by kernel_rfl
  rw [run_eql_struct, show (10000 : Nat) = 9999 + 1 from rfl, run_equalIn_agg W 9999 58 _ _ hS hp]
  simp only [Program.fieldsOf, Tryz.underlying58]
  go_simp
set_option maxRecDepth 100000 in
set_option maxHeartbeats 4000000 in
theorem r26in (x lo hi : Int) (w : World) (h : lo ≤ x ∧ x ≤ hi) : Calls Tryz.prog 101 #[i x, i lo, i hi] w fun e w' => e = .returned (.bool true) ∧ w = w' := by
  obtain ⟨h1, h2⟩ := h
  go_enter Tryz.func101, Tryz.ntmps101
  go_wp2_with fail
  go_ret
  exact ⟨rfl, rfl⟩
set_option maxRecDepth 100000 in
set_option maxHeartbeats 4000000 in
theorem r26act (w : World) : Calls Tryz.prog 102 #[i 4] w fun e w' => e = .returned (.bool true) ∧ w = w' := by
  go_enter Tryz.func102, Tryz.ntmps102
  go_wp2_with fail
  go_ret
  exact ⟨rfl, rfl⟩
set_option maxRecDepth 100000 in
set_option maxHeartbeats 4000000 in
theorem r26used (cn : Int) (id : ByteArray) (w : World) : Calls Tryz.prog 103 #[.agg (msA 1 1 4 cn id ⟨#[]⟩)] w fun e w' => ∃ g, e = .returned (.slice (some ⟨g, 0, none⟩) 2 2) ∧ Tags w' g ∧ Below w.heap.size w w' := by
  obtain ⟨iI, hIi, hIz, hIs, hIb⟩ := info_parts infoI
  have HB := Lib.hid (below_new w (.cells (msA 1 1 4 cn id ⟨#[]⟩) 63))
  have HK := Lib.hid (Blk.new w 63 (msA 1 1 4 cn id ⟨#[]⟩))
  go_enter Tryz.func103, Tryz.ntmps103
  go_upto_region 1 with (fail)
  generalize w.alloc (.cells _ 63) = w1 at *
  have kc := HK.out.cell
  go_wp2_with (refine wpList_buildSlice rfl 22 3 2 _ rfl #[i 4, i 10] iI _ Tryz.underlying22 hIi hIz (by rw [hIs]; decide) (by rw [hIs]; decide) (by rw [hIs]; kernel_rfl) ?_)
  go_ret
  exact ⟨w1.heap.size, rfl, Blk.new w1 _ _, below_alloc HB.out _⟩
set_option maxRecDepth 100000 in
set_option maxHeartbeats 4000000 in
theorem r26has4 (g : Nat) (w : World) (h : Tags w g) : Calls Tryz.prog 104 #[.slice (some ⟨g, 0, none⟩) 2 2, i 4] w fun e w' => e = .returned (.bool true) ∧ w = w' := by
  have k0 : w.cell? ⟨g, 0, none⟩ = some (i 4) := Blk.cell h 0
  clear h
  go_enter Tryz.func104, Tryz.ntmps104
  go_wp2_with fail
  go_loopg [5] 0 (fun gg s5 wr => s5 = i 0 ∧ wr = w)
  case atStart => exact ⟨rfl, rfl⟩
  case round =>
    obtain ⟨rfl, rfl⟩ := hrel
    go_wp2_with fail
    go_ret
    exact ⟨rfl, rfl⟩
set_option maxRecDepth 100000 in
set_option maxHeartbeats 4000000 in
theorem r26has10 (g : Nat) (w : World) (h : Tags w g) : Calls Tryz.prog 104 #[.slice (some ⟨g, 0, none⟩) 2 2, i 10] w fun e w' => e = .returned (.bool true) ∧ w = w' := by
  have k0 : w.cell? ⟨g, 0, none⟩ = some (i 4) := Blk.cell h 0
  have k1 : w.cell? ⟨g, 1, none⟩ = some (i 10) := Blk.cell h 1
  clear h
  go_enter Tryz.func104, Tryz.ntmps104
  go_wp2_with fail
  go_loopg [5] 2 (fun gg s5 wr => ∃ kk : Nat, kk ≤ 1 ∧ 2 - kk ≤ gg ∧ s5 = i kk ∧ wr = w)
  case atStart => exact ⟨0, by omega, by omega, rfl, rfl⟩
  case round =>
    obtain ⟨kk, hkk, hg, rfl, rfl⟩ := hrel
    rcases (show kk = 0 ∨ kk = 1 by omega) with rfl | rfl
    · go_wp2_with fail
      go_roundg 1
      case measure => omega
      case rel => exact ⟨1, by omega, by omega, by rfl, rfl⟩
    · go_wp2_with fail
      go_ret
      exact ⟨rfl, rfl⟩
set_option maxRecDepth 100000 in
set_option maxHeartbeats 4000000 in
theorem r26hasN (n : Int) (g : Nat) (w : World) (h : Tags w g) (hn : n ≠ 4 ∧ n ≠ 10) : Calls Tryz.prog 104 #[.slice (some ⟨g, 0, none⟩) 2 2, i n] w fun e w' => e = .returned (.bool false) ∧ w = w' := by
  have k0 : w.cell? ⟨g, 0, none⟩ = some (i 4) := Blk.cell h 0
  have k1 : w.cell? ⟨g, 1, none⟩ = some (i 10) := Blk.cell h 1
  have h4 : ((4 : Int) == n) = false := by simp; omega
  have h10 : ((10 : Int) == n) = false := by simp; omega
  clear h hn
  go_enter Tryz.func104, Tryz.ntmps104
  go_wp2_with fail
  go_loopg [5] 2 (fun gg s5 wr => ∃ kk : Nat, kk ≤ 2 ∧ 2 - kk ≤ gg ∧ s5 = i kk ∧ wr = w)
  case atStart => exact ⟨0, by omega, by omega, rfl, rfl⟩
  case round =>
    obtain ⟨kk, hkk, hg, rfl, rfl⟩ := hrel
    rcases (show kk = 0 ∨ kk = 1 ∨ kk = 2 by omega) with rfl | rfl | rfl
    · go_wp2_with fail
      go_roundg 1
      case measure => omega
      case rel => exact ⟨1, by omega, by omega, by rfl, rfl⟩
    · go_wp2_with fail
      go_roundg 0
      case measure => omega
      case rel => exact ⟨2, by omega, by omega, by rfl, rfl⟩
    · go_wp2_with fail
      go_ret
      exact ⟨rfl, rfl⟩
set_option maxRecDepth 100000 in
set_option maxHeartbeats 4000000 in
theorem r26nopro (w : World) : Calls Tryz.prog 187 #[.agg proA] w fun e w' => e = .returned (.bool true) ∧ Below w.heap.size w w' := by
  have HE := eqlSpan
  have HB := Lib.hid (below_new w (.cells proA 61))
  have HK := Lib.hid (Blk.new w 61 proA)
  go_enter Tryz.func187, Tryz.ntmps187
  go_upto_region 1 with (fail)
  generalize w.alloc (.cells _ 61) = w1 at *
  have kc := HK.out.cell
  go_wp2_with fail
  go_ret
  exact ⟨rfl, HB.out⟩
set_option maxRecDepth 100000 in
set_option maxHeartbeats 4000000 in
theorem r26zero5 (cn : Int) (id : ByteArray) (w : World) : Calls Tryz.prog 105 #[.agg (msA 1 1 4 cn id ⟨#[]⟩), i 5] w fun e w' => e = .returned (.bool true) ∧ Below w.heap.size w w' := by
  have HB := Lib.hid (below_new w (.cells (msA 1 1 4 cn id ⟨#[]⟩) 63))
  have HK := Lib.hid (Blk.new w 63 (msA 1 1 4 cn id ⟨#[]⟩))
  have HN := Lib.hid r26nopro
  go_enter Tryz.func105, Tryz.ntmps105
  go_upto_region 1 with (fail)
  generalize w.alloc (.cells _ 63) = w1 at *
  have kc := HK.out.cell
  go_upto_region 2 with (fail)
  have HB2 := Lib.hid (below_alloc HB.out (.cells #[i cn, i 0, i 0, i 0, i 0] 3))
  have HK2 := Lib.hid (HK.out.alloc (.cells #[i cn, i 0, i 0, i 0, i 0] 3))
  have HI := Lib.hid (Blk.new w1 3 #[i cn, i 0, i 0, i 0, i 0])
  clear kc HK HB
  generalize w1.alloc (.cells _ 3) = w2 at *
  generalize w1.heap.size = gI at *
  have kc := HK2.out.cell
  go_upto_region 3 with (fail)
  have HB3 := Lib.hid (below_alloc HB2.out (.cells #[.string ⟨#[]⟩, .string id, .string ⟨#[]⟩] 9))
  have HK3 := Lib.hid (HK2.out.alloc (.cells #[.string ⟨#[]⟩, .string id, .string ⟨#[]⟩] 9))
  have HI3 := Lib.hid (HI.out.alloc (.cells #[.string ⟨#[]⟩, .string id, .string ⟨#[]⟩] 9))
  have HS := Lib.hid (Blk.new w2 9 #[.string ⟨#[]⟩, .string id, .string ⟨#[]⟩])
  clear kc HK2 HI HB2
  generalize w2.alloc (.cells _ 9) = w3 at *
  generalize w2.heap.size = gS at *
  have kc := HK3.out.cell
  have ki := HI3.out.cell
  have ks := HS.out.cell
  go_wp2_with fail
  go_ret
  exact ⟨rfl, HB3.out⟩
set_option maxRecDepth 100000 in
set_option maxHeartbeats 4000000 in
theorem r26zero6 (cn : Int) (id : ByteArray) (w : World) : Calls Tryz.prog 105 #[.agg (msA 1 1 4 cn id ⟨#[]⟩), i 6] w fun e w' => e = .returned (.bool true) ∧ Below w.heap.size w w' := by
  have HB := Lib.hid (below_new w (.cells (msA 1 1 4 cn id ⟨#[]⟩) 63))
  have HK := Lib.hid (Blk.new w 63 (msA 1 1 4 cn id ⟨#[]⟩))
  have HN := Lib.hid r26nopro
  go_enter Tryz.func105, Tryz.ntmps105
  go_upto_region 1 with (fail)
  generalize w.alloc (.cells _ 63) = w1 at *
  have kc := HK.out.cell
  go_upto_region 2 with (fail)
  have HB2 := Lib.hid (below_alloc HB.out (.cells #[i cn, i 0, i 0, i 0, i 0] 3))
  have HK2 := Lib.hid (HK.out.alloc (.cells #[i cn, i 0, i 0, i 0, i 0] 3))
  have HI := Lib.hid (Blk.new w1 3 #[i cn, i 0, i 0, i 0, i 0])
  clear kc HK HB
  generalize w1.alloc (.cells _ 3) = w2 at *
  generalize w1.heap.size = gI at *
  have kc := HK2.out.cell
  go_upto_region 3 with (fail)
  have HB3 := Lib.hid (below_alloc HB2.out (.cells #[.string ⟨#[]⟩, .string id, .string ⟨#[]⟩] 9))
  have HK3 := Lib.hid (HK2.out.alloc (.cells #[.string ⟨#[]⟩, .string id, .string ⟨#[]⟩] 9))
  have HI3 := Lib.hid (HI.out.alloc (.cells #[.string ⟨#[]⟩, .string id, .string ⟨#[]⟩] 9))
  have HS := Lib.hid (Blk.new w2 9 #[.string ⟨#[]⟩, .string id, .string ⟨#[]⟩])
  clear kc HK2 HI HB2
  generalize w2.alloc (.cells _ 9) = w3 at *
  generalize w2.heap.size = gS at *
  have kc := HK3.out.cell
  have ki := HI3.out.cell
  have ks := HS.out.cell
  go_wp2_with fail
  go_ret
  exact ⟨rfl, HB3.out⟩
set_option maxRecDepth 100000 in
set_option maxHeartbeats 4000000 in
theorem r26zero7 (cn : Int) (id : ByteArray) (w : World) : Calls Tryz.prog 105 #[.agg (msA 1 1 4 cn id ⟨#[]⟩), i 7] w fun e w' => e = .returned (.bool true) ∧ Below w.heap.size w w' := by
  have HB := Lib.hid (below_new w (.cells (msA 1 1 4 cn id ⟨#[]⟩) 63))
  have HK := Lib.hid (Blk.new w 63 (msA 1 1 4 cn id ⟨#[]⟩))
  have HN := Lib.hid r26nopro
  go_enter Tryz.func105, Tryz.ntmps105
  go_upto_region 1 with (fail)
  generalize w.alloc (.cells _ 63) = w1 at *
  have kc := HK.out.cell
  go_upto_region 2 with (fail)
  have HB2 := Lib.hid (below_alloc HB.out (.cells #[i cn, i 0, i 0, i 0, i 0] 3))
  have HK2 := Lib.hid (HK.out.alloc (.cells #[i cn, i 0, i 0, i 0, i 0] 3))
  have HI := Lib.hid (Blk.new w1 3 #[i cn, i 0, i 0, i 0, i 0])
  clear kc HK HB
  generalize w1.alloc (.cells _ 3) = w2 at *
  generalize w1.heap.size = gI at *
  have kc := HK2.out.cell
  go_upto_region 3 with (fail)
  have HB3 := Lib.hid (below_alloc HB2.out (.cells #[.string ⟨#[]⟩, .string id, .string ⟨#[]⟩] 9))
  have HK3 := Lib.hid (HK2.out.alloc (.cells #[.string ⟨#[]⟩, .string id, .string ⟨#[]⟩] 9))
  have HI3 := Lib.hid (HI.out.alloc (.cells #[.string ⟨#[]⟩, .string id, .string ⟨#[]⟩] 9))
  have HS := Lib.hid (Blk.new w2 9 #[.string ⟨#[]⟩, .string id, .string ⟨#[]⟩])
  clear kc HK2 HI HB2
  generalize w2.alloc (.cells _ 9) = w3 at *
  generalize w2.heap.size = gS at *
  have kc := HK3.out.cell
  have ki := HI3.out.cell
  have ks := HS.out.cell
  go_wp2_with fail
  go_ret
  exact ⟨rfl, HB3.out⟩
set_option maxRecDepth 100000 in
set_option maxHeartbeats 4000000 in
theorem r26zero8 (cn : Int) (id : ByteArray) (w : World) : Calls Tryz.prog 105 #[.agg (msA 1 1 4 cn id ⟨#[]⟩), i 8] w fun e w' => e = .returned (.bool true) ∧ Below w.heap.size w w' := by
  have HB := Lib.hid (below_new w (.cells (msA 1 1 4 cn id ⟨#[]⟩) 63))
  have HK := Lib.hid (Blk.new w 63 (msA 1 1 4 cn id ⟨#[]⟩))
  have HN := Lib.hid r26nopro
  go_enter Tryz.func105, Tryz.ntmps105
  go_upto_region 1 with (fail)
  generalize w.alloc (.cells _ 63) = w1 at *
  have kc := HK.out.cell
  go_upto_region 2 with (fail)
  have HB2 := Lib.hid (below_alloc HB.out (.cells #[i cn, i 0, i 0, i 0, i 0] 3))
  have HK2 := Lib.hid (HK.out.alloc (.cells #[i cn, i 0, i 0, i 0, i 0] 3))
  have HI := Lib.hid (Blk.new w1 3 #[i cn, i 0, i 0, i 0, i 0])
  clear kc HK HB
  generalize w1.alloc (.cells _ 3) = w2 at *
  generalize w1.heap.size = gI at *
  have kc := HK2.out.cell
  go_upto_region 3 with (fail)
  have HB3 := Lib.hid (below_alloc HB2.out (.cells #[.string ⟨#[]⟩, .string id, .string ⟨#[]⟩] 9))
  have HK3 := Lib.hid (HK2.out.alloc (.cells #[.string ⟨#[]⟩, .string id, .string ⟨#[]⟩] 9))
  have HI3 := Lib.hid (HI.out.alloc (.cells #[.string ⟨#[]⟩, .string id, .string ⟨#[]⟩] 9))
  have HS := Lib.hid (Blk.new w2 9 #[.string ⟨#[]⟩, .string id, .string ⟨#[]⟩])
  clear kc HK2 HI HB2
  generalize w2.alloc (.cells _ 9) = w3 at *
  generalize w2.heap.size = gS at *
  have kc := HK3.out.cell
  have ki := HI3.out.cell
  have ks := HS.out.cell
  go_wp2_with fail
  go_ret
  exact ⟨rfl, HB3.out⟩
set_option maxRecDepth 100000 in
set_option maxHeartbeats 4000000 in
theorem r26zero9 (cn : Int) (id : ByteArray) (w : World) : Calls Tryz.prog 105 #[.agg (msA 1 1 4 cn id ⟨#[]⟩), i 9] w fun e w' => e = .returned (.bool true) ∧ Below w.heap.size w w' := by
  have HB := Lib.hid (below_new w (.cells (msA 1 1 4 cn id ⟨#[]⟩) 63))
  have HK := Lib.hid (Blk.new w 63 (msA 1 1 4 cn id ⟨#[]⟩))
  have HN := Lib.hid r26nopro
  go_enter Tryz.func105, Tryz.ntmps105
  go_upto_region 1 with (fail)
  generalize w.alloc (.cells _ 63) = w1 at *
  have kc := HK.out.cell
  go_upto_region 2 with (fail)
  have HB2 := Lib.hid (below_alloc HB.out (.cells #[i cn, i 0, i 0, i 0, i 0] 3))
  have HK2 := Lib.hid (HK.out.alloc (.cells #[i cn, i 0, i 0, i 0, i 0] 3))
  have HI := Lib.hid (Blk.new w1 3 #[i cn, i 0, i 0, i 0, i 0])
  clear kc HK HB
  generalize w1.alloc (.cells _ 3) = w2 at *
  generalize w1.heap.size = gI at *
  have kc := HK2.out.cell
  go_upto_region 3 with (fail)
  have HB3 := Lib.hid (below_alloc HB2.out (.cells #[.string ⟨#[]⟩, .string id, .string ⟨#[]⟩] 9))
  have HK3 := Lib.hid (HK2.out.alloc (.cells #[.string ⟨#[]⟩, .string id, .string ⟨#[]⟩] 9))
  have HI3 := Lib.hid (HI.out.alloc (.cells #[.string ⟨#[]⟩, .string id, .string ⟨#[]⟩] 9))
  have HS := Lib.hid (Blk.new w2 9 #[.string ⟨#[]⟩, .string id, .string ⟨#[]⟩])
  clear kc HK2 HI HB2
  generalize w2.alloc (.cells _ 9) = w3 at *
  generalize w2.heap.size = gS at *
  have kc := HK3.out.cell
  have ki := HI3.out.cell
  have ks := HS.out.cell
  go_wp2_with fail
  go_ret
  exact ⟨rfl, HB3.out⟩
set_option maxRecDepth 100000 in
set_option maxHeartbeats 4000000 in
theorem r26zero11 (cn : Int) (id : ByteArray) (w : World) : Calls Tryz.prog 105 #[.agg (msA 1 1 4 cn id ⟨#[]⟩), i 11] w fun e w' => e = .returned (.bool true) ∧ Below w.heap.size w w' := by
  have HB := Lib.hid (below_new w (.cells (msA 1 1 4 cn id ⟨#[]⟩) 63))
  have HK := Lib.hid (Blk.new w 63 (msA 1 1 4 cn id ⟨#[]⟩))
  have HN := Lib.hid r26nopro
  go_enter Tryz.func105, Tryz.ntmps105
  go_upto_region 1 with (fail)
  generalize w.alloc (.cells _ 63) = w1 at *
  have kc := HK.out.cell
  go_upto_region 2 with (fail)
  have HB2 := Lib.hid (below_alloc HB.out (.cells #[i cn, i 0, i 0, i 0, i 0] 3))
  have HK2 := Lib.hid (HK.out.alloc (.cells #[i cn, i 0, i 0, i 0, i 0] 3))
  have HI := Lib.hid (Blk.new w1 3 #[i cn, i 0, i 0, i 0, i 0])
  clear kc HK HB
  generalize w1.alloc (.cells _ 3) = w2 at *
  generalize w1.heap.size = gI at *
  have kc := HK2.out.cell
  go_upto_region 3 with (fail)
  have HB3 := Lib.hid (below_alloc HB2.out (.cells #[.string ⟨#[]⟩, .string id, .string ⟨#[]⟩] 9))
  have HK3 := Lib.hid (HK2.out.alloc (.cells #[.string ⟨#[]⟩, .string id, .string ⟨#[]⟩] 9))
  have HI3 := Lib.hid (HI.out.alloc (.cells #[.string ⟨#[]⟩, .string id, .string ⟨#[]⟩] 9))
  have HS := Lib.hid (Blk.new w2 9 #[.string ⟨#[]⟩, .string id, .string ⟨#[]⟩])
  clear kc HK2 HI HB2
  generalize w2.alloc (.cells _ 9) = w3 at *
  generalize w2.heap.size = gS at *
  have kc := HK3.out.cell
  have ki := HI3.out.cell
  have ks := HS.out.cell
  go_wp2_with fail
  go_ret
  exact ⟨rfl, HB3.out⟩
set_option maxRecDepth 100000 in
set_option maxHeartbeats 4000000 in
theorem r26zero12 (cn : Int) (id : ByteArray) (w : World) : Calls Tryz.prog 105 #[.agg (msA 1 1 4 cn id ⟨#[]⟩), i 12] w fun e w' => e = .returned (.bool true) ∧ Below w.heap.size w w' := by
  have HB := Lib.hid (below_new w (.cells (msA 1 1 4 cn id ⟨#[]⟩) 63))
  have HK := Lib.hid (Blk.new w 63 (msA 1 1 4 cn id ⟨#[]⟩))
  have HN := Lib.hid r26nopro
  go_enter Tryz.func105, Tryz.ntmps105
  go_upto_region 1 with (fail)
  generalize w.alloc (.cells _ 63) = w1 at *
  have kc := HK.out.cell
  go_upto_region 2 with (fail)
  have HB2 := Lib.hid (below_alloc HB.out (.cells #[i cn, i 0, i 0, i 0, i 0] 3))
  have HK2 := Lib.hid (HK.out.alloc (.cells #[i cn, i 0, i 0, i 0, i 0] 3))
  have HI := Lib.hid (Blk.new w1 3 #[i cn, i 0, i 0, i 0, i 0])
  clear kc HK HB
  generalize w1.alloc (.cells _ 3) = w2 at *
  generalize w1.heap.size = gI at *
  have kc := HK2.out.cell
  go_upto_region 3 with (fail)
  have HB3 := Lib.hid (below_alloc HB2.out (.cells #[.string ⟨#[]⟩, .string id, .string ⟨#[]⟩] 9))
  have HK3 := Lib.hid (HK2.out.alloc (.cells #[.string ⟨#[]⟩, .string id, .string ⟨#[]⟩] 9))
  have HI3 := Lib.hid (HI.out.alloc (.cells #[.string ⟨#[]⟩, .string id, .string ⟨#[]⟩] 9))
  have HS := Lib.hid (Blk.new w2 9 #[.string ⟨#[]⟩, .string id, .string ⟨#[]⟩])
  clear kc HK2 HI HB2
  generalize w2.alloc (.cells _ 9) = w3 at *
  generalize w2.heap.size = gS at *
  have kc := HK3.out.cell
  have ki := HI3.out.cell
  have ks := HS.out.cell
  go_wp2_with fail
  go_ret
  exact ⟨rfl, HB3.out⟩
set_option maxRecDepth 100000 in
set_option maxHeartbeats 4000000 in
theorem r26zero13 (cn : Int) (id : ByteArray) (w : World) : Calls Tryz.prog 105 #[.agg (msA 1 1 4 cn id ⟨#[]⟩), i 13] w fun e w' => e = .returned (.bool true) ∧ Below w.heap.size w w' := by
  have HB := Lib.hid (below_new w (.cells (msA 1 1 4 cn id ⟨#[]⟩) 63))
  have HK := Lib.hid (Blk.new w 63 (msA 1 1 4 cn id ⟨#[]⟩))
  have HN := Lib.hid r26nopro
  go_enter Tryz.func105, Tryz.ntmps105
  go_upto_region 1 with (fail)
  generalize w.alloc (.cells _ 63) = w1 at *
  have kc := HK.out.cell
  go_upto_region 2 with (fail)
  have HB2 := Lib.hid (below_alloc HB.out (.cells #[i cn, i 0, i 0, i 0, i 0] 3))
  have HK2 := Lib.hid (HK.out.alloc (.cells #[i cn, i 0, i 0, i 0, i 0] 3))
  have HI := Lib.hid (Blk.new w1 3 #[i cn, i 0, i 0, i 0, i 0])
  clear kc HK HB
  generalize w1.alloc (.cells _ 3) = w2 at *
  generalize w1.heap.size = gI at *
  have kc := HK2.out.cell
  go_upto_region 3 with (fail)
  have HB3 := Lib.hid (below_alloc HB2.out (.cells #[.string ⟨#[]⟩, .string id, .string ⟨#[]⟩] 9))
  have HK3 := Lib.hid (HK2.out.alloc (.cells #[.string ⟨#[]⟩, .string id, .string ⟨#[]⟩] 9))
  have HI3 := Lib.hid (HI.out.alloc (.cells #[.string ⟨#[]⟩, .string id, .string ⟨#[]⟩] 9))
  have HS := Lib.hid (Blk.new w2 9 #[.string ⟨#[]⟩, .string id, .string ⟨#[]⟩])
  clear kc HK2 HI HB2
  generalize w2.alloc (.cells _ 9) = w3 at *
  generalize w2.heap.size = gS at *
  have kc := HK3.out.cell
  have ki := HI3.out.cell
  have ks := HS.out.cell
  go_wp2_with fail
  go_ret
  exact ⟨rfl, HB3.out⟩
set_option maxRecDepth 100000 in
set_option maxHeartbeats 4000000 in
theorem r26zero14 (cn : Int) (id : ByteArray) (w : World) : Calls Tryz.prog 105 #[.agg (msA 1 1 4 cn id ⟨#[]⟩), i 14] w fun e w' => e = .returned (.bool true) ∧ Below w.heap.size w w' := by
  have HB := Lib.hid (below_new w (.cells (msA 1 1 4 cn id ⟨#[]⟩) 63))
  have HK := Lib.hid (Blk.new w 63 (msA 1 1 4 cn id ⟨#[]⟩))
  have HN := Lib.hid r26nopro
  go_enter Tryz.func105, Tryz.ntmps105
  go_upto_region 1 with (fail)
  generalize w.alloc (.cells _ 63) = w1 at *
  have kc := HK.out.cell
  go_upto_region 2 with (fail)
  have HB2 := Lib.hid (below_alloc HB.out (.cells #[i cn, i 0, i 0, i 0, i 0] 3))
  have HK2 := Lib.hid (HK.out.alloc (.cells #[i cn, i 0, i 0, i 0, i 0] 3))
  have HI := Lib.hid (Blk.new w1 3 #[i cn, i 0, i 0, i 0, i 0])
  clear kc HK HB
  generalize w1.alloc (.cells _ 3) = w2 at *
  generalize w1.heap.size = gI at *
  have kc := HK2.out.cell
  go_upto_region 3 with (fail)
  have HB3 := Lib.hid (below_alloc HB2.out (.cells #[.string ⟨#[]⟩, .string id, .string ⟨#[]⟩] 9))
  have HK3 := Lib.hid (HK2.out.alloc (.cells #[.string ⟨#[]⟩, .string id, .string ⟨#[]⟩] 9))
  have HI3 := Lib.hid (HI.out.alloc (.cells #[.string ⟨#[]⟩, .string id, .string ⟨#[]⟩] 9))
  have HS := Lib.hid (Blk.new w2 9 #[.string ⟨#[]⟩, .string id, .string ⟨#[]⟩])
  clear kc HK2 HI HB2
  generalize w2.alloc (.cells _ 9) = w3 at *
  generalize w2.heap.size = gS at *
  have kc := HK3.out.cell
  have ki := HI3.out.cell
  have ks := HS.out.cell
  go_wp2_with fail
  refine (HN.out _).mono ?_
  rintro e w4 ⟨rfl, hb⟩
  have HB4 := Lib.hid (below_call HB3.out hb)
  clear hb
  go_wp2_with fail
  go_ret
  exact ⟨rfl, HB4.out⟩
set_option maxRecDepth 100000 in
set_option maxHeartbeats 4000000 in
theorem r26zero15 (cn : Int) (id : ByteArray) (w : World) : Calls Tryz.prog 105 #[.agg (msA 1 1 4 cn id ⟨#[]⟩), i 15] w fun e w' => e = .returned (.bool true) ∧ Below w.heap.size w w' := by
  have HB := Lib.hid (below_new w (.cells (msA 1 1 4 cn id ⟨#[]⟩) 63))
  have HK := Lib.hid (Blk.new w 63 (msA 1 1 4 cn id ⟨#[]⟩))
  have HN := Lib.hid r26nopro
  go_enter Tryz.func105, Tryz.ntmps105
  go_upto_region 1 with (fail)
  generalize w.alloc (.cells _ 63) = w1 at *
  have kc := HK.out.cell
  go_upto_region 2 with (fail)
  have HB2 := Lib.hid (below_alloc HB.out (.cells #[i cn, i 0, i 0, i 0, i 0] 3))
  have HK2 := Lib.hid (HK.out.alloc (.cells #[i cn, i 0, i 0, i 0, i 0] 3))
  have HI := Lib.hid (Blk.new w1 3 #[i cn, i 0, i 0, i 0, i 0])
  clear kc HK HB
  generalize w1.alloc (.cells _ 3) = w2 at *
  generalize w1.heap.size = gI at *
  have kc := HK2.out.cell
  go_upto_region 3 with (fail)
  have HB3 := Lib.hid (below_alloc HB2.out (.cells #[.string ⟨#[]⟩, .string id, .string ⟨#[]⟩] 9))
  have HK3 := Lib.hid (HK2.out.alloc (.cells #[.string ⟨#[]⟩, .string id, .string ⟨#[]⟩] 9))
  have HI3 := Lib.hid (HI.out.alloc (.cells #[.string ⟨#[]⟩, .string id, .string ⟨#[]⟩] 9))
  have HS := Lib.hid (Blk.new w2 9 #[.string ⟨#[]⟩, .string id, .string ⟨#[]⟩])
  clear kc HK2 HI HB2
  generalize w2.alloc (.cells _ 9) = w3 at *
  generalize w2.heap.size = gS at *
  have kc := HK3.out.cell
  have ki := HI3.out.cell
  have ks := HS.out.cell
  go_wp2_with fail
  go_ret
  exact ⟨rfl, HB3.out⟩

end Stn
end Go.Proofs.YtfaofobhmmedmaaGreatDoor
