/-
  The reference's message.Valid and call.Valid on one authorization.
-/
import Derived.Test.YtfaofobhmmedmaaGreatDoorDenF
import Derived.Laws.AppendOwnNone
namespace Go.Proofs.YtfaofobhmmedmaaGreatDoor
namespace Stn
set_option linter.unusedSimpArgs false
set_option linter.unusedVariables false
open Go.RowKit Go.Great

set_option maxRecDepth 100000 in
set_option maxHeartbeats 4000000 in
theorem r26numbers (cn : Int) (id : ByteArray) (g : Nat) (w : World) (h : Tags w g) (hc : 1 ≤ cn ∧ cn ≤ 32) : Calls Tryz.prog 106 #[.agg (msA 1 1 4 cn id ⟨#[]⟩), .slice (some ⟨g, 0, none⟩) 2 2] w fun e w' => e = .returned (i 0) ∧ Below w.heap.size w w' := by
  have HB := Lib.hid (below_new w (.cells (msA 1 1 4 cn id ⟨#[]⟩) 63))
  have HK := Lib.hid (Blk.new w 63 (msA 1 1 4 cn id ⟨#[]⟩))
  have HT := Lib.hid (h.call HB.out)
  have HI := Lib.hid (fun W => r26in cn 1 32 W hc)
  clear h hc
  go_enter Tryz.func106, Tryz.ntmps106
  go_upto_region 1 with (fail)
  generalize w.alloc (.cells _ 63) = w1 at *
  have kc := HK.out.cell
  go_wp2_with fail
  refine (r26has4 g _ HT.out).mono ?_
  rintro e wq ⟨rfl, rfl⟩
  go_wp2_with fail
  refine (HI.out _).mono ?_
  rintro e wq ⟨rfl, rfl⟩
  go_wp2_with fail
  refine (r26hasN 5 g _ HT.out ⟨by decide, by decide⟩).mono ?_
  rintro e wq ⟨rfl, rfl⟩
  go_wp2_with fail
  refine (r26hasN 6 g _ HT.out ⟨by decide, by decide⟩).mono ?_
  rintro e wq ⟨rfl, rfl⟩
  go_wp2_with fail
  refine (r26hasN 7 g _ HT.out ⟨by decide, by decide⟩).mono ?_
  rintro e wq ⟨rfl, rfl⟩
  go_wp2_with fail
  refine (r26hasN 8 g _ HT.out ⟨by decide, by decide⟩).mono ?_
  rintro e wq ⟨rfl, rfl⟩
  go_wp2_with fail
  go_ret
  exact ⟨rfl, HB.out⟩
set_option maxRecDepth 100000 in
set_option maxHeartbeats 4000000 in
theorem r26texts (cn : Int) (id : ByteArray) (g : Nat) (w : World) (h : Tags w g) (ht : IdW.identOk id = true) (hs : id.size ≤ maxLen) : Calls Tryz.prog 107 #[.agg (msA 1 1 4 cn id ⟨#[]⟩), .slice (some ⟨g, 0, none⟩) 2 2] w fun e w' => e = .returned (i 0) ∧ Below w.heap.size w w' := by
  have HB := Lib.hid (below_new w (.cells (msA 1 1 4 cn id ⟨#[]⟩) 63))
  have HK := Lib.hid (Blk.new w 63 (msA 1 1 4 cn id ⟨#[]⟩))
  have HT := Lib.hid (h.call HB.out)
  have HV : Hid (∀ W, Calls Tryz.prog 23 #[.string id] W fun e w' => e = .returned (.bool true) ∧ ∃ m, w' = W.drewN m) := fun W => by
    have := IdW.rvalid id W hs
    rw [ht] at this
    exact this
  clear h ht hs
  go_enter Tryz.func107, Tryz.ntmps107
  go_upto_region 1 with (fail)
  generalize w.alloc (.cells _ 63) = w1 at *
  have kc := HK.out.cell
  go_wp2_with fail
  refine (r26hasN 9 g _ HT.out ⟨by decide, by decide⟩).mono ?_
  rintro e wq ⟨rfl, rfl⟩
  go_wp2_with fail
  refine (r26has10 g _ HT.out).mono ?_
  rintro e wq ⟨rfl, rfl⟩
  go_wp2_with fail
  refine (HV.out _).mono ?_
  rintro e wq ⟨rfl, mm, rfl⟩
  clear kc
  have kc := (Blk.drewN HK.out mm).cell
  have HT2 := Lib.hid (show Tags (w1.drewN mm) g from Blk.drewN HT.out mm)
  have HB2 := Lib.hid (below_drewN' HB.out mm)
  generalize w1.drewN mm = w2 at *
  go_wp2_with fail
  refine (r26hasN 11 g _ HT2.out ⟨by decide, by decide⟩).mono ?_
  rintro e wq ⟨rfl, rfl⟩
  go_wp2_with fail
  go_ret
  exact ⟨rfl, HB2.out⟩
set_option maxRecDepth 100000 in
set_option maxHeartbeats 4000000 in
theorem r26valid (cn : Int) (id : ByteArray) (w : World) (hc : 1 ≤ cn ∧ cn ≤ 32) (ht : IdW.identOk id = true) (hs : id.size ≤ maxLen) : Calls Tryz.prog 48 #[.agg (msA 1 1 4 cn id ⟨#[]⟩)] w fun e w' => e = .returned (i 0) ∧ Below w.heap.size w w' := by
  have HB := Lib.hid (below_new w (.cells (msA 1 1 4 cn id ⟨#[]⟩) 63))
  have HK := Lib.hid (Blk.new w 63 (msA 1 1 4 cn id ⟨#[]⟩))
  have HN : Hid (∀ g W, Tags W g → _) := fun g W h => r26numbers cn id g W h hc
  have HX : Hid (∀ g W, Tags W g → _) := fun g W h => r26texts cn id g W h ht hs
  clear hc ht hs
  go_enter Tryz.func48, Tryz.ntmps48
  go_upto_region 1 with (fail)
  generalize w.alloc (.cells _ 63) = w1 at *
  have kc := HK.out.cell
  go_wp2_with fail
  refine (r26in 1 1 3 _ ⟨by decide, by decide⟩).mono ?_
  rintro e wq ⟨rfl, rfl⟩
  go_wp2_with fail
  refine (r26in 1 1 2147483647 _ ⟨by decide, by decide⟩).mono ?_
  rintro e wq ⟨rfl, rfl⟩
  go_wp2_with fail
  refine (r26act _).mono ?_
  rintro e wq ⟨rfl, rfl⟩
  go_wp2_with (refine wpList_load_row rfl 63 (.tmp 1) rfl w.heap.size rfl 63 (msA 1 1 4 cn id ⟨#[]⟩) (0, 0) _ HK.out Tryz.underlying63 rfl (by kernel_rfl) ?_)
  refine (r26used cn id _).mono ?_
  rintro e w2 ⟨g, rfl, htg, hb⟩
  have HT2 := Lib.hid htg
  have HB2 := Lib.hid (below_call HB.out hb)
  have HK2 := Lib.hid (HK.out.call hb)
  clear htg hb kc HB HK
  go_wp2_with fail
  go_loopg [4] 12 (fun gg s4 wr => ∃ kk : Nat, 4 ≤ kk ∧ kk ≤ 16 ∧ 16 - kk ≤ gg ∧ s4 = i kk ∧ Hid (Blk wr w.heap.size 63 (msA 1 1 4 cn id ⟨#[]⟩) ∧ Tags wr g ∧ Below w.heap.size w wr))
  case atStart => exact ⟨4, by omega, by omega, by omega, rfl, HK2.out, HT2.out, HB2.out⟩
  case round =>
    clear HK2 HT2 HB2
    obtain ⟨kk, hk4, hkk, hg, rfl, HH⟩ := hrel
    rcases (show kk = 4 ∨ kk = 5 ∨ kk = 6 ∨ kk = 7 ∨ kk = 8 ∨ kk = 9 ∨ kk = 10 ∨ kk = 11 ∨ kk = 12 ∨ kk = 13 ∨ kk = 14 ∨ kk = 15 ∨ kk = 16 by omega) with rfl | rfl | rfl | rfl | rfl | rfl | rfl | rfl | rfl | rfl | rfl | rfl | rfl
    · go_wp2_with fail
      refine (r26has4 g _ HH.out.2.1).mono ?_
      rintro e wq ⟨rfl, rfl⟩
      go_wp2_with fail
      go_roundg 11
      case measure => omega
      case rel => exact ⟨5, by omega, by omega, by omega, by rfl, HH⟩
    · go_wp2_with fail
      refine (r26hasN 5 g _ HH.out.2.1 ⟨by decide, by decide⟩).mono ?_
      rintro e wq ⟨rfl, rfl⟩
      have HK := Lib.hid HH.out.1
      go_wp2_with (refine wpList_load_rowW rfl 63 (.tmp 1) rfl w.heap.size rfl 63 (msA 1 1 4 cn id ⟨#[]⟩) (0, 0) _ HK.out Tryz.underlying63 rfl (by kernel_rfl) ?_)
      refine (r26zero5 cn id _).mono ?_
      rintro e w3 ⟨rfl, hb⟩
      have HH2 : Hid (Blk w3 w.heap.size 63 (msA 1 1 4 cn id ⟨#[]⟩) ∧ Tags w3 g ∧ Below w.heap.size w w3) := ⟨HH.out.1.call hb, HH.out.2.1.call hb, below_call HH.out.2.2 hb⟩
      clear hb HK HH
      go_wp2_with fail
      go_roundg 10
      case measure => omega
      case rel => exact ⟨6, by omega, by omega, by omega, by rfl, HH2⟩
    · go_wp2_with fail
      refine (r26hasN 6 g _ HH.out.2.1 ⟨by decide, by decide⟩).mono ?_
      rintro e wq ⟨rfl, rfl⟩
      have HK := Lib.hid HH.out.1
      go_wp2_with (refine wpList_load_rowW rfl 63 (.tmp 1) rfl w.heap.size rfl 63 (msA 1 1 4 cn id ⟨#[]⟩) (0, 0) _ HK.out Tryz.underlying63 rfl (by kernel_rfl) ?_)
      refine (r26zero6 cn id _).mono ?_
      rintro e w3 ⟨rfl, hb⟩
      have HH2 : Hid (Blk w3 w.heap.size 63 (msA 1 1 4 cn id ⟨#[]⟩) ∧ Tags w3 g ∧ Below w.heap.size w w3) := ⟨HH.out.1.call hb, HH.out.2.1.call hb, below_call HH.out.2.2 hb⟩
      clear hb HK HH
      go_wp2_with fail
      go_roundg 9
      case measure => omega
      case rel => exact ⟨7, by omega, by omega, by omega, by rfl, HH2⟩
    · go_wp2_with fail
      refine (r26hasN 7 g _ HH.out.2.1 ⟨by decide, by decide⟩).mono ?_
      rintro e wq ⟨rfl, rfl⟩
      have HK := Lib.hid HH.out.1
      go_wp2_with (refine wpList_load_rowW rfl 63 (.tmp 1) rfl w.heap.size rfl 63 (msA 1 1 4 cn id ⟨#[]⟩) (0, 0) _ HK.out Tryz.underlying63 rfl (by kernel_rfl) ?_)
      refine (r26zero7 cn id _).mono ?_
      rintro e w3 ⟨rfl, hb⟩
      have HH2 : Hid (Blk w3 w.heap.size 63 (msA 1 1 4 cn id ⟨#[]⟩) ∧ Tags w3 g ∧ Below w.heap.size w w3) := ⟨HH.out.1.call hb, HH.out.2.1.call hb, below_call HH.out.2.2 hb⟩
      clear hb HK HH
      go_wp2_with fail
      go_roundg 8
      case measure => omega
      case rel => exact ⟨8, by omega, by omega, by omega, by rfl, HH2⟩
    · go_wp2_with fail
      refine (r26hasN 8 g _ HH.out.2.1 ⟨by decide, by decide⟩).mono ?_
      rintro e wq ⟨rfl, rfl⟩
      have HK := Lib.hid HH.out.1
      go_wp2_with (refine wpList_load_rowW rfl 63 (.tmp 1) rfl w.heap.size rfl 63 (msA 1 1 4 cn id ⟨#[]⟩) (0, 0) _ HK.out Tryz.underlying63 rfl (by kernel_rfl) ?_)
      refine (r26zero8 cn id _).mono ?_
      rintro e w3 ⟨rfl, hb⟩
      have HH2 : Hid (Blk w3 w.heap.size 63 (msA 1 1 4 cn id ⟨#[]⟩) ∧ Tags w3 g ∧ Below w.heap.size w w3) := ⟨HH.out.1.call hb, HH.out.2.1.call hb, below_call HH.out.2.2 hb⟩
      clear hb HK HH
      go_wp2_with fail
      go_roundg 7
      case measure => omega
      case rel => exact ⟨9, by omega, by omega, by omega, by rfl, HH2⟩
    · go_wp2_with fail
      refine (r26hasN 9 g _ HH.out.2.1 ⟨by decide, by decide⟩).mono ?_
      rintro e wq ⟨rfl, rfl⟩
      have HK := Lib.hid HH.out.1
      go_wp2_with (refine wpList_load_rowW rfl 63 (.tmp 1) rfl w.heap.size rfl 63 (msA 1 1 4 cn id ⟨#[]⟩) (0, 0) _ HK.out Tryz.underlying63 rfl (by kernel_rfl) ?_)
      refine (r26zero9 cn id _).mono ?_
      rintro e w3 ⟨rfl, hb⟩
      have HH2 : Hid (Blk w3 w.heap.size 63 (msA 1 1 4 cn id ⟨#[]⟩) ∧ Tags w3 g ∧ Below w.heap.size w w3) := ⟨HH.out.1.call hb, HH.out.2.1.call hb, below_call HH.out.2.2 hb⟩
      clear hb HK HH
      go_wp2_with fail
      go_roundg 6
      case measure => omega
      case rel => exact ⟨10, by omega, by omega, by omega, by rfl, HH2⟩
    · go_wp2_with fail
      refine (r26has10 g _ HH.out.2.1).mono ?_
      rintro e wq ⟨rfl, rfl⟩
      go_wp2_with fail
      go_roundg 5
      case measure => omega
      case rel => exact ⟨11, by omega, by omega, by omega, by rfl, HH⟩
    · go_wp2_with fail
      refine (r26hasN 11 g _ HH.out.2.1 ⟨by decide, by decide⟩).mono ?_
      rintro e wq ⟨rfl, rfl⟩
      have HK := Lib.hid HH.out.1
      go_wp2_with (refine wpList_load_rowW rfl 63 (.tmp 1) rfl w.heap.size rfl 63 (msA 1 1 4 cn id ⟨#[]⟩) (0, 0) _ HK.out Tryz.underlying63 rfl (by kernel_rfl) ?_)
      refine (r26zero11 cn id _).mono ?_
      rintro e w3 ⟨rfl, hb⟩
      have HH2 : Hid (Blk w3 w.heap.size 63 (msA 1 1 4 cn id ⟨#[]⟩) ∧ Tags w3 g ∧ Below w.heap.size w w3) := ⟨HH.out.1.call hb, HH.out.2.1.call hb, below_call HH.out.2.2 hb⟩
      clear hb HK HH
      go_wp2_with fail
      go_roundg 4
      case measure => omega
      case rel => exact ⟨12, by omega, by omega, by omega, by rfl, HH2⟩
    · go_wp2_with fail
      refine (r26hasN 12 g _ HH.out.2.1 ⟨by decide, by decide⟩).mono ?_
      rintro e wq ⟨rfl, rfl⟩
      have HK := Lib.hid HH.out.1
      go_wp2_with (refine wpList_load_rowW rfl 63 (.tmp 1) rfl w.heap.size rfl 63 (msA 1 1 4 cn id ⟨#[]⟩) (0, 0) _ HK.out Tryz.underlying63 rfl (by kernel_rfl) ?_)
      refine (r26zero12 cn id _).mono ?_
      rintro e w3 ⟨rfl, hb⟩
      have HH2 : Hid (Blk w3 w.heap.size 63 (msA 1 1 4 cn id ⟨#[]⟩) ∧ Tags w3 g ∧ Below w.heap.size w w3) := ⟨HH.out.1.call hb, HH.out.2.1.call hb, below_call HH.out.2.2 hb⟩
      clear hb HK HH
      go_wp2_with fail
      go_roundg 3
      case measure => omega
      case rel => exact ⟨13, by omega, by omega, by omega, by rfl, HH2⟩
    · go_wp2_with fail
      refine (r26hasN 13 g _ HH.out.2.1 ⟨by decide, by decide⟩).mono ?_
      rintro e wq ⟨rfl, rfl⟩
      have HK := Lib.hid HH.out.1
      go_wp2_with (refine wpList_load_rowW rfl 63 (.tmp 1) rfl w.heap.size rfl 63 (msA 1 1 4 cn id ⟨#[]⟩) (0, 0) _ HK.out Tryz.underlying63 rfl (by kernel_rfl) ?_)
      refine (r26zero13 cn id _).mono ?_
      rintro e w3 ⟨rfl, hb⟩
      have HH2 : Hid (Blk w3 w.heap.size 63 (msA 1 1 4 cn id ⟨#[]⟩) ∧ Tags w3 g ∧ Below w.heap.size w w3) := ⟨HH.out.1.call hb, HH.out.2.1.call hb, below_call HH.out.2.2 hb⟩
      clear hb HK HH
      go_wp2_with fail
      go_roundg 2
      case measure => omega
      case rel => exact ⟨14, by omega, by omega, by omega, by rfl, HH2⟩
    · go_wp2_with fail
      refine (r26hasN 14 g _ HH.out.2.1 ⟨by decide, by decide⟩).mono ?_
      rintro e wq ⟨rfl, rfl⟩
      have HK := Lib.hid HH.out.1
      go_wp2_with (refine wpList_load_rowW rfl 63 (.tmp 1) rfl w.heap.size rfl 63 (msA 1 1 4 cn id ⟨#[]⟩) (0, 0) _ HK.out Tryz.underlying63 rfl (by kernel_rfl) ?_)
      refine (r26zero14 cn id _).mono ?_
      rintro e w3 ⟨rfl, hb⟩
      have HH2 : Hid (Blk w3 w.heap.size 63 (msA 1 1 4 cn id ⟨#[]⟩) ∧ Tags w3 g ∧ Below w.heap.size w w3) := ⟨HH.out.1.call hb, HH.out.2.1.call hb, below_call HH.out.2.2 hb⟩
      clear hb HK HH
      go_wp2_with fail
      go_roundg 1
      case measure => omega
      case rel => exact ⟨15, by omega, by omega, by omega, by rfl, HH2⟩
    · go_wp2_with fail
      refine (r26hasN 15 g _ HH.out.2.1 ⟨by decide, by decide⟩).mono ?_
      rintro e wq ⟨rfl, rfl⟩
      have HK := Lib.hid HH.out.1
      go_wp2_with (refine wpList_load_rowW rfl 63 (.tmp 1) rfl w.heap.size rfl 63 (msA 1 1 4 cn id ⟨#[]⟩) (0, 0) _ HK.out Tryz.underlying63 rfl (by kernel_rfl) ?_)
      refine (r26zero15 cn id _).mono ?_
      rintro e w3 ⟨rfl, hb⟩
      have HH2 : Hid (Blk w3 w.heap.size 63 (msA 1 1 4 cn id ⟨#[]⟩) ∧ Tags w3 g ∧ Below w.heap.size w w3) := ⟨HH.out.1.call hb, HH.out.2.1.call hb, below_call HH.out.2.2 hb⟩
      clear hb HK HH
      go_wp2_with fail
      go_roundg 0
      case measure => omega
      case rel => exact ⟨16, by omega, by omega, by omega, by rfl, HH2⟩
    · have HK := Lib.hid HH.out.1
      go_wp2_with (refine wpList_load_row rfl 63 (.tmp 1) rfl w.heap.size rfl 63 (msA 1 1 4 cn id ⟨#[]⟩) (0, 0) _ HK.out Tryz.underlying63 rfl (by kernel_rfl) ?_)
      refine (HN.out g _ HH.out.2.1).mono ?_
      rintro e w3 ⟨rfl, hb⟩
      have HH2 : Hid (Blk w3 w.heap.size 63 (msA 1 1 4 cn id ⟨#[]⟩) ∧ Tags w3 g ∧ Below w.heap.size w w3) := ⟨HH.out.1.call hb, HH.out.2.1.call hb, below_call HH.out.2.2 hb⟩
      clear hb HK HH
      have HK := Lib.hid HH2.out.1
      go_wp2_with (refine wpList_load_row rfl 63 (.tmp 1) rfl w.heap.size rfl 63 (msA 1 1 4 cn id ⟨#[]⟩) (0, 0) _ HK.out Tryz.underlying63 rfl (by kernel_rfl) ?_)
      refine (HX.out g _ HH2.out.2.1).mono ?_
      rintro e w4 ⟨rfl, hb⟩
      have HK4 := Lib.hid (HK.out.call hb)
      have HT4 := Lib.hid (HH2.out.2.1.call hb)
      have HB4 := Lib.hid (below_call HH2.out.2.2 hb)
      clear hb HK HH2
      have kc := HK4.out.cell
      go_wp2_with fail
      go_loopg [7] 0 (fun gg s7 wr => s7 = i 0 ∧ wr = w4)
      case atStart => exact ⟨rfl, rfl⟩
      case round =>
        obtain ⟨rfl, rfl⟩ := hrel
        go_wp2_with fail
        refine (r26hasN 14 g _ HT4.out ⟨by decide, by decide⟩).mono ?_
        rintro e wq ⟨rfl, rfl⟩
        go_wp2_with fail
        go_loopg [9] 0 (fun gg s9 ws => s9 = i 0 ∧ ws = wr)
        case atStart => exact ⟨rfl, rfl⟩
        case round =>
          obtain ⟨rfl, rfl⟩ := hrel
          go_wp2_with fail
          go_ret
          exact ⟨rfl, HB4.out⟩
/-- 'append(v, y...)', v empty, y reads as one message. -/
theorem wpList_growMA {ops : Array Oper} {rest : List Oper} {o : Oper} {a : Act} {w : World} {Q : Exit → Act → World → Prop} (hgd : o.guard = none) (s xo : Operand) (ho : o.op = .call { callee := .builtin .append, args := #[s, xo], argTypes := #[35, 35] })
    (v y : Value) (x : Ms) (base : Nat) (hs : a.eval s = v) (hv : Own MsR 63 25 base w v []) (hx : a.eval xo = y) (hy : MsAt w y [x]) (hbase : base ≤ w.heap.size)
    (h : ∀ v' w', Own MsR 63 25 base w' v' [x] → w.grownBy w' v.ownBlock → Below base w w' → wpList Tryz.prog ops Q rest (a.put o.dst v') w') : wpList Tryz.prog ops Q (o :: rest) a w := by
  obtain ⟨iM, hMi, hMz, hMs, hMb⟩ := info_parts infoMs
  obtain ⟨A, c, rfl, -, -⟩ := SliceAt.form hy
  obtain ⟨b, off, r, rfl, hr, hR, hrow⟩ := SliceAt.at_ hy (j := 0) (by simp)
  have hrr : r = (msO x).toList := hR
  subst hrr
  obtain ⟨rs, k1, k2⟩ := hv
  have hrs : rs = [] := List.eq_nil_of_length_eq_zero k2.1
  subst hrs
  refine wpList_append_own w hgd s xo 35 ho base 63 iM _ 25 280 Tryz.underlying35 hMi hMz hMs hMb rfl (by omega) v 0 [] hs k1 ⟨b, off, none⟩ 1 c (msO x).toList hx rfl (fun j u hu => ?_) (o1_Ms x) (by unfold maxLen; omega) (by omega) hbase ?_
  · have := hrow j u hu
    rw [Addr.add_lit]
    simpa using this
  · intro v' w' hown hg _
    have hk : ∀ k, v.ownBlock = some k → base ≤ k := fun k hk => (k1.lt k hk).1
    exact h v' w' ⟨[(msO x).toList], by simpa using hown, rows_snoc' rows_nil rfl rfl⟩ hg ((Below.refl _ _).grown hg hbase hk)
/-- 'append(nil, y...)', y empty. -/
theorem wpList_append0 {ops : Array Oper} {rest : List Oper} {o : Oper} {a : Act} {w : World} {Q : Exit → Act → World → Prop} (hgd : o.guard = none) (s xo : Operand) (ho : o.op = .call { callee := .builtin .append, args := #[s, xo], argTypes := #[35, 35] })
    (A : Option Addr) (c : Nat) (hs : a.eval s = .slice none 0 0) (hx : a.eval xo = .slice A 0 c) (hA : A = none → c = 0)
    (h : ∀ v' w', Own MsR 63 25 w.heap.size w' v' [] → Below w.heap.size w w' → wpList Tryz.prog ops Q rest (a.put o.dst v') w') : wpList Tryz.prog ops Q (o :: rest) a w := by
  obtain ⟨iM, hMi, hMz, hMs, hMb⟩ := info_parts infoMs
  have k1 : w.ownsRow w.heap.size 63 25 (.slice none 0 0) 0 [] := World.ownsRow_nil _ _ _ _
  have fin : ∀ v' w', w'.ownsRow w.heap.size 63 25 v' (0 + 0) ([] ++ []) → w.grownBy w' none → wpList Tryz.prog ops Q rest (a.put o.dst v') w' := fun v' w' ho hg =>
    h v' w' ⟨[], ho, rows_nil⟩ ((Below.refl _ _).grown hg (Nat.le_refl _) (fun k hk => by cases hk))
  cases A with
  | none =>
    obtain rfl := hA rfl
    refine wpList_append_own_none hgd s xo 35 ho w.heap.size 63 iM 25 Tryz.underlying35 hMi (.slice none 0 0) 0 [] hs k1 hx ?_
    exact fin _ _ (by simpa using k1) (World.grownBy.refl _ _)
  | some ad =>
    refine wpList_append_own w hgd s xo 35 ho w.heap.size 63 iM _ 25 280 Tryz.underlying35 hMi hMz hMs hMb rfl (by omega) (.slice none 0 0) 0 [] hs k1 ad 0 c [] hx rfl (fun j u hu => by simp at hu) (fun u hu => by simp at hu) (by unfold maxLen; omega) (by omega) (Nat.le_refl _) ?_
    intro v' w' ho hg _
    exact fin v' w' ho hg

set_option maxRecDepth 100000 in
set_option maxHeartbeats 4000000 in
theorem r27calls (cn : Int) (id : ByteArray) (q t : Value) (AO : Option Addr) (cO : Nat) (w : World) (hq : MsAt w q [⟨1, 1, 4, cn, id, ⟨#[]⟩⟩]) (hA : AO = none → cO = 0) : Calls Tryz.prog 47 #[.agg (enA 2 3 2 q (.slice AO 0 cO) 0 0 t)] w fun e w' => ∃ u, e = .returned u ∧ Own MsR 63 25 w.heap.size w' u [⟨1, 1, 4, cn, id, ⟨#[]⟩⟩] ∧ Below w.heap.size w w' := by
  have HB := Lib.hid (below_new w (.cells (enA 2 3 2 q (.slice AO 0 cO) 0 0 t) 37))
  have HK := Lib.hid (Blk.new w 37 (enA 2 3 2 q (.slice AO 0 cO) 0 0 t))
  have HQ := Lib.hid (fun W (hb : Below w.heap.size w W) => MsAt.call hq hb)
  have HA := Lib.hid hA
  clear hq hA
  go_enter Tryz.func47, Tryz.ntmps47
  go_upto_region 1 with (fail)
  generalize w.alloc (.cells _ 37) = w1 at *
  have kc := HK.out.cell
  go_wp2_with (at_builtin; refine wpList_append0 rfl (.tmp 4) (.tmp 6) rfl AO cO rfl rfl HA.out ?_)
  intro v1 w2 hown hb
  have HO := Lib.hid (Own.lower hown HB.out.size)
  have HB2 := Lib.hid (below_call HB.out hb)
  have HK2 := Lib.hid (HK.out.call hb)
  obtain ⟨A1, n1, c1, rfl⟩ := own_sl hown
  have HQ2 := Lib.hid (HQ.out w2 HB2.out)
  obtain ⟨A2, c2, rfl, -, -⟩ := SliceAt.form HQ2.out
  clear hown hb kc HB HK
  have kc := HK2.out.cell
  go_wp2_with (at_builtin; refine wpList_growMA rfl (.tmp 8) (.tmp 10) rfl _ _ ⟨1, 1, 4, cn, id, ⟨#[]⟩⟩ w.heap.size rfl HO.out rfl HQ2.out HB2.out.size ?_)
  intro v2 w3 hown hg hbel
  have HX : Hid (Own MsR 63 25 w.heap.size w3 v2 [⟨1, 1, 4, cn, id, ⟨#[]⟩⟩] ∧ Below w.heap.size w w3) := ⟨hown, HB2.out.trans hbel⟩
  clear hown hg hbel kc
  go_wp2_with fail
  go_ret
  exact ⟨v2, rfl, HX.out.1, HX.out.2⟩

set_option maxRecDepth 100000 in
set_option maxHeartbeats 4000000 in
theorem r27valid (cn : Int) (id : ByteArray) (AQ AO AS : Option Addr) (cQ cO cS : Nat) (w : World) (hc : 1 ≤ cn ∧ cn ≤ 32) (ht : IdW.identOk id = true) (hs : id.size ≤ maxLen) (hq : MsAt w (.slice AQ 1 cQ) [⟨1, 1, 4, cn, id, ⟨#[]⟩⟩]) (hA : AO = none → cO = 0) :
    Calls Tryz.prog 12 #[.agg (enA 2 3 2 (.slice AQ 1 cQ) (.slice AO 0 cO) 0 0 (.slice AS 0 cS))] w fun e w' => e = .returned (i 0) ∧ Below w.heap.size w w' := by
  have HB := Lib.hid (below_new w (.cells (enA 2 3 2 (.slice AQ 1 cQ) (.slice AO 0 cO) 0 0 (.slice AS 0 cS)) 37))
  have HK := Lib.hid (Blk.new w 37 (enA 2 3 2 (.slice AQ 1 cQ) (.slice AO 0 cO) 0 0 (.slice AS 0 cS)))
  have HC : Hid (∀ W, Below w.heap.size w W → _) := fun W hb => r27calls cn id (.slice AQ 1 cQ) (.slice AS 0 cS) AO cO W (MsAt.call hq hb) hA
  have HV : Hid (∀ W, _) := fun W => r26valid cn id W hc ht hs
  clear hq hA hc ht hs
  go_enter Tryz.func12, Tryz.ntmps12
  go_upto_region 1 with (fail)
  generalize w.alloc (.cells _ 37) = w1 at *
  have kc := HK.out.cell
  go_upto_region 9 with (fail)
  clear kc
  go_wp2_with (refine wpList_load_row rfl 37 (.tmp 1) rfl w.heap.size rfl 37 (enA 2 3 2 (.slice AQ 1 cQ) (.slice AO 0 cO) 0 0 (.slice AS 0 cS)) (0, 0) _ HK.out Tryz.underlying37 rfl (by kernel_rfl) ?_)
  refine (HC.out w1 HB.out).mono ?_
  rintro e w2 ⟨u, rfl, hu, hb⟩
  obtain ⟨b, c, rfl, -, -⟩ := own_one hu
  have HRW : Hid (∀ W, Below w2.heap.size w2 W → W.rangeAt b 0 (msO ⟨1, 1, 4, cn, id, ⟨#[]⟩⟩).toList) := fun W hbw => by
    have hx : MsAt W (.slice (some ⟨b, 0, none⟩) 1 c) [⟨1, 1, 4, cn, id, ⟨#[]⟩⟩] := Own.at_ (hu.call hbw) (by omega)
    obtain ⟨x, o, r, e, hr, hR, hrow⟩ := SliceAt.at_ hx (j := 0) (by simp)
    obtain ⟨rfl, rfl⟩ : b = x ∧ 0 = o := by simpa using e
    have hrr : r = (msO ⟨1, 1, 4, cn, id, ⟨#[]⟩⟩).toList := hR
    subst hrr
    intro j v hj
    simpa using hrow j v hj
  have HB2 := Lib.hid (below_call HB.out hb)
  have HK2 := Lib.hid (HK.out.call hb)
  clear hu hb HB HK HC
  go_wp2_with fail
  go_loopg [4] 1 (fun gg s4 wr => ∃ kk : Nat, kk ≤ 1 ∧ 1 - kk ≤ gg ∧ s4 = i kk ∧ Hid (Below w2.heap.size w2 wr))
  case atStart => exact ⟨0, by omega, by omega, rfl, Below.refl _ _⟩
  case round =>
    obtain ⟨kk, hkk, hg, rfl, HBR⟩ := hrel
    rcases (show kk = 0 ∨ kk = 1 by omega) with rfl | rfl
    · go_wp2_with (refine wpList_load_mid rfl 63 (.tmp 103) rfl b 0 rfl (msO ⟨1, 1, 4, cn, id, ⟨#[]⟩⟩).toList _ (HRW.out _ HBR.out) Tryz.underlying63 rfl (by kernel_rfl) ?_)
      refine (HV.out wr).mono ?_
      rintro e w5 ⟨rfl, hb⟩
      have HB5 := Lib.hid (below_call HBR.out hb)
      have HK5 := Lib.hid (HK2.out.call HB5.out)
      have HRQ : Hid (∀ W, Below w5.heap.size w5 W → W.cell? ⟨b, 0, none⟩ = some (i 1) ∧ W.cell? ⟨b, 1, none⟩ = some (i 1)) := fun W hbw => by
        have hr := HRW.out W (below_call HB5.out hbw)
        exact ⟨by simpa using hr 0 _ rfl, by simpa using hr 1 _ rfl⟩
      clear hb HBR
      go_upto_region 16 with (fail)
      go_cut [142] (fun s142 wd => s142 = .bool false ∧ Hid (Below w5.heap.size w5 wd))
      case first =>
        refine RegG.region 34 (fun k => match k with | 0 => some (.slice (some ⟨b, 0, none⟩) 1 c) | 1 => some (i 0) | 2 => some (.pointer (some ⟨b, 0, none⟩)) | 3 => some (.pointer (some ⟨b, 0, none⟩)) | 4 => some (i 1) | 5 => some (.bool false) | 6 => some (.bool false) | 7 => some (.slice (some ⟨b, 0, none⟩) 1 c) | 8 => some (i 0) | 9 => some (.pointer (some ⟨b, 0, none⟩)) | 10 => some (.pointer (some ⟨b, 1, none⟩)) | 11 => some (i 1) | 12 => some (.pointer (some ⟨w.heap.size, 0, none⟩)) | 13 => some (i 2) | 14 => some (.bool false) | 15 => some (.bool false) | 16 => some (.bool false) | 17 => some (i 0) | 18 => some (.bool false) | 19 => some (.bool false) | 20 => some (undef) | 21 => some (undef) | 22 => some (undef) | 23 => some (undef) | 24 => some (undef) | 25 => some (undef) | 26 => some (undef) | 27 => some (undef) | 28 => some (undef) | 29 => some (undef) | 30 => some (undef) | 31 => some (undef) | 32 => some (.bool false) | 33 => some (.bool false) | _ => none) (by kernel_rfl) (by kernel_rfl) (Reg4.in_of (n := 186) (by kernel_rfl) rfl) ?_ ?_ ?_ ?_
        · intro idx o hj ho
          have hj' : idx = 0 ∨ idx = 1 ∨ idx = 2 ∨ idx = 3 ∨ idx = 4 ∨ idx = 5 ∨ idx = 6 ∨ idx = 7 ∨ idx = 8 ∨ idx = 9 ∨ idx = 10 ∨ idx = 11 ∨ idx = 12 ∨ idx = 13 ∨ idx = 14 ∨ idx = 15 ∨ idx = 16 ∨ idx = 17 ∨ idx = 18 ∨ idx = 19 ∨ idx = 20 ∨ idx = 21 ∨ idx = 22 ∨ idx = 23 ∨ idx = 24 ∨ idx = 25 ∨ idx = 26 ∨ idx = 27 ∨ idx = 28 ∨ idx = 29 ∨ idx = 30 ∨ idx = 31 ∨ idx = 32 ∨ idx = 33 := by omega
          clear hj
          rcases hj' with rfl | rfl | rfl | rfl | rfl | rfl | rfl | rfl | rfl | rfl | rfl | rfl | rfl | rfl | rfl | rfl | rfl | rfl | rfl | rfl | rfl | rfl | rfl | rfl | rfl | rfl | rfl | rfl | rfl | rfl | rfl | rfl | rfl | rfl
          · obtain rfl := Option.some.inj ho
            refine .inr (fun a' w' hG hop => ?_)
            have h3 : a'.tmps[3]?.getD undef = _ := (Array.getD_eq_getD_getElem? ..).symm.trans (hop 3 (by simp [Op.operands, Call.operands]))
            refine Reg4.StepOk.mono (R := fun v W => v = .slice (some ⟨b, 0, none⟩) 1 c ∧ W = w') ?_ (fun v W h => ?_)
            · go_simp
              all_goals (try exact ⟨rfl, rfl⟩)
            · obtain ⟨rfl, rfl⟩ := h
              exact ⟨fun x hx => Option.some.inj hx, Below.refl _ _⟩
          · obtain rfl := Option.some.inj ho
            refine .inr (fun a' w' hG hop => ?_)
            have h4 : a'.tmps[4]?.getD undef = _ := (Array.getD_eq_getD_getElem? ..).symm.trans (hop 4 (by simp [Op.operands, Call.operands]))
            refine Reg4.StepOk.mono (R := fun v W => v = i 0 ∧ W = w') ?_ (fun v W h => ?_)
            · go_simp
              all_goals (try exact ⟨rfl, rfl⟩)
            · obtain ⟨rfl, rfl⟩ := h
              exact ⟨fun x hx => Option.some.inj hx, Below.refl _ _⟩
          · obtain rfl := Option.some.inj ho
            refine .inr (fun a' w' hG hop => ?_)
            have h109 : a'.tmps[109]?.getD undef = .slice (some ⟨b, 0, none⟩) 1 c := (Array.getD_eq_getD_getElem? ..).symm.trans (hop 109 (by simp [Op.operands, Call.operands]) _ rfl)
            have h110 : a'.tmps[110]?.getD undef = i 0 := (Array.getD_eq_getD_getElem? ..).symm.trans (hop 110 (by simp [Op.operands, Call.operands]) _ rfl)
            refine Reg4.StepOk.mono (R := fun v W => v = .pointer (some ⟨b, 0, none⟩) ∧ W = w') ?_ (fun v W h => ?_)
            · go_simp
              all_goals (try exact ⟨rfl, rfl⟩)
            · obtain ⟨rfl, rfl⟩ := h
              exact ⟨fun x hx => Option.some.inj hx, Below.refl _ _⟩
          · obtain rfl := Option.some.inj ho
            refine .inr (fun a' w' hG hop => ?_)
            have h111 : a'.tmps[111]?.getD undef = .pointer (some ⟨b, 0, none⟩) := (Array.getD_eq_getD_getElem? ..).symm.trans (hop 111 (by simp [Op.operands, Call.operands]) _ rfl)
            refine Reg4.StepOk.mono (R := fun v W => v = .pointer (some ⟨b, 0, none⟩) ∧ W = w') ?_ (fun v W h => ?_)
            · go_simp
              all_goals (try exact ⟨rfl, rfl⟩)
            · obtain ⟨rfl, rfl⟩ := h
              exact ⟨fun x hx => Option.some.inj hx, Below.refl _ _⟩
          · obtain rfl := Option.some.inj ho
            refine .inr (fun a' w' hG hop => ?_)
            have h112 : a'.tmps[112]?.getD undef = .pointer (some ⟨b, 0, none⟩) := (Array.getD_eq_getD_getElem? ..).symm.trans (hop 112 (by simp [Op.operands, Call.operands]) _ rfl)
            obtain ⟨q0, q1⟩ := HRQ.out _ hG
            refine Reg4.StepOk.mono (R := fun v W => v = i 1 ∧ W = w') ?_ (fun v W h => ?_)
            · go_simp
              all_goals (try exact ⟨rfl, rfl⟩)
            · obtain ⟨rfl, rfl⟩ := h
              exact ⟨fun x hx => Option.some.inj hx, Below.refl _ _⟩
          · obtain rfl := Option.some.inj ho
            refine .inr (fun a' w' hG hop => ?_)
            have h113 : a'.tmps[113]?.getD undef = i 1 := (Array.getD_eq_getD_getElem? ..).symm.trans (hop 113 (by simp [Op.operands, Call.operands]) _ rfl)
            refine Reg4.StepOk.mono (R := fun v W => v = .bool false ∧ W = w') ?_ (fun v W h => ?_)
            · go_simp
              all_goals (try exact ⟨rfl, rfl⟩)
            · obtain ⟨rfl, rfl⟩ := h
              exact ⟨fun x hx => Option.some.inj hx, Below.refl _ _⟩
          · obtain rfl := Option.some.inj ho
            refine .inr (fun a' w' hG hop => ?_)
            have h114 : a'.tmps[114]?.getD undef = .bool false := (Array.getD_eq_getD_getElem? ..).symm.trans (hop 114 (by simp [Op.operands, Call.operands]) _ rfl)
            refine Reg4.StepOk.mono (R := fun v W => v = .bool false ∧ W = w') ?_ (fun v W h => ?_)
            · go_simp
              all_goals (try exact ⟨rfl, rfl⟩)
            · obtain ⟨rfl, rfl⟩ := h
              exact ⟨fun x hx => Option.some.inj hx, Below.refl _ _⟩
          · obtain rfl := Option.some.inj ho
            refine .inr (fun a' w' hG hop => ?_)
            have h3 : a'.tmps[3]?.getD undef = _ := (Array.getD_eq_getD_getElem? ..).symm.trans (hop 3 (by simp [Op.operands, Call.operands]))
            refine Reg4.StepOk.mono (R := fun v W => v = .slice (some ⟨b, 0, none⟩) 1 c ∧ W = w') ?_ (fun v W h => ?_)
            · go_simp
              all_goals (try exact ⟨rfl, rfl⟩)
            · obtain ⟨rfl, rfl⟩ := h
              exact ⟨fun x hx => Option.some.inj hx, Below.refl _ _⟩
          · obtain rfl := Option.some.inj ho
            refine .inr (fun a' w' hG hop => ?_)
            have h4 : a'.tmps[4]?.getD undef = _ := (Array.getD_eq_getD_getElem? ..).symm.trans (hop 4 (by simp [Op.operands, Call.operands]))
            refine Reg4.StepOk.mono (R := fun v W => v = i 0 ∧ W = w') ?_ (fun v W h => ?_)
            · go_simp
              all_goals (try exact ⟨rfl, rfl⟩)
            · obtain ⟨rfl, rfl⟩ := h
              exact ⟨fun x hx => Option.some.inj hx, Below.refl _ _⟩
          · obtain rfl := Option.some.inj ho
            refine .inr (fun a' w' hG hop => ?_)
            have h116 : a'.tmps[116]?.getD undef = .slice (some ⟨b, 0, none⟩) 1 c := (Array.getD_eq_getD_getElem? ..).symm.trans (hop 116 (by simp [Op.operands, Call.operands]) _ rfl)
            have h117 : a'.tmps[117]?.getD undef = i 0 := (Array.getD_eq_getD_getElem? ..).symm.trans (hop 117 (by simp [Op.operands, Call.operands]) _ rfl)
            refine Reg4.StepOk.mono (R := fun v W => v = .pointer (some ⟨b, 0, none⟩) ∧ W = w') ?_ (fun v W h => ?_)
            · go_simp
              all_goals (try exact ⟨rfl, rfl⟩)
            · obtain ⟨rfl, rfl⟩ := h
              exact ⟨fun x hx => Option.some.inj hx, Below.refl _ _⟩
          · obtain rfl := Option.some.inj ho
            refine .inr (fun a' w' hG hop => ?_)
            have h118 : a'.tmps[118]?.getD undef = .pointer (some ⟨b, 0, none⟩) := (Array.getD_eq_getD_getElem? ..).symm.trans (hop 118 (by simp [Op.operands, Call.operands]) _ rfl)
            refine Reg4.StepOk.mono (R := fun v W => v = .pointer (some ⟨b, 1, none⟩) ∧ W = w') ?_ (fun v W h => ?_)
            · go_simp
              all_goals (try exact ⟨rfl, rfl⟩)
            · obtain ⟨rfl, rfl⟩ := h
              exact ⟨fun x hx => Option.some.inj hx, Below.refl _ _⟩
          · obtain rfl := Option.some.inj ho
            refine .inr (fun a' w' hG hop => ?_)
            have h119 : a'.tmps[119]?.getD undef = .pointer (some ⟨b, 1, none⟩) := (Array.getD_eq_getD_getElem? ..).symm.trans (hop 119 (by simp [Op.operands, Call.operands]) _ rfl)
            obtain ⟨q0, q1⟩ := HRQ.out _ hG
            refine Reg4.StepOk.mono (R := fun v W => v = i 1 ∧ W = w') ?_ (fun v W h => ?_)
            · go_simp
              all_goals (try exact ⟨rfl, rfl⟩)
            · obtain ⟨rfl, rfl⟩ := h
              exact ⟨fun x hx => Option.some.inj hx, Below.refl _ _⟩
          · obtain rfl := Option.some.inj ho
            refine .inr (fun a' w' hG hop => ?_)
            have h1 : a'.tmps[1]?.getD undef = _ := (Array.getD_eq_getD_getElem? ..).symm.trans (hop 1 (by simp [Op.operands, Call.operands]))
            refine Reg4.StepOk.mono (R := fun v W => v = .pointer (some ⟨w.heap.size, 0, none⟩) ∧ W = w') ?_ (fun v W h => ?_)
            · go_simp
              all_goals (try exact ⟨rfl, rfl⟩)
            · obtain ⟨rfl, rfl⟩ := h
              exact ⟨fun x hx => Option.some.inj hx, Below.refl _ _⟩
          · obtain rfl := Option.some.inj ho
            refine .inr (fun a' w' hG hop => ?_)
            have h121 : a'.tmps[121]?.getD undef = .pointer (some ⟨w.heap.size, 0, none⟩) := (Array.getD_eq_getD_getElem? ..).symm.trans (hop 121 (by simp [Op.operands, Call.operands]) _ rfl)
            have ke := (HK5.out.call hG).cell 0
            refine Reg4.StepOk.mono (R := fun v W => v = i 2 ∧ W = w') ?_ (fun v W h => ?_)
            · go_simp
              all_goals (try exact ⟨rfl, rfl⟩)
            · obtain ⟨rfl, rfl⟩ := h
              exact ⟨fun x hx => Option.some.inj hx, Below.refl _ _⟩
          · obtain rfl := Option.some.inj ho
            refine .inr (fun a' w' hG hop => ?_)
            have h120 : a'.tmps[120]?.getD undef = i 1 := (Array.getD_eq_getD_getElem? ..).symm.trans (hop 120 (by simp [Op.operands, Call.operands]) _ rfl)
            have h122 : a'.tmps[122]?.getD undef = i 2 := (Array.getD_eq_getD_getElem? ..).symm.trans (hop 122 (by simp [Op.operands, Call.operands]) _ rfl)
            refine Reg4.StepOk.mono (R := fun v W => v = .bool false ∧ W = w') ?_ (fun v W h => ?_)
            · go_simp
              all_goals (try exact ⟨rfl, rfl⟩)
            · obtain ⟨rfl, rfl⟩ := h
              exact ⟨fun x hx => Option.some.inj hx, Below.refl _ _⟩
          · obtain rfl := Option.some.inj ho
            refine .inr (fun a' w' hG hop => ?_)
            have h115 : a'.tmps[115]?.getD undef = .bool false := (Array.getD_eq_getD_getElem? ..).symm.trans (hop 115 (by simp [Op.operands, Call.operands]) _ rfl)
            have h123 : a'.tmps[123]?.getD undef = .bool false := (Array.getD_eq_getD_getElem? ..).symm.trans (hop 123 (by simp [Op.operands, Call.operands]) _ rfl)
            refine Reg4.StepOk.mono (R := fun v W => v = .bool false ∧ W = w') ?_ (fun v W h => ?_)
            · go_simp
              all_goals (try exact ⟨rfl, rfl⟩)
            · obtain ⟨rfl, rfl⟩ := h
              exact ⟨fun x hx => Option.some.inj hx, Below.refl _ _⟩
          · obtain rfl := Option.some.inj ho
            refine .inr (fun a' w' hG hop => ?_)
            have h124 : a'.tmps[124]?.getD undef = .bool false := (Array.getD_eq_getD_getElem? ..).symm.trans (hop 124 (by simp [Op.operands, Call.operands]) _ rfl)
            refine Reg4.StepOk.mono (R := fun v W => v = .bool false ∧ W = w') ?_ (fun v W h => ?_)
            · go_simp
              all_goals (try exact ⟨rfl, rfl⟩)
            · obtain ⟨rfl, rfl⟩ := h
              exact ⟨fun x hx => Option.some.inj hx, Below.refl _ _⟩
          · obtain rfl := Option.some.inj ho
            refine .inr (fun a' w' hG hop => ?_)
            have h4 : a'.tmps[4]?.getD undef = _ := (Array.getD_eq_getD_getElem? ..).symm.trans (hop 4 (by simp [Op.operands, Call.operands]))
            refine Reg4.StepOk.mono (R := fun v W => v = i 0 ∧ W = w') ?_ (fun v W h => ?_)
            · go_simp
              all_goals (try exact ⟨rfl, rfl⟩)
            · obtain ⟨rfl, rfl⟩ := h
              exact ⟨fun x hx => Option.some.inj hx, Below.refl _ _⟩
          · obtain rfl := Option.some.inj ho
            refine .inr (fun a' w' hG hop => ?_)
            have h126 : a'.tmps[126]?.getD undef = i 0 := (Array.getD_eq_getD_getElem? ..).symm.trans (hop 126 (by simp [Op.operands, Call.operands]) _ rfl)
            refine Reg4.StepOk.mono (R := fun v W => v = .bool false ∧ W = w') ?_ (fun v W h => ?_)
            · go_simp
              all_goals (try exact ⟨rfl, rfl⟩)
            · obtain ⟨rfl, rfl⟩ := h
              exact ⟨fun x hx => Option.some.inj hx, Below.refl _ _⟩
          · obtain rfl := Option.some.inj ho
            refine .inr (fun a' w' hG hop => ?_)
            have h127 : a'.tmps[127]?.getD undef = .bool false := (Array.getD_eq_getD_getElem? ..).symm.trans (hop 127 (by simp [Op.operands, Call.operands]) _ rfl)
            refine Reg4.StepOk.mono (R := fun v W => v = .bool false ∧ W = w') ?_ (fun v W h => ?_)
            · go_simp
              all_goals (try exact ⟨rfl, rfl⟩)
            · obtain ⟨rfl, rfl⟩ := h
              exact ⟨fun x hx => Option.some.inj hx, Below.refl _ _⟩
          · obtain rfl := Option.some.inj ho
            exact .inl ⟨19, true, rfl, ⟨false, rfl, by decide⟩, fun x hx => (Option.some.inj hx).symm⟩
          · obtain rfl := Option.some.inj ho
            exact .inl ⟨19, true, rfl, ⟨false, rfl, by decide⟩, fun x hx => (Option.some.inj hx).symm⟩
          · obtain rfl := Option.some.inj ho
            exact .inl ⟨19, true, rfl, ⟨false, rfl, by decide⟩, fun x hx => (Option.some.inj hx).symm⟩
          · obtain rfl := Option.some.inj ho
            exact .inl ⟨19, true, rfl, ⟨false, rfl, by decide⟩, fun x hx => (Option.some.inj hx).symm⟩
          · obtain rfl := Option.some.inj ho
            exact .inl ⟨19, true, rfl, ⟨false, rfl, by decide⟩, fun x hx => (Option.some.inj hx).symm⟩
          · obtain rfl := Option.some.inj ho
            exact .inl ⟨19, true, rfl, ⟨false, rfl, by decide⟩, fun x hx => (Option.some.inj hx).symm⟩
          · obtain rfl := Option.some.inj ho
            exact .inl ⟨19, true, rfl, ⟨false, rfl, by decide⟩, fun x hx => (Option.some.inj hx).symm⟩
          · obtain rfl := Option.some.inj ho
            exact .inl ⟨19, true, rfl, ⟨false, rfl, by decide⟩, fun x hx => (Option.some.inj hx).symm⟩
          · obtain rfl := Option.some.inj ho
            exact .inl ⟨19, true, rfl, ⟨false, rfl, by decide⟩, fun x hx => (Option.some.inj hx).symm⟩
          · obtain rfl := Option.some.inj ho
            exact .inl ⟨19, true, rfl, ⟨false, rfl, by decide⟩, fun x hx => (Option.some.inj hx).symm⟩
          · obtain rfl := Option.some.inj ho
            exact .inl ⟨19, true, rfl, ⟨false, rfl, by decide⟩, fun x hx => (Option.some.inj hx).symm⟩
          · obtain rfl := Option.some.inj ho
            exact .inl ⟨19, true, rfl, ⟨false, rfl, by decide⟩, fun x hx => (Option.some.inj hx).symm⟩
          · obtain rfl := Option.some.inj ho
            refine .inr (fun a' w' hG hop => ?_)
            have h128 : a'.tmps[128]?.getD undef = .bool false := (Array.getD_eq_getD_getElem? ..).symm.trans (hop 128 (by simp [Op.operands, Call.operands]) _ rfl)
            have h140 : a'.tmps[140]?.getD undef = undef := (Array.getD_eq_getD_getElem? ..).symm.trans (hop 140 (by simp [Op.operands, Call.operands]) _ rfl)
            refine Reg4.StepOk.mono (R := fun v W => v = .bool false ∧ W = w') ?_ (fun v W h => ?_)
            · go_simp
              all_goals (try exact ⟨rfl, rfl⟩)
            · obtain ⟨rfl, rfl⟩ := h
              exact ⟨fun x hx => Option.some.inj hx, Below.refl _ _⟩
          · obtain rfl := Option.some.inj ho
            refine .inr (fun a' w' hG hop => ?_)
            have h125 : a'.tmps[125]?.getD undef = .bool false := (Array.getD_eq_getD_getElem? ..).symm.trans (hop 125 (by simp [Op.operands, Call.operands]) _ rfl)
            have h141 : a'.tmps[141]?.getD undef = .bool false := (Array.getD_eq_getD_getElem? ..).symm.trans (hop 141 (by simp [Op.operands, Call.operands]) _ rfl)
            refine Reg4.StepOk.mono (R := fun v W => v = .bool false ∧ W = w') ?_ (fun v W h => ?_)
            · go_simp
              all_goals (try exact ⟨rfl, rfl⟩)
            · obtain ⟨rfl, rfl⟩ := h
              exact ⟨fun x hx => Option.some.inj hx, Below.refl _ _⟩
        · intro idx o hj ho j b hg
          have hj' : idx = 0 ∨ idx = 1 ∨ idx = 2 ∨ idx = 3 ∨ idx = 4 ∨ idx = 5 ∨ idx = 6 ∨ idx = 7 ∨ idx = 8 ∨ idx = 9 ∨ idx = 10 ∨ idx = 11 ∨ idx = 12 ∨ idx = 13 ∨ idx = 14 ∨ idx = 15 ∨ idx = 16 ∨ idx = 17 ∨ idx = 18 ∨ idx = 19 ∨ idx = 20 ∨ idx = 21 ∨ idx = 22 ∨ idx = 23 ∨ idx = 24 ∨ idx = 25 ∨ idx = 26 ∨ idx = 27 ∨ idx = 28 ∨ idx = 29 ∨ idx = 30 ∨ idx = 31 ∨ idx = 32 ∨ idx = 33 := by omega
          clear hj
          rcases hj' with rfl | rfl | rfl | rfl | rfl | rfl | rfl | rfl | rfl | rfl | rfl | rfl | rfl | rfl | rfl | rfl | rfl | rfl | rfl | rfl | rfl | rfl | rfl | rfl | rfl | rfl | rfl | rfl | rfl | rfl | rfl | rfl | rfl | rfl
          · obtain rfl := Option.some.inj ho
            cases hg
          · obtain rfl := Option.some.inj ho
            cases hg
          · obtain rfl := Option.some.inj ho
            cases hg
          · obtain rfl := Option.some.inj ho
            cases hg
          · obtain rfl := Option.some.inj ho
            cases hg
          · obtain rfl := Option.some.inj ho
            cases hg
          · obtain rfl := Option.some.inj ho
            cases hg
          · obtain rfl := Option.some.inj ho
            obtain ⟨rfl, rfl⟩ := Prod.mk.inj (Option.some.inj hg)
            exact ⟨_, rfl⟩
          · obtain rfl := Option.some.inj ho
            obtain ⟨rfl, rfl⟩ := Prod.mk.inj (Option.some.inj hg)
            exact ⟨_, rfl⟩
          · obtain rfl := Option.some.inj ho
            obtain ⟨rfl, rfl⟩ := Prod.mk.inj (Option.some.inj hg)
            exact ⟨_, rfl⟩
          · obtain rfl := Option.some.inj ho
            obtain ⟨rfl, rfl⟩ := Prod.mk.inj (Option.some.inj hg)
            exact ⟨_, rfl⟩
          · obtain rfl := Option.some.inj ho
            obtain ⟨rfl, rfl⟩ := Prod.mk.inj (Option.some.inj hg)
            exact ⟨_, rfl⟩
          · obtain rfl := Option.some.inj ho
            obtain ⟨rfl, rfl⟩ := Prod.mk.inj (Option.some.inj hg)
            exact ⟨_, rfl⟩
          · obtain rfl := Option.some.inj ho
            obtain ⟨rfl, rfl⟩ := Prod.mk.inj (Option.some.inj hg)
            exact ⟨_, rfl⟩
          · obtain rfl := Option.some.inj ho
            obtain ⟨rfl, rfl⟩ := Prod.mk.inj (Option.some.inj hg)
            exact ⟨_, rfl⟩
          · obtain rfl := Option.some.inj ho
            cases hg
          · obtain rfl := Option.some.inj ho
            cases hg
          · obtain rfl := Option.some.inj ho
            obtain ⟨rfl, rfl⟩ := Prod.mk.inj (Option.some.inj hg)
            exact ⟨_, rfl⟩
          · obtain rfl := Option.some.inj ho
            obtain ⟨rfl, rfl⟩ := Prod.mk.inj (Option.some.inj hg)
            exact ⟨_, rfl⟩
          · obtain rfl := Option.some.inj ho
            obtain ⟨rfl, rfl⟩ := Prod.mk.inj (Option.some.inj hg)
            exact ⟨_, rfl⟩
          · obtain rfl := Option.some.inj ho
            obtain ⟨rfl, rfl⟩ := Prod.mk.inj (Option.some.inj hg)
            exact ⟨_, rfl⟩
          · obtain rfl := Option.some.inj ho
            obtain ⟨rfl, rfl⟩ := Prod.mk.inj (Option.some.inj hg)
            exact ⟨_, rfl⟩
          · obtain rfl := Option.some.inj ho
            obtain ⟨rfl, rfl⟩ := Prod.mk.inj (Option.some.inj hg)
            exact ⟨_, rfl⟩
          · obtain rfl := Option.some.inj ho
            obtain ⟨rfl, rfl⟩ := Prod.mk.inj (Option.some.inj hg)
            exact ⟨_, rfl⟩
          · obtain rfl := Option.some.inj ho
            obtain ⟨rfl, rfl⟩ := Prod.mk.inj (Option.some.inj hg)
            exact ⟨_, rfl⟩
          · obtain rfl := Option.some.inj ho
            obtain ⟨rfl, rfl⟩ := Prod.mk.inj (Option.some.inj hg)
            exact ⟨_, rfl⟩
          · obtain rfl := Option.some.inj ho
            obtain ⟨rfl, rfl⟩ := Prod.mk.inj (Option.some.inj hg)
            exact ⟨_, rfl⟩
          · obtain rfl := Option.some.inj ho
            obtain ⟨rfl, rfl⟩ := Prod.mk.inj (Option.some.inj hg)
            exact ⟨_, rfl⟩
          · obtain rfl := Option.some.inj ho
            obtain ⟨rfl, rfl⟩ := Prod.mk.inj (Option.some.inj hg)
            exact ⟨_, rfl⟩
          · obtain rfl := Option.some.inj ho
            obtain ⟨rfl, rfl⟩ := Prod.mk.inj (Option.some.inj hg)
            exact ⟨_, rfl⟩
          · obtain rfl := Option.some.inj ho
            obtain ⟨rfl, rfl⟩ := Prod.mk.inj (Option.some.inj hg)
            exact ⟨_, rfl⟩
          · obtain rfl := Option.some.inj ho
            obtain ⟨rfl, rfl⟩ := Prod.mk.inj (Option.some.inj hg)
            exact ⟨_, rfl⟩
          · obtain rfl := Option.some.inj ho
            obtain ⟨rfl, rfl⟩ := Prod.mk.inj (Option.some.inj hg)
            exact ⟨_, rfl⟩
          · obtain rfl := Option.some.inj ho
            cases hg
        · intro idx o hj ho j b hg hk x hx
          have hj' : idx = 0 ∨ idx = 1 ∨ idx = 2 ∨ idx = 3 ∨ idx = 4 ∨ idx = 5 ∨ idx = 6 ∨ idx = 7 ∨ idx = 8 ∨ idx = 9 ∨ idx = 10 ∨ idx = 11 ∨ idx = 12 ∨ idx = 13 ∨ idx = 14 ∨ idx = 15 ∨ idx = 16 ∨ idx = 17 ∨ idx = 18 ∨ idx = 19 ∨ idx = 20 ∨ idx = 21 ∨ idx = 22 ∨ idx = 23 ∨ idx = 24 ∨ idx = 25 ∨ idx = 26 ∨ idx = 27 ∨ idx = 28 ∨ idx = 29 ∨ idx = 30 ∨ idx = 31 ∨ idx = 32 ∨ idx = 33 := by omega
          clear hj
          rcases hj' with rfl | rfl | rfl | rfl | rfl | rfl | rfl | rfl | rfl | rfl | rfl | rfl | rfl | rfl | rfl | rfl | rfl | rfl | rfl | rfl | rfl | rfl | rfl | rfl | rfl | rfl | rfl | rfl | rfl | rfl | rfl | rfl | rfl | rfl
          · obtain rfl := Option.some.inj ho
            cases hg
          · obtain rfl := Option.some.inj ho
            cases hg
          · obtain rfl := Option.some.inj ho
            cases hg
          · obtain rfl := Option.some.inj ho
            cases hg
          · obtain rfl := Option.some.inj ho
            cases hg
          · obtain rfl := Option.some.inj ho
            cases hg
          · obtain rfl := Option.some.inj ho
            cases hg
          · obtain rfl := Option.some.inj ho
            obtain ⟨rfl, rfl⟩ := Prod.mk.inj (Option.some.inj hg)
            cases hk
          · obtain rfl := Option.some.inj ho
            obtain ⟨rfl, rfl⟩ := Prod.mk.inj (Option.some.inj hg)
            cases hk
          · obtain rfl := Option.some.inj ho
            obtain ⟨rfl, rfl⟩ := Prod.mk.inj (Option.some.inj hg)
            cases hk
          · obtain rfl := Option.some.inj ho
            obtain ⟨rfl, rfl⟩ := Prod.mk.inj (Option.some.inj hg)
            cases hk
          · obtain rfl := Option.some.inj ho
            obtain ⟨rfl, rfl⟩ := Prod.mk.inj (Option.some.inj hg)
            cases hk
          · obtain rfl := Option.some.inj ho
            obtain ⟨rfl, rfl⟩ := Prod.mk.inj (Option.some.inj hg)
            cases hk
          · obtain rfl := Option.some.inj ho
            obtain ⟨rfl, rfl⟩ := Prod.mk.inj (Option.some.inj hg)
            cases hk
          · obtain rfl := Option.some.inj ho
            obtain ⟨rfl, rfl⟩ := Prod.mk.inj (Option.some.inj hg)
            cases hk
          · obtain rfl := Option.some.inj ho
            cases hg
          · obtain rfl := Option.some.inj ho
            cases hg
          · obtain rfl := Option.some.inj ho
            obtain ⟨rfl, rfl⟩ := Prod.mk.inj (Option.some.inj hg)
            cases hk
          · obtain rfl := Option.some.inj ho
            obtain ⟨rfl, rfl⟩ := Prod.mk.inj (Option.some.inj hg)
            cases hk
          · obtain rfl := Option.some.inj ho
            obtain ⟨rfl, rfl⟩ := Prod.mk.inj (Option.some.inj hg)
            cases hk
          · obtain rfl := Option.some.inj ho
            exact (Option.some.inj hx).symm
          · obtain rfl := Option.some.inj ho
            exact (Option.some.inj hx).symm
          · obtain rfl := Option.some.inj ho
            exact (Option.some.inj hx).symm
          · obtain rfl := Option.some.inj ho
            exact (Option.some.inj hx).symm
          · obtain rfl := Option.some.inj ho
            exact (Option.some.inj hx).symm
          · obtain rfl := Option.some.inj ho
            exact (Option.some.inj hx).symm
          · obtain rfl := Option.some.inj ho
            exact (Option.some.inj hx).symm
          · obtain rfl := Option.some.inj ho
            exact (Option.some.inj hx).symm
          · obtain rfl := Option.some.inj ho
            exact (Option.some.inj hx).symm
          · obtain rfl := Option.some.inj ho
            exact (Option.some.inj hx).symm
          · obtain rfl := Option.some.inj ho
            exact (Option.some.inj hx).symm
          · obtain rfl := Option.some.inj ho
            exact (Option.some.inj hx).symm
          · obtain rfl := Option.some.inj ho
            obtain ⟨rfl, rfl⟩ := Prod.mk.inj (Option.some.inj hg)
            cases hk
          · obtain rfl := Option.some.inj ho
            cases hg
        · intro vals w' hG hv
          have hv0 : vals 0 = .slice (some ⟨b, 0, none⟩) 1 c := hv 0 _ (by omega) rfl
          have hv1 : vals 1 = i 0 := hv 1 _ (by omega) rfl
          have hv2 : vals 2 = .pointer (some ⟨b, 0, none⟩) := hv 2 _ (by omega) rfl
          have hv3 : vals 3 = .pointer (some ⟨b, 0, none⟩) := hv 3 _ (by omega) rfl
          have hv4 : vals 4 = i 1 := hv 4 _ (by omega) rfl
          have hv5 : vals 5 = .bool false := hv 5 _ (by omega) rfl
          have hv6 : vals 6 = .bool false := hv 6 _ (by omega) rfl
          have hv7 : vals 7 = .slice (some ⟨b, 0, none⟩) 1 c := hv 7 _ (by omega) rfl
          have hv8 : vals 8 = i 0 := hv 8 _ (by omega) rfl
          have hv9 : vals 9 = .pointer (some ⟨b, 0, none⟩) := hv 9 _ (by omega) rfl
          have hv10 : vals 10 = .pointer (some ⟨b, 1, none⟩) := hv 10 _ (by omega) rfl
          have hv11 : vals 11 = i 1 := hv 11 _ (by omega) rfl
          have hv12 : vals 12 = .pointer (some ⟨w.heap.size, 0, none⟩) := hv 12 _ (by omega) rfl
          have hv13 : vals 13 = i 2 := hv 13 _ (by omega) rfl
          have hv14 : vals 14 = .bool false := hv 14 _ (by omega) rfl
          have hv15 : vals 15 = .bool false := hv 15 _ (by omega) rfl
          have hv16 : vals 16 = .bool false := hv 16 _ (by omega) rfl
          have hv17 : vals 17 = i 0 := hv 17 _ (by omega) rfl
          have hv18 : vals 18 = .bool false := hv 18 _ (by omega) rfl
          have hv19 : vals 19 = .bool false := hv 19 _ (by omega) rfl
          have hv20 : vals 20 = undef := hv 20 _ (by omega) rfl
          have hv21 : vals 21 = undef := hv 21 _ (by omega) rfl
          have hv22 : vals 22 = undef := hv 22 _ (by omega) rfl
          have hv23 : vals 23 = undef := hv 23 _ (by omega) rfl
          have hv24 : vals 24 = undef := hv 24 _ (by omega) rfl
          have hv25 : vals 25 = undef := hv 25 _ (by omega) rfl
          have hv26 : vals 26 = undef := hv 26 _ (by omega) rfl
          have hv27 : vals 27 = undef := hv 27 _ (by omega) rfl
          have hv28 : vals 28 = undef := hv 28 _ (by omega) rfl
          have hv29 : vals 29 = undef := hv 29 _ (by omega) rfl
          have hv30 : vals 30 = undef := hv 30 _ (by omega) rfl
          have hv31 : vals 31 = undef := hv 31 _ (by omega) rfl
          have hv32 : vals 32 = .bool false := hv 32 _ (by omega) rfl
          have hv33 : vals 33 = .bool false := hv 33 _ (by omega) rfl
          simp only [Reg4.puts, Reg4.dstOf, List.range, List.range.loop, if_true, List.drop_succ_cons, List.drop_zero, hv0, hv1, hv2, hv3, hv4, hv5, hv6, hv7, hv8, hv9, hv10, hv11, hv12, hv13, hv14, hv15, hv16, hv17, hv18, hv19, hv20, hv21, hv22, hv23, hv24, hv25, hv26, hv27, hv28, hv29, hv30, hv31, hv32, hv33]
          clear hv hv0 hv1 hv2 hv3 hv4 hv5 hv6 hv7 hv8 hv9 hv10 hv11 hv12 hv13 hv14 hv15 hv16 hv17 hv18 hv19 hv20 hv21 hv22 hv23 hv24 hv25 hv26 hv27 hv28 hv29 hv30 hv31 hv32 hv33
          simp [Act.put]
          go_wp2_with fail
          go_meet
          exact ⟨rfl, hG⟩
      case rest =>
        obtain ⟨rfl, HBC⟩ := hcut
        have HB6 := Lib.hid (below_call HB5.out HBC.out)
        clear HB5 HBC HK5 HRQ
        go_wp2_with fail
        go_roundg 0
        case measure => omega
        case rel => exact ⟨1, by omega, by omega, by rfl, HB6⟩
    · have HK6 := Lib.hid (HK2.out.call HBR.out)
      have kc := HK6.out.cell
      have HB6 := Lib.hid (below_call HB2.out HBR.out)
      go_wp2_with fail
      go_loopg [6] 0 (fun gg s6 ws => s6 = i 0 ∧ ws = wr)
      case atStart => exact ⟨rfl, rfl⟩
      case round =>
        obtain ⟨rfl, rfl⟩ := hrel
        go_wp2_with fail
        go_ret
        exact ⟨rfl, HB6.out⟩


end Stn
end Go.Proofs.YtfaofobhmmedmaaGreatDoor
