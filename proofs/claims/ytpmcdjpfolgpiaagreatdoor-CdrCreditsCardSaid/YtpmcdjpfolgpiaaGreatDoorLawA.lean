/-
  The walk of the statement CdrCredits.
-/
import Derived.Test.YtpmcdjpfolgpiaaGreatDoorCdrU
import Derived.Test.YtpmcdjpfolgpiaaGreatDoorCdrX
namespace Go.Proofs.YtpmcdjpfolgpiaaGreatDoor
namespace Ex
set_option linter.unusedSimpArgs false
set_option linter.unusedVariables false
open Go.RowKit TarW Usg UsgW Prc PriW Cdr MonW CdrW EncW

set_option maxRecDepth 100000 in
set_option maxHeartbeats 4000000 in
theorem law_credits (c : CDR) (A : Option Addr) (n k : Nat) (id : ByteArray) (w : World) (ht : CalW.Tab w) (ho : c.ok) (hi : ItmsAt w (.slice A n k) c.items) (hz : id.size ≤ maxLen) :
    Calls Tryz.prog 5 #[.agg (cdrA c (.slice A n k)), .string id] w (LawPost w) := by
  have hB := below_new w (.cells (cdrA c (.slice A n k)) 24)
  have HS := Lib.hid (short c A n k _ ho (ItmsAt.call hi hB))
  obtain ⟨D, E, hR⟩ : ∃ D E, creditR c id = (D, E) := ⟨_, _, rfl⟩
  have HC : Hid (∀ W, Below w.heap.size w W → Calls Tryz.prog 16 #[.agg (cdrA c (.slice A n k)), .string id] W (MakePost (D, E) W)) := fun W hb => by
    have := credit c id A n k W ho (ItmsAt.call hi hb) hz
    rw [hR] at this
    exact this
  have HR : Hid (∀ W, Below w.heap.size w W → Calls Tryz.prog 17 #[.agg (cdrA c (.slice A n k)), .string id] W (MakePost (D, E) W)) := fun W hb => by
    have := rcredit c id A n k W ho (ItmsAt.call hi hb) hz
    rw [hR] at this
    exact this
  have HEX := Lib.hid (fun W (hb : Below w.heap.size w W) => example_holds W (ht.below hb ht.lt))
  have HB := Lib.hid hB
  have HK := Lib.hid (cdr_new w c (.slice A n k))
  clear hR hB ht ho hi
  unfold maxLen at hz
  go_enter Tryz.func5, Tryz.ntmps5
  go_wp2_with fail
  refine HS.out.mono ?_
  rintro e w1 ⟨b, rfl, -, hb1⟩
  have HB1 := Lib.hid (below_call HB.out hb1)
  have HK1 := Lib.hid (HK.out.call hb1)
  have kc := HK1.out.cell
  clear hb1 HB HS HK
  cases b
  case false =>
    go_wp2_with fail
    refine (HEX.out _ HB1.out).mono ?_
    rintro e w2 ⟨rfl, hb2⟩
    go_wp2_with fail
    go_ret
    exact ⟨rfl, below_call HB1.out hb2⟩
  by_cases hl : 200 < id.size
  · have hlz : (200 : Int) < (id.size : Int) := by omega
    go_wp2_with fail
    refine (HEX.out _ HB1.out).mono ?_
    rintro e w2 ⟨rfl, hb2⟩
    go_wp2_with fail
    go_ret
    exact ⟨rfl, below_call HB1.out hb2⟩
  have hlz : ¬ (200 : Int) < (id.size : Int) := by omega
  go_wp2_with fail
  refine (HC.out _ HB1.out).mono ?_
  rintro e w2 ⟨u, rfl, hI2, hb2⟩
  obtain ⟨A2, k2, rfl, _, _⟩ := SliceAt.form hI2
  have HI2 : Hid (ItmsAt w2 (.slice A2 D.items.length k2) D.items) := hI2
  have HB2 := Lib.hid (below_call HB1.out hb2)
  have HK2 := Lib.hid (HK1.out.call hb2)
  clear hI2 hb2 kc HK1 HB1
  go_upto_region 4 with (fail)
  have HB3 := Lib.hid (below_alloc HB2.out (.cells (cdrA D (.slice A2 D.items.length k2)) 24))
  have HK3 := Lib.hid (HK2.out.alloc (.cells (cdrA D (.slice A2 D.items.length k2)) 24))
  have HD3 := Lib.hid (Blk.new w2 24 (cdrA D (.slice A2 D.items.length k2)))
  have HI3 := Lib.hid (ItmsAt.call HI2.out (below_new w2 (.cells (cdrA D (.slice A2 D.items.length k2)) 24)))
  generalize w2.alloc (.cells (cdrA D (.slice A2 D.items.length k2)) 24) = w3 at *
  have kc := HK3.out.cell
  clear HB2 HK2 HI2
  go_wp2_with fail
  refine (HR.out _ HB3.out).mono ?_
  rintro e w4 ⟨u, rfl, hI4, hb4⟩
  obtain ⟨A4, k4, rfl, _, _⟩ := SliceAt.form hI4
  have HI4 : Hid (ItmsAt w4 (.slice A4 D.items.length k4) D.items) := hI4
  have HB4 := Lib.hid (below_call HB3.out hb4)
  have HD4 := Lib.hid (HD3.out.call hb4)
  have HJ4 := Lib.hid (ItmsAt.call HI3.out hb4)
  clear hI4 hb4 kc HK3 HB3 HD3 HI3
  go_upto_region 5 with (fail)
  have HB5 := Lib.hid (below_alloc HB4.out (.cells (cdrA D (.slice A4 D.items.length k4)) 24))
  have HD5 := Lib.hid (HD4.out.alloc (.cells (cdrA D (.slice A4 D.items.length k4)) 24))
  have HF5 := Lib.hid (Blk.new w4 24 (cdrA D (.slice A4 D.items.length k4)))
  have HS5 := Lib.hid (same D (.slice A2 D.items.length k2) (.slice A4 D.items.length k4) _ (ItmsAt.call HJ4.out (below_new w4 (.cells (cdrA D (.slice A4 D.items.length k4)) 24))) (ItmsAt.call HI4.out (below_new w4 (.cells (cdrA D (.slice A4 D.items.length k4)) 24))))
  generalize w4.alloc (.cells (cdrA D (.slice A4 D.items.length k4)) 24) = w5 at *
  have kd := HD5.out.cell
  have kf := HF5.out.cell
  clear HB4 HI4 HD4 HJ4
  go_wp2_with fail
  refine HS5.out.mono ?_
  rintro e w6 ⟨rfl, hb6⟩
  have HB6 := Lib.hid (below_call HB5.out hb6)
  clear hb6 kd kf
  go_wp2_with fail
  refine (HEX.out _ HB6.out).mono ?_
  rintro e w7 ⟨rfl, hb7⟩
  go_wp2_with fail
  go_ret
  exact ⟨rfl, below_call HB6.out hb7⟩
end Ex
end Go.Proofs.YtpmcdjpfolgpiaaGreatDoor
