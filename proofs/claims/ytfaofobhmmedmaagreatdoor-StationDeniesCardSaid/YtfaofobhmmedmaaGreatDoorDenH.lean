/-
  Present on any connector and identifier; the walk of StationDenies.
-/
import Derived.Test.YtfaofobhmmedmaaGreatDoorDenG
import Derived.Test.YtfaofobhmmedmaaGreatDoorStnH
namespace Go.Proofs.YtfaofobhmmedmaaGreatDoor
namespace Stn
set_option linter.unusedSimpArgs false
set_option linter.unusedVariables false
open Go.RowKit Go.Great

/-- What Present answers: an error and the station, or the station with one call queued. -/
def PresR (b : Bool) (conn : Int) (id : ByteArray) (l : Sl) (w : World) (e : Ending) (w' : World) : Prop :=
  (∃ E : Int, E ≠ 0 ∧ e = .returned (.tuple #[.agg (stA (dS cnG cnG b 5) l), i E]) ∧ Below w.heap.size w w') ∨
  (b = true ∧ IdW.identOk id = true ∧ 1 ≤ conn ∧ conn ≤ 32 ∧ ∃ l' q o t, e = .returned (.tuple #[.agg (stA { dS cnG cnG true 5 with nx := 2 } { l' with Q := q, O := o, S := t }), i 0]) ∧ StAt w' (dS cnG cnG true 5) l' ∧ MsAt w' q [⟨1, 1, 4, conn, id, ⟨#[]⟩⟩] ∧ MsAt w' o [] ∧ MsAt w' t [] ∧ Below w.heap.size w w' ∧ (stA { dS cnG cnG true 5 with nx := 2 } { l' with Q := q, O := o, S := t }).all (·.oneCell') = true)

set_option maxRecDepth 100000 in
set_option maxHeartbeats 4000000 in
theorem presentNo (b : Bool) (conn : Int) (l : Sl) (id : ByteArray) (w : World) (h : StAt w (dS cnG cnG b 5) l) (hc : conn < 1 ∨ 2 < conn) :
    Calls Tryz.prog 11 #[.agg (stA (dS cnG cnG b 5) l), i conn, .string id] w (PresR b conn id l w) := by
  have HO : Hid (∀ W, Below w.heap.size w W → _) := fun W hb => openNo cnG cnG b 5 conn l W (h.call hb) hc
  obtain ⟨AC, cC, AM, cM, AT, cT, AOV, cOV, ALM, cLM, ASH, cSH, rfl⟩ := formsD h
  clear h
  have HS := Lib.hid ((Blk.new w 43 (stA (dS cnG cnG b 5) ⟨.slice AC 2 cC, .slice AM 2 cM, .slice AT 2 cT, .slice none 0 0, .slice none 0 0, .slice none 0 0, .slice none 0 0, .slice none 0 0, .slice none 0 0, .slice none 0 0, .slice none 0 0, .slice AOV 2 cOV, .slice ALM 2 cLM, .slice ASH 2 cSH⟩)).alloc (.cells zA 43))
  have HR := Lib.hid (Blk.new (w.alloc (.cells (stA (dS cnG cnG b 5) ⟨.slice AC 2 cC, .slice AM 2 cM, .slice AT 2 cT, .slice none 0 0, .slice none 0 0, .slice none 0 0, .slice none 0 0, .slice none 0 0, .slice none 0 0, .slice none 0 0, .slice none 0 0, .slice AOV 2 cOV, .slice ALM 2 cLM, .slice ASH 2 cSH⟩) 43)) 43 zA)
  have HB := Lib.hid (below_alloc (below_new w (.cells (stA (dS cnG cnG b 5) ⟨.slice AC 2 cC, .slice AM 2 cM, .slice AT 2 cT, .slice none 0 0, .slice none 0 0, .slice none 0 0, .slice none 0 0, .slice none 0 0, .slice none 0 0, .slice none 0 0, .slice none 0 0, .slice AOV 2 cOV, .slice ALM 2 cLM, .slice ASH 2 cSH⟩) 43)) (.cells zA 43))
  have hs1 : (w.alloc (.cells (stA (dS cnG cnG b 5) ⟨.slice AC 2 cC, .slice AM 2 cM, .slice AT 2 cT, .slice none 0 0, .slice none 0 0, .slice none 0 0, .slice none 0 0, .slice none 0 0, .slice none 0 0, .slice none 0 0, .slice none 0 0, .slice AOV 2 cOV, .slice ALM 2 cLM, .slice ASH 2 cSH⟩) 43)).heap.size = w.heap.size + 1 := by simp
  rw [hs1] at HR
  clear hs1
  go_enter Tryz.func11, Tryz.ntmps11
  go_upto_region 1 with (fail)
  generalize (w.alloc (.cells _ 43)).alloc (.cells _ 43) = w1 at *
  go_wp2_with (refine wpList_load_row rfl 43 (.tmp 3) rfl w.heap.size rfl 43 (stA (dS cnG cnG b 5) ⟨.slice AC 2 cC, .slice AM 2 cM, .slice AT 2 cT, .slice none 0 0, .slice none 0 0, .slice none 0 0, .slice none 0 0, .slice none 0 0, .slice none 0 0, .slice none 0 0, .slice none 0 0, .slice AOV 2 cOV, .slice ALM 2 cLM, .slice ASH 2 cSH⟩) (0, 0) _ HS.out Tryz.underlying43 rfl (by kernel_rfl) ?_)
  refine (HO.out w1 HB.out).mono ?_
  rintro e w2 ⟨rfl, hb⟩
  have HS2 := Lib.hid (HS.out.call hb)
  have HR2 := Lib.hid (HR.out.call hb)
  have HB2 := Lib.hid (below_call HB.out hb)
  clear hb HS HR HB HO hc
  go_wp2_with (first
    | (refine wpList_load_row rfl 43 (.tmp 3) rfl w.heap.size rfl 43 (stA (dS cnG cnG b 5) ⟨.slice AC 2 cC, .slice AM 2 cM, .slice AT 2 cT, .slice none 0 0, .slice none 0 0, .slice none 0 0, .slice none 0 0, .slice none 0 0, .slice none 0 0, .slice none 0 0, .slice none 0 0, .slice AOV 2 cOV, .slice ALM 2 cLM, .slice ASH 2 cSH⟩) (0, 0) _ HS2.out Tryz.underlying43 rfl (by kernel_rfl) ?_)
    | (refine wpList_store_rowTo rfl 43 (.tmp 6) (.tmp 20) rfl rfl (w.heap.size + 1) (stA (dS cnG cnG b 5) ⟨.slice AC 2 cC, .slice AM 2 cM, .slice AT 2 cT, .slice none 0 0, .slice none 0 0, .slice none 0 0, .slice none 0 0, .slice none 0 0, .slice none 0 0, .slice none 0 0, .slice none 0 0, .slice AOV 2 cOV, .slice ALM 2 cLM, .slice ASH 2 cSH⟩) (by kernel_rfl) (by kernel_rfl) 43 zA HR2.out (by kernel_rfl) (by kernel_rfl) (by kernel_rfl) ?_))
  refine bodyPost_ret (results_cell2 rfl _ _ (w.heap.size + 1) 43 (stA (dS cnG cnG b 5) ⟨.slice AC 2 cC, .slice AM 2 cM, .slice AT 2 cT, .slice none 0 0, .slice none 0 0, .slice none 0 0, .slice none 0 0, .slice none 0 0, .slice none 0 0, .slice none 0 0, .slice none 0 0, .slice AOV 2 cOV, .slice ALM 2 cLM, .slice ASH 2 cSH⟩) (0, 0) _ rfl (row_blk _ HR2.out) Tryz.underlying43 rfl (by kernel_rfl)) rfl ?_
  exact .inl ⟨2, by decide, rfl, row_below _ HB2.out (by omega)⟩

set_option maxRecDepth 100000 in
set_option maxHeartbeats 4000000 in
theorem presentBad (b : Bool) (conn : Int) (l : Sl) (id : ByteArray) (w : World) (h : StAt w (dS cnG cnG b 5) l) (hc : 1 ≤ conn ∧ conn ≤ 2) (ht : IdW.identOk id = false) (hs : id.size ≤ maxLen) :
    Calls Tryz.prog 11 #[.agg (stA (dS cnG cnG b 5) l), i conn, .string id] w (PresR b conn id l w) := by
  have HO : Hid (∀ W, Below w.heap.size w W → _) := fun W hb => openYes cnG cnG b 5 conn l W (h.call hb) hc
  have HI : Hid (∀ W, Calls Tryz.prog 41 #[.string id] W fun e w' => e = .returned (.bool false) ∧ Below W.heap.size W w') := fun W => by
    have := IdW.valid_ id W hs
    rw [ht] at this
    exact this
  clear ht hs
  obtain ⟨AC, cC, AM, cM, AT, cT, AOV, cOV, ALM, cLM, ASH, cSH, rfl⟩ := formsD h
  clear h
  have HS := Lib.hid ((Blk.new w 43 (stA (dS cnG cnG b 5) ⟨.slice AC 2 cC, .slice AM 2 cM, .slice AT 2 cT, .slice none 0 0, .slice none 0 0, .slice none 0 0, .slice none 0 0, .slice none 0 0, .slice none 0 0, .slice none 0 0, .slice none 0 0, .slice AOV 2 cOV, .slice ALM 2 cLM, .slice ASH 2 cSH⟩)).alloc (.cells zA 43))
  have HR := Lib.hid (Blk.new (w.alloc (.cells (stA (dS cnG cnG b 5) ⟨.slice AC 2 cC, .slice AM 2 cM, .slice AT 2 cT, .slice none 0 0, .slice none 0 0, .slice none 0 0, .slice none 0 0, .slice none 0 0, .slice none 0 0, .slice none 0 0, .slice none 0 0, .slice AOV 2 cOV, .slice ALM 2 cLM, .slice ASH 2 cSH⟩) 43)) 43 zA)
  have HB := Lib.hid (below_alloc (below_new w (.cells (stA (dS cnG cnG b 5) ⟨.slice AC 2 cC, .slice AM 2 cM, .slice AT 2 cT, .slice none 0 0, .slice none 0 0, .slice none 0 0, .slice none 0 0, .slice none 0 0, .slice none 0 0, .slice none 0 0, .slice none 0 0, .slice AOV 2 cOV, .slice ALM 2 cLM, .slice ASH 2 cSH⟩) 43)) (.cells zA 43))
  have hs1 : (w.alloc (.cells (stA (dS cnG cnG b 5) ⟨.slice AC 2 cC, .slice AM 2 cM, .slice AT 2 cT, .slice none 0 0, .slice none 0 0, .slice none 0 0, .slice none 0 0, .slice none 0 0, .slice none 0 0, .slice none 0 0, .slice none 0 0, .slice AOV 2 cOV, .slice ALM 2 cLM, .slice ASH 2 cSH⟩) 43)).heap.size = w.heap.size + 1 := by simp
  rw [hs1] at HR
  clear hs1
  go_enter Tryz.func11, Tryz.ntmps11
  go_upto_region 1 with (fail)
  generalize (w.alloc (.cells _ 43)).alloc (.cells _ 43) = w1 at *
  go_wp2_with (refine wpList_load_row rfl 43 (.tmp 3) rfl w.heap.size rfl 43 (stA (dS cnG cnG b 5) ⟨.slice AC 2 cC, .slice AM 2 cM, .slice AT 2 cT, .slice none 0 0, .slice none 0 0, .slice none 0 0, .slice none 0 0, .slice none 0 0, .slice none 0 0, .slice none 0 0, .slice none 0 0, .slice AOV 2 cOV, .slice ALM 2 cLM, .slice ASH 2 cSH⟩) (0, 0) _ HS.out Tryz.underlying43 rfl (by kernel_rfl) ?_)
  refine (HO.out w1 HB.out).mono ?_
  rintro e w2 ⟨g, l', rfl, hu, hg, hb⟩
  have HS2 := Lib.hid (HS.out.call hb)
  have HR2 := Lib.hid (HR.out.call hb)
  have HB2 := Lib.hid (below_call HB.out hb)
  clear hu hg hb HS HR HB HO hc
  go_wp2_with fail
  refine (HI.out _).mono ?_
  rintro e w3 ⟨rfl, hb⟩
  have HS3 := Lib.hid (HS2.out.call hb)
  have HR3 := Lib.hid (HR2.out.call hb)
  have HB3 := Lib.hid (below_call HB2.out hb)
  clear hb HS2 HR2 HB2 HI
  go_wp2_with (first
    | (refine wpList_load_row rfl 43 (.tmp 3) rfl w.heap.size rfl 43 (stA (dS cnG cnG b 5) ⟨.slice AC 2 cC, .slice AM 2 cM, .slice AT 2 cT, .slice none 0 0, .slice none 0 0, .slice none 0 0, .slice none 0 0, .slice none 0 0, .slice none 0 0, .slice none 0 0, .slice none 0 0, .slice AOV 2 cOV, .slice ALM 2 cLM, .slice ASH 2 cSH⟩) (0, 0) _ HS3.out Tryz.underlying43 rfl (by kernel_rfl) ?_)
    | (refine wpList_store_rowTo rfl 43 (.tmp 6) (.tmp 25) rfl rfl (w.heap.size + 1) (stA (dS cnG cnG b 5) ⟨.slice AC 2 cC, .slice AM 2 cM, .slice AT 2 cT, .slice none 0 0, .slice none 0 0, .slice none 0 0, .slice none 0 0, .slice none 0 0, .slice none 0 0, .slice none 0 0, .slice none 0 0, .slice AOV 2 cOV, .slice ALM 2 cLM, .slice ASH 2 cSH⟩) (by kernel_rfl) (by kernel_rfl) 43 zA HR3.out (by kernel_rfl) (by kernel_rfl) (by kernel_rfl) ?_))
  refine bodyPost_ret (results_cell2 rfl _ _ (w.heap.size + 1) 43 (stA (dS cnG cnG b 5) ⟨.slice AC 2 cC, .slice AM 2 cM, .slice AT 2 cT, .slice none 0 0, .slice none 0 0, .slice none 0 0, .slice none 0 0, .slice none 0 0, .slice none 0 0, .slice none 0 0, .slice none 0 0, .slice AOV 2 cOV, .slice ALM 2 cLM, .slice ASH 2 cSH⟩) (0, 0) _ rfl (row_blk _ HR3.out) Tryz.underlying43 rfl (by kernel_rfl)) rfl ?_
  exact .inl ⟨4, by decide, rfl, row_below _ HB3.out (by omega)⟩

theorem presentAll (b : Bool) (conn : Int) (l : Sl) (id : ByteArray) (w : World) (h : StAt w (dS cnG cnG b 5) l) (hs : id.size ≤ maxLen) :
    Calls Tryz.prog 11 #[.agg (stA (dS cnG cnG b 5) l), i conn, .string id] w (PresR b conn id l w) := by
  by_cases hc : conn < 1 ∨ 2 < conn
  · exact presentNo b conn l id w h hc
  have hc2 : 1 ≤ conn ∧ conn ≤ 2 := by omega
  cases ht : IdW.identOk id with
  | false => exact presentBad b conn l id w h hc2 ht hs
  | true =>
    rcases (show conn = 1 ∨ conn = 2 by omega) with rfl | rfl
    · cases b with
      | false =>
        refine (present1false l id w h ht hs).mono ?_
        rintro e w' ⟨rfl, hb⟩
        exact .inl ⟨15, by decide, rfl, hb⟩
      | true =>
        refine (present1true l id w h ht hs).mono ?_
        intro e w' hp
        exact .inr ⟨rfl, ht, by omega, by omega, hp⟩
    · cases b with
      | false =>
        refine (present2false l id w h ht hs).mono ?_
        rintro e w' ⟨rfl, hb⟩
        exact .inl ⟨15, by decide, rfl, hb⟩
      | true =>
        refine (present2true l id w h ht hs).mono ?_
        intro e w' hp
        exact .inr ⟨rfl, ht, by omega, by omega, hp⟩


end Stn
end Go.Proofs.YtfaofobhmmedmaaGreatDoor
