/-
  The walks of safe.New and of station.validName, and of the reference's safe.New.
-/
import Derived.Test.YtfaofobhmmedmaaGreatDoorStnS
import Derived.Test.YtfaofobhmmedmaaGreatDoorIdnS
import Derived.Great.BuildSlice
import Derived.Laws.OwnMore
import Derived.Laws.CopyOwn
namespace Go.Proofs.YtfaofobhmmedmaaGreatDoor
namespace Stn
set_option linter.unusedSimpArgs false
set_option linter.unusedVariables false
open Go.RowKit Go.Great

theorem row_blk {w : World} {g : Nat} {t : TypeId} {old : Array Value} (cs : Array Value) (h : Blk w g t old) : Blk (w.setRow g cs) g t cs := setRow_heap w g old cs t (0, 0) h
theorem row_other {w : World} {g g' : Nat} {t : TypeId} {cs : Array Value} (cs' : Array Value) (h : Blk w g' t cs) (hg : g' ≠ g) : Blk (w.setRow g cs') g' t cs := (setRow_other w g g' cs' hg).trans h
theorem row_below {s0 : Nat} {a w : World} {g : Nat} (cs : Array Value) (h : Below s0 a w) (hg : s0 ≤ g) : Below s0 a (w.setRow g cs) := below_setRow h hg cs
/-- One operation of a list, its run given. -/
theorem listRun {P : Program} {ops : Array Oper} {rest : List Oper} {o : Oper} {a : Act} {w w' : World} {Q : Exit → Act → World → Prop} (hg : o.guard = none) (v : Value)
    (hrun : (execOp a.eval o).run P w = .ok (.value v) w') (h : wpList P ops Q rest (a.put o.dst v) w') : wpList P ops Q (o :: rest) a w := by
  have hw : Region.wanted o (yielded ops a.tmps) = true := by simp [Region.wanted, hg]
  unfold wpList
  rw [if_pos hw]
  unfold Oper.wp
  rw [hrun]
  exact .inl h
theorem below_none {w w' : World} (h : w.grownBy w' none) : Below w.heap.size w w' := (Below.refl _ _).grown h (Nat.le_refl _) (fun k hk => by cases hk)
theorem row_grown (w : World) (g : Nat) (cs : Array Value) : w.grownBy (w.setRow g cs) (some g) :=
  ⟨rfl, rfl, rfl, by rw [setRow_size]; exact Nat.le_refl _, fun k _ hk => setRow_other w g k cs (fun e => hk (by rw [e]))⟩
theorem Own.row_keep {α : Type} {R : List Value → α → Prop} {e : TypeId} {size base g : Nat} {w : World} {v : Value} {xs : List α} (h : Own R e size base w v xs) (hg : g < base) (cs : Array Value) : Own R e size base (w.setRow g cs) v xs := by
  obtain ⟨rs, h1, h2⟩ := h
  refine ⟨rs, h1.kept (row_grown w g cs) (.inr fun e => ?_), h2⟩
  have := (h1.lt g e).1
  omega
theorem ints_made {base : Nat} {w : World} {v : Value} {n : Nat} (h : w.ownsRow base 3 1 v n (madeCells #[Value.int .i64 0] n).toList) : Own InR 3 1 base w v (List.replicate n 0) := own_made (z := .int .i64 0) (x := (0 : Int)) (by omega) rfl rfl (by rw [Nat.mul_one]; exact h)

set_option maxRecDepth 100000 in
set_option maxHeartbeats 1000000 in
theorem safeNew (n : Nat) (w : World) (h1 : 1 ≤ n) (h2 : n ≤ 8) : Calls Tryz.prog 22 #[i n, i 30, i 2000] w fun e w' => ∃ q, e = .returned (.tuple #[.agg #[i 0, i 30, i 2000, .slice (some ⟨q, 0, none⟩) n n], i 0]) ∧ Own InR 3 1 w.heap.size w' (.slice (some ⟨q, 0, none⟩) n n) (List.replicate n 0) ∧ Below w.heap.size w w' := by
  obtain ⟨i0, hi0, hz0, hz1, hz2⟩ := info_parts infoI
  have g1 : ¬ (n : Int) < 1 := by omega
  have g2 : ¬ (32 : Int) < (n : Int) := by omega
  have HB := Lib.hid (below_new w (.cells #[i 0, i 0, i 0, .slice none 0 0] 41))
  have HK := Lib.hid (Blk.new w 41 #[i 0, i 0, i 0, .slice none 0 0])
  go_enter Tryz.func22, Tryz.ntmps22
  go_upto_region 3 with (fail)
  generalize w.alloc (.cells #[i 0, i 0, i 0, .slice none 0 0] 41) = w0 at *
  go_wp2_with (refine wpList_make_full w0 rfl (.tmp 33) (.tmp 33) 22 rfl w0.heap.size 3 i0 (.int .i64 0) 1 Tryz.underlying22 hi0 hz0 hz1 .i64 .i64 _ _ n rfl rfl rfl rfl (by rw [hz2]; omega) (by unfold maxLen; omega) (Nat.le_refl _) ?_)
  intro w5 hown hgr
  have HO5 := Lib.hid (ints_made hown)
  have HLT := Lib.hid HK.out.lt
  have HB5 := Lib.hid (below_call HB.out (below_none hgr))
  have HK5 := Lib.hid (HK.out.call (below_none hgr))
  clear hown hgr
  go_wp2_with (refine wpList_store_rowTo rfl 41 (.tmp 6) (.tmp 35) rfl rfl w.heap.size #[i 0, i 30, i 2000, .slice (some ⟨w0.heap.size, 0, none⟩) n n] (by kernel_rfl) (by kernel_rfl) 41 _ HK5.out (by kernel_rfl) (by kernel_rfl) (by kernel_rfl) ?_)
  refine bodyPost_ret (results_cell2 rfl _ _ w.heap.size 41 _ (0, 0) _ rfl (row_blk _ HK5.out) Tryz.underlying41 rfl (by kernel_rfl)) rfl ?_
  exact ⟨_, rfl, Own.lower (Own.row_keep HO5.out HLT.out _) (Nat.le_of_lt HLT.out), row_below _ HB5.out (Nat.le_refl _)⟩

set_option maxRecDepth 100000 in
theorem rin (x lo hi : Int) (w : World) (h : lo ≤ x ∧ x ≤ hi) : Calls Tryz.prog 77 #[i x, i lo, i hi] w fun e w' => e = .returned (.bool true) ∧ w = w' := by
  obtain ⟨h1, h2⟩ := h
  go_enter Tryz.func77, Tryz.ntmps77
  go_wp2_with fail
  go_ret
  exact ⟨rfl, rfl⟩

set_option maxRecDepth 100000 in
set_option maxHeartbeats 1000000 in
theorem rsafeNew (n : Nat) (w : World) (h1 : 1 ≤ n) (h2 : n ≤ 8) : Calls Tryz.prog 27 #[i n, i 30, i 2000] w fun e w' => ∃ q, e = .returned (.tuple #[.agg #[i 0, i 30, i 2000, .slice (some ⟨q, 0, none⟩) n n], i 0]) ∧ Own InR 3 1 w.heap.size w' (.slice (some ⟨q, 0, none⟩) n n) (List.replicate n 0) ∧ Below w.heap.size w w' := by
  obtain ⟨i0, hi0, hz0, hz1, hz2⟩ := info_parts infoI
  have H1 := Lib.hid (fun W => rin (n : Int) 1 32 W (by omega))
  have H2 := Lib.hid (fun W => rin 30 0 10080 W (by omega))
  have H3 := Lib.hid (fun W => rin 2000 0 1048576 W (by omega))
  have HB := Lib.hid (below_new w (.cells #[i 0, i 0, i 0, .slice none 0 0] 41))
  have HK := Lib.hid (Blk.new w 41 #[i 0, i 0, i 0, .slice none 0 0])
  go_enter Tryz.func27, Tryz.ntmps27
  go_upto_region 1 with (fail)
  generalize w.alloc (.cells #[i 0, i 0, i 0, .slice none 0 0] 41) = w0 at *
  go_wp2_with fail
  refine (H1.out _).mono ?_
  rintro e w1 ⟨rfl, rfl⟩
  go_wp2_with fail
  refine (H2.out _).mono ?_
  rintro e w1 ⟨rfl, rfl⟩
  go_wp2_with fail
  refine (H3.out _).mono ?_
  rintro e w1 ⟨rfl, rfl⟩
  go_wp2_with (refine wpList_make_full w0 rfl (.tmp 24) (.tmp 24) 22 rfl w0.heap.size 3 i0 (.int .i64 0) 1 Tryz.underlying22 hi0 hz0 hz1 .i64 .i64 _ _ n rfl rfl rfl rfl (by rw [hz2]; omega) (by unfold maxLen; omega) (Nat.le_refl _) ?_)
  intro w5 hown hgr
  have HO5 := Lib.hid (ints_made hown)
  have HLT := Lib.hid HK.out.lt
  have HB5 := Lib.hid (below_call HB.out (below_none hgr))
  have HK5 := Lib.hid (HK.out.call (below_none hgr))
  clear hown hgr
  go_wp2_with (refine wpList_store_rowTo rfl 41 (.tmp 6) (.tmp 26) rfl rfl w.heap.size #[i 0, i 30, i 2000, .slice (some ⟨w0.heap.size, 0, none⟩) n n] (by kernel_rfl) (by kernel_rfl) 41 _ HK5.out (by kernel_rfl) (by kernel_rfl) (by kernel_rfl) ?_)
  refine bodyPost_ret (results_cell2 rfl _ _ w.heap.size 41 _ (0, 0) _ rfl (row_blk _ HK5.out) Tryz.underlying41 rfl (by kernel_rfl)) rfl ?_
  exact ⟨_, rfl, Own.lower (Own.row_keep HO5.out HLT.out _) (Nat.le_of_lt HLT.out), row_below _ HB5.out (Nat.le_refl _)⟩

set_option maxRecDepth 100000 in
theorem validName (s : ByteArray) (w : World) (hs : s.size ≤ maxLen) {b : Bool} (hb : (IdW.identOk s && decide (s.size ≤ 20)) = b) : Calls Tryz.prog 18 #[.string s] w fun e w' => e = .returned (.bool b) ∧ Below w.heap.size w w' := by
  have HI := Lib.hid (IdW.valid_ s w hs)
  have HV := Lib.hid hb
  clear hb
  cases hid : IdW.identOk s with
  | false =>
    rw [hid] at HI HV
    have HV2 : Hid (false = b) := HV.out
    clear hid HV
    go_enter Tryz.func18, Tryz.ntmps18
    go_wp2_with fail
    refine HI.out.mono ?_
    rintro e w1 ⟨rfl, hbw⟩
    have HB := Lib.hid hbw
    clear hbw
    go_wp2_with fail
    go_ret
    exact ⟨by rw [← HV2.out]; rfl, HB.out⟩
  | true =>
    rw [hid] at HI HV
    have HV2 : Hid (decide (s.size ≤ 20) = b) := HV.out
    clear hid HV
    unfold maxLen at hs
    by_cases hl : s.size ≤ 20
    · have hlz : (s.size : Int) ≤ 20 := by omega
      have HV3 : Hid (true = b) := by have := HV2.out; rw [decide_eq_true hl] at this; exact this
      clear HV2 hl
      go_enter Tryz.func18, Tryz.ntmps18
      go_wp2_with fail
      refine HI.out.mono ?_
      rintro e w1 ⟨rfl, hbw⟩
      have HB := Lib.hid hbw
      clear hbw
      go_wp2_with fail
      go_ret
      exact ⟨by rw [← HV3.out]; rfl, HB.out⟩
    · have hlz : decide ((s.size : Int) ≤ 20) = false := decide_eq_false (by omega)
      have HV3 : Hid (false = b) := by have := HV2.out; rw [decide_eq_false hl] at this; exact this
      clear HV2 hl
      go_enter Tryz.func18, Tryz.ntmps18
      go_wp2_with fail
      refine HI.out.mono ?_
      rintro e w1 ⟨rfl, hbw⟩
      have HB := Lib.hid hbw
      clear hbw
      go_wp2_with fail
      go_ret
      exact ⟨by rw [← HV3.out]; rfl, HB.out⟩
end Stn
end Go.Proofs.YtfaofobhmmedmaaGreatDoor
