/-
  call.Call, queue, pending and boot on a station without calls.
-/
import Derived.Test.YtfaofobhmmedmaaGreatDoorStnL
namespace Go.Proofs.YtfaofobhmmedmaaGreatDoor
namespace Stn
set_option linter.unusedSimpArgs false
set_option linter.unusedVariables false
open Go.RowKit Go.Great

theorem rowSet {w : World} {g k : Nat} {t : TypeId} {cs old : Array Value} {u : Value} (h : Blk w g t old) : (w.setRow g cs).setCell ⟨g, k, none⟩ u = w.setRow g (cs.setIfInBounds k u) := by
  rw [stSet (row_blk cs h) rfl, setRow_setRow]
theorem own_empty {w : World} {base : Nat} {v : Value} (h : Own MsR 63 25 base w v []) : ∃ A c, v = .slice A 0 c := MsAt.nil_form (Own.at_ h (by omega))
theorem results_cell3 {P : Program} {fn : Func} {p q r : Tmp} {ty : TypeId} (h : fn.results = #[.cell p ty, .tmp q, .tmp r]) (tmps : Array Value) (w : World) (g : Nat) (t : TypeId) (cs : Array Value) (fr : Nat × Nat) (d : TypeDesc)
    (hp : tmps.getD p undef = .pointer (some ⟨g, 0, none⟩)) (hg : w.heap[g]? = some (.cells cs t fr)) (hu : P.underlying ty = some d) (hd : (match d with | .struct _ | .array _ _ => true | _ => false) = true)
    (hi : (P.info? ty).map (·.size) = some cs.size) : (results fn tmps).run P w = .ok (.tuple #[.agg cs, tmps.getD q undef, tmps.getD r undef]) w := by
  have hp' : tmps[p]?.getD undef = .pointer (some ⟨g, 0, none⟩) := by simpa using hp
  simp [results, h, hp', asAddr, run_loadVar_row w g t ty cs fr d hg hu hd hi]
theorem rowSetTo {w : World} {g k : Nat} {t : TypeId} {cs old cs' : Array Value} {u : Value} (h : Blk w g t old) (he : cs.setIfInBounds k u = cs') : (w.setRow g cs).setCell ⟨g, k, none⟩ u = w.setRow g cs' := by
  rw [rowSet h, he]
theorem put8 {w : World} {g : Nat} {t : TypeId} {a0 a1 a2 a3 a4 a5 a6 a7 x0 x1 x2 x3 x4 x5 x6 x7 : Value} (h : Blk w g t #[a0, a1, a2, a3, a4, a5, a6, a7]) :
    (((((((w.setCell ⟨g, 0, none⟩ x0).setCell ⟨g, 1, none⟩ x1).setCell ⟨g, 2, none⟩ x2).setCell ⟨g, 3, none⟩ x3).setCell ⟨g, 4, none⟩ x4).setCell ⟨g, 5, none⟩ x5).setCell ⟨g, 6, none⟩ x6).setCell ⟨g, 7, none⟩ x7 = w.setRow g #[x0, x1, x2, x3, x4, x5, x6, x7] := by
  rw [stSet h (cs' := #[x0, a1, a2, a3, a4, a5, a6, a7]) rfl, rowSetTo h (cs' := #[x0, x1, a2, a3, a4, a5, a6, a7]) rfl, rowSetTo h (cs' := #[x0, x1, x2, a3, a4, a5, a6, a7]) rfl, rowSetTo h (cs' := #[x0, x1, x2, x3, a4, a5, a6, a7]) rfl, rowSetTo h (cs' := #[x0, x1, x2, x3, x4, a5, a6, a7]) rfl, rowSetTo h (cs' := #[x0, x1, x2, x3, x4, x5, a6, a7]) rfl, rowSetTo h (cs' := #[x0, x1, x2, x3, x4, x5, x6, a7]) rfl, rowSetTo h (cs' := #[x0, x1, x2, x3, x4, x5, x6, x7]) rfl]
theorem MsAt.any {w w' : World} {v : Value} (h : MsAt w v []) : MsAt w' v [] := by
  obtain ⟨A, c, e, h1, h2, h3, -⟩ := h
  exact ⟨A, c, e, h1, h2, h3, fun j x hx => by simp at hx⟩
theorem own_one {w : World} {base : Nat} {v : Value} {x : Ms} (h : Own MsR 63 25 base w v [x]) : ∃ g c, v = .slice (some ⟨g, 0, none⟩) 1 c ∧ base ≤ g ∧ g < w.heap.size := Own.form h (by simp)
theorem ms_blk {w : World} {g : Nat} {x : Ms} (h : Blk w g 63 (msO x)) : MsAt w (.slice (some ⟨g, 0, none⟩) 1 1) [x] := by
  refine ⟨some ⟨g, 0, none⟩, 1, rfl, Nat.le_refl _, (by unfold maxLen; show (1 : Nat) ≤ _; omega), (fun h => by cases h), fun j y hy => ?_⟩
  have hj : j = 0 := by
    rcases j with _ | j
    · rfl
    · simp at hy
  subst hj
  obtain rfl := Option.some.inj hy
  refine ⟨g, 0, _, rfl, rfl, rfl, fun o u hu => ?_⟩
  have := blk_cells h o u hu
  rw [Addr.add_lit] at this
  simpa using this
theorem step_load_row {P : Program} {R : Value → World → Prop} {o : Oper} {a : Act} {w : World} (ty : TypeId) (x : Operand) (ho : o.op = .load ty x) (g : Nat) (hx : a.eval x = .pointer (some ⟨g, 0, none⟩)) (t : TypeId) (cs : Array Value) (d : TypeDesc) (hg : Blk w g t cs)
    (hu : P.underlying ty = some d) (hd : (match d with | .struct _ | .array _ _ => true | _ => false) = true) (hi : (P.info? ty).map (·.size) = some cs.size) (h : R (.agg cs) w) : Reg4.StepOk P R ((execOp a.eval o).run P w) := by
  unfold execOp
  simp only [ho, hx, Instr.loadAt, Instr.sureAddr, Sem.run_bind, Sem.run_pure, Result.andThen_ok, run_loadVar_row w g t ty cs (0, 0) d hg hu hd hi]
  exact h
theorem step_buildSlice {P : Program} {R : Value → World → Prop} {o : Oper} {a : Act} {w : World} (t e : TypeId) (len : Nat) (parts : Array (Nat × Operand)) (ho : o.op = .buildSlice t len parts) (cells : Array Value) (ie : TypeInfo) (z : Value)
    (hu : P.underlying t = some (.slice e)) (hie : P.info? e = some ie) (hz : ie.zero = some z) (hsmall : ¬ len * ie.size > 2 ^ 24) (hpos : ¬ len * ie.size = 0)
    (hf : Instr.fill (fun i => some (i * ie.size, ie.size)) ((Array.range (len * ie.size)).map (z.cells[· % z.cells.size]!)) (parts.map fun (i, x) => (i, a.eval x)).toList = some cells)
    (h : R (.slice (some ⟨w.heap.size, 0, none⟩) len len) (w.alloc (.cells cells e))) : Reg4.StepOk P R ((execOp a.eval o).run P w) := by
  unfold execOp
  simp only [ho, Sem.run_bind, run_buildSlice w t e len _ cells ie z hu hie hz hsmall hpos hf, Result.andThen_ok]
  exact h
/-- 'append(v, y...)', v empty, y one message. -/
theorem wpList_growM {ops : Array Oper} {rest : List Oper} {o : Oper} {a : Act} {w : World} {Q : Exit → Act → World → Prop} (hgd : o.guard = none) (s xo : Operand) (ho : o.op = .call { callee := .builtin .append, args := #[s, xo], argTypes := #[35, 35] })
    (v y : Value) (x : Ms) (base b2 : Nat) (hs : a.eval s = v) (hv : Own MsR 63 25 base w v []) (hx : a.eval xo = y) (hy : Own MsR 63 25 b2 w y [x]) (hbase : base ≤ w.heap.size)
    (h : ∀ v' w', Own MsR 63 25 base w' v' [x] → w.grownBy w' v.ownBlock → Below base w w' → IsSl v' → (v'.ownBlock = v.ownBlock ∨ v'.ownBlock = some w.heap.size) → wpList Tryz.prog ops Q rest (a.put o.dst v') w') : wpList Tryz.prog ops Q (o :: rest) a w := by
  obtain ⟨iM, hMi, hMz, hMs, hMb⟩ := info_parts infoMs
  obtain ⟨g, c, rfl, -, -⟩ := own_one hy
  have hya : MsAt w (.slice (some ⟨g, 0, none⟩) 1 c) [x] := Own.at_ hy (by omega)
  obtain ⟨b, off, r, e, hr, hR, hrow⟩ := SliceAt.at_ hya (j := 0) (by simp)
  obtain ⟨rfl, rfl⟩ : g = b ∧ 0 = off := by simpa using e
  have hrr : r = (msO x).toList := hR
  subst hrr
  obtain ⟨rs, k1, k2⟩ := hv
  have hrs : rs = [] := List.eq_nil_of_length_eq_zero k2.1
  subst hrs
  refine wpList_append_own_at w hgd s xo 35 ho base 63 iM _ 25 280 Tryz.underlying35 hMi hMz hMs hMb rfl (by omega) v 0 [] hs k1 ⟨g, 0, none⟩ 1 c (msO x).toList hx rfl (fun j u hu => ?_) (o1_Ms x) (by unfold maxLen; omega) (by omega) hbase ?_
  · have := hrow j u hu
    rw [Addr.add_lit]
    simpa using this
  · intro v' w' hown hg _ hat
    have hk : ∀ k, v.ownBlock = some k → base ≤ k := fun k hk => (k1.lt k hk).1
    refine h v' w' ⟨[(msO x).toList], by simpa using hown, rows_snoc' rows_nil rfl rfl⟩ hg ((Below.refl _ _).grown hg hbase hk) ?_ hat
    rcases hown.2 with ⟨h0, _⟩ | ⟨g', cap, cur, h0, _⟩
    · exact ⟨_, _, _, h0⟩
    · exact ⟨_, _, _, h0⟩
theorem grown_blk {w w' : World} {row : Option Nat} {g : Nat} {t : TypeId} {cs : Array Value} (h : w.grownBy w' row) (hk : Blk w g t cs) (hne : row ≠ some g) : Blk w' g t cs := (h.block g hk.lt (Ne.symm hne)).trans hk

set_option maxRecDepth 100000 in
set_option maxHeartbeats 4000000 in
theorem callL (ac cn : Int) (tok txt : ByteArray) (AQ AO AS : Option Addr) (cQ cO cS : Nat) (w : World) (hq : MsAt w (.slice AQ 0 cQ) []) (ho : MsAt w (.slice AO 0 cO) []) (hs : MsAt w (.slice AS 0 cS) [])
    (hv : ∀ W, Calls Tryz.prog 54 #[.agg (msA 1 1 ac cn tok txt)] W fun e w' => e = .returned (i 0) ∧ Below W.heap.size W w') :
    Calls Tryz.prog 181 #[.agg (enA 1 3 2 (.slice AQ 0 cQ) (.slice AO 0 cO) 0 0 (.slice AS 0 cS)), .agg (msA 0 0 ac cn tok txt)] w fun e w' => ∃ q o s, e = .returned (.tuple #[.agg (enA 2 3 2 q o 0 0 s), i 1, i 0]) ∧ Own MsR 63 25 w.heap.size w' q [⟨1, 1, ac, cn, tok, txt⟩] ∧ MsAt w' o [] ∧ MsAt w' s [] ∧ Below w.heap.size w w' := by
  obtain ⟨iM, hMi, hMz, hMs, hMb⟩ := info_parts infoMs
  have HV := Lib.hid hv
  have HC : Hid (∀ W, Below w.heap.size w W → _) := fun W hb => copiedL 1 3 2 0 0 (.slice AQ 0 cQ) (.slice AO 0 cO) (.slice AS 0 cS) [] [] [] W (hq.call hb) (ho.call hb) (hs.call hb) (by simp) (by simp) (by simp)
  clear hv hq ho hs
  have HK1 := Lib.hid (((Blk.new w 37 (enA 1 3 2 (.slice AQ 0 cQ) (.slice AO 0 cO) 0 0 (.slice AS 0 cS))).alloc (.cells (msA 0 0 ac cn tok txt) 63)).alloc (.cells (enA 0 0 0 (.slice none 0 0) (.slice none 0 0) 0 0 (.slice none 0 0)) 37))
  have HM1 := Lib.hid ((Blk.new (w.alloc (.cells (enA 1 3 2 (.slice AQ 0 cQ) (.slice AO 0 cO) 0 0 (.slice AS 0 cS)) 37)) 63 (msA 0 0 ac cn tok txt)).alloc (.cells (enA 0 0 0 (.slice none 0 0) (.slice none 0 0) 0 0 (.slice none 0 0)) 37))
  have HR1 := Lib.hid (Blk.new ((w.alloc (.cells (enA 1 3 2 (.slice AQ 0 cQ) (.slice AO 0 cO) 0 0 (.slice AS 0 cS)) 37)).alloc (.cells (msA 0 0 ac cn tok txt) 63)) 37 (enA 0 0 0 (.slice none 0 0) (.slice none 0 0) 0 0 (.slice none 0 0)))
  have HB1 := Lib.hid (below_alloc (below_alloc (below_new w (.cells (enA 1 3 2 (.slice AQ 0 cQ) (.slice AO 0 cO) 0 0 (.slice AS 0 cS)) 37)) (.cells (msA 0 0 ac cn tok txt) 63)) (.cells (enA 0 0 0 (.slice none 0 0) (.slice none 0 0) 0 0 (.slice none 0 0)) 37))
  have hs1 : (w.alloc (.cells (enA 1 3 2 (.slice AQ 0 cQ) (.slice AO 0 cO) 0 0 (.slice AS 0 cS)) 37)).heap.size = w.heap.size + 1 := by simp
  have hs2 : ((w.alloc (.cells (enA 1 3 2 (.slice AQ 0 cQ) (.slice AO 0 cO) 0 0 (.slice AS 0 cS)) 37)).alloc (.cells (msA 0 0 ac cn tok txt) 63)).heap.size = w.heap.size + 2 := by simp
  rw [hs1] at HM1
  rw [hs2] at HR1
  clear hs1 hs2
  go_enter Tryz.func181, Tryz.ntmps181
  go_upto_region 1 with (fail)
  generalize ((w.alloc (.cells _ 37)).alloc (.cells _ 63)).alloc (.cells _ 37) = w1 at *
  have kc := HK1.out.cell
  go_upto_region 3 with (fail)
  clear kc
  go_cut [] (fun wd => Hid (Blk wd w.heap.size 37 (enA 1 3 2 (.slice AQ 0 cQ) (.slice AO 0 cO) 0 0 (.slice AS 0 cS)) ∧ Blk wd (w.heap.size + 1) 63 (msA 1 1 ac cn tok txt) ∧ Blk wd (w.heap.size + 2) 37 (enA 0 0 0 (.slice none 0 0) (.slice none 0 0) 0 0 (.slice none 0 0)) ∧ Below w.heap.size w wd))
  case first =>
    have kc := HK1.out.cell
    have km := HM1.out.cell
    have kf := HM1.out.frozen
    go_region
    all_goals
      have e1 : (w1.setCell ⟨w.heap.size + 1, 0, none⟩ (i 1)).setCell ⟨w.heap.size + 1, 1, none⟩ (i 1) = w1.setRow (w.heap.size + 1) (msA 1 1 ac cn tok txt) := by
        rw [stSet HM1.out rfl, rowSet HM1.out]
        rfl
      rw [show (w1.setCell ⟨w.heap.size + 1, 0, none⟩ (.int .i64 1)).setCell ⟨w.heap.size + 1, 1, none⟩ (.int .i64 1) = w1.setRow (w.heap.size + 1) (msA 1 1 ac cn tok txt) from e1]
      go_wp2_with fail
      go_meet
      exact ⟨Blk.drew (row_other _ HK1.out (by omega)), Blk.drew (row_blk _ HM1.out), Blk.drew (row_other _ HR1.out (by omega)), Below.drew (row_below _ HB1.out (by omega))⟩
  case rest =>
  obtain ⟨hk, hm, hr, hb⟩ := hcut.out
  clear hcut HK1 HM1 HR1 HB1
  have HM := Lib.hid hm
  go_upto_region 4 with (fail)
  go_wp2_with (refine wpList_load_row rfl 63 (.tmp 3) rfl (w.heap.size + 1) rfl 63 (msA 1 1 ac cn tok txt) (0, 0) _ HM.out Tryz.underlying63 rfl (by kernel_rfl) ?_)
  refine (HV.out _).mono ?_
  rintro e w4 ⟨rfl, hb4⟩
  have HK := Lib.hid (hk.call hb4)
  have HMM := Lib.hid (hm.call hb4)
  have HR := Lib.hid (hr.call hb4)
  have HB := Lib.hid (below_call hb hb4)
  clear hk hm hr hb hb4 HM HV
  go_wp2_with (refine wpList_load_row rfl 37 (.tmp 2) rfl w.heap.size rfl 37 (enA 1 3 2 (.slice AQ 0 cQ) (.slice AO 0 cO) 0 0 (.slice AS 0 cS)) (0, 0) _ HK.out Tryz.underlying37 rfl (by kernel_rfl) ?_)
  refine (HC.out w4 HB.out).mono ?_
  rintro e w5 ⟨q, o, s, rfl, hq, ho, hs, hb5⟩
  obtain ⟨Aq, cq, rfl⟩ := own_empty hq
  obtain ⟨Ao, co, rfl⟩ := own_empty ho
  obtain ⟨As, cs, rfl⟩ := own_empty hs
  have HMO : Hid (MsAt w (.slice Ao 0 co) [] ∧ MsAt w (.slice As 0 cs) []) := ⟨MsAt.any (w := w5) (Own.at_ ho (by omega)), MsAt.any (w := w5) (Own.at_ hs (by omega))⟩
  have HQN : Hid (∀ k, (Value.slice Aq 0 cq).ownBlock = some k → k ≠ w5.heap.size) := fun k hk => Nat.ne_of_lt (Own.row hq k hk).2
  have HZ := Lib.hid (Blk.new w5 37 (enA 0 0 0 (.slice none 0 0) (.slice none 0 0) 0 0 (.slice none 0 0)))
  have hlr := HR.out.lt
  have hsz := hb5.size
  have hw4 := HB.out.size
  have HG := Lib.hid (row_blk (enA 1 3 2 (.slice Aq 0 cq) (.slice Ao 0 co) 0 0 (.slice As 0 cs)) HZ.out)
  have HM6 := Lib.hid (row_other (enA 1 3 2 (.slice Aq 0 cq) (.slice Ao 0 co) 0 0 (.slice As 0 cs)) ((HMM.out.call hb5).alloc (.cells (enA 0 0 0 (.slice none 0 0) (.slice none 0 0) 0 0 (.slice none 0 0)) 37)) (show w.heap.size + 1 ≠ w5.heap.size by omega))
  have HR6 := Lib.hid (row_other (enA 1 3 2 (.slice Aq 0 cq) (.slice Ao 0 co) 0 0 (.slice As 0 cs)) ((HR.out.call hb5).alloc (.cells (enA 0 0 0 (.slice none 0 0) (.slice none 0 0) 0 0 (.slice none 0 0)) 37)) (show w.heap.size + 2 ≠ w5.heap.size by omega))
  have HB6 := Lib.hid (row_below (enA 1 3 2 (.slice Aq 0 cq) (.slice Ao 0 co) 0 0 (.slice As 0 cs)) (below_alloc (below_call HB.out hb5) (.cells (enA 0 0 0 (.slice none 0 0) (.slice none 0 0) 0 0 (.slice none 0 0)) 37)) (show w.heap.size ≤ w5.heap.size by omega))
  have HQ6 := Lib.hid (Own.call hq (row_below (enA 1 3 2 (.slice Aq 0 cq) (.slice Ao 0 co) 0 0 (.slice As 0 cs)) (below_new w5 (.cells (enA 0 0 0 (.slice none 0 0) (.slice none 0 0) 0 0 (.slice none 0 0)) 37)) (Nat.le_refl w5.heap.size)))
  clear hq ho hs hb5 HK HMM HR HB HC
  go_upto_region 8 with (refine wpList_store_rowTo rfl 37 (.tmp 8) (.tmp 30) rfl rfl w5.heap.size (enA 1 3 2 (.slice Aq 0 cq) (.slice Ao 0 co) 0 0 (.slice As 0 cs)) (by kernel_rfl) (by kernel_rfl) 37 (enA 0 0 0 (.slice none 0 0) (.slice none 0 0) 0 0 (.slice none 0 0)) HZ.out (by kernel_rfl) (by kernel_rfl) (by kernel_rfl) ?_)
  generalize (w5.alloc (.cells _ 37)).setRow w5.heap.size (enA 1 3 2 (.slice Aq 0 cq) (.slice Ao 0 co) 0 0 (.slice As 0 cs)) = w6 at *
  clear HZ
  have hB4 := Lib.hid hsz
  have hB3 := Lib.hid hlr
  have hB0 := Lib.hid hw4
  clear hsz hlr hw4
  generalize w5.heap.size = gB at *
  generalize w4.heap.size = s4 at *
  go_cut [] (fun wd => Hid (∃ q, Blk wd gB 37 (enA 1 3 2 q (.slice Ao 0 co) 0 0 (.slice As 0 cs)) ∧ Blk wd (w.heap.size + 1) 63 (msA 1 1 ac cn tok txt) ∧ Blk wd (w.heap.size + 2) 37 (enA 0 0 0 (.slice none 0 0) (.slice none 0 0) 0 0 (.slice none 0 0)) ∧ Own MsR 63 25 s4 wd q [⟨1, 1, ac, cn, tok, txt⟩] ∧ (∀ k, q.ownBlock = some k → k ≠ gB) ∧ Below w.heap.size w wd))
  case first =>
    refine RegB.region 5 w w.heap.size gB 37 (fun _ _ => (enA 1 3 2 (.slice Aq 0 cq) (.slice Ao 0 co) 0 0 (.slice As 0 cs))) (fun k => match k with | 0 => fun v _ => v = .pointer (some ⟨gB, 3, none⟩) | 1 => fun v _ => v = .slice Aq 0 cq | 2 => fun v _ => v = .agg (msA 1 1 ac cn tok txt) | 3 => fun v W => ∃ g', v = .slice (some ⟨g', 0, none⟩) 1 1 ∧ Blk W g' 63 (msA 1 1 ac cn tok txt) ∧ g' ≠ gB | 4 => fun v W => Own MsR 63 25 (gB + 1) W v [⟨1, 1, ac, cn, tok, txt⟩] | _ => fun _ _ => True) (by kernel_rfl) (by kernel_rfl) (Reg4.in_of (n := 45) (by kernel_rfl) rfl) (HB6.out) (HG.out) ?_ ?_ ?_
    · intro k v W W' hbt h
      have hk : k = 0 ∨ k = 1 ∨ k = 2 ∨ k = 3 ∨ k = 4 ∨ 5 ≤ k := by omega
      rcases hk with rfl | rfl | rfl | rfl | rfl | hk
      · exact h
      · exact h
      · exact h
      · obtain ⟨g', e1, h1, h2⟩ := h
        exact ⟨g', e1, hbt.blk h1 h2, h2⟩
      · exact hbt.own h (by omega)
      · split at h <;> first | omega | trivial
    · intro idx o hj ho L vals a' w' hLi hb hbt hk hop hno hwt
      have hj' : idx = 0 ∨ idx = 1 ∨ idx = 2 ∨ idx = 3 ∨ idx = 4 := by omega
      clear hj
      rcases hj' with rfl | rfl | rfl | rfl | rfl
      · obtain rfl := Option.some.inj ho
        have h8 : a'.tmps[8]?.getD undef = _ := (Array.getD_eq_getD_getElem? ..).symm.trans (hop 8 (by simp [Op.operands, Call.operands]))
        refine Reg4.StepOk.mono (R := fun v W => v = .pointer (some ⟨gB, 3, none⟩) ∧ W = w') ?_ (fun v W h => ?_)
        · go_simp
          all_goals (try exact ⟨rfl, rfl⟩)
        · obtain ⟨rfl, rfl⟩ := h
          exact ⟨hb, by simpa [] using hk, rfl, RegB.But.refl _ _⟩
      · obtain rfl := Option.some.inj ho
        obtain ⟨lo31, eo31, fo31⟩ := hop 31 (by simp [Op.operands, Call.operands])
        have h31 : a'.tmps[31]?.getD undef = .pointer (some ⟨gB, 3, none⟩) := (Array.getD_eq_getD_getElem? ..).symm.trans (eo31.trans fo31)
        clear eo31 fo31
        have kc := hk.cell
        refine Reg4.StepOk.mono (R := fun v W => v = .slice Aq 0 cq ∧ W = w') ?_ (fun v W h => ?_)
        · go_simp
          all_goals (try exact ⟨rfl, rfl⟩)
        · obtain ⟨rfl, rfl⟩ := h
          exact ⟨hb, by simpa [] using hk, rfl, RegB.But.refl _ _⟩
      · obtain rfl := Option.some.inj ho
        have h3 : a'.tmps[3]?.getD undef = _ := (Array.getD_eq_getD_getElem? ..).symm.trans (hop 3 (by simp [Op.operands, Call.operands]))
        refine step_load_row 63 (.tmp 3) rfl (w.heap.size + 1) (hop 3 (by simp [Op.operands, Call.operands])) 63 (msA 1 1 ac cn tok txt) _ (hbt.blk HM6.out (by have := hB4.out; have := hB3.out; omega)) Tryz.underlying63 rfl (by kernel_rfl) ⟨hb, hk, rfl, RegB.But.refl _ _⟩
      · obtain rfl := Option.some.inj ho
        obtain ⟨lo33, eo33, fo33⟩ := hop 33 (by simp [Op.operands, Call.operands])
        have h33 : a'.tmps[33]?.getD undef = .agg (msA 1 1 ac cn tok txt) := (Array.getD_eq_getD_getElem? ..).symm.trans (eo33.trans fo33)
        clear eo33 fo33
        have e33 : a'.eval (.tmp 33) = .agg (msA 1 1 ac cn tok txt) := (hop 33 (by simp [Op.operands, Call.operands])).2.1.trans (hop 33 (by simp [Op.operands, Call.operands])).2.2
        have hprt : ((#[(0, Operand.tmp 33)] : Array (Nat × Operand)).map fun (i, x) => (i, a'.eval x)).toList = [(0, .agg (msA 1 1 ac cn tok txt))] := by simp [e33]
        refine step_buildSlice 35 63 1 _ rfl (msA 1 1 ac cn tok txt) iM _ Tryz.underlying35 hMi hMz (by rw [hMs]; decide) (by rw [hMs]; decide) (by rw [hprt, hMs]; kernel_rfl) ⟨below_alloc hb _, hk.alloc _, ⟨_, rfl, Blk.new w' _ _, (by have := hk.lt; omega)⟩, RegB.But.of (below_new w' _)⟩
      · obtain rfl := Option.some.inj ho
        obtain ⟨lo34, eo34, fo34⟩ := hop 34 (by simp [Op.operands, Call.operands])
        have h34 : a'.tmps[34]?.getD undef = vals 3 := (Array.getD_eq_getD_getElem? ..).symm.trans eo34
        clear eo34
        refine Reg4.StepOk.mono (R := fun v W => (fun v W => Own MsR 63 25 (gB + 1) W v [⟨1, 1, ac, cn, tok, txt⟩]) v W ∧ Hid (Below w'.heap.size w' W)) ?_ (fun v W h => ?_)
        · go_simp
          obtain ⟨g', e3, hk3, hne⟩ := fo34
          rw [e3]
          refine (collect1 _ _ ⟨1, 1, ac, cn, tok, txt⟩ w' (ms_blk hk3)).mono ?_
          rintro e w7 ⟨u, rfl, hown, hbc⟩
          exact ⟨_, rfl, hown.lower (by have := hk.lt; omega), hbc⟩
        · obtain ⟨hf, hbc⟩ := h
          exact ⟨hb.trans (hbc.out.mono hb.size), by simpa [] using hk.call hbc.out, hf, RegB.But.of hbc.out⟩
    · intro L vals w' hall hb hbt hk hv
      have hv0 : (fun v _ => v = .pointer (some ⟨gB, 3, none⟩)) (vals 0) w' := hv 0 (by omega)
      have hv1 : (fun v _ => v = .slice Aq 0 cq) (vals 1) w' := hv 1 (by omega)
      have hv2 : (fun v _ => v = .agg (msA 1 1 ac cn tok txt)) (vals 2) w' := hv 2 (by omega)
      have hv3 : (fun v W => ∃ g', v = .slice (some ⟨g', 0, none⟩) 1 1 ∧ Blk W g' 63 (msA 1 1 ac cn tok txt) ∧ g' ≠ gB) (vals 3) w' := hv 3 (by omega)
      have hv4 : (fun v W => Own MsR 63 25 (gB + 1) W v [⟨1, 1, ac, cn, tok, txt⟩]) (vals 4) w' := hv 4 (by omega)
      simp only [Reg4.puts, Reg4.dstOf, List.range, List.range.loop, if_true, List.drop_succ_cons, List.drop_zero, hv0, hv1, hv2]
      clear hv hall hv0 hv1 hv2
      simp [Act.put]
      obtain ⟨g3, e3, -, -⟩ := hv3
      rw [e3]
      obtain ⟨A4, n4, c4, e4⟩ := own_sl hv4
      rw [e4] at hv4
      rw [e4]
      clear e3 e4
      have HQW := Lib.hid (hbt.ownNe HQ6.out HQN.out)
      have HV4 := Lib.hid hv4
      have HKW := Lib.hid hk
      have HMW := Lib.hid (hbt.blk HM6.out (by have := hB4.out; have := hB3.out; omega))
      have HRW := Lib.hid (hbt.blk HR6.out (by have := hB4.out; have := hB3.out; omega))
      have HBW := Lib.hid hb
      have hs4 : s4 ≤ w'.heap.size := by have := hk.lt; have := hB4.out; omega
      clear hv4 hk hb
      go_wp2_with (at_builtin; refine wpList_growM rfl (.tmp 32) (.tmp 35) rfl _ _ ⟨1, 1, ac, cn, tok, txt⟩ s4 (gB + 1) rfl HQW.out rfl HV4.out hs4 ?_)
      rintro v' w8 hown hg hbel ⟨A8, n8, c8, rfl⟩ hat
      have hne : (Value.slice Aq 0 cq).ownBlock ≠ some gB := fun h => HQN.out gB h rfl
      have hneM : (Value.slice Aq 0 cq).ownBlock ≠ some (w.heap.size + 1) := fun h => by have := (Own.row HQW.out _ h).1; have := hB3.out; omega
      have hneR : (Value.slice Aq 0 cq).ownBlock ≠ some (w.heap.size + 2) := fun h => by have := (Own.row HQW.out _ h).1; have := hB3.out; omega
      have HK8 := Lib.hid (grown_blk hg HKW.out hne)
      have HM8 := Lib.hid (grown_blk hg HMW.out hneM)
      have HR8 := Lib.hid (grown_blk hg HRW.out hneR)
      have HB8 := Lib.hid (HBW.out.trans (hbel.mono (by have := hB3.out; omega)))
      have HO8 := Lib.hid hown
      have HN8 : Hid (∀ k, (Value.slice A8 n8 c8).ownBlock = some k → k ≠ gB) := fun k hk => by
        rcases hat with e | e
        · exact HQN.out k (e.symm.trans hk)
        · have : k = w'.heap.size := Option.some.inj (hk.symm.trans e)
          have := HKW.out.lt
          omega
      clear hown hg hbel hat hne hneM hneR HQW HV4 HKW HMW HRW HBW
      have kc := HK8.out.cell
      have kf := HK8.out.frozen
      go_wp2_with fail
      rw [stSet HK8.out rfl]
      go_meet
      exact ⟨.slice A8 n8 c8, row_blk _ HK8.out, row_other _ HM8.out (by have := hB4.out; have := hB3.out; omega), row_other _ HR8.out (by have := hB4.out; have := hB3.out; omega), (RegB.But.row gB w8 _).ownNe HO8.out HN8.out, HN8.out, row_below _ HB8.out (by have := hB4.out; have := hB3.out; omega)⟩
  case rest =>
  obtain ⟨q, hk, hm, hr, ho, hn, hb⟩ := hcut.out
  clear hcut HG HM6 HR6 HB6 HQ6 HQN
  obtain ⟨gq, cq', rfl, hq1, hq2⟩ := own_one ho
  have HK := Lib.hid hk
  have HM := Lib.hid hm
  have HR := Lib.hid hr
  have HB := Lib.hid hb
  have HO := Lib.hid ho
  have HN := Lib.hid hn
  clear hk hm hr hb ho hn hq1 hq2
  go_upto_region 9 with (fail)
  go_cut [] (fun wd => Hid (Blk wd gB 37 (enA 2 3 2 (.slice (some ⟨gq, 0, none⟩) 1 cq') (.slice Ao 0 co) 0 0 (.slice As 0 cs)) ∧ Blk wd (w.heap.size + 1) 63 (msA 1 1 ac cn tok txt) ∧ Blk wd (w.heap.size + 2) 37 (enA 0 0 0 (.slice none 0 0) (.slice none 0 0) 0 0 (.slice none 0 0)) ∧ Own MsR 63 25 s4 wd (.slice (some ⟨gq, 0, none⟩) 1 cq') [⟨1, 1, ac, cn, tok, txt⟩] ∧ Below w.heap.size w wd))
  case first =>
    have kc := HK.out.cell
    have kf := HK.out.frozen
    go_wp2_with fail
    rw [stSet HK.out rfl]
    go_meet
    exact ⟨row_blk _ HK.out, row_other _ HM.out (by have := hB4.out; have := hB3.out; omega), row_other _ HR.out (by have := hB4.out; have := hB3.out; omega), (RegB.But.row gB wc _).ownNe HO.out HN.out, row_below _ HB.out (by have := hB4.out; have := hB3.out; omega)⟩
  case rest =>
  obtain ⟨hk, hm, hr, ho, hb⟩ := hcut.out
  clear hcut HK HM HR HB HO HN
  have kc := hk.cell
  have km := hm.cell
  have kr := hr.cell
  have kf := hr.frozen
  go_upto_region 10 with (fail)
  have H8 := Lib.hid (put8 (x0 := i 2) (x1 := i 3) (x2 := i 2) (x3 := .slice (some ⟨gq, 0, none⟩) 1 cq') (x4 := .slice Ao 0 co) (x5 := i 0) (x6 := i 0) (x7 := .slice As 0 cs) hr)
  have HR := Lib.hid hr
  have HB := Lib.hid hb
  have HO := Lib.hid ho
  go_region
  all_goals
    rw [show (((((((wc.setCell ⟨w.heap.size + 1 + 1, 0, none⟩ (.int .i64 2)).setCell ⟨w.heap.size + 1 + 1, 1, none⟩ (.int .i64 3)).setCell ⟨w.heap.size + 1 + 1, 2, none⟩ (.int .i64 2)).setCell ⟨w.heap.size + 1 + 1, 3, none⟩ (.slice (some ⟨gq, 0, none⟩) 1 cq')).setCell ⟨w.heap.size + 1 + 1, 4, none⟩ (.slice Ao 0 co)).setCell ⟨w.heap.size + 1 + 1, 5, none⟩ (.int .i64 0)).setCell ⟨w.heap.size + 1 + 1, 6, none⟩ (.int .i64 0)).setCell ⟨w.heap.size + 1 + 1, 7, none⟩ (.slice As 0 cs) = wc.setRow (w.heap.size + 2) (enA 2 3 2 (.slice (some ⟨gq, 0, none⟩) 1 cq') (.slice Ao 0 co) 0 0 (.slice As 0 cs)) from H8.out]
    clear kc km kr kf
    go_wp2_with fail
    refine bodyPost_ret (results_cell3 rfl _ _ (w.heap.size + 2) 37 (enA 2 3 2 (.slice (some ⟨gq, 0, none⟩) 1 cq') (.slice Ao 0 co) 0 0 (.slice As 0 cs)) (0, 0) _ rfl (Blk.drew (row_blk _ HR.out)) Tryz.underlying37 rfl (by kernel_rfl)) rfl ?_
    have hp1 := hB3.out
    have hp0 := hB0.out
    exact ⟨_, _, _, rfl, (Own.row_keep HO.out (by omega) _).lower (by omega), MsAt.any HMO.out.1, MsAt.any HMO.out.2, Below.drew (row_below _ HB.out (by omega))⟩

end Stn
end Go.Proofs.YtfaofobhmmedmaaGreatDoor
