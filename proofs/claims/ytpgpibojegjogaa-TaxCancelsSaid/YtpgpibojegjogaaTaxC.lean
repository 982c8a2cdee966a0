/-
  The walk of tax.Adjust where an item is added, and Adjust as a whole.
-/
import Derived.Test.YtpgpibojegjogaaTaxB
namespace Go.Proofs.Ytpgpibojegjogaa
namespace MonW
set_option linter.unusedSimpArgs false
set_option linter.unusedVariables false
open Go.RowKit

theorem topTax_ok {cs : List Itm} (h : ∀ x ∈ cs, x.ok) : I64 (topTax cs) := by
  cases cs with
  | nil => show I64 0; unfold I64; omega
  | cons c cs =>
    have key : ∀ (ds : List Itm) (b : Itm), b.ok → (∀ x ∈ ds, x.ok) → (ds.foldl better b).ok := by
      intro ds
      induction ds with
      | nil => intro b hb _; exact hb
      | cons d ds ih =>
        intro b hb hd
        refine ih _ ?_ (fun x hx => hd x (by simp [hx]))
        unfold better
        split
        · exact hd d (by simp)
        · exact hb
    exact (key cs c (h c (by simp)) (fun x hx => h x (by simp [hx]))).2.2.1
theorem itms_ok {w : World} {v : Value} {xs : List Itm} (h : ItmsAt w v xs) : ∀ x ∈ xs, x.ok := by
  intro x hx
  obtain ⟨A, c, rfl, _⟩ := SliceAt.form h
  obtain ⟨j, hj, rfl⟩ := List.getElem_of_mem hx
  obtain ⟨b, off, _, _, hok, _⟩ := ItmsAt.at_ h hj
  exact hok

theorem append_run (ty : TypeId) {w : World} {base g0 cap : Nat} {lv : Value} {cs : List Itm} (ho : w.ownsRow base 30 7 (.slice (some ⟨g0, 0, none⟩) 0 cap) 0 []) (hl : ItmsAt w lv cs) (hc : cs.length ≤ cap) :
    ∃ w', (Builtin.append_ #[24, 24] ty #[.slice (some ⟨g0, 0, none⟩) 0 cap, lv]).run Try.prog w = .ok (.slice (some ⟨g0, 0, none⟩) cs.length cap) w' ∧ OwnI base w' (.slice (some ⟨g0, 0, none⟩) cs.length cap) cs ∧ w.grownBy w' (some g0) := by
  obtain ⟨i0, hi0, hz0, hz1, hz2⟩ := info_parts infoItm
  obtain ⟨A, c, rfl, h1, h2, h0⟩ := SliceAt.form' hl
  rcases A with _ | ad
  · have hc0 := h0 rfl
    have hcl : cs = [] := List.eq_nil_of_length_eq_zero (by omega)
    subst hcl
    subst hc0
    exact ⟨w, run_append_owned_none (P := Try.prog) w base _ ty _ i0 7 Try.underlying24 hi0 _ 0 [] ho, ⟨[], ho, rows_nil⟩, World.grownBy.refl _ _⟩
  · obtain ⟨rs, hrs, hcells⟩ := SliceAt.rows (by omega) hl
    obtain ⟨w', hr, ho', hg⟩ := run_append_fits (P := Try.prog) w base _ ty _ i0 7 Try.underlying24 hi0 hz1 g0 0 cap [] ho ad cs.length c rs.flatten (by rw [flat_len rs hrs.each, hrs.1]) (hcells ad rfl) (rows_one hrs one_itm) (by omega)
    rw [Nat.zero_add] at hr ho'
    exact ⟨w', hr, ⟨rs, ho', hrs⟩, hg⟩
theorem step_append {P : Program} {R : Value → World → Prop} {o : Oper} {a : Act} {w w' : World} {s x : Operand} {t : TypeId} {v u v' : Value} (ho : o.op = .call { callee := .builtin .append, args := #[s, x], argTypes := #[t, t] })
    (hs : a.eval s = v) (hx : a.eval x = u) (hrun : (Builtin.append_ #[t, t] o.type #[v, u]).run P w = .ok v' w') (h : R v' w') : Reg2.StepOk P R ((execOp a.eval o).run P w) := by
  have : (execOp a.eval o).run P w = .ok (.value v') w' := by
    simp [execOp, ho, resolve, invoke, builtin, hs, hx, hrun, Result.andThen]
  rw [this]
  exact h
theorem kept_grow {w w5 w' : World} {g0 : Nat} (hb : Below w.heap.size w w5) (hg : w5.grownBy w' (some g0)) (h0 : w.heap.size ≤ g0) : Kept w w' := by
  intro p u hp
  have hlt := World.block_lt_of_cell? w p hp
  exact hg.cell (Kept.of hb p u hp) (fun e => by injection e with e; omega)

set_option maxRecDepth 100000 in
set_option maxHeartbeats 4000000 in
theorem adj_add (v : Value) (cs : List Itm) (least most : Int) (w : World) (h : ItmsAt w v cs) (hn : cs.length ≤ 16777216) (hb : badR least most = false) (hl : ¬ least < -1) (hm : ¬ most < -1)
    (hr : (least != -1) = false ∨ ((least != -1) = true ∧ (most != -1) = false) ∨ ((least != -1) = true ∧ (most != -1) = true ∧ ¬ most < least)) (hf : fitI (sNet cs) = true) (he : bnd (sNet cs) least most ≠ sNet cs)
    (hg : ∀ W, Calls Try.prog 27 #[i (sNet cs), i least, i most] W fun e w' => e = .returned (.tuple #[i (sumV (bnd (sNet cs) least most - sNet cs)), .bool (fitI (bnd (sNet cs) least most - sNet cs))]) ∧ Below W.heap.size W w')
    (hsm : ¬ 64 ≤ cs.length) (hfd : fitI (bnd (sNet cs) least most - sNet cs) = true) :
    Calls Try.prog 17 #[v, i least, i most] w (AdjPost cs least most w) := by
  have hA : adj cs least most = if txOk (adjX cs least most) then (cs ++ [txV (adjX cs least most)], 0) else (cs, 20) := by
    unfold adj; rw [if_neg (by rw [hb]; decide), if_neg (by rw [hf]; decide), if_neg he, if_neg hsm, if_neg (by rw [hfd]; decide)]
  have HI := Lib.hid h
  have HN := Lib.hid (netSum v cs w h hn)
  have hxo : (adjX cs least most).ok := by
    have h1 := of_decide_eq_true hfd
    exact ⟨by unfold I64 adjX; simp, h1, topTax_ok (itms_ok h), by unfold I64 adjX; simp, h1, by unfold I64 adjX; simp, by unfold I64 adjX; simp⟩
  have HT := Lib.hid (fun W => taxed (adjX cs least most) W hxo)
  have HZ := Lib.hid (txV_ok hxo)
  have HTG := Lib.hid (fun (W : World) (hb : Below w.heap.size w W) => taxOfGreatest v cs W (h.call hb))
  have hte : txE (adjX cs least most) = if txOk (adjX cs least most) then 0 else 20 := rfl
  rcases sum_ways (sNet cs) with ⟨_, e1, e2⟩ | ⟨f1, _⟩
  · rw [e1, e2] at HN
    have HG := Lib.hid hg
    rcases sum_ways (bnd (sNet cs) least most - sNet cs) with ⟨_, e3, e4⟩ | ⟨f1, _⟩
    · rw [e3, hfd] at HG
      clear hg hb hf e1 e2 e3 e4 hfd hxo
      have hd0 : (bnd (sNet cs) least most - sNet cs == 0) = false := beq_eq_false_iff_ne.2 (by omega)
      clear he
      generalize txV (adjX cs least most) = z at *
      generalize txE (adjX cs least most) = te at *
      generalize txOk (adjX cs least most) = ok at *
      unfold adjX at HT
      generalize bnd (sNet cs) least most - sNet cs = d at *
      generalize sNet cs = N at *
      generalize topTax cs = tt at *
      obtain ⟨A, c, rfl, h1, h2, h0⟩ := SliceAt.form' h
      unfold maxLen at h2
      have hbz : ¬ (64 : Int) ≤ (cs.length : Int) := by omega
      rcases bool_cases ok with rfl | rfl
      · rw [if_pos rfl] at hA hte
        subst hte
        have HF := Lib.hid hA
        clear hA
        obtain ⟨i0, hi0, hz0, hz1, hz2⟩ := info_parts infoItm
        rcases hr with q1 | ⟨q1, q2⟩ | ⟨q1, q2, q3⟩
        all_goals
          go_enter Try.func17, Try.ntmps17
          go_wp2_with fail
          refine HN.out.mono ?_
          rintro e w1 ⟨rfl, hb1⟩
          go_wp2_with fail
          refine (HG.out _).mono ?_
          rintro e w2 ⟨rfl, hb2⟩
          have hb3 := below_call hb1 hb2
          go_wp2_with fail
          refine (HTG.out _ hb3).mono ?_
          rintro e w3 ⟨rfl, hb4⟩
          go_wp2_with fail
          refine (HT.out _).mono ?_
          rintro e w4 ⟨rfl, hb5⟩
          have HB4 := Lib.hid (below_alloc (below_call (below_call hb3 hb4) hb5) (.cells (itmA z) 30))
          have HKz := Lib.hid (Blk.new w4 30 (itmA z))
          clear hb1 hb2 hb3 hb4 hb5
          go_wp2_with (at_make; refine wpList_make_own _ rfl _ _ 24 rfl (w4.heap.size + 1) 30 i0 _ 7 Try.underlying24 hi0 hz0 hz1 .i64 .i64 _ (cs.length + 1) rfl rfl rfl (by rw [hz2]; omega) (by unfold maxLen; omega) (by simp) ?_)
          intro w5 hown5 hgr5
          have hown5' : w5.ownsRow (w4.heap.size + 1) 30 7 (.slice (some ⟨w4.heap.size + 1, 0, none⟩) 0 (cs.length + 1)) 0 [] := by simpa using hown5
          have HO5 := Lib.hid hown5'
          have HB5 : Hid (Below w.heap.size w w5) := HB4.out.grown hgr5 HB4.out.size (fun k hk => by cases hk)
          have HK5 : Hid (Blk w5 w4.heap.size 30 (itmA z)) := (hgr5.block w4.heap.size HKz.out.lt (by simp)).trans HKz.out
          have HSZ : Hid (w.heap.size ≤ w4.heap.size + 1) := by
            have := HB4.out.size
            show _ ≤ _
            simpa using this
          have HL5 : Hid (w4.heap.size + 1 < w5.heap.size) := (hown5'.lt _ rfl).2
          clear hown5 hown5' hgr5 HB4 HKz
          go_upto_region 19 with (fail)
          refine Reg2.region 5 (adG w5 (w4.heap.size + 1) (w4.heap.size + 1) (cs.length + 1)) (adΦ (w4.heap.size + 1) (w4.heap.size + 1) (cs.length + 1) (.slice A cs.length c) cs z) (by kernel_rfl) (by kernel_rfl) ?_ ⟨grown_of (Below.drew (Below.refl _ _)), HO5.out⟩ ?_ ?_
          · exact Reg2.in_of (n := 86) (by kernel_rfl) rfl
          · intro j o hj ho a' w' hG hop
            have hj' : j = 0 ∨ j = 1 ∨ j = 2 ∨ j = 3 ∨ j = 4 := by omega
            rcases hj' with rfl | rfl | rfl | rfl | rfl
            all_goals
              obtain rfl := Option.some.inj ho
              clear ho hj
            · have h13 : a'.tmps[13]?.getD undef = .slice (some ⟨w4.heap.size + 1, 0, none⟩) 0 (cs.length + 1) := (Array.getD_eq_getD_getElem? ..).symm.trans (hop 13 (by simp [Op.operands]))
              go_simp
              exact ⟨hG, rfl, fun _ _ _ h => h⟩
            · have h0' : a'.tmps[0]?.getD undef = .slice A cs.length c := (Array.getD_eq_getD_getElem? ..).symm.trans (hop 0 (by simp [Op.operands]))
              go_simp
              exact ⟨hG, rfl, fun _ _ _ h => h⟩
            · have h80 : a'.eval (.tmp 80) = .slice (some ⟨w4.heap.size + 1, 0, none⟩) 0 (cs.length + 1) := hop 80 (by simp [Op.operands, Call.operands])
              have h81 : a'.eval (.tmp 81) = .slice A cs.length c := hop 81 (by simp [Op.operands, Call.operands])
              have hB5 := HB5.out
              have hsz : w.heap.size ≤ w4.heap.size + 1 := HSZ.out
              obtain ⟨w'', hrun, hown, hgr⟩ := append_run 24 hG.2 (ItmsAt.keep HI.out (kept_grow hB5 hG.1 hsz)) (Nat.le_succ _)
              refine step_append rfl h80 h81 hrun ?_
              refine ⟨⟨grownBy_trans hG.1 hgr, ?_⟩, ⟨rfl, hown⟩, ?_⟩
              · obtain ⟨rs, r1, _⟩ := hown
                exact own_empty r1
              · intro k u _ hk
                unfold adΦ at *
                split at hk
                · exact hk
                · exact hk
                · obtain ⟨rfl, _⟩ := hk
                  exact ⟨rfl, hown⟩
                · exact hk
                · obtain ⟨g, a1, a2, a3⟩ := hk
                  exact ⟨g, a1, a2, (hgr.block g a3.lt (fun e => by injection e with e; omega)).trans a3⟩
                · trivial
            · have h12 : a'.tmps[12]?.getD undef = .pointer (some ⟨w4.heap.size, 0, none⟩) := (Array.getD_eq_getD_getElem? ..).symm.trans (hop 12 (by simp [Op.operands]))
              have hkz : Blk w' w4.heap.size 30 (itmA z) := (hG.1.block w4.heap.size HK5.out.lt (fun e => by injection e with e; omega)).trans HK5.out
              have hkc := hkz.cell
              go_simp
              exact ⟨hG, rfl, fun _ _ _ h => h⟩
            · have h83 : a'.tmps[83]?.getD undef = itmV z := (Array.getD_eq_getD_getElem? ..).symm.trans (hop 83 (by simp [Op.operands]))
              go_simp
              refine ⟨adG_keep (below_new _ _) hG, ⟨_, rfl, ?_, Blk.new _ _ _⟩, fun k u _ h => adΦ_keep (below_new _ _) k u h⟩
              have := hG.1.size
              have := HL5.out
              omega
          · intro vals w' hG hΦ
            have hv0 : vals 0 = .slice (some ⟨w4.heap.size + 1, 0, none⟩) 0 (cs.length + 1) := hΦ 0 (by omega)
            have hv1 : vals 1 = .slice A cs.length c := hΦ 1 (by omega)
            obtain ⟨hv2, o2⟩ := hΦ 2 (by omega)
            have hv3 : vals 3 = itmV z := hΦ 3 (by omega)
            obtain ⟨g, hv4, hg4, b4⟩ := hΦ 4 (by omega)
            rw [hv2] at o2
            have HO2 := Lib.hid o2
            have HB4 := Lib.hid b4
            have HRR := Lib.hid (itmR_lit HZ.out)
            have HBW : Hid (Below w.heap.size w w') := HB5.out.grown hG.1 HB5.out.size (fun k hk => by injection hk with hk; have := HSZ.out; omega)
            have HLE : Hid (w4.heap.size + 1 ≤ w'.heap.size) := by
              have h1 := hG.1.size
              have h2 := HL5.out
              show _ ≤ _
              omega
            have HLEN : Hid (cs.length ≤ 16777216) := hn
            simp only [Reg2.puts, Reg2.dstOf, List.range, List.range.loop, hv0, hv1, hv2, hv3, hv4, if_true, List.drop_succ_cons, List.drop_zero]
            clear hv0 hv1 hv2 hv3 hv4 o2 b4 hΦ
            go_wp2_with (at_builtin; refine wpList_grow rfl (.tmp 82) (.tmp 84) 24 rfl i0 _ 56 Try.underlying24 hi0 hz0 hz1 hz2 rfl (by omega) rfl HO2.out g z _ 30 rfl HB4.out rfl HRR.out (one_itm _ _ HRR.out) HLEN.out (by omega) HLE.out ?_)
            rintro v' w6 hown6 - hbel6 ⟨A6, n6, c6, rfl⟩
            have HO6 := Lib.hid hown6
            have HB6 : Hid (Below w.heap.size w w6) := HBW.out.trans (hbel6.mono HSZ.out)
            clear hown6 hbel6
            go_wp2_with fail
            go_ret2
            exact AdjPost.mk HF.out (HO6.out.at_ (by omega)) HB6.out
      · rw [if_neg (by decide)] at hA hte
        subst hte
        have HF := Lib.hid hA
        clear hA
        rcases hr with q1 | ⟨q1, q2⟩ | ⟨q1, q2, q3⟩
        all_goals
          go_enter Try.func17, Try.ntmps17
          go_wp2_with fail
          refine HN.out.mono ?_
          rintro e w1 ⟨rfl, hb1⟩
          go_wp2_with fail
          refine (HG.out _).mono ?_
          rintro e w2 ⟨rfl, hb2⟩
          have hb3 := below_call hb1 hb2
          go_wp2_with fail
          refine (HTG.out _ hb3).mono ?_
          rintro e w3 ⟨rfl, hb4⟩
          go_wp2_with fail
          refine (HT.out _).mono ?_
          rintro e w4 ⟨rfl, hb5⟩
          have hb6 := below_call (below_call hb3 hb4) hb5
          have HB6 := Lib.hid hb6
          clear hb1 hb2 hb3 hb4 hb5 hb6
          go_wp2_with fail
          go_ret2
          exact AdjPost.mk HF.out (HI.out.call (below_alloc HB6.out _)) (below_alloc HB6.out _)
    · rw [f1] at hfd; cases hfd
  · rw [f1] at hf; cases hf

theorem adjust (v : Value) (cs : List Itm) (least most : Int) (w : World) (h : ItmsAt w v cs) (hn : cs.length ≤ 16777216) (hl' : I64 least) (hm' : I64 most) :
    Calls Try.prog 17 #[v, i least, i most] w (AdjPost cs least most w) := by
  rcases range_ways least most with ⟨hb, hr⟩ | ⟨hb, hl, hm, hr⟩
  · exact adj_bad v cs least most w h hb hr
  · rcases bool_cases (fitI (sNet cs)) with hf | hf
    · rcases adj_gap hl hm hl' hm' hf with ⟨he, hg⟩ | ⟨he, hg⟩
      · exact adj_copy v cs least most w h hn hb hl hm hl' hm' hr hf he hg
      · by_cases hbig : 64 ≤ cs.length
        · exact adj_refuse v cs least most w h hn hb hl hm hr hf he hg (.inl hbig)
        · rcases bool_cases (fitI (bnd (sNet cs) least most - sNet cs)) with hd | hd
          · exact adj_add v cs least most w h hn hb hl hm hr hf he hg hbig hd
          · exact adj_refuse v cs least most w h hn hb hl hm hr hf he hg (.inr ⟨hbig, hd⟩)
    · exact adj_none v cs least most w h hn hb hl hm hr hf
end MonW
end Go.Proofs.Ytpgpibojegjogaa
