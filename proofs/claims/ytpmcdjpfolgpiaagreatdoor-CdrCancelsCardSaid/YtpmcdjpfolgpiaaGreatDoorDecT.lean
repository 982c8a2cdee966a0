/-
  The walk of fields.Take where the bytes are those of fields in order.
  The walk of cdr.takeItems where the bytes are those of items.
  The walk of cdr.take: an arm, a theorem.
  The walk of cdr.Decode on the bytes of a credit.
-/
import Derived.Test.YtpmcdjpfolgpiaaGreatDoorDecA
import Derived.Test.YtpmcdjpfolgpiaaGreatDoorCdrN
namespace Go.Proofs.YtpmcdjpfolgpiaaGreatDoor
namespace EncW
set_option linter.unusedSimpArgs false
set_option linter.unusedVariables false
open Go.RowKit MonW Enc

theorem idle67 (p q : Addr) (w : World) :
    CallsD Tryz.prog 67 #[.pointer (some p), .pointer (some q)] .returning w fun e u' w' => e = .returned (.tuple #[]) ∧ u' = .returning ∧ w' = w := by
  refine callsD_of_wpS Tryz.func67 rfl fun c₀ cs hu => ?_
  apply wpS_seq
  apply wpS_region
  simp [wpOpsS, go_sem, recoverD, hu, Tryz.ntmps67, Exit.thenS]
  refine wpS_seq ?_
  apply wpS_region
  simp [wpOpsS, go_sem, recoverD, hu, Tryz.ntmps67, Exit.thenS]
  refine wpS_cond (t := false) (by simp [Act.eval, Array.replicate]) ?_
  simp only [Bool.false_eq_true, if_false]
  refine wpS_of_wp (wp_skip ?_)
  cases c₀
  simp_all [bodyPostS, results, Tryz.results67]
theorem ownF_keep {base : Nat} {w w' : World} {v : Value} {fs : List Fld} {row : Option Nat} (h : OwnF base w v fs) (hg : w.grownBy w' row) (hr : ∀ k, row = some k → ∃ cs t fz, w.heap[k]? = some (.cells cs t fz) ∧ t ≠ 5 ∧ t ≠ 86) : OwnF base w' v fs := by
  refine Own.mono ?_ (FldR.keep hg (fun k e => by obtain ⟨cs, t, fz, h1, h2, _⟩ := hr k e; exact ⟨cs, t, fz, h1, h2⟩))
  obtain ⟨rs, h1, h2⟩ := h
  refine ⟨rs, h1.kept hg ?_, h2⟩
  rcases h1.2 with ⟨rfl, _⟩ | ⟨g, cap, cur, rfl, _, hg', _⟩
  · exact .inl rfl
  · refine .inr (fun e => ?_)
    obtain ⟨cs, t, fz, h3, _, h4⟩ := hr g e.symm
    rw [hg'] at h3
    cases h3
    exact h4 rfl
theorem ownF_call {base : Nat} {w w' : World} {v : Value} {fs : List Fld} (h : OwnF base w v fs) (hb : Below w.heap.size w w') : OwnF base w' v fs :=
  ownF_keep h (row := none) ⟨hb.os, hb.tape, hb.output, hb.size, fun k hk _ => hb.block k hk⟩ (fun k hk => by cases hk)
theorem own_len {α : Type} {R : List Value → α → Prop} {e : TypeId} {size base : Nat} {w : World} {A : Option Addr} {n c : Nat} {xs : List α} (h : Own R e size base w (.slice A n c) xs) : n = xs.length := by
  obtain ⟨rs, h1, h2⟩ := h
  rcases h1.2 with ⟨e, h0⟩ | ⟨g, cap, cur, e, _⟩
  · cases e
    exact h0.symm
  · cases e
    rfl
/-- The list that grows in B while R is read. -/
structure ColF (w : World) (B : Nat) (v : Value) (ds : List Fld) (xs : List Int) (wr : World) : Prop where
  k0 : Blk wr B 74 #[v]
  k1 : Blk wr (B + 1) 27 #[i 0]
  rd : RdAt wr (B + 1 + 1) xs
  own : OwnF B wr v ds
  bel : Below B w wr
theorem ColF.draw {w wr : World} {B : Nat} {v : Value} {ds : List Fld} {xs : List Int} (h : ColF w B v ds xs wr) : ColF w B v ds xs wr.drew := by
  obtain ⟨a, b, c, d, e⟩ := h
  exact ⟨a, b, c, d, Below.drew e⟩
/-- After the reader's data and the new row. -/
theorem ColF.read {w wr w5 : World} {B : Nat} {v u : Value} {ds : List Fld} {xs d ys : List Int} (h : ColF w B v ds xs wr) (ho : OwnB wr.heap.size w5 u d) (hr : RdAt w5 (B + 1 + 1) ys) (hs : ∀ k, k < wr.heap.size → k ≠ B + 1 + 1 → w5.heap[k]? = wr.heap[k]?) (hb : Below (B + 1 + 1) wr w5) :
    ColF w B v ds ys w5 := by
  have hg := grown_data hs hb
  have hne : ∀ k, some (B + 1 + 1) = some k → ∃ cs t fz, wr.heap[k]? = some (.cells cs t fz) ∧ t = 120 := by
    obtain ⟨_, hk, _⟩ := h.rd
    intro k e
    cases e
    exact ⟨_, _, _, hk, rfl⟩
  refine ⟨blk_keep h.k0 hg ?_, blk_keep h.k1 hg ?_, hr, ownF_keep h.own hg ?_, h.bel.trans (hb.mono (by omega))⟩
  all_goals
    intro k e
    obtain ⟨cs, t, fz, h1, rfl⟩ := hne k e
    exact ⟨_, _, _, h1, by decide⟩
theorem ColF.alloc {w wr : World} {B : Nat} {v : Value} {ds : List Fld} {xs : List Int} (h : ColF w B v ds xs wr) (o : Obj) : ColF w B v ds xs (wr.alloc o) :=
  ⟨h.k0.alloc o, h.k1.alloc o, rdr_call h.rd (below_new wr o), ownF_call h.own (below_new wr o), h.bel.alloc (Nat.le_trans (Nat.le_of_lt h.k0.lt) (Nat.le_refl _)) o⟩
/-- After the append and the store. -/
theorem ColF.put {w wr w5 : World} {B : Nat} {v v5 : Value} {ds es : List Fld} {xs : List Int} (h : ColF w B v ds xs wr) (ho : Own (FldR wr) 86 2 B w5 v5 es) (hg : wr.grownBy w5 v.ownBlock) (hb : Below B wr w5) :
    ColF w B v5 es xs (w5.setCell ⟨B, 0, none⟩ v5) := by
  have hrow := OwnF.row h.own
  have hne : ∀ k, v.ownBlock = some k → ∃ cs t fz, wr.heap[k]? = some (.cells cs t fz) ∧ t = 86 := by
    intro k hk
    obtain ⟨cs, fz, h1⟩ := hrow k hk
    exact ⟨_, _, _, h1, rfl⟩
  have k0 : Blk w5 B 74 #[v] := blk_keep h.k0 hg (fun k e => by obtain ⟨cs, t, fz, h1, rfl⟩ := hne k e; exact ⟨_, _, _, h1, by decide⟩)
  have k1 : Blk w5 (B + 1) 27 #[i 0] := blk_keep h.k1 hg (fun k e => by obtain ⟨cs, t, fz, h1, rfl⟩ := hne k e; exact ⟨_, _, _, h1, by decide⟩)
  have rd : RdAt w5 (B + 1 + 1) xs := rdr_keep h.rd hg (fun k e => by obtain ⟨cs, t, fz, h1, rfl⟩ := hne k e; exact ⟨_, _, _, h1, by decide, by decide⟩)
  have own : OwnF B w5 v5 es := Own.mono ho (FldR.keep hg (fun k e => by obtain ⟨cs, t, fz, h1, rfl⟩ := hne k e; exact ⟨_, _, _, h1, by decide⟩))
  have hg9 := grownBy_setCell' w5 B v5
  refine ⟨by simpa using k0.set_ 0 v5, k1.far (p := ⟨B, 0, none⟩) (by simp) v5, rdr_keep rd hg9 ?_, ownF_keep own hg9 ?_, (h.bel.trans hb).setCell (p := ⟨B, 0, none⟩) (Nat.le_refl _) v5⟩
  all_goals
    intro k e
    cases e
    exact ⟨_, _, _, k0, by decide, by decide⟩
theorem ColF.mid {w wr w5 : World} {B : Nat} {v : Value} {ds : List Fld} {xs : List Int} (h : ColF w B v ds xs wr) (hg : wr.grownBy w5 v.ownBlock) : Blk w5 B 74 #[v] :=
  blk_keep h.k0 hg (fun k e => by obtain ⟨cs, fz, h1⟩ := OwnF.row h.own k e; exact ⟨_, _, _, h1, by decide⟩)
theorem ColF.le {w wr : World} {B : Nat} {v : Value} {ds : List Fld} {xs : List Int} (h : ColF w B v ds xs wr) : B ≤ wr.heap.size := Nat.le_of_lt h.k0.lt
theorem ColF.int {w wr w5 : World} {B : Nat} {v : Value} {ds : List Fld} {xs ys : List Int} (h : ColF w B v ds xs wr) (hr : RdAt w5 (B + 1 + 1) ys) (hs : ∀ k, k ≠ B + 1 + 1 → w5.heap[k]? = wr.heap[k]?) (hb : Below (B + 1 + 1) wr w5) : ColF w B v ds ys w5 := by
  have hg := grown_data (R := B + 1 + 1) (fun k _ hne => hs k hne) hb
  have hne : ∀ k, some (B + 1 + 1) = some k → ∃ cs t fz, wr.heap[k]? = some (.cells cs t fz) ∧ t = 120 := by
    obtain ⟨_, hk, _⟩ := h.rd
    intro k e
    cases e
    exact ⟨_, _, _, hk, rfl⟩
  refine ⟨blk_keep h.k0 hg ?_, blk_keep h.k1 hg ?_, hr, ownF_keep h.own hg ?_, h.bel.trans (hb.mono (by omega))⟩
  all_goals
    intro k e
    obtain ⟨cs, t, fz, h1, rfl⟩ := hne k e
    exact ⟨_, _, _, h1, by decide⟩
def fG (w : World) (B : Nat) (v : Value) (ds : List Fld) (xs ys : List Int) (L : Nat → Bool) (w' : World) : Prop := ColF w B v ds (if L 2 then ys else xs) w'
def fΦ (v : Value) (tag : Int) (d : List Int) (k : Nat) (u : Value) (w' : World) : Prop :=
  if k = 0 then u = v else if k = 1 then u = i tag else if k = 2 then Data w' u d else if k = 3 then ∃ A c, u = .agg #[i tag, .slice A d.length c] ∧ Data w' (.slice A d.length c) d else ∃ g u', u = .slice (some ⟨g, 0, none⟩) 1 1 ∧ Blk w' g 86 #[i tag, u'] ∧ Data w' u' d
theorem fG_of {w : World} {B : Nat} {v : Value} {ds : List Fld} {xs ys : List Int} {L L' : Nat → Bool} {w' : World} (h : fG w B v ds xs ys L w') (e : L' 2 = L 2) : fG w B v ds xs ys L' w' := by
  unfold fG at *
  rw [e]; exact h
theorem fG_alloc {w : World} {B : Nat} {v : Value} {ds : List Fld} {xs ys : List Int} {L L' : Nat → Bool} {w' : World} (h : fG w B v ds xs ys L w') (e : L' 2 = L 2) (o : Obj) : fG w B v ds xs ys L' (w'.alloc o) := by
  unfold fG at *
  rw [e]; exact h.alloc o
theorem fΦ_call {v : Value} {tag : Int} {d : List Int} {w' w'' : World} (hb : Below w'.heap.size w' w'') (k : Nat) (u : Value) (h : fΦ v tag d k u w') : fΦ v tag d k u w'' := by
  unfold fΦ at *
  split
  · rename_i e; rw [if_pos e] at h; exact h
  rename_i e
  rw [if_neg e] at h
  split
  · rename_i e2; rw [if_pos e2] at h; exact h
  rename_i e2
  rw [if_neg e2] at h
  split
  · rename_i e3; rw [if_pos e3] at h; exact Data.call h hb
  rename_i e3
  rw [if_neg e3] at h
  split
  · rename_i e4
    rw [if_pos e4] at h
    obtain ⟨A, c, h1, h2⟩ := h
    exact ⟨A, c, h1, Data.call h2 hb⟩
  · rename_i e4
    rw [if_neg e4] at h
    obtain ⟨g, u', h1, h2, h3⟩ := h
    exact ⟨g, u', h1, h2.call hb, Data.call h3 hb⟩
def fTo (l : List Fld) (k : Nat) : List Int := putF (l.drop k)
theorem fTo_next {l : List Fld} {k : Nat} (h : k < l.length) : fTo l k = encI l[k].tag ++ (encI (l[k].data.length : Int) ++ (l[k].data ++ fTo l (k + 1))) := by
  unfold fTo putF
  rw [List.drop_eq_getElem_cons h, List.flatMap_cons, List.append_assoc, List.append_assoc]
theorem fTo_all (l : List Fld) : fTo l l.length = [] := by unfold fTo putF; rw [List.drop_length]; rfl
theorem fTo_pos {l : List Fld} {k : Nat} (h : k < l.length) : 0 < (fTo l k).length := by
  rw [fTo_next h, List.length_append]
  have := encI_ne l[k].tag
  have := List.length_pos_iff.2 this
  omega

set_option maxRecDepth 100000 in
set_option maxHeartbeats 2000000 in
theorem take (u : Value) (l : List Fld) (w : World) (h : Data w u (putF l)) (hl : OkF l) :
    Calls Tryz.prog 44 #[u] w fun e w' => ∃ v, e = .returned (.tuple #[v, i 0]) ∧ OwnF w.heap.size w' v l ∧ Below w.heap.size w w' := by
  have hmf : ∀ (fn : Fn) (first cap : Array Value) (w : World), (Instr.makeFunc fn first cap).run Tryz.prog w = .ok (.func fn first cap) w := fun _ _ _ _ => rfl
  obtain ⟨i0, hi0, hz0, hz1, hz2⟩ := info_parts infoF
  obtain ⟨A, c, rfl⟩ := Data.slice h
  have HD := Lib.hid h
  have HDS := Lib.hid hl
  have hl256 := hl.1
  clear h hl
  go_enter_defers Tryz.func44, Tryz.ntmps44
  go_wp2_with fail
  have k0 := Blk.new w 74 #[.slice none 0 0]
  have k0b := (k0.alloc (.cells #[.int .i64 0] 27)).alloc (.cells #[.slice A (putF l).length c] 120)
  have k1 := Blk.new (w.alloc (.cells #[.slice none 0 0] 74)) 27 #[.int .i64 0]
  have k1b := k1.alloc (.cells #[.slice A (putF l).length c] 120)
  have k2 := Blk.new ((w.alloc (.cells #[.slice none 0 0] 74)).alloc (.cells #[.int .i64 0] 27)) 120 #[.slice A (putF l).length c]
  have hb3 : Below w.heap.size w (((w.alloc (.cells #[.slice none 0 0] 74)).alloc (.cells #[.int .i64 0] 27)).alloc (.cells #[.slice A (putF l).length c] 120)) := ((below_new w _).alloc (by simp) _).alloc (by simp; omega) _
  have hd3 := Data.call HD.out hb3
  generalize hw3 : (((w.alloc (.cells #[.slice none 0 0] 74)).alloc (.cells #[.int .i64 0] 27)).alloc (.cells #[.slice A (putF l).length c] 120)) = w3 at *
  simp only [World.size_alloc] at k0b k1b k2
  have HC : Hid (ColF w w.heap.size (.slice none 0 0) (l.take 0) (fTo l 0) w3) := ⟨k0b, k1b, ⟨_, k2, hd3⟩, Own.nil, hb3⟩
  clear hw3 hb3 hd3 k0 k0b k1 k1b k2
  generalize hB : w.heap.size = B at *
  have HBE := Lib.hid hB
  clear hB
  have hne1 : ¬ B = B + 1 := by omega
  have hne2 : ¬ B = B + 1 + 1 := by omega
  go_loopg [5] l.length (fun gg s5 wr => ∃ (kk : Nat) (A1 : Option Addr) (n1 c1 : Nat), kk ≤ l.length ∧ l.length - kk ≤ gg ∧ s5 = i (bef l kk) ∧ Hid (ColF w B (.slice A1 n1 c1) (l.take kk) (fTo l kk) wr))
  case atStart => exact ⟨0, _, _, _, Nat.zero_le _, by omega, rfl, HC.out⟩
  case round =>
    obtain ⟨kk, A1, n1, c1, hkk, hg, rfl, HC⟩ := hrel
    by_cases hlt : kk < l.length
    · have hC := HC.out
      obtain ⟨u, hkr, hdr⟩ := hC.rd
      obtain ⟨A7, c7, rfl⟩ := Data.slice hdr
      have q2 := hkr.cell 0
      have q0 := hC.k0.cell 0
      simp at q0 q2
      have hn1 : n1 = kk := by have := own_len hC.own; rw [List.length_take] at this; omega
      have hpos := fTo_pos hlt
      have hposz : (0 : Int) < ((fTo l kk).length : Int) := by omega
      have hn256 : (kk : Int) < 256 := by omega
      have hrd := hC.rd
      rw [fTo_next hlt] at hrd
      have hbl := bef_lt HDS.out hlt
      have hbs := bef_succ hlt
      obtain ⟨o1, o2, o3, o4⟩ := HDS.out.2.1 _ (List.getElem_mem hlt)
      have HT := Lib.hid (take_next hlt)
      subst hn1
      generalize (fTo l n1).length = m7 at *
      generalize l[n1] = f at *
      obtain ⟨tag, d⟩ := f
      simp only at o1 o2 o3 o4 hrd hbl hbs
      generalize bef l n1 = b0 at *
      have HI := Lib.hid (integer (B + 1 + 1) tag _ wr hrd (by unfold I64; omega))
      have HNE := Lib.hid o3
      have HBS := Lib.hid hbs
      clear hC hkr hdr hrd hpos o3 hbs
      go_wp2_with fail
      refine (check _ _).mono ?_
      rintro e _ ⟨rfl, rfl⟩
      go_wp2_with fail
      refine HI.out.mono ?_
      rintro e w5 ⟨rfl, hrd, hsame, hbel⟩
      have HC5 := Lib.hid (HC.out.int hrd hsame hbel)
      clear hrd hsame hbel q0 q2
      go_wp2_with fail
      refine (check _ _).mono ?_
      rintro e _ ⟨rfl, rfl⟩
      go_wp2_with fail
      have hlen : (l.take n1).length ≤ 256 := by rw [List.length_take]; omega
      refine Reg7.region 5 (fG w B (.slice A1 n1 c1) (l.take n1) (encI (d.length : Int) ++ (d ++ fTo l (n1 + 1))) (fTo l (n1 + 1))) (fΦ (.slice A1 n1 c1) tag d) (by kernel_rfl) (by kernel_rfl) ?_ ?_ ?_ ?_
      · exact Reg4.in_of (n := 35) (by kernel_rfl) rfl
      · obtain ⟨a1, a2, a3, a4, a5⟩ := HC5.out
        exact ⟨a1, a2, a3.heap rfl, a4, Below.drew a5⟩
      · intro idx o hj0 ho L a' w' hL hG hop
        have hj' : idx = 0 ∨ idx = 1 ∨ idx = 2 ∨ idx = 3 ∨ idx = 4 := by omega
        rcases hj' with rfl | rfl | rfl | rfl | rfl
        all_goals
          obtain rfl := Option.some.inj ho
          clear ho hj0
        · have h2 : a'.tmps[2]?.getD undef = .pointer (some ⟨B, 0, none⟩) := (Array.getD_eq_getD_getElem? ..).symm.trans (hop 2 (by simp [Op.operands, Call.operands]))
          have q0 := hG.k0.cell 0
          simp at q0
          go_simp
          exact ⟨fG_of hG rfl, rfl, fun k u _ _ _ h => h⟩
        · have h6 : a'.tmps[6]?.getD undef = i tag := (Array.getD_eq_getD_getElem? ..).symm.trans (hop 6 (by simp [Op.operands, Call.operands]))
          go_simp
          exact ⟨fG_of hG rfl, rfl, fun k u _ _ _ h => h⟩
        · have h4 : a'.tmps[4]?.getD undef = .pointer (some ⟨B + 1 + 1, 0, none⟩) := (Array.getD_eq_getD_getElem? ..).symm.trans (hop 4 (by simp [Op.operands, Call.operands]))
          have hG1 : ColF w B (.slice A1 n1 c1) (l.take n1) (encI (d.length : Int) ++ (d ++ fTo l (n1 + 1))) w' := by
            have := hG
            unfold fG at this
            rw [hL] at this
            exact this
          go_simp
          refine (data (B + 1 + 1) d (fTo l (n1 + 1)) w' hG1.rd HNE.out (by omega)).mono ?_
          rintro e w7 ⟨u, rfl, hown, hrd, hsame, hbel⟩
          refine ⟨_, rfl, ?_, Data.of hown, fun k u hk hne hr h => ?_⟩
          · show ColF _ _ _ _ _ _
            exact hG1.read hown hrd hsame hbel
          · have hk' : k = 0 ∨ k = 1 ∨ k = 3 ∨ k = 4 := by omega
            rcases hk' with rfl | rfl | rfl | rfl
            · exact h
            · exact h
            · have e : false = true := hr.symm.trans (by kernel_rfl)
              cases e
            · have e : false = true := hr.symm.trans (by kernel_rfl)
              cases e
        · obtain h30 : Data w' (a'.tmps.getD 30 undef) d := hop 30 (by simp [Op.operands, Call.operands])
          rw [Array.getD_eq_getD_getElem?] at h30
          have h29 : a'.tmps[29]?.getD undef = i tag := (Array.getD_eq_getD_getElem? ..).symm.trans (hop 29 (by simp [Op.operands, Call.operands]))
          obtain ⟨A4, c4, h30e⟩ := Data.slice h30
          rw [h30e] at h30
          go_simp
          exact ⟨fG_of hG rfl, ⟨_, _, rfl, h30⟩, fun k u _ _ _ h => h⟩
        · obtain ⟨A4, c4, h31, hd31⟩ : ∃ A c, a'.tmps.getD 31 undef = .agg #[i tag, .slice A d.length c] ∧ Data w' (.slice A d.length c) d := hop 31 (by simp [Op.operands, Call.operands])
          rw [Array.getD_eq_getD_getElem?] at h31
          go_simp
          exact ⟨fG_alloc hG rfl _, ⟨_, _, rfl, Blk.new w' _ _, Data.call hd31 (below_new w' _)⟩, fun k u _ _ _ h => fΦ_call (below_new w' _) k u h⟩
      · intro L vals w' hL hG hΦ
        have h0 : vals 0 = .slice A1 n1 c1 := hΦ 0 (by omega)
        have h1 : vals 1 = i tag := hΦ 1 (by omega)
        obtain ⟨g, u', h2, hkg, hdg⟩ : ∃ g u', vals 4 = .slice (some ⟨g, 0, none⟩) 1 1 ∧ Blk w' g 86 #[i tag, u'] ∧ Data w' u' d := hΦ 4 (by omega)
        have hC : ColF w B (.slice A1 n1 c1) (l.take n1) (fTo l (n1 + 1)) w' := by
          have := hG
          unfold fG at this
          rw [hL 2 (by omega)] at this
          exact this
        have HC7 := Lib.hid hC
        have HKG := Lib.hid hkg
        have HDG : Hid (FldR w' (#[i tag, u'] : Array Value).toList ⟨tag, d⟩) := ⟨u', rfl, hdg, by obtain ⟨A, c, h⟩ := Data.slice hdg; exact ⟨_, _, _, h⟩⟩
        simp only [Reg4.puts, Reg4.dstOf, List.range, List.range.loop, if_true, List.drop_succ_cons, List.drop_zero, h0, h1, h2]
        generalize vals 2 = v30 at *
        generalize vals 3 = v31 at *
        clear hG hΦ h0 h1 h2 hL hC hkg hdg
        go_wp2_with (at_builtin; refine wpList_grow rfl (.tmp 28) (.tmp 32) 74 rfl i0 _ 32 Tryz.underlying74 hi0 hz0 hz1 hz2 rfl (by omega) rfl HC7.out.own g ⟨tag, d⟩ _ 86 rfl HKG.out rfl HDG.out (one_fld _ _ _ HDG.out) (by omega) (by omega) HC7.out.le ?_)
        rintro v' w6 hown2 hgr hbel2 ⟨A6, n6, c6, rfl⟩
        have k6 := HC7.out.mid hgr
        have q6 := k6.cell 0
        have f6 := k6.frozen
        simp at q6
        have hC6 := HC7.out.put hown2 hgr hbel2
        rw [HT.out] at hC6
        have HC6 := Lib.hid hC6
        clear hown2 hgr hbel2 k6 hC6
        go_wp2_with fail
        go_roundg (l.length - (n1 + 1))
        case measure => omega
        case rel => exact ⟨n1 + 1, _, _, _, by omega, by omega, by rw [HBS.out], HC6.out⟩
    · obtain rfl : kk = l.length := by omega
      have hC := HC.out
      rw [List.take_length, fTo_all] at hC
      obtain ⟨k0, k1, ⟨u, hkr, hdr⟩, own, bel⟩ := hC
      obtain ⟨A7, c7, rfl⟩ := Data.slice hdr
      have q0 := k0.cell 0
      have q1 := k1.cell 0
      have q2 := hkr.cell 0
      have f0 := k0.frozen
      have f1 := k1.frozen
      simp at q0 q1 q2
      have HK0 := Lib.hid k0
      have HK1 := Lib.hid k1
      have HO := Lib.hid own
      have HB9 := Lib.hid bel
      clear k0 k1 hkr hdr own bel
      go_wp2_with fail
      have kk0 := (HK0.out.set_ 0 (.slice A1 n1 c1)).far (p := ⟨B + 1, 0, none⟩) (by simp) (.int .i64 0)
      have kk1 := (HK1.out.far (p := ⟨B, 0, none⟩) (by simp) (.slice A1 n1 c1)).set_ 0 (.int .i64 0)
      have hb9 : Below B w ((wr.setCell ⟨B, 0, none⟩ (.slice A1 n1 c1)).setCell ⟨B + 1, 0, none⟩ (.int .i64 0)) := (HB9.out.setCell (p := ⟨B, 0, none⟩) (Nat.le_refl _) _).setCell (p := ⟨B + 1, 0, none⟩) (by simp) _
      have hg1 := grownBy_setCell' wr B (.slice A1 n1 c1)
      have ho1 := ownF_keep HO.out hg1 (fun k e => by cases e; exact ⟨_, _, _, HK0.out, by decide, by decide⟩)
      have hg2 := grownBy_setCell' (wr.setCell ⟨B, 0, none⟩ (.slice A1 n1 c1)) (B + 1) (.int .i64 0)
      have ho2 := ownF_keep ho1 hg2 (fun k e => by cases e; exact ⟨_, _, _, HK1.out.far (p := ⟨B, 0, none⟩) (by simp) (.slice A1 n1 c1), by decide, by decide⟩)
      generalize (wr.setCell ⟨B, 0, none⟩ (.slice A1 n1 c1)).setCell ⟨B + 1, 0, none⟩ (.int .i64 0) = W at *
      have e0 := kk0.cell 0
      have e1 := kk1.cell 0
      simp at e0 e1
      have HB9 := Lib.hid hb9
      have HO9 := Lib.hid ho2
      clear hb9 kk0 kk1 q0 q1 q2 f0 f1 hg1 ho1 hg2 ho2
      refine leaves_cons (f := 67) (args := #[.pointer (some ⟨B, 0, none⟩), .pointer (some ⟨B + 1, 0, none⟩)]) (by simp) (by simp [go_sem]) ?_
      refine (idle67 _ _ _).mono ?_
      rintro e u' w'' ⟨rfl, rfl, rfl⟩
      have hbz : Below w.heap.size w w'' := by rw [HBE.out]; exact HB9.out
      have hoz : OwnF w.heap.size w'' (.slice A1 n1 c1) l := by rw [HBE.out]; exact HO9.out
      simp [Leaves, settle, results, Tryz.results44, go_sem, e0, e1, hbz, hoz]
end EncW
end Go.Proofs.YtpmcdjpfolgpiaaGreatDoor

namespace Go.Proofs.YtpmcdjpfolgpiaaGreatDoor
namespace EncW
set_option linter.unusedSimpArgs false
set_option linter.unusedVariables false
open Go.RowKit MonW Enc

def arrJ (y1 y2 y3 y4 y5 y6 y7 : Int) : Nat → Array Value
  | 0 => #[i 0, i 0, i 0, i 0, i 0, i 0, i 0]
  | 1 => #[i y1, i 0, i 0, i 0, i 0, i 0, i 0]
  | 2 => #[i y1, i y2, i 0, i 0, i 0, i 0, i 0]
  | 3 => #[i y1, i y2, i y3, i 0, i 0, i 0, i 0]
  | 4 => #[i y1, i y2, i y3, i y4, i 0, i 0, i 0]
  | 5 => #[i y1, i y2, i y3, i y4, i y5, i 0, i 0]
  | 6 => #[i y1, i y2, i y3, i y4, i y5, i y6, i 0]
  | _ => #[i y1, i y2, i y3, i y4, i y5, i y6, i y7]
theorem arr_set {w : World} {g : Nat} {cs cs' : Array Value} {j : Nat} {u : Value} (h : Blk w g 110 cs) (e : cs.setIfInBounds j u = cs') : Blk (w.setCell ⟨g, j, none⟩ u) g 110 cs' := by
  rw [← e]; exact h.set_ j u
theorem ownI_base {base base' : Nat} {w : World} {v : Value} {xs : List Itm} (h : OwnI base w v xs) (hb : base' ≤ base) : OwnI base' w v xs := by
  obtain ⟨rs, h1, h2⟩ := h
  exact ⟨rs, ownsRow_base h1 hb, h2⟩
theorem ownI_keep {base : Nat} {w w' : World} {v : Value} {ds : List Itm} {row : Option Nat} (h : OwnI base w v ds) (hg : w.grownBy w' row) (hr : ∀ k, row = some k → ∃ cs t fz, w.heap[k]? = some (.cells cs t fz) ∧ t ≠ 52) : OwnI base w' v ds := by
  obtain ⟨rs, h1, h2⟩ := h
  refine ⟨rs, h1.kept hg ?_, h2⟩
  rcases h1.2 with ⟨rfl, _⟩ | ⟨g, cap, cur, rfl, _, hg', _⟩
  · exact .inl rfl
  · refine .inr (fun e => ?_)
    obtain ⟨cs, t, fz, h3, h4⟩ := hr g e.symm
    rw [hg'] at h3
    cases h3
    exact h4 rfl
theorem SliceAt_call {w w' : World} {v : Value} {ds : List (List Int)} (h : DatsAt w v ds) (hb : Below w.heap.size w w') : DatsAt w' v ds :=
  SliceAt.keep h (Kept.of hb) (DatR.keep (row := none) ⟨hb.os, hb.tape, hb.output, hb.size, fun k hk _ => hb.block k hk⟩ (fun k e => by cases e))
theorem dats_at {its : List Itm} {k : Nat} (hk : k < its.length) {j : Nat} {y : Int} (hy : (itN its[k])[j]? = some y) : (dats (its.drop k))[j]? = some (encI y) := by
  unfold dats nums
  rw [List.drop_eq_getElem_cons hk, List.flatMap_cons, List.getElem?_map, List.getElem?_append_left (List.getElem?_eq_some_iff.1 hy).1, hy]
  rfl
theorem DatsAt.num {w : World} {A : Option Addr} {n c : Nat} {its : List Itm} {y : Itm} {k : Nat} (h : DatsAt w (.slice A n c) (dats (its.drop k))) (hk : ∃ hk : k < its.length, its[k] = y) (j : Nat) (x : Int) (hy : (itN y)[j]? = some x) :
    ∃ b off u, A = some ⟨b, off, none⟩ ∧ w.cell? ⟨b, off + j, none⟩ = some u ∧ Data w u (encI x) := by
  obtain ⟨hk, rfl⟩ := hk
  obtain ⟨A', c', e, h1, h2, h0, h3⟩ := h
  cases e
  obtain ⟨b, off, r, e1, e2, ⟨u, rfl, hd⟩, e4⟩ := h3 j _ (dats_at hk hy)
  exact ⟨b, off, u, e1, by simpa using e4 0 u rfl, hd⟩
theorem dats_len7 (its : List Itm) : (dats its).length = 7 * its.length := by unfold dats; rw [List.length_map, nums_len]
/-- The list without its first seven. -/
theorem dats_drop7 {its : List Itm} {k : Nat} (hk : k < its.length) : (dats (its.drop k)).drop 7 = dats (its.drop (k + 1)) := by
  unfold dats nums
  rw [List.drop_eq_getElem_cons hk, List.flatMap_cons, ← List.map_drop, List.drop_append_of_le_length (by simp [itN])]
  simp [itN]
theorem DatsAt.drop {w : World} {b off n c : Nat} {ds : List (List Int)} (h : DatsAt w (.slice (some ⟨b, off, none⟩) n c) ds) (h7 : 7 ≤ ds.length) : DatsAt w (.slice (some ⟨b, off + 7, none⟩) (n - 7) (c - 7)) (ds.drop 7) := by
  obtain ⟨A', c', e, h1, h2, h0, h3⟩ := h
  cases e
  refine ⟨_, _, by rw [List.length_drop], by rw [List.length_drop]; omega, by omega, fun e => (by cases e), fun j x hx => ?_⟩
  rw [List.getElem?_drop] at hx
  obtain ⟨b', off', r, e1, e2, e3, e4⟩ := h3 _ x hx
  cases e1
  refine ⟨b, off + 7, r, rfl, e2, e3, fun o u hu => ?_⟩
  have := e4 o u hu
  rw [show off + 7 + j * 1 + o = off + (7 + j) * 1 + o by omega]
  exact this
theorem DatsAt.gone {w : World} {A : Option Addr} : DatsAt w (.slice A 0 0) [] := ⟨A, 0, rfl, Nat.le_refl _, by unfold maxLen; omega, fun _ => rfl, fun j x hx => by simp at hx⟩

set_option maxRecDepth 100000 in
set_option maxHeartbeats 4000000 in
theorem takeItems (u : Value) (its : List Itm) (w : World) (h : Data w u (putL (dats its))) (h1 : 1 ≤ its.length) (h32 : its.length ≤ 32) (hok : ∀ x ∈ its, x.ok) :
    Calls Tryz.prog 74 #[u] w fun e w' => ∃ v, e = .returned v ∧ OwnI w.heap.size w' v its ∧ IsSl v ∧ Below w.heap.size w w' := by
  obtain ⟨i0, hi0, hz0, hz1, hz2⟩ := info_parts infoItm
  obtain ⟨A, c, rfl⟩ := Data.slice h
  have HTL := Lib.hid (takeList _ (dats its) w h (by rw [dats_len7]; omega) (fun d hd => by
    unfold dats at hd
    obtain ⟨x, hx, rfl⟩ := List.mem_map.1 hd
    refine ⟨Nat.le_trans (encI_len ?_) (by omega), encI_ne x⟩
    unfold nums at hx
    obtain ⟨y, hy, hx⟩ := List.mem_flatMap.1 hx
    have hk := hok y hy
    unfold Itm.ok at hk
    unfold itN at hx
    simp at hx
    rcases hx with rfl | rfl | rfl | rfl | rfl | rfl | rfl
    · exact hk.1
    · exact hk.2.1
    · exact hk.2.2.1
    · exact hk.2.2.2.1
    · exact hk.2.2.2.2.1
    · exact hk.2.2.2.2.2.1
    · exact hk.2.2.2.2.2.2))
  have HOKS := Lib.hid hok
  clear h hok
  go_enter Tryz.func74, Tryz.ntmps74
  go_wp2_with fail
  refine HTL.out.mono ?_
  rintro e w1 ⟨v, rfl, hown, hb⟩
  have hds := hown.at_ (by omega)
  obtain ⟨A3, n3, c3, rfl⟩ := ownD_isSl hown
  have hn3 : n3 = 7 * its.length := by have := own_len hown; rw [dats_len7] at this; exact this
  have HDS : Hid (DatsAt w1 (.slice A3 n3 c3) (dats (its.drop 0))) := hds
  have HB1 := Lib.hid hb
  clear hown hds hb
  have z1 : ((n3 : Int) == 0) = false := by simp; omega
  have z2 : ((n3 : Int) % 7 != 0) = false := by
    have : (n3 : Int) % 7 = 0 := by omega
    rw [this]; rfl
  have z3 : (n3 : Int) / 7 = (its.length : Int) := by omega
  have HN3 := Lib.hid hn3
  clear hn3
  go_wp2_with (at_make; refine wpList_make_own _ rfl _ _ 22 rfl w1.heap.size 52 i0 _ 7 Tryz.underlying22 hi0 hz0 hz1 .i64 .i64 _ its.length rfl rfl rfl (by rw [hz2]; omega) (by unfold maxLen; omega) (Nat.le_refl _) ?_)
  intro w0 hown0 hgr0
  have HO0 : Hid (OwnI w1.heap.size w0 (.slice (some ⟨w1.heap.size, 0, none⟩) 0 its.length) (its.take 0)) := Own.made (n := 0) hown0
  have hb0 : Below w1.heap.size w1 w0 := (Below.refl _ _).grown hgr0 (Nat.le_refl _) (fun k hk => by cases hk)
  have HB0 := Lib.hid hb0
  have HBA := Lib.hid HB1.out
  have HLN : Hid (n3 = 7 * (its.length - 0)) := HN3.out
  clear hown0 hgr0 hb0 z1 z2 z3
  go_wp2_with fail
  go_loopg [3, 5] its.length (fun gg s3 s5 wr => ∃ (kk : Nat) (A3 : Option Addr) (n3 c3 : Nat) (A1 : Option Addr) (n1 c1 : Nat), kk ≤ its.length ∧ its.length - kk ≤ gg ∧ s3 = .slice A3 n3 c3 ∧ s5 = .slice A1 n1 c1 ∧ Hid (n3 = 7 * (its.length - kk)) ∧ Hid (DatsAt w1 (.slice A3 n3 c3) (dats (its.drop kk))) ∧ Hid (OwnI w1.heap.size wr (.slice A1 n1 c1) (its.take kk)) ∧ Hid (Below w1.heap.size w1 wr))
  case atStart => exact ⟨0, _, _, _, _, _, _, Nat.zero_le _, by omega, rfl, rfl, HLN, HDS, HO0, HB0⟩
  case round =>
    clear HLN HO0 HB0 HDS HN3 HB1
    obtain ⟨kk, A3, n3, c3, A1, n1, c1, hkk, hg, rfl, rfl, HN3, HDT, HO, BW⟩ := hrel
    obtain ⟨wo, rfl⟩ : ∃ x : World, x = wr := ⟨_, rfl⟩
    by_cases hlt : kk < its.length
    · have hn3 := HN3.out
      have hpz : (0 : Int) < (n3 : Int) := by omega
      have hn7 : 7 ≤ n3 := by omega
      have hpn : 0 < n3 := by omega
      have hn70 : (7 : Int) ≤ (n3 : Int) := by omega
      have HN7 := Lib.hid hn3
      clear hn3
      obtain ⟨y, hy⟩ : ∃ y, its[kk] = y := ⟨_, rfl⟩
      have hyo : y.ok := by rw [← hy]; exact HOKS.out _ (List.getElem_mem hlt)
      have HTK := Lib.hid (show its.take kk ++ [y] = its.take (kk + 1) by rw [← hy]; exact take_next hlt)
      have HIT : Hid (∃ hk : kk < its.length, its[kk] = y) := ⟨hlt, hy⟩
      clear hy
      obtain ⟨y1, y2, y3, y4, y5, y6, y7⟩ := y
      have HOK := Lib.hid hyo
      clear hyo
      go_wp2_with fail
      have HK0 : Hid (Blk (wo.alloc (.cells #[i 0, i 0, i 0, i 0, i 0, i 0, i 0] 110)) wo.heap.size 110 (arrJ y1 y2 y3 y4 y5 y6 y7 0)) := Blk.new wo _ _
      have HQ0 := Lib.hid (below_new wo (.cells #[i 0, i 0, i 0, i 0, i 0, i 0, i 0] 110))
      go_loopg [37] 7 (fun gg s37 wq => ∃ (jj : Nat), jj ≤ 7 ∧ 7 - jj ≤ gg ∧ s37 = i jj ∧ Hid (Blk wq wo.heap.size 110 (arrJ y1 y2 y3 y4 y5 y6 y7 jj)) ∧ Hid (Below wo.heap.size wo wq))
      case atStart => exact ⟨0, by omega, by omega, rfl, HK0, HQ0⟩
      case round =>
        clear HK0 HQ0
        obtain ⟨jj, hjj, hg2, rfl, HK, BQ⟩ := hrel
        by_cases hlt2 : jj < 7
        · rcases (show jj = 0 ∨ jj = 1 ∨ jj = 2 ∨ jj = 3 ∨ jj = 4 ∨ jj = 5 ∨ jj = 6 by omega) with rfl | rfl | rfl | rfl | rfl | rfl | rfl
          · obtain ⟨b, off, u, hA, hu, hdu⟩ := (DatsAt.num (SliceAt_call HDT.out (below_call BW.out BQ.out)) HIT.out 0 y1 rfl)
            cases hA
            obtain ⟨A5, c5, rfl⟩ := Data.slice hdu
            have HTN := Lib.hid (takeNumber _ y1 wr hdu HOK.out.1)
            have hj7 : (0 : Int) < (n3 : Int) := by omega
            have hk7 := HK.out
            have fz := hk7.frozen
            have HKQ := Lib.hid hk7
            try simp at hu
            clear hdu hk7
            go_wp2_with fail
            refine HTN.out.mono ?_
            rintro e w7 ⟨rfl, hb7⟩
            have k7 := HKQ.out.call hb7
            have q7 := k7.cell 0
            have f7 := k7.frozen
            have HK7 := Lib.hid k7
            have HB7 := Lib.hid (below_call BQ.out hb7)
            clear k7 hb7 fz hu
            simp [arrJ] at q7
            go_wp2_with fail
            go_roundg 6
            case measure => omega
            case rel => exact ⟨1, by omega, by omega, by go_num, arr_set HK7.out rfl, HB7.out.setCell (p := ⟨wo.heap.size, 0, none⟩) (Nat.le_refl _) _⟩
          · obtain ⟨b, off, u, hA, hu, hdu⟩ := (DatsAt.num (SliceAt_call HDT.out (below_call BW.out BQ.out)) HIT.out 1 y2 rfl)
            cases hA
            obtain ⟨A5, c5, rfl⟩ := Data.slice hdu
            have HTN := Lib.hid (takeNumber _ y2 wr hdu HOK.out.2.1)
            have hj7 : (1 : Int) < (n3 : Int) := by omega
            have hk7 := HK.out
            have fz := hk7.frozen
            have HKQ := Lib.hid hk7
            try simp at hu
            clear hdu hk7
            go_wp2_with fail
            refine HTN.out.mono ?_
            rintro e w7 ⟨rfl, hb7⟩
            have k7 := HKQ.out.call hb7
            have q7 := k7.cell 1
            have f7 := k7.frozen
            have HK7 := Lib.hid k7
            have HB7 := Lib.hid (below_call BQ.out hb7)
            clear k7 hb7 fz hu
            simp [arrJ] at q7
            go_wp2_with fail
            go_roundg 5
            case measure => omega
            case rel => exact ⟨2, by omega, by omega, by go_num, arr_set HK7.out rfl, HB7.out.setCell (p := ⟨wo.heap.size, 1, none⟩) (Nat.le_refl _) _⟩
          · obtain ⟨b, off, u, hA, hu, hdu⟩ := (DatsAt.num (SliceAt_call HDT.out (below_call BW.out BQ.out)) HIT.out 2 y3 rfl)
            cases hA
            obtain ⟨A5, c5, rfl⟩ := Data.slice hdu
            have HTN := Lib.hid (takeNumber _ y3 wr hdu HOK.out.2.2.1)
            have hj7 : (2 : Int) < (n3 : Int) := by omega
            have hk7 := HK.out
            have fz := hk7.frozen
            have HKQ := Lib.hid hk7
            try simp at hu
            clear hdu hk7
            go_wp2_with fail
            refine HTN.out.mono ?_
            rintro e w7 ⟨rfl, hb7⟩
            have k7 := HKQ.out.call hb7
            have q7 := k7.cell 2
            have f7 := k7.frozen
            have HK7 := Lib.hid k7
            have HB7 := Lib.hid (below_call BQ.out hb7)
            clear k7 hb7 fz hu
            simp [arrJ] at q7
            go_wp2_with fail
            go_roundg 4
            case measure => omega
            case rel => exact ⟨3, by omega, by omega, by go_num, arr_set HK7.out rfl, HB7.out.setCell (p := ⟨wo.heap.size, 2, none⟩) (Nat.le_refl _) _⟩
          · obtain ⟨b, off, u, hA, hu, hdu⟩ := (DatsAt.num (SliceAt_call HDT.out (below_call BW.out BQ.out)) HIT.out 3 y4 rfl)
            cases hA
            obtain ⟨A5, c5, rfl⟩ := Data.slice hdu
            have HTN := Lib.hid (takeNumber _ y4 wr hdu HOK.out.2.2.2.1)
            have hj7 : (3 : Int) < (n3 : Int) := by omega
            have hk7 := HK.out
            have fz := hk7.frozen
            have HKQ := Lib.hid hk7
            try simp at hu
            clear hdu hk7
            go_wp2_with fail
            refine HTN.out.mono ?_
            rintro e w7 ⟨rfl, hb7⟩
            have k7 := HKQ.out.call hb7
            have q7 := k7.cell 3
            have f7 := k7.frozen
            have HK7 := Lib.hid k7
            have HB7 := Lib.hid (below_call BQ.out hb7)
            clear k7 hb7 fz hu
            simp [arrJ] at q7
            go_wp2_with fail
            go_roundg 3
            case measure => omega
            case rel => exact ⟨4, by omega, by omega, by go_num, arr_set HK7.out rfl, HB7.out.setCell (p := ⟨wo.heap.size, 3, none⟩) (Nat.le_refl _) _⟩
          · obtain ⟨b, off, u, hA, hu, hdu⟩ := (DatsAt.num (SliceAt_call HDT.out (below_call BW.out BQ.out)) HIT.out 4 y5 rfl)
            cases hA
            obtain ⟨A5, c5, rfl⟩ := Data.slice hdu
            have HTN := Lib.hid (takeNumber _ y5 wr hdu HOK.out.2.2.2.2.1)
            have hj7 : (4 : Int) < (n3 : Int) := by omega
            have hk7 := HK.out
            have fz := hk7.frozen
            have HKQ := Lib.hid hk7
            try simp at hu
            clear hdu hk7
            go_wp2_with fail
            refine HTN.out.mono ?_
            rintro e w7 ⟨rfl, hb7⟩
            have k7 := HKQ.out.call hb7
            have q7 := k7.cell 4
            have f7 := k7.frozen
            have HK7 := Lib.hid k7
            have HB7 := Lib.hid (below_call BQ.out hb7)
            clear k7 hb7 fz hu
            simp [arrJ] at q7
            go_wp2_with fail
            go_roundg 2
            case measure => omega
            case rel => exact ⟨5, by omega, by omega, by go_num, arr_set HK7.out rfl, HB7.out.setCell (p := ⟨wo.heap.size, 4, none⟩) (Nat.le_refl _) _⟩
          · obtain ⟨b, off, u, hA, hu, hdu⟩ := (DatsAt.num (SliceAt_call HDT.out (below_call BW.out BQ.out)) HIT.out 5 y6 rfl)
            cases hA
            obtain ⟨A5, c5, rfl⟩ := Data.slice hdu
            have HTN := Lib.hid (takeNumber _ y6 wr hdu HOK.out.2.2.2.2.2.1)
            have hj7 : (5 : Int) < (n3 : Int) := by omega
            have hk7 := HK.out
            have fz := hk7.frozen
            have HKQ := Lib.hid hk7
            try simp at hu
            clear hdu hk7
            go_wp2_with fail
            refine HTN.out.mono ?_
            rintro e w7 ⟨rfl, hb7⟩
            have k7 := HKQ.out.call hb7
            have q7 := k7.cell 5
            have f7 := k7.frozen
            have HK7 := Lib.hid k7
            have HB7 := Lib.hid (below_call BQ.out hb7)
            clear k7 hb7 fz hu
            simp [arrJ] at q7
            go_wp2_with fail
            go_roundg 1
            case measure => omega
            case rel => exact ⟨6, by omega, by omega, by go_num, arr_set HK7.out rfl, HB7.out.setCell (p := ⟨wo.heap.size, 5, none⟩) (Nat.le_refl _) _⟩
          · obtain ⟨b, off, u, hA, hu, hdu⟩ := (DatsAt.num (SliceAt_call HDT.out (below_call BW.out BQ.out)) HIT.out 6 y7 rfl)
            cases hA
            obtain ⟨A5, c5, rfl⟩ := Data.slice hdu
            have HTN := Lib.hid (takeNumber _ y7 wr hdu HOK.out.2.2.2.2.2.2)
            have hj7 : (6 : Int) < (n3 : Int) := by omega
            have hk7 := HK.out
            have fz := hk7.frozen
            have HKQ := Lib.hid hk7
            try simp at hu
            clear hdu hk7
            go_wp2_with fail
            refine HTN.out.mono ?_
            rintro e w7 ⟨rfl, hb7⟩
            have k7 := HKQ.out.call hb7
            have q7 := k7.cell 6
            have f7 := k7.frozen
            have HK7 := Lib.hid k7
            have HB7 := Lib.hid (below_call BQ.out hb7)
            clear k7 hb7 fz hu
            simp [arrJ] at q7
            go_wp2_with fail
            go_roundg 0
            case measure => omega
            case rel => exact ⟨7, by omega, by omega, by go_num, arr_set HK7.out rfl, HB7.out.setCell (p := ⟨wo.heap.size, 6, none⟩) (Nat.le_refl _) _⟩
        · obtain rfl : jj = 7 := by omega
          have hk7 := HK.out
          have q0 := hk7.cell 0
          have q1 := hk7.cell 1
          have q2 := hk7.cell 2
          have q3 := hk7.cell 3
          have q4 := hk7.cell 4
          have q5 := hk7.cell 5
          have q6 := hk7.cell 6
          simp [arrJ] at q0 q1 q2 q3 q4 q5 q6
          clear hk7
          have hbq := below_call BW.out BQ.out
          have HO1 := Lib.hid (Own.call (Own.call HO.out BQ.out) (below_new wr (.cells #[i y1, i y2, i y3, i y4, i y5, i y6, i y7] 52)))
          have HB1 := Lib.hid (below_alloc hbq (.cells #[i y1, i y2, i y3, i y4, i y5, i y6, i y7] 52))
          have HDQ := Lib.hid (SliceAt_call (SliceAt_call HDT.out (below_call BW.out BQ.out)) (below_new wr (.cells #[i y1, i y2, i y3, i y4, i y5, i y6, i y7] 52)))
          have hlen : (its.take kk).length ≤ 16777216 := by rw [List.length_take]; omega
          clear hbq
          go_wp2_with (at_builtin; refine wpList_grow rfl (.tmp 48) (.tmp 64) 22 rfl i0 _ 56 Tryz.underlying22 hi0 hz0 hz1 hz2 rfl (by omega) rfl HO1.out wr.heap.size ⟨y1, y2, y3, y4, y5, y6, y7⟩ _ 52 rfl (Blk.new wr _ _) rfl (itmR_lit HOK.out) (one_itm _ _ (itmR_lit HOK.out)) hlen (by omega) HB1.out.size ?_)
          rintro v' w2 hown2 hgr2 hbel2 ⟨A2, n2, c2, rfl⟩
          have HO2 : Hid (OwnI w1.heap.size w2 (.slice A2 n2 c2) (its.take (kk + 1))) := by
            show OwnI _ _ _ _
            rw [← HTK.out]; exact hown2
          have HB2 := Lib.hid (HB1.out.trans hbel2)
          have hl7 : 7 ≤ (dats (its.drop kk)).length := by rw [dats_len7, List.length_drop]; omega
          obtain ⟨hn3e, hnc, hcm⟩ := SliceAt.len HDT.out
          have HNE := Lib.hid hn3e
          obtain ⟨b, off, r, rfl, -, -, -⟩ := SliceAt.at_ HDT.out (j := 0) (by omega)
          have HD2 := Lib.hid (DatsAt.drop HDT.out hl7)
          clear hn3e hown2 hgr2 hbel2 q0 q1 q2 q3 q4 q5 q6 HO1 HB1
          by_cases hc7 : c3 = 7
          · have hn7e : n3 = 7 := by omega
            have HZ : Hid (DatsAt w1 (.slice (some ⟨b, off, none⟩) 0 0) (dats (its.drop (kk + 1)))) := by
              show DatsAt _ _ _
              have e : dats (its.drop (kk + 1)) = [] := by
                refine List.eq_nil_of_length_eq_zero ?_
                rw [dats_len7, List.length_drop]
                have := HN7.out
                omega
              rw [e]; exact DatsAt.gone
            have HN9 : Hid (0 = 7 * (its.length - (kk + 1))) := by show _ = _; have := HN7.out; omega
            subst hc7
            subst hn7e
            go_wp2_with fail
            go_roundg (its.length - (kk + 1))
            case measure => omega
            case rel => exact ⟨kk + 1, _, _, _, _, _, _, by omega, by omega, rfl, rfl, HN9, HZ, HO2, HB2⟩
          · have hc8 : ¬ c3 - 7 = 0 := by omega
            have HZ : Hid (DatsAt w1 (.slice (some ⟨b, off + 7, none⟩) (n3 - 7) (c3 - 7)) (dats (its.drop (kk + 1)))) := by
              show DatsAt _ _ _
              rw [← dats_drop7 hlt]; exact HD2.out
            have HN9 : Hid (n3 - 7 = 7 * (its.length - (kk + 1))) := by show _ = _; have := HN7.out; omega
            go_wp2_with fail
            go_roundg (its.length - (kk + 1))
            case measure => omega
            case rel => exact ⟨kk + 1, _, _, _, _, _, _, by omega, by omega, rfl, rfl, HN9, HZ, HO2, HB2⟩
    · obtain rfl : kk = its.length := by omega
      have hn3 : n3 = 0 := by have := HN3.out; omega
      subst hn3
      rw [List.take_length] at HO
      have HI := Lib.hid (ownI_base HO.out HBA.out.size)
      go_wp2_with fail
      go_ret
      exact ⟨_, rfl, HI.out, ⟨_, _, _, rfl⟩, below_call HBA.out BW.out⟩
end EncW
end Go.Proofs.YtpmcdjpfolgpiaaGreatDoor

namespace Go.Proofs.YtpmcdjpfolgpiaaGreatDoor
namespace EncW
set_option linter.unusedSimpArgs false
set_option linter.unusedVariables false
open Go.RowKit MonW Enc

theorem grown_set (W : World) (p : Addr) (v : Value) : W.grownBy (W.setCell p v) (some p.block) :=
  ⟨rfl, rfl, rfl, Nat.le_of_eq (World.size_setCell W p v).symm, fun k _ hne => Below.heap_setCell W p v k (fun e => hne (by rw [e]))⟩
/-- What an arm leaves. -/
def TkPost (C : Nat) (cs : Array Value) (w : World) (e : Ending) (w' : World) : Prop := e = .returned (.tuple #[]) ∧ Blk w' C 24 cs ∧ (∀ b, b < w.heap.size → b ≠ C → w'.heap[b]? = w.heap[b]?) ∧ Below C w w'
theorem tk_end {C j : Nat} {cs cs' : Array Value} {w w1 : World} {v : Value} (hk : Blk w1 C 24 cs) (hb : Below w.heap.size w w1) (hC : C < w.heap.size) (e : cs.setIfInBounds j v = cs') : TkPost C cs' w (.returned (.tuple #[])) (w1.setCell ⟨C, j, none⟩ v) :=
  ⟨rfl, by rw [← e]; exact hk.set_ j v, fun b h1 h2 => (Below.heap_setCell w1 ⟨C, j, none⟩ v b h2).trans (hb.block b h1), ((hb.mono (Nat.le_of_lt hC))).setCell (p := ⟨C, j, none⟩) (Nat.le_refl _) v⟩

set_option maxRecDepth 100000 in
set_option maxHeartbeats 1000000 in
theorem take_1 (C : Nat) (a0 a1 a2 a3 a4 a5 a6 a7 a8 a9 a10 a11 a12 a13 : Value) (u : Value) (s : ByteArray) (w : World) (hk : Blk w C 24 #[a0, a1, a2, a3, a4, a5, a6, a7, a8, a9, a10, a11, a12, a13]) (hd : Data w u (strB s)) (hn : strB s ≠ []) :
    Calls Tryz.prog 45 #[.pointer (some ⟨C, 0, none⟩), .agg #[i 1, u]] w (TkPost C #[.string s, a1, a2, a3, a4, a5, a6, a7, a8, a9, a10, a11, a12, a13] w) := by
  obtain ⟨A, c, rfl⟩ := Data.slice hd
  have hC := hk.lt
  have hkw := hk.alloc (.cells #[i 1, .slice A (strB s).length c] 86)
  have hdw := Data.call hd (below_new w (.cells #[i 1, .slice A (strB s).length c] 86))
  have HT := Lib.hid (takeText _ s (w.alloc (.cells #[i 1, .slice A (strB s).length c] 86)) hdw hn)
  have HB := Lib.hid (below_new w (.cells #[i 1, .slice A (strB s).length c] 86))
  have HK := Lib.hid hkw
  have HC := Lib.hid hC
  have q := hkw.cell 0
  have f := hkw.frozen
  simp at q
  clear hd hk hkw hdw hn hC
  go_enter Tryz.func45, Tryz.ntmps45
  go_wp2_with fail
  refine HT.out.mono ?_
  rintro e w1 ⟨rfl, hw1⟩
  subst w1
  go_wp2_with fail
  go_end0
  exact tk_end HK.out HB.out HC.out rfl

set_option maxRecDepth 100000 in
set_option maxHeartbeats 1000000 in
theorem take_2 (C : Nat) (a0 a1 a2 a3 a4 a5 a6 a7 a8 a9 a10 a11 a12 a13 : Value) (u : Value) (s : ByteArray) (w : World) (hk : Blk w C 24 #[a0, a1, a2, a3, a4, a5, a6, a7, a8, a9, a10, a11, a12, a13]) (hd : Data w u (strB s)) (hn : strB s ≠ []) :
    Calls Tryz.prog 45 #[.pointer (some ⟨C, 0, none⟩), .agg #[i 2, u]] w (TkPost C #[a0, .string s, a2, a3, a4, a5, a6, a7, a8, a9, a10, a11, a12, a13] w) := by
  obtain ⟨A, c, rfl⟩ := Data.slice hd
  have hC := hk.lt
  have hkw := hk.alloc (.cells #[i 2, .slice A (strB s).length c] 86)
  have hdw := Data.call hd (below_new w (.cells #[i 2, .slice A (strB s).length c] 86))
  have HT := Lib.hid (takeText _ s (w.alloc (.cells #[i 2, .slice A (strB s).length c] 86)) hdw hn)
  have HB := Lib.hid (below_new w (.cells #[i 2, .slice A (strB s).length c] 86))
  have HK := Lib.hid hkw
  have HC := Lib.hid hC
  have q := hkw.cell 1
  have f := hkw.frozen
  simp at q
  clear hd hk hkw hdw hn hC
  go_enter Tryz.func45, Tryz.ntmps45
  go_wp2_with fail
  refine HT.out.mono ?_
  rintro e w1 ⟨rfl, hw1⟩
  subst w1
  go_wp2_with fail
  go_end0
  exact tk_end HK.out HB.out HC.out rfl

set_option maxRecDepth 100000 in
set_option maxHeartbeats 1000000 in
theorem take_3 (C : Nat) (a0 a1 a2 a3 a4 a5 a6 a7 a8 a9 a10 a11 a12 a13 : Value) (u : Value) (s : ByteArray) (w : World) (hk : Blk w C 24 #[a0, a1, a2, a3, a4, a5, a6, a7, a8, a9, a10, a11, a12, a13]) (hd : Data w u (strB s)) (hn : strB s ≠ []) :
    Calls Tryz.prog 45 #[.pointer (some ⟨C, 0, none⟩), .agg #[i 3, u]] w (TkPost C #[a0, a1, .string s, a3, a4, a5, a6, a7, a8, a9, a10, a11, a12, a13] w) := by
  obtain ⟨A, c, rfl⟩ := Data.slice hd
  have hC := hk.lt
  have hkw := hk.alloc (.cells #[i 3, .slice A (strB s).length c] 86)
  have hdw := Data.call hd (below_new w (.cells #[i 3, .slice A (strB s).length c] 86))
  have HT := Lib.hid (takeText _ s (w.alloc (.cells #[i 3, .slice A (strB s).length c] 86)) hdw hn)
  have HB := Lib.hid (below_new w (.cells #[i 3, .slice A (strB s).length c] 86))
  have HK := Lib.hid hkw
  have HC := Lib.hid hC
  have q := hkw.cell 2
  have f := hkw.frozen
  simp at q
  clear hd hk hkw hdw hn hC
  go_enter Tryz.func45, Tryz.ntmps45
  go_wp2_with fail
  refine HT.out.mono ?_
  rintro e w1 ⟨rfl, hw1⟩
  subst w1
  go_wp2_with fail
  go_end0
  exact tk_end HK.out HB.out HC.out rfl

set_option maxRecDepth 100000 in
set_option maxHeartbeats 1000000 in
theorem take_4 (C : Nat) (a0 a1 a2 a3 a4 a5 a6 a7 a8 a9 a10 a11 a12 a13 : Value) (u : Value) (s : ByteArray) (w : World) (hk : Blk w C 24 #[a0, a1, a2, a3, a4, a5, a6, a7, a8, a9, a10, a11, a12, a13]) (hd : Data w u (strB s)) (hn : strB s ≠ []) :
    Calls Tryz.prog 45 #[.pointer (some ⟨C, 0, none⟩), .agg #[i 4, u]] w (TkPost C #[a0, a1, a2, .string s, a4, a5, a6, a7, a8, a9, a10, a11, a12, a13] w) := by
  obtain ⟨A, c, rfl⟩ := Data.slice hd
  have hC := hk.lt
  have hkw := hk.alloc (.cells #[i 4, .slice A (strB s).length c] 86)
  have hdw := Data.call hd (below_new w (.cells #[i 4, .slice A (strB s).length c] 86))
  have HT := Lib.hid (takeText _ s (w.alloc (.cells #[i 4, .slice A (strB s).length c] 86)) hdw hn)
  have HB := Lib.hid (below_new w (.cells #[i 4, .slice A (strB s).length c] 86))
  have HK := Lib.hid hkw
  have HC := Lib.hid hC
  have q := hkw.cell 3
  have f := hkw.frozen
  simp at q
  clear hd hk hkw hdw hn hC
  go_enter Tryz.func45, Tryz.ntmps45
  go_wp2_with fail
  refine HT.out.mono ?_
  rintro e w1 ⟨rfl, hw1⟩
  subst w1
  go_wp2_with fail
  go_end0
  exact tk_end HK.out HB.out HC.out rfl

set_option maxRecDepth 100000 in
set_option maxHeartbeats 1000000 in
theorem take_5 (C : Nat) (a0 a1 a2 a3 a4 a5 a6 a7 a8 a9 a10 a11 a12 a13 : Value) (u : Value) (n : Int) (w : World) (hk : Blk w C 24 #[a0, a1, a2, a3, a4, a5, a6, a7, a8, a9, a10, a11, a12, a13]) (hd : Data w u (encI n)) (hn : I64 n) (h0 : n ≠ 0) :
    Calls Tryz.prog 45 #[.pointer (some ⟨C, 0, none⟩), .agg #[i 5, u]] w (TkPost C #[a0, a1, a2, a3, i n, a5, a6, a7, a8, a9, a10, a11, a12, a13] w) := by
  obtain ⟨A, c, rfl⟩ := Data.slice hd
  have hC := hk.lt
  have hkw := hk.alloc (.cells #[i 5, .slice A (encI n).length c] 86)
  have hdw := Data.call hd (below_new w (.cells #[i 5, .slice A (encI n).length c] 86))
  have HT := Lib.hid (takeField _ n (w.alloc (.cells #[i 5, .slice A (encI n).length c] 86)) hdw hn h0)
  have HB := Lib.hid (below_new w (.cells #[i 5, .slice A (encI n).length c] 86))
  have HK := Lib.hid hkw
  have HC := Lib.hid hC
  clear hd hk hkw hdw hn h0 hC
  go_enter Tryz.func45, Tryz.ntmps45
  go_wp2_with fail
  refine HT.out.mono ?_
  rintro e w1 ⟨rfl, hb⟩
  have hk1 := HK.out.call hb
  have q := hk1.cell 4
  have f := hk1.frozen
  simp at q
  have HK1 := Lib.hid hk1
  have HB1 := Lib.hid (below_call HB.out hb)
  clear hk1 hb
  go_wp2_with fail
  go_end0
  exact tk_end HK1.out HB1.out HC.out rfl

set_option maxRecDepth 100000 in
set_option maxHeartbeats 1000000 in
theorem take_6 (C : Nat) (a0 a1 a2 a3 a4 a5 a6 a7 a8 a9 a10 a11 a12 a13 : Value) (u : Value) (n : Int) (w : World) (hk : Blk w C 24 #[a0, a1, a2, a3, a4, a5, a6, a7, a8, a9, a10, a11, a12, a13]) (hd : Data w u (encI n)) (hn : I64 n) (h0 : n ≠ 0) :
    Calls Tryz.prog 45 #[.pointer (some ⟨C, 0, none⟩), .agg #[i 6, u]] w (TkPost C #[a0, a1, a2, a3, a4, i n, a6, a7, a8, a9, a10, a11, a12, a13] w) := by
  obtain ⟨A, c, rfl⟩ := Data.slice hd
  have hC := hk.lt
  have hkw := hk.alloc (.cells #[i 6, .slice A (encI n).length c] 86)
  have hdw := Data.call hd (below_new w (.cells #[i 6, .slice A (encI n).length c] 86))
  have HT := Lib.hid (takeField _ n (w.alloc (.cells #[i 6, .slice A (encI n).length c] 86)) hdw hn h0)
  have HB := Lib.hid (below_new w (.cells #[i 6, .slice A (encI n).length c] 86))
  have HK := Lib.hid hkw
  have HC := Lib.hid hC
  clear hd hk hkw hdw hn h0 hC
  go_enter Tryz.func45, Tryz.ntmps45
  go_wp2_with fail
  refine HT.out.mono ?_
  rintro e w1 ⟨rfl, hb⟩
  have hk1 := HK.out.call hb
  have q := hk1.cell 5
  have f := hk1.frozen
  simp at q
  have HK1 := Lib.hid hk1
  have HB1 := Lib.hid (below_call HB.out hb)
  clear hk1 hb
  go_wp2_with fail
  go_end0
  exact tk_end HK1.out HB1.out HC.out rfl

set_option maxRecDepth 100000 in
set_option maxHeartbeats 1000000 in
theorem take_7 (C : Nat) (a0 a1 a2 a3 a4 a5 a6 a7 a8 a9 a10 a11 a12 a13 : Value) (u : Value) (n : Int) (w : World) (hk : Blk w C 24 #[a0, a1, a2, a3, a4, a5, a6, a7, a8, a9, a10, a11, a12, a13]) (hd : Data w u (encI n)) (hn : I64 n) (h0 : n ≠ 0) :
    Calls Tryz.prog 45 #[.pointer (some ⟨C, 0, none⟩), .agg #[i 7, u]] w (TkPost C #[a0, a1, a2, a3, a4, a5, i n, a7, a8, a9, a10, a11, a12, a13] w) := by
  obtain ⟨A, c, rfl⟩ := Data.slice hd
  have hC := hk.lt
  have hkw := hk.alloc (.cells #[i 7, .slice A (encI n).length c] 86)
  have hdw := Data.call hd (below_new w (.cells #[i 7, .slice A (encI n).length c] 86))
  have HT := Lib.hid (takeField _ n (w.alloc (.cells #[i 7, .slice A (encI n).length c] 86)) hdw hn h0)
  have HB := Lib.hid (below_new w (.cells #[i 7, .slice A (encI n).length c] 86))
  have HK := Lib.hid hkw
  have HC := Lib.hid hC
  clear hd hk hkw hdw hn h0 hC
  go_enter Tryz.func45, Tryz.ntmps45
  go_wp2_with fail
  refine HT.out.mono ?_
  rintro e w1 ⟨rfl, hb⟩
  have hk1 := HK.out.call hb
  have q := hk1.cell 6
  have f := hk1.frozen
  simp at q
  have HK1 := Lib.hid hk1
  have HB1 := Lib.hid (below_call HB.out hb)
  clear hk1 hb
  go_wp2_with fail
  go_end0
  exact tk_end HK1.out HB1.out HC.out rfl

set_option maxRecDepth 100000 in
set_option maxHeartbeats 1000000 in
theorem take_8 (C : Nat) (a0 a1 a2 a3 a4 a5 a6 a7 a8 a9 a10 a11 a12 a13 : Value) (u : Value) (n : Int) (w : World) (hk : Blk w C 24 #[a0, a1, a2, a3, a4, a5, a6, a7, a8, a9, a10, a11, a12, a13]) (hd : Data w u (encI n)) (hn : I64 n) (h0 : n ≠ 0) :
    Calls Tryz.prog 45 #[.pointer (some ⟨C, 0, none⟩), .agg #[i 8, u]] w (TkPost C #[a0, a1, a2, a3, a4, a5, a6, i n, a8, a9, a10, a11, a12, a13] w) := by
  obtain ⟨A, c, rfl⟩ := Data.slice hd
  have hC := hk.lt
  have hkw := hk.alloc (.cells #[i 8, .slice A (encI n).length c] 86)
  have hdw := Data.call hd (below_new w (.cells #[i 8, .slice A (encI n).length c] 86))
  have HT := Lib.hid (takeField _ n (w.alloc (.cells #[i 8, .slice A (encI n).length c] 86)) hdw hn h0)
  have HB := Lib.hid (below_new w (.cells #[i 8, .slice A (encI n).length c] 86))
  have HK := Lib.hid hkw
  have HC := Lib.hid hC
  clear hd hk hkw hdw hn h0 hC
  go_enter Tryz.func45, Tryz.ntmps45
  go_wp2_with fail
  refine HT.out.mono ?_
  rintro e w1 ⟨rfl, hb⟩
  have hk1 := HK.out.call hb
  have q := hk1.cell 7
  have f := hk1.frozen
  simp at q
  have HK1 := Lib.hid hk1
  have HB1 := Lib.hid (below_call HB.out hb)
  clear hk1 hb
  go_wp2_with fail
  go_end0
  exact tk_end HK1.out HB1.out HC.out rfl

set_option maxRecDepth 100000 in
set_option maxHeartbeats 1000000 in
theorem take_9 (C : Nat) (a0 a1 a2 a3 a4 a5 a6 a7 a8 a9 a10 a11 a12 a13 : Value) (u : Value) (s : ByteArray) (w : World) (hk : Blk w C 24 #[a0, a1, a2, a3, a4, a5, a6, a7, a8, a9, a10, a11, a12, a13]) (hd : Data w u (strB s)) (hn : strB s ≠ []) :
    Calls Tryz.prog 45 #[.pointer (some ⟨C, 0, none⟩), .agg #[i 9, u]] w (TkPost C #[a0, a1, a2, a3, a4, a5, a6, a7, .string s, a9, a10, a11, a12, a13] w) := by
  obtain ⟨A, c, rfl⟩ := Data.slice hd
  have hC := hk.lt
  have hkw := hk.alloc (.cells #[i 9, .slice A (strB s).length c] 86)
  have hdw := Data.call hd (below_new w (.cells #[i 9, .slice A (strB s).length c] 86))
  have HT := Lib.hid (takeText _ s (w.alloc (.cells #[i 9, .slice A (strB s).length c] 86)) hdw hn)
  have HB := Lib.hid (below_new w (.cells #[i 9, .slice A (strB s).length c] 86))
  have HK := Lib.hid hkw
  have HC := Lib.hid hC
  have q := hkw.cell 8
  have f := hkw.frozen
  simp at q
  clear hd hk hkw hdw hn hC
  go_enter Tryz.func45, Tryz.ntmps45
  go_wp2_with fail
  refine HT.out.mono ?_
  rintro e w1 ⟨rfl, hw1⟩
  subst w1
  go_wp2_with fail
  go_end0
  exact tk_end HK.out HB.out HC.out rfl

set_option maxRecDepth 100000 in
set_option maxHeartbeats 1000000 in
theorem take_10 (C : Nat) (a0 a1 a2 a3 a4 a5 a6 a7 a8 a9 a10 a11 a12 a13 : Value) (u : Value) (s : ByteArray) (w : World) (hk : Blk w C 24 #[a0, a1, a2, a3, a4, a5, a6, a7, a8, a9, a10, a11, a12, a13]) (hd : Data w u (strB s)) (hn : strB s ≠ []) :
    Calls Tryz.prog 45 #[.pointer (some ⟨C, 0, none⟩), .agg #[i 10, u]] w (TkPost C #[a0, a1, a2, a3, a4, a5, a6, a7, a8, .string s, a10, a11, a12, a13] w) := by
  obtain ⟨A, c, rfl⟩ := Data.slice hd
  have hC := hk.lt
  have hkw := hk.alloc (.cells #[i 10, .slice A (strB s).length c] 86)
  have hdw := Data.call hd (below_new w (.cells #[i 10, .slice A (strB s).length c] 86))
  have HT := Lib.hid (takeText _ s (w.alloc (.cells #[i 10, .slice A (strB s).length c] 86)) hdw hn)
  have HB := Lib.hid (below_new w (.cells #[i 10, .slice A (strB s).length c] 86))
  have HK := Lib.hid hkw
  have HC := Lib.hid hC
  have q := hkw.cell 9
  have f := hkw.frozen
  simp at q
  clear hd hk hkw hdw hn hC
  go_enter Tryz.func45, Tryz.ntmps45
  go_wp2_with fail
  refine HT.out.mono ?_
  rintro e w1 ⟨rfl, hw1⟩
  subst w1
  go_wp2_with fail
  go_end0
  exact tk_end HK.out HB.out HC.out rfl

set_option maxRecDepth 100000 in
set_option maxHeartbeats 1000000 in
theorem take_11 (C : Nat) (a0 a1 a2 a3 a4 a5 a6 a7 a8 a9 a10 a11 a12 a13 : Value) (u : Value) (its : List Itm) (w : World) (hk : Blk w C 24 #[a0, a1, a2, a3, a4, a5, a6, a7, a8, a9, a10, a11, a12, a13]) (hd : Data w u (putL (dats its))) (h1 : 1 ≤ its.length) (h32 : its.length ≤ 32) (hok : ∀ x ∈ its, x.ok) :
    Calls Tryz.prog 45 #[.pointer (some ⟨C, 0, none⟩), .agg #[i 11, u]] w (fun e w' => ∃ v, TkPost C #[a0, a1, a2, a3, a4, a5, a6, a7, a8, a9, v, a11, a12, a13] w e w' ∧ OwnI w.heap.size w' v its ∧ IsSl v) := by
  obtain ⟨A, c, rfl⟩ := Data.slice hd
  have hC := hk.lt
  have hkw := hk.alloc (.cells #[i 11, .slice A (putL (dats its)).length c] 86)
  have hdw := Data.call hd (below_new w (.cells #[i 11, .slice A (putL (dats its)).length c] 86))
  have HT := Lib.hid (takeItems _ its (w.alloc (.cells #[i 11, .slice A (putL (dats its)).length c] 86)) hdw h1 h32 hok)
  have HB := Lib.hid (below_new w (.cells #[i 11, .slice A (putL (dats its)).length c] 86))
  have HK := Lib.hid hkw
  have HC := Lib.hid hC
  clear hd hk hkw hdw h1 h32 hok hC
  go_enter Tryz.func45, Tryz.ntmps45
  go_wp2_with fail
  refine HT.out.mono ?_
  rintro e w1 ⟨v, rfl, hv, ⟨A2, n2, c2, rfl⟩, hb⟩
  have hk1 := HK.out.call hb
  have q := hk1.cell 10
  have f := hk1.frozen
  simp at q
  have HK1 := Lib.hid hk1
  have HV := Lib.hid hv
  have HB1 := Lib.hid (below_call HB.out hb)
  clear hk1 hb hv
  go_wp2_with fail
  go_end0
  exact ⟨_, tk_end HK1.out HB1.out HC.out rfl, ownI_keep (ownI_base HV.out (by simp)) (grown_set w1 ⟨C, 10, none⟩ _) (fun k e => by cases e; exact ⟨_, _, _, HK1.out, by decide⟩), _, _, _, rfl⟩

set_option maxRecDepth 100000 in
set_option maxHeartbeats 1000000 in
theorem take_12 (C : Nat) (a0 a1 a2 a3 a4 a5 a6 a7 a8 a9 a10 a11 a12 a13 : Value) (u : Value) (n : Int) (w : World) (hk : Blk w C 24 #[a0, a1, a2, a3, a4, a5, a6, a7, a8, a9, a10, a11, a12, a13]) (hd : Data w u (encI n)) (hn : I64 n) (h0 : n ≠ 0) :
    Calls Tryz.prog 45 #[.pointer (some ⟨C, 0, none⟩), .agg #[i 12, u]] w (TkPost C #[a0, a1, a2, a3, a4, a5, a6, a7, a8, a9, a10, i n, a12, a13] w) := by
  obtain ⟨A, c, rfl⟩ := Data.slice hd
  have hC := hk.lt
  have hkw := hk.alloc (.cells #[i 12, .slice A (encI n).length c] 86)
  have hdw := Data.call hd (below_new w (.cells #[i 12, .slice A (encI n).length c] 86))
  have HT := Lib.hid (takeField _ n (w.alloc (.cells #[i 12, .slice A (encI n).length c] 86)) hdw hn h0)
  have HB := Lib.hid (below_new w (.cells #[i 12, .slice A (encI n).length c] 86))
  have HK := Lib.hid hkw
  have HC := Lib.hid hC
  clear hd hk hkw hdw hn h0 hC
  go_enter Tryz.func45, Tryz.ntmps45
  go_wp2_with fail
  refine HT.out.mono ?_
  rintro e w1 ⟨rfl, hb⟩
  have hk1 := HK.out.call hb
  have q := hk1.cell 11
  have f := hk1.frozen
  simp at q
  have HK1 := Lib.hid hk1
  have HB1 := Lib.hid (below_call HB.out hb)
  clear hk1 hb
  go_wp2_with fail
  go_end0
  exact tk_end HK1.out HB1.out HC.out rfl

set_option maxRecDepth 100000 in
set_option maxHeartbeats 1000000 in
theorem take_13 (C : Nat) (a0 a1 a2 a3 a4 a5 a6 a7 a8 a9 a10 a11 a12 a13 : Value) (u : Value)  (w : World) (hk : Blk w C 24 #[a0, a1, a2, a3, a4, a5, a6, a7, a8, a9, a10, a11, a12, a13]) (hd : Data w u (encI 1)) :
    Calls Tryz.prog 45 #[.pointer (some ⟨C, 0, none⟩), .agg #[i 13, u]] w (TkPost C #[a0, a1, a2, a3, a4, a5, a6, a7, a8, a9, a10, a11, .bool true, a13] w) := by
  obtain ⟨A, c, rfl⟩ := Data.slice hd
  have hC := hk.lt
  have hkw := hk.alloc (.cells #[i 13, .slice A (encI 1).length c] 86)
  have hdw := Data.call hd (below_new w (.cells #[i 13, .slice A (encI 1).length c] 86))
  have HT := Lib.hid (takeField _ 1 (w.alloc (.cells #[i 13, .slice A (encI 1).length c] 86)) hdw (by unfold I64; omega) (by decide))
  have HB := Lib.hid (below_new w (.cells #[i 13, .slice A (encI 1).length c] 86))
  have HK := Lib.hid hkw
  have HC := Lib.hid hC
  clear hd hk hkw hdw hC
  go_enter Tryz.func45, Tryz.ntmps45
  go_wp2_with fail
  refine HT.out.mono ?_
  rintro e w1 ⟨rfl, hb⟩
  have hk1 := HK.out.call hb
  have q := hk1.cell 12
  have f := hk1.frozen
  simp at q
  have HK1 := Lib.hid hk1
  have HB1 := Lib.hid (below_call HB.out hb)
  clear hk1 hb
  go_wp2_with fail
  go_end0
  exact tk_end HK1.out HB1.out HC.out rfl

set_option maxRecDepth 100000 in
set_option maxHeartbeats 1000000 in
theorem take_14 (C : Nat) (a0 a1 a2 a3 a4 a5 a6 a7 a8 a9 a10 a11 a12 a13 : Value) (u : Value) (s : ByteArray) (w : World) (hk : Blk w C 24 #[a0, a1, a2, a3, a4, a5, a6, a7, a8, a9, a10, a11, a12, a13]) (hd : Data w u (strB s)) (hn : strB s ≠ []) :
    Calls Tryz.prog 45 #[.pointer (some ⟨C, 0, none⟩), .agg #[i 14, u]] w (TkPost C #[a0, a1, a2, a3, a4, a5, a6, a7, a8, a9, a10, a11, a12, .string s] w) := by
  obtain ⟨A, c, rfl⟩ := Data.slice hd
  have hC := hk.lt
  have hkw := hk.alloc (.cells #[i 14, .slice A (strB s).length c] 86)
  have hdw := Data.call hd (below_new w (.cells #[i 14, .slice A (strB s).length c] 86))
  have HT := Lib.hid (takeText _ s (w.alloc (.cells #[i 14, .slice A (strB s).length c] 86)) hdw hn)
  have HB := Lib.hid (below_new w (.cells #[i 14, .slice A (strB s).length c] 86))
  have HK := Lib.hid hkw
  have HC := Lib.hid hC
  have q := hkw.cell 13
  have f := hkw.frozen
  simp at q
  clear hd hk hkw hdw hn hC
  go_enter Tryz.func45, Tryz.ntmps45
  go_wp2_with fail
  refine HT.out.mono ?_
  rintro e w1 ⟨rfl, hw1⟩
  subst w1
  go_wp2_with fail
  go_end0
  exact tk_end HK.out HB.out HC.out rfl
end EncW
end Go.Proofs.YtpmcdjpfolgpiaaGreatDoor

namespace Go.Proofs.YtpmcdjpfolgpiaaGreatDoor
namespace EncW
set_option linter.unusedSimpArgs false
set_option linter.unusedVariables false
open Go.RowKit MonW Enc Cdr

def cellsK (c : CDR) (u : Value) : Nat → Array Value
  | 0 => #[.string ⟨#[]⟩, .string ⟨#[]⟩, .string ⟨#[]⟩, .string ⟨#[]⟩, i 0, i 0, i 0, i 0, .string ⟨#[]⟩, .string ⟨#[]⟩, .slice none 0 0, i 0, .bool false, .string ⟨#[]⟩]
  | 1 => #[.string c.id, .string ⟨#[]⟩, .string ⟨#[]⟩, .string ⟨#[]⟩, i 0, i 0, i 0, i 0, .string ⟨#[]⟩, .string ⟨#[]⟩, .slice none 0 0, i 0, .bool false, .string ⟨#[]⟩]
  | 2 => #[.string c.id, .string c.oper, .string ⟨#[]⟩, .string ⟨#[]⟩, i 0, i 0, i 0, i 0, .string ⟨#[]⟩, .string ⟨#[]⟩, .slice none 0 0, i 0, .bool false, .string ⟨#[]⟩]
  | 3 => #[.string c.id, .string c.oper, .string c.prov, .string ⟨#[]⟩, i 0, i 0, i 0, i 0, .string ⟨#[]⟩, .string ⟨#[]⟩, .slice none 0 0, i 0, .bool false, .string ⟨#[]⟩]
  | 4 => #[.string c.id, .string c.oper, .string c.prov, .string c.sess, i 0, i 0, i 0, i 0, .string ⟨#[]⟩, .string ⟨#[]⟩, .slice none 0 0, i 0, .bool false, .string ⟨#[]⟩]
  | 5 => #[.string c.id, .string c.oper, .string c.prov, .string c.sess, i c.ver, i 0, i 0, i 0, .string ⟨#[]⟩, .string ⟨#[]⟩, .slice none 0 0, i 0, .bool false, .string ⟨#[]⟩]
  | 6 => #[.string c.id, .string c.oper, .string c.prov, .string c.sess, i c.ver, i c.start, i 0, i 0, .string ⟨#[]⟩, .string ⟨#[]⟩, .slice none 0 0, i 0, .bool false, .string ⟨#[]⟩]
  | 7 => #[.string c.id, .string c.oper, .string c.prov, .string c.sess, i c.ver, i c.start, i c.stop, i 0, .string ⟨#[]⟩, .string ⟨#[]⟩, .slice none 0 0, i 0, .bool false, .string ⟨#[]⟩]
  | 8 => #[.string c.id, .string c.oper, .string c.prov, .string c.sess, i c.ver, i c.start, i c.stop, i c.en, .string ⟨#[]⟩, .string ⟨#[]⟩, .slice none 0 0, i 0, .bool false, .string ⟨#[]⟩]
  | 9 => #[.string c.id, .string c.oper, .string c.prov, .string c.sess, i c.ver, i c.start, i c.stop, i c.en, .string c.tar, .string ⟨#[]⟩, .slice none 0 0, i 0, .bool false, .string ⟨#[]⟩]
  | 10 => #[.string c.id, .string c.oper, .string c.prov, .string c.sess, i c.ver, i c.start, i c.stop, i c.en, .string c.tar, .string c.cur, .slice none 0 0, i 0, .bool false, .string ⟨#[]⟩]
  | 11 => #[.string c.id, .string c.oper, .string c.prov, .string c.sess, i c.ver, i c.start, i c.stop, i c.en, .string c.tar, .string c.cur, u, i 0, .bool false, .string ⟨#[]⟩]
  | 12 => #[.string c.id, .string c.oper, .string c.prov, .string c.sess, i c.ver, i c.start, i c.stop, i c.en, .string c.tar, .string c.cur, u, i c.total, .bool false, .string ⟨#[]⟩]
  | 13 => #[.string c.id, .string c.oper, .string c.prov, .string c.sess, i c.ver, i c.start, i c.stop, i c.en, .string c.tar, .string c.cur, u, i c.total, .bool true, .string ⟨#[]⟩]
  | _ => #[.string c.id, .string c.oper, .string c.prov, .string c.sess, i c.ver, i c.start, i c.stop, i c.en, .string c.tar, .string c.cur, u, i c.total, .bool true, .string c.ref]
theorem FldsAt.get {w : World} {A : Option Addr} {n c : Nat} {l : List Fld} {k : Nat} {f : Fld} (h : FldsAt w (.slice A n c) l) (hk : l[k]? = some f) :
    ∃ b off u, A = some ⟨b, off, none⟩ ∧ w.cell? ⟨b, off + k * 2, none⟩ = some (i f.tag) ∧ w.cell? ⟨b, off + k * 2 + 1, none⟩ = some u ∧ Data w u f.data ∧ IsSl u := by
  obtain ⟨A', c', e, h1, h2, h0, h3⟩ := h
  cases e
  obtain ⟨b, off, r, e1, e2, ⟨u, rfl, hd, hs⟩, e4⟩ := h3 k _ hk
  exact ⟨b, off, u, e1, e4 0 _ rfl, e4 1 _ rfl, hd, hs⟩
def fldL (c : CDR) : List Fld := [⟨1, strB c.id⟩, ⟨2, strB c.oper⟩, ⟨3, strB c.prov⟩, ⟨4, strB c.sess⟩, ⟨5, encI c.ver⟩, ⟨6, encI c.start⟩, ⟨7, encI c.stop⟩, ⟨8, encI c.en⟩, ⟨9, strB c.tar⟩, ⟨10, strB c.cur⟩, ⟨11, putL (dats c.items)⟩, ⟨12, encI c.total⟩, ⟨13, encI 1⟩, ⟨14, strB c.ref⟩]
/-- Every field is there. -/
structure Full (c : CDR) : Prop where
  n1 : strB c.id ≠ []
  n2 : strB c.oper ≠ []
  n3 : strB c.prov ≠ []
  n4 : strB c.sess ≠ []
  n5 : strB c.tar ≠ []
  n6 : strB c.cur ≠ []
  n7 : strB c.ref ≠ []
  i1 : I64 c.ver
  i2 : I64 c.start
  i3 : I64 c.stop
  i4 : I64 c.en
  i5 : I64 c.total
  z1 : c.ver ≠ 0
  z2 : c.start ≠ 0
  z3 : c.stop ≠ 0
  z4 : c.en ≠ 0
  z5 : c.total ≠ 0
  l1 : 1 ≤ c.items.length
  l2 : c.items.length ≤ 32
  l3 : ∀ x ∈ c.items, x.ok
  cr : c.credit = true
structure DecSt (w : World) (B : Nat) (v : Value) (l : List Fld) (c : CDR) (kk : Nat) (uI : Value) (wr : World) : Prop where
  k0 : Blk wr B 24 (cellsK c uI kk)
  k1 : Blk wr (B + 1) 27 #[i 0]
  own : OwnF B wr v l
  its : 10 < kk → OwnI B wr uI c.items ∧ IsSl uI
  bel : Below B w wr
theorem TkPost.grown {C : Nat} {cs : Array Value} {w w' : World} {e : Ending} (h : TkPost C cs w e w') : w.grownBy w' (some C) := by
  obtain ⟨-, -, hs, hb⟩ := h
  exact ⟨hb.os, hb.tape, hb.output, hb.size, fun k hk hne => hs k hk (fun e => hne (by rw [e]))⟩
theorem DecSt.base {w wr w7 : World} {B : Nat} {v : Value} {l : List Fld} {c : CDR} {kk : Nat} {uI : Value} {o : Obj} {e : Ending} {cs : Array Value} (h : DecSt w B v l c kk uI wr) (ht : TkPost B cs (wr.alloc o) e w7) :
    Blk w7 (B + 1) 27 #[i 0] ∧ OwnF B w7 v l ∧ Below B w w7 := by
  have hg := ht.grown
  obtain ⟨-, hk, hs, hb⟩ := ht
  have hrow : ∀ k, some B = some k → ∃ cs' t fz, (wr.alloc o).heap[k]? = some (.cells cs' t fz) ∧ t = 24 := fun k e => by cases e; exact ⟨_, _, _, h.k0.alloc o, rfl⟩
  refine ⟨(hs (B + 1) (by have := h.k1.lt; simp; omega) (by omega)).trans (h.k1.alloc o), ownF_keep (ownF_call h.own (below_new wr o)) hg (fun k e => ?_), (h.bel.alloc (Nat.le_of_lt h.k0.lt) o).trans hb⟩
  obtain ⟨cs', t, fz, h1, rfl⟩ := hrow k e
  exact ⟨_, _, _, h1, by decide, by decide⟩
theorem DecSt.step_ {w wr w7 : World} {B : Nat} {v : Value} {l : List Fld} {c : CDR} {kk : Nat} {uI : Value} {o : Obj} {e : Ending} (h : DecSt w B v l c kk uI wr) (hne : kk ≠ 10) (ht : TkPost B (cellsK c uI (kk + 1)) (wr.alloc o) e w7) : DecSt w B v l c (kk + 1) uI w7 := by
  obtain ⟨b1, b2, b3⟩ := h.base ht
  refine ⟨ht.2.1, b1, b2, fun hk => ?_, b3⟩
  obtain ⟨o1, o2⟩ := h.its (by omega)
  refine ⟨ownI_keep (Own.call o1 (below_new wr o)) ht.grown (fun k e => ?_), o2⟩
  cases e
  exact ⟨_, _, _, h.k0.alloc o, by decide⟩
theorem DecSt.stepI {w wr w7 : World} {B : Nat} {v : Value} {l : List Fld} {c : CDR} {uI vI : Value} {o : Obj} {e : Ending} (h : DecSt w B v l c 10 uI wr) (ht : TkPost B (cellsK c vI 11) (wr.alloc o) e w7) (ho : OwnI (wr.alloc o).heap.size w7 vI c.items) (hs : IsSl vI) : DecSt w B v l c 11 vI w7 := by
  obtain ⟨b1, b2, b3⟩ := h.base ht
  exact ⟨ht.2.1, b1, b2, fun _ => ⟨ownI_base ho (by have := h.k0.lt; simp; omega), hs⟩, b3⟩
theorem ownF_base {base base' : Nat} {w : World} {v : Value} {xs : List Fld} (h : OwnF base w v xs) (hb : base' ≤ base) : OwnF base' w v xs := by
  obtain ⟨rs, h1, h2⟩ := h
  exact ⟨rs, ownsRow_base h1 hb, h2⟩
theorem below_call' {B : Nat} {w w1 w2 : World} (h : Below B w w1) (hb : Below w1.heap.size w1 w2) (hB : B ≤ w1.heap.size := by omega) : Below B w w2 := h.trans (hb.mono hB)
theorem grown_put14 {w : World} {g : Nat} (c : CDR) (u : Value) : w.grownBy (put14 w g c u) (some g) := by
  have hb := put14_below (s0 := 0) (g := g) c u (Below.refl 0 w) (Nat.zero_le g)
  exact ⟨hb.os, hb.tape, hb.output, hb.size, fun k _ hne => put14_heap c u (fun e => hne (by rw [e]))⟩
theorem idle43 (p q : Addr) (w : World) :
    CallsD Tryz.prog 43 #[.pointer (some p), .pointer (some q)] .returning w fun e u' w' => e = .returned (.tuple #[]) ∧ u' = .returning ∧ w' = w := by
  refine callsD_of_wpS Tryz.func43 rfl fun c₀ cs hu => ?_
  apply wpS_seq
  apply wpS_region
  simp [wpOpsS, go_sem, recoverD, hu, Tryz.ntmps43, Exit.thenS]
  refine wpS_seq ?_
  apply wpS_region
  simp [wpOpsS, go_sem, recoverD, hu, Tryz.ntmps43, Exit.thenS]
  refine wpS_cond (t := false) (by simp [Act.eval, Array.replicate]) ?_
  simp only [Bool.false_eq_true, if_false]
  refine wpS_of_wp (wp_skip ?_)
  cases c₀
  simp_all [bodyPostS, results, Tryz.results43]
def DecPost (c : CDR) (w : World) (e : Ending) (w' : World) : Prop := ∃ A n k, e = .returned (.tuple #[.agg (cdrA c (.slice A n k)), i 0]) ∧ ItmsAt w' (.slice A n k) c.items ∧ Below w.heap.size w w'

set_option maxRecDepth 100000 in
set_option maxHeartbeats 4000000 in
theorem decode (c : CDR) (u : Value) (w : World) (h : Data w u (putF (fldL c))) (hl : OkF (fldL c)) (hp : Full c) (ho : c.ok) (hE : cdrE c = 0) :
    Calls Tryz.prog 21 #[u] w (DecPost c w) := by
  have hmf : ∀ (fn : Fn) (first cap : Array Value) (w : World), (Instr.makeFunc fn first cap).run Tryz.prog w = .ok (.func fn first cap) w := fun _ _ _ _ => rfl
  obtain ⟨A, cp, rfl⟩ := Data.slice h
  have HP := Lib.hid hp
  have HOK := Lib.hid ho
  have HE := Lib.hid hE
  have hb2 : Below w.heap.size w ((w.alloc (.cells (cellsK c (.slice none 0 0) 0) 24)).alloc (.cells #[i 0] 27)) := (below_new w _).alloc (by simp) _
  have HTK := Lib.hid (take _ (fldL c) _ (Data.call h hb2) hl)
  have HB2 := Lib.hid hb2
  have HK0 : Hid (Blk ((w.alloc (.cells (cellsK c (.slice none 0 0) 0) 24)).alloc (.cells #[i 0] 27)) w.heap.size 24 (cellsK c (.slice none 0 0) 0)) := (Blk.new w _ _).alloc _
  have HK1 : Hid (Blk ((w.alloc (.cells (cellsK c (.slice none 0 0) 0) 24)).alloc (.cells #[i 0] 27)) (w.heap.size + 1) 27 #[i 0]) := by
    have := Blk.new (w.alloc (.cells (cellsK c (.slice none 0 0) 0) 24)) 27 #[i 0]
    rw [World.size_alloc] at this
    exact this
  clear h hl hp ho hE hb2
  go_enter_defers Tryz.func21, Tryz.ntmps21
  go_wp2_with fail
  generalize hB : w.heap.size = B at *
  have HBE := Lib.hid hB
  clear hB
  refine HTK.out.mono ?_
  rintro e w1 ⟨v, rfl, hv, hb⟩
  obtain ⟨A1, n1, c1, rfl⟩ := OwnF.slice hv
  obtain rfl : n1 = 14 := own_len hv
  have k0 := HK0.out.call hb
  have k1 := HK1.out.call hb
  have q1 := k1.cell 0
  have f1 := k1.frozen
  simp at q1
  have HS0 : Hid (DecSt w B (.slice A1 14 c1) (fldL c) c 0 (.slice none 0 0) (w1.setCell ⟨B + 1, 0, none⟩ (i 0))) :=
    ⟨k0.far (p := ⟨B + 1, 0, none⟩) (by simp) (i 0), by simpa using k1.set_ 0 (i 0), ownF_keep (ownF_base hv (by have := HK0.out.lt; omega)) (grown_set w1 ⟨B + 1, 0, none⟩ (i 0)) (fun k e => by cases e; exact ⟨_, _, _, k1, by decide, by decide⟩), fun hk => by omega, (below_call' HB2.out hb (Nat.le_of_lt HK0.out.lt)).setCell (p := ⟨B + 1, 0, none⟩) (by simp) _⟩
  clear k0 k1 hv hb HK0 HK1 HB2 HTK
  go_wp2_with fail
  generalize w1.setCell ⟨B + 1, 0, none⟩ (.int .i64 0) = w2 at *
  clear q1 f1
  go_loopg [20] 14 (fun gg s20 wr => ∃ (kk : Nat) (uI : Value), kk ≤ 14 ∧ 14 - kk ≤ gg ∧ s20 = i kk ∧ Hid (DecSt w B (.slice A1 14 c1) (fldL c) c kk uI wr))
  case atStart => exact ⟨0, _, by omega, by omega, rfl, HS0⟩
  case round =>
    clear HS0
    obtain ⟨kk, uI, hkk, hg, rfl, HS⟩ := hrel
    by_cases hlt : kk < 14
    · rcases (show kk = 0 ∨ kk = 1 ∨ kk = 2 ∨ kk = 3 ∨ kk = 4 ∨ kk = 5 ∨ kk = 6 ∨ kk = 7 ∨ kk = 8 ∨ kk = 9 ∨ kk = 10 ∨ kk = 11 ∨ kk = 12 ∨ kk = 13 by omega) with rfl | rfl | rfl | rfl | rfl | rfl | rfl | rfl | rfl | rfl | rfl | rfl | rfl | rfl
      · obtain ⟨b, off, u, hA, hu0, hu1, hdu, A5, n5, c5, hue⟩ := FldsAt.get (HS.out.own.at_ (by omega)) (k := 0) (f := ⟨1, strB c.id⟩) rfl
        cases hA
        subst hue
        have hk0 : Blk wr B 24 #[.string ⟨#[]⟩, .string ⟨#[]⟩, .string ⟨#[]⟩, .string ⟨#[]⟩, i 0, i 0, i 0, i 0, .string ⟨#[]⟩, .string ⟨#[]⟩, .slice none 0 0, i 0, .bool false, .string ⟨#[]⟩] := HS.out.k0
        have HT := Lib.hid (take_1 B (.string ⟨#[]⟩) (.string ⟨#[]⟩) (.string ⟨#[]⟩) (.string ⟨#[]⟩) (i 0) (i 0) (i 0) (i 0) (.string ⟨#[]⟩) (.string ⟨#[]⟩) (.slice none 0 0) (i 0) (.bool false) (.string ⟨#[]⟩) (.slice A5 n5 c5) c.id (wr.alloc (.cells #[i 1, .slice A5 n5 c5] 86)) (hk0.alloc _) (Data.call hdu (below_new wr _)) HP.out.n1)
        try simp at hu0 hu1
        clear hdu hk0
        go_wp2_with fail
        refine HT.out.mono ?_
        rintro e w7 ht
        have HS7 := Lib.hid (HS.out.step_ (by omega) ht)
        obtain ⟨rfl, -, -, -⟩ := ht
        go_wp2_with fail
        go_roundg 13
        case measure => omega
        case rel => exact ⟨1, _, by omega, by omega, by go_num, HS7⟩
      · obtain ⟨b, off, u, hA, hu0, hu1, hdu, A5, n5, c5, hue⟩ := FldsAt.get (HS.out.own.at_ (by omega)) (k := 1) (f := ⟨2, strB c.oper⟩) rfl
        cases hA
        subst hue
        have hk0 : Blk wr B 24 #[.string c.id, .string ⟨#[]⟩, .string ⟨#[]⟩, .string ⟨#[]⟩, i 0, i 0, i 0, i 0, .string ⟨#[]⟩, .string ⟨#[]⟩, .slice none 0 0, i 0, .bool false, .string ⟨#[]⟩] := HS.out.k0
        have HT := Lib.hid (take_2 B (.string c.id) (.string ⟨#[]⟩) (.string ⟨#[]⟩) (.string ⟨#[]⟩) (i 0) (i 0) (i 0) (i 0) (.string ⟨#[]⟩) (.string ⟨#[]⟩) (.slice none 0 0) (i 0) (.bool false) (.string ⟨#[]⟩) (.slice A5 n5 c5) c.oper (wr.alloc (.cells #[i 2, .slice A5 n5 c5] 86)) (hk0.alloc _) (Data.call hdu (below_new wr _)) HP.out.n2)
        try simp at hu0 hu1
        clear hdu hk0
        go_wp2_with fail
        refine HT.out.mono ?_
        rintro e w7 ht
        have HS7 := Lib.hid (HS.out.step_ (by omega) ht)
        obtain ⟨rfl, -, -, -⟩ := ht
        go_wp2_with fail
        go_roundg 12
        case measure => omega
        case rel => exact ⟨2, _, by omega, by omega, by go_num, HS7⟩
      · obtain ⟨b, off, u, hA, hu0, hu1, hdu, A5, n5, c5, hue⟩ := FldsAt.get (HS.out.own.at_ (by omega)) (k := 2) (f := ⟨3, strB c.prov⟩) rfl
        cases hA
        subst hue
        have hk0 : Blk wr B 24 #[.string c.id, .string c.oper, .string ⟨#[]⟩, .string ⟨#[]⟩, i 0, i 0, i 0, i 0, .string ⟨#[]⟩, .string ⟨#[]⟩, .slice none 0 0, i 0, .bool false, .string ⟨#[]⟩] := HS.out.k0
        have HT := Lib.hid (take_3 B (.string c.id) (.string c.oper) (.string ⟨#[]⟩) (.string ⟨#[]⟩) (i 0) (i 0) (i 0) (i 0) (.string ⟨#[]⟩) (.string ⟨#[]⟩) (.slice none 0 0) (i 0) (.bool false) (.string ⟨#[]⟩) (.slice A5 n5 c5) c.prov (wr.alloc (.cells #[i 3, .slice A5 n5 c5] 86)) (hk0.alloc _) (Data.call hdu (below_new wr _)) HP.out.n3)
        try simp at hu0 hu1
        clear hdu hk0
        go_wp2_with fail
        refine HT.out.mono ?_
        rintro e w7 ht
        have HS7 := Lib.hid (HS.out.step_ (by omega) ht)
        obtain ⟨rfl, -, -, -⟩ := ht
        go_wp2_with fail
        go_roundg 11
        case measure => omega
        case rel => exact ⟨3, _, by omega, by omega, by go_num, HS7⟩
      · obtain ⟨b, off, u, hA, hu0, hu1, hdu, A5, n5, c5, hue⟩ := FldsAt.get (HS.out.own.at_ (by omega)) (k := 3) (f := ⟨4, strB c.sess⟩) rfl
        cases hA
        subst hue
        have hk0 : Blk wr B 24 #[.string c.id, .string c.oper, .string c.prov, .string ⟨#[]⟩, i 0, i 0, i 0, i 0, .string ⟨#[]⟩, .string ⟨#[]⟩, .slice none 0 0, i 0, .bool false, .string ⟨#[]⟩] := HS.out.k0
        have HT := Lib.hid (take_4 B (.string c.id) (.string c.oper) (.string c.prov) (.string ⟨#[]⟩) (i 0) (i 0) (i 0) (i 0) (.string ⟨#[]⟩) (.string ⟨#[]⟩) (.slice none 0 0) (i 0) (.bool false) (.string ⟨#[]⟩) (.slice A5 n5 c5) c.sess (wr.alloc (.cells #[i 4, .slice A5 n5 c5] 86)) (hk0.alloc _) (Data.call hdu (below_new wr _)) HP.out.n4)
        try simp at hu0 hu1
        clear hdu hk0
        go_wp2_with fail
        refine HT.out.mono ?_
        rintro e w7 ht
        have HS7 := Lib.hid (HS.out.step_ (by omega) ht)
        obtain ⟨rfl, -, -, -⟩ := ht
        go_wp2_with fail
        go_roundg 10
        case measure => omega
        case rel => exact ⟨4, _, by omega, by omega, by go_num, HS7⟩
      · obtain ⟨b, off, u, hA, hu0, hu1, hdu, A5, n5, c5, hue⟩ := FldsAt.get (HS.out.own.at_ (by omega)) (k := 4) (f := ⟨5, encI c.ver⟩) rfl
        cases hA
        subst hue
        have hk0 : Blk wr B 24 #[.string c.id, .string c.oper, .string c.prov, .string c.sess, i 0, i 0, i 0, i 0, .string ⟨#[]⟩, .string ⟨#[]⟩, .slice none 0 0, i 0, .bool false, .string ⟨#[]⟩] := HS.out.k0
        have HT := Lib.hid (take_5 B (.string c.id) (.string c.oper) (.string c.prov) (.string c.sess) (i 0) (i 0) (i 0) (i 0) (.string ⟨#[]⟩) (.string ⟨#[]⟩) (.slice none 0 0) (i 0) (.bool false) (.string ⟨#[]⟩) (.slice A5 n5 c5) c.ver (wr.alloc (.cells #[i 5, .slice A5 n5 c5] 86)) (hk0.alloc _) (Data.call hdu (below_new wr _)) HP.out.i1 HP.out.z1)
        try simp at hu0 hu1
        clear hdu hk0
        go_wp2_with fail
        refine HT.out.mono ?_
        rintro e w7 ht
        have HS7 := Lib.hid (HS.out.step_ (by omega) ht)
        obtain ⟨rfl, -, -, -⟩ := ht
        go_wp2_with fail
        go_roundg 9
        case measure => omega
        case rel => exact ⟨5, _, by omega, by omega, by go_num, HS7⟩
      · obtain ⟨b, off, u, hA, hu0, hu1, hdu, A5, n5, c5, hue⟩ := FldsAt.get (HS.out.own.at_ (by omega)) (k := 5) (f := ⟨6, encI c.start⟩) rfl
        cases hA
        subst hue
        have hk0 : Blk wr B 24 #[.string c.id, .string c.oper, .string c.prov, .string c.sess, i c.ver, i 0, i 0, i 0, .string ⟨#[]⟩, .string ⟨#[]⟩, .slice none 0 0, i 0, .bool false, .string ⟨#[]⟩] := HS.out.k0
        have HT := Lib.hid (take_6 B (.string c.id) (.string c.oper) (.string c.prov) (.string c.sess) (i c.ver) (i 0) (i 0) (i 0) (.string ⟨#[]⟩) (.string ⟨#[]⟩) (.slice none 0 0) (i 0) (.bool false) (.string ⟨#[]⟩) (.slice A5 n5 c5) c.start (wr.alloc (.cells #[i 6, .slice A5 n5 c5] 86)) (hk0.alloc _) (Data.call hdu (below_new wr _)) HP.out.i2 HP.out.z2)
        try simp at hu0 hu1
        clear hdu hk0
        go_wp2_with fail
        refine HT.out.mono ?_
        rintro e w7 ht
        have HS7 := Lib.hid (HS.out.step_ (by omega) ht)
        obtain ⟨rfl, -, -, -⟩ := ht
        go_wp2_with fail
        go_roundg 8
        case measure => omega
        case rel => exact ⟨6, _, by omega, by omega, by go_num, HS7⟩
      · obtain ⟨b, off, u, hA, hu0, hu1, hdu, A5, n5, c5, hue⟩ := FldsAt.get (HS.out.own.at_ (by omega)) (k := 6) (f := ⟨7, encI c.stop⟩) rfl
        cases hA
        subst hue
        have hk0 : Blk wr B 24 #[.string c.id, .string c.oper, .string c.prov, .string c.sess, i c.ver, i c.start, i 0, i 0, .string ⟨#[]⟩, .string ⟨#[]⟩, .slice none 0 0, i 0, .bool false, .string ⟨#[]⟩] := HS.out.k0
        have HT := Lib.hid (take_7 B (.string c.id) (.string c.oper) (.string c.prov) (.string c.sess) (i c.ver) (i c.start) (i 0) (i 0) (.string ⟨#[]⟩) (.string ⟨#[]⟩) (.slice none 0 0) (i 0) (.bool false) (.string ⟨#[]⟩) (.slice A5 n5 c5) c.stop (wr.alloc (.cells #[i 7, .slice A5 n5 c5] 86)) (hk0.alloc _) (Data.call hdu (below_new wr _)) HP.out.i3 HP.out.z3)
        try simp at hu0 hu1
        clear hdu hk0
        go_wp2_with fail
        refine HT.out.mono ?_
        rintro e w7 ht
        have HS7 := Lib.hid (HS.out.step_ (by omega) ht)
        obtain ⟨rfl, -, -, -⟩ := ht
        go_wp2_with fail
        go_roundg 7
        case measure => omega
        case rel => exact ⟨7, _, by omega, by omega, by go_num, HS7⟩
      · obtain ⟨b, off, u, hA, hu0, hu1, hdu, A5, n5, c5, hue⟩ := FldsAt.get (HS.out.own.at_ (by omega)) (k := 7) (f := ⟨8, encI c.en⟩) rfl
        cases hA
        subst hue
        have hk0 : Blk wr B 24 #[.string c.id, .string c.oper, .string c.prov, .string c.sess, i c.ver, i c.start, i c.stop, i 0, .string ⟨#[]⟩, .string ⟨#[]⟩, .slice none 0 0, i 0, .bool false, .string ⟨#[]⟩] := HS.out.k0
        have HT := Lib.hid (take_8 B (.string c.id) (.string c.oper) (.string c.prov) (.string c.sess) (i c.ver) (i c.start) (i c.stop) (i 0) (.string ⟨#[]⟩) (.string ⟨#[]⟩) (.slice none 0 0) (i 0) (.bool false) (.string ⟨#[]⟩) (.slice A5 n5 c5) c.en (wr.alloc (.cells #[i 8, .slice A5 n5 c5] 86)) (hk0.alloc _) (Data.call hdu (below_new wr _)) HP.out.i4 HP.out.z4)
        try simp at hu0 hu1
        clear hdu hk0
        go_wp2_with fail
        refine HT.out.mono ?_
        rintro e w7 ht
        have HS7 := Lib.hid (HS.out.step_ (by omega) ht)
        obtain ⟨rfl, -, -, -⟩ := ht
        go_wp2_with fail
        go_roundg 6
        case measure => omega
        case rel => exact ⟨8, _, by omega, by omega, by go_num, HS7⟩
      · obtain ⟨b, off, u, hA, hu0, hu1, hdu, A5, n5, c5, hue⟩ := FldsAt.get (HS.out.own.at_ (by omega)) (k := 8) (f := ⟨9, strB c.tar⟩) rfl
        cases hA
        subst hue
        have hk0 : Blk wr B 24 #[.string c.id, .string c.oper, .string c.prov, .string c.sess, i c.ver, i c.start, i c.stop, i c.en, .string ⟨#[]⟩, .string ⟨#[]⟩, .slice none 0 0, i 0, .bool false, .string ⟨#[]⟩] := HS.out.k0
        have HT := Lib.hid (take_9 B (.string c.id) (.string c.oper) (.string c.prov) (.string c.sess) (i c.ver) (i c.start) (i c.stop) (i c.en) (.string ⟨#[]⟩) (.string ⟨#[]⟩) (.slice none 0 0) (i 0) (.bool false) (.string ⟨#[]⟩) (.slice A5 n5 c5) c.tar (wr.alloc (.cells #[i 9, .slice A5 n5 c5] 86)) (hk0.alloc _) (Data.call hdu (below_new wr _)) HP.out.n5)
        try simp at hu0 hu1
        clear hdu hk0
        go_wp2_with fail
        refine HT.out.mono ?_
        rintro e w7 ht
        have HS7 := Lib.hid (HS.out.step_ (by omega) ht)
        obtain ⟨rfl, -, -, -⟩ := ht
        go_wp2_with fail
        go_roundg 5
        case measure => omega
        case rel => exact ⟨9, _, by omega, by omega, by go_num, HS7⟩
      · obtain ⟨b, off, u, hA, hu0, hu1, hdu, A5, n5, c5, hue⟩ := FldsAt.get (HS.out.own.at_ (by omega)) (k := 9) (f := ⟨10, strB c.cur⟩) rfl
        cases hA
        subst hue
        have hk0 : Blk wr B 24 #[.string c.id, .string c.oper, .string c.prov, .string c.sess, i c.ver, i c.start, i c.stop, i c.en, .string c.tar, .string ⟨#[]⟩, .slice none 0 0, i 0, .bool false, .string ⟨#[]⟩] := HS.out.k0
        have HT := Lib.hid (take_10 B (.string c.id) (.string c.oper) (.string c.prov) (.string c.sess) (i c.ver) (i c.start) (i c.stop) (i c.en) (.string c.tar) (.string ⟨#[]⟩) (.slice none 0 0) (i 0) (.bool false) (.string ⟨#[]⟩) (.slice A5 n5 c5) c.cur (wr.alloc (.cells #[i 10, .slice A5 n5 c5] 86)) (hk0.alloc _) (Data.call hdu (below_new wr _)) HP.out.n6)
        try simp at hu0 hu1
        clear hdu hk0
        go_wp2_with fail
        refine HT.out.mono ?_
        rintro e w7 ht
        have HS7 := Lib.hid (HS.out.step_ (by omega) ht)
        obtain ⟨rfl, -, -, -⟩ := ht
        go_wp2_with fail
        go_roundg 4
        case measure => omega
        case rel => exact ⟨10, _, by omega, by omega, by go_num, HS7⟩
      · obtain ⟨b, off, u, hA, hu0, hu1, hdu, A5, n5, c5, hue⟩ := FldsAt.get (HS.out.own.at_ (by omega)) (k := 10) (f := ⟨11, putL (dats c.items)⟩) rfl
        cases hA
        subst hue
        have hk0 : Blk wr B 24 #[.string c.id, .string c.oper, .string c.prov, .string c.sess, i c.ver, i c.start, i c.stop, i c.en, .string c.tar, .string c.cur, .slice none 0 0, i 0, .bool false, .string ⟨#[]⟩] := HS.out.k0
        have HT := Lib.hid (take_11 B (.string c.id) (.string c.oper) (.string c.prov) (.string c.sess) (i c.ver) (i c.start) (i c.stop) (i c.en) (.string c.tar) (.string c.cur) (.slice none 0 0) (i 0) (.bool false) (.string ⟨#[]⟩) (.slice A5 n5 c5) c.items (wr.alloc (.cells #[i 11, .slice A5 n5 c5] 86)) (hk0.alloc _) (Data.call hdu (below_new wr _)) HP.out.l1 HP.out.l2 HP.out.l3)
        try simp at hu0 hu1
        clear hdu hk0
        go_wp2_with fail
        refine HT.out.mono ?_
        rintro e w7 ⟨vI, ht, hoI, hsI⟩
        have HS7 := Lib.hid (HS.out.stepI ht hoI hsI)
        obtain ⟨rfl, -, -, -⟩ := ht
        go_wp2_with fail
        go_roundg 3
        case measure => omega
        case rel => exact ⟨11, _, by omega, by omega, by go_num, HS7⟩
      · obtain ⟨b, off, u, hA, hu0, hu1, hdu, A5, n5, c5, hue⟩ := FldsAt.get (HS.out.own.at_ (by omega)) (k := 11) (f := ⟨12, encI c.total⟩) rfl
        cases hA
        subst hue
        have hk0 : Blk wr B 24 #[.string c.id, .string c.oper, .string c.prov, .string c.sess, i c.ver, i c.start, i c.stop, i c.en, .string c.tar, .string c.cur, uI, i 0, .bool false, .string ⟨#[]⟩] := HS.out.k0
        have HT := Lib.hid (take_12 B (.string c.id) (.string c.oper) (.string c.prov) (.string c.sess) (i c.ver) (i c.start) (i c.stop) (i c.en) (.string c.tar) (.string c.cur) uI (i 0) (.bool false) (.string ⟨#[]⟩) (.slice A5 n5 c5) c.total (wr.alloc (.cells #[i 12, .slice A5 n5 c5] 86)) (hk0.alloc _) (Data.call hdu (below_new wr _)) HP.out.i5 HP.out.z5)
        try simp at hu0 hu1
        clear hdu hk0
        go_wp2_with fail
        refine HT.out.mono ?_
        rintro e w7 ht
        have HS7 := Lib.hid (HS.out.step_ (by omega) ht)
        obtain ⟨rfl, -, -, -⟩ := ht
        go_wp2_with fail
        go_roundg 2
        case measure => omega
        case rel => exact ⟨12, _, by omega, by omega, by go_num, HS7⟩
      · obtain ⟨b, off, u, hA, hu0, hu1, hdu, A5, n5, c5, hue⟩ := FldsAt.get (HS.out.own.at_ (by omega)) (k := 12) (f := ⟨13, encI 1⟩) rfl
        cases hA
        subst hue
        have hk0 : Blk wr B 24 #[.string c.id, .string c.oper, .string c.prov, .string c.sess, i c.ver, i c.start, i c.stop, i c.en, .string c.tar, .string c.cur, uI, i c.total, .bool false, .string ⟨#[]⟩] := HS.out.k0
        have HT := Lib.hid (take_13 B (.string c.id) (.string c.oper) (.string c.prov) (.string c.sess) (i c.ver) (i c.start) (i c.stop) (i c.en) (.string c.tar) (.string c.cur) uI (i c.total) (.bool false) (.string ⟨#[]⟩) (.slice A5 n5 c5) (wr.alloc (.cells #[i 13, .slice A5 n5 c5] 86)) (hk0.alloc _) (Data.call hdu (below_new wr _)))
        try simp at hu0 hu1
        clear hdu hk0
        go_wp2_with fail
        refine HT.out.mono ?_
        rintro e w7 ht
        have HS7 := Lib.hid (HS.out.step_ (by omega) ht)
        obtain ⟨rfl, -, -, -⟩ := ht
        go_wp2_with fail
        go_roundg 1
        case measure => omega
        case rel => exact ⟨13, _, by omega, by omega, by go_num, HS7⟩
      · obtain ⟨b, off, u, hA, hu0, hu1, hdu, A5, n5, c5, hue⟩ := FldsAt.get (HS.out.own.at_ (by omega)) (k := 13) (f := ⟨14, strB c.ref⟩) rfl
        cases hA
        subst hue
        have hk0 : Blk wr B 24 #[.string c.id, .string c.oper, .string c.prov, .string c.sess, i c.ver, i c.start, i c.stop, i c.en, .string c.tar, .string c.cur, uI, i c.total, .bool true, .string ⟨#[]⟩] := HS.out.k0
        have HT := Lib.hid (take_14 B (.string c.id) (.string c.oper) (.string c.prov) (.string c.sess) (i c.ver) (i c.start) (i c.stop) (i c.en) (.string c.tar) (.string c.cur) uI (i c.total) (.bool true) (.string ⟨#[]⟩) (.slice A5 n5 c5) c.ref (wr.alloc (.cells #[i 14, .slice A5 n5 c5] 86)) (hk0.alloc _) (Data.call hdu (below_new wr _)) HP.out.n7)
        try simp at hu0 hu1
        clear hdu hk0
        go_wp2_with fail
        refine HT.out.mono ?_
        rintro e w7 ht
        have HS7 := Lib.hid (HS.out.step_ (by omega) ht)
        obtain ⟨rfl, -, -, -⟩ := ht
        go_wp2_with fail
        go_roundg 0
        case measure => omega
        case rel => exact ⟨14, _, by omega, by omega, by go_num, HS7⟩
    · obtain rfl : kk = 14 := by omega
      have hI := HS.out.its (by omega)
      obtain ⟨hI, A4, n4, c4, rfl⟩ := hI
      have hk0 : Blk wr B 24 (cdrA c (.slice A4 n4 c4)) := by
        have e : cellsK c (.slice A4 n4 c4) 14 = cdrA c (.slice A4 n4 c4) := by
          show _ = (#[_, _, _, _, _, _, _, _, _, _, _, _, _, _] : Array Value)
          rw [HP.out.cr]
          rfl
        rw [← e]; exact HS.out.k0
      have HV := Lib.hid (valid c A4 n4 c4 wr HOK.out (hI.at_ (by omega)) HE.out)
      have HK0 := Lib.hid hk0
      have HK1 := Lib.hid HS.out.k1
      have HI := Lib.hid hI
      have HB := Lib.hid HS.out.bel
      obtain ⟨d0, d1, d2, d3, d4, d5, d6, d7, d8, d9, d10, d11, d12, d13⟩ := cdr_cells hk0
      clear hI hk0 HS
      go_wp2_with fail
      refine HV.out.mono ?_
      rintro e w7 ⟨rfl, hb⟩
      have hk0 := HK0.out.call hb
      have hk1 := HK1.out.call hb
      have HK7 := Lib.hid hk0
      have HK8 := Lib.hid hk1
      have HI7 := Lib.hid (Own.call HI.out hb)
      have HB7 := Lib.hid (below_call' HB.out hb (Nat.le_of_lt HK0.out.lt))
      clear d0 d1 d2 d3 d4 d5 d6 d7 d8 d9 d10 d11 d12 d13
      obtain ⟨d0, d1, d2, d3, d4, d5, d6, d7, d8, d9, d10, d11, d12, d13⟩ := cdr_cells hk0
      have fz := hk0.frozen
      have q1 := hk1.cell 0
      have f1 := hk1.frozen
      simp at q1
      have hne1 : ¬ B + 1 = B := by omega
      clear hk0 hk1 hb
      go_wp2_with fail
      have kb := (put14_blk c (.slice A4 n4 c4) HK7.out).far (p := ⟨B + 1, 0, none⟩) (by simp) (i 0)
      have kb1 := (put14_other c (.slice A4 n4 c4) HK8.out (show B + 1 ≠ B by omega)).set_ 0 (i 0)
      have hI8 := ownI_keep HI7.out (grown_put14 (g := B) c (.slice A4 n4 c4)) (fun k e => by cases e; exact ⟨_, _, _, HK7.out, by decide⟩)
      have hI9 := ownI_keep hI8 (grown_set (put14 w7 B c (.slice A4 n4 c4)) ⟨B + 1, 0, none⟩ (i 0)) (fun k e => by cases e; exact ⟨_, _, _, put14_other c (.slice A4 n4 c4) HK8.out (show B + 1 ≠ B by omega), by decide⟩)
      have hb9 : Below B w ((put14 w7 B c (.slice A4 n4 c4)).setCell ⟨B + 1, 0, none⟩ (i 0)) := (put14_below c (.slice A4 n4 c4) HB7.out (Nat.le_refl _)).setCell (p := ⟨B + 1, 0, none⟩) (by simp) _
      generalize ((put14 w7 B c (.slice A4 n4 c4)).setCell ⟨B + 1, 0, none⟩ (i 0)) = W at *
      have e1 := kb1.cell 0
      simp at e1
      clear d0 d1 d2 d3 d4 d5 d6 d7 d8 d9 d10 d11 d12 d13 q1 f1
      obtain ⟨d0, d1, d2, d3, d4, d5, d6, d7, d8, d9, d10, d11, d12, d13⟩ := cdr_cells kb
      have HB9 := Lib.hid hb9
      have HI9 := Lib.hid hI9
      clear hb9 hI9 hI8 kb kb1 fz
      refine leaves_cons (f := 43) (args := #[.pointer (some ⟨B, 0, none⟩), .pointer (some ⟨B + 1, 0, none⟩)]) (by simp) (by simp [go_sem]) ?_
      refine (idle43 _ _ _).mono ?_
      rintro e u' w'' ⟨rfl, rfl, rfl⟩
      have hbz : Below w.heap.size w w'' := by rw [HBE.out]; exact HB9.out
      have hoz : ItmsAt w'' (.slice A4 n4 c4) c.items := HI9.out.at_ (by omega)
      have hp : DecPost c w (.returned (.tuple #[.agg (cdrA c (.slice A4 n4 c4)), i 0])) w'' := ⟨_, _, _, rfl, hoz, hbz⟩
      simp [Leaves, settle, results, Tryz.results21, go_sem, e1, d0, d1, d2, d3, d4, d5, d6, d7, d8, d9, d10, d11, d12, d13]
      exact hp
end EncW
end Go.Proofs.YtpmcdjpfolgpiaaGreatDoor
