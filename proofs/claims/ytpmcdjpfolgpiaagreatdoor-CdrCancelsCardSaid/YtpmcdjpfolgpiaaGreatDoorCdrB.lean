/-
  The walk of cdr.bill.
-/
import Derived.Test.YtpmcdjpfolgpiaaGreatDoorCdrC
namespace Go.Proofs.YtpmcdjpfolgpiaaGreatDoor
namespace Cdr
set_option linter.unusedSimpArgs false
set_option linter.unusedVariables false
open Go.RowKit MonW TarW Usg UsgW Prc PriW

/-- The three boxes of a session's argument. -/
structure Bx (s0 : Nat) (r : Rec) (u : Value) (t : Trf) (ue : Value) (z : Int) (s : Bool) (w : World) : Prop where
  kr : Blk w s0 31 (recA r u)
  kt : Blk w (s0 + 1) 36 (trA t ue)
  kz : Blk w (s0 + 2) 38 #[i z, .bool s]
theorem Bx.new (r : Rec) (u : Value) (t : Trf) (ue : Value) (z : Int) (s : Bool) (w : World) : Bx w.heap.size r u t ue z s (((w.alloc (.cells (recA r u) 31)).alloc (.cells (trA t ue) 36)).alloc (.cells #[i z, .bool s] 38)) := by
  have k2 := (Blk.new (w.alloc (.cells (recA r u) 31)) 36 (trA t ue)).alloc (.cells #[i z, .bool s] 38)
  have k3 := Blk.new ((w.alloc (.cells (recA r u) 31)).alloc (.cells (trA t ue) 36)) 38 #[i z, .bool s]
  simp only [World.size_alloc] at k2 k3
  exact ⟨((Blk.new w _ _).alloc _).alloc _, k2, k3⟩
theorem Bx.call {s0 : Nat} {r : Rec} {u : Value} {t : Trf} {ue : Value} {z : Int} {s : Bool} {w w' : World} (h : Bx s0 r u t ue z s w) (hb : Below w.heap.size w w') : Bx s0 r u t ue z s w' := ⟨h.kr.call hb, h.kt.call hb, h.kz.call hb⟩
theorem Bx.cells {s0 : Nat} {r : Rec} {u : Value} {t : Trf} {ue : Value} {z : Int} {s : Bool} {w : World} (h : Bx s0 r u t ue z s w) :
    w.cell? ⟨s0, 4, none⟩ = some (i r.start) ∧ w.cell? ⟨s0, 6, none⟩ = some u ∧
    (w.cell? ⟨s0 + 1, 0, none⟩ = some (.string t.id) ∧ w.cell? ⟨s0 + 1, 1, none⟩ = some (.string t.cur) ∧ w.cell? ⟨s0 + 1, 2, none⟩ = some (i t.ver) ∧ w.cell? ⟨s0 + 1, 3, none⟩ = some (i t.fr) ∧ w.cell? ⟨s0 + 1, 4, none⟩ = some (i t.to) ∧ w.cell? ⟨s0 + 1, 5, none⟩ = some ue ∧ w.cell? ⟨s0 + 1, 6, none⟩ = some (i t.least) ∧ w.cell? ⟨s0 + 1, 7, none⟩ = some (i t.most)) ∧
    (w.cell? ⟨s0 + 1 + 1, 0, none⟩ = some (i z) ∧ w.cell? ⟨s0 + 1 + 1, 1, none⟩ = some (.bool s)) :=
  ⟨h.kr.cell 4, h.kr.cell 6, ⟨h.kt.cell 0, h.kt.cell 1, h.kt.cell 2, h.kt.cell 3, h.kt.cell 4, h.kt.cell 5, h.kt.cell 6, h.kt.cell 7⟩, h.kz.cell 0, h.kz.cell 1⟩

set_option maxRecDepth 100000 in
set_option maxHeartbeats 2000000 in
theorem bill (r : Rec) (A : Option Addr) (n k : Nat) (t : Trf) (A' : Option Addr) (n' k' : Nat) (z : Int) (s : Bool) (m : Int) (w : World) (ht : CalW.Tab w) (hR : RdgsAt w (.slice A n k) r.rds) (hE : ElemsAt w (.slice A' n' k') t.els) (hid : t.id.size ≤ maxLen) (hcur : t.cur.size ≤ maxLen) (hm : I64 m) (hl : I64 t.least) (hmo : I64 t.most) :
    Calls Tryz.prog 49 #[.agg (recA r (.slice A n k)), trfV t (.slice A' n' k'), CalW.zone z s, i m] w (BillPost (billR r t z s m) w) := by
  have HRE := billR_re r t z s m
  have HT := Lib.hid ht
  have HB0 := Lib.hid (below_alloc (below_alloc (below_alloc (Below.refl w.heap.size w) (.cells (recA r (.slice A n k)) 31)) (.cells (trA t (.slice A' n' k')) 36)) (.cells #[i z, .bool s] 38))
  have HX0 := Lib.hid (Bx.new r (.slice A n k) t (.slice A' n' k') z s w)
  have HUS : Hid (∀ W, Below w.heap.size w W → Calls Tryz.prog 76 #[.slice A n k, i m] W (UsePost r.rds m W)) := fun W hb => uses _ r.rds m W (hR.call hb) hm
  have HRUN : Hid (∀ W v, Below w.heap.size w W → UsesAt W v (useV r.rds m) → Calls Tryz.prog 77 #[trfV t (.slice A' n' k'), CalW.zone z s, i r.start, v] W (RunPost t ⟨z, s, r.start⟩ (useV r.rds m) W)) := fun W v hb hu => run t _ ⟨z, s, r.start⟩ _ v W (HT.out.below hb HT.out.lt) (hE.call hb) hid hcur hu
  have HITS : Hid (∀ W v, Chgs0At W v (chgsOf r t z s m) → Calls Tryz.prog 78 #[v] W (ItsPost (chgsOf r t z s m) W)) := fun W v h => items v _ W (chgs_at h (runV_ok _ _ _))
  have HADJ : Hid (∀ W v, ItmsAt W v (allV (chgsOf r t z s m)) → Calls Tryz.prog 79 #[v, i t.least, i t.most] W (AdjPost (allV (chgsOf r t z s m)) t.least t.most W)) := fun W v h => adjust v _ _ _ W h (by have := all_len (chgsOf r t z s m); omega) hl hmo
  have HTOT : Hid (∀ W v, ItmsAt W v (adj (allV (chgsOf r t z s m)) t.least t.most).1 → Calls Tryz.prog 80 #[v] W fun e w' => e = .returned (totV (adj (allV (chgsOf r t z s m)) t.least t.most).1) ∧ Below W.heap.size W w') := fun W v h => totals v _ W h (by have := all_len (chgsOf r t z s m); have := adj_len (allV (chgsOf r t z s m)) t.least t.most; omega)
  unfold UsePost at HUS
  unfold RunPost at HRUN
  unfold ItsPost at HITS
  unfold AdjPost at HADJ
  have hrv : runV t ⟨z, s, r.start⟩ (useV r.rds m) = chgsOf r t z s m := rfl
  rw [hrv] at HRUN
  obtain ⟨Ra, Rb, Rc, Rd, Re, Rf⟩ := HRE
  clear ht hR hE hid hcur hm hl hmo hrv
  generalize billR r t z s m = R at *
  generalize minE r.rds m = e1 at *
  generalize useV r.rds m = us at *
  generalize runE t ⟨z, s, r.start⟩ us = e2 at *
  generalize chgsOf r t z s m = cs at *
  generalize allE cs = e3 at *
  generalize allV cs = is at *
  generalize hadj : adj is t.least t.most = ad at *
  obtain ⟨js, e4⟩ := ad
  simp only at *
  by_cases h0 : e1 = 0
  case neg =>
    have hz : (e1 != 0) = true := by simpa using h0
    have HV := Lib.hid (Ra h0)
    clear Ra Rb Rc Rd Re Rf
    go_enter Tryz.func49, Tryz.ntmps49
    go_wp2_with fail
    refine (HUS.out _ HB0.out).mono ?_
    rintro e w1 ⟨v1, rfl, hv, hb⟩
    obtain ⟨P1, p1, rfl, _, _⟩ := SliceAt.form hv
    have HV1 := Lib.hid hv
    have HX1 := Lib.hid (HX0.out.call hb)
    have HB1 := Lib.hid (below_call HB0.out hb)
    obtain ⟨c4, c6, ⟨t0, t1, t2, t3, t4, t5, t6, t7⟩, z0, z1⟩ := HX1.out.cells
    clear hv hb
    go_wp2_with fail
    go_ret3
    exact BillPost.no HV.out HB1.out
  subst h0
  by_cases h1 : e2 = 0
  case neg =>
    have hz : (e2 != 0) = true := by simpa using h1
    have HV := Lib.hid (Rb rfl h1)
    clear Ra Rb Rc Rd Re Rf
    go_enter Tryz.func49, Tryz.ntmps49
    go_wp2_with fail
    refine (HUS.out _ HB0.out).mono ?_
    rintro e w1 ⟨v1, rfl, hv, hb⟩
    obtain ⟨P1, p1, rfl, _, _⟩ := SliceAt.form hv
    have HV1 := Lib.hid hv
    have HX1 := Lib.hid (HX0.out.call hb)
    have HB1 := Lib.hid (below_call HB0.out hb)
    obtain ⟨c4, c6, ⟨t0, t1, t2, t3, t4, t5, t6, t7⟩, z0, z1⟩ := HX1.out.cells
    clear hv hb
    go_wp2_with fail
    refine (HRUN.out _ _ HB1.out HV1.out).mono ?_
    rintro e w2 ⟨v2, rfl, hv, hb⟩
    obtain ⟨P2, p2, rfl, _, _⟩ := SliceAt.form hv
    have HV2 := Lib.hid hv
    have HX2 := Lib.hid (HX1.out.call hb)
    have HB2 := Lib.hid (below_call HB1.out hb)
    clear c4 c6 t0 t1 t2 t3 t4 t5 t6 t7 z0 z1
    obtain ⟨c4, c6, ⟨t0, t1, t2, t3, t4, t5, t6, t7⟩, z0, z1⟩ := HX2.out.cells
    clear hv hb
    go_wp2_with fail
    go_ret3
    exact BillPost.no HV.out HB2.out
  subst h1
  by_cases h2 : e3 = 0
  case neg =>
    have hz : (e3 != 0) = true := by simpa using h2
    have HV := Lib.hid (Rc rfl rfl h2)
    clear Ra Rb Rc Rd Re Rf
    go_enter Tryz.func49, Tryz.ntmps49
    go_wp2_with fail
    refine (HUS.out _ HB0.out).mono ?_
    rintro e w1 ⟨v1, rfl, hv, hb⟩
    obtain ⟨P1, p1, rfl, _, _⟩ := SliceAt.form hv
    have HV1 := Lib.hid hv
    have HX1 := Lib.hid (HX0.out.call hb)
    have HB1 := Lib.hid (below_call HB0.out hb)
    obtain ⟨c4, c6, ⟨t0, t1, t2, t3, t4, t5, t6, t7⟩, z0, z1⟩ := HX1.out.cells
    clear hv hb
    go_wp2_with fail
    refine (HRUN.out _ _ HB1.out HV1.out).mono ?_
    rintro e w2 ⟨v2, rfl, hv, hb⟩
    obtain ⟨P2, p2, rfl, _, _⟩ := SliceAt.form hv
    have HV2 := Lib.hid hv
    have HX2 := Lib.hid (HX1.out.call hb)
    have HB2 := Lib.hid (below_call HB1.out hb)
    clear c4 c6 t0 t1 t2 t3 t4 t5 t6 t7 z0 z1
    obtain ⟨c4, c6, ⟨t0, t1, t2, t3, t4, t5, t6, t7⟩, z0, z1⟩ := HX2.out.cells
    clear hv hb
    go_wp2_with fail
    refine (HITS.out _ _ HV2.out).mono ?_
    rintro e w3 ⟨v3, rfl, hv, hb⟩
    obtain ⟨P3, p3, rfl, _, _⟩ := SliceAt.form hv
    have HV3 := Lib.hid hv
    have HX3 := Lib.hid (HX2.out.call hb)
    have HB3 := Lib.hid (below_call HB2.out hb)
    clear c4 c6 t0 t1 t2 t3 t4 t5 t6 t7 z0 z1
    obtain ⟨c4, c6, ⟨t0, t1, t2, t3, t4, t5, t6, t7⟩, z0, z1⟩ := HX3.out.cells
    clear hv hb
    go_wp2_with fail
    go_ret3
    exact BillPost.no HV.out HB3.out
  subst h2
  by_cases h3 : e4 = 0
  case neg =>
    have hz : (e4 != 0) = true := by simpa using h3
    have HV := Lib.hid (Rd rfl rfl rfl h3)
    clear Ra Rb Rc Rd Re Rf
    go_enter Tryz.func49, Tryz.ntmps49
    go_wp2_with fail
    refine (HUS.out _ HB0.out).mono ?_
    rintro e w1 ⟨v1, rfl, hv, hb⟩
    obtain ⟨P1, p1, rfl, _, _⟩ := SliceAt.form hv
    have HV1 := Lib.hid hv
    have HX1 := Lib.hid (HX0.out.call hb)
    have HB1 := Lib.hid (below_call HB0.out hb)
    obtain ⟨c4, c6, ⟨t0, t1, t2, t3, t4, t5, t6, t7⟩, z0, z1⟩ := HX1.out.cells
    clear hv hb
    go_wp2_with fail
    refine (HRUN.out _ _ HB1.out HV1.out).mono ?_
    rintro e w2 ⟨v2, rfl, hv, hb⟩
    obtain ⟨P2, p2, rfl, _, _⟩ := SliceAt.form hv
    have HV2 := Lib.hid hv
    have HX2 := Lib.hid (HX1.out.call hb)
    have HB2 := Lib.hid (below_call HB1.out hb)
    clear c4 c6 t0 t1 t2 t3 t4 t5 t6 t7 z0 z1
    obtain ⟨c4, c6, ⟨t0, t1, t2, t3, t4, t5, t6, t7⟩, z0, z1⟩ := HX2.out.cells
    clear hv hb
    go_wp2_with fail
    refine (HITS.out _ _ HV2.out).mono ?_
    rintro e w3 ⟨v3, rfl, hv, hb⟩
    obtain ⟨P3, p3, rfl, _, _⟩ := SliceAt.form hv
    have HV3 := Lib.hid hv
    have HX3 := Lib.hid (HX2.out.call hb)
    have HB3 := Lib.hid (below_call HB2.out hb)
    clear c4 c6 t0 t1 t2 t3 t4 t5 t6 t7 z0 z1
    obtain ⟨c4, c6, ⟨t0, t1, t2, t3, t4, t5, t6, t7⟩, z0, z1⟩ := HX3.out.cells
    clear hv hb
    go_wp2_with fail
    refine (HADJ.out _ _ HV3.out).mono ?_
    rintro e w4 ⟨v4, rfl, hv, hb⟩
    obtain ⟨P4, p4, rfl, _, _⟩ := SliceAt.form hv
    have HV4 := Lib.hid hv
    have HX4 := Lib.hid (HX3.out.call hb)
    have HB4 := Lib.hid (below_call HB3.out hb)
    clear c4 c6 t0 t1 t2 t3 t4 t5 t6 t7 z0 z1
    obtain ⟨c4, c6, ⟨t0, t1, t2, t3, t4, t5, t6, t7⟩, z0, z1⟩ := HX4.out.cells
    clear hv hb
    go_wp2_with fail
    go_ret3
    exact BillPost.no HV.out HB4.out
  subst h3
  rcases bool_cases (totOk js) with hto | hto
  · have HV := Lib.hid (Rf rfl rfl rfl rfl hto)
    rw [totYes hto] at HTOT
    clear Ra Rb Rc Rd Re Rf
    go_enter Tryz.func49, Tryz.ntmps49
    go_wp2_with fail
    refine (HUS.out _ HB0.out).mono ?_
    rintro e w1 ⟨v1, rfl, hv, hb⟩
    obtain ⟨P1, p1, rfl, _, _⟩ := SliceAt.form hv
    have HV1 := Lib.hid hv
    have HX1 := Lib.hid (HX0.out.call hb)
    have HB1 := Lib.hid (below_call HB0.out hb)
    obtain ⟨c4, c6, ⟨t0, t1, t2, t3, t4, t5, t6, t7⟩, z0, z1⟩ := HX1.out.cells
    clear hv hb
    go_wp2_with fail
    refine (HRUN.out _ _ HB1.out HV1.out).mono ?_
    rintro e w2 ⟨v2, rfl, hv, hb⟩
    obtain ⟨P2, p2, rfl, _, _⟩ := SliceAt.form hv
    have HV2 := Lib.hid hv
    have HX2 := Lib.hid (HX1.out.call hb)
    have HB2 := Lib.hid (below_call HB1.out hb)
    clear c4 c6 t0 t1 t2 t3 t4 t5 t6 t7 z0 z1
    obtain ⟨c4, c6, ⟨t0, t1, t2, t3, t4, t5, t6, t7⟩, z0, z1⟩ := HX2.out.cells
    clear hv hb
    go_wp2_with fail
    refine (HITS.out _ _ HV2.out).mono ?_
    rintro e w3 ⟨v3, rfl, hv, hb⟩
    obtain ⟨P3, p3, rfl, _, _⟩ := SliceAt.form hv
    have HV3 := Lib.hid hv
    have HX3 := Lib.hid (HX2.out.call hb)
    have HB3 := Lib.hid (below_call HB2.out hb)
    clear c4 c6 t0 t1 t2 t3 t4 t5 t6 t7 z0 z1
    obtain ⟨c4, c6, ⟨t0, t1, t2, t3, t4, t5, t6, t7⟩, z0, z1⟩ := HX3.out.cells
    clear hv hb
    go_wp2_with fail
    refine (HADJ.out _ _ HV3.out).mono ?_
    rintro e w4 ⟨v4, rfl, hv, hb⟩
    obtain ⟨P4, p4, rfl, _, _⟩ := SliceAt.form hv
    have HV4 := Lib.hid hv
    have HX4 := Lib.hid (HX3.out.call hb)
    have HB4 := Lib.hid (below_call HB3.out hb)
    clear c4 c6 t0 t1 t2 t3 t4 t5 t6 t7 z0 z1
    obtain ⟨c4, c6, ⟨t0, t1, t2, t3, t4, t5, t6, t7⟩, z0, z1⟩ := HX4.out.cells
    clear hv hb
    go_wp2_with fail
    refine (HTOT.out _ _ HV4.out).mono ?_
    rintro e w5 ⟨he, hb⟩
    subst he
    have HB5 := Lib.hid (below_call HB4.out hb)
    have HV5 := Lib.hid (ItmsAt.call HV4.out hb)
    clear hb
    go_wp2_with fail
    go_ret3
    exact ⟨_, by rw [HV.out]; rfl, by rw [HV.out]; exact HV5.out, HB5.out⟩
  · have HV := Lib.hid (Re rfl rfl rfl rfl hto)
    rw [totNo hto] at HTOT
    clear Ra Rb Rc Rd Re Rf
    go_enter Tryz.func49, Tryz.ntmps49
    go_wp2_with fail
    refine (HUS.out _ HB0.out).mono ?_
    rintro e w1 ⟨v1, rfl, hv, hb⟩
    obtain ⟨P1, p1, rfl, _, _⟩ := SliceAt.form hv
    have HV1 := Lib.hid hv
    have HX1 := Lib.hid (HX0.out.call hb)
    have HB1 := Lib.hid (below_call HB0.out hb)
    obtain ⟨c4, c6, ⟨t0, t1, t2, t3, t4, t5, t6, t7⟩, z0, z1⟩ := HX1.out.cells
    clear hv hb
    go_wp2_with fail
    refine (HRUN.out _ _ HB1.out HV1.out).mono ?_
    rintro e w2 ⟨v2, rfl, hv, hb⟩
    obtain ⟨P2, p2, rfl, _, _⟩ := SliceAt.form hv
    have HV2 := Lib.hid hv
    have HX2 := Lib.hid (HX1.out.call hb)
    have HB2 := Lib.hid (below_call HB1.out hb)
    clear c4 c6 t0 t1 t2 t3 t4 t5 t6 t7 z0 z1
    obtain ⟨c4, c6, ⟨t0, t1, t2, t3, t4, t5, t6, t7⟩, z0, z1⟩ := HX2.out.cells
    clear hv hb
    go_wp2_with fail
    refine (HITS.out _ _ HV2.out).mono ?_
    rintro e w3 ⟨v3, rfl, hv, hb⟩
    obtain ⟨P3, p3, rfl, _, _⟩ := SliceAt.form hv
    have HV3 := Lib.hid hv
    have HX3 := Lib.hid (HX2.out.call hb)
    have HB3 := Lib.hid (below_call HB2.out hb)
    clear c4 c6 t0 t1 t2 t3 t4 t5 t6 t7 z0 z1
    obtain ⟨c4, c6, ⟨t0, t1, t2, t3, t4, t5, t6, t7⟩, z0, z1⟩ := HX3.out.cells
    clear hv hb
    go_wp2_with fail
    refine (HADJ.out _ _ HV3.out).mono ?_
    rintro e w4 ⟨v4, rfl, hv, hb⟩
    obtain ⟨P4, p4, rfl, _, _⟩ := SliceAt.form hv
    have HV4 := Lib.hid hv
    have HX4 := Lib.hid (HX3.out.call hb)
    have HB4 := Lib.hid (below_call HB3.out hb)
    clear c4 c6 t0 t1 t2 t3 t4 t5 t6 t7 z0 z1
    obtain ⟨c4, c6, ⟨t0, t1, t2, t3, t4, t5, t6, t7⟩, z0, z1⟩ := HX4.out.cells
    clear hv hb
    go_wp2_with fail
    refine (HTOT.out _ _ HV4.out).mono ?_
    rintro e w5 ⟨he, hb⟩
    subst he
    have HB5 := Lib.hid (below_call HB4.out hb)
    clear hb
    go_wp2_with fail
    go_ret3
    exact BillPost.no HV.out HB5.out
end Cdr
end Go.Proofs.YtpmcdjpfolgpiaaGreatDoor
