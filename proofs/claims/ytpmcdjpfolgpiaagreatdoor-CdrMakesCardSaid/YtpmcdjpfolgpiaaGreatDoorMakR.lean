/-
  The walks of the reference's items and Make.
  The walk of the statement CdrMakes.
-/
import Derived.Test.YtpmcdjpfolgpiaaGreatDoorRecR
import Derived.Test.YtpmcdjpfolgpiaaGreatDoorAdjR
import Derived.Test.YtpmcdjpfolgpiaaGreatDoorPriR
import Derived.Test.YtpmcdjpfolgpiaaGreatDoorCdrE
import Derived.Test.YtpmcdjpfolgpiaaGreatDoorLawB
import Derived.Test.YtpmcdjpfolgpiaaGreatDoorCdrO
import Derived.Great.BuildSlice
import Derived.BigRegion
namespace Go.Proofs.YtpmcdjpfolgpiaaGreatDoor
namespace Cdr
set_option linter.unusedSimpArgs false
set_option linter.unusedVariables false
open Go.RowKit MonW TarW Usg UsgW Prc PriW CdrW

/-- The items of a session, as the reference has them. -/
def itsR (r : Rec) (t : Trf) (z : Int) (s : Bool) (m : Int) : List Itm × Int :=
  if minE r.rds m ≠ 0 then ([], minE r.rds m)
  else if runE t ⟨z, s, r.start⟩ (useV r.rds m) ≠ 0 then ([], runE t ⟨z, s, r.start⟩ (useV r.rds m))
  else if allE (chgsOf r t z s m) ≠ 0 then ([], allE (chgsOf r t z s m))
  else adj (allV (chgsOf r t z s m)) t.least t.most
theorem bill_its (r : Rec) (t : Trf) (z : Int) (s : Bool) (m : Int) : billR r t z s m = if (itsR r t z s m).2 ≠ 0 then ([], 0, (itsR r t z s m).2) else if totOk (itsR r t z s m).1 = false then ([], 0, 20) else ((itsR r t z s m).1, sGross (itsR r t z s m).1, 0) := by
  unfold billR itsR
  by_cases h1 : minE r.rds m ≠ 0
  · simp only [if_pos h1]
  by_cases h2 : runE t ⟨z, s, r.start⟩ (useV r.rds m) ≠ 0
  · simp only [if_neg h1, if_pos h2]
  by_cases h3 : allE (chgsOf r t z s m) ≠ 0
  · simp only [if_neg h1, if_neg h2, if_pos h3]
  · simp only [if_neg h1, if_neg h2, if_neg h3]
theorem its_len (r : Rec) (t : Trf) (z : Int) (s : Bool) (m : Int) : (itsR r t z s m).1.length ≤ 65 := by
  unfold itsR
  split
  · simp
  split
  · simp
  split
  · simp
  · have := all_len (chgsOf r t z s m)
    have := adj_len (allV (chgsOf r t z s m)) t.least t.most
    omega
def IPost (R : List Itm × Int) (w : World) (e : Ending) (w' : World) : Prop := ∃ v, e = .returned (.tuple #[v, i R.2]) ∧ ItmsAt w' v R.1 ∧ Below w.heap.size w w'
theorem IPost.no {R : List Itm × Int} {w w' : World} {n : Int} (h : R = ([], n)) (hb : Below w.heap.size w w') : IPost R w (.returned (.tuple #[.slice none 0 0, i n])) w' := by
  subst h
  exact ⟨_, rfl, SliceAt.nil, hb⟩

set_option maxRecDepth 100000 in
set_option maxHeartbeats 4000000 in
theorem ritems46 (r : Rec) (A : Option Addr) (n k : Nat) (t : Trf) (A' : Option Addr) (n' k' : Nat) (z : Int) (s : Bool) (m : Int) (w : World) (hR : RdgsAt w (.slice A n k) r.rds) (hE : ElemsAt w (.slice A' n' k') t.els) (hid : t.id.size ≤ maxLen) (hcur : t.cur.size ≤ maxLen) (hl : I64 t.least) (hmo : I64 t.most) :
    Calls Tryz.prog 33 #[.agg (recA r (.slice A n k)), trfV t (.slice A' n' k'), CalW.zone z s, i m] w (IPost (itsR r t z s m) w) := by
  have Ra : minE r.rds m ≠ 0 → itsR r t z s m = ([], minE r.rds m) := fun h => by unfold itsR; rw [if_pos h]
  have Rb : minE r.rds m = 0 → runE t ⟨z, s, r.start⟩ (useV r.rds m) ≠ 0 → itsR r t z s m = ([], runE t ⟨z, s, r.start⟩ (useV r.rds m)) := fun h h2 => by unfold itsR; rw [if_neg (fun e => e h), if_pos h2]
  have Rc : minE r.rds m = 0 → runE t ⟨z, s, r.start⟩ (useV r.rds m) = 0 → allE (chgsOf r t z s m) ≠ 0 → itsR r t z s m = ([], allE (chgsOf r t z s m)) := fun h h2 h3 => by unfold itsR; rw [if_neg (fun e => e h), if_neg (fun e => e h2), if_pos h3]
  have Rd : minE r.rds m = 0 → runE t ⟨z, s, r.start⟩ (useV r.rds m) = 0 → allE (chgsOf r t z s m) = 0 → itsR r t z s m = adj (allV (chgsOf r t z s m)) t.least t.most := fun h h2 h3 => by unfold itsR; rw [if_neg (fun e => e h), if_neg (fun e => e h2), if_neg (fun e => e h3)]
  have HB0 := Lib.hid (below_alloc (below_alloc (below_alloc (Below.refl w.heap.size w) (.cells (recA r (.slice A n k)) 31)) (.cells (trA t (.slice A' n' k')) 36)) (.cells #[i z, .bool s] 38))
  have HX0 := Lib.hid (Bx.new r (.slice A n k) t (.slice A' n' k') z s w)
  have HUS : Hid (∀ W, Below w.heap.size w W → Calls Tryz.prog 50 #[.slice A n k, i m] W (UsePost r.rds m W)) := fun W hb => ruses _ r.rds m W (hR.call hb)
  have HRUN : Hid (∀ W v, Below w.heap.size w W → UsesAt W v (useV r.rds m) → Calls Tryz.prog 51 #[trfV t (.slice A' n' k'), CalW.zone z s, i r.start, v] W (RunPost t ⟨z, s, r.start⟩ (useV r.rds m) W)) := fun W v hb hu => rrun t _ ⟨z, s, r.start⟩ _ v W (hE.call hb) hid hcur hu
  have HITS : Hid (∀ W v, Chgs0At W v (chgsOf r t z s m) → Calls Tryz.prog 52 #[v] W (ItsPost (chgsOf r t z s m) W)) := fun W v h => MonW.ritems v _ W (chgs_at h (runV_ok _ _ _))
  have HADJ : Hid (∀ W v, ItmsAt W v (allV (chgsOf r t z s m)) → Calls Tryz.prog 53 #[v, i t.least, i t.most] W (AdjPost (allV (chgsOf r t z s m)) t.least t.most W)) := fun W v h => radjust v _ _ _ W h (by have := all_len (chgsOf r t z s m); omega) hl hmo
  unfold UsePost at HUS
  unfold RunPost at HRUN
  unfold ItsPost at HITS
  unfold AdjPost at HADJ
  have hrv : runV t ⟨z, s, r.start⟩ (useV r.rds m) = chgsOf r t z s m := rfl
  rw [hrv] at HRUN
  clear hR hE hid hcur hl hmo hrv
  generalize itsR r t z s m = R at *
  generalize minE r.rds m = e1 at *
  generalize useV r.rds m = us at *
  generalize runE t ⟨z, s, r.start⟩ us = e2 at *
  generalize chgsOf r t z s m = cs at *
  generalize allE cs = e3 at *
  generalize allV cs = is at *
  have RA := Lib.hid Ra
  have RB := Lib.hid Rb
  have RC := Lib.hid Rc
  have RD := Lib.hid Rd
  clear Ra Rb Rc Rd
  go_enter Tryz.func33, Tryz.ntmps33
  go_wp2_with fail
  refine (HUS.out _ HB0.out).mono ?_
  rintro e w1 ⟨v1, rfl, hv, hb⟩
  obtain ⟨P1, p1, rfl, _, _⟩ := SliceAt.form hv
  have HV1 := Lib.hid hv
  have HX1 := Lib.hid (HX0.out.call hb)
  have HB1 := Lib.hid (below_call HB0.out hb)
  obtain ⟨c4, c6, ⟨t0, t1, t2, t3, t4, t5, t6, t7⟩, z0, z1⟩ := HX1.out.cells
  clear hv hb HUS HX0 HB0
  by_cases h0 : e1 = 0
  case neg =>
    have hz : (e1 != 0) = true := by simpa using h0
    have HV := Lib.hid (RA.out h0)
    go_wp2_with fail
    go_ret2
    exact IPost.no HV.out HB1.out
  replace RB := Lib.hid (RB.out h0)
  replace RC := Lib.hid (RC.out h0)
  replace RD := Lib.hid (RD.out h0)
  subst h0
  clear RA
  go_wp2_with fail
  refine (HRUN.out _ _ HB1.out HV1.out).mono ?_
  rintro e w2 ⟨v2, rfl, hv, hb⟩
  obtain ⟨P2, p2, rfl, _, _⟩ := SliceAt.form hv
  have HV2 := Lib.hid hv
  have HX2 := Lib.hid (HX1.out.call hb)
  have HB2 := Lib.hid (below_call HB1.out hb)
  clear c4 c6 t0 t1 t2 t3 t4 t5 t6 t7 z0 z1
  obtain ⟨c4, c6, ⟨t0, t1, t2, t3, t4, t5, t6, t7⟩, z0, z1⟩ := HX2.out.cells
  clear hv hb HRUN HX1 HB1 HV1
  by_cases h1 : e2 = 0
  case neg =>
    have hz : (e2 != 0) = true := by simpa using h1
    have HV := Lib.hid (RB.out h1)
    go_wp2_with fail
    go_ret2
    exact IPost.no HV.out HB2.out
  replace RC := Lib.hid (RC.out h1)
  replace RD := Lib.hid (RD.out h1)
  subst h1
  clear RB
  go_wp2_with fail
  refine (HITS.out _ _ HV2.out).mono ?_
  rintro e w3 ⟨v3, rfl, hv, hb⟩
  obtain ⟨P3, p3, rfl, _, _⟩ := SliceAt.form hv
  have HV3 := Lib.hid hv
  have HX3 := Lib.hid (HX2.out.call hb)
  have HB3 := Lib.hid (below_call HB2.out hb)
  clear c4 c6 t0 t1 t2 t3 t4 t5 t6 t7 z0 z1
  obtain ⟨c4, c6, ⟨t0, t1, t2, t3, t4, t5, t6, t7⟩, z0, z1⟩ := HX3.out.cells
  clear hv hb HITS HX2 HB2 HV2
  by_cases h2 : e3 = 0
  case neg =>
    have hz : (e3 != 0) = true := by simpa using h2
    have HV := Lib.hid (RC.out h2)
    go_wp2_with fail
    go_ret2
    exact IPost.no HV.out HB3.out
  replace RD := Lib.hid (RD.out h2)
  subst h2
  clear RC
  go_wp2_with fail
  refine (HADJ.out _ _ HV3.out).mono ?_
  rintro e w4 ⟨v4, rfl, hv, hb⟩
  obtain ⟨P4, p4, rfl, _, _⟩ := SliceAt.form hv
  have HF : Hid (IPost R w (.returned (.tuple #[.slice P4 (adj is t.least t.most).1.length p4, i (adj is t.least t.most).2])) w4) := by
    rw [RD.out]
    exact ⟨_, rfl, hv, below_call HB3.out hb⟩
  clear hv hb
  generalize adj is t.least t.most = ad at *
  obtain ⟨js, e4⟩ := ad
  go_wp2_with fail
  go_ret2
  exact HF.out

theorem retK {W : World} {tmps : Array Value} {B : Nat} {c : CDR} {A : Option Addr} {n k : Nat} {E : Int} (h1 : tmps.getD 14 undef = .pointer (some ⟨B, 0, none⟩)) (h2 : tmps.getD 15 undef = i E) (hk : Blk W B 24 (cdrA c (.slice A n k))) :
    (results Tryz.f14 tmps).run Tryz.prog W = .ok (.tuple #[.agg (cdrA c (.slice A n k)), i E]) W := by
  obtain ⟨c0, c1, c2, c3, c4, c5, c6, c7, c8, c9, c10, c11, c12, c13⟩ := cdr_cells hk
  rw [Array.getD_eq_getD_getElem?] at h1 h2
  simp [results, Tryz.f14, go_sem, h1, h2, c0, c1, c2, c3, c4, c5, c6, c7, c8, c9, c10, c11, c12, c13]

set_option maxRecDepth 100000 in
set_option maxHeartbeats 4000000 in
theorem rmake (id op pr : ByteArray) (r : Rec) (A : Option Addr) (n k : Nat) (t : Trf) (A' : Option Addr) (n' k' : Nat) (z : Int) (s : Bool) (m : Int) (w : World) (hR : RdgsAt w (.slice A n k) r.rds) (hE : ElemsAt w (.slice A' n' k') t.els)
    (h1 : id.size ≤ maxLen) (h2 : op.size ≤ maxLen) (h3 : pr.size ≤ maxLen) (ho : r.ok) (hid : t.id.size ≤ maxLen) (hcur : t.cur.size ≤ maxLen) (hl : I64 t.least) (hmo : I64 t.most) (hs1 : I64 r.start) (hs2 : I64 r.stop) (hs3 : I64 r.en) :
    Calls Tryz.prog 14 #[.string id, .string op, .string pr, .agg (recA r (.slice A n k)), trfV t (.slice A' n' k'), CalW.zone z s, i m] w (MakePost (makeR id op pr r t z s m) w) := by
  obtain ⟨Ra, Rb, Rc, Rd, Re, Rf, Rg⟩ := makeR_re id op pr r t z s m
  have HB0 := Lib.hid (below_alloc (below_alloc (below_alloc (below_alloc (Below.refl w.heap.size w) (.cells (recA r (.slice A n k)) 31)) (.cells (trA t (.slice A' n' k')) 36)) (.cells #[i z, .bool s] 38)) (.cells (cdrA noCdr nil0) 24))
  have HX0 := Lib.hid (MX.new r (.slice A n k) t (.slice A' n' k') z s w)
  have hnm : [id, op, pr].all IdW.identOk = (IdW.identOk id && (IdW.identOk op && IdW.identOk pr)) := by simp only [List.all_cons, List.all_nil, Bool.and_true]
  obtain ⟨b1, q1⟩ : ∃ b, IdW.identOk id = b := ⟨_, rfl⟩
  obtain ⟨b2, q2⟩ : ∃ b, IdW.identOk op = b := ⟨_, rfl⟩
  obtain ⟨b3, q3⟩ : ∃ b, IdW.identOk pr = b := ⟨_, rfl⟩
  have C1 := Lib.hid (fun W => rid id W h1 q1)
  have C2 := Lib.hid (fun W => rid op W h2 q2)
  have C3 := Lib.hid (fun W => rid pr W h3 q3)
  rw [hnm, q1, q2, q3] at Ra Rb Rc Rd Re Rf Rg
  have HRV : Hid (∀ W, Below w.heap.size w W → Calls Tryz.prog 32 #[.agg (recA r (.slice A n k))] W fun e w' => e = .returned (i (recE r)) ∧ Below W.heap.size W w') := fun W hb => rrecValid r A n k W ho (hR.call hb) rfl
  have HIT : Hid (∀ W, Below w.heap.size w W → Calls Tryz.prog 33 #[.agg (recA r (.slice A n k)), trfV t (.slice A' n' k'), CalW.zone z s, i m] W (IPost (itsR r t z s m) W)) := fun W hb => ritems46 r A n k t A' n' k' z s m W (hR.call hb) (hE.call hb) hid hcur hl hmo
  have HTO : Hid (∀ W v, ItmsAt W v (itsR r t z s m).1 → Calls Tryz.prog 34 #[v] W fun e w' => e = .returned (totV (itsR r t z s m).1) ∧ Below W.heap.size W w') := fun W v h => rtotals v _ W h (by have := its_len r t z s m; omega)
  have HCV : Hid (∀ W B q q', ItmsAt W (.slice B q q') (billR r t z s m).1 → Calls Tryz.prog 11 #[.agg (cdrA (mkCdr id op pr r t (billR r t z s m)) (.slice B q q'))] W fun e w' => e = .returned (i (cdrE (mkCdr id op pr r t (billR r t z s m)))) ∧ Below W.heap.size W w') := fun W B q q' h => rvalid _ B q q' W ⟨h1, h2, h3, ho.s2, hid, hcur, by show 0 ≤ maxLen; omega, by show I64 1; unfold I64; omega, hs1, hs2, hs3, bill_I64 r t z s m⟩ h rfl
  unfold IPost at HIT
  have HBI := Lib.hid (bill_its r t z s m)
  have HTV := fun h => totNo (cs := (itsR r t z s m).1) h
  have HTY : totOk (itsR r t z s m).1 = true → totV (itsR r t z s m).1 = .tuple #[i (sNet (itsR r t z s m).1), i (sVat (itsR r t z s m).1), i (sGross (itsR r t z s m).1), i 0] := fun h => by unfold totV totX totE; simp only [h, if_true]
  have HTN := Lib.hid HTV
  have HTYY := Lib.hid HTY
  clear hR hE h1 h2 h3 ho hid hcur hl hmo hs1 hs2 hs3 q1 q2 q3 hnm HTV HTY
  generalize makeR id op pr r t z s m = R at *
  generalize recE r = e1 at *
  generalize itsR r t z s m = it at *
  obtain ⟨its, e2⟩ := it
  generalize billR r t z s m = bl at *
  obtain ⟨sta, txn, conn, tok, start, stop, rds, en, reason, off, den⟩ := r
  simp only at *
  have RA := Lib.hid Ra
  have RB := Lib.hid Rb
  have RC := Lib.hid Rc
  have RD := Lib.hid Rd
  have RE := Lib.hid Re
  have RF := Lib.hid Rf
  have RG := Lib.hid Rg
  clear Ra Rb Rc Rd Re Rf Rg
  go_enter Tryz.func14, Tryz.ntmps14
  go_wp2_with fail
  refine (C1.out _).mono ?_
  rintro e w1 ⟨rfl, hb⟩
  have HX1 := Lib.hid (HX0.out.call hb)
  have HB1 := Lib.hid (below_call HB0.out hb)
  clear hb
  obtain ⟨c0, c1, c2, c3, c4, c5, c6, c7, c8, c9, c10⟩ := rec_cells HX1.out.bx.kr
  obtain ⟨-, -, ⟨t0, t1, t2, t3, t4, t5, t6, t7⟩, z0, z1⟩ := HX1.out.bx.cells
  obtain ⟨d, fz⟩ := HX1.out.res
  cases b1
  case false =>
    have HV := Lib.hid (RA.out (by simp))
    go_wp2_with fail
    refine bodyPost_ret (retK rfl rfl (put14_blk noCdr nil0 HX1.out.kc)) rfl ?_
    exact MakePost.no HV.out (put14_below noCdr nil0 HB1.out (by omega))
  go_wp2_with fail
  refine (C2.out _).mono ?_
  rintro e w2 ⟨rfl, hb⟩
  have HX2 := Lib.hid (HX1.out.call hb)
  have HB2 := Lib.hid (below_call HB1.out hb)
  clear hb
  clear c0 c1 c2 c3 c4 c5 c6 c7 c8 c9 c10 t0 t1 t2 t3 t4 t5 t6 t7 z0 z1 d fz
  obtain ⟨c0, c1, c2, c3, c4, c5, c6, c7, c8, c9, c10⟩ := rec_cells HX2.out.bx.kr
  obtain ⟨-, -, ⟨t0, t1, t2, t3, t4, t5, t6, t7⟩, z0, z1⟩ := HX2.out.bx.cells
  obtain ⟨d, fz⟩ := HX2.out.res
  cases b2
  case false =>
    have HV := Lib.hid (RA.out (by simp))
    go_wp2_with fail
    refine bodyPost_ret (retK rfl rfl (put14_blk noCdr nil0 HX2.out.kc)) rfl ?_
    exact MakePost.no HV.out (put14_below noCdr nil0 HB2.out (by omega))
  go_wp2_with fail
  refine (C3.out _).mono ?_
  rintro e w3 ⟨rfl, hb⟩
  have HX3 := Lib.hid (HX2.out.call hb)
  have HB3 := Lib.hid (below_call HB2.out hb)
  clear hb
  clear c0 c1 c2 c3 c4 c5 c6 c7 c8 c9 c10 t0 t1 t2 t3 t4 t5 t6 t7 z0 z1 d fz
  obtain ⟨c0, c1, c2, c3, c4, c5, c6, c7, c8, c9, c10⟩ := rec_cells HX3.out.bx.kr
  obtain ⟨-, -, ⟨t0, t1, t2, t3, t4, t5, t6, t7⟩, z0, z1⟩ := HX3.out.bx.cells
  obtain ⟨d, fz⟩ := HX3.out.res
  cases b3
  case false =>
    have HV := Lib.hid (RA.out (by simp))
    go_wp2_with fail
    refine bodyPost_ret (retK rfl rfl (put14_blk noCdr nil0 HX3.out.kc)) rfl ?_
    exact MakePost.no HV.out (put14_below noCdr nil0 HB3.out (by omega))
  by_cases hq : op = pr
  case pos =>
    have hqz : (op.toList == pr.toList) = true := by rw [hq]; simp
    have HV0 := Lib.hid (RB.out (by simp) hq)
    clear hq
    have HV := Lib.hid (HV0.out)
    go_wp2_with fail
    refine bodyPost_ret (retK rfl rfl (put14_blk noCdr nil0 HX3.out.kc)) rfl ?_
    exact MakePost.no HV.out (put14_below noCdr nil0 HB3.out (by omega))
  have hqz := str_ne hq
  replace RC := Lib.hid (RC.out (by simp) hq)
  replace RD := Lib.hid (RD.out (by simp) hq)
  replace RE := Lib.hid (RE.out (by simp) hq)
  replace RF := Lib.hid (RF.out (by simp) hq)
  replace RG := Lib.hid (RG.out (by simp) hq)
  clear RA RB hq C1 C2 C3 HX0 HB0 HX1 HB1 HX2 HB2
  go_wp2_with fail
  refine (HRV.out _ HB3.out).mono ?_
  rintro e w4 ⟨rfl, hb⟩
  have HX4 := Lib.hid (HX3.out.call hb)
  have HB4 := Lib.hid (below_call HB3.out hb)
  clear hb
  clear c0 c1 c2 c3 c4 c5 c6 c7 c8 c9 c10 t0 t1 t2 t3 t4 t5 t6 t7 z0 z1 d fz
  obtain ⟨c0, c1, c2, c3, c4, c5, c6, c7, c8, c9, c10⟩ := rec_cells HX4.out.bx.kr
  obtain ⟨-, -, ⟨t0, t1, t2, t3, t4, t5, t6, t7⟩, z0, z1⟩ := HX4.out.bx.cells
  obtain ⟨d, fz⟩ := HX4.out.res
  by_cases h1 : e1 = 0
  case neg =>
    have hz : (e1 != 0) = true := by simpa using h1
    have HV := Lib.hid (RC.out h1)
    go_wp2_with fail
    refine bodyPost_ret (retK rfl rfl (put14_blk noCdr nil0 HX4.out.kc)) rfl ?_
    exact MakePost.no HV.out (put14_below noCdr nil0 HB4.out (by omega))
  replace RD := Lib.hid (RD.out h1)
  replace RE := Lib.hid (RE.out h1)
  replace RF := Lib.hid (RF.out h1)
  replace RG := Lib.hid (RG.out h1)
  subst h1
  clear RC HX3 HB3 HRV hqz
  go_upto_region 8 with (fail)
  go_cut [54] (fun s54 wd => s54 = .bool (decide (den = true ∧ en = 0)) ∧ w4 = wd)
  case first =>
    cases den with
    | false =>
      go_wp2_with fail
      go_meet
      exact ⟨rfl, rfl⟩
    | true =>
      by_cases hen : en = 0
      · have hz : (en == 0) = true := beq_iff_eq.2 hen
        have HEN := Lib.hid hen
        clear hen
        go_wp2_with fail
        go_meet
        exact ⟨by have h := HEN.out; simp [h], rfl⟩
      · have hz : (en == 0) = false := beq_eq_false_iff_ne.2 hen
        have HEN := Lib.hid hen
        clear hen
        go_wp2_with fail
        go_meet
        exact ⟨by have h := HEN.out; simp [h], rfl⟩
  case rest =>
  obtain ⟨rfl, rfl⟩ := hcut
  by_cases hdn : den = true ∧ en = 0
  case pos =>
    have hdz : decide (den = true ∧ en = 0) = true := decide_eq_true hdn
    have HV0 := Lib.hid (RD.out hdn)
    rw [hdz]
    clear hdn hdz
    have HV := Lib.hid (HV0.out)
    go_wp2_with fail
    refine bodyPost_ret (retK rfl rfl (put14_blk noCdr nil0 HX4.out.kc)) rfl ?_
    exact MakePost.no HV.out (put14_below noCdr nil0 HB4.out (by omega))
  have hdz : decide (den = true ∧ en = 0) = false := decide_eq_false hdn
  replace RE := Lib.hid (RE.out hdn)
  replace RF := Lib.hid (RF.out hdn)
  replace RG := Lib.hid (RG.out hdn)
  rw [hdz]
  clear hdn hdz RD
  go_wp2_with fail
  refine (HIT.out _ HB4.out).mono ?_
  rintro e w5 ⟨v, rfl, hv, hb⟩
  obtain ⟨VA, vk, rfl, _, _⟩ := SliceAt.form hv
  have HV5 : Hid (ItmsAt w5 (.slice VA its.length vk) its) := hv
  clear hv
  have HX5 := Lib.hid (HX4.out.call hb)
  have HB5 := Lib.hid (below_call HB4.out hb)
  clear hb
  clear c0 c1 c2 c3 c4 c5 c6 c7 c8 c9 c10 t0 t1 t2 t3 t4 t5 t6 t7 z0 z1 d fz
  obtain ⟨c0, c1, c2, c3, c4, c5, c6, c7, c8, c9, c10⟩ := rec_cells HX5.out.bx.kr
  obtain ⟨-, -, ⟨t0, t1, t2, t3, t4, t5, t6, t7⟩, z0, z1⟩ := HX5.out.bx.cells
  obtain ⟨d, fz⟩ := HX5.out.res
  by_cases h2 : e2 = 0
  case neg =>
    have hz : (e2 != 0) = true := by simpa using h2
    have HB := Lib.hid (HBI.out.trans (if_pos h2))
    have HV0 : Hid (R = (noCdr, e2)) := by
      have := RE.out (by rw [HB.out]; exact h2)
      rw [HB.out] at this
      exact this
    have HV := Lib.hid (HV0.out)
    go_wp2_with fail
    refine bodyPost_ret (retK rfl rfl (put14_blk noCdr nil0 HX5.out.kc)) rfl ?_
    exact MakePost.no HV.out (put14_below noCdr nil0 HB5.out (by omega))
  have HBI2 : Hid (bl = if totOk its = false then ([], 0, 20) else (its, sGross its, 0)) := HBI.out.trans (if_neg (fun e => e h2))
  subst h2
  clear HBI HIT HX4 HB4
  go_wp2_with fail
  refine (HTO.out _ _ HV5.out).mono ?_
  rintro e w6 ⟨rfl, hb⟩
  have HV6 := Lib.hid (ItmsAt.call HV5.out hb)
  clear HTO HV5
  have HX6 := Lib.hid (HX5.out.call hb)
  have HB6 := Lib.hid (below_call HB5.out hb)
  clear hb
  clear c0 c1 c2 c3 c4 c5 c6 c7 c8 c9 c10 t0 t1 t2 t3 t4 t5 t6 t7 z0 z1 d fz
  obtain ⟨c0, c1, c2, c3, c4, c5, c6, c7, c8, c9, c10⟩ := rec_cells HX6.out.bx.kr
  obtain ⟨-, -, ⟨t0, t1, t2, t3, t4, t5, t6, t7⟩, z0, z1⟩ := HX6.out.bx.cells
  obtain ⟨d, fz⟩ := HX6.out.res
  cases htk : totOk its with
  | false =>
    have HB : Hid (bl = ([], 0, 20)) := HBI2.out.trans (if_pos htk)
    have HV0 : Hid (R = (noCdr, 20)) := by
      have := RE.out (by rw [HB.out]; decide)
      rw [HB.out] at this
      exact this
    rw [HTN.out htk]
    clear htk
    have HV := Lib.hid (HV0.out)
    go_wp2_with fail
    refine bodyPost_ret (retK rfl rfl (put14_blk noCdr nil0 HX6.out.kc)) rfl ?_
    exact MakePost.no HV.out (put14_below noCdr nil0 HB6.out (by omega))
  | true =>
    have HB : Hid (bl = (its, sGross its, 0)) := HBI2.out.trans (if_neg (by rw [htk]; decide))
    rw [HTYY.out htk]
    clear htk HBI2 HTN HTYY RE
    have hbl := HB.out
    subst hbl
    replace RF := Lib.hid (RF.out rfl)
    replace RG := Lib.hid (RG.out rfl)
    generalize hcc : cdrE (mkCdr id op pr ⟨sta, txn, conn, tok, start, stop, rds, en, reason, off, den⟩ t (its, sGross its, 0)) = e3 at *
    clear hcc HB
    generalize sGross its = gr at *
    generalize sNet its = ne at *
    generalize sVat its = va at *
    go_wp2_with fail
    have HVA := Lib.hid (ItmsAt.call HV6.out (below_new w6 (.cells (cdrA (mkCdr id op pr ⟨sta, txn, conn, tok, start, stop, rds, en, reason, off, den⟩ t (its, gr, 0)) (.slice VA its.length vk)) 24)))
    refine (HCV.out _ _ _ _ HVA.out).mono ?_
    rintro e w7 ⟨rfl, hb⟩
    have HV7 := Lib.hid (ItmsAt.call HVA.out hb)
    have HK7 := Lib.hid ((Blk.new w6 24 (cdrA (mkCdr id op pr ⟨sta, txn, conn, tok, start, stop, rds, en, reason, off, den⟩ t (its, gr, 0)) (.slice VA its.length vk))).call hb)
    have HX7 := Lib.hid ((HX6.out.alloc _).call hb)
    have HB7 := Lib.hid (below_call (below_alloc HB6.out _) hb)
    clear hb
    clear c0 c1 c2 c3 c4 c5 c6 c7 c8 c9 c10 t0 t1 t2 t3 t4 t5 t6 t7 z0 z1 d fz
    obtain ⟨c0, c1, c2, c3, c4, c5, c6, c7, c8, c9, c10⟩ := rec_cells HX7.out.bx.kr
    obtain ⟨-, -, ⟨t0, t1, t2, t3, t4, t5, t6, t7⟩, z0, z1⟩ := HX7.out.bx.cells
    obtain ⟨d, fz⟩ := HX7.out.res
    by_cases h3 : e3 = 0
    case neg =>
      have hz : (e3 != 0) = true := by simpa using h3
      have HV := Lib.hid (RF.out h3)
      go_wp2_with fail
      refine bodyPost_ret (retK rfl rfl (put14_blk noCdr nil0 HX7.out.kc)) rfl ?_
      exact MakePost.no HV.out (put14_below noCdr nil0 HB7.out (by omega))
    have HV := Lib.hid (RG.out h3)
    subst h3
    obtain ⟨g0, g1, g2, g3, g4, g5, g6, g7, g8, g9, g10, g11, g12, g13⟩ := cdr_cells HK7.out
    go_wp2_with fail
    refine bodyPost_ret (retK rfl rfl (put14_blk (mkCdr id op pr ⟨sta, txn, conn, tok, start, stop, rds, en, reason, off, den⟩ t (its, gr, 0)) (.slice VA its.length vk) HX7.out.kc)) rfl ?_
    exact MakePost.yes HV.out (items_far _ _ HV7.out HX7.out.kc) (put14_below _ _ HB7.out (by omega))
end Cdr
end Go.Proofs.YtpmcdjpfolgpiaaGreatDoor

namespace Go.Proofs.YtpmcdjpfolgpiaaGreatDoor
namespace Ex
set_option linter.unusedSimpArgs false
set_option linter.unusedVariables false
open Go.RowKit Go.Great TarW Usg UsgW Prc PriW Cdr MonW CdrW EncW

set_option maxRecDepth 100000 in
set_option maxHeartbeats 4000000 in
theorem law_makes (id0 op pr : ByteArray) (r : Rec) (A : Option Addr) (n k : Nat) (t : Trf) (A' : Option Addr) (n' k' : Nat) (z : Int) (s : Bool) (m : Int) (w : World) (ht : CalW.Tab w) (hR : RdgsAt w (.slice A n k) r.rds) (hE : ElemsAt w (.slice A' n' k') t.els) (hc : CaseOk id0 op pr r t m) :
    Calls Tryz.prog 4 #[.agg (caseA id0 op pr r (.slice A n k) t (.slice A' n' k') z s m)] w (LawPost w) := by
  have hB := below_new w (.cells (caseA id0 op pr r (.slice A n k) t (.slice A' n' k') z s m) 40)
  have HS := Lib.hid (small id0 op pr r A n k t A' n' k' z s m _ (hR.call hB) (hE.call hB))
  obtain ⟨D, E, hD⟩ : ∃ D E, makeR id0 op pr r t z s m = (D, E) := ⟨_, _, rfl⟩
  have HM : Hid (∀ W, Below w.heap.size w W → Calls Tryz.prog 13 #[.agg (caseA id0 op pr r (.slice A n k) t (.slice A' n' k') z s m)] W (MakePost (D, E) W)) := fun W hb => by
    have := make46 id0 op pr r A n k t A' n' k' z s m W (ht.below hb ht.lt) (by have := hb.size; have := ht.lt; omega) (hR.call hb) (hE.call hb) hc.h1 hc.h2 hc.h3 hc.ho hc.hid hc.hcur hc.hm hc.hl hc.hmo hc.hs1 hc.hs2 hc.hs3
    rw [hD] at this
    exact this
  have HR : Hid (∀ W, Below w.heap.size w W → Calls Tryz.prog 14 #[.string id0, .string op, .string pr, .agg (recA r (.slice A n k)), trfV t (.slice A' n' k'), CalW.zone z s, i m] W (MakePost (D, E) W)) := fun W hb => by
    have := rmake id0 op pr r A n k t A' n' k' z s m W (hR.call hb) (hE.call hb) hc.h1 hc.h2 hc.h3 hc.ho hc.hid hc.hcur hc.hl hc.hmo hc.hs1 hc.hs2 hc.hs3
    rw [hD] at this
    exact this
  have HEX := Lib.hid (fun W (hb : Below w.heap.size w W) => example_holds W (ht.below hb ht.lt))
  have HB := Lib.hid hB
  have HK := Lib.hid (Blk.new w 40 (caseA id0 op pr r (.slice A n k) t (.slice A' n' k') z s m))
  clear hB ht hR hE hc hD
  go_enter Tryz.func4, Tryz.ntmps4
  go_upto_region 1 with (fail)
  generalize w.alloc (.cells (caseA id0 op pr r (.slice A n k) t (.slice A' n' k') z s m) 40) = w0 at *
  refine wp_region_lit ?_
  refine wpList_load_row rfl 40 (.tmp 1) rfl w.heap.size rfl 40 (caseA id0 op pr r (.slice A n k) t (.slice A' n' k') z s m) (0, 0) _ HK.out Tryz.underlying40 rfl (by kernel_rfl) ?_
  go_wp2_with fail
  refine HS.out.mono ?_
  rintro e w1 ⟨b, rfl, hb⟩
  have HB1 := Lib.hid (below_call HB.out hb)
  have HK1 := Lib.hid (HK.out.call hb)
  clear hb HK HB HS
  cases b
  case false =>
    go_wp2_with fail
    refine (HEX.out _ HB1.out).mono ?_
    rintro e w2 ⟨rfl, hb2⟩
    go_wp2_with fail
    go_ret
    exact ⟨rfl, below_call HB1.out hb2⟩
  go_upto_region 3 with (fail)
  refine wp_region_lit ?_
  refine wpList_load_row rfl 40 (.tmp 1) rfl w.heap.size rfl 40 (caseA id0 op pr r (.slice A n k) t (.slice A' n' k') z s m) (0, 0) _ HK1.out Tryz.underlying40 rfl (by kernel_rfl) ?_
  go_wp2_with fail
  refine (HM.out _ HB1.out).mono ?_
  rintro e w2 ⟨u, rfl, hI, hb⟩
  obtain ⟨A2, k2, rfl, _, _⟩ := SliceAt.form hI
  have HI2 : Hid (ItmsAt w2 (.slice A2 D.items.length k2) D.items) := hI
  have HB2 := Lib.hid (below_call HB1.out hb)
  have HK2 := Lib.hid (HK1.out.call hb)
  clear hI hb HK1 HB1 HM
  go_upto_region 4 with (fail)
  have HB3 := Lib.hid (below_alloc HB2.out (.cells (cdrA D (.slice A2 D.items.length k2)) 24))
  have HK3 := Lib.hid (HK2.out.alloc (.cells (cdrA D (.slice A2 D.items.length k2)) 24))
  have HD3 := Lib.hid (Blk.new w2 24 (cdrA D (.slice A2 D.items.length k2)))
  have HI3 := Lib.hid (ItmsAt.call HI2.out (below_new w2 (.cells (cdrA D (.slice A2 D.items.length k2)) 24)))
  generalize w2.alloc (.cells (cdrA D (.slice A2 D.items.length k2)) 24) = w3 at *
  have q0 : w3.cell? ⟨w.heap.size, 0, none⟩ = some (.string id0) := HK3.out.cell 0
  have q1 : w3.cell? ⟨w.heap.size, 1, none⟩ = some (.string op) := HK3.out.cell 1
  have q2 : w3.cell? ⟨w.heap.size, 2, none⟩ = some (.string pr) := HK3.out.cell 2
  have q3 : w3.cell? ⟨w.heap.size, 3, none⟩ = some (.string r.sta) := HK3.out.cell 3
  have q4 : w3.cell? ⟨w.heap.size, 4, none⟩ = some (.string r.txn) := HK3.out.cell 4
  have q5 : w3.cell? ⟨w.heap.size, 5, none⟩ = some (i r.conn) := HK3.out.cell 5
  have q6 : w3.cell? ⟨w.heap.size, 6, none⟩ = some (.string r.tok) := HK3.out.cell 6
  have q7 : w3.cell? ⟨w.heap.size, 7, none⟩ = some (i r.start) := HK3.out.cell 7
  have q8 : w3.cell? ⟨w.heap.size, 8, none⟩ = some (i r.stop) := HK3.out.cell 8
  have q9 : w3.cell? ⟨w.heap.size, 9, none⟩ = some (.slice A n k) := HK3.out.cell 9
  have q10 : w3.cell? ⟨w.heap.size, 10, none⟩ = some (i r.en) := HK3.out.cell 10
  have q11 : w3.cell? ⟨w.heap.size, 11, none⟩ = some (i r.reason) := HK3.out.cell 11
  have q12 : w3.cell? ⟨w.heap.size, 12, none⟩ = some (.bool r.off) := HK3.out.cell 12
  have q13 : w3.cell? ⟨w.heap.size, 13, none⟩ = some (.bool r.den) := HK3.out.cell 13
  have q14 : w3.cell? ⟨w.heap.size, 14, none⟩ = some (.string t.id) := HK3.out.cell 14
  have q15 : w3.cell? ⟨w.heap.size, 15, none⟩ = some (.string t.cur) := HK3.out.cell 15
  have q16 : w3.cell? ⟨w.heap.size, 16, none⟩ = some (i t.ver) := HK3.out.cell 16
  have q17 : w3.cell? ⟨w.heap.size, 17, none⟩ = some (i t.fr) := HK3.out.cell 17
  have q18 : w3.cell? ⟨w.heap.size, 18, none⟩ = some (i t.to) := HK3.out.cell 18
  have q19 : w3.cell? ⟨w.heap.size, 19, none⟩ = some (.slice A' n' k') := HK3.out.cell 19
  have q20 : w3.cell? ⟨w.heap.size, 20, none⟩ = some (i t.least) := HK3.out.cell 20
  have q21 : w3.cell? ⟨w.heap.size, 21, none⟩ = some (i t.most) := HK3.out.cell 21
  have q22 : w3.cell? ⟨w.heap.size, 22, none⟩ = some (i z) := HK3.out.cell 22
  have q23 : w3.cell? ⟨w.heap.size, 23, none⟩ = some (.bool s) := HK3.out.cell 23
  have q24 : w3.cell? ⟨w.heap.size, 24, none⟩ = some (i m) := HK3.out.cell 24
  clear HB2 HK2 HI2
  go_wp2_with fail
  refine (HR.out _ HB3.out).mono ?_
  rintro e w4 ⟨u, rfl, hI4, hb4⟩
  obtain ⟨A4, k4, rfl, _, _⟩ := SliceAt.form hI4
  have HI4 : Hid (ItmsAt w4 (.slice A4 D.items.length k4) D.items) := hI4
  have HB4 := Lib.hid (below_call HB3.out hb4)
  have HD4 := Lib.hid (HD3.out.call hb4)
  have HJ4 := Lib.hid (ItmsAt.call HI3.out hb4)
  clear hI4 hb4 HK3 HB3 HD3 HI3 q0 q1 q2 q3 q4 q5 q6 q7 q8 q9 q10 q11 q12 q13 q14 q15 q16 q17 q18 q19 q20 q21 q22 q23 q24
  go_upto_region 5 with (fail)
  have HB5 := Lib.hid (below_alloc HB4.out (.cells (cdrA D (.slice A4 D.items.length k4)) 24))
  have HD5 := Lib.hid (HD4.out.alloc (.cells (cdrA D (.slice A4 D.items.length k4)) 24))
  have HF5 := Lib.hid (Blk.new w4 24 (cdrA D (.slice A4 D.items.length k4)))
  have HS5 := Lib.hid (same D (.slice A2 D.items.length k2) (.slice A4 D.items.length k4) _ (ItmsAt.call HJ4.out (below_new w4 (.cells (cdrA D (.slice A4 D.items.length k4)) 24))) (ItmsAt.call HI4.out (below_new w4 (.cells (cdrA D (.slice A4 D.items.length k4)) 24))))
  generalize w4.alloc (.cells (cdrA D (.slice A4 D.items.length k4)) 24) = w5 at *
  have kd := HD5.out.cell
  have kf := HF5.out.cell
  clear HB4 HI4 HD4 HJ4
  go_wp2_with fail
  refine HS5.out.mono ?_
  rintro e w6 ⟨rfl, hb6⟩
  have HB6 := Lib.hid (below_call HB5.out hb6)
  clear hb6 kd kf
  go_wp2_with fail
  refine (HEX.out _ HB6.out).mono ?_
  rintro e w7 ⟨rfl, hb7⟩
  go_wp2_with fail
  go_ret
  exact ⟨rfl, below_call HB6.out hb7⟩
end Ex
end Go.Proofs.YtpmcdjpfolgpiaaGreatDoor
