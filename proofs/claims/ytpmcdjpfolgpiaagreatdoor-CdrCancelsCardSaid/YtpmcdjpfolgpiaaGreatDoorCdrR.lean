/-
  The walk of record.Valid.
-/
import Derived.Test.YtpmcdjpfolgpiaaGreatDoorCdrQ
import Derived.Test.YtpmcdjpfolgpiaaGreatDoorCdrC
namespace Go.Proofs.YtpmcdjpfolgpiaaGreatDoor
namespace Cdr
set_option linter.unusedSimpArgs false
set_option linter.unusedVariables false
open Go.RowKit MonW TarW Usg UsgW CdrW

structure Rec.ok (r : Rec) : Prop where
  s1 : r.sta.size ≤ maxLen
  s2 : r.txn.size ≤ maxLen
  s3 : r.tok.size ≤ maxLen
theorem rec_cells {w : World} {B : Nat} {r : Rec} {u : Value} (h : Blk w B 31 (recA r u)) : w.cell? ⟨B, 0, none⟩ = some (.string r.sta) ∧ w.cell? ⟨B, 1, none⟩ = some (.string r.txn) ∧ w.cell? ⟨B, 2, none⟩ = some (i r.conn) ∧ w.cell? ⟨B, 3, none⟩ = some (.string r.tok) ∧ w.cell? ⟨B, 4, none⟩ = some (i r.start) ∧ w.cell? ⟨B, 5, none⟩ = some (i r.stop) ∧ w.cell? ⟨B, 6, none⟩ = some u ∧ w.cell? ⟨B, 7, none⟩ = some (i r.en) ∧ w.cell? ⟨B, 8, none⟩ = some (i r.reason) ∧ w.cell? ⟨B, 9, none⟩ = some (.bool r.off) ∧ w.cell? ⟨B, 10, none⟩ = some (.bool r.den) :=
  ⟨h.cell 0, h.cell 1, h.cell 2, h.cell 3, h.cell 4, h.cell 5, h.cell 6, h.cell 7, h.cell 8, h.cell 9, h.cell 10⟩

set_option maxRecDepth 100000 in
set_option maxHeartbeats 2000000 in
theorem recValid (r : Rec) (A : Option Addr) (n k : Nat) (w : World) (ho : r.ok) (hR : RdgsAt w (.slice A n k) r.rds) {E : Int} (hE : recE r = E) :
    Calls Tryz.prog 48 #[.agg (recA r (.slice A n k))] w fun e w' => e = .returned (i E) ∧ Below w.heap.size w w' := by
  obtain ⟨hn, hnk, hkm⟩ := SliceAt.len hR
  subst hn
  unfold maxLen at hkm
  have HRE := recE_re r
  rw [hE] at HRE
  obtain ⟨Ra, Rb, Rc, Rd, Re⟩ := HRE
  clear hE
  have HL := Lib.hid hR
  have HB0 := Lib.hid (below_new w (.cells (recA r (.slice A r.rds.length k)) 31))
  have HK0 := Lib.hid (Blk.new w 31 (recA r (.slice A r.rds.length k)))
  have HI1 := Lib.hid (fun W => IdW.valid_ r.sta W ho.s1)
  have HI2 := Lib.hid (fun W => IdW.valid_ r.txn W ho.s2)
  have HI3 := Lib.hid (fun W => IdW.valid_ r.tok W ho.s3)
  clear hR ho
  generalize IdW.identOk r.sta = i1 at *
  generalize IdW.identOk r.txn = i2 at *
  generalize IdW.identOk r.tok = i3 at *
  cases i1 with
  | false =>
    have HV := Lib.hid (Ra (by simp))
    clear Ra Rb Rc Rd Re
    go_enter Tryz.func48, Tryz.ntmps48
    go_wp2_with fail
    refine (HI1.out _).mono ?_
    rintro e w1 ⟨rfl, hb⟩
    have HK1 := Lib.hid (HK0.out.call hb)
    have HB1 := Lib.hid (below_call HB0.out hb)
    obtain ⟨c0, c1, c2, c3, c4, c5, c6, c7, c8, c9, c10⟩ := rec_cells HK1.out
    clear hb
    go_wp2_with fail
    go_ret
    exact ⟨by rw [HV.out]; rfl, HB1.out⟩
  | true =>
    cases i2 with
    | false =>
      have HV := Lib.hid (Ra (by simp))
      clear Ra Rb Rc Rd Re
      go_enter Tryz.func48, Tryz.ntmps48
      go_wp2_with fail
      refine (HI1.out _).mono ?_
      rintro e w1 ⟨rfl, hb⟩
      have HK1 := Lib.hid (HK0.out.call hb)
      have HB1 := Lib.hid (below_call HB0.out hb)
      obtain ⟨c0, c1, c2, c3, c4, c5, c6, c7, c8, c9, c10⟩ := rec_cells HK1.out
      clear hb
      go_wp2_with fail
      refine (HI2.out _).mono ?_
      rintro e w2 ⟨rfl, hb⟩
      have HK2 := Lib.hid (HK1.out.call hb)
      have HB2 := Lib.hid (below_call HB1.out hb)
      clear c0 c1 c2 c3 c4 c5 c6 c7 c8 c9 c10
      obtain ⟨c0, c1, c2, c3, c4, c5, c6, c7, c8, c9, c10⟩ := rec_cells HK2.out
      clear hb
      go_wp2_with fail
      go_ret
      exact ⟨by rw [HV.out]; rfl, HB2.out⟩
    | true =>
      cases i3 with
      | false =>
        have HV := Lib.hid (Ra (by simp))
        clear Ra Rb Rc Rd Re
        go_enter Tryz.func48, Tryz.ntmps48
        go_wp2_with fail
        refine (HI1.out _).mono ?_
        rintro e w1 ⟨rfl, hb⟩
        have HK1 := Lib.hid (HK0.out.call hb)
        have HB1 := Lib.hid (below_call HB0.out hb)
        obtain ⟨c0, c1, c2, c3, c4, c5, c6, c7, c8, c9, c10⟩ := rec_cells HK1.out
        clear hb
        go_wp2_with fail
        refine (HI2.out _).mono ?_
        rintro e w2 ⟨rfl, hb⟩
        have HK2 := Lib.hid (HK1.out.call hb)
        have HB2 := Lib.hid (below_call HB1.out hb)
        clear c0 c1 c2 c3 c4 c5 c6 c7 c8 c9 c10
        obtain ⟨c0, c1, c2, c3, c4, c5, c6, c7, c8, c9, c10⟩ := rec_cells HK2.out
        clear hb
        go_wp2_with fail
        refine (HI3.out _).mono ?_
        rintro e w3 ⟨rfl, hb⟩
        have HK3 := Lib.hid (HK2.out.call hb)
        have HB3 := Lib.hid (below_call HB2.out hb)
        clear c0 c1 c2 c3 c4 c5 c6 c7 c8 c9 c10
        obtain ⟨c0, c1, c2, c3, c4, c5, c6, c7, c8, c9, c10⟩ := rec_cells HK3.out
        clear hb
        go_wp2_with fail
        go_ret
        exact ⟨by rw [HV.out]; rfl, HB3.out⟩
      | true =>
        have Rb := Rb rfl
        have Rc := Rc rfl
        have Rd := Rd rfl
        have Re := Re rfl
        clear Ra
        by_cases h0 : r.conn < 1
        case pos =>
          have d0 : decide (r.conn < 1) = true := decide_eq_true h0
          have HV := Lib.hid (Rb (by unfold recHead; simp; omega))
          clear Rb Rc Rd Re
          go_enter Tryz.func48, Tryz.ntmps48
          go_wp2_with fail
          refine (HI1.out _).mono ?_
          rintro e w1 ⟨rfl, hb⟩
          have HK1 := Lib.hid (HK0.out.call hb)
          have HB1 := Lib.hid (below_call HB0.out hb)
          obtain ⟨c0, c1, c2, c3, c4, c5, c6, c7, c8, c9, c10⟩ := rec_cells HK1.out
          clear hb
          go_wp2_with fail
          refine (HI2.out _).mono ?_
          rintro e w2 ⟨rfl, hb⟩
          have HK2 := Lib.hid (HK1.out.call hb)
          have HB2 := Lib.hid (below_call HB1.out hb)
          clear c0 c1 c2 c3 c4 c5 c6 c7 c8 c9 c10
          obtain ⟨c0, c1, c2, c3, c4, c5, c6, c7, c8, c9, c10⟩ := rec_cells HK2.out
          clear hb
          go_wp2_with fail
          refine (HI3.out _).mono ?_
          rintro e w3 ⟨rfl, hb⟩
          have HK3 := Lib.hid (HK2.out.call hb)
          have HB3 := Lib.hid (below_call HB2.out hb)
          clear c0 c1 c2 c3 c4 c5 c6 c7 c8 c9 c10
          obtain ⟨c0, c1, c2, c3, c4, c5, c6, c7, c8, c9, c10⟩ := rec_cells HK3.out
          clear hb
          go_wp2_with fail
          skip
          go_quiet (fail)
          go_wp2_with fail
          go_ret
          exact ⟨by rw [HV.out]; rfl, below_drewN' HB3.out _⟩
        have d0 : decide (r.conn < 1) = false := decide_eq_false h0
        by_cases h1 : r.stop < r.start
        case pos =>
          have d1 : decide (r.stop < r.start) = true := decide_eq_true h1
          have HV := Lib.hid (Rb (by unfold recHead; simp; omega))
          clear Rb Rc Rd Re
          go_enter Tryz.func48, Tryz.ntmps48
          go_wp2_with fail
          refine (HI1.out _).mono ?_
          rintro e w1 ⟨rfl, hb⟩
          have HK1 := Lib.hid (HK0.out.call hb)
          have HB1 := Lib.hid (below_call HB0.out hb)
          obtain ⟨c0, c1, c2, c3, c4, c5, c6, c7, c8, c9, c10⟩ := rec_cells HK1.out
          clear hb
          go_wp2_with fail
          refine (HI2.out _).mono ?_
          rintro e w2 ⟨rfl, hb⟩
          have HK2 := Lib.hid (HK1.out.call hb)
          have HB2 := Lib.hid (below_call HB1.out hb)
          clear c0 c1 c2 c3 c4 c5 c6 c7 c8 c9 c10
          obtain ⟨c0, c1, c2, c3, c4, c5, c6, c7, c8, c9, c10⟩ := rec_cells HK2.out
          clear hb
          go_wp2_with fail
          refine (HI3.out _).mono ?_
          rintro e w3 ⟨rfl, hb⟩
          have HK3 := Lib.hid (HK2.out.call hb)
          have HB3 := Lib.hid (below_call HB2.out hb)
          clear c0 c1 c2 c3 c4 c5 c6 c7 c8 c9 c10
          obtain ⟨c0, c1, c2, c3, c4, c5, c6, c7, c8, c9, c10⟩ := rec_cells HK3.out
          clear hb
          go_wp2_with fail
          skip
          go_quiet (fail)
          go_wp2_with fail
          go_ret
          exact ⟨by rw [HV.out]; rfl, below_drewN' HB3.out _⟩
        have d1 : decide (r.stop < r.start) = false := decide_eq_false h1
        by_cases h2 : (r.rds.length : Int) < 1
        case pos =>
          have d2 : decide ((r.rds.length : Int) < 1) = true := decide_eq_true h2
          have HV := Lib.hid (Rb (by unfold recHead; simp; omega))
          clear Rb Rc Rd Re
          go_enter Tryz.func48, Tryz.ntmps48
          go_wp2_with fail
          refine (HI1.out _).mono ?_
          rintro e w1 ⟨rfl, hb⟩
          have HK1 := Lib.hid (HK0.out.call hb)
          have HB1 := Lib.hid (below_call HB0.out hb)
          obtain ⟨c0, c1, c2, c3, c4, c5, c6, c7, c8, c9, c10⟩ := rec_cells HK1.out
          clear hb
          go_wp2_with fail
          refine (HI2.out _).mono ?_
          rintro e w2 ⟨rfl, hb⟩
          have HK2 := Lib.hid (HK1.out.call hb)
          have HB2 := Lib.hid (below_call HB1.out hb)
          clear c0 c1 c2 c3 c4 c5 c6 c7 c8 c9 c10
          obtain ⟨c0, c1, c2, c3, c4, c5, c6, c7, c8, c9, c10⟩ := rec_cells HK2.out
          clear hb
          go_wp2_with fail
          refine (HI3.out _).mono ?_
          rintro e w3 ⟨rfl, hb⟩
          have HK3 := Lib.hid (HK2.out.call hb)
          have HB3 := Lib.hid (below_call HB2.out hb)
          clear c0 c1 c2 c3 c4 c5 c6 c7 c8 c9 c10
          obtain ⟨c0, c1, c2, c3, c4, c5, c6, c7, c8, c9, c10⟩ := rec_cells HK3.out
          clear hb
          go_wp2_with fail
          skip
          go_quiet (fail)
          go_wp2_with fail
          go_ret
          exact ⟨by rw [HV.out]; rfl, below_drewN' HB3.out _⟩
        have d2 : decide ((r.rds.length : Int) < 1) = false := decide_eq_false h2
        by_cases h3 : (1024 : Int) < (r.rds.length : Int)
        case pos =>
          have d3 : decide ((1024 : Int) < (r.rds.length : Int)) = true := decide_eq_true h3
          have HV := Lib.hid (Rb (by unfold recHead; simp; omega))
          clear Rb Rc Rd Re
          go_enter Tryz.func48, Tryz.ntmps48
          go_wp2_with fail
          refine (HI1.out _).mono ?_
          rintro e w1 ⟨rfl, hb⟩
          have HK1 := Lib.hid (HK0.out.call hb)
          have HB1 := Lib.hid (below_call HB0.out hb)
          obtain ⟨c0, c1, c2, c3, c4, c5, c6, c7, c8, c9, c10⟩ := rec_cells HK1.out
          clear hb
          go_wp2_with fail
          refine (HI2.out _).mono ?_
          rintro e w2 ⟨rfl, hb⟩
          have HK2 := Lib.hid (HK1.out.call hb)
          have HB2 := Lib.hid (below_call HB1.out hb)
          clear c0 c1 c2 c3 c4 c5 c6 c7 c8 c9 c10
          obtain ⟨c0, c1, c2, c3, c4, c5, c6, c7, c8, c9, c10⟩ := rec_cells HK2.out
          clear hb
          go_wp2_with fail
          refine (HI3.out _).mono ?_
          rintro e w3 ⟨rfl, hb⟩
          have HK3 := Lib.hid (HK2.out.call hb)
          have HB3 := Lib.hid (below_call HB2.out hb)
          clear c0 c1 c2 c3 c4 c5 c6 c7 c8 c9 c10
          obtain ⟨c0, c1, c2, c3, c4, c5, c6, c7, c8, c9, c10⟩ := rec_cells HK3.out
          clear hb
          go_wp2_with fail
          skip
          go_quiet (fail)
          go_wp2_with fail
          go_ret
          exact ⟨by rw [HV.out]; rfl, below_drewN' HB3.out _⟩
        have d3 : decide ((1024 : Int) < (r.rds.length : Int)) = false := decide_eq_false h3
        by_cases h4 : r.en < 0
        case pos =>
          have d4 : decide (r.en < 0) = true := decide_eq_true h4
          have HV := Lib.hid (Rb (by unfold recHead; simp; omega))
          clear Rb Rc Rd Re
          go_enter Tryz.func48, Tryz.ntmps48
          go_wp2_with fail
          refine (HI1.out _).mono ?_
          rintro e w1 ⟨rfl, hb⟩
          have HK1 := Lib.hid (HK0.out.call hb)
          have HB1 := Lib.hid (below_call HB0.out hb)
          obtain ⟨c0, c1, c2, c3, c4, c5, c6, c7, c8, c9, c10⟩ := rec_cells HK1.out
          clear hb
          go_wp2_with fail
          refine (HI2.out _).mono ?_
          rintro e w2 ⟨rfl, hb⟩
          have HK2 := Lib.hid (HK1.out.call hb)
          have HB2 := Lib.hid (below_call HB1.out hb)
          clear c0 c1 c2 c3 c4 c5 c6 c7 c8 c9 c10
          obtain ⟨c0, c1, c2, c3, c4, c5, c6, c7, c8, c9, c10⟩ := rec_cells HK2.out
          clear hb
          go_wp2_with fail
          refine (HI3.out _).mono ?_
          rintro e w3 ⟨rfl, hb⟩
          have HK3 := Lib.hid (HK2.out.call hb)
          have HB3 := Lib.hid (below_call HB2.out hb)
          clear c0 c1 c2 c3 c4 c5 c6 c7 c8 c9 c10
          obtain ⟨c0, c1, c2, c3, c4, c5, c6, c7, c8, c9, c10⟩ := rec_cells HK3.out
          clear hb
          go_wp2_with fail
          skip
          go_quiet (fail)
          go_wp2_with fail
          go_ret
          exact ⟨by rw [HV.out]; rfl, below_drewN' HB3.out _⟩
        have d4 : decide (r.en < 0) = false := decide_eq_false h4
        by_cases h5 : 1099511627776 < r.en
        case pos =>
          have d5 : decide (1099511627776 < r.en) = true := decide_eq_true h5
          have HV := Lib.hid (Rb (by unfold recHead; simp; omega))
          clear Rb Rc Rd Re
          go_enter Tryz.func48, Tryz.ntmps48
          go_wp2_with fail
          refine (HI1.out _).mono ?_
          rintro e w1 ⟨rfl, hb⟩
          have HK1 := Lib.hid (HK0.out.call hb)
          have HB1 := Lib.hid (below_call HB0.out hb)
          obtain ⟨c0, c1, c2, c3, c4, c5, c6, c7, c8, c9, c10⟩ := rec_cells HK1.out
          clear hb
          go_wp2_with fail
          refine (HI2.out _).mono ?_
          rintro e w2 ⟨rfl, hb⟩
          have HK2 := Lib.hid (HK1.out.call hb)
          have HB2 := Lib.hid (below_call HB1.out hb)
          clear c0 c1 c2 c3 c4 c5 c6 c7 c8 c9 c10
          obtain ⟨c0, c1, c2, c3, c4, c5, c6, c7, c8, c9, c10⟩ := rec_cells HK2.out
          clear hb
          go_wp2_with fail
          refine (HI3.out _).mono ?_
          rintro e w3 ⟨rfl, hb⟩
          have HK3 := Lib.hid (HK2.out.call hb)
          have HB3 := Lib.hid (below_call HB2.out hb)
          clear c0 c1 c2 c3 c4 c5 c6 c7 c8 c9 c10
          obtain ⟨c0, c1, c2, c3, c4, c5, c6, c7, c8, c9, c10⟩ := rec_cells HK3.out
          clear hb
          go_wp2_with fail
          skip
          go_quiet (fail)
          go_wp2_with fail
          go_ret
          exact ⟨by rw [HV.out]; rfl, below_drewN' HB3.out _⟩
        have d5 : decide (1099511627776 < r.en) = false := decide_eq_false h5
        by_cases h6 : r.reason < 1
        case pos =>
          have d6 : decide (r.reason < 1) = true := decide_eq_true h6
          have HV := Lib.hid (Rb (by unfold recHead; simp; omega))
          clear Rb Rc Rd Re
          go_enter Tryz.func48, Tryz.ntmps48
          go_wp2_with fail
          refine (HI1.out _).mono ?_
          rintro e w1 ⟨rfl, hb⟩
          have HK1 := Lib.hid (HK0.out.call hb)
          have HB1 := Lib.hid (below_call HB0.out hb)
          obtain ⟨c0, c1, c2, c3, c4, c5, c6, c7, c8, c9, c10⟩ := rec_cells HK1.out
          clear hb
          go_wp2_with fail
          refine (HI2.out _).mono ?_
          rintro e w2 ⟨rfl, hb⟩
          have HK2 := Lib.hid (HK1.out.call hb)
          have HB2 := Lib.hid (below_call HB1.out hb)
          clear c0 c1 c2 c3 c4 c5 c6 c7 c8 c9 c10
          obtain ⟨c0, c1, c2, c3, c4, c5, c6, c7, c8, c9, c10⟩ := rec_cells HK2.out
          clear hb
          go_wp2_with fail
          refine (HI3.out _).mono ?_
          rintro e w3 ⟨rfl, hb⟩
          have HK3 := Lib.hid (HK2.out.call hb)
          have HB3 := Lib.hid (below_call HB2.out hb)
          clear c0 c1 c2 c3 c4 c5 c6 c7 c8 c9 c10
          obtain ⟨c0, c1, c2, c3, c4, c5, c6, c7, c8, c9, c10⟩ := rec_cells HK3.out
          clear hb
          go_wp2_with fail
          skip
          go_quiet (fail)
          go_wp2_with fail
          go_ret
          exact ⟨by rw [HV.out]; rfl, below_drewN' HB3.out _⟩
        have d6 : decide (r.reason < 1) = false := decide_eq_false h6
        by_cases h7 : 6 < r.reason
        case pos =>
          have d7 : decide (6 < r.reason) = true := decide_eq_true h7
          have HV := Lib.hid (Rb (by unfold recHead; simp; omega))
          clear Rb Rc Rd Re
          go_enter Tryz.func48, Tryz.ntmps48
          go_wp2_with fail
          refine (HI1.out _).mono ?_
          rintro e w1 ⟨rfl, hb⟩
          have HK1 := Lib.hid (HK0.out.call hb)
          have HB1 := Lib.hid (below_call HB0.out hb)
          obtain ⟨c0, c1, c2, c3, c4, c5, c6, c7, c8, c9, c10⟩ := rec_cells HK1.out
          clear hb
          go_wp2_with fail
          refine (HI2.out _).mono ?_
          rintro e w2 ⟨rfl, hb⟩
          have HK2 := Lib.hid (HK1.out.call hb)
          have HB2 := Lib.hid (below_call HB1.out hb)
          clear c0 c1 c2 c3 c4 c5 c6 c7 c8 c9 c10
          obtain ⟨c0, c1, c2, c3, c4, c5, c6, c7, c8, c9, c10⟩ := rec_cells HK2.out
          clear hb
          go_wp2_with fail
          refine (HI3.out _).mono ?_
          rintro e w3 ⟨rfl, hb⟩
          have HK3 := Lib.hid (HK2.out.call hb)
          have HB3 := Lib.hid (below_call HB2.out hb)
          clear c0 c1 c2 c3 c4 c5 c6 c7 c8 c9 c10
          obtain ⟨c0, c1, c2, c3, c4, c5, c6, c7, c8, c9, c10⟩ := rec_cells HK3.out
          clear hb
          go_wp2_with fail
          skip
          go_quiet (fail)
          go_wp2_with fail
          go_ret
          exact ⟨by rw [HV.out]; rfl, below_drewN' HB3.out _⟩
        have d7 : decide (6 < r.reason) = false := decide_eq_false h7
        have hhd : recHead r = true := by unfold recHead; simp; omega
        have Rc := Rc hhd
        have Rd := Rd hhd
        have Re := Re hhd
        clear Rb hhd
        obtain ⟨j, hj⟩ : ∃ j, r.rds.length = j + 1 := ⟨r.rds.length - 1, by omega⟩
        have hjl : j < r.rds.length := by omega
        have h0l : 0 < r.rds.length := by omega
        have hjz : (r.rds.length : Int) - 1 = (j : Int) := by omega
        have hjlz : (j : Int) < (r.rds.length : Int) := by omega
        have hjw : IntKind.i64.wrap (j : Int) = (j : Int) := IntWalk.i64_in _ (by omega)
        have h0lz : (0 : Int) < (r.rds.length : Int) := by omega
        have hla : lastAt r.rds = r.rds[j].at_ := by rw [last_at (by omega)]; simp only [show r.rds.length - 1 = j from by omega]
        have hha := head_at h0l
        obtain ⟨b, off, rfl, _, _, _, hrow⟩ := RdgsAt.at_ HL.out hjl
        have HROW := Lib.hid hrow
        obtain ⟨b', off', hA', _, _, _, hrow0⟩ := RdgsAt.at_ HL.out h0l
        obtain ⟨rfl, rfl⟩ : b = b' ∧ off = off' := by simpa using hA'
        have HROW0 := Lib.hid hrow0
        clear hrow hrow0 hA'
        rw [← hla] at HROW
        rw [← hha] at HROW0
        have HN1 := Lib.hid (show r.rds.length ≤ 1024 by omega)
        have HNJ := Lib.hid hj
        clear hla hha hj
        generalize headAt r.rds = ha at *
        generalize lastAt r.rds = la at *
        by_cases h8 : ha = r.start
        case neg =>
          have d8 : (ha != r.start) = true := by simpa using h8
          have HV := Lib.hid (Rc (.inl h8))
          clear Rc Rd Re
          go_enter Tryz.func48, Tryz.ntmps48
          go_wp2_with fail
          refine (HI1.out _).mono ?_
          rintro e w1 ⟨rfl, hb⟩
          have HK1 := Lib.hid (HK0.out.call hb)
          have HB1 := Lib.hid (below_call HB0.out hb)
          obtain ⟨c0, c1, c2, c3, c4, c5, c6, c7, c8, c9, c10⟩ := rec_cells HK1.out
          clear hb
          go_wp2_with fail
          refine (HI2.out _).mono ?_
          rintro e w2 ⟨rfl, hb⟩
          have HK2 := Lib.hid (HK1.out.call hb)
          have HB2 := Lib.hid (below_call HB1.out hb)
          clear c0 c1 c2 c3 c4 c5 c6 c7 c8 c9 c10
          obtain ⟨c0, c1, c2, c3, c4, c5, c6, c7, c8, c9, c10⟩ := rec_cells HK2.out
          clear hb
          go_wp2_with fail
          refine (HI3.out _).mono ?_
          rintro e w3 ⟨rfl, hb⟩
          have HK3 := Lib.hid (HK2.out.call hb)
          have HB3 := Lib.hid (below_call HB2.out hb)
          clear c0 c1 c2 c3 c4 c5 c6 c7 c8 c9 c10
          obtain ⟨c0, c1, c2, c3, c4, c5, c6, c7, c8, c9, c10⟩ := rec_cells HK3.out
          clear hb
          go_wp2_with fail
          have lj := (HROW.out w3 (Kept.of HB3.out)).1
          have l0 : w3.cell? ⟨b, off, none⟩ = some (i ha) := by simpa using (HROW0.out w3 (Kept.of HB3.out)).1
          go_quiet (fail)
          go_wp2_with fail
          go_ret
          exact ⟨by rw [HV.out]; rfl, below_drewN' HB3.out _⟩
        have d8 : (ha != r.start) = false := by simpa using h8
        by_cases h9 : la = r.stop
        case neg =>
          have d9 : (la != r.stop) = true := by simpa using h9
          have HV := Lib.hid (Rc (.inr h9))
          clear Rc Rd Re
          go_enter Tryz.func48, Tryz.ntmps48
          go_wp2_with fail
          refine (HI1.out _).mono ?_
          rintro e w1 ⟨rfl, hb⟩
          have HK1 := Lib.hid (HK0.out.call hb)
          have HB1 := Lib.hid (below_call HB0.out hb)
          obtain ⟨c0, c1, c2, c3, c4, c5, c6, c7, c8, c9, c10⟩ := rec_cells HK1.out
          clear hb
          go_wp2_with fail
          refine (HI2.out _).mono ?_
          rintro e w2 ⟨rfl, hb⟩
          have HK2 := Lib.hid (HK1.out.call hb)
          have HB2 := Lib.hid (below_call HB1.out hb)
          clear c0 c1 c2 c3 c4 c5 c6 c7 c8 c9 c10
          obtain ⟨c0, c1, c2, c3, c4, c5, c6, c7, c8, c9, c10⟩ := rec_cells HK2.out
          clear hb
          go_wp2_with fail
          refine (HI3.out _).mono ?_
          rintro e w3 ⟨rfl, hb⟩
          have HK3 := Lib.hid (HK2.out.call hb)
          have HB3 := Lib.hid (below_call HB2.out hb)
          clear c0 c1 c2 c3 c4 c5 c6 c7 c8 c9 c10
          obtain ⟨c0, c1, c2, c3, c4, c5, c6, c7, c8, c9, c10⟩ := rec_cells HK3.out
          clear hb
          go_wp2_with fail
          have lj := (HROW.out w3 (Kept.of HB3.out)).1
          have l0 : w3.cell? ⟨b, off, none⟩ = some (i ha) := by simpa using (HROW0.out w3 (Kept.of HB3.out)).1
          go_quiet (fail)
          go_wp2_with fail
          go_ret
          exact ⟨by rw [HV.out]; rfl, below_drewN' HB3.out _⟩
        have d9 : (la != r.stop) = false := by simpa using h9
        have HD := Lib.hid (Rd h8 h9)
        have HE := Lib.hid (Re h8 h9)
        clear Rc Rd Re h8 h9
        go_enter Tryz.func48, Tryz.ntmps48
        go_wp2_with fail
        refine (HI1.out _).mono ?_
        rintro e w1 ⟨rfl, hb⟩
        have HK1 := Lib.hid (HK0.out.call hb)
        have HB1 := Lib.hid (below_call HB0.out hb)
        obtain ⟨c0, c1, c2, c3, c4, c5, c6, c7, c8, c9, c10⟩ := rec_cells HK1.out
        clear hb
        go_wp2_with fail
        refine (HI2.out _).mono ?_
        rintro e w2 ⟨rfl, hb⟩
        have HK2 := Lib.hid (HK1.out.call hb)
        have HB2 := Lib.hid (below_call HB1.out hb)
        clear c0 c1 c2 c3 c4 c5 c6 c7 c8 c9 c10
        obtain ⟨c0, c1, c2, c3, c4, c5, c6, c7, c8, c9, c10⟩ := rec_cells HK2.out
        clear hb
        go_wp2_with fail
        refine (HI3.out _).mono ?_
        rintro e w3 ⟨rfl, hb⟩
        have HK3 := Lib.hid (HK2.out.call hb)
        have HB3 := Lib.hid (below_call HB2.out hb)
        clear c0 c1 c2 c3 c4 c5 c6 c7 c8 c9 c10
        obtain ⟨c0, c1, c2, c3, c4, c5, c6, c7, c8, c9, c10⟩ := rec_cells HK3.out
        clear hb
        go_wp2_with fail
        have lj := (HROW.out w3 (Kept.of HB3.out)).1
        have l0 : w3.cell? ⟨b, off, none⟩ = some (i ha) := by simpa using (HROW0.out w3 (Kept.of HB3.out)).1
        go_quiet (fail)
        have HB4 := Lib.hid (below_drewN' HB3.out nq)
        have HK4 : Hid (Blk (w3.drewN nq) w.heap.size 31 (recA r (.slice (some ⟨b, off, none⟩) r.rds.length k))) := HK3.out
        generalize w3.drewN nq = w4 at *
        clear c0 c1 c2 c3 c4 c5 c6 c7 c8 c9 c10 lj l0 d0 d1 d2 d3 d4 d5 d6 d7 d8 d9 h0 h1 h2 h3 h4 h5 h6 h7
        obtain ⟨c0, c1, c2, c3, c4, c5, c6, c7, c8, c9, c10⟩ := rec_cells HK4.out
        go_wp2_with fail
        go_loopg [88] r.rds.length (fun gg s88 wr => ∃ kk : Nat, kk ≤ r.rds.length ∧ r.rds.length - kk ≤ gg ∧ s88 = i kk ∧ Hid (Below (w.heap.size + 1) w4 wr) ∧ Hid (scan (ascF r.rds) r.rds.length 0 = scan (ascF r.rds) r.rds.length kk))
        case atStart => exact ⟨0, Nat.zero_le _, by omega, rfl, Below.refl _ _, rfl⟩
        case round =>
          obtain ⟨kk, hkk, hg, rfl, BW, HA⟩ := hrel
          have BWW : Hid (Below w.heap.size w wr) := HB4.out.trans (BW.out.mono (by omega))
          have HS1 := Lib.hid (show w.heap.size + 1 ≤ wr.heap.size by have h1 := HK4.out.lt; have h2 := BW.out.size; omega)
          have HKR : Hid (Blk wr w.heap.size 31 (recA r (.slice (some ⟨b, off, none⟩) r.rds.length k))) := HK4.out.below BW.out (by omega)
          by_cases hlt : kk < r.rds.length
          · have hltz : (kk : Int) < (r.rds.length : Int) := by omega
            obtain ⟨b', off', hA', _, _, _, hrow⟩ := RdgsAt.at_ HL.out hlt
            obtain ⟨rfl, rfl⟩ : b = b' ∧ off = off' := by simpa using hA'
            obtain ⟨q0, q1⟩ := hrow wr (Kept.of BWW.out)
            clear hrow hA'
            have HBAD := Lib.hid (@rdg_bad r.rds 1099511627777 kk hlt)
            have HS := Lib.hid (fun h : ascF r.rds kk ≠ 0 => HD.out (by rw [HA.out, scan_hit hlt h]; exact h))
            have HNX := Lib.hid (fun h : ascF r.rds kk = 0 => HA.out.trans (scan_next hlt h))
            by_cases h0 : kk = 0
            · have hgd : decide ((0 : Int) < (kk : Int)) = false := by simp [h0]
              have hgn : decide (0 < kk) = false := by simp [h0]
              have HFI := Lib.hid (fun (hb : ¬ (r.rds[kk].at_ < 0 ∨ 268435456 < r.rds[kk].at_ ∨ r.rds[kk].reg < 0 ∨ 1099511627777 ≤ r.rds[kk].reg)) => show ascF r.rds kk = 0 by subst h0; exact rdg_first (m := 1099511627777) hlt hb)
              clear h0
              generalize r.rds[kk] = y at *
              obtain ⟨ya, yr⟩ := y
              simp only at *
              clear c0 c1 c2 c3 c4 c5 c6 c7 c8 c9 c10
              by_cases g0 : ya < 0
              case pos =>
                have e0 : decide (ya < 0) = true := decide_eq_true g0
                have HV := Lib.hid (HS.out (by unfold ascF; rw [HBAD.out (by omega)]; decide))
                obtain ⟨c0, c1, c2, c3, c4, c5, c6, c7, c8, c9, c10⟩ := rec_cells HKR.out
                go_wp2_with fail
                go_quiet (fail)
                go_wp2_with fail
                go_ret
                exact ⟨by rw [HV.out]; rfl, below_drewN' (below_alloc BWW.out _) _⟩
              have e0 : decide (ya < 0) = false := decide_eq_false g0
              by_cases g1 : 268435456 < ya
              case pos =>
                have e1 : decide (268435456 < ya) = true := decide_eq_true g1
                have HV := Lib.hid (HS.out (by unfold ascF; rw [HBAD.out (by omega)]; decide))
                obtain ⟨c0, c1, c2, c3, c4, c5, c6, c7, c8, c9, c10⟩ := rec_cells HKR.out
                go_wp2_with fail
                go_quiet (fail)
                go_wp2_with fail
                go_ret
                exact ⟨by rw [HV.out]; rfl, below_drewN' (below_alloc BWW.out _) _⟩
              have e1 : decide (268435456 < ya) = false := decide_eq_false g1
              by_cases g2 : yr < 0
              case pos =>
                have e2 : decide (yr < 0) = true := decide_eq_true g2
                have HV := Lib.hid (HS.out (by unfold ascF; rw [HBAD.out (by omega)]; decide))
                obtain ⟨c0, c1, c2, c3, c4, c5, c6, c7, c8, c9, c10⟩ := rec_cells HKR.out
                go_wp2_with fail
                go_quiet (fail)
                go_wp2_with fail
                go_ret
                exact ⟨by rw [HV.out]; rfl, below_drewN' (below_alloc BWW.out _) _⟩
              have e2 : decide (yr < 0) = false := decide_eq_false g2
              by_cases g3 : 1099511627776 < yr
              case pos =>
                have e3 : decide (1099511627776 < yr) = true := decide_eq_true g3
                have HV := Lib.hid (HS.out (by unfold ascF; rw [HBAD.out (by omega)]; decide))
                obtain ⟨c0, c1, c2, c3, c4, c5, c6, c7, c8, c9, c10⟩ := rec_cells HKR.out
                go_wp2_with fail
                go_quiet (fail)
                go_wp2_with fail
                go_ret
                exact ⟨by rw [HV.out]; rfl, below_drewN' (below_alloc BWW.out _) _⟩
              have e3 : decide (1099511627776 < yr) = false := decide_eq_false g3
              have HV := Lib.hid (HNX.out (HFI.out (by omega)))
              obtain ⟨c0, c1, c2, c3, c4, c5, c6, c7, c8, c9, c10⟩ := rec_cells HKR.out
              go_wp2_with fail
              go_quiet (fail)
              go_wp2_with fail
              go_roundg (r.rds.length - (kk + 1))
              case measure => omega
              case rel => exact ⟨kk + 1, by omega, by omega, by go_num, below_drewN' (BW.out.alloc (by have := HS1.out; omega) _) _, HV.out⟩
            · have hgd : decide ((0 : Int) < (kk : Int)) = true := by simp; omega
              have hgn : decide (0 < kk) = true := by simp; omega
              obtain ⟨jj, hjj⟩ : ∃ jj, kk = jj + 1 := ⟨kk - 1, by omega⟩
              have hjl2 : jj < r.rds.length := by omega
              have hjz2 : (kk : Int) - 1 = (jj : Int) := by omega
              have hjlz2 : (jj : Int) < (r.rds.length : Int) := by omega
              have hjw2 : IntKind.i64.wrap (jj : Int) = (jj : Int) := IntWalk.i64_in _ (by omega)
              have hj02 : (0 : Int) ≤ (jj : Int) := by omega
              have HFI := Lib.hid (fun (hb : ¬ (r.rds[kk].at_ < 0 ∨ 268435456 < r.rds[kk].at_ ∨ r.rds[kk].reg < 0 ∨ 1099511627777 ≤ r.rds[kk].reg)) => show ascF r.rds kk = if r.rds[kk].at_ ≤ r.rds[jj].at_ then 1 else 0 by subst hjj; exact rdg_next (m := 1099511627777) hlt hb)
              obtain ⟨b', off', hA', _, _, _, hrow⟩ := RdgsAt.at_ HL.out hjl2
              obtain ⟨rfl, rfl⟩ : b = b' ∧ off = off' := by simpa using hA'
              have p0 := fun ob => (hrow (wr.alloc ob) (Kept.of (below_alloc BWW.out ob))).1
              clear hrow h0 hjj hA'
              generalize r.rds[kk] = y at *
              generalize r.rds[jj] = p at *
              obtain ⟨ya, yr⟩ := y
              obtain ⟨pa, pr⟩ := p
              simp only at *
              clear c0 c1 c2 c3 c4 c5 c6 c7 c8 c9 c10
              by_cases g0 : ya < 0
              case pos =>
                have e0 : decide (ya < 0) = true := decide_eq_true g0
                have HV := Lib.hid (HS.out (by unfold ascF; rw [HBAD.out (by omega)]; decide))
                obtain ⟨c0, c1, c2, c3, c4, c5, c6, c7, c8, c9, c10⟩ := rec_cells HKR.out
                go_wp2_with fail
                go_quiet (fail)
                go_wp2_with fail
                go_ret
                exact ⟨by rw [HV.out]; rfl, below_drewN' (below_alloc BWW.out _) _⟩
              have e0 : decide (ya < 0) = false := decide_eq_false g0
              by_cases g1 : 268435456 < ya
              case pos =>
                have e1 : decide (268435456 < ya) = true := decide_eq_true g1
                have HV := Lib.hid (HS.out (by unfold ascF; rw [HBAD.out (by omega)]; decide))
                obtain ⟨c0, c1, c2, c3, c4, c5, c6, c7, c8, c9, c10⟩ := rec_cells HKR.out
                go_wp2_with fail
                go_quiet (fail)
                go_wp2_with fail
                go_ret
                exact ⟨by rw [HV.out]; rfl, below_drewN' (below_alloc BWW.out _) _⟩
              have e1 : decide (268435456 < ya) = false := decide_eq_false g1
              by_cases g2 : yr < 0
              case pos =>
                have e2 : decide (yr < 0) = true := decide_eq_true g2
                have HV := Lib.hid (HS.out (by unfold ascF; rw [HBAD.out (by omega)]; decide))
                obtain ⟨c0, c1, c2, c3, c4, c5, c6, c7, c8, c9, c10⟩ := rec_cells HKR.out
                go_wp2_with fail
                go_quiet (fail)
                go_wp2_with fail
                go_ret
                exact ⟨by rw [HV.out]; rfl, below_drewN' (below_alloc BWW.out _) _⟩
              have e2 : decide (yr < 0) = false := decide_eq_false g2
              by_cases g3 : 1099511627776 < yr
              case pos =>
                have e3 : decide (1099511627776 < yr) = true := decide_eq_true g3
                have HV := Lib.hid (HS.out (by unfold ascF; rw [HBAD.out (by omega)]; decide))
                obtain ⟨c0, c1, c2, c3, c4, c5, c6, c7, c8, c9, c10⟩ := rec_cells HKR.out
                go_wp2_with fail
                go_quiet (fail)
                go_wp2_with fail
                go_ret
                exact ⟨by rw [HV.out]; rfl, below_drewN' (below_alloc BWW.out _) _⟩
              have e3 : decide (1099511627776 < yr) = false := decide_eq_false g3
              have hcc := fun ob => (rec_cells (HKR.out.alloc ob)).2.2.2.2.2.2.1
              by_cases hc : ya ≤ pa
              · have hcd : decide (ya ≤ pa) = true := by simp [hc]
                have HV := Lib.hid (HS.out (by rw [HFI.out (by omega), if_pos hc]; decide))
                obtain ⟨c0, c1, c2, c3, c4, c5, c6, c7, c8, c9, c10⟩ := rec_cells HKR.out
                go_wp2_with fail
                go_quiet (fail)
                go_wp2_with fail
                go_ret
                exact ⟨by rw [HV.out]; rfl, below_drewN' (below_alloc BWW.out _) _⟩
              · have hcd : decide (ya ≤ pa) = false := by simp [hc]
                have HV := Lib.hid (HNX.out (by rw [HFI.out (by omega), if_neg hc]))
                obtain ⟨c0, c1, c2, c3, c4, c5, c6, c7, c8, c9, c10⟩ := rec_cells HKR.out
                go_wp2_with fail
                go_quiet (fail)
                go_wp2_with fail
                go_roundg (r.rds.length - (kk + 1))
                case measure => omega
                case rel => exact ⟨kk + 1, by omega, by omega, by go_num, below_drewN' (BW.out.alloc (by have := HS1.out; omega) _) _, HV.out⟩
          · have hltz : ¬ (kk : Int) < (r.rds.length : Int) := by omega
            have HV := Lib.hid (HE.out (HA.out.trans (scan_end (by omega))))
            go_wp2_with fail
            go_ret
            exact ⟨by rw [HV.out]; rfl, BWW.out⟩
end Cdr
end Go.Proofs.YtpmcdjpfolgpiaaGreatDoor
