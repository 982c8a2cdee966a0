/-
  The walk of the reference's Valid of a record.
  The walks of the reference's Minutes and Uses.
-/
import Derived.Test.YtpmcdjpfolgpiaaGreatDoorCdrR
import Derived.Test.YtpmcdjpfolgpiaaGreatDoorCdrT
import Derived.Test.YtpmcdjpfolgpiaaGreatDoorUsgU
import Derived.StillTailTactics
namespace Go.Proofs.YtpmcdjpfolgpiaaGreatDoor
namespace Cdr
set_option linter.unusedSimpArgs false
set_option linter.unusedVariables false
open Go.RowKit MonW TarW Usg UsgW CdrW

theorem step_bad {l : List Rdg} {k : Nat} (hk : k < l.length) (h : l[k].reg < 0 ∨ 1099511627776 < l[k].reg) : ¬ stepOk l k := by
  rintro ⟨x, hx, h1, h2, _⟩
  rw [List.getElem?_eq_getElem hk] at hx
  obtain rfl := Option.some.inj hx
  omega
theorem step_down {l : List Rdg} {k j : Nat} (hk : k < l.length) (hj : j < l.length) (e : k = j + 1) (h : l[k].at_ ≤ l[j].at_) : ¬ stepOk l k := by
  rintro ⟨x, hx, _, _, h2⟩
  rw [List.getElem?_eq_getElem hk] at hx
  obtain rfl := Option.some.inj hx
  have := h2 j l[j] e (List.getElem?_eq_getElem hj)
  omega
theorem step_first {l : List Rdg} {k : Nat} (hk : k < l.length) (h0 : k = 0) (h1 : 0 ≤ l[k].reg) (h2 : l[k].reg ≤ 1099511627776) : stepOk l k :=
  ⟨l[k], List.getElem?_eq_getElem hk, h1, h2, fun j p e => by omega⟩
theorem step_up {l : List Rdg} {k j : Nat} (hk : k < l.length) (hj : j < l.length) (e : k = j + 1) (h1 : 0 ≤ l[k].reg) (h2 : l[k].reg ≤ 1099511627776) (h : l[j].at_ < l[k].at_) : stepOk l k :=
  ⟨l[k], List.getElem?_eq_getElem hk, h1, h2, fun j' p e' hp => by
    obtain rfl : j = j' := by omega
    rw [List.getElem?_eq_getElem hj] at hp
    obtain rfl := Option.some.inj hp
    exact h⟩

set_option maxRecDepth 100000 in
set_option maxHeartbeats 4000000 in
theorem rrecValid (r : Rec) (A : Option Addr) (n k : Nat) (w : World) (ho : r.ok) (hR : RdgsAt w (.slice A n k) r.rds) {E : Int} (hE : recE r = E) :
    Calls Tryz.prog 32 #[.agg (recA r (.slice A n k))] w fun e w' => e = .returned (i E) ∧ Below w.heap.size w w' := by
  obtain ⟨hn, hnk, hkm⟩ := SliceAt.len hR
  subst hn
  unfold maxLen at hkm
  have HRE := recE_re r
  rw [hE] at HRE
  obtain ⟨Ra, Rb, Rc, Rd, Re⟩ := HRE
  clear hE
  have HL := Lib.hid hR
  have HB0 := Lib.hid (below_new w (.cells (recA r (.slice A r.rds.length k)) 31))
  have HK0 := Lib.hid (Blk.new w 31 (recA r (.slice A r.rds.length k)))
  obtain ⟨i1, h1⟩ : ∃ b, IdW.identOk r.sta = b := ⟨_, rfl⟩
  obtain ⟨i2, h2⟩ : ∃ b, IdW.identOk r.txn = b := ⟨_, rfl⟩
  obtain ⟨i3, h3⟩ : ∃ b, IdW.identOk r.tok = b := ⟨_, rfl⟩
  have HI1 := Lib.hid (fun W => rid r.sta W ho.s1 h1)
  have HI2 := Lib.hid (fun W => rid r.txn W ho.s2 h2)
  have HI3 := Lib.hid (fun W => rid r.tok W ho.s3 h3)
  rw [h1, h2, h3] at Ra Rb Rc Rd Re
  have RA := Lib.hid Ra
  have RB := Lib.hid Rb
  have RC := Lib.hid Rc
  have RD := Lib.hid Rd
  have RE := Lib.hid Re
  clear hR ho h1 h2 h3 Ra Rb Rc Rd Re
  go_enter Tryz.func32, Tryz.ntmps32
  go_wp2_with fail
  refine (HI1.out _).mono ?_
  rintro e w1 ⟨rfl, hb⟩
  have HK1 := Lib.hid (HK0.out.call hb)
  have HB1 := Lib.hid (below_call HB0.out hb)
  obtain ⟨c0, c1, c2, c3, c4, c5, c6, c7, c8, c9, c10⟩ := rec_cells HK1.out
  clear hb HK0 HB0 HI1
  cases i1
  case false =>
    go_wp2_with fail
    go_ret
    exact ⟨by rw [RA.out (by simp)]; rfl, HB1.out⟩
  go_wp2_with fail
  refine (HI2.out _).mono ?_
  rintro e w2 ⟨rfl, hb⟩
  have HK2 := Lib.hid (HK1.out.call hb)
  have HB2 := Lib.hid (below_call HB1.out hb)
  clear hb HK1 HB1 HI2 c0 c1 c2 c3 c4 c5 c6 c7 c8 c9 c10
  obtain ⟨c0, c1, c2, c3, c4, c5, c6, c7, c8, c9, c10⟩ := rec_cells HK2.out
  cases i2
  case false =>
    go_wp2_with fail
    go_ret
    exact ⟨by rw [RA.out (by simp)]; rfl, HB2.out⟩
  go_wp2_with fail
  refine (HI3.out _).mono ?_
  rintro e w3 ⟨rfl, hb⟩
  have HK3 := Lib.hid (HK2.out.call hb)
  have HB3 := Lib.hid (below_call HB2.out hb)
  clear hb HK2 HB2 HI3 c0 c1 c2 c3 c4 c5 c6 c7 c8 c9 c10
  obtain ⟨c0, c1, c2, c3, c4, c5, c6, c7, c8, c9, c10⟩ := rec_cells HK3.out
  cases i3
  case false =>
    go_wp2_with fail
    go_ret
    exact ⟨by rw [RA.out (by simp)]; rfl, HB3.out⟩
  have RB := Lib.hid (RB.out rfl)
  have RC := Lib.hid (RC.out rfl)
  have RD := Lib.hid (RD.out rfl)
  have RE := Lib.hid (RE.out rfl)
  clear RA
  by_cases h0 : r.conn < 1
  case pos =>
    have HV := Lib.hid (RB.out (decide_eq_false (by omega)))
    go_wp2_with fail
    go_ret
    exact ⟨by rw [HV.out]; rfl, HB3.out⟩
  by_cases h1 : r.stop < r.start
  case pos =>
    have HV := Lib.hid (RB.out (decide_eq_false (by omega)))
    go_wp2_with fail
    go_ret
    exact ⟨by rw [HV.out]; rfl, HB3.out⟩
  by_cases h2 : r.en < 0
  case pos =>
    have HV := Lib.hid (RB.out (decide_eq_false (by omega)))
    go_wp2_with fail
    go_ret
    exact ⟨by rw [HV.out]; rfl, HB3.out⟩
  by_cases h3 : 1099511627776 < r.en
  case pos =>
    have HV := Lib.hid (RB.out (decide_eq_false (by omega)))
    go_wp2_with fail
    go_ret
    exact ⟨by rw [HV.out]; rfl, HB3.out⟩
  by_cases h4 : r.reason < 1
  case pos =>
    have HV := Lib.hid (RB.out (decide_eq_false (by omega)))
    go_wp2_with fail
    go_ret
    exact ⟨by rw [HV.out]; rfl, HB3.out⟩
  by_cases h5 : 6 < r.reason
  case pos =>
    have HV := Lib.hid (RB.out (decide_eq_false (by omega)))
    go_wp2_with fail
    go_ret
    exact ⟨by rw [HV.out]; rfl, HB3.out⟩
  by_cases h6 : r.rds.length < 1
  case pos =>
    have h6z : (r.rds.length : Int) < 1 := by omega
    have HV := Lib.hid (RB.out (decide_eq_false (by omega)))
    go_wp2_with fail
    go_ret
    exact ⟨by rw [HV.out]; rfl, HB3.out⟩
  have h6z : ¬ (r.rds.length : Int) < 1 := by omega
  by_cases h7 : 1024 < r.rds.length
  case pos =>
    have h7z : (1024 : Int) < (r.rds.length : Int) := by omega
    have HV := Lib.hid (RB.out (decide_eq_false (by omega)))
    go_wp2_with fail
    go_ret
    exact ⟨by rw [HV.out]; rfl, HB3.out⟩
  have h7z : ¬ (1024 : Int) < (r.rds.length : Int) := by omega
  have hhead : recHead r = true := decide_eq_true (by omega)
  have RC := Lib.hid (RC.out hhead)
  have RD := Lib.hid (RD.out hhead)
  have RE := Lib.hid (RE.out hhead)
  clear hhead RB
  obtain ⟨j, hj⟩ : ∃ j, r.rds.length = j + 1 := ⟨r.rds.length - 1, by omega⟩
  have h0l : 0 < r.rds.length := by omega
  have hjl : j < r.rds.length := by omega
  have hjz : (r.rds.length : Int) - 1 = (j : Int) := by omega
  have hjlz : (j : Int) < (r.rds.length : Int) := by omega
  have hjw : IntKind.i64.wrap (j : Int) = (j : Int) := IntWalk.i64_in _ (by omega)
  have h0lz : (0 : Int) < (r.rds.length : Int) := by omega
  obtain ⟨b, off, rfl, _, _, _, hrow⟩ := RdgsAt.at_ HL.out hjl
  obtain ⟨b', off', hA', _, _, _, hrow0⟩ := RdgsAt.at_ HL.out h0l
  obtain ⟨rfl, rfl⟩ : b = b' ∧ off = off' := by simpa using hA'
  have lj := (hrow w3 (Kept.of HB3.out)).1
  have l0 : w3.cell? ⟨b, off, none⟩ = some (i r.rds[0].at_) := by simpa using (hrow0 w3 (Kept.of HB3.out)).1
  have eh := head_at h0l
  have el := last_at (l := r.rds) (by omega)
  simp only [show r.rds.length - 1 = j from by omega] at el
  rw [← eh] at l0
  rw [← el] at lj
  have HASC := Lib.hid (fun h1 h2 h3 => asc_ok (l := r.rds) h0l h1 h2 h3)
  have HAH := Lib.hid (asc_head (l := r.rds) h0l)
  have HAL := Lib.hid (asc_last (l := r.rds) h0l)
  clear hrow hrow0 hA' eh el hj
  generalize headAt r.rds = ha at *
  generalize lastAt r.rds = la at *
  by_cases h8 : ha = r.start
  case neg =>
    have d8 : (ha != r.start) = true := by simpa using h8
    have HV := Lib.hid (RC.out (.inl h8))
    clear h8
    go_wp2_with fail
    go_quiet (fail)
    go_wp2_with fail
    go_ret
    exact ⟨by rw [HV.out]; rfl, below_drewN' HB3.out _⟩
  have d8 : (ha != r.start) = false := by simpa using h8
  by_cases h9 : la = r.stop
  case neg =>
    have d9 : (la != r.stop) = true := by simpa using h9
    have HV := Lib.hid (RC.out (.inr h9))
    clear h9 h8
    go_wp2_with fail
    go_quiet (fail)
    go_wp2_with fail
    go_ret
    exact ⟨by rw [HV.out]; rfl, below_drewN' HB3.out _⟩
  have d9 : (la != r.stop) = false := by simpa using h9
  have RD := Lib.hid (RD.out h8 h9)
  have RE := Lib.hid (RE.out h8 h9)
  have H8 := Lib.hid h8
  have H9 := Lib.hid h9
  clear h8 h9 RC
  by_cases h10 : r.start < 0
  case pos =>
    have d10 : decide (r.start < 0) = true := decide_eq_true h10
    have HV := Lib.hid (RD.out (HAH.out (by rw [H8.out]; exact h10)))
    go_wp2_with fail
    go_quiet (fail)
    go_wp2_with fail
    go_ret
    exact ⟨by rw [HV.out]; rfl, below_drewN' HB3.out _⟩
  have d10 : decide (r.start < 0) = false := decide_eq_false h10
  by_cases h11 : 268435456 < r.stop
  case pos =>
    have d11 : decide (268435456 < r.stop) = true := decide_eq_true h11
    have HV := Lib.hid (RD.out (HAL.out (by rw [H9.out]; exact h11)))
    go_wp2_with fail
    go_quiet (fail)
    go_wp2_with fail
    go_ret
    exact ⟨by rw [HV.out]; rfl, below_drewN' HB3.out _⟩
  have d11 : decide (268435456 < r.stop) = false := decide_eq_false h11
  have RE := Lib.hid (fun h => RE.out (HASC.out h (by rw [H8.out]; omega) (by rw [H9.out]; omega)))
  have HNO := Lib.hid (fun q (hq : q < r.rds.length) h => RD.out (asc_no hq h))
  go_wp2_with fail
  go_quiet (fail)
  have HB4 := Lib.hid (below_drewN' HB3.out nq)
  have HK4 : Hid (Blk (w3.drewN nq) w.heap.size 31 (recA r (.slice (some ⟨b, off, none⟩) r.rds.length k))) := HK3.out
  generalize w3.drewN nq = w4 at *
  clear c0 c1 c2 c3 c4 c5 c6 c7 c8 c9 c10 lj l0 d8 d9 d10 d11 h0 h1 h2 h3 h4 h5 h6 h7 h10 h11 H8 H9 HASC HAH HAL RD HB3 HK3
  obtain ⟨c0, c1, c2, c3, c4, c5, c6, c7, c8, c9, c10⟩ := rec_cells HK4.out
  go_wp2_with fail
  go_loopg [96] r.rds.length (fun gg s96 wr => ∃ kk : Nat, kk ≤ r.rds.length ∧ r.rds.length - kk ≤ gg ∧ s96 = i kk ∧ Hid (Below (w.heap.size + 1) w4 wr) ∧ Hid (∀ q, q < r.rds.length → q < kk → stepOk r.rds q))
  case atStart => exact ⟨0, Nat.zero_le _, by omega, rfl, Below.refl _ _, fun q _ h => by omega⟩
  case round =>
    obtain ⟨kk, hkk, hg, rfl, BW, HA⟩ := hrel
    have BWW : Hid (Below w.heap.size w wr) := HB4.out.trans (BW.out.mono (by omega))
    have HS1 := Lib.hid (show w.heap.size + 1 ≤ wr.heap.size by have h1 := HK4.out.lt; have h2 := BW.out.size; omega)
    have HKR : Hid (Blk wr w.heap.size 31 (recA r (.slice (some ⟨b, off, none⟩) r.rds.length k))) := HK4.out.below BW.out (by omega)
    clear c0 c1 c2 c3 c4 c5 c6 c7 c8 c9 c10
    by_cases hlt : kk < r.rds.length
    · have hltz : (kk : Int) < (r.rds.length : Int) := by omega
      have hk0 : (0 : Int) ≤ (kk : Int) := by omega
      obtain ⟨b', off', hA', _, _, _, hrow⟩ := RdgsAt.at_ HL.out hlt
      obtain ⟨rfl, rfl⟩ : b = b' ∧ off = off' := by simpa using hA'
      obtain ⟨q0, q1⟩ := hrow wr (Kept.of BWW.out)
      clear hrow hA'
      have HNB := Lib.hid (fun h => HNO.out kk hlt (step_bad hlt h))
      have HST : Hid (stepOk r.rds kk → ∀ q, q < r.rds.length → q < kk + 1 → stepOk r.rds q) := by
        intro hs q hq hqk
        by_cases e : q = kk
        · subst e; exact hs
        · exact HA.out q hq (by omega)
      have hcc := fun ob => (rec_cells (HKR.out.alloc ob)).2.2.2.2.2.2.1
      by_cases h0 : kk = 0
      · have hgd : decide ((0 : Int) < (kk : Int)) = false := by simp [h0]
        have hgn : decide (0 < kk) = false := by simp [h0]
        have HYS := Lib.hid (fun h1 h2 => HST.out (step_first hlt h0 h1 h2))
        clear h0
        generalize r.rds[kk] = y at *
        obtain ⟨ya, yr⟩ := y
        simp only at *
        by_cases g2 : yr < 0
        case pos =>
          have e2 : decide (yr < 0) = true := decide_eq_true g2
          have HV := Lib.hid (HNB.out (.inl g2))
          go_wp2_with fail
          go_quiet (fail)
          go_wp2_with fail
          go_ret
          exact ⟨by rw [HV.out]; rfl, below_drewN' (below_alloc BWW.out _) _⟩
        have e2 : decide (yr < 0) = false := decide_eq_false g2
        by_cases g3 : 1099511627776 < yr
        case pos =>
          have e3 : decide (1099511627776 < yr) = true := decide_eq_true g3
          have HV := Lib.hid (HNB.out (.inr g3))
          go_wp2_with fail
          go_quiet (fail)
          go_wp2_with fail
          go_ret
          exact ⟨by rw [HV.out]; rfl, below_drewN' (below_alloc BWW.out _) _⟩
        have e3 : decide (1099511627776 < yr) = false := decide_eq_false g3
        have HV := Lib.hid (HYS.out (by omega) (by omega))
        go_wp2_with fail
        go_quiet (fail)
        go_wp2_with fail
        go_roundg (r.rds.length - (kk + 1))
        case measure => omega
        case rel => exact ⟨kk + 1, by omega, by omega, by go_num, below_drewN' (BW.out.alloc (by have := HS1.out; omega) _) _, HV.out⟩
      · have hgd : decide ((0 : Int) < (kk : Int)) = true := by simp; omega
        have hgn : decide (0 < kk) = true := by simp; omega
        obtain ⟨jj, hjj⟩ : ∃ jj, kk = jj + 1 := ⟨kk - 1, by omega⟩
        have hjl2 : jj < r.rds.length := by omega
        have hjz2 : (kk : Int) - 1 = (jj : Int) := by omega
        have hjlz2 : (jj : Int) < (r.rds.length : Int) := by omega
        have hjw2 : IntKind.i64.wrap (jj : Int) = (jj : Int) := IntWalk.i64_in _ (by omega)
        have hj02 : (0 : Int) ≤ (jj : Int) := by omega
        have HYS := Lib.hid (fun h1 h2 h3 => HST.out (step_up hlt hjl2 hjj h1 h2 h3))
        have HND := Lib.hid (fun h => HNO.out kk hlt (step_down hlt hjl2 hjj h))
        obtain ⟨b', off', hA', _, _, _, hrow⟩ := RdgsAt.at_ HL.out hjl2
        obtain ⟨rfl, rfl⟩ : b = b' ∧ off = off' := by simpa using hA'
        have p0 := fun ob => (hrow (wr.alloc ob) (Kept.of (below_alloc BWW.out ob))).1
        clear hrow h0 hjj hA'
        generalize r.rds[kk] = y at *
        generalize r.rds[jj] = p at *
        obtain ⟨ya, yr⟩ := y
        obtain ⟨pa, pr⟩ := p
        simp only at *
        by_cases g2 : yr < 0
        case pos =>
          have e2 : decide (yr < 0) = true := decide_eq_true g2
          have HV := Lib.hid (HNB.out (.inl g2))
          go_wp2_with fail
          go_quiet (fail)
          go_wp2_with fail
          go_ret
          exact ⟨by rw [HV.out]; rfl, below_drewN' (below_alloc BWW.out _) _⟩
        have e2 : decide (yr < 0) = false := decide_eq_false g2
        by_cases g3 : 1099511627776 < yr
        case pos =>
          have e3 : decide (1099511627776 < yr) = true := decide_eq_true g3
          have HV := Lib.hid (HNB.out (.inr g3))
          go_wp2_with fail
          go_quiet (fail)
          go_wp2_with fail
          go_ret
          exact ⟨by rw [HV.out]; rfl, below_drewN' (below_alloc BWW.out _) _⟩
        have e3 : decide (1099511627776 < yr) = false := decide_eq_false g3
        by_cases hc : ya ≤ pa
        · have hcd : decide (ya ≤ pa) = true := decide_eq_true hc
          have HV := Lib.hid (HND.out hc)
          go_wp2_with fail
          go_quiet (fail)
          go_wp2_with fail
          go_ret
          exact ⟨by rw [HV.out]; rfl, below_drewN' (below_alloc BWW.out _) _⟩
        · have hcd : decide (ya ≤ pa) = false := decide_eq_false hc
          have HV := Lib.hid (HYS.out (by omega) (by omega) (by omega))
          go_wp2_with fail
          go_quiet (fail)
          go_wp2_with fail
          go_roundg (r.rds.length - (kk + 1))
          case measure => omega
          case rel => exact ⟨kk + 1, by omega, by omega, by go_num, below_drewN' (BW.out.alloc (by have := HS1.out; omega) _) _, HV.out⟩
    · have hltz : ¬ (kk : Int) < (r.rds.length : Int) := by omega
      have HV := Lib.hid (RE.out (fun q hq => HA.out q hq (by omega)))
      go_wp2_with fail
      go_ret
      exact ⟨by rw [HV.out]; rfl, BWW.out⟩
end Cdr
end Go.Proofs.YtpmcdjpfolgpiaaGreatDoor

namespace Go.Proofs.YtpmcdjpfolgpiaaGreatDoor
namespace UsgW
set_option linter.unusedSimpArgs false
set_option linter.unusedVariables false
open Go.RowKit CalW TarW Usg Cdr PriW

theorem minTo_range_succ (l : List Rdg) (m : Int) (k : Nat) : minTo l m (List.range (k + 1)) = minTo l m (List.range k) ++ partsK l m k := by
  rw [List.range_succ, minTo_snoc]
theorem one_i (r : List Value) (n : Int) (h : MonW.IntR r n) : ∀ u ∈ r, u.oneCell' = true := MonW.one_int r n h
/-- The list so far. -/
def soFar (l : List Rdg) (m : Int) (k : Nat) (en : Int) (N j : Nat) : List Int := minTo l m (List.range k) ++ (List.range j).map (fun (q : Nat) => Usg.part en (N : Int) (q : Int))
theorem soFar_zero (l : List Rdg) (m : Int) (k : Nat) (en : Int) (N : Nat) : soFar l m k en N 0 = minTo l m (List.range k) := by unfold soFar; simp
theorem soFar_succ (l : List Rdg) (m : Int) (k : Nat) (en : Int) (N j : Nat) : soFar l m k en N (j + 1) = soFar l m k en N j ++ [Usg.part en (N : Int) (j : Int)] := by
  unfold soFar
  rw [parts_succ, List.append_assoc]
theorem soFar_end {l : List Rdg} {m : Int} {k : Nat} (h : k + 1 < l.length) {N : Nat} (hN : (l[k + 1].at_ - l[k].at_) = (N : Int)) : soFar l m k (delta l[k].reg l[k + 1].reg m) N N = minTo l m (List.range (k + 1)) := by
  rw [minTo_range_succ, partsK_at h, hN]
  rfl
theorem minTo_range_len {l : List Rdg} {m : Int} (h : Good l m) : ∀ k (hk : k < l.length), ((minTo l m (List.range k)).length : Int) = l[k].at_ - l[0].at_
  | 0, hk => by simp [minTo]
  | k + 1, hk => by
    have ih := minTo_range_len h k (by omega)
    have ha := h.asc k hk
    rw [minTo_range_succ, partsK_at hk, List.length_append, parts_len]
    omega
theorem soFar_len {l : List Rdg} {m : Int} (h : Good l m) (hs : ¬ 20160 < span l) {k : Nat} (hk : k + 1 < l.length) (en : Int) {N j : Nat} (hN : (l[k + 1].at_ - l[k].at_) = (N : Int)) (hj : j ≤ N) : (soFar l m k en N j).length ≤ 16777216 := by
  have h1 := minTo_range_len h k (by omega)
  have h2 := h.mono _ (k + 1) (l.length - 1) hk (by omega) rfl (by omega)
  rw [span_at h.n1] at hs
  unfold soFar
  simp only [List.length_append, List.length_map, List.length_range]
  omega

set_option maxRecDepth 100000 in
set_option maxHeartbeats 4000000 in
theorem rminutes (v : Value) (l : List Rdg) (m : Int) (w : World) (h : RdgsAt w v l) : Calls Tryz.prog 81 #[v, i m] w (MinPost l m w) := by
  obtain ⟨A, c, rfl, h1, h2⟩ := SliceAt.form h
  unfold maxLen at h2
  have HL := Lib.hid h
  obtain ⟨i0, hi0, hz0, hz1, hz2⟩ := info_parts infoI
  by_cases hE : useE l m = 0
  case neg =>
    have HV := Lib.hid (rvalid (.slice A l.length c) l m w h)
    have HM : Hid (minE l m = useE l m) := by show _ = _; unfold minE; rw [if_pos hE]
    have hz : (useE l m != 0) = true := by simpa using hE
    clear h
    generalize useE l m = E at *
    go_enter Tryz.func81, Tryz.ntmps81
    go_wp2_with fail
    refine HV.out.mono ?_
    rintro e w1 ⟨rfl, hb1⟩
    go_wp2_with fail
    go_ret2
    exact MinPost.no HM.out hE hb1
  have HV : Hid (Calls Tryz.prog 105 #[.slice A l.length c, i m] w fun e w' => e = .returned (i 0) ∧ Below w.heap.size w w') := by
    have := rvalid (.slice A l.length c) l m w h
    rw [hE] at this
    exact this
  clear h
  have hG := good_of hE
  have hn2 := hG.n2
  have h0l : 0 < l.length := hG.n1
  obtain ⟨j, hj⟩ : ∃ j, l.length = j + 1 := ⟨l.length - 1, by omega⟩
  have hjl : j < l.length := by omega
  have hjz : (l.length : Int) - 1 = (j : Int) := by omega
  have hjlz : (j : Int) < (l.length : Int) := by omega
  have hjw : IntKind.i64.wrap (j : Int) = (j : Int) := IntWalk.i64_in _ (by omega)
  have h0lz : (0 : Int) < (l.length : Int) := by omega
  obtain ⟨b, off, rfl, hbw, _, _, hrow⟩ := RdgsAt.at_ HL.out hjl
  have HROW := Lib.hid hrow
  obtain ⟨b', off', hA', _, _, _, hrow0⟩ := RdgsAt.at_ HL.out h0l
  obtain ⟨rfl, rfl⟩ : b = b' ∧ off = off' := by simpa using hA'
  have HROW0 := Lib.hid hrow0
  clear hrow hrow0 hA'
  have hsp := span_at h0l
  simp only [show l.length - 1 = j from by omega] at hsp
  have o1 := hG.ok j hjl
  have o2 := hG.ok 0 h0l
  have HG := Lib.hid hG
  have hw1 : IntKind.i64.wrap (l[j].at_ - l[0].at_) = l[j].at_ - l[0].at_ := IntWalk.i64_in _ (by omega)
  rw [← hsp] at hw1
  have hspz : l[j].at_ - l[0].at_ = span l := hsp.symm
  clear hG hsp o1 o2
  generalize l[j].at_ = aj at *
  generalize l[0].at_ = a0 at *
  have HS := Lib.hid hE
  have HJ := Lib.hid hj
  clear hj
  go_enter Tryz.func81, Tryz.ntmps81
  go_wp2_with fail
  refine HV.out.mono ?_
  rintro e w1 ⟨rfl, hb1⟩
  have HB1 := Lib.hid hb1
  clear hb1
  have lj := (HROW.out w1 (Kept.of HB1.out)).1
  have l0 : w1.cell? ⟨b, off, none⟩ = some (i a0) := by simpa using (HROW0.out w1 (Kept.of HB1.out)).1
  go_wp2_with fail
  by_cases hs : 20160 < span l
  · have HM : Hid (minE l m = 3) := by show _ = _; unfold minE; rw [if_neg (by have := HS.out; omega), if_pos hs]
    generalize span l = sp at *
    go_quiet (fail)
    go_wp2_with fail
    go_ret2
    exact MinPost.no HM.out (by decide) (below_drewN' HB1.out _)
  have HM : Hid (minE l m = 0 ∧ minV l m = mins m l) := by
    have h1 : minE l m = 0 := by unfold minE; rw [if_neg (by have := HS.out; omega), if_neg hs]
    exact ⟨h1, by unfold minV; rw [if_pos h1]⟩
  have HSP := Lib.hid hs
  have hsz : ¬ 20160 < span l := hs
  generalize hq : span l = sp at *
  have HQ := Lib.hid hq
  clear hq
  go_quiet (fail)
  go_wp2_with fail
  have HBN := Lib.hid (below_drewN' HB1.out nq)
  generalize w1.drewN nq = w2 at *
  clear lj l0 hw1 hspz HB1
  go_loopg [7, 8] l.length (fun gg s7 s8 wr => ∃ (q : Nat) (A1 : Option Addr) (n1 c1 : Nat), 1 ≤ q ∧ q ≤ l.length ∧ l.length - q ≤ gg ∧ s7 = .slice A1 n1 c1 ∧ s8 = i (q : Int) ∧ Hid (MonW.OwnN w.heap.size wr (.slice A1 n1 c1) (minTo l m (List.range (q - 1)))) ∧ Hid (Below w.heap.size w wr))
  case atStart => exact ⟨1, _, _, _, Nat.le_refl _, by omega, by omega, rfl, rfl, Own.nil, HBN.out⟩
  case round =>
    obtain ⟨q, Av, nv, cv, hq1, hql, hg, rfl, rfl, HO, BW⟩ := hrel
    by_cases hlt : q < l.length
    case neg =>
      have hltz : ¬ (q : Int) < (l.length : Int) := by omega
      have HF : Hid (minTo l m (List.range (q - 1)) = minV l m) := by
        show _ = _
        rw [HM.out.2, mins_eq, show q = l.length by omega]
      have HF2 : Hid (MonW.IntsAt wr (.slice Av nv cv) (minV l m)) := by
        have := Own.at_ HO.out (by omega)
        rw [HF.out] at this
        exact this
      go_wp2_with fail
      go_ret2
      exact ⟨_, by rw [HM.out.1]; rfl, HF2.out, BW.out⟩
    have hltz : (q : Int) < (l.length : Int) := by omega
    obtain ⟨p, hp⟩ : ∃ p, q = p + 1 := ⟨q - 1, by omega⟩
    have hpl : p + 1 < l.length := by omega
    have hpl0 : p < l.length := by omega
    have hpz : (q : Int) - 1 = (p : Int) := by omega
    have hplz : (p : Int) < (l.length : Int) := by omega
    have hpw : IntKind.i64.wrap (p : Int) = (p : Int) := IntWalk.i64_in _ (by omega)
    have hp0 : (0 : Int) ≤ (p : Int) := by omega
    have hq0 : (0 : Int) ≤ (q : Int) := by omega
    obtain ⟨b', off', hA', _, _, _, hrowq⟩ := RdgsAt.at_ HL.out hlt
    obtain ⟨rfl, rfl⟩ : b = b' ∧ off = off' := by simpa using hA'
    clear hA'
    obtain ⟨b', off', hA', _, _, _, hrowp⟩ := RdgsAt.at_ HL.out hpl0
    obtain ⟨rfl, rfl⟩ : b = b' ∧ off = off' := by simpa using hA'
    clear hA'
    obtain ⟨kq, kqr⟩ := hrowq wr (Kept.of BW.out)
    obtain ⟨kp, kpr⟩ := hrowp wr (Kept.of BW.out)
    have oq := HG.out.ok q hlt
    have op := HG.out.ok p hpl0
    have hprt := HG.out.part (by rw [HQ.out]; have := HSP.out; omega) hpl
    have hm1 := HG.out.m1
    have hm2 := HG.out.m2
    obtain ⟨N, hN⟩ : ∃ N : Nat, l[p + 1].at_ - l[p].at_ = (N : Int) := ⟨(l[p + 1].at_ - l[p].at_).toNat, by omega⟩
    have HEND : Hid (soFar l m p (delta l[p].reg l[p + 1].reg m) N N = minTo l m (List.range (q + 1 - 1))) := by
      show _ = _
      rw [show q + 1 - 1 = p + 1 by omega]
      exact soFar_end hpl hN
    have HLN : Hid (∀ en j, j ≤ N → (soFar l m p en N j).length ≤ 16777216) := fun en j hj => soFar_len HG.out (by rw [HQ.out]; have := HSP.out; omega) hpl en hN hj
    have HO : Hid (MonW.OwnN w.heap.size wr (.slice Av nv cv) (minTo l m (List.range p))) := by
      have := HO.out
      rw [show q - 1 = p by omega] at this
      exact this
    have HQP := Lib.hid hp
    have e1 : l[q] = l[p + 1] := by simp only [hp]
    rw [e1] at kq kqr oq
    have HB3 : Hid (∀ W, Calls Tryz.prog 106 #[.agg #[i l[p].at_, i l[p].reg], .agg #[i l[p + 1].at_, i l[p + 1].reg], i m] W fun e w' => e = .returned (i (delta l[p].reg l[p + 1].reg m)) ∧ Below W.heap.size W w') :=
      fun W => UsgD.between _ _ _ _ m W hm1 hm2 op.2.2.1 op.2.2.2 oq.2.2.1 oq.2.2.2
    have hd := delta_bd (a := l[p].reg) (b := l[p + 1].reg) hm1
    have hdw : IntKind.i64.wrap (l[p + 1].at_ - l[p].at_) = l[p + 1].at_ - l[p].at_ := IntWalk.i64_in _ (by omega)
    rw [hN] at hdw
    have hdz := hN
    have hN1 : 1 ≤ N ∧ N ≤ 20160 := by omega
    clear hN hprt oq op e1 hp hrowq hrowp
    generalize l[p + 1].at_ = tb at *
    generalize l[p].at_ = ta at *
    generalize l[p + 1].reg = rb at *
    generalize l[p].reg = ra at *
    generalize delta ra rb m = en at *
    go_upto_region 10 with (fail)
    go_quiet (fail)
    go_upto_region 11 with (fail)
    have hbq : Below wr.heap.size wr (wr.drewN nq) := below_drewN' (Below.refl _ _) nq
    have kq2 : (wr.drewN nq).cell? _ = _ := kq
    have kqr2 : (wr.drewN nq).cell? _ = _ := kqr
    have kp2 : (wr.drewN nq).cell? _ = _ := kp
    have kpr2 : (wr.drewN nq).cell? _ = _ := kpr
    clear hdw hdz kq kqr kp kpr
    generalize wr.drewN nq = wq at *
    go_still_tail 10, (by kernel_rfl)
    go_wp2_with fail
    refine (HB3.out _).mono ?_
    rintro e w4 ⟨rfl, hb4⟩
    have hb5 : Below wr.heap.size wr w4 := hbq.trans (((Below.drew (Below.refl _ _)).trans hb4).mono hbq.size)
    have HB5 := Lib.hid (below_call BW.out hb5)
    have HO5 : Hid (MonW.OwnN w.heap.size w4 (.slice Av nv cv) (soFar l m p en N 0)) := by
      show MonW.OwnN _ _ _ _
      rw [soFar_zero]
      exact Own.call HO.out hb5
    clear hb4 hb5 HO BW kq2 kqr2 kp2 kpr2 hbq hpz hplz hpw HB3
    go_wp2_with fail
    go_loopg [7, 11] N (fun gg s7 s11 wr => ∃ (kk : Nat) (A1 : Option Addr) (n1 c1 : Nat), kk ≤ N ∧ N - kk ≤ gg ∧ s7 = .slice A1 n1 c1 ∧ s11 = i (kk : Int) ∧ Hid (MonW.OwnN w.heap.size wr (.slice A1 n1 c1) (soFar l m p en N kk)) ∧ Hid (Below w.heap.size w wr))
    case atStart => exact ⟨0, _, _, _, Nat.zero_le _, by omega, rfl, rfl, HO5.out, HB5.out⟩
    case round =>
      obtain ⟨kk, Av, nv, cv, hkk, hg2, rfl, rfl, HO, BW⟩ := hrel
      by_cases hlt2 : kk < N
      case neg =>
        have hltz2 : ¬ (kk : Int) < (N : Int) := by omega
        have hke : kk = N := by omega
        subst hke
        have HO6 : Hid (MonW.OwnN w.heap.size wr (.slice Av nv cv) (minTo l m (List.range (q + 1 - 1)))) := by
          have := HO.out
          rw [HEND.out] at this
          exact this
        go_wp2_with fail
        go_roundg (l.length - (q + 1))
        case measure => omega
        case rel => exact ⟨q + 1, _, _, _, by omega, by omega, by omega, rfl, by go_num, HO6.out, BW.out⟩
      have hltz2 : (kk : Int) < (N : Int) := by omega
      have hkw : IntKind.i64.wrap ((kk : Int) + 1) = (kk : Int) + 1 := IntWalk.i64_in _ (by omega)
      have pb := part_bd hd.1 (show (1 : Int) ≤ (N : Int) by omega) (show (0 : Int) ≤ (kk : Int) by omega) hltz2
      have m1 := mul_bd hd.1 (show en ≤ 1099511627776 by omega) (show (0 : Int) ≤ (kk : Int) by omega) (by omega)
      have m2 := mul_bd hd.1 (show en ≤ 1099511627776 by omega) (show (0 : Int) ≤ (kk : Int) + 1 by omega) (by omega)
      obtain ⟨q1, hq1'⟩ : ∃ q, en * ((kk : Int) + 1) / (N : Int) = q := ⟨_, rfl⟩
      obtain ⟨q2, hq2'⟩ : ∃ q, en * (kk : Int) / (N : Int) = q := ⟨_, rfl⟩
      have hpe : q1 - q2 = Usg.part en (N : Int) (kk : Int) := by unfold Usg.part; rw [hq1', hq2']
      rw [hq1', hq2'] at pb
      have t1 : (en * ((kk : Int) + 1)).tdiv (N : Int) = q1 := by rw [Int.tdiv_eq_ediv_of_nonneg m2.1]; exact hq1'
      have t2 : (en * (kk : Int)).tdiv (N : Int) = q2 := by rw [Int.tdiv_eq_ediv_of_nonneg m1.1]; exact hq2'
      have w1' : IntKind.i64.wrap (en * ((kk : Int) + 1)) = en * ((kk : Int) + 1) := IntWalk.i64_in _ (by omega)
      have w2' : IntKind.i64.wrap (en * (kk : Int)) = en * (kk : Int) := IntWalk.i64_in _ (by omega)
      have w3' : IntKind.i64.wrap q1 = q1 := IntWalk.i64_in _ (by omega)
      have w4' : IntKind.i64.wrap q2 = q2 := IntWalk.i64_in _ (by omega)
      have w5' : IntKind.i64.wrap (Usg.part en (N : Int) (kk : Int)) = Usg.part en (N : Int) (kk : Int) := IntWalk.i64_in _ (by omega)
      have hN0 : ¬ N = 0 := by omega
      have HRR : Hid (MonW.IntR (#[i (Usg.part en (N : Int) (kk : Int))] : Array Value).toList (Usg.part en (N : Int) (kk : Int))) := MonW.intR_lit (by unfold MonW.I64; omega)
      have HLEN := Lib.hid (HLN.out en kk hkk)
      have HMT := Lib.hid (soFar_succ l m p en N kk)
      clear hq1' hq2' pb m1 m2
      have HO1 : Hid (MonW.OwnN w.heap.size (wr.drew.alloc (.cells #[i (Usg.part en (N : Int) (kk : Int))] 3)) (.slice Av nv cv) (soFar l m p en N kk)) := Own.call (show MonW.OwnN w.heap.size wr.drew (.slice Av nv cv) (soFar l m p en N kk) from HO.out) (below_new wr.drew _)
      have HBA : Hid (Below w.heap.size w (wr.drew.alloc (.cells #[i (Usg.part en (N : Int) (kk : Int))] 3))) := below_alloc (Below.drew BW.out) _
      go_upto_region 15 with (fail)
      refine Reg6P.made 14 (fun k => match k with | 0 => (.slice Av nv cv) | 1 => (i en) | 2 => (i (kk : Int)) | 3 => (i ((kk : Int) + 1)) | 4 => (i (en * ((kk : Int) + 1))) | 5 => (.int .i64 (N : Int)) | 6 => (i q1) | 7 => (i en) | 8 => (i (kk : Int)) | 9 => (i (en * (kk : Int))) | 10 => (.int .i64 (N : Int)) | 11 => (i q2) | 12 => (i (Usg.part en (N : Int) (kk : Int))) | 13 => (.slice (some ⟨wr.heap.size, 0, none⟩) 1 1) | _ => undef) (.cells #[i (Usg.part en (N : Int) (kk : Int))] 3) (by kernel_rfl) (by kernel_rfl) (by decide) ?_ ?_ ?_ ?_
      · exact Reg4.in_of (n := 81) (by kernel_rfl) rfl
      · intro j o hj ho a hop w' hw
        have hj' : j = 0 ∨ j = 1 ∨ j = 2 ∨ j = 3 ∨ j = 4 ∨ j = 5 ∨ j = 6 ∨ j = 7 ∨ j = 8 ∨ j = 9 ∨ j = 10 ∨ j = 11 ∨ j = 12 := by omega
        rcases hj' with rfl | rfl | rfl | rfl | rfl | rfl | rfl | rfl | rfl | rfl | rfl | rfl | rfl
        all_goals
          obtain rfl := Option.some.inj ho
          clear ho hj
        · have h7 : a.tmps[7]?.getD undef = (.slice Av nv cv) := (Array.getD_eq_getD_getElem? ..).symm.trans (hop 7 (by simp [Op.operands]))
          rcases hw with rfl | rfl
          all_goals go_simp
        · have h10 : a.tmps[10]?.getD undef = (i en) := (Array.getD_eq_getD_getElem? ..).symm.trans (hop 10 (by simp [Op.operands]))
          rcases hw with rfl | rfl
          all_goals go_simp
        · have h11 : a.tmps[11]?.getD undef = (i (kk : Int)) := (Array.getD_eq_getD_getElem? ..).symm.trans (hop 11 (by simp [Op.operands]))
          rcases hw with rfl | rfl
          all_goals go_simp
        · have h67 : a.tmps[67]?.getD undef = (i (kk : Int)) := (Array.getD_eq_getD_getElem? ..).symm.trans (hop 67 (by simp [Op.operands]))
          rcases hw with rfl | rfl
          all_goals go_simp
        · have h66 : a.tmps[66]?.getD undef = (i en) := (Array.getD_eq_getD_getElem? ..).symm.trans (hop 66 (by simp [Op.operands]))
          have h68 : a.tmps[68]?.getD undef = (i ((kk : Int) + 1)) := (Array.getD_eq_getD_getElem? ..).symm.trans (hop 68 (by simp [Op.operands]))
          rcases hw with rfl | rfl
          all_goals go_simp
        · have h9 : a.tmps[9]?.getD undef = (.int .i64 (N : Int)) := (Array.getD_eq_getD_getElem? ..).symm.trans (hop 9 (by simp [Op.operands]))
          rcases hw with rfl | rfl
          all_goals go_simp
        · have h69 : a.tmps[69]?.getD undef = (i (en * ((kk : Int) + 1))) := (Array.getD_eq_getD_getElem? ..).symm.trans (hop 69 (by simp [Op.operands]))
          have h70 : a.tmps[70]?.getD undef = (.int .i64 (N : Int)) := (Array.getD_eq_getD_getElem? ..).symm.trans (hop 70 (by simp [Op.operands]))
          rcases hw with rfl | rfl
          all_goals go_simp
        · have h10 : a.tmps[10]?.getD undef = (i en) := (Array.getD_eq_getD_getElem? ..).symm.trans (hop 10 (by simp [Op.operands]))
          rcases hw with rfl | rfl
          all_goals go_simp
        · have h11 : a.tmps[11]?.getD undef = (i (kk : Int)) := (Array.getD_eq_getD_getElem? ..).symm.trans (hop 11 (by simp [Op.operands]))
          rcases hw with rfl | rfl
          all_goals go_simp
        · have h72 : a.tmps[72]?.getD undef = (i en) := (Array.getD_eq_getD_getElem? ..).symm.trans (hop 72 (by simp [Op.operands]))
          have h73 : a.tmps[73]?.getD undef = (i (kk : Int)) := (Array.getD_eq_getD_getElem? ..).symm.trans (hop 73 (by simp [Op.operands]))
          rcases hw with rfl | rfl
          all_goals go_simp
        · have h9 : a.tmps[9]?.getD undef = (.int .i64 (N : Int)) := (Array.getD_eq_getD_getElem? ..).symm.trans (hop 9 (by simp [Op.operands]))
          rcases hw with rfl | rfl
          all_goals go_simp
        · have h74 : a.tmps[74]?.getD undef = (i (en * (kk : Int))) := (Array.getD_eq_getD_getElem? ..).symm.trans (hop 74 (by simp [Op.operands]))
          have h75 : a.tmps[75]?.getD undef = (.int .i64 (N : Int)) := (Array.getD_eq_getD_getElem? ..).symm.trans (hop 75 (by simp [Op.operands]))
          rcases hw with rfl | rfl
          all_goals go_simp
        · have h71 : a.tmps[71]?.getD undef = (i q1) := (Array.getD_eq_getD_getElem? ..).symm.trans (hop 71 (by simp [Op.operands]))
          have h76 : a.tmps[76]?.getD undef = (i q2) := (Array.getD_eq_getD_getElem? ..).symm.trans (hop 76 (by simp [Op.operands]))
          rcases hw with rfl | rfl
          all_goals go_simp
      · intro o ho a hop
        obtain rfl := Option.some.inj ho
        have h77 : a.tmps[77]?.getD undef = (i (Usg.part en (N : Int) (kk : Int))) := (Array.getD_eq_getD_getElem? ..).symm.trans (hop 77 (by simp [Op.operands]))
        go_simp
      · simp only [Reg4.puts, Reg4.dstOf, List.range, List.range.loop, if_true, List.drop_succ_cons, List.drop_zero]
        clear t1 t2 w1' w2' w3' w4' w5' hpe hN0
        simp only [List.getElem?_toArray, List.getElem?_cons_zero, List.getElem?_cons_succ, Option.bind_some, Act.put, List.setIfInBounds_toArray, List.set_cons_succ, List.set_cons_zero]
        refine wpList_grow (w := wr.drew.alloc (.cells #[i (Usg.part en (N : Int) (kk : Int))] 3)) rfl (.tmp 65) (.tmp 78) 90 rfl i0 _ 8 Tryz.underlying90 hi0 hz0 hz1 hz2 rfl (by omega) rfl HO1.out wr.heap.size (Usg.part en (N : Int) (kk : Int)) _ 3 rfl (Blk.new wr.drew _ _) rfl HRR.out (one_i _ _ HRR.out) HLEN.out (by omega) HBA.out.size ?_
        rintro v' w3 hown2 - hbel2 ⟨A3, n3, c3, rfl⟩
        have HO2 : Hid (MonW.OwnN w.heap.size w3 (.slice A3 n3 c3) (soFar l m p en N (kk + 1))) := by
          show MonW.OwnN _ _ _ _
          rw [HMT.out]; exact hown2
        have HB3 : Hid (Below w.heap.size w w3) := HBA.out.trans hbel2
        clear hown2 hbel2 HO1 HBA
        go_wp2_with fail
        go_roundg (N - (kk + 1))
        case measure => omega
        case rel => exact ⟨kk + 1, _, _, _, by omega, by omega, rfl, by go_num, HO2, HB3⟩

set_option maxRecDepth 100000 in
set_option maxHeartbeats 2000000 in
theorem ruses (v : Value) (l : List Rdg) (m : Int) (w : World) (h : RdgsAt w v l) : Calls Tryz.prog 50 #[v, i m] w (UsePost l m w) := by
  obtain ⟨A, c, rfl, h1, h2⟩ := SliceAt.form h
  have HM := Lib.hid (rminutes (.slice A l.length c) l m w h)
  have HL := Lib.hid (minV_len l m)
  have HB := Lib.hid (minV_bd l m)
  obtain ⟨i0, hi0, hz0, hz1, hz2⟩ := info_parts infoUse
  clear h
  have HU : Hid (∀ (w' : World) (u : Value), UsesAt w' u ((minV l m).map useOf) → minE l m = 0 → Below w.heap.size w w' → UsePost l m w (.returned (.tuple #[u, i 0])) w') := fun w' u h1 h2 h3 => ⟨u, by rw [h2], h1, h3⟩
  have HN : Hid (∀ (w' : World), minE l m ≠ 0 → Below w.heap.size w w' → UsePost l m w (.returned (.tuple #[.slice none 0 0, i (minE l m)])) w') := fun w' h2 h3 => UsePost.no rfl h2 h3
  unfold MinPost at HM
  generalize hxs : minV l m = xs at *
  generalize hE : minE l m = E at *
  go_enter Tryz.func50, Tryz.ntmps50
  go_wp2_with fail
  refine HM.out.mono ?_
  rintro e w1 ⟨u, rfl, hu, hb1⟩
  obtain ⟨A1, c1, rfl, h3, h4⟩ := SliceAt.form hu
  unfold maxLen at h4
  have HX := Lib.hid hu
  have HB1 := Lib.hid hb1
  clear hu hb1
  by_cases h0 : E = 0
  case neg =>
    have hz : (E != 0) = true := by simpa using h0
    go_wp2_with fail
    go_ret2
    exact HN.out _ h0 HB1.out
  subst h0
  have hl := HL.out
  go_wp2_with fail
  go_loopg [8, 9] xs.length (fun gg s8 s9 wr => ∃ (kk : Nat) (A1 : Option Addr) (n1 c1 : Nat), kk ≤ xs.length ∧ xs.length - kk ≤ gg ∧ s8 = .slice A1 n1 c1 ∧ s9 = i kk ∧ Hid (OwnU w1.heap.size wr (.slice A1 n1 c1) (uTo xs kk)) ∧ Hid (Below w1.heap.size w1 wr))
  case atStart => exact ⟨0, _, _, _, Nat.zero_le _, by omega, rfl, rfl, Own.nil, Below.refl _ _⟩
  case round =>
    obtain ⟨kk, Av, nv, cv, hkk, hg, rfl, rfl, HO, BW⟩ := hrel
    by_cases hlt : kk < xs.length
    case neg =>
      have hltz : ¬ (kk : Int) < (xs.length : Int) := by omega
      have hke : kk = xs.length := by omega
      subst hke
      rw [uTo_all] at HO
      go_wp2_with fail
      go_ret2
      exact HU.out _ _ (HO.out.at_ (by omega)) (by first | rfl | trivial) (below_call HB1.out BW.out)
    have hltz : (kk : Int) < (xs.length : Int) := by omega
    have hkz : (0 : Int) ≤ (kk : Int) := by omega
    obtain ⟨b, off, rfl, _, _, hrow⟩ := MonW.IntsAt.at_ HX.out hlt
    have l1 := hrow wr (Kept.of BW.out)
    have HKP := fun W (hk : Kept w1 W) => hrow W hk
    have l2 := hrow (wr.alloc (.cells #[i xs[kk], .bool (xs[kk] == 0)] 133)) (Kept.of (below_alloc BW.out _))
    clear hrow HKP
    have HMT := Lib.hid (uTo_succ hlt)
    have hbd := HB.out xs[kk] (List.getElem_mem hlt)
    have HRR : Hid (UseR (#[i xs[kk], .bool (xs[kk] == 0)] : Array Value).toList (useOf xs[kk])) := ⟨rfl, by constructor <;> show _ <;> simp [useOf] <;> omega⟩
    generalize xs[kk] = y at *
    have HO1 : Hid (OwnU w1.heap.size (wr.drew.alloc (.cells #[i y, .bool (y == 0)] 133)) (.slice Av nv cv) (uTo xs kk)) := Own.call (show OwnU w1.heap.size wr.drew (.slice Av nv cv) (uTo xs kk) from HO.out) (below_new wr.drew _)
    have HBA : Hid (Below w1.heap.size w1 (wr.drew.alloc (.cells #[i y, .bool (y == 0)] 133))) := below_alloc (Below.drew BW.out) _
    have HLEN := Lib.hid (uTo_len (xs := xs) (k := kk) HL.out)
    go_upto_region 8 with (fail)
    refine Reg6P.made 12 (fun k => match k with | 0 => (.slice Av nv cv) | 1 => (.slice (some ⟨b, off, none⟩) xs.length c1) | 2 => (i (kk : Int)) | 3 => (.pointer (some ⟨b, off + kk, none⟩)) | 4 => (i y) | 5 => (.slice (some ⟨b, off, none⟩) xs.length c1) | 6 => (i (kk : Int)) | 7 => (.pointer (some ⟨b, off + kk, none⟩)) | 8 => (i y) | 9 => (.bool (y == 0)) | 10 => (.agg #[i y, .bool (y == 0)]) | 11 => (.slice (some ⟨wr.heap.size, 0, none⟩) 1 1) | _ => undef) (.cells #[i y, .bool (y == 0)] 133) (by kernel_rfl) (by kernel_rfl) (by decide) ?_ ?_ ?_ ?_
    · exact Reg4.in_of (n := 39) (by kernel_rfl) rfl
    · intro j o hj ho a hop w' hw
      have hj' : j = 0 ∨ j = 1 ∨ j = 2 ∨ j = 3 ∨ j = 4 ∨ j = 5 ∨ j = 6 ∨ j = 7 ∨ j = 8 ∨ j = 9 ∨ j = 10 := by omega
      rcases hj' with rfl | rfl | rfl | rfl | rfl | rfl | rfl | rfl | rfl | rfl | rfl
      all_goals
        obtain rfl := Option.some.inj ho
        clear ho hj
      · have h8 : a.tmps[8]?.getD undef = (.slice Av nv cv) := (Array.getD_eq_getD_getElem? ..).symm.trans (hop 8 (by simp [Op.operands]))
        rcases hw with rfl | rfl
        all_goals go_simp
      · have h6 : a.tmps[6]?.getD undef = (.slice (some ⟨b, off, none⟩) xs.length c1) := (Array.getD_eq_getD_getElem? ..).symm.trans (hop 6 (by simp [Op.operands]))
        rcases hw with rfl | rfl
        all_goals go_simp
      · have h9 : a.tmps[9]?.getD undef = (i (kk : Int)) := (Array.getD_eq_getD_getElem? ..).symm.trans (hop 9 (by simp [Op.operands]))
        rcases hw with rfl | rfl
        all_goals go_simp
      · have h26 : a.tmps[26]?.getD undef = (.slice (some ⟨b, off, none⟩) xs.length c1) := (Array.getD_eq_getD_getElem? ..).symm.trans (hop 26 (by simp [Op.operands]))
        have h27 : a.tmps[27]?.getD undef = (i (kk : Int)) := (Array.getD_eq_getD_getElem? ..).symm.trans (hop 27 (by simp [Op.operands]))
        rcases hw with rfl | rfl
        all_goals go_simp
        all_goals (try (intro hx; exfalso; omega))
      · have h28 : a.tmps[28]?.getD undef = (.pointer (some ⟨b, off + kk, none⟩)) := (Array.getD_eq_getD_getElem? ..).symm.trans (hop 28 (by simp [Op.operands]))
        rcases hw with rfl | rfl
        all_goals go_simp
      · have h6 : a.tmps[6]?.getD undef = (.slice (some ⟨b, off, none⟩) xs.length c1) := (Array.getD_eq_getD_getElem? ..).symm.trans (hop 6 (by simp [Op.operands]))
        rcases hw with rfl | rfl
        all_goals go_simp
      · have h9 : a.tmps[9]?.getD undef = (i (kk : Int)) := (Array.getD_eq_getD_getElem? ..).symm.trans (hop 9 (by simp [Op.operands]))
        rcases hw with rfl | rfl
        all_goals go_simp
      · have h30 : a.tmps[30]?.getD undef = (.slice (some ⟨b, off, none⟩) xs.length c1) := (Array.getD_eq_getD_getElem? ..).symm.trans (hop 30 (by simp [Op.operands]))
        have h31 : a.tmps[31]?.getD undef = (i (kk : Int)) := (Array.getD_eq_getD_getElem? ..).symm.trans (hop 31 (by simp [Op.operands]))
        rcases hw with rfl | rfl
        all_goals go_simp
        all_goals (try (intro hx; exfalso; omega))
      · have h32 : a.tmps[32]?.getD undef = (.pointer (some ⟨b, off + kk, none⟩)) := (Array.getD_eq_getD_getElem? ..).symm.trans (hop 32 (by simp [Op.operands]))
        rcases hw with rfl | rfl
        all_goals go_simp
      · have h33 : a.tmps[33]?.getD undef = (i y) := (Array.getD_eq_getD_getElem? ..).symm.trans (hop 33 (by simp [Op.operands]))
        rcases hw with rfl | rfl
        all_goals go_simp
      · have h29 : a.tmps[29]?.getD undef = (i y) := (Array.getD_eq_getD_getElem? ..).symm.trans (hop 29 (by simp [Op.operands]))
        have h34 : a.tmps[34]?.getD undef = (.bool (y == 0)) := (Array.getD_eq_getD_getElem? ..).symm.trans (hop 34 (by simp [Op.operands]))
        rcases hw with rfl | rfl
        all_goals go_simp
    · intro o ho a hop
      obtain rfl := Option.some.inj ho
      have h35 : a.tmps[35]?.getD undef = (.agg #[i y, .bool (y == 0)]) := (Array.getD_eq_getD_getElem? ..).symm.trans (hop 35 (by simp [Op.operands]))
      go_simp
    · simp only [Reg4.puts, Reg4.dstOf, List.range, List.range.loop, if_true, List.drop_succ_cons, List.drop_zero]
      clear l1 l2
      simp only [List.getElem?_toArray, List.getElem?_cons_zero, List.getElem?_cons_succ, Option.bind_some, Act.put, List.setIfInBounds_toArray, List.set_cons_succ, List.set_cons_zero]
      refine wpList_grow (w := wr.drew.alloc (.cells #[i y, .bool (y == 0)] 133)) rfl (.tmp 25) (.tmp 36) 94 rfl i0 _ 16 Tryz.underlying94 hi0 hz0 hz1 hz2 rfl (by omega) rfl HO1.out wr.heap.size (useOf y) _ 133 rfl (Blk.new wr.drew _ _) rfl HRR.out (one_use _ _ HRR.out) HLEN.out (by omega) HBA.out.size ?_
      rintro v' w3 hown2 hgr2 hbel2 ⟨A3, n3, c3, rfl⟩
      have HO2 : Hid (OwnU w1.heap.size w3 (.slice A3 n3 c3) (uTo xs (kk + 1))) := by
        show OwnU _ _ _ _
        rw [HMT.out]; exact hown2
      have HB3 : Hid (Below w1.heap.size w1 w3) := HBA.out.trans hbel2
      clear hown2 hbel2 HO1 HBA
      go_wp2_with fail
      go_roundg (xs.length - (kk + 1))
      case measure => omega
      case rel => exact ⟨kk + 1, _, _, _, by omega, by omega, rfl, by go_num, HO2, HB3⟩
end UsgW
end Go.Proofs.YtpmcdjpfolgpiaaGreatDoor
