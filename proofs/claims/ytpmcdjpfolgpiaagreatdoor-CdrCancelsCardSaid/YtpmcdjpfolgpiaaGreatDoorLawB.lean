/-
  The walk of small (cases of the cdr laws).
-/
import Derived.Test.YtpmcdjpfolgpiaaGreatDoorExA
import Derived.BigQuiet
namespace Go.Proofs.YtpmcdjpfolgpiaaGreatDoor
namespace Ex
set_option linter.unusedSimpArgs false
set_option linter.unusedVariables false
open Go.RowKit TarW Usg UsgW Prc PriW Cdr MonW CdrW EncW

def BoolPost (w : World) (e : Ending) (w' : World) : Prop := ∃ b : Bool, e = .returned (.bool b) ∧ Below w.heap.size w w'
theorem BoolPost.mk {b : Bool} {w w' : World} (h : Below w.heap.size w w') : BoolPost w (.returned (.bool b)) w' := ⟨b, rfl, h⟩

set_option maxRecDepth 100000 in
set_option maxHeartbeats 4000000 in
theorem small (id op pr : ByteArray) (r : Rec) (A : Option Addr) (n k : Nat) (t : Trf) (A' : Option Addr) (n' k' : Nat) (z : Int) (s : Bool) (m : Int) (w : World) (hR : RdgsAt w (.slice A n k) r.rds) (hE : ElemsAt w (.slice A' n' k') t.els) :
    Calls Tryz.prog 12 #[.agg (caseA id op pr r (.slice A n k) t (.slice A' n' k') z s m)] w (BoolPost w) := by
  obtain ⟨hn, hnk, hkm⟩ := SliceAt.len hR
  subst hn
  obtain ⟨hn2, hnk2, hkm2⟩ := SliceAt.len hE
  subst hn2
  unfold maxLen at hkm hkm2
  have HB := Lib.hid (below_new w (.cells (caseA id op pr r (.slice A r.rds.length k) t (.slice A' t.els.length k') z s m) 40))
  have hk := Blk.new w 40 (caseA id op pr r (.slice A r.rds.length k) t (.slice A' t.els.length k') z s m)
  have q9 := hk.cell 9
  have q19 := hk.cell 19
  have HR := Lib.hid hR
  have HE := Lib.hid hE
  clear hk hR hE
  go_enter Tryz.func12, Tryz.ntmps12
  go_upto_region 1 with (fail)
  generalize w.alloc (.cells (caseA id op pr r (.slice A r.rds.length k) t (.slice A' t.els.length k') z s m) 40) = w1 at *
  simp at q9 q19
  by_cases hl : 20 < t.els.length
  · have hlz : (20 : Int) < (t.els.length : Int) := by omega
    go_wp2_with fail
    go_ret
    exact BoolPost.mk HB.out
  have hlz : ¬ (20 : Int) < (t.els.length : Int) := by omega
  by_cases hu : 40 < r.rds.length
  · have huz : (40 : Int) < (r.rds.length : Int) := by omega
    go_wp2_with fail
    go_ret
    exact BoolPost.mk HB.out
  have huz : ¬ (40 : Int) < (r.rds.length : Int) := by omega
  go_wp2_with fail
  go_loopg [21] t.els.length (fun gg s21 wr => ∃ kk : Nat, kk ≤ t.els.length ∧ t.els.length - kk ≤ gg ∧ s21 = i kk ∧ Hid (wr = w1))
  case atStart => exact ⟨0, Nat.zero_le _, by omega, rfl, rfl⟩
  case round =>
    obtain ⟨kk, hkk, hg, rfl, HW⟩ := hrel
    have hw := HW.out
    clear HW
    subst hw
    by_cases hlt : kk < t.els.length
    · have hltz : (kk : Int) < (t.els.length : Int) := by omega
      have hkz : (0 : Int) ≤ (kk : Int) := by omega
      obtain ⟨b, off, u1, rfl, _, hu1, hrow⟩ := ElemsAt.at_ HE.out hlt
      obtain ⟨l0, -⟩ := hrow wr (Kept.of HB.out)
      clear hrow
      obtain ⟨A2, c2, rfl, h5, h6⟩ := SliceAt.form hu1
      clear hu1
      by_cases h8 : 8 < t.els[kk].cs.length
      · have h8z : (8 : Int) < (t.els[kk].cs.length : Int) := by omega
        generalize t.els[kk] = y at *
        go_wp2_with fail
        go_ret
        exact BoolPost.mk HB.out
      · have h8z : ¬ (8 : Int) < (t.els[kk].cs.length : Int) := by omega
        generalize t.els[kk] = y at *
        go_wp2_with fail
        go_roundg (t.els.length - (kk + 1))
        case measure => omega
        case rel => exact ⟨kk + 1, by omega, by omega, by go_num, rfl⟩
    · have hltz : ¬ (kk : Int) < (t.els.length : Int) := by omega
      rcases Nat.eq_zero_or_pos r.rds.length with h0 | h0
      · have h0z : decide ((0 : Int) < (r.rds.length : Int)) = false := decide_eq_false (by omega)
        have h0y : decide (0 < r.rds.length) = false := decide_eq_false (by omega)
        clear h0
        go_wp2_with fail
        go_quiet (fail)
        go_wp2_with fail
        go_ret
        exact BoolPost.mk (below_drewN' HB.out _)
      · have h0z : (0 : Int) < (r.rds.length : Int) := by omega
        have h0x : decide ((0 : Int) < (r.rds.length : Int)) = true := decide_eq_true (by omega)
        have h0y : decide (0 < r.rds.length) = true := decide_eq_true (by omega)
        obtain ⟨j, hj⟩ : ∃ j, r.rds.length = j + 1 := ⟨r.rds.length - 1, by omega⟩
        have hjl : j < r.rds.length := by omega
        have hjz : (r.rds.length : Int) - 1 = (j : Int) := by omega
        have hjlz : (j : Int) < (r.rds.length : Int) := by omega
        have hjw : IntKind.i64.wrap (j : Int) = (j : Int) := IntWalk.i64_in _ (by omega)
        have hj0 : (0 : Int) ≤ (j : Int) := by omega
        obtain ⟨b, off, rfl, _, _, _, hrow⟩ := RdgsAt.at_ HR.out hjl
        have lj := (hrow wr (Kept.of HB.out)).1
        obtain ⟨b', off', hA', _, _, _, hrow0⟩ := RdgsAt.at_ HR.out h0
        obtain ⟨rfl, rfl⟩ : b = b' ∧ off = off' := by simpa using hA'
        have l0 : wr.cell? ⟨b, off, none⟩ = some (i r.rds[0].at_) := by simpa using (hrow0 wr (Kept.of HB.out)).1
        clear hrow hrow0 hA' hj
        generalize r.rds[j].at_ = aj at *
        generalize r.rds[0].at_ = a0 at *
        obtain ⟨d, hd⟩ : ∃ d, IntKind.i64.wrap (aj - a0) = d := ⟨_, rfl⟩
        by_cases g1 : 0 ≤ a0
        case neg =>
          have g1z : decide (0 ≤ a0) = false := decide_eq_false g1
          clear hd
          go_wp2_with fail
          go_quiet (fail)
          go_wp2_with fail
          go_ret
          exact BoolPost.mk (below_drewN' HB.out _)
        have g1z : decide (0 ≤ a0) = true := decide_eq_true g1
        by_cases g2 : aj ≤ 268435456
        case neg =>
          have g2z : decide (aj ≤ 268435456) = false := decide_eq_false g2
          clear hd
          go_wp2_with fail
          go_quiet (fail)
          go_wp2_with fail
          go_ret
          exact BoolPost.mk (below_drewN' HB.out _)
        have g2z : decide (aj ≤ 268435456) = true := decide_eq_true g2
        by_cases g3 : 3000 < d
        · go_wp2_with fail
          go_quiet (fail)
          go_wp2_with fail
          go_ret
          exact BoolPost.mk (below_drewN' HB.out _)
        · go_wp2_with fail
          go_quiet (fail)
          go_wp2_with fail
          go_ret
          exact BoolPost.mk (below_drewN' HB.out _)
end Ex
end Go.Proofs.YtpmcdjpfolgpiaaGreatDoor
