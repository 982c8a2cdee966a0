/-
  The walk of usage.neighbours: the readings that have one behind them, each with the next one.
-/
import Derived.Test.YtpmcdjpfolgpiaaGreatDoorUsgW
import Derived.Test.YtpmcdjpfolgpiaaGreatDoorReg5
import Derived.RangeFuncNested
import Derived.RangeFuncBound
import Derived.RangeFuncLeaves
import Derived.RangeFuncBox
import Derived.Shelf.Abstract
import Derived.WalkKit
import Derived.OwnWalkIn
import Derived.TacticsInMore
import Derived.LoopNIn
import Derived.LoopIn
namespace Go.Proofs.YtpmcdjpfolgpiaaGreatDoor
namespace UsgW
set_option linter.unusedSimpArgs false
set_option linter.unusedVariables false
open Go.RowKit CalW TarW Usg
attribute [local go_sem] Oper.semAt_some

/-- A reading that has one behind it. -/
abbrev Nb (l : List Rdg) := { k : Nat // k + 1 < l.length }
abbrev rdgV (x : Rdg) : Value := .agg #[i x.at_, i x.reg]
abbrev nbV (l : List Rdg) (x : Nb l) : Array Value := #[rdgV (l[x.1]'(by have := x.2; omega)), rdgV (l[x.1 + 1]'x.2)]
/-- What a round that goes on keeps: what lay below n₀, and the iterator's box. -/
def KpN (n₀ Bs : Nat) (W W' : World) : Prop := Below n₀ W W' ∧ W'.heap[Bs]? = W.heap[Bs]?
theorem KpN.trans {n₀ Bs : Nat} {A B C : World} (h : KpN n₀ Bs A B) (k : KpN n₀ Bs B C) : KpN n₀ Bs A C := ⟨h.1.trans k.1, k.2.trans h.2⟩
theorem KpN.refl (n₀ Bs : Nat) (W : World) : KpN n₀ Bs W W := ⟨Below.refl _ _, rfl⟩
theorem KpN.cell {n₀ Bs : Nat} {A B : World} (h : KpN n₀ Bs A B) (o : Nat) : B.cell? ⟨Bs, o, none⟩ = A.cell? ⟨Bs, o, none⟩ := by unfold World.cell?; simp only [h.2]
def keys {l : List Rdg} (pre : List (Nb l)) : List Nat := pre.map (·.1)

set_option maxRecDepth 100000 in
set_option maxHeartbeats 2000000 in
theorem nb1 (F : Fence) (n : Nat) (hf : F.fn 142) (hro : F.round = none) (hn : 1 ≤ n) (l' Bs n₀ b off c : Nat) (l : List Rdg) (hlen : l.length ≤ 1024) (J Jx : List (Nb l) → World → Prop)
    (hY : ∀ pre x W, J pre W → pre.length < l.length → YieldAt F (n - 1) Tryz.prog l' (nbV l x) W fun e W' =>
      (e = .returned (.bool true) ∧ J (pre ++ [x]) W' ∧ KpN n₀ Bs W W') ∨ (e = .returned (.bool false) ∧ Jx (pre ++ [x]) W'))
    (W : World) (hb0 : b < n₀) (hBs : W.cell? ⟨Bs, 0, none⟩ = some (.slice (some ⟨b, off, none⟩) l.length c))
    (hR : ∀ j (hj : j < l.length), W.cell? ⟨b, off + j * 2, none⟩ = some (i l[j].at_) ∧ W.cell? ⟨b, off + j * 2 + 1, none⟩ = some (i l[j].reg)) (h0 : J [] W) (hJd : ∀ pre W, J pre W → J pre W.drew) (hl0 : 0 < l.length) :
    CallsIn F n Tryz.prog 142 #[.func (.yield l') #[] #[], .pointer (some ⟨Bs, 0, none⟩)] W fun e W' => (∃ v, e = .returned v) ∧
      ((∃ ys, keys ys = List.range (l.length - 1) ∧ J ys W') ∨ (∃ pre, True ∧ Jx pre W')) := by
  refine callsIn_of_wp Tryz.func142 rfl hf ?_ hro
  simp only [Tryz.ntmps142, List.size_toArray, List.length_cons, List.length_nil, Nat.reduceAdd, Nat.reduceSub, Array.replicate_succ, Array.replicate_zero, List.push_toArray, List.append_toArray, List.nil_append, List.cons_append]
  have HR := Lib.hid hR
  clear hR
  gi_wp2
  gi_loopw [3] (fun s3 wr => ∃ (k : Nat) (pre : List (Nb l)), 1 ≤ k ∧ k ≤ l.length ∧ s3 = i k ∧ Hid (keys pre = List.range (k - 1)) ∧ J pre wr ∧ Hid (KpN n₀ Bs W wr))
    (fun s3 _ => l.length - (intOf s3).toNat)
  case atStart => exact ⟨1, [], by omega, by omega, rfl, rfl, h0, KpN.refl _ _ _⟩
  case round =>
    obtain ⟨k, pre, hk1, hkl, rfl, HK, hJs, HB⟩ := hrel
    have cBs : wr.cell? ⟨Bs, 0, none⟩ = some (.slice (some ⟨b, off, none⟩) l.length c) := (HB.out.cell 0).trans hBs
    by_cases hlt : k < l.length
    · obtain ⟨j, rfl⟩ : ∃ j, k = j + 1 := ⟨k - 1, by omega⟩
      have hpl : pre.length = j := by
        have := congrArg List.length HK.out
        simpa [keys] using this
      have hJ' : pre.length < l.length := by omega
      obtain ⟨fn, tmps, assign, body, hy, hRd⟩ := hY pre ⟨j, hlt⟩ wr.drew (hJd _ _ hJs) hJ'
      dsimp only [nbV] at hy
      have hltz : ((j + 1 : Nat) : Int) < (l.length : Int) := by omega
      have hjz : ((j + 1 : Nat) : Int) - 1 = (j : Int) := by omega
      have hjw : IntKind.i64.wrap (j : Int) = (j : Int) := IntWalk.i64_in _ (by omega)
      obtain ⟨p0, p1⟩ := HR.out j (by omega)
      obtain ⟨y0, y1⟩ := HR.out (j + 1) hlt
      have hk0 := fun (o : Nat) => HB.out.1.cell (p := ⟨b, o, none⟩) hb0
      have q0 := (hk0 _).trans p0
      have q1 := (hk0 _).trans p1
      have z0 := (hk0 _).trans y0
      have z1 := (hk0 _).trans y1
      clear p0 p1 y0 y1 hk0
      generalize l[j] = xa at *
      generalize l[j + 1] = xb at *
      obtain ⟨a0, a1⟩ := xa
      obtain ⟨b0, b1⟩ := xb
      simp only at *
      gi_wp2
      refine Reg5.quiet 10 (fun k => match k with | 0 => (.func (.yield l') #[] #[]) | 1 => (.slice (some ⟨b, off, none⟩) l.length c) | 2 => (i ((j + 1 : Nat) : Int)) | 3 => (i (j : Int)) | 4 => (.pointer (some ⟨b, off + j * 2, none⟩)) | 5 => (.agg #[i a0, i a1]) | 6 => (.slice (some ⟨b, off, none⟩) l.length c) | 7 => (i ((j + 1 : Nat) : Int)) | 8 => (.pointer (some ⟨b, off + (j + 1) * 2, none⟩)) | 9 => (.agg #[i b0, i b1]) | _ => undef) (by kernel_rfl) (by kernel_rfl) (by kernel_rfl) ?_ ?_ ?_
      · exact Reg4.in_of (n := 22) (by kernel_rfl) rfl
      · intro j o hj ho a hop
        have hj' : j = 0 ∨ j = 1 ∨ j = 2 ∨ j = 3 ∨ j = 4 ∨ j = 5 ∨ j = 6 ∨ j = 7 ∨ j = 8 ∨ j = 9 := by omega
        rcases hj' with rfl | rfl | rfl | rfl | rfl | rfl | rfl | rfl | rfl | rfl
        all_goals
          obtain rfl := Option.some.inj ho
          clear ho hj
        · have h0 : a.tmps[0]?.getD undef = (.func (.yield l') #[] #[]) := (Array.getD_eq_getD_getElem? ..).symm.trans (hop 0 (by simp [Op.operands]))
          go_simp
        · have h1 : a.tmps[1]?.getD undef = (.pointer (some ⟨Bs, 0, none⟩)) := (Array.getD_eq_getD_getElem? ..).symm.trans (hop 1 (by simp [Op.operands]))
          go_simp
        · have h3 : a.tmps[3]?.getD undef = (i ((j + 1 : Nat) : Int)) := (Array.getD_eq_getD_getElem? ..).symm.trans (hop 3 (by simp [Op.operands]))
          go_simp
        · have h12 : a.tmps[12]?.getD undef = (i ((j + 1 : Nat) : Int)) := (Array.getD_eq_getD_getElem? ..).symm.trans (hop 12 (by simp [Op.operands]))
          go_simp
        · have h11 : a.tmps[11]?.getD undef = (.slice (some ⟨b, off, none⟩) l.length c) := (Array.getD_eq_getD_getElem? ..).symm.trans (hop 11 (by simp [Op.operands]))
          have h13 : a.tmps[13]?.getD undef = (i (j : Int)) := (Array.getD_eq_getD_getElem? ..).symm.trans (hop 13 (by simp [Op.operands]))
          go_simp
          all_goals (try (intro hx; exfalso; omega))
        · have h14 : a.tmps[14]?.getD undef = (.pointer (some ⟨b, off + j * 2, none⟩)) := (Array.getD_eq_getD_getElem? ..).symm.trans (hop 14 (by simp [Op.operands]))
          go_simp
        · have h1 : a.tmps[1]?.getD undef = (.pointer (some ⟨Bs, 0, none⟩)) := (Array.getD_eq_getD_getElem? ..).symm.trans (hop 1 (by simp [Op.operands]))
          go_simp
        · have h3 : a.tmps[3]?.getD undef = (i ((j + 1 : Nat) : Int)) := (Array.getD_eq_getD_getElem? ..).symm.trans (hop 3 (by simp [Op.operands]))
          go_simp
        · have h16 : a.tmps[16]?.getD undef = (.slice (some ⟨b, off, none⟩) l.length c) := (Array.getD_eq_getD_getElem? ..).symm.trans (hop 16 (by simp [Op.operands]))
          have h17 : a.tmps[17]?.getD undef = (i ((j + 1 : Nat) : Int)) := (Array.getD_eq_getD_getElem? ..).symm.trans (hop 17 (by simp [Op.operands]))
          go_simp
          all_goals (try (intro hx; exfalso; omega))
        · have h18 : a.tmps[18]?.getD undef = (.pointer (some ⟨b, off + (j + 1) * 2, none⟩)) := (Array.getD_eq_getD_getElem? ..).symm.trans (hop 18 (by simp [Op.operands]))
          go_simp
      · simp only [Reg4.puts, Reg4.dstOf, List.range, List.range.loop, if_true, List.drop_succ_cons, List.drop_zero]
        gi_wp2
        refine hRd.mono ?_
        rintro e W3 (⟨rfl, hJ3, hk3⟩ | ⟨rfl, hJx3⟩)
        · gi_wp2
          go_roundw
          case rel => exact ⟨j + 2, _, by omega, by omega, by go_num, (by simp only [keys, List.map_append, List.map_cons, List.map_nil]; rw [show j + 2 - 1 = j + 1 by omega, List.range_succ]; exact congrArg (· ++ [j]) HK.out), hJ3, ⟨HB.out.1.trans ((Below.refl n₀ wr).drew.trans hk3.1), hk3.2.trans HB.out.2⟩⟩
          case measure => simp [intOf]; omega
        · gi_wp2
          refine bodyPost_ret (results_none rfl _ _ _) rfl ?_
          exact ⟨⟨_, rfl⟩, .inr ⟨_, trivial, hJx3⟩⟩
    · obtain rfl : k = l.length := by omega
      gi_wp2
      go_end0
      exact ⟨⟨_, rfl⟩, .inl ⟨_, HK.out, hJs⟩⟩

set_option maxHeartbeats 1000000 in
theorem nb (F : Fence) (n : Nat) (hf : F.fn 119) (hro : F.round = none) (A : Option Addr) (len c : Nat) (w : World) :
    CallsIn F n Tryz.prog 119 #[.slice A len c] w fun e w' => e = .returned (.func (.func 142) #[] #[.pointer (some ⟨w.heap.size, 0, none⟩)]) ∧ w' = w.alloc (.cells #[.slice A len c] 29) := by
  refine callsIn_of_wp Tryz.func119 rfl hf ?_ hro
  simp only [Tryz.ntmps119, List.size_toArray, List.length_cons, List.length_nil, Nat.reduceAdd, Nat.reduceSub, Array.replicate_succ, Array.replicate_zero, List.push_toArray, List.append_toArray, List.nil_append, List.cons_append]
  gi_wp2
  go_ret
  exact ⟨rfl, rfl⟩

theorem nb_stops (F : Fence) (n : Nat) (hf : F.fn 142) (hro : F.round = none) (hn : 1 ≤ n) (Bs n₀ b off c : Nat) (l : List Rdg) (hlen : l.length ≤ 1024) (hl0 : 0 < l.length) (w : World) (hBs : Bs < w.heap.size) (hb : b < n₀) (hn₀ : n₀ ≤ w.heap.size)
    (hc : w.cell? ⟨Bs, 0, none⟩ = some (.slice (some ⟨b, off, none⟩) l.length c))
    (hR : ∀ j (hj : j < l.length), w.cell? ⟨b, off + j * 2, none⟩ = some (i l[j].at_) ∧ w.cell? ⟨b, off + j * 2 + 1, none⟩ = some (i l[j].reg)) :
    SeqStopsK F n Tryz.prog 142 #[.pointer (some ⟨Bs, 0, none⟩)] (nbV l) (KpN n₀ Bs) (fun ys => keys ys = List.range (l.length - 1)) (fun _ => True) l.length w := fun l' J Jx W hW hJ _ hY h0 => by
  refine nb1 F n hf hro hn l' Bs n₀ b off c l hlen J Jx hY W hb ((hW.cell (p := ⟨Bs, 0, none⟩) (by show Bs < _; omega)).trans hc) (fun j hj => ?_) h0 (fun pre W' h => ?_) hl0
  · exact ⟨(hW.cell (p := ⟨b, off + j * 2, none⟩) (by show b < _; omega)).trans (hR j hj).1, (hW.cell (p := ⟨b, off + j * 2 + 1, none⟩) (by show b < _; omega)).trans (hR j hj).2⟩
  · exact hJ pre W' W'.drew none h ⟨rfl, rfl, rfl, Nat.le_refl _, fun _ _ _ => rfl⟩ (fun r e => by cases e)
end UsgW
end Go.Proofs.YtpmcdjpfolgpiaaGreatDoor
