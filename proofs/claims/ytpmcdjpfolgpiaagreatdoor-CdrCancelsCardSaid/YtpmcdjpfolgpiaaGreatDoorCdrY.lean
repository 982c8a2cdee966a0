/-
  The walk of cdr.validItem.
-/
import Derived.Test.YtpmcdjpfolgpiaaGreatDoorCdrW
namespace Go.Proofs.YtpmcdjpfolgpiaaGreatDoor
namespace CdrW
set_option linter.unusedSimpArgs false
set_option linter.unusedVariables false
open Go.RowKit CalW TarW

/-- A slice of integers made in place. -/
theorem ints1 (w : World) (x : Int) (t : TypeId) {n : Nat} (hn : n = w.heap.size) : IntsAt (w.alloc (.cells #[i x] t)) (.slice (some ⟨n, 0, none⟩) 1 1) [x] := by
  subst hn
  refine ⟨_, _, rfl, Nat.le_refl _, by unfold maxLen; omega, fun h => (by cases h), fun j y h => ?_⟩
  rcases j with _ | j
  · obtain rfl : x = y := by simpa using h
    refine ⟨w.heap.size, 0, [i x], rfl, rfl, rfl, fun o u ho => ?_⟩
    rcases o with _ | o
    · rw [World.cell?_alloc_new]; simpa using ho
    · simp at ho
  · simp at h
theorem ints3 (w : World) (x y z : Int) (t : TypeId) {n : Nat} (hn : n = w.heap.size) : IntsAt (w.alloc (.cells #[i x, i y, i z] t)) (.slice (some ⟨n, 0, none⟩) 3 3) [x, y, z] := by
  subst hn
  refine ⟨_, _, rfl, Nat.le_refl _, by unfold maxLen; omega, fun h => (by cases h), fun j v h => ?_⟩
  rcases j with _ | _ | _ | j
  · obtain rfl : x = v := by simpa using h
    refine ⟨w.heap.size, 0, [i x], rfl, rfl, rfl, fun o u ho => ?_⟩
    rcases o with _ | o
    · rw [World.cell?_alloc_new]; simpa using ho
    · simp at ho
  · obtain rfl : y = v := by simpa using h
    refine ⟨w.heap.size, 0, [i y], rfl, rfl, rfl, fun o u ho => ?_⟩
    rcases o with _ | o
    · rw [World.cell?_alloc_new]; simpa using ho
    · simp at ho
  · obtain rfl : z = v := by simpa using h
    refine ⟨w.heap.size, 0, [i z], rfl, rfl, rfl, fun o u ho => ?_⟩
    rcases o with _ | o
    · rw [World.cell?_alloc_new]; simpa using ho
    · simp at ho
  · simp at h

theorem within_b (lo hi : Int) (v : Value) (xs : List Int) (w : World) (h : IntsAt w v xs) {r : Bool} (hr : Hid (xs.all (fun x => decide (lo ≤ x ∧ x ≤ hi)) = r)) :
    Calls Tryz.prog 23 #[i lo, i hi, v] w fun e w' => e = .returned (.bool r) ∧ Below w.heap.size w w' := within lo hi v xs w h hr.out

theorem sCell {w w' : World} {cs : Array Value} {t : TypeId} (h : Below (w.alloc (.cells cs t)).heap.size (w.alloc (.cells cs t)) w') {o : Nat} {v : Value} (hv : cs[o]? = some v) : w'.cell? ⟨w.heap.size, o, none⟩ = some v := Kept.of h _ _ (by rw [World.cell?_alloc_new]; exact hv)
theorem item_re2 (kd pr tx qt nt vt gr : Int) : itemOk ⟨kd, pr, tx, qt, nt, vt, gr⟩ = ([kd].all (fun x => decide ((1 : Int) ≤ x ∧ x ≤ 4)) && [tx].all (fun x => decide ((0 : Int) ≤ x ∧ x ≤ 10000)) && [nt, vt, pr].all (fun x => decide ((-36028797018963968 : Int) ≤ x ∧ x ≤ 36028797018963968)) && [qt].all (fun x => decide ((0 : Int) ≤ x ∧ x ≤ 36028797018963968)) && decide (gr = nt + vt)) := by
  unfold itemOk
  rw [Bool.eq_iff_iff]
  simp
  omega

set_option maxHeartbeats 2000000 in
set_option maxRecDepth 100000 in
theorem item (kd pr tx qt nt vt gr : Int) (w : World) {r : Bool} (hr : itemOk ⟨kd, pr, tx, qt, nt, vt, gr⟩ = r) :
    Calls Tryz.prog 46 #[.agg #[i kd, i pr, i tx, i qt, i nt, i vt, i gr]] w fun e w' => e = .returned (.bool r) ∧ Below w.heap.size w w' := by
  rw [item_re2] at hr
  obtain ⟨b1, e1⟩ : ∃ b, [kd].all (fun x => decide ((1 : Int) ≤ x ∧ x ≤ 4)) = b := ⟨_, rfl⟩
  obtain ⟨b2, e2⟩ : ∃ b, [tx].all (fun x => decide ((0 : Int) ≤ x ∧ x ≤ 10000)) = b := ⟨_, rfl⟩
  obtain ⟨b3, e3⟩ : ∃ b, [nt, vt, pr].all (fun x => decide ((-36028797018963968 : Int) ≤ x ∧ x ≤ 36028797018963968)) = b := ⟨_, rfl⟩
  obtain ⟨b4, e4⟩ : ∃ b, [qt].all (fun x => decide ((0 : Int) ≤ x ∧ x ≤ 36028797018963968)) = b := ⟨_, rfl⟩
  rw [e1, e2, e3, e4] at hr
  have E1 := Lib.hid e1
  have E2 := Lib.hid e2
  have E3 := Lib.hid e3
  have E4 := Lib.hid e4
  have HR := Lib.hid hr
  clear hr
  cases b1 with
  | false =>
    have HV := Lib.hid (show r = false from HR.out.symm.trans (by simp))
    clear e1 e2 e3 e4
    go_enter Tryz.func46, Tryz.ntmps46
    go_wp2_with fail
    refine (within_b _ _ _ _ _ ?_ E1).mono ?_
    · exact ints1 _ _ _ (by first | rfl | simp)
    rintro r1 w1 ⟨rfl, hb1⟩
    have B1 : Hid (Below (w.alloc (.cells #[i kd, i pr, i tx, i qt, i nt, i vt, i gr] 52)).heap.size (w.alloc (.cells #[i kd, i pr, i tx, i qt, i nt, i vt, i gr] 52)) w1) := (below_alloc (Below.refl _ _) _).trans (hb1.mono (below_alloc (Below.refl _ _) _).size)
    clear hb1
    have c11 := sCell B1.out (o := 1) (v := i pr) rfl
    have c12 := sCell B1.out (o := 2) (v := i tx) rfl
    have c13 := sCell B1.out (o := 3) (v := i qt) rfl
    have c14 := sCell B1.out (o := 4) (v := i nt) rfl
    have c15 := sCell B1.out (o := 5) (v := i vt) rfl
    have c16 := sCell B1.out (o := 6) (v := i gr) rfl
    go_wp2_with fail
    go_ret
    exact ⟨by rw [HV.out]; rfl, (below_alloc (Below.refl w.heap.size w) _).trans (B1.out.mono (by simp))⟩
  | true =>
    cases b2 with
    | false =>
      have HV := Lib.hid (show r = false from HR.out.symm.trans (by simp))
      clear e1 e2 e3 e4
      go_enter Tryz.func46, Tryz.ntmps46
      go_wp2_with fail
      refine (within_b _ _ _ _ _ ?_ E1).mono ?_
      · exact ints1 _ _ _ (by first | rfl | simp)
      rintro r1 w1 ⟨rfl, hb1⟩
      have B1 : Hid (Below (w.alloc (.cells #[i kd, i pr, i tx, i qt, i nt, i vt, i gr] 52)).heap.size (w.alloc (.cells #[i kd, i pr, i tx, i qt, i nt, i vt, i gr] 52)) w1) := (below_alloc (Below.refl _ _) _).trans (hb1.mono (below_alloc (Below.refl _ _) _).size)
      clear hb1
      have c11 := sCell B1.out (o := 1) (v := i pr) rfl
      have c12 := sCell B1.out (o := 2) (v := i tx) rfl
      have c13 := sCell B1.out (o := 3) (v := i qt) rfl
      have c14 := sCell B1.out (o := 4) (v := i nt) rfl
      have c15 := sCell B1.out (o := 5) (v := i vt) rfl
      have c16 := sCell B1.out (o := 6) (v := i gr) rfl
      go_wp2_with fail
      refine (within_b _ _ _ _ _ ?_ E2).mono ?_
      · exact ints1 _ _ _ (by first | rfl | simp)
      rintro r2 w2 ⟨rfl, hb2⟩
      have B2 : Hid (Below (w.alloc (.cells #[i kd, i pr, i tx, i qt, i nt, i vt, i gr] 52)).heap.size (w.alloc (.cells #[i kd, i pr, i tx, i qt, i nt, i vt, i gr] 52)) w2) := (below_alloc B1.out _).trans (hb2.mono (below_alloc B1.out _).size)
      clear hb2
      have c21 := sCell B2.out (o := 1) (v := i pr) rfl
      have c22 := sCell B2.out (o := 2) (v := i tx) rfl
      have c23 := sCell B2.out (o := 3) (v := i qt) rfl
      have c24 := sCell B2.out (o := 4) (v := i nt) rfl
      have c25 := sCell B2.out (o := 5) (v := i vt) rfl
      have c26 := sCell B2.out (o := 6) (v := i gr) rfl
      go_wp2_with fail
      go_ret
      exact ⟨by rw [HV.out]; rfl, (below_alloc (Below.refl w.heap.size w) _).trans (B2.out.mono (by simp))⟩
    | true =>
      cases b3 with
      | false =>
        have HV := Lib.hid (show r = false from HR.out.symm.trans (by simp))
        clear e1 e2 e3 e4
        go_enter Tryz.func46, Tryz.ntmps46
        go_wp2_with fail
        refine (within_b _ _ _ _ _ ?_ E1).mono ?_
        · exact ints1 _ _ _ (by first | rfl | simp)
        rintro r1 w1 ⟨rfl, hb1⟩
        have B1 : Hid (Below (w.alloc (.cells #[i kd, i pr, i tx, i qt, i nt, i vt, i gr] 52)).heap.size (w.alloc (.cells #[i kd, i pr, i tx, i qt, i nt, i vt, i gr] 52)) w1) := (below_alloc (Below.refl _ _) _).trans (hb1.mono (below_alloc (Below.refl _ _) _).size)
        clear hb1
        have c11 := sCell B1.out (o := 1) (v := i pr) rfl
        have c12 := sCell B1.out (o := 2) (v := i tx) rfl
        have c13 := sCell B1.out (o := 3) (v := i qt) rfl
        have c14 := sCell B1.out (o := 4) (v := i nt) rfl
        have c15 := sCell B1.out (o := 5) (v := i vt) rfl
        have c16 := sCell B1.out (o := 6) (v := i gr) rfl
        go_wp2_with fail
        refine (within_b _ _ _ _ _ ?_ E2).mono ?_
        · exact ints1 _ _ _ (by first | rfl | simp)
        rintro r2 w2 ⟨rfl, hb2⟩
        have B2 : Hid (Below (w.alloc (.cells #[i kd, i pr, i tx, i qt, i nt, i vt, i gr] 52)).heap.size (w.alloc (.cells #[i kd, i pr, i tx, i qt, i nt, i vt, i gr] 52)) w2) := (below_alloc B1.out _).trans (hb2.mono (below_alloc B1.out _).size)
        clear hb2
        have c21 := sCell B2.out (o := 1) (v := i pr) rfl
        have c22 := sCell B2.out (o := 2) (v := i tx) rfl
        have c23 := sCell B2.out (o := 3) (v := i qt) rfl
        have c24 := sCell B2.out (o := 4) (v := i nt) rfl
        have c25 := sCell B2.out (o := 5) (v := i vt) rfl
        have c26 := sCell B2.out (o := 6) (v := i gr) rfl
        go_wp2_with fail
        refine (within_b _ _ _ _ _ ?_ E3).mono ?_
        · exact ints3 _ _ _ _ _ (by first | rfl | simp)
        rintro r3 w3 ⟨rfl, hb3⟩
        have B3 : Hid (Below (w.alloc (.cells #[i kd, i pr, i tx, i qt, i nt, i vt, i gr] 52)).heap.size (w.alloc (.cells #[i kd, i pr, i tx, i qt, i nt, i vt, i gr] 52)) w3) := (below_alloc B2.out _).trans (hb3.mono (below_alloc B2.out _).size)
        clear hb3
        have c31 := sCell B3.out (o := 1) (v := i pr) rfl
        have c32 := sCell B3.out (o := 2) (v := i tx) rfl
        have c33 := sCell B3.out (o := 3) (v := i qt) rfl
        have c34 := sCell B3.out (o := 4) (v := i nt) rfl
        have c35 := sCell B3.out (o := 5) (v := i vt) rfl
        have c36 := sCell B3.out (o := 6) (v := i gr) rfl
        go_wp2_with fail
        go_ret
        exact ⟨by rw [HV.out]; rfl, (below_alloc (Below.refl w.heap.size w) _).trans (B3.out.mono (by simp))⟩
      | true =>
        cases b4 with
        | false =>
          have HV := Lib.hid (show r = false from HR.out.symm.trans (by simp))
          clear e1 e2 e3 e4
          go_enter Tryz.func46, Tryz.ntmps46
          go_wp2_with fail
          refine (within_b _ _ _ _ _ ?_ E1).mono ?_
          · exact ints1 _ _ _ (by first | rfl | simp)
          rintro r1 w1 ⟨rfl, hb1⟩
          have B1 : Hid (Below (w.alloc (.cells #[i kd, i pr, i tx, i qt, i nt, i vt, i gr] 52)).heap.size (w.alloc (.cells #[i kd, i pr, i tx, i qt, i nt, i vt, i gr] 52)) w1) := (below_alloc (Below.refl _ _) _).trans (hb1.mono (below_alloc (Below.refl _ _) _).size)
          clear hb1
          have c11 := sCell B1.out (o := 1) (v := i pr) rfl
          have c12 := sCell B1.out (o := 2) (v := i tx) rfl
          have c13 := sCell B1.out (o := 3) (v := i qt) rfl
          have c14 := sCell B1.out (o := 4) (v := i nt) rfl
          have c15 := sCell B1.out (o := 5) (v := i vt) rfl
          have c16 := sCell B1.out (o := 6) (v := i gr) rfl
          go_wp2_with fail
          refine (within_b _ _ _ _ _ ?_ E2).mono ?_
          · exact ints1 _ _ _ (by first | rfl | simp)
          rintro r2 w2 ⟨rfl, hb2⟩
          have B2 : Hid (Below (w.alloc (.cells #[i kd, i pr, i tx, i qt, i nt, i vt, i gr] 52)).heap.size (w.alloc (.cells #[i kd, i pr, i tx, i qt, i nt, i vt, i gr] 52)) w2) := (below_alloc B1.out _).trans (hb2.mono (below_alloc B1.out _).size)
          clear hb2
          have c21 := sCell B2.out (o := 1) (v := i pr) rfl
          have c22 := sCell B2.out (o := 2) (v := i tx) rfl
          have c23 := sCell B2.out (o := 3) (v := i qt) rfl
          have c24 := sCell B2.out (o := 4) (v := i nt) rfl
          have c25 := sCell B2.out (o := 5) (v := i vt) rfl
          have c26 := sCell B2.out (o := 6) (v := i gr) rfl
          go_wp2_with fail
          refine (within_b _ _ _ _ _ ?_ E3).mono ?_
          · exact ints3 _ _ _ _ _ (by first | rfl | simp)
          rintro r3 w3 ⟨rfl, hb3⟩
          have B3 : Hid (Below (w.alloc (.cells #[i kd, i pr, i tx, i qt, i nt, i vt, i gr] 52)).heap.size (w.alloc (.cells #[i kd, i pr, i tx, i qt, i nt, i vt, i gr] 52)) w3) := (below_alloc B2.out _).trans (hb3.mono (below_alloc B2.out _).size)
          clear hb3
          have c31 := sCell B3.out (o := 1) (v := i pr) rfl
          have c32 := sCell B3.out (o := 2) (v := i tx) rfl
          have c33 := sCell B3.out (o := 3) (v := i qt) rfl
          have c34 := sCell B3.out (o := 4) (v := i nt) rfl
          have c35 := sCell B3.out (o := 5) (v := i vt) rfl
          have c36 := sCell B3.out (o := 6) (v := i gr) rfl
          go_wp2_with fail
          refine (within_b _ _ _ _ _ ?_ E4).mono ?_
          · exact ints1 _ _ _ (by first | rfl | simp)
          rintro r4 w4 ⟨rfl, hb4⟩
          have B4 : Hid (Below (w.alloc (.cells #[i kd, i pr, i tx, i qt, i nt, i vt, i gr] 52)).heap.size (w.alloc (.cells #[i kd, i pr, i tx, i qt, i nt, i vt, i gr] 52)) w4) := (below_alloc B3.out _).trans (hb4.mono (below_alloc B3.out _).size)
          clear hb4
          have c41 := sCell B4.out (o := 1) (v := i pr) rfl
          have c42 := sCell B4.out (o := 2) (v := i tx) rfl
          have c43 := sCell B4.out (o := 3) (v := i qt) rfl
          have c44 := sCell B4.out (o := 4) (v := i nt) rfl
          have c45 := sCell B4.out (o := 5) (v := i vt) rfl
          have c46 := sCell B4.out (o := 6) (v := i gr) rfl
          go_wp2_with fail
          go_ret
          exact ⟨by rw [HV.out]; rfl, (below_alloc (Below.refl w.heap.size w) _).trans (B4.out.mono (by simp))⟩
        | true =>
          have a34 : (-36028797018963968 ≤ nt ∧ nt ≤ 36028797018963968) ∧ (-36028797018963968 ≤ vt ∧ vt ≤ 36028797018963968) := by simp at e3; omega
          have hq : (gr == nt + vt) = r := by rw [← HR.out, Bool.eq_iff_iff]; simp
          obtain ⟨⟨a31, a32⟩, a41, a42⟩ := a34
          clear e1 e2 e3 e4
          go_enter Tryz.func46, Tryz.ntmps46
          go_wp2_with fail
          refine (within_b _ _ _ _ _ ?_ E1).mono ?_
          · exact ints1 _ _ _ (by first | rfl | simp)
          rintro r1 w1 ⟨rfl, hb1⟩
          have B1 : Hid (Below (w.alloc (.cells #[i kd, i pr, i tx, i qt, i nt, i vt, i gr] 52)).heap.size (w.alloc (.cells #[i kd, i pr, i tx, i qt, i nt, i vt, i gr] 52)) w1) := (below_alloc (Below.refl _ _) _).trans (hb1.mono (below_alloc (Below.refl _ _) _).size)
          clear hb1
          have c11 := sCell B1.out (o := 1) (v := i pr) rfl
          have c12 := sCell B1.out (o := 2) (v := i tx) rfl
          have c13 := sCell B1.out (o := 3) (v := i qt) rfl
          have c14 := sCell B1.out (o := 4) (v := i nt) rfl
          have c15 := sCell B1.out (o := 5) (v := i vt) rfl
          have c16 := sCell B1.out (o := 6) (v := i gr) rfl
          go_wp2_with fail
          refine (within_b _ _ _ _ _ ?_ E2).mono ?_
          · exact ints1 _ _ _ (by first | rfl | simp)
          rintro r2 w2 ⟨rfl, hb2⟩
          have B2 : Hid (Below (w.alloc (.cells #[i kd, i pr, i tx, i qt, i nt, i vt, i gr] 52)).heap.size (w.alloc (.cells #[i kd, i pr, i tx, i qt, i nt, i vt, i gr] 52)) w2) := (below_alloc B1.out _).trans (hb2.mono (below_alloc B1.out _).size)
          clear hb2
          have c21 := sCell B2.out (o := 1) (v := i pr) rfl
          have c22 := sCell B2.out (o := 2) (v := i tx) rfl
          have c23 := sCell B2.out (o := 3) (v := i qt) rfl
          have c24 := sCell B2.out (o := 4) (v := i nt) rfl
          have c25 := sCell B2.out (o := 5) (v := i vt) rfl
          have c26 := sCell B2.out (o := 6) (v := i gr) rfl
          go_wp2_with fail
          refine (within_b _ _ _ _ _ ?_ E3).mono ?_
          · exact ints3 _ _ _ _ _ (by first | rfl | simp)
          rintro r3 w3 ⟨rfl, hb3⟩
          have B3 : Hid (Below (w.alloc (.cells #[i kd, i pr, i tx, i qt, i nt, i vt, i gr] 52)).heap.size (w.alloc (.cells #[i kd, i pr, i tx, i qt, i nt, i vt, i gr] 52)) w3) := (below_alloc B2.out _).trans (hb3.mono (below_alloc B2.out _).size)
          clear hb3
          have c31 := sCell B3.out (o := 1) (v := i pr) rfl
          have c32 := sCell B3.out (o := 2) (v := i tx) rfl
          have c33 := sCell B3.out (o := 3) (v := i qt) rfl
          have c34 := sCell B3.out (o := 4) (v := i nt) rfl
          have c35 := sCell B3.out (o := 5) (v := i vt) rfl
          have c36 := sCell B3.out (o := 6) (v := i gr) rfl
          go_wp2_with fail
          refine (within_b _ _ _ _ _ ?_ E4).mono ?_
          · exact ints1 _ _ _ (by first | rfl | simp)
          rintro r4 w4 ⟨rfl, hb4⟩
          have B4 : Hid (Below (w.alloc (.cells #[i kd, i pr, i tx, i qt, i nt, i vt, i gr] 52)).heap.size (w.alloc (.cells #[i kd, i pr, i tx, i qt, i nt, i vt, i gr] 52)) w4) := (below_alloc B3.out _).trans (hb4.mono (below_alloc B3.out _).size)
          clear hb4
          have c41 := sCell B4.out (o := 1) (v := i pr) rfl
          have c42 := sCell B4.out (o := 2) (v := i tx) rfl
          have c43 := sCell B4.out (o := 3) (v := i qt) rfl
          have c44 := sCell B4.out (o := 4) (v := i nt) rfl
          have c45 := sCell B4.out (o := 5) (v := i vt) rfl
          have c46 := sCell B4.out (o := 6) (v := i gr) rfl
          go_wp2_with fail
          go_ret
          exact ⟨by first | rfl | (rw [← hq]; rfl) | simp [hq], (below_alloc (Below.refl w.heap.size w) _).trans (B4.out.mono (by simp))⟩
end CdrW
end Go.Proofs.YtpmcdjpfolgpiaaGreatDoor
