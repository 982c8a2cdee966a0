/-
  Charge detail records: the walks of the small functions of cdr and of its reference.
-/
import Derived.Test.YtpmcdjpfolgpiaaGreatDoorTarV
import Derived.Test.YtpmcdjpfolgpiaaGreatDoorBase
import Derived.Test.YtpmcdjpfolgpiaaGreatDoorTaxD
import Derived.Deep.LoopGhost
import Derived.Deep.QuietTactic
import Derived.BigQuiet
namespace Go.Proofs.YtpmcdjpfolgpiaaGreatDoor
namespace CdrW
set_option linter.unusedSimpArgs false
set_option linter.unusedVariables false
open Go.RowKit CalW TarW

set_option maxHeartbeats 800000 in
theorem currency (s : ByteArray) (w : World) (hs : s.size ≤ maxLen) :
    Calls Tryz.prog 24 #[.string s] w fun e w' => e = .returned (.bool (curOk s)) ∧ w = w' := by
  unfold maxLen at hs
  by_cases hz : s.size = 3
  · have q : ((s.size : Int) != 3) = false := by simp; omega
    have HZ := Lib.hid hz
    have z3 : 3 ≤ s.size := by omega
    have z4 : s.size ≤ 3 := by omega
    clear hz
    go_enter Tryz.func24, Tryz.ntmps24
    go_wp2
    go_loop [9] (fun n => ∃ pos : Nat, pos ≤ s.size ∧ n = i pos ∧ Hid (∀ k (hk : k < s.size), k < pos → 65 ≤ (s[k].toNat : Int) ∧ (s[k].toNat : Int) ≤ 90)) (fun n => s.size - (intOf n).toNat)
    case atStart => exact ⟨0, by omega, rfl, fun k hk h => by omega⟩
    case round =>
      obtain ⟨pos, hpl, rfl, HA⟩ := hrel
      by_cases hp : pos < s.size
      · have hpz : (pos : Int) < (s.size : Int) := by omega
        have hby : s[pos].toNat < 256 := s[pos].toNat_lt
        have HB := Lib.hid (@cur_at s pos hp)
        have HG : Hid (65 ≤ (s[pos].toNat : Int) ∧ (s[pos].toNat : Int) ≤ 90 → ∀ k (hk : k < s.size), k < pos + 1 → 65 ≤ (s[k].toNat : Int) ∧ (s[k].toNat : Int) ≤ 90) := by
          intro hg k hk hlt
          by_cases e : k = pos
          · subst e; exact hg
          · exact HA.out k hk (by omega)
        by_cases hr : 65 ≤ (s[pos].toNat : Int) ∧ (s[pos].toNat : Int) ≤ 90
        · have HG' := Lib.hid (HG.out hr)
          obtain ⟨r1, r2⟩ := hr
          go_wp2
          go_round
          case rel => exact ⟨pos + 1, by omega, by go_num, HG'.out⟩
          case measure => simp [intOf]; omega
        · have HB' := Lib.hid (HB.out hr)
          rcases (by omega : (s[pos].toNat : Int) < 65 ∨ (65 ≤ (s[pos].toNat : Int) ∧ 90 < (s[pos].toNat : Int))) with h | ⟨h, h'⟩
          all_goals
            clear hr
            go_wp2
            go_ret
            exact ⟨retB HB'.out.symm, rfl⟩
      · have hpz : ¬ (pos : Int) < (s.size : Int) := by omega
        go_wp2
        go_ret
        exact ⟨retB (cur_all HZ.out (fun k hk => HA.out k hk (by omega))).symm, rfl⟩
  · have e := cur_size hz
    rw [e]
    clear e
    have q : ((s.size : Int) != 3) = true := by simp; omega
    go_enter Tryz.func24, Tryz.ntmps24
    go_wp2
    go_ret
    exact ⟨rfl, rfl⟩

set_option maxHeartbeats 800000 in
theorem rcurrency (s : ByteArray) (w : World) (hs : s.size ≤ maxLen) :
    Calls Tryz.prog 29 #[.string s] w fun e w' => e = .returned (.bool (curOk s)) ∧ w = w' := by
  unfold maxLen at hs
  go_enter Tryz.func29, Tryz.ntmps29
  go_wp2
  go_loop [3] (fun n => ∃ pos : Nat, pos ≤ s.size ∧ n = i pos ∧ Hid (∀ k (hk : k < s.size), k < pos → 65 ≤ (s[k].toNat : Int) ∧ (s[k].toNat : Int) ≤ 90)) (fun n => s.size - (intOf n).toNat)
  case atStart => exact ⟨0, by omega, rfl, fun k hk h => by omega⟩
  case round =>
    obtain ⟨pos, hpl, rfl, HA⟩ := hrel
    by_cases hp : pos < s.size
    · have hpz : (pos : Int) < (s.size : Int) := by omega
      have hby : s[pos].toNat < 256 := s[pos].toNat_lt
      have HB := Lib.hid (@cur_at s pos hp)
      have HG : Hid (65 ≤ (s[pos].toNat : Int) ∧ (s[pos].toNat : Int) ≤ 90 → ∀ k (hk : k < s.size), k < pos + 1 → 65 ≤ (s[k].toNat : Int) ∧ (s[k].toNat : Int) ≤ 90) := by
        intro hg k hk hlt
        by_cases e : k = pos
        · subst e; exact hg
        · exact HA.out k hk (by omega)
      by_cases hr : 65 ≤ (s[pos].toNat : Int) ∧ (s[pos].toNat : Int) ≤ 90
      · have HG' := Lib.hid (HG.out hr)
        obtain ⟨r1, r2⟩ := hr
        go_wp2
        go_round
        case rel => exact ⟨pos + 1, by omega, by go_num, HG'.out⟩
        case measure => simp [intOf]; omega
      · have HB' := Lib.hid (HB.out hr)
        rcases (by omega : (s[pos].toNat : Int) < 65 ∨ (65 ≤ (s[pos].toNat : Int) ∧ 90 < (s[pos].toNat : Int))) with h | ⟨h, h'⟩
        all_goals
          clear hr
          go_wp2
          go_ret
          exact ⟨retB HB'.out.symm, rfl⟩
    · have hpz : ¬ (pos : Int) < (s.size : Int) := by omega
      by_cases hz : s.size = 3
      · have HV := Lib.hid (cur_all hz (fun k hk => HA.out k hk (by omega)))
        have q : ((s.size : Int) == 3) = true := by simp; omega
        clear hz
        go_wp2
        go_ret
        exact ⟨retB HV.out.symm, rfl⟩
      · have HV := Lib.hid (cur_size hz)
        have q : ((s.size : Int) == 3) = false := by simp; omega
        clear hz
        go_wp2
        go_ret
        exact ⟨retB HV.out.symm, rfl⟩

set_option maxHeartbeats 400000 in
theorem rin (x a b : Int) (w : World) {r : Bool} (hr : decide (a ≤ x ∧ x ≤ b) = r) :
    Calls Tryz.prog 28 #[i x, i a, i b] w fun e w' => e = .returned (.bool r) ∧ w = w' := by
  subst hr
  go_enter Tryz.func28, Tryz.ntmps28
  go_wp2
  all_goals go_ret
  all_goals refine ⟨retB ?_, rfl⟩
  all_goals (rw [Bool.eq_iff_iff]; simp_all)
  all_goals omega


/-- The values of a slice of integers. -/
def IntsAt (w : World) (v : Value) (xs : List Int) : Prop := SliceAt (fun r x => r = [i x]) 1 w v xs
theorem IntsAt.at_ {w : World} {A : Option Addr} {n c j : Nat} {xs : List Int} (h : IntsAt w (.slice A n c) xs) (hj : j < xs.length) :
    ∃ b off, A = some ⟨b, off, none⟩ ∧ b < w.heap.size ∧ ∀ W, Kept w W → W.cell? ⟨b, off + j, none⟩ = some (i xs[j]) := by
  obtain ⟨b, off, r, rfl, hl, hr, hc⟩ := SliceAt.at_ h hj
  subst hr
  exact ⟨b, off, rfl, World.block_lt_of_cell? w _ (hc 0 _ rfl), fun W hk => hk _ _ (by have := hc 0 _ rfl; simpa using this)⟩
theorem ints_hit {lo hi : Int} {xs : List Int} {k : Nat} (hk : k < xs.length) (h : xs[k] < lo ∨ hi < xs[k]) : xs.all (fun x => decide (lo ≤ x ∧ x ≤ hi)) = false := by
  rw [List.all_eq_false]
  exact ⟨xs[k], List.getElem_mem hk, by simp; omega⟩
theorem ints_all {lo hi : Int} {xs : List Int} (h : ∀ k (hk : k < xs.length), lo ≤ xs[k] ∧ xs[k] ≤ hi) : xs.all (fun x => decide (lo ≤ x ∧ x ≤ hi)) = true := by
  rw [List.all_eq_true]
  intro x hx
  obtain ⟨k, hk, rfl⟩ := List.getElem_of_mem hx
  exact decide_eq_true (h k hk)

set_option maxHeartbeats 800000 in
theorem within (lo hi : Int) (v : Value) (xs : List Int) (w : World) (h : IntsAt w v xs) {r : Bool} (hr : xs.all (fun x => decide (lo ≤ x ∧ x ≤ hi)) = r) :
    Calls Tryz.prog 23 #[i lo, i hi, v] w fun e w' => e = .returned (.bool r) ∧ Below w.heap.size w w' := by
  obtain ⟨A, c, rfl, h1, h2⟩ := SliceAt.form h
  unfold maxLen at h2
  have HL := Lib.hid h
  have HR := Lib.hid hr
  clear h hr
  go_enter Tryz.func23, Tryz.ntmps23
  go_wp2_with fail
  go_loopg [11] xs.length (fun gg s11 wr => ∃ kk : Nat, kk ≤ xs.length ∧ xs.length - kk ≤ gg ∧ s11 = i kk ∧ Hid (Below w.heap.size w wr) ∧ Hid (∀ k (hk : k < xs.length), k < kk → lo ≤ xs[k] ∧ xs[k] ≤ hi))
  case atStart => exact ⟨0, Nat.zero_le _, by omega, rfl, Below.refl _ w, fun k hk h => by omega⟩
  case round =>
    obtain ⟨kk, hkk, hg, rfl, BW, HA⟩ := hrel
    by_cases hlt : kk < xs.length
    · have hltz : (kk : Int) < (xs.length : Int) := by omega
      obtain ⟨b, off, rfl, _, hrow⟩ := IntsAt.at_ HL.out hlt
      have l0 := hrow wr (Kept.of BW.out)
      clear hrow
      have HB := Lib.hid (@ints_hit lo hi xs kk hlt)
      have HG : Hid (lo ≤ xs[kk] ∧ xs[kk] ≤ hi → ∀ k (hk : k < xs.length), k < kk + 1 → lo ≤ xs[k] ∧ xs[k] ≤ hi) := by
        intro hg k hk hlt
        by_cases e : k = kk
        · subst e; exact hg
        · exact HA.out k hk (by omega)
      generalize xs[kk] = x at *
      by_cases c1 : x < lo
      · have HV := Lib.hid (HR.out.symm.trans (HB.out (Or.inl c1)))
        go_wp2_with fail
        go_ret
        exact ⟨by rw [HV.out]; rfl, BW.out⟩
      · by_cases c2 : hi < x
        · have HV := Lib.hid (HR.out.symm.trans (HB.out (Or.inr c2)))
          go_wp2_with fail
          go_ret
          exact ⟨by rw [HV.out]; rfl, BW.out⟩
        · have HG' := Lib.hid (HG.out (by omega))
          go_wp2_with fail
          go_roundg (xs.length - (kk + 1))
          case measure => omega
          case rel => exact ⟨kk + 1, by omega, by omega, by go_num, BW.out, HG'.out⟩
    · have hltz : ¬ (kk : Int) < (xs.length : Int) := by omega
      have HV := Lib.hid (HR.out.symm.trans (ints_all (fun k hk => HA.out k hk (by omega))))
      go_wp2_with fail
      go_ret
      exact ⟨by rw [HV.out]; rfl, BW.out⟩

/-- The names of a slice of strings. -/
def NamesAt (w : World) (v : Value) (xs : List ByteArray) : Prop := SliceAt (fun r x => r = [.string x] ∧ x.size ≤ maxLen) 1 w v xs
theorem NamesAt.at_ {w : World} {A : Option Addr} {n c j : Nat} {xs : List ByteArray} (h : NamesAt w (.slice A n c) xs) (hj : j < xs.length) :
    ∃ b off, A = some ⟨b, off, none⟩ ∧ b < w.heap.size ∧ xs[j].size ≤ maxLen ∧ ∀ W, Kept w W → W.cell? ⟨b, off + j, none⟩ = some (.string xs[j]) := by
  obtain ⟨b, off, r, rfl, hl, ⟨hr, hz⟩, hc⟩ := SliceAt.at_ h hj
  subst hr
  exact ⟨b, off, rfl, World.block_lt_of_cell? w _ (hc 0 _ rfl), hz, fun W hk => hk _ _ (by have := hc 0 _ rfl; simpa using this)⟩
theorem names_hit {xs : List ByteArray} {k : Nat} (hk : k < xs.length) (h : IdW.identOk xs[k] = false) : xs.all IdW.identOk = false := by
  rw [List.all_eq_false]
  exact ⟨xs[k], List.getElem_mem hk, by simp [h]⟩
theorem names_all {xs : List ByteArray} (h : ∀ k (hk : k < xs.length), IdW.identOk xs[k] = true) : xs.all IdW.identOk = true := by
  rw [List.all_eq_true]
  intro x hx
  obtain ⟨k, hk, rfl⟩ := List.getElem_of_mem hx
  exact h k hk

set_option maxHeartbeats 800000 in
theorem names (v : Value) (xs : List ByteArray) (w : World) (h : NamesAt w v xs) {q : Int} (hr : (if xs.all IdW.identOk then (0 : Int) else 4) = q) :
    Calls Tryz.prog 22 #[v] w fun e w' => e = .returned (i q) ∧ Below w.heap.size w w' := by
  obtain ⟨A, c, rfl, h1, h2⟩ := SliceAt.form h
  unfold maxLen at h2
  have HL := Lib.hid h
  have HR := Lib.hid hr
  clear h hr
  go_enter Tryz.func22, Tryz.ntmps22
  go_wp2_with fail
  go_loopg [7] xs.length (fun gg s7 wr => ∃ kk : Nat, kk ≤ xs.length ∧ xs.length - kk ≤ gg ∧ s7 = i kk ∧ Hid (Below w.heap.size w wr) ∧ Hid (∀ k (hk : k < xs.length), k < kk → IdW.identOk xs[k] = true))
  case atStart => exact ⟨0, Nat.zero_le _, by omega, rfl, Below.refl _ w, fun k hk h => by omega⟩
  case round =>
    obtain ⟨kk, hkk, hg, rfl, BW, HA⟩ := hrel
    by_cases hlt : kk < xs.length
    · have hltz : (kk : Int) < (xs.length : Int) := by omega
      obtain ⟨b, off, rfl, _, hz, hrow⟩ := NamesAt.at_ HL.out hlt
      have l0 := hrow wr (Kept.of BW.out)
      clear hrow
      have HB := Lib.hid (@names_hit xs kk hlt)
      have HG : Hid (IdW.identOk xs[kk] = true → ∀ k (hk : k < xs.length), k < kk + 1 → IdW.identOk xs[k] = true) := by
        intro hg k hk hlt
        by_cases e : k = kk
        · subst e; exact hg
        · exact HA.out k hk (by omega)
      generalize xs[kk] = x at *
      have HC := fun W => IdW.valid_ x W hz
      cases hx : IdW.identOk x
      all_goals rw [hx] at HC
      · have HV := Lib.hid (show q = 4 by rw [← HR.out, HB.out hx]; rfl)
        go_wp2_with (go_at_call 35; refine (HC _).mono ?_; rintro e w1 ⟨rfl, hb1⟩)
        go_ret
        exact ⟨by rw [HV.out]; rfl, BW.out.trans (hb1.mono BW.out.size)⟩
      · have HG' := Lib.hid (HG.out hx)
        go_wp2_with (go_at_call 35; refine (HC _).mono ?_; rintro e w1 ⟨rfl, hb1⟩)
        go_roundg (xs.length - (kk + 1))
        case measure => omega
        case rel => exact ⟨kk + 1, by omega, by omega, by go_num, BW.out.trans (hb1.mono BW.out.size), HG'.out⟩
    · have hltz : ¬ (kk : Int) < (xs.length : Int) := by omega
      have HV := Lib.hid (show q = 0 by rw [← HR.out, names_all (fun k hk => HA.out k hk (by omega))]; rfl)
      go_wp2_with fail
      go_ret
      exact ⟨by rw [HV.out]; rfl, BW.out⟩

def itemOk (x : MonW.Itm) : Bool := decide (1 ≤ x.kind ∧ x.kind ≤ 4 ∧ 0 ≤ x.tax ∧ x.tax ≤ 10000 ∧ -36028797018963968 ≤ x.net ∧ x.net ≤ 36028797018963968 ∧ -36028797018963968 ≤ x.vat ∧ x.vat ≤ 36028797018963968 ∧ -36028797018963968 ≤ x.price ∧ x.price ≤ 36028797018963968 ∧ 0 ≤ x.qty ∧ x.qty ≤ 36028797018963968 ∧ x.gross = x.net + x.vat)

theorem item_re (kd pr tx qt nt vt gr : Int) : itemOk ⟨kd, pr, tx, qt, nt, vt, gr⟩ = (decide ((1 : Int) ≤ kd ∧ kd ≤ 4) && decide ((0 : Int) ≤ tx ∧ tx ≤ 10000) && decide ((-36028797018963968 : Int) ≤ nt ∧ nt ≤ 36028797018963968) && decide ((-36028797018963968 : Int) ≤ vt ∧ vt ≤ 36028797018963968) && decide ((-36028797018963968 : Int) ≤ pr ∧ pr ≤ 36028797018963968) && decide ((0 : Int) ≤ qt ∧ qt ≤ 36028797018963968) && decide (gr = nt + vt)) := by
  unfold itemOk
  rw [Bool.eq_iff_iff]
  simp
  omega

set_option maxHeartbeats 2000000 in
set_option maxRecDepth 100000 in
theorem ritem (kd pr tx qt nt vt gr : Int) (w : World) {r : Bool} (hr : itemOk ⟨kd, pr, tx, qt, nt, vt, gr⟩ = r) :
    Calls Tryz.prog 30 #[.agg #[i kd, i pr, i tx, i qt, i nt, i vt, i gr]] w fun e w' => e = .returned (.bool r) ∧ Below w.heap.size w w' := by
  rw [item_re] at hr
  obtain ⟨b1, e1⟩ : ∃ b, decide ((1 : Int) ≤ kd ∧ kd ≤ 4) = b := ⟨_, rfl⟩
  obtain ⟨b2, e2⟩ : ∃ b, decide ((0 : Int) ≤ tx ∧ tx ≤ 10000) = b := ⟨_, rfl⟩
  obtain ⟨b3, e3⟩ : ∃ b, decide (((-36028797018963968) : Int) ≤ nt ∧ nt ≤ 36028797018963968) = b := ⟨_, rfl⟩
  obtain ⟨b4, e4⟩ : ∃ b, decide (((-36028797018963968) : Int) ≤ vt ∧ vt ≤ 36028797018963968) = b := ⟨_, rfl⟩
  obtain ⟨b5, e5⟩ : ∃ b, decide (((-36028797018963968) : Int) ≤ pr ∧ pr ≤ 36028797018963968) = b := ⟨_, rfl⟩
  obtain ⟨b6, e6⟩ : ∃ b, decide ((0 : Int) ≤ qt ∧ qt ≤ 36028797018963968) = b := ⟨_, rfl⟩
  rw [e1, e2, e3, e4, e5, e6] at hr
  have E1 := Lib.hid e1
  have E2 := Lib.hid e2
  have E3 := Lib.hid e3
  have E4 := Lib.hid e4
  have E5 := Lib.hid e5
  have E6 := Lib.hid e6
  have HR := Lib.hid hr
  clear hr
  cases b1 with
  | false =>
    have HV : Hid (r = false) := HR.out.symm.trans (by simp)
    clear e1 e2 e3 e4 e5 e6
    go_enter Tryz.func30, Tryz.ntmps30
    go_wp2_with fail
    refine (rin _ _ _ _ E1.out).mono ?_
    rintro r' w' ⟨rfl, rfl⟩
    go_wp2_with fail
    go_ret
    exact ⟨by rw [HV.out]; rfl, below_new _ _⟩
  | true =>
    cases b2 with
    | false =>
      have HV : Hid (r = false) := HR.out.symm.trans (by simp)
      clear e1 e2 e3 e4 e5 e6
      go_enter Tryz.func30, Tryz.ntmps30
      go_wp2_with fail
      refine (rin _ _ _ _ E1.out).mono ?_
      rintro r' w' ⟨rfl, rfl⟩
      go_wp2_with fail
      refine (rin _ _ _ _ E2.out).mono ?_
      rintro r' w' ⟨rfl, rfl⟩
      go_wp2_with fail
      go_ret
      exact ⟨by rw [HV.out]; rfl, below_new _ _⟩
    | true =>
      cases b3 with
      | false =>
        have HV : Hid (r = false) := HR.out.symm.trans (by simp)
        clear e1 e2 e3 e4 e5 e6
        go_enter Tryz.func30, Tryz.ntmps30
        go_wp2_with fail
        refine (rin _ _ _ _ E1.out).mono ?_
        rintro r' w' ⟨rfl, rfl⟩
        go_wp2_with fail
        refine (rin _ _ _ _ E2.out).mono ?_
        rintro r' w' ⟨rfl, rfl⟩
        go_wp2_with fail
        refine (rin _ _ _ _ E3.out).mono ?_
        rintro r' w' ⟨rfl, rfl⟩
        go_wp2_with fail
        go_ret
        exact ⟨by rw [HV.out]; rfl, below_new _ _⟩
      | true =>
        cases b4 with
        | false =>
          have HV : Hid (r = false) := HR.out.symm.trans (by simp)
          clear e1 e2 e3 e4 e5 e6
          go_enter Tryz.func30, Tryz.ntmps30
          go_wp2_with fail
          refine (rin _ _ _ _ E1.out).mono ?_
          rintro r' w' ⟨rfl, rfl⟩
          go_wp2_with fail
          refine (rin _ _ _ _ E2.out).mono ?_
          rintro r' w' ⟨rfl, rfl⟩
          go_wp2_with fail
          refine (rin _ _ _ _ E3.out).mono ?_
          rintro r' w' ⟨rfl, rfl⟩
          go_wp2_with fail
          refine (rin _ _ _ _ E4.out).mono ?_
          rintro r' w' ⟨rfl, rfl⟩
          go_wp2_with fail
          go_ret
          exact ⟨by rw [HV.out]; rfl, below_new _ _⟩
        | true =>
          cases b5 with
          | false =>
            have HV : Hid (r = false) := HR.out.symm.trans (by simp)
            clear e1 e2 e3 e4 e5 e6
            go_enter Tryz.func30, Tryz.ntmps30
            go_wp2_with fail
            refine (rin _ _ _ _ E1.out).mono ?_
            rintro r' w' ⟨rfl, rfl⟩
            go_wp2_with fail
            refine (rin _ _ _ _ E2.out).mono ?_
            rintro r' w' ⟨rfl, rfl⟩
            go_wp2_with fail
            refine (rin _ _ _ _ E3.out).mono ?_
            rintro r' w' ⟨rfl, rfl⟩
            go_wp2_with fail
            refine (rin _ _ _ _ E4.out).mono ?_
            rintro r' w' ⟨rfl, rfl⟩
            go_wp2_with fail
            refine (rin _ _ _ _ E5.out).mono ?_
            rintro r' w' ⟨rfl, rfl⟩
            go_wp2_with fail
            go_ret
            exact ⟨by rw [HV.out]; rfl, below_new _ _⟩
          | true =>
            cases b6 with
            | false =>
              have HV : Hid (r = false) := HR.out.symm.trans (by simp)
              clear e1 e2 e3 e4 e5 e6
              go_enter Tryz.func30, Tryz.ntmps30
              go_wp2_with fail
              refine (rin _ _ _ _ E1.out).mono ?_
              rintro r' w' ⟨rfl, rfl⟩
              go_wp2_with fail
              refine (rin _ _ _ _ E2.out).mono ?_
              rintro r' w' ⟨rfl, rfl⟩
              go_wp2_with fail
              refine (rin _ _ _ _ E3.out).mono ?_
              rintro r' w' ⟨rfl, rfl⟩
              go_wp2_with fail
              refine (rin _ _ _ _ E4.out).mono ?_
              rintro r' w' ⟨rfl, rfl⟩
              go_wp2_with fail
              refine (rin _ _ _ _ E5.out).mono ?_
              rintro r' w' ⟨rfl, rfl⟩
              go_wp2_with fail
              refine (rin _ _ _ _ E6.out).mono ?_
              rintro r' w' ⟨rfl, rfl⟩
              go_wp2_with fail
              go_ret
              exact ⟨by rw [HV.out]; rfl, below_new _ _⟩
            | true =>
              have a3 := of_decide_eq_true e3
              have a4 := of_decide_eq_true e4
              have hq : (gr == nt + vt) = r := by rw [← HR.out, Bool.eq_iff_iff]; simp
              obtain ⟨a31, a32⟩ := a3
              obtain ⟨a41, a42⟩ := a4
              clear e1 e2 e3 e4 e5 e6
              go_enter Tryz.func30, Tryz.ntmps30
              go_wp2_with fail
              refine (rin _ _ _ _ E1.out).mono ?_
              rintro r' w' ⟨rfl, rfl⟩
              go_wp2_with fail
              refine (rin _ _ _ _ E2.out).mono ?_
              rintro r' w' ⟨rfl, rfl⟩
              go_wp2_with fail
              refine (rin _ _ _ _ E3.out).mono ?_
              rintro r' w' ⟨rfl, rfl⟩
              go_wp2_with fail
              refine (rin _ _ _ _ E4.out).mono ?_
              rintro r' w' ⟨rfl, rfl⟩
              go_wp2_with fail
              refine (rin _ _ _ _ E5.out).mono ?_
              rintro r' w' ⟨rfl, rfl⟩
              go_wp2_with fail
              refine (rin _ _ _ _ E6.out).mono ?_
              rintro r' w' ⟨rfl, rfl⟩
              go_wp2_with fail
              go_ret
              exact ⟨by first | rfl | (rw [← hq]; rfl) | simp [hq], below_new _ _⟩
end CdrW
end Go.Proofs.YtpmcdjpfolgpiaaGreatDoor
