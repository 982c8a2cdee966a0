/-
  Identifiers: ident.Valid and the reference's Valid: 1 to 36 letters, digits and the five signs.
-/
import Derived.Test.YtfaofobhmmedmaaGreatDoorBase
import Derived.Test.YtfaofobhmmedmaaGreatDoorStnW
import Derived.Laws.RangeString
import Derived.Laws.RangeAny
import Derived.Deep.LoopGhost
namespace Go.Proofs.YtfaofobhmmedmaaGreatDoor
namespace IdW
set_option linter.unusedSimpArgs false
set_option linter.unusedVariables false
open Go.RowKit Stn

theorem ret1 {a c : Int} (h1 : a = c) : Ending.returned (.int .i64 a) = .returned (i c) := by rw [h1]
theorem retB {a c : Bool} (h1 : a = c) : Ending.returned (.bool a) = .returned (.bool c) := by rw [h1]

def valR (c : Int) : Int := if 48 ≤ c ∧ c ≤ 57 then c - 48 else if 65 ≤ c ∧ c ≤ 90 then c - 55 else if 97 ≤ c ∧ c ≤ 122 then c - 87 else -1
def sign (c : Int) : Bool := c == 45 || c == 95 || c == 46 || c == 58 || c == 42
def goodC (c : Int) : Bool := sign c || decide (0 ≤ valR c)
def identOk (s : ByteArray) : Bool := decide (1 ≤ s.size ∧ s.size ≤ 36) && s.data.toList.all (fun c => goodC (c.toNat : Int))
def cap (c : Int) : Int := if 97 ≤ c ∧ c ≤ 122 then c - 32 else c
def letter (j : Nat) : Int := if j < 10 then 48 + j else 55 + j

theorem valR_hi (c : Int) (h : 128 ≤ c) : valR c = -1 := by unfold valR; rw [if_neg (by omega), if_neg (by omega), if_neg (by omega)]
theorem sign_hi (c : Int) (h : 128 ≤ c) : sign c = false := by unfold sign; simp; omega
theorem goodC_hi (c : Int) (h : 128 ≤ c) : goodC c = false := by unfold goodC; rw [sign_hi c h, valR_hi c h]; rfl
theorem valR_letter {c : Int} {k : Nat} (hk : k < 36) (h : letter k = cap c) (h0 : 0 ≤ c) (h1 : c ≤ 255) : valR c = k := by
  unfold letter cap at h
  unfold valR
  repeat' split at h
  all_goals repeat' split
  all_goals omega
theorem valR_none {c : Int} (h : ∀ j, j < 36 → letter j ≠ cap c) (h0 : 0 ≤ c) (h1 : c ≤ 255) : valR c = -1 := by
  unfold valR
  repeat' split
  · exact absurd (by unfold letter cap; rw [if_pos (by omega), if_neg (by omega)]; omega) (h (c - 48).toNat (by omega))
  · exact absurd (by unfold letter cap; rw [if_neg (by omega), if_neg (by omega)]; omega) (h (c - 55).toNat (by omega))
  · exact absurd (by unfold letter cap; rw [if_neg (by omega), if_pos (by omega)]; omega) (h (c - 87).toNat (by omega))
  · rfl

theorem good1 {r : Int} (h : (r == 45) = true) : goodC r = true := by unfold goodC sign; rw [h]; rfl
theorem good2 {r : Int} (h : (r == 95) = true) : goodC r = true := by unfold goodC sign; rw [h]; simp
theorem good3 {r : Int} (h : (r == 46) = true) : goodC r = true := by unfold goodC sign; rw [h]; simp
theorem good4 {r : Int} (h : (r == 58) = true) : goodC r = true := by unfold goodC sign; rw [h]; simp
theorem good5 {r : Int} (h : (r == 42) = true) : goodC r = true := by unfold goodC sign; rw [h]; simp
theorem good6 {r : Int} (h : 0 ≤ valR r) : goodC r = true := by unfold goodC; rw [decide_eq_true h]; simp
theorem bad_of {r : Int} (h1 : (r == 45) = false) (h2 : (r == 95) = false) (h3 : (r == 46) = false) (h4 : (r == 58) = false) (h5 : (r == 42) = false) (h6 : valR r < 0) : goodC r = false := by
  unfold goodC sign
  rw [h1, h2, h3, h4, h5, decide_eq_false (by omega)]
  rfl
theorem good_at {s : ByteArray} {k : Nat} (hk : k < s.size) (h : goodC (s[k].toNat : Int) = false) : identOk s = false := by
  unfold identOk
  have : s.data.toList.all (fun c => goodC (c.toNat : Int)) = false := by
    rw [List.all_eq_false]
    exact ⟨s[k], by simp [ByteArray.getElem_eq_getElem_data], by simpa using h⟩
  rw [this, Bool.and_false]
theorem good_all {s : ByteArray} (h1 : 1 ≤ s.size) (h2 : s.size ≤ 36) (h : ∀ k (hk : k < s.size), goodC (s[k].toNat : Int) = true) : identOk s = true := by
  unfold identOk
  rw [decide_eq_true ⟨h1, h2⟩, Bool.true_and, List.all_eq_true]
  intro c hc
  obtain ⟨k, hk, rfl⟩ := List.getElem_of_mem hc
  exact h k (by simpa using hk)
theorem good_size {s : ByteArray} (h : ¬ (1 ≤ s.size ∧ s.size ≤ 36)) : identOk s = false := by
  unfold identOk
  rw [decide_eq_false h, Bool.false_and]

set_option maxHeartbeats 800000 in
theorem value (r : Int) (w : World) (h0 : 0 ≤ r) (h1 : r ≤ 2147483647) :
    Calls Tryz.prog 87 #[.int .i32 r] w fun e w' => e = .returned (i (valR r)) ∧ w = w' := by
  obtain ⟨v, hv⟩ : ∃ v, valR r = v := ⟨_, rfl⟩
  rw [hv]
  have HV := Lib.hid hv
  clear hv
  by_cases d1 : 48 ≤ r ∧ r ≤ 57
  · obtain ⟨d1, d2⟩ := d1
    go_enter Tryz.func87, Tryz.ntmps87
    go_wp2
    go_ret
    refine ⟨ret1 ?_, rfl⟩
    rw [← HV.out]; unfold valR; rw [if_pos (by omega)]
  · by_cases d2 : 65 ≤ r ∧ r ≤ 90
    · obtain ⟨d2, d3⟩ := d2
      have e1 : 57 < r := by omega
      clear d1
      go_enter Tryz.func87, Tryz.ntmps87
      go_wp2
      go_ret
      refine ⟨ret1 ?_, rfl⟩
      rw [← HV.out]; unfold valR; rw [if_neg (by omega), if_pos (by omega)]; omega
    · by_cases d3 : 97 ≤ r ∧ r ≤ 122
      · obtain ⟨d3, d4⟩ := d3
        have e1 : 90 < r := by omega
        clear d1 d2
        go_enter Tryz.func87, Tryz.ntmps87
        go_wp2
        go_ret
        refine ⟨ret1 ?_, rfl⟩
        rw [← HV.out]; unfold valR; rw [if_neg (by omega), if_neg (by omega), if_pos (by omega)]; omega
      · have e : v = -1 := by rw [← HV.out]; unfold valR; rw [if_neg d1, if_neg d2, if_neg d3]
        subst e
        go_enter Tryz.func87, Tryz.ntmps87
        go_wp2
        all_goals first | (exfalso; omega) | (go_ret; exact ⟨rfl, rfl⟩)

theorem quiet_add_same {P : Program} {f : FuncId} {args : Array Value} {w : World} {a n : Nat} {v : Value}
    (h : Calls P f args (w.drewN (a + n)) fun e w' => e = .returned v ∧ w' = w.drewN (a + n)) :
    Calls P f args (w.drewN (a + n)) fun e w'' => e = .returned v ∧ ∃ m, w'' = w.drewN (a + m) :=
  h.mono fun _ _ ⟨he, hm⟩ => ⟨he, n, hm⟩
theorem iter_below (w : World) (s : ByteArray) (p : Nat) : Below w.heap.size w (w.iter s p) := below_new w (.stringIter s p)

set_option maxRecDepth 100000 in
set_option maxHeartbeats 1600000 in
theorem valid_ (s : ByteArray) (w : World) (hs : s.size ≤ maxLen) :
    Calls Tryz.prog 41 #[.string s] w fun e w' => e = .returned (.bool (identOk s)) ∧ Below w.heap.size w w' := by
  unfold maxLen at hs
  by_cases hz : 1 ≤ s.size ∧ s.size ≤ 36
  · obtain ⟨z1, z2⟩ := hz
    go_enter Tryz.func41, Tryz.ntmps41
    go_wp2
    go_loopw [4] (fun n w' => ∃ pos : Nat, pos ≤ s.size ∧ w' = w.iter s pos ∧ Hid (∀ k (hk : k < s.size), k < pos → goodC (s[k].toNat : Int) = true)) (fun _ w' => s.size - w'.iterPos w.heap.size)
    case atStart => exact ⟨0, by omega, rfl, fun k hk h => by omega⟩
    case round =>
      obtain ⟨pos, hpl, rfl, HA⟩ := hrel
      by_cases hp : pos < s.size
      · have hnx : ∀ ty, (Instr.next (.pointer (some ⟨w.heap.size, 0, none⟩)) true ty).run Tryz.prog (w.iter s pos) = _ := fun ty => run_next_any w s pos ty hp
        by_cases ha : s[pos].toNat < 128
        · rw [decode_ascii s pos hp ha] at hnx
          have HB := Lib.hid (@good_at s pos hp)
          have HG : Hid (goodC (s[pos].toNat : Int) = true → ∀ k (hk : k < s.size), k < pos + 1 → goodC (s[k].toNat : Int) = true) := by
            intro hg k hk hlt
            by_cases e : k = pos
            · subst e; exact hg
            · exact HA.out k hk (by omega)
          generalize s[pos].toNat = r at *
          have hr : (r : Int) ≤ 127 := by omega
          have hr0 : (0 : Int) ≤ (r : Int) := by omega
          go_wp2_with (go_at_call 87; refine (value _ _ hr0 (by omega)).mono ?_; rintro e w' ⟨rfl, rfl⟩)
          all_goals first
            | (go_ret; exact ⟨retB (HB.out (bad_of ‹_› ‹_› ‹_› ‹_› ‹_› ‹_›)).symm, iter_below _ _ _⟩)
            | (refine ⟨⟨pos + 1, by omega, rfl, HG.out ?_⟩, by simp; omega⟩
               first | exact good1 ‹_› | exact good2 ‹_› | exact good3 ‹_› | exact good4 ‹_› | exact good5 ‹_› | exact good6 ‹_›)
        · have hh := decode_high s pos hp (by omega)
          have hle := decode_le s pos
          have HB := Lib.hid (@good_at s pos hp (goodC_hi _ (by omega)))
          generalize (Utf8.decode s pos).1 = r at *
          generalize (Utf8.decode s pos).2 = wd at *
          have hr0 : (128 : Int) ≤ (r : Int) := by omega
          have hr1 : (r : Int) ≤ 2147483647 := by omega
          have q1 : ((r : Int) == 45) = false := by simp; omega
          have q2 : ((r : Int) == 95) = false := by simp; omega
          have q3 : ((r : Int) == 46) = false := by simp; omega
          have q4 : ((r : Int) == 58) = false := by simp; omega
          have q5 : ((r : Int) == 42) = false := by simp; omega
          have hv := Lib.hid (valR_hi r hr0)
          go_wp2_with fail
          refine (value _ _ (by omega) (by omega)).mono ?_
          rintro e w' ⟨rfl, rfl⟩
          rw [hv.out]
          go_wp2_with fail
          go_ret
          exact ⟨retB HB.out.symm, iter_below _ _ _⟩
      · have hnx : ∀ ty, (Instr.next (.pointer (some ⟨w.heap.size, 0, none⟩)) true ty).run Tryz.prog (w.iter s pos) = _ := fun ty => run_next_end w s pos ty hp
        go_wp2
        go_ret
        exact ⟨retB (good_all z1 z2 (fun k hk => HA.out k hk (by omega))).symm, iter_below _ _ _⟩
  · have e := good_size hz
    rw [e]
    clear e
    go_enter Tryz.func41, Tryz.ntmps41
    go_wp2
    all_goals first | (exfalso; omega) | (go_ret; exact ⟨rfl, Below.refl _ _⟩)

set_option maxHeartbeats 400000 in
theorem capital (c : Int) (w : World) (h0 : 0 ≤ c) (h1 : c ≤ 255) :
    Calls Tryz.prog 168 #[.int .u8 c] w fun e w' => e = .returned (.int .u8 (cap c)) ∧ w' = w := by
  obtain ⟨v, hv⟩ : ∃ v, cap c = v := ⟨_, rfl⟩
  rw [hv]
  have HV := Lib.hid hv
  clear hv
  by_cases d1 : 97 ≤ c ∧ c ≤ 122
  · obtain ⟨d1, d2⟩ := d1
    go_enter Tryz.func168, Tryz.ntmps168
    go_wp2
    go_ret
    refine ⟨?_, rfl⟩
    rw [← HV.out]; unfold cap; rw [if_pos (by omega)]
    rfl
  · have e : v = c := by rw [← HV.out]; unfold cap; rw [if_neg d1]
    subst e
    go_enter Tryz.func168, Tryz.ntmps168
    go_wp2
    all_goals first | (exfalso; omega) | (go_ret; exact ⟨rfl, rfl⟩)

def letters : ByteArray := ⟨#[48, 49, 50, 51, 52, 53, 54, 55, 56, 57, 65, 66, 67, 68, 69, 70, 71, 72, 73, 74, 75, 76, 77, 78, 79, 80, 81, 82, 83, 84, 85, 86, 87, 88, 89, 90]⟩
theorem letters_at (k : Nat) (hk : k < 36) (h : k < (ByteArray.mk #[48, 49, 50, 51, 52, 53, 54, 55, 56, 57, 65, 66, 67, 68, 69, 70, 71, 72, 73, 74, 75, 76, 77, 78, 79, 80, 81, 82, 83, 84, 85, 86, 87, 88, 89, 90]).size) : (((ByteArray.mk #[48, 49, 50, 51, 52, 53, 54, 55, 56, 57, 65, 66, 67, 68, 69, 70, 71, 72, 73, 74, 75, 76, 77, 78, 79, 80, 81, 82, 83, 84, 85, 86, 87, 88, 89, 90])[k]'h).toNat : Int) = letter k := by
  have : ∀ f : Fin 36, ((letters[f.1]'f.2).toNat : Int) = letter f.1 := by decide +kernel
  exact this ⟨k, hk⟩

set_option maxRecDepth 100000 in
set_option maxHeartbeats 1600000 in
theorem rvalue (c : Int) (w : World) (h0 : 0 ≤ c) (h1 : c ≤ 255) :
    Calls Tryz.prog 75 #[.int .u8 c] w fun e w' => e = .returned (i (valR c)) ∧ ∃ m, w' = w.drewN m := by
  go_enter Tryz.func75, Tryz.ntmps75
  go_wp2
  go_loopw [3] (fun n w' => ∃ (k m : Nat), k ≤ 36 ∧ n = i k ∧ w' = w.drewN m ∧ Hid (∀ j, j < k → letter j ≠ cap c)) (fun n _ => 36 - (intOf n).toNat)
  case atStart => exact ⟨0, 0, by omega, rfl, rfl, fun j hj => by omega⟩
  case round =>
    obtain ⟨k, m, hk, rfl, rfl, HA⟩ := hrel
    by_cases hlt : k < 36
    · have hlz : (k : Int) < 36 := by omega
      go_wp2_with fail
      go_quiet ((go_at_call 168; exact quiet_add_same (capital _ _ h0 h1)))
      rw [letters_at k hlt]
      cases hq : (letter k == cap c) with
      | true =>
        have HQ := Lib.hid (show letter k = cap c by simpa using hq)
        clear hq
        go_wp2
        go_ret
        exact ⟨ret1 (valR_letter hlt HQ.out h0 h1).symm, m + nq, by rw [World.drewN_drewN]⟩
      | false =>
        have HQ := Lib.hid (show letter k ≠ cap c by simpa using hq)
        clear hq
        go_wp2
        go_roundw
        case rel =>
          refine ⟨k + 1, m + nq, by omega, by go_num, rfl, fun j hj => ?_⟩
          by_cases e : j = k
          · rw [e]; exact HQ.out
          · exact HA.out j (by omega)
        case measure => simp [intOf]; omega
    · have hlz : ¬ (k : Int) < 36 := by omega
      go_wp2
      go_ret
      exact ⟨ret1 (valR_none (fun j hj => HA.out j (by omega)) h0 h1).symm, m, rfl⟩

theorem goodA {r : Int} (h : r = 45 ∨ r = 95 ∨ r = 46 ∨ r = 58 ∨ r = 42) : goodC r = true := by
  rcases h with rfl | rfl | rfl | rfl | rfl <;> rfl
theorem goodB {r : Int} (h : ((((r != 45) = false ∨ (r != 95) = false) ∨ (r != 46) = false) ∨ (r != 58) = false) ∨ (r != 42) = false) : goodC r = true := by
  simp only [bne_eq_false_iff_eq] at h
  exact goodA (by omega)
theorem badA {r : Int} (hv : valR r < 0) (h : ((((r != 45) = true ∧ (r != 95) = true) ∧ (r != 46) = true) ∧ (r != 58) = true) ∧ (r != 42) = true) : goodC r = false := by
  simp only [bne_iff_ne] at h
  exact bad_of (by simp; omega) (by simp; omega) (by simp; omega) (by simp; omega) (by simp; omega) hv
set_option maxRecDepth 100000 in
set_option maxHeartbeats 1600000 in
theorem rvalid (s : ByteArray) (w : World) (hs : s.size ≤ maxLen) :
    Calls Tryz.prog 23 #[.string s] w fun e w' => e = .returned (.bool (identOk s)) ∧ ∃ m, w' = w.drewN m := by
  unfold maxLen at hs
  by_cases hz : 1 ≤ s.size ∧ s.size ≤ 36
  · obtain ⟨z1, z2⟩ := hz
    go_enter Tryz.func23, Tryz.ntmps23
    go_wp2
    go_loopw [3] (fun n w' => ∃ (pos m : Nat), pos ≤ s.size ∧ n = i pos ∧ w' = w.drewN m ∧ Hid (∀ k (hk : k < s.size), k < pos → goodC (s[k].toNat : Int) = true)) (fun n w' => s.size - (intOf n).toNat)
    case atStart => exact ⟨0, 0, by omega, rfl, rfl, fun k hk h => by omega⟩
    case round =>
      obtain ⟨pos, m, hpl, rfl, rfl, HA⟩ := hrel
      by_cases hp : pos < s.size
      · have hpz : (pos : Int) < (s.size : Int) := by omega
        have hby : s[pos].toNat < 256 := s[pos].toNat_lt
        have HB := Lib.hid (@good_at s pos hp)
        have HG : Hid (goodC (s[pos].toNat : Int) = true → ∀ k (hk : k < s.size), k < pos + 1 → goodC (s[k].toNat : Int) = true) := by
          intro hg k hk hlt
          by_cases e : k = pos
          · subst e; exact hg
          · exact HA.out k hk (by omega)
        go_wp2_with fail
        generalize s[pos].toNat = r at *
        refine (rvalue _ _ (by omega) (by omega)).mono ?_
        rintro e w' ⟨rfl, m', rfl⟩
        cases hv : decide (valR r < 0) with
        | false =>
          have hv' : ¬ valR r < 0 := by simpa using hv
          have HG' := Lib.hid (HG.out (good6 (by omega)))
          go_wp2
          go_roundw
          case rel => exact ⟨pos + 1, m + m', by omega, by go_num, rfl, HG'.out⟩
          case measure => simp [intOf]; omega
        | true =>
          have hv' : valR r < 0 := by simpa using hv
          go_wp2
          all_goals first
            | (go_ret; exact ⟨retB (HB.out (badA hv' ‹_›)).symm, m + m', rfl⟩)
            | (refine ⟨⟨pos + 1, m + m', by omega, by go_num, rfl, HG.out ?_⟩, by simp [intOf]; omega⟩
               first | exact goodA (.inl ‹_›) | exact goodA (.inr (.inl ‹_›)) | exact goodA (.inr (.inr (.inl ‹_›))) | exact goodA (.inr (.inr (.inr (.inl ‹_›)))) | exact goodB ‹_›)
      · have hpz : ¬ (pos : Int) < (s.size : Int) := by omega
        go_wp2
        go_ret
        exact ⟨retB (good_all z1 z2 (fun k hk => HA.out k hk (by omega))).symm, m, rfl⟩
  · have e := good_size hz
    rw [e]
    clear e
    go_enter Tryz.func23, Tryz.ntmps23
    go_wp2
    all_goals first | (exfalso; omega) | (go_ret; exact ⟨rfl, 0, rfl⟩)
end IdW
end Go.Proofs.YtfaofobhmmedmaaGreatDoor
