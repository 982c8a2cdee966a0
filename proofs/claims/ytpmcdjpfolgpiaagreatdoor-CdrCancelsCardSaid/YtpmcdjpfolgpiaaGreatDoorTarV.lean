/-
  Validity of tariffs, in plain words; the walks of the small functions.
-/
import Derived.Test.YtpmcdjpfolgpiaaGreatDoorTarJ
import Derived.Test.YtpmcdjpfolgpiaaGreatDoorIdent
namespace Go.Proofs.YtpmcdjpfolgpiaaGreatDoor
namespace TarW
set_option linter.unusedSimpArgs false
set_option linter.unusedVariables false
open Go.RowKit CalW

/-- The first of f k, f (k+1), .., f (n-1) that is not 0; or 0. -/
def scan (f : Nat → Int) (n k : Nat) : Int := if k < n then (if f k = 0 then scan f n (k + 1) else f k) else 0
termination_by n - k
theorem scan_end {f : Nat → Int} {n k : Nat} (h : n ≤ k) : scan f n k = 0 := by unfold scan; rw [if_neg (by omega)]
theorem scan_hit {f : Nat → Int} {n k : Nat} (h : k < n) (hf : f k ≠ 0) : scan f n k = f k := by unfold scan; rw [if_pos h, if_neg hf]
theorem scan_next {f : Nat → Int} {n k : Nat} (h : k < n) (hf : f k = 0) : scan f n k = scan f n (k + 1) := by
  conv => lhs; unfold scan
  rw [if_pos h, if_pos hf]

def curOk (s : ByteArray) : Bool := decide (s.size = 3) && s.data.toList.all (fun c => decide (65 ≤ (c.toNat : Int) ∧ (c.toNat : Int) ≤ 90))
def optOk (n lo hi : Int) : Bool := n == -1 || (decide (lo ≤ n) && decide (n ≤ hi))
def compOk (c : Comp) : Bool := decide (1 ≤ c.kind ∧ c.kind ≤ 4 ∧ 0 ≤ c.price ∧ c.price ≤ 1073741824 ∧ 0 ≤ c.tax ∧ c.tax ≤ 10000 ∧ (c.kind = 1 ∧ c.step = 0 ∨ c.kind ≠ 1 ∧ 1 ≤ c.step ∧ c.step ≤ 1073741824))
def hourOk (w : Tar.Wh) : Bool := decide (0 ≤ w.s ∧ w.s ≤ 1439 ∧ 0 ≤ w.e ∧ w.e ≤ 1439 ∧ 0 ≤ w.d ∧ w.d ≤ 127)
def timeOk (w : Tar.Wh) : Bool := optOk w.f 0 268435456 && optOk w.t 0 268435456 && optOk w.t0 0 268435456 && optOk w.t1 0 268435456
def powOk (w : Tar.Wh) : Bool := optOk w.e0 0 1099511627776 && optOk w.e1 0 1099511627776 && optOk w.p0 0 1099511627776 && optOk w.p1 0 1099511627776
def whenOk (w : Tar.Wh) : Bool := hourOk w && timeOk w && powOk w
def compE (cs : List Comp) (k : Nat) : Int := match cs[k]? with
  | some c => if compOk c then (if (cs.take k).any (fun x => x.kind == c.kind) then 9 else 0) else 2
  | none => 0
def elemE (e : Elem) : Int := if e.cs.length = 0 then 1 else if scan (compE e.cs) e.cs.length 0 = 0 then (if whenOk e.wh then 0 else 2) else scan (compE e.cs) e.cs.length 0
def elE (es : List Elem) (k : Nat) : Int := match es[k]? with
  | some e => elemE e
  | none => 0
def headOk (t : Trf) : Bool := decide (1 ≤ t.ver ∧ t.ver ≤ 2147483647 ∧ 0 ≤ t.fr ∧ t.fr ≤ 268435456) && optOk t.to t.fr 268435456
def validT (t : Trf) : Int :=
  if IdW.identOk t.id = false then 4 else if curOk t.cur = false then 21 else if headOk t = false then 2
  else if (optOk t.least 0 1099511627776 && optOk t.most 0 1099511627776) = false then 2
  else if t.least ≠ -1 ∧ t.most ≠ -1 ∧ t.most < t.least then 1 else if t.els.length = 0 then 1 else if 16 < t.els.length then 3
  else scan (elE t.els) t.els.length 0

theorem cur_at {s : ByteArray} {k : Nat} (hk : k < s.size) (h : ¬ (65 ≤ (s[k].toNat : Int) ∧ (s[k].toNat : Int) ≤ 90)) : curOk s = false := by
  unfold curOk
  have : s.data.toList.all (fun c => decide (65 ≤ (c.toNat : Int) ∧ (c.toNat : Int) ≤ 90)) = false := by
    rw [List.all_eq_false]
    exact ⟨s[k], by simp [ByteArray.getElem_eq_getElem_data], by simpa using h⟩
  rw [this, Bool.and_false]
theorem cur_all {s : ByteArray} (h1 : s.size = 3) (h : ∀ k (hk : k < s.size), 65 ≤ (s[k].toNat : Int) ∧ (s[k].toNat : Int) ≤ 90) : curOk s = true := by
  unfold curOk
  rw [decide_eq_true h1, Bool.true_and, List.all_eq_true]
  intro c hc
  obtain ⟨k, hk, rfl⟩ := List.getElem_of_mem hc
  exact decide_eq_true (h k (by simpa using hk))
theorem cur_size {s : ByteArray} (h : ¬ s.size = 3) : curOk s = false := by
  unfold curOk
  rw [decide_eq_false h, Bool.false_and]

set_option maxHeartbeats 800000 in
theorem currency (s : ByteArray) (w : World) (hs : s.size ≤ maxLen) :
    Calls Tryz.prog 121 #[.string s] w fun e w' => e = .returned (.bool (curOk s)) ∧ w = w' := by
  unfold maxLen at hs
  by_cases hz : s.size = 3
  · have q : ((s.size : Int) != 3) = false := by simp; omega
    have HZ := Lib.hid hz
    have z3 : 3 ≤ s.size := by omega
    have z4 : s.size ≤ 3 := by omega
    clear hz
    go_enter Tryz.func121, Tryz.ntmps121
    go_wp2
    go_loop [9] (fun n => ∃ pos : Nat, pos ≤ s.size ∧ n = i pos ∧ Hid (∀ k (hk : k < s.size), k < pos → 65 ≤ (s[k].toNat : Int) ∧ (s[k].toNat : Int) ≤ 90)) (fun n => s.size - (intOf n).toNat)
    case atStart => exact ⟨0, by omega, rfl, fun k hk h => by omega⟩
    case round =>
      obtain ⟨pos, hpl, rfl, HA⟩ := hrel
      by_cases hp : pos < s.size
      · have hpz : (pos : Int) < (s.size : Int) := by omega
        have hby : s[pos].toNat < 256 := s[pos].toNat_lt
        have HB := Lib.hid (@cur_at s pos hp)
        have HG : Hid (65 ≤ (s[pos].toNat : Int) ∧ (s[pos].toNat : Int) ≤ 90 → ∀ k (hk : k < s.size), k < pos + 1 → 65 ≤ (s[k].toNat : Int) ∧ (s[k].toNat : Int) ≤ 90) := by
          intro hg k hk hlt
          by_cases e : k = pos
          · subst e; exact hg
          · exact HA.out k hk (by omega)
        by_cases hr : 65 ≤ (s[pos].toNat : Int) ∧ (s[pos].toNat : Int) ≤ 90
        · have HG' := Lib.hid (HG.out hr)
          obtain ⟨r1, r2⟩ := hr
          go_wp2
          go_round
          case rel => exact ⟨pos + 1, by omega, by go_num, HG'.out⟩
          case measure => simp [intOf]; omega
        · have HB' := Lib.hid (HB.out hr)
          rcases (by omega : (s[pos].toNat : Int) < 65 ∨ (65 ≤ (s[pos].toNat : Int) ∧ 90 < (s[pos].toNat : Int))) with h | ⟨h, h'⟩
          all_goals
            clear hr
            go_wp2
            go_ret
            exact ⟨retB HB'.out.symm, rfl⟩
      · have hpz : ¬ (pos : Int) < (s.size : Int) := by omega
        go_wp2
        go_ret
        exact ⟨retB (cur_all HZ.out (fun k hk => HA.out k hk (by omega))).symm, rfl⟩
  · have e := cur_size hz
    rw [e]
    clear e
    have q : ((s.size : Int) != 3) = true := by simp; omega
    go_enter Tryz.func121, Tryz.ntmps121
    go_wp2
    go_ret
    exact ⟨rfl, rfl⟩

set_option maxHeartbeats 800000 in
theorem rcurrency (s : ByteArray) (w : World) (hs : s.size ≤ maxLen) :
    Calls Tryz.prog 131 #[.string s] w fun e w' => e = .returned (.bool (curOk s)) ∧ w = w' := by
  unfold maxLen at hs
  by_cases hz : s.size = 3
  · have q : ((s.size : Int) != 3) = false := by simp; omega
    have HZ := Lib.hid hz
    have z3 : 3 ≤ s.size := by omega
    have z4 : s.size ≤ 3 := by omega
    clear hz
    go_enter Tryz.func131, Tryz.ntmps131
    go_wp2
    go_loop [3] (fun n => ∃ pos : Nat, pos ≤ s.size ∧ n = i pos ∧ Hid (∀ k (hk : k < s.size), k < pos → 65 ≤ (s[k].toNat : Int) ∧ (s[k].toNat : Int) ≤ 90)) (fun n => s.size - (intOf n).toNat)
    case atStart => exact ⟨0, by omega, rfl, fun k hk h => by omega⟩
    case round =>
      obtain ⟨pos, hpl, rfl, HA⟩ := hrel
      by_cases hp : pos < s.size
      · have hpz : (pos : Int) < (s.size : Int) := by omega
        have hpz3 : (pos : Int) < 3 := by omega
        have hby : s[pos].toNat < 256 := s[pos].toNat_lt
        have HB := Lib.hid (@cur_at s pos hp)
        have HG : Hid (65 ≤ (s[pos].toNat : Int) ∧ (s[pos].toNat : Int) ≤ 90 → ∀ k (hk : k < s.size), k < pos + 1 → 65 ≤ (s[k].toNat : Int) ∧ (s[k].toNat : Int) ≤ 90) := by
          intro hg k hk hlt
          by_cases e : k = pos
          · subst e; exact hg
          · exact HA.out k hk (by omega)
        by_cases hr : 65 ≤ (s[pos].toNat : Int) ∧ (s[pos].toNat : Int) ≤ 90
        · have HG' := Lib.hid (HG.out hr)
          obtain ⟨r1, r2⟩ := hr
          go_wp2
          go_round
          case rel => exact ⟨pos + 1, by omega, by go_num, HG'.out⟩
          case measure => simp [intOf]; omega
        · have HB' := Lib.hid (HB.out hr)
          rcases (by omega : (s[pos].toNat : Int) < 65 ∨ (65 ≤ (s[pos].toNat : Int) ∧ 90 < (s[pos].toNat : Int))) with h | ⟨h, h'⟩
          all_goals
            clear hr
            go_wp2
            go_ret
            exact ⟨retB HB'.out.symm, rfl⟩
      · have hpz : ¬ (pos : Int) < 3 := by omega
        go_wp2
        go_ret
        exact ⟨retB (cur_all HZ.out (fun k hk => HA.out k hk (by omega))).symm, rfl⟩
  · have e := cur_size hz
    rw [e]
    clear e
    have q : ((s.size : Int) != 3) = true := by simp; omega
    go_enter Tryz.func131, Tryz.ntmps131
    go_wp2
    go_ret
    exact ⟨rfl, rfl⟩

set_option maxHeartbeats 400000 in
theorem optional (n lo hi : Int) (w : World) {b : Bool} (hb : optOk n lo hi = b) :
    Calls Tryz.prog 122 #[i n, i lo, i hi] w fun e w' => e = .returned (.bool b) ∧ w = w' := by
  subst hb
  go_enter Tryz.func122, Tryz.ntmps122
  go_wp2
  all_goals go_ret
  all_goals refine ⟨retB ?_, rfl⟩
  all_goals (unfold optOk; rw [Bool.eq_iff_iff]; simp_all)
  all_goals omega

set_option maxHeartbeats 400000 in
theorem rin (x a b : Int) (w : World) {r : Bool} (hr : decide (a ≤ x ∧ x ≤ b) = r) :
    Calls Tryz.prog 132 #[i x, i a, i b] w fun e w' => e = .returned (.bool r) ∧ w = w' := by
  subst hr
  go_enter Tryz.func132, Tryz.ntmps132
  go_wp2
  all_goals go_ret
  all_goals refine ⟨retB ?_, rfl⟩
  all_goals (rw [Bool.eq_iff_iff]; simp_all)
  all_goals omega

set_option maxHeartbeats 400000 in
theorem rlimit (n hi : Int) (w : World) {b : Bool} (hb : optOk n 0 hi = b) :
    Calls Tryz.prog 133 #[i n, i hi] w fun e w' => e = .returned (.bool b) ∧ w = w' := by
  subst hb
  cases hn : n == -1
  all_goals
    go_enter Tryz.func133, Tryz.ntmps133
    go_wp2_with (go_at_call 132; refine (rin _ _ _ _ rfl).mono ?_; rintro e w' ⟨rfl, rfl⟩)
    all_goals go_ret
    all_goals refine ⟨retB ?_, rfl⟩
    all_goals (unfold optOk; rw [hn, Bool.eq_iff_iff]; simp)

set_option maxHeartbeats 1600000 in
theorem validComponent (c : Comp) (w : World) {b : Bool} (hb : compOk c = b) :
    Calls Tryz.prog 143 #[compV c] w fun e w' => e = .returned (.bool b) ∧ Below w.heap.size w w' := by
  subst hb
  by_cases h1 : c.kind = 1
  · have q : (c.kind == 1) = true := by simpa using h1
    have H1 := Lib.hid h1
    have h1' : c.kind ≤ 1 := by omega
    have h1'' : 1 ≤ c.kind := by omega
    clear h1
    go_enter Tryz.func143, Tryz.ntmps143
    go_wp2
    all_goals go_ret
    all_goals refine ⟨retB ?_, below_new _ _⟩
    all_goals (unfold compOk; have := H1.out; rw [Bool.eq_iff_iff]; simp; omega)
  · have q : (c.kind == 1) = false := by simpa using h1
    go_enter Tryz.func143, Tryz.ntmps143
    go_wp2
    all_goals go_ret
    all_goals refine ⟨retB ?_, below_new _ _⟩
    all_goals (unfold compOk; rw [Bool.eq_iff_iff]; simp; omega)
end TarW
end Go.Proofs.YtpmcdjpfolgpiaaGreatDoor
