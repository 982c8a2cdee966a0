/-
  The walk of math/bits.Div64 at the program's divisors 60, 60000 and 10000.
-/
import Derived.Test.YtndlhhiifmjieaaDoorMonD
namespace Go.Proofs.YtndlhhiifmjieaaDoor
namespace MonW
set_option linter.unusedSimpArgs false
set_option linter.unusedVariables false
open Go.RowKit

theorem un21 (a b c v : Int) (h : a + b - c = v) (h0 : 0 ≤ v) (h1 : v < 18446744073709551616) :
    IntKind.u64.wrap (IntKind.u64.wrap (IntKind.u64.wrap a + b) - IntKind.u64.wrap c) = v := by
  rw [wrapU, wrapU, wrapU, wrapU]; omega

theorem lt0 {lo lw u0 : Nat} (h : u0 = lw % 4294967296) : u0 < 4294967296 := by omega
theorem nle {q : Nat} (h : q < 4294967296) : ¬ ((4294967296 : Int) ≤ (q : Int)) := by omega
theorem z1 (lo y : Nat) : (lo : Int) / (y : Int) = (((0 * 18446744073709551616 + lo) / y : Nat) : Int) := by rw [Nat.zero_mul, Nat.zero_add]; rfl
theorem z2 (lo y : Nat) : (lo : Int) % (y : Int) = (((0 * 18446744073709551616 + lo) % y : Nat) : Int) := by rw [Nat.zero_mul, Nat.zero_add]; rfl
theorem lt1 {lo lw S : Nat} (h : lw = lo * S % 18446744073709551616) : lw < 18446744073709551616 := by rw [h]; exact Nat.mod_lt _ (by decide)

theorem q60 (a q : Nat) (h : q = a / 4026531840) : (a : Int) / 4026531840 = (q : Int) := by omega
theorem r60 (a q r : Nat) (h : q = a / 4026531840) (h2 : r = a % 4026531840) : (a : Int) - (q : Int) * 4026531840 = (r : Int) := by omega
theorem rl60 (a r : Nat) (h2 : r = a % 4026531840) : r < 4026531840 := by omega
theorem d60 (a b q r : Nat) (h : q = a / 4026531840) (h2 : r = a % 4026531840) : (a : Int) * 4294967296 + (b : Int) - (q : Int) * 17293822569102704640 = ((r * 4294967296 + b : Nat) : Int) := by
  have h3 := r60 a q r h h2
  clear h h2
  omega
theorem w60 (a b q r : Nat) (h : q = a / 4026531840) (h2 : r = a % 4026531840) (hb : b < 4294967296) :
    IntKind.u64.wrap (IntKind.u64.wrap (IntKind.u64.wrap ((a : Int) * 4294967296) + b) - IntKind.u64.wrap ((q : Int) * 17293822569102704640)) = ((r * 4294967296 + b : Nat) : Int) := by
  have h3 := rl60 a r h2
  exact un21 _ _ _ _ (d60 a b q r h h2) (by omega) (by clear h h2; omega)

theorem lz60 (w : World) : Calls Tryd.prog 60 #[.int .u64 60] w fun e w' => e = .returned (i 58) ∧ w' = w := lz64 (y := 60) (s := 58) (Or.inl ⟨rfl, rfl⟩) w

set_option maxHeartbeats 4000000 in
set_option maxRecDepth 20000 in
theorem div64_60 (hi lo : Nat) (hh : hi < 60) (hl : lo < 18446744073709551616) (w : World) :
    Calls Tryd.prog 43 #[u hi, u lo, .int .u64 60] w fun e w' => e = .returned (.tuple #[u ((hi * 18446744073709551616 + lo) / 60), u ((hi * 18446744073709551616 + lo) % 60)]) ∧ ∃ n, w' = w.drewN n := by
  obtain ⟨un, hun⟩ : ∃ un, un = hi * 288230376151711744 + lo / 64 := ⟨_, rfl⟩
  obtain ⟨lw, hlw⟩ : ∃ lw, lw = lo * 288230376151711744 % 18446744073709551616 := ⟨_, rfl⟩
  obtain ⟨u1, hu1⟩ : ∃ u1, u1 = lw / 4294967296 := ⟨_, rfl⟩
  obtain ⟨u0, hu0⟩ : ∃ u0, u0 = lw % 4294967296 := ⟨_, rfl⟩
  have HP := Mon.div64_small hi lo 60 288230376151711744 64 4026531840 hh hl (by decide) (by decide) (by decide) (by decide)
  rw [← hun, ← hlw, ← hu1, ← hu0] at HP
  have hlw' := lt1 hlw
  have e1 : bits BinOp.and IntKind.u64 17293822569102704640 4294967295 = 0 := maskN 17293822569102704640 (by decide)
  have e2 : bits BinOp.or IntKind.u64 ((hi : Int) * 288230376151711744) ((lo : Int) / 64) = (un : Int) := by
    have := or_shift hi (lo / 64) 288230376151711744 58 (by decide) (by omega) (by omega)
    rw [hun, ← this]; rfl
  have e3 : IntKind.u64.wrap ((lo : Int) * 288230376151711744) = (lw : Int) := by rw [hlw]; exact wrapM (lo * 288230376151711744)
  have e4 : bits BinOp.and IntKind.u64 (lw : Int) 4294967295 = (u0 : Int) := by rw [hu0]; exact maskN lw hlw'
  have e5 : (lw : Int) / 4294967296 = (u1 : Int) := by rw [hu1]; exact divN lw
  have hu0' : u0 < 4294967296 := lt0 (lo := 0) hu0
  have hu1' : u1 < 4294967296 := by clear HP; omega
  clear hun hlw hu1 hu0 hlw'
  obtain ⟨q1, hq1⟩ : ∃ q1, q1 = un / 4026531840 := ⟨_, rfl⟩
  obtain ⟨r1, hr1⟩ : ∃ r1, r1 = un % 4026531840 := ⟨_, rfl⟩
  rw [← hq1, ← hr1] at HP
  have b1 : q1 < 4294967296 := HP.2.2.2.1
  have e6 := q60 un q1 hq1
  have e7 := r60 un q1 r1 hq1 hr1
  have E8 := w60 un u1 q1 r1 hq1 hr1 hu1'
  obtain ⟨v, hv⟩ : ∃ v, v = r1 * 4294967296 + u1 := ⟨_, rfl⟩
  rw [← hv] at HP E8
  have b3 : v < 17293822569102704640 := HP.2.2.2.2.1
  obtain ⟨q0, hq0⟩ : ∃ q0, q0 = v / 4026531840 := ⟨_, rfl⟩
  obtain ⟨r0, hr0⟩ : ∃ r0, r0 = v % 4026531840 := ⟨_, rfl⟩
  rw [← hq0, ← hr0] at HP
  have b4 : q0 < 4294967296 := HP.2.2.2.2.2.1
  have b5 := rl60 v r0 hr0
  have e8 := q60 v q0 hq0
  have e9 := r60 v q0 r0 hq0 hr0
  have E9 := w60 v u0 q0 r0 hq0 hr0 hu0'
  clear hq1 hr1 hv hq0 hr0
  have hh2 : ¬ ((60 : Int) ≤ (hi : Int)) := by clear HP; omega
  clear hh
  replace HP : Hid _ := HP
  go_enter Tryd.func43, Tryd.ntmps43
  go_upto_region 15 with (go_at_call 60; refine (lz60 _).mono ?_; rintro e w' ⟨rfl, rfl⟩)
  · go_quiet (fail)
    go_wp2
    go_ret2
    rename_i h0
    have h0' : hi = 0 := by simpa using h0
    subst h0'
    exact ⟨retUU (z1 lo 60) (z2 lo 60), nq, rfl⟩
  · go_wp2
    refine wp_loop_once ?_
    clear e1 e2 e3 e4 e5 e6 e7 hh2 hl
    have b1' : ¬ ((4294967296 : Int) ≤ (q1 : Int)) := nle b1
    go_wp2
    refine wp_loop_once ?_
    clear e8 e9 E8 b1'
    have b4' : ¬ ((4294967296 : Int) ≤ (q0 : Int)) := nle b4
    go_wp2
    all_goals go_ret2
    obtain ⟨_, _, _, _, _, _, H1, H2⟩ := (HP : _ ∧ _)
    refine ⟨retUU ?_ ?_, 0, rfl⟩
    · show ((q1 : Int) * 4294967296 + (q0 : Int)) = _
      have H1' := congrArg (fun n : Nat => (n : Int)) H1
      simp only [Int.natCast_add, Int.natCast_mul] at H1'
      exact H1'
    · show (((r0 : Int) * 4294967296 + (u0 : Int)) / 288230376151711744) = _
      have H2' := congrArg (fun n : Nat => (n : Int)) H2
      exact H2'

theorem q60000 (a q : Nat) (h : q = a / 3932160000) : (a : Int) / 3932160000 = (q : Int) := by omega
theorem r60000 (a q r : Nat) (h : q = a / 3932160000) (h2 : r = a % 3932160000) : (a : Int) - (q : Int) * 3932160000 = (r : Int) := by omega
theorem rl60000 (a r : Nat) (h2 : r = a % 3932160000) : r < 3932160000 := by omega
theorem d60000 (a b q r : Nat) (h : q = a / 3932160000) (h2 : r = a % 3932160000) : (a : Int) * 4294967296 + (b : Int) - (q : Int) * 16888498602639360000 = ((r * 4294967296 + b : Nat) : Int) := by
  have h3 := r60000 a q r h h2
  clear h h2
  omega
theorem w60000 (a b q r : Nat) (h : q = a / 3932160000) (h2 : r = a % 3932160000) (hb : b < 4294967296) :
    IntKind.u64.wrap (IntKind.u64.wrap (IntKind.u64.wrap ((a : Int) * 4294967296) + b) - IntKind.u64.wrap ((q : Int) * 16888498602639360000)) = ((r * 4294967296 + b : Nat) : Int) := by
  have h3 := rl60000 a r h2
  exact un21 _ _ _ _ (d60000 a b q r h h2) (by omega) (by clear h h2; omega)

theorem lz60000 (w : World) : Calls Tryd.prog 60 #[.int .u64 60000] w fun e w' => e = .returned (i 48) ∧ w' = w := lz64 (y := 60000) (s := 48) (Or.inr (Or.inl ⟨rfl, rfl⟩)) w

set_option maxHeartbeats 4000000 in
set_option maxRecDepth 20000 in
theorem div64_60000 (hi lo : Nat) (hh : hi < 60000) (hl : lo < 18446744073709551616) (w : World) :
    Calls Tryd.prog 43 #[u hi, u lo, .int .u64 60000] w fun e w' => e = .returned (.tuple #[u ((hi * 18446744073709551616 + lo) / 60000), u ((hi * 18446744073709551616 + lo) % 60000)]) ∧ ∃ n, w' = w.drewN n := by
  obtain ⟨un, hun⟩ : ∃ un, un = hi * 281474976710656 + lo / 65536 := ⟨_, rfl⟩
  obtain ⟨lw, hlw⟩ : ∃ lw, lw = lo * 281474976710656 % 18446744073709551616 := ⟨_, rfl⟩
  obtain ⟨u1, hu1⟩ : ∃ u1, u1 = lw / 4294967296 := ⟨_, rfl⟩
  obtain ⟨u0, hu0⟩ : ∃ u0, u0 = lw % 4294967296 := ⟨_, rfl⟩
  have HP := Mon.div64_small hi lo 60000 281474976710656 65536 3932160000 hh hl (by decide) (by decide) (by decide) (by decide)
  rw [← hun, ← hlw, ← hu1, ← hu0] at HP
  have hlw' := lt1 hlw
  have e1 : bits BinOp.and IntKind.u64 16888498602639360000 4294967295 = 0 := maskN 16888498602639360000 (by decide)
  have e2 : bits BinOp.or IntKind.u64 ((hi : Int) * 281474976710656) ((lo : Int) / 65536) = (un : Int) := by
    have := or_shift hi (lo / 65536) 281474976710656 48 (by decide) (by omega) (by omega)
    rw [hun, ← this]; rfl
  have e3 : IntKind.u64.wrap ((lo : Int) * 281474976710656) = (lw : Int) := by rw [hlw]; exact wrapM (lo * 281474976710656)
  have e4 : bits BinOp.and IntKind.u64 (lw : Int) 4294967295 = (u0 : Int) := by rw [hu0]; exact maskN lw hlw'
  have e5 : (lw : Int) / 4294967296 = (u1 : Int) := by rw [hu1]; exact divN lw
  have hu0' : u0 < 4294967296 := lt0 (lo := 0) hu0
  have hu1' : u1 < 4294967296 := by clear HP; omega
  clear hun hlw hu1 hu0 hlw'
  obtain ⟨q1, hq1⟩ : ∃ q1, q1 = un / 3932160000 := ⟨_, rfl⟩
  obtain ⟨r1, hr1⟩ : ∃ r1, r1 = un % 3932160000 := ⟨_, rfl⟩
  rw [← hq1, ← hr1] at HP
  have b1 : q1 < 4294967296 := HP.2.2.2.1
  have e6 := q60000 un q1 hq1
  have e7 := r60000 un q1 r1 hq1 hr1
  have E8 := w60000 un u1 q1 r1 hq1 hr1 hu1'
  obtain ⟨v, hv⟩ : ∃ v, v = r1 * 4294967296 + u1 := ⟨_, rfl⟩
  rw [← hv] at HP E8
  have b3 : v < 16888498602639360000 := HP.2.2.2.2.1
  obtain ⟨q0, hq0⟩ : ∃ q0, q0 = v / 3932160000 := ⟨_, rfl⟩
  obtain ⟨r0, hr0⟩ : ∃ r0, r0 = v % 3932160000 := ⟨_, rfl⟩
  rw [← hq0, ← hr0] at HP
  have b4 : q0 < 4294967296 := HP.2.2.2.2.2.1
  have b5 := rl60000 v r0 hr0
  have e8 := q60000 v q0 hq0
  have e9 := r60000 v q0 r0 hq0 hr0
  have E9 := w60000 v u0 q0 r0 hq0 hr0 hu0'
  clear hq1 hr1 hv hq0 hr0
  have hh2 : ¬ ((60000 : Int) ≤ (hi : Int)) := by clear HP; omega
  clear hh
  replace HP : Hid _ := HP
  go_enter Tryd.func43, Tryd.ntmps43
  go_upto_region 15 with (go_at_call 60; refine (lz60000 _).mono ?_; rintro e w' ⟨rfl, rfl⟩)
  · go_quiet (fail)
    go_wp2
    go_ret2
    rename_i h0
    have h0' : hi = 0 := by simpa using h0
    subst h0'
    exact ⟨retUU (z1 lo 60000) (z2 lo 60000), nq, rfl⟩
  · go_wp2
    refine wp_loop_once ?_
    clear e1 e2 e3 e4 e5 e6 e7 hh2 hl
    have b1' : ¬ ((4294967296 : Int) ≤ (q1 : Int)) := nle b1
    go_wp2
    refine wp_loop_once ?_
    clear e8 e9 E8 b1'
    have b4' : ¬ ((4294967296 : Int) ≤ (q0 : Int)) := nle b4
    go_wp2
    all_goals go_ret2
    obtain ⟨_, _, _, _, _, _, H1, H2⟩ := (HP : _ ∧ _)
    refine ⟨retUU ?_ ?_, 0, rfl⟩
    · show ((q1 : Int) * 4294967296 + (q0 : Int)) = _
      have H1' := congrArg (fun n : Nat => (n : Int)) H1
      simp only [Int.natCast_add, Int.natCast_mul] at H1'
      exact H1'
    · show (((r0 : Int) * 4294967296 + (u0 : Int)) / 281474976710656) = _
      have H2' := congrArg (fun n : Nat => (n : Int)) H2
      exact H2'

theorem q10000 (a q : Nat) (h : q = a / 2621440000) : (a : Int) / 2621440000 = (q : Int) := by omega
theorem r10000 (a q r : Nat) (h : q = a / 2621440000) (h2 : r = a % 2621440000) : (a : Int) - (q : Int) * 2621440000 = (r : Int) := by omega
theorem rl10000 (a r : Nat) (h2 : r = a % 2621440000) : r < 2621440000 := by omega
theorem d10000 (a b q r : Nat) (h : q = a / 2621440000) (h2 : r = a % 2621440000) : (a : Int) * 4294967296 + (b : Int) - (q : Int) * 11258999068426240000 = ((r * 4294967296 + b : Nat) : Int) := by
  have h3 := r10000 a q r h h2
  clear h h2
  omega
theorem w10000 (a b q r : Nat) (h : q = a / 2621440000) (h2 : r = a % 2621440000) (hb : b < 4294967296) :
    IntKind.u64.wrap (IntKind.u64.wrap (IntKind.u64.wrap ((a : Int) * 4294967296) + b) - IntKind.u64.wrap ((q : Int) * 11258999068426240000)) = ((r * 4294967296 + b : Nat) : Int) := by
  have h3 := rl10000 a r h2
  exact un21 _ _ _ _ (d10000 a b q r h h2) (by omega) (by clear h h2; omega)

theorem lz10000 (w : World) : Calls Tryd.prog 60 #[.int .u64 10000] w fun e w' => e = .returned (i 50) ∧ w' = w := lz64 (y := 10000) (s := 50) (Or.inr (Or.inr ⟨rfl, rfl⟩)) w

set_option maxHeartbeats 4000000 in
set_option maxRecDepth 20000 in
theorem div64_10000 (hi lo : Nat) (hh : hi < 10000) (hl : lo < 18446744073709551616) (w : World) :
    Calls Tryd.prog 43 #[u hi, u lo, .int .u64 10000] w fun e w' => e = .returned (.tuple #[u ((hi * 18446744073709551616 + lo) / 10000), u ((hi * 18446744073709551616 + lo) % 10000)]) ∧ ∃ n, w' = w.drewN n := by
  obtain ⟨un, hun⟩ : ∃ un, un = hi * 1125899906842624 + lo / 16384 := ⟨_, rfl⟩
  obtain ⟨lw, hlw⟩ : ∃ lw, lw = lo * 1125899906842624 % 18446744073709551616 := ⟨_, rfl⟩
  obtain ⟨u1, hu1⟩ : ∃ u1, u1 = lw / 4294967296 := ⟨_, rfl⟩
  obtain ⟨u0, hu0⟩ : ∃ u0, u0 = lw % 4294967296 := ⟨_, rfl⟩
  have HP := Mon.div64_small hi lo 10000 1125899906842624 16384 2621440000 hh hl (by decide) (by decide) (by decide) (by decide)
  rw [← hun, ← hlw, ← hu1, ← hu0] at HP
  have hlw' := lt1 hlw
  have e1 : bits BinOp.and IntKind.u64 11258999068426240000 4294967295 = 0 := maskN 11258999068426240000 (by decide)
  have e2 : bits BinOp.or IntKind.u64 ((hi : Int) * 1125899906842624) ((lo : Int) / 16384) = (un : Int) := by
    have := or_shift hi (lo / 16384) 1125899906842624 50 (by decide) (by omega) (by omega)
    rw [hun, ← this]; rfl
  have e3 : IntKind.u64.wrap ((lo : Int) * 1125899906842624) = (lw : Int) := by rw [hlw]; exact wrapM (lo * 1125899906842624)
  have e4 : bits BinOp.and IntKind.u64 (lw : Int) 4294967295 = (u0 : Int) := by rw [hu0]; exact maskN lw hlw'
  have e5 : (lw : Int) / 4294967296 = (u1 : Int) := by rw [hu1]; exact divN lw
  have hu0' : u0 < 4294967296 := lt0 (lo := 0) hu0
  have hu1' : u1 < 4294967296 := by clear HP; omega
  clear hun hlw hu1 hu0 hlw'
  obtain ⟨q1, hq1⟩ : ∃ q1, q1 = un / 2621440000 := ⟨_, rfl⟩
  obtain ⟨r1, hr1⟩ : ∃ r1, r1 = un % 2621440000 := ⟨_, rfl⟩
  rw [← hq1, ← hr1] at HP
  have b1 : q1 < 4294967296 := HP.2.2.2.1
  have e6 := q10000 un q1 hq1
  have e7 := r10000 un q1 r1 hq1 hr1
  have E8 := w10000 un u1 q1 r1 hq1 hr1 hu1'
  obtain ⟨v, hv⟩ : ∃ v, v = r1 * 4294967296 + u1 := ⟨_, rfl⟩
  rw [← hv] at HP E8
  have b3 : v < 11258999068426240000 := HP.2.2.2.2.1
  obtain ⟨q0, hq0⟩ : ∃ q0, q0 = v / 2621440000 := ⟨_, rfl⟩
  obtain ⟨r0, hr0⟩ : ∃ r0, r0 = v % 2621440000 := ⟨_, rfl⟩
  rw [← hq0, ← hr0] at HP
  have b4 : q0 < 4294967296 := HP.2.2.2.2.2.1
  have b5 := rl10000 v r0 hr0
  have e8 := q10000 v q0 hq0
  have e9 := r10000 v q0 r0 hq0 hr0
  have E9 := w10000 v u0 q0 r0 hq0 hr0 hu0'
  clear hq1 hr1 hv hq0 hr0
  have hh2 : ¬ ((10000 : Int) ≤ (hi : Int)) := by clear HP; omega
  clear hh
  replace HP : Hid _ := HP
  go_enter Tryd.func43, Tryd.ntmps43
  go_upto_region 15 with (go_at_call 60; refine (lz10000 _).mono ?_; rintro e w' ⟨rfl, rfl⟩)
  · go_quiet (fail)
    go_wp2
    go_ret2
    rename_i h0
    have h0' : hi = 0 := by simpa using h0
    subst h0'
    exact ⟨retUU (z1 lo 10000) (z2 lo 10000), nq, rfl⟩
  · go_wp2
    refine wp_loop_once ?_
    clear e1 e2 e3 e4 e5 e6 e7 hh2 hl
    have b1' : ¬ ((4294967296 : Int) ≤ (q1 : Int)) := nle b1
    go_wp2
    refine wp_loop_once ?_
    clear e8 e9 E8 b1'
    have b4' : ¬ ((4294967296 : Int) ≤ (q0 : Int)) := nle b4
    go_wp2
    all_goals go_ret2
    obtain ⟨_, _, _, _, _, _, H1, H2⟩ := (HP : _ ∧ _)
    refine ⟨retUU ?_ ?_, 0, rfl⟩
    · show ((q1 : Int) * 4294967296 + (q0 : Int)) = _
      have H1' := congrArg (fun n : Nat => (n : Int)) H1
      simp only [Int.natCast_add, Int.natCast_mul] at H1'
      exact H1'
    · show (((r0 : Int) * 4294967296 + (u0 : Int)) / 1125899906842624) = _
      have H2' := congrArg (fun n : Nat => (n : Int)) H2
      exact H2'

end MonW
end Go.Proofs.YtndlhhiifmjieaaDoor
