/-
  The walk of tax.Adjust where an item is wanted.
-/
import Derived.Test.YtpgpibojegjogaaTaxA
namespace Go.Proofs.Ytpgpibojegjogaa
namespace MonW
set_option linter.unusedSimpArgs false
set_option linter.unusedVariables false
open Go.RowKit

theorem bool_cases (b : Bool) : b = true ∨ b = false := by cases b <;> simp

set_option maxHeartbeats 4000000 in
theorem adj_refuse (v : Value) (cs : List Itm) (least most : Int) (w : World) (h : ItmsAt w v cs) (hn : cs.length ≤ 16777216) (hb : badR least most = false) (hl : ¬ least < -1) (hm : ¬ most < -1)
    (hr : (least != -1) = false ∨ ((least != -1) = true ∧ (most != -1) = false) ∨ ((least != -1) = true ∧ (most != -1) = true ∧ ¬ most < least)) (hf : fitI (sNet cs) = true) (he : bnd (sNet cs) least most ≠ sNet cs)
    (hg : ∀ W, Calls Try.prog 27 #[i (sNet cs), i least, i most] W fun e w' => e = .returned (.tuple #[i (sumV (bnd (sNet cs) least most - sNet cs)), .bool (fitI (bnd (sNet cs) least most - sNet cs))]) ∧ Below W.heap.size W w')
    (hbad : 64 ≤ cs.length ∨ (¬ 64 ≤ cs.length ∧ fitI (bnd (sNet cs) least most - sNet cs) = false)) :
    Calls Try.prog 17 #[v, i least, i most] w (AdjPost cs least most w) := by
  have hA : adj cs least most = if 64 ≤ cs.length then (cs, 3) else if fitI (bnd (sNet cs) least most - sNet cs) = false then (cs, 20) else if txOk (adjX cs least most) then (cs ++ [txV (adjX cs least most)], 0) else (cs, 20) := by
    unfold adj; rw [if_neg (by rw [hb]; decide), if_neg (by rw [hf]; decide), if_neg he]
  have HI := Lib.hid h
  have HN := Lib.hid (netSum v cs w h hn)
  have HG := Lib.hid hg
  rcases sum_ways (sNet cs) with ⟨_, e1, e2⟩ | ⟨f1, _⟩
  · rw [e1, e2] at HN
    clear hg hb hf e1 e2
    have hD := sum_ways (bnd (sNet cs) least most - sNet cs)
    have hd0 : bnd (sNet cs) least most - sNet cs ≠ 0 := by omega
    clear he
    generalize bnd (sNet cs) least most - sNet cs = d at *
    generalize sNet cs = N at *
    obtain ⟨A, c, rfl, h1, h2, h0⟩ := SliceAt.form' h
    clear h h0
    unfold maxLen at h2
    rcases hbad with hbig | ⟨hbig, hfd⟩
    · rw [if_pos hbig] at hA
      have HF := Lib.hid hA
      clear hA
      have hbz : (64 : Int) ≤ (cs.length : Int) := by omega
      have hd : (fitI d = true ∧ sumV d = d ∧ (d == 0) = false) ∨ (fitI d = false ∧ sumV d = 0) := by
        rcases hD with ⟨a1, a2, a3⟩ | ⟨a1, a2, a3⟩
        · exact .inl ⟨a1, a2, beq_eq_false_iff_ne.2 hd0⟩
        · exact .inr ⟨a1, a2⟩
      clear hD hd0
      rcases hd with ⟨a1, a2, a3⟩ | ⟨a1, a2⟩ <;> rw [a1, a2] at HG <;> clear a1 a2 <;> rcases hr with q1 | ⟨q1, q2⟩ | ⟨q1, q2, q3⟩
      all_goals
        go_enter Try.func17, Try.ntmps17
        go_wp2_with fail
        refine HN.out.mono ?_
        rintro e w1 ⟨rfl, hb1⟩
        go_wp2_with fail
        refine (HG.out _).mono ?_
        rintro e w2 ⟨rfl, hb2⟩
        go_wp2_with fail
        go_ret2
        exact AdjPost.mk HF.out (HI.out.call (below_call hb1 hb2)) (below_call hb1 hb2)
    · rw [if_neg hbig, if_pos hfd] at hA
      have HF := Lib.hid hA
      clear hA
      have hbz : ¬ (64 : Int) ≤ (cs.length : Int) := by omega
      rcases hD with ⟨a1, a2, a3⟩ | ⟨a1, a2, a3⟩
      · rw [a1] at hfd; cases hfd
      rw [a1, a2] at HG
      clear a1 a2 a3 hfd hd0
      rcases hr with q1 | ⟨q1, q2⟩ | ⟨q1, q2, q3⟩
      all_goals
        go_enter Try.func17, Try.ntmps17
        go_wp2_with fail
        refine HN.out.mono ?_
        rintro e w1 ⟨rfl, hb1⟩
        go_wp2_with fail
        refine (HG.out _).mono ?_
        rintro e w2 ⟨rfl, hb2⟩
        go_wp2_with fail
        go_ret2
        exact AdjPost.mk HF.out (HI.out.call (below_call hb1 hb2)) (below_call hb1 hb2)
  · rw [f1] at hf; cases hf

/-- The words of the region 'append(append(out, l...), i)'. -/
def adG (W : World) (base g0 cap : Nat) (w : World) : Prop := W.grownBy w (some g0) ∧ w.ownsRow base 30 7 (.slice (some ⟨g0, 0, none⟩) 0 cap) 0 []
def adΦ (base g0 cap : Nat) (lv : Value) (cs : List Itm) (z : Itm) (k : Nat) (y : Value) (w : World) : Prop := match k with
  | 0 => y = .slice (some ⟨g0, 0, none⟩) 0 cap
  | 1 => y = lv
  | 2 => y = .slice (some ⟨g0, 0, none⟩) cs.length cap ∧ OwnI base w y cs
  | 3 => y = itmV z
  | 4 => ∃ g, y = .slice (some ⟨g, 0, none⟩) 1 1 ∧ g0 < g ∧ Blk w g 30 (itmA z)
  | _ => True
theorem adΦ_keep {base g0 cap : Nat} {lv : Value} {cs : List Itm} {z : Itm} {w w' : World} (h : Below w.heap.size w w') : ∀ k u, adΦ base g0 cap lv cs z k u w → adΦ base g0 cap lv cs z k u w' := by
  intro k u hk
  unfold adΦ at *
  split at hk
  · exact hk
  · exact hk
  · exact ⟨hk.1, hk.2.call h⟩
  · exact hk
  · obtain ⟨g, a, hB, b⟩ := hk
    exact ⟨g, a, hB, b.call h⟩
  · trivial
theorem grown_of {w w' : World} {r : Option Nat} (h : Below w.heap.size w w') : w.grownBy w' r := ⟨h.os, h.tape, h.output, h.size, fun k hk _ => h.block k hk⟩
theorem adG_keep {W : World} {base g0 cap : Nat} {w w' : World} (h : Below w.heap.size w w') (hg : adG W base g0 cap w) : adG W base g0 cap w' :=
  ⟨grownBy_trans hg.1 (grown_of h), ownsRow_call hg.2 h⟩
theorem own_empty {w : World} {base g cap n : Nat} {e : TypeId} {size : Nat} {xs : List Value} (h : w.ownsRow base e size (.slice (some ⟨g, 0, none⟩) n cap) n xs) : w.ownsRow base e size (.slice (some ⟨g, 0, none⟩) 0 cap) 0 [] := by
  refine ⟨by simp, ?_⟩
  rcases h.2 with ⟨h0, _⟩ | ⟨g', cap', cur, h0, r1, r2, r3, r4, r5, r6⟩
  · cases h0
  · injection h0 with q1 q2 q3
    injection q1 with q1
    injection q1 with q1
    subst q1; subst q3
    exact .inr ⟨g, cap, cur, rfl, r1, r2, Nat.zero_le _, r4, r5, by simp⟩
end MonW
end Go.Proofs.Ytpgpibojegjogaa
