/-
  The walks of tax.gap and tax.taxOfGreatest.
-/
import Derived.Test.YtpgpibojegjogaaTaxR
namespace Go.Proofs.Ytpgpibojegjogaa
namespace MonW
set_option linter.unusedSimpArgs false
set_option linter.unusedVariables false
open Go.RowKit

def bnd (N least most : Int) : Int := if least ≠ -1 ∧ N < least then least else if most ≠ -1 ∧ most < N then most else N

theorem gap_ways (N least most : Int) (hN : I64 N) (hl : -1 ≤ least) (hm : -1 ≤ most) (hl' : I64 least) (hm' : I64 most) :
    ((bnd N least most = N) ∧ ((least != -1) = false ∨ ((least != -1) = true ∧ ¬ N < least)) ∧ ((most != -1) = false ∨ ((most != -1) = true ∧ ¬ most < N))) ∨
    ((bnd N least most ≠ N) ∧ (((least != -1) = true ∧ N < least ∧ bnd N least most = least) ∨ (((least != -1) = false ∨ ((least != -1) = true ∧ ¬ N < least)) ∧ (most != -1) = true ∧ most < N ∧ bnd N least most = most))) := by
  unfold bnd
  by_cases h1 : least ≠ -1 ∧ N < least
  · right
    rw [if_pos h1]
    exact ⟨by omega, .inl ⟨bne_iff_ne.2 h1.1, h1.2, rfl⟩⟩
  · rw [if_neg h1]
    have q1 : (least != -1) = false ∨ ((least != -1) = true ∧ ¬ N < least) := by
      by_cases h : least = -1
      · left; rw [h]; rfl
      · right; exact ⟨bne_iff_ne.2 h, by omega⟩
    by_cases h2 : most ≠ -1 ∧ most < N
    · right
      rw [if_pos h2]
      exact ⟨by omega, .inr ⟨q1, bne_iff_ne.2 h2.1, h2.2, rfl⟩⟩
    · left
      rw [if_neg h2]
      refine ⟨rfl, q1, ?_⟩
      by_cases h : most = -1
      · left; rw [h]; rfl
      · right; exact ⟨bne_iff_ne.2 h, by omega⟩

set_option maxHeartbeats 1000000 in
theorem gap_no (N least most : Int) (w : World) (h : (least != -1) = false ∨ ((least != -1) = true ∧ ¬ N < least)) (h' : (most != -1) = false ∨ ((most != -1) = true ∧ ¬ most < N)) :
    Calls Try.prog 27 #[i N, i least, i most] w fun e w' => e = .returned (.tuple #[i 0, .bool true]) ∧ Below w.heap.size w w' := by
  rcases h with h | ⟨h, h0⟩ <;> rcases h' with h' | ⟨h', h0'⟩
  all_goals
    go_enter Try.func27, Try.ntmps27
    go_wp2_with fail
    go_ret2
    exact ⟨rfl, Below.refl _ _⟩

set_option maxHeartbeats 1000000 in
theorem gap_yes (N least most b : Int) (w : World) (hN : I64 N) (hb : I64 b) (hb0 : -1 ≤ b) (hne : b ≠ N) (hlow : N < 0 → 0 ≤ b)
    (h : ((least != -1) = true ∧ N < least ∧ b = least) ∨ (((least != -1) = false ∨ ((least != -1) = true ∧ ¬ N < least)) ∧ (most != -1) = true ∧ most < N ∧ b = most)) :
    Calls Try.prog 27 #[i N, i least, i most] w fun e w' => e = .returned (.tuple #[i (sumV (b - N)), .bool (fitI (b - N))]) ∧ Below w.heap.size w w' := by
  have hne2 : (b == N) = false := beq_eq_false_iff_ne.2 hne
  unfold I64 at hN hb
  by_cases hmin : N = -9223372036854775808
  · have HV : Hid (sumV (b - N) = 0 ∧ fitI (b - N) = false) := by
      have : fitI (b - N) = false := decide_eq_false (by omega)
      show _ ∧ _
      unfold sumV
      rw [this]
      exact ⟨rfl, rfl⟩
    have hm2 : (N == -9223372036854775808) = true := beq_iff_eq.2 hmin
    clear hmin hN hlow hne
    rcases h with ⟨h1, h2, rfl⟩ | ⟨h0 | ⟨h0, h00⟩, h1, h2, rfl⟩
    all_goals
      clear hb hb0
      go_enter Try.func27, Try.ntmps27
      go_wp2_with fail
      go_ret2
      exact ⟨retIB HV.out.1.symm HV.out.2.symm, Below.refl _ _⟩
  · have hm2 : (N == -9223372036854775808) = false := beq_eq_false_iff_ne.2 hmin
    have HP := Lib.hid (fun W => plus b (-N) W hb (by unfold I64; omega))
    have e : b + -N = b - N := by omega
    rw [e] at HP
    clear hlow hne e
    rcases h with ⟨h1, h2, rfl⟩ | ⟨h0 | ⟨h0, h00⟩, h1, h2, rfl⟩
    all_goals
      clear hb
      go_enter Try.func27, Try.ntmps27
      go_wp2_with fail
      refine (HP.out _).mono ?_
      rintro e w1 ⟨rfl, n1, rfl⟩
      go_wp2_with fail
      go_ret2
      exact ⟨rfl, below_drewN' (Below.refl _ _) _⟩

def better (b x : Itm) : Itm := if b.net < x.net then x else b
def bestTo (c : Itm) (cs : List Itm) (k : Nat) : Itm := (cs.take k).foldl better c
def topTax : List Itm → Int
  | [] => 0
  | c :: cs => (cs.foldl better c).tax
theorem bestTo_zero (c : Itm) (cs : List Itm) : bestTo c cs 0 = c := rfl
theorem bestTo_succ (c : Itm) (cs : List Itm) {k : Nat} (hk : k < cs.length) : bestTo c cs (k + 1) = better (bestTo c cs k) cs[k] := by
  unfold bestTo
  rw [List.take_succ_eq_append_getElem hk, List.foldl_append]
  rfl
theorem bestTo_all (c : Itm) (cs : List Itm) : bestTo c cs cs.length = cs.foldl better c := by unfold bestTo; rw [List.take_length]
abbrev itmA (x : Itm) : Array Value := #[i x.kind, i x.price, i x.tax, i x.qty, i x.net, i x.vat, i x.gross]

theorem set7 {w : World} {g : Nat} {t : TypeId} {x : Itm} (z : Itm) (h : Blk w g t (itmA x)) :
    Blk (((((((w.setCell ⟨g, 0, none⟩ (i z.kind)).setCell ⟨g, 1, none⟩ (i z.price)).setCell ⟨g, 2, none⟩ (i z.tax)).setCell ⟨g, 3, none⟩ (i z.qty)).setCell ⟨g, 4, none⟩ (i z.net)).setCell ⟨g, 5, none⟩ (i z.vat)).setCell ⟨g, 6, none⟩ (i z.gross)) g t (itmA z) := by
  simpa using ((((((h.set_ 0 (i z.kind)).set_ 1 (i z.price)).set_ 2 (i z.tax)).set_ 3 (i z.qty)).set_ 4 (i z.net)).set_ 5 (i z.vat)).set_ 6 (i z.gross)

set_option maxHeartbeats 2000000 in
theorem taxOfGreatest (v : Value) (cs : List Itm) (w : World) (h : ItmsAt w v cs) :
    Calls Try.prog 29 #[v] w fun e w' => e = .returned (i (topTax cs)) ∧ Below w.heap.size w w' := by
  obtain ⟨A, k, rfl, h1, h2⟩ := SliceAt.form h
  unfold maxLen at h2
  have HC := Lib.hid h
  clear h
  rcases cs with _ | ⟨c, cs⟩
  · go_enter Try.func29, Try.ntmps29
    go_wp2_with fail
    go_ret
    exact ⟨rfl, Below.refl _ _⟩
  · obtain ⟨b, off, rfl, hbl, _, hrow⟩ := ItmsAt.at_ (j := 0) HC.out (by simp)
    obtain ⟨l1, l2, l3, l4, l5, l6, l7⟩ := hrow w (Kept.refl _)
    simp only [List.getElem_cons_zero, Nat.zero_mul, Nat.add_zero] at l1 l2 l3 l4 l5 l6 l7
    clear hrow
    have hlz : ((cs.length : Int) + 1 == 0) = false := beq_eq_false_iff_ne.2 (by omega)
    have HK := Lib.hid (Blk.new w 30 (itmA c))
    have HB0 := Lib.hid (below_new w (.cells (itmA c) 30))
    have HT : Hid (topTax (c :: cs) = (cs.foldl better c).tax) := rfl
    rw [List.length_cons] at *
    by_cases hk1 : k = 1
    · subst hk1
      have hcs : cs = [] := List.eq_nil_of_length_eq_zero (by omega)
      subst hcs
      go_enter Try.func29, Try.ntmps29
      go_wp2_with fail
      refine wp_loop_once ?_
      go_wp2_with fail
      go_ret
      exact ⟨rfl, HB0.out⟩
    · go_enter Try.func29, Try.ntmps29
      go_wp2_with fail
      clear l1 l2 l3 l4 l5 l6 l7 hlz
      go_loopg [15] cs.length (fun gg s15 wr => ∃ kk : Nat, kk ≤ cs.length ∧ cs.length - kk ≤ gg ∧ s15 = i kk ∧ Hid (Blk wr w.heap.size 30 (itmA (bestTo c cs kk))) ∧ Hid (Below w.heap.size w wr))
      case atStart => exact ⟨0, Nat.zero_le _, by omega, rfl, HK, HB0⟩
      case round =>
        obtain ⟨kk, hkk, hg, rfl, HB, BW⟩ := hrel
        clear HK HB0
        by_cases hlt : kk < cs.length
        · have hltz : (kk : Int) < (cs.length : Int) := by omega
          obtain ⟨b', off', hA, _, _, hrow⟩ := ItmsAt.at_ (j := kk + 1) HC.out (by simpa using hlt)
          injection hA with hA
          injection hA with hA1 hA2
          subst hA1; subst hA2
          obtain ⟨l1, l2, l3, l4, l5, l6, l7⟩ := hrow wr (Kept.of BW.out)
          simp only [List.getElem_cons_succ, show off + (kk + 1) * 7 = off + 7 + kk * 7 by omega] at l1 l2 l3 l4 l5 l6 l7
          clear hrow
          have HS := Lib.hid (bestTo_succ c cs hlt)
          generalize cs[kk] = y at *
          generalize bestTo c cs kk = z at *
          have bc := HB.out.cell
          have bf := HB.out.frozen
          have bl := HB.out.lt
          by_cases hbt : z.net < y.net
          · have HE : Hid (bestTo c cs (kk + 1) = y) := by show _ = _; rw [HS.out]; unfold better; rw [if_pos hbt]
            have HB2 := Lib.hid (set7 y HB.out)
            have hB := BW.out
            have HBB : Hid (Below w.heap.size w (((((((wr.setCell ⟨w.heap.size, 0, none⟩ (i y.kind)).setCell ⟨w.heap.size, 1, none⟩ (i y.price)).setCell ⟨w.heap.size, 2, none⟩ (i y.tax)).setCell ⟨w.heap.size, 3, none⟩ (i y.qty)).setCell ⟨w.heap.size, 4, none⟩ (i y.net)).setCell ⟨w.heap.size, 5, none⟩ (i y.vat)).setCell ⟨w.heap.size, 6, none⟩ (i y.gross))) := by
              show Below _ _ _
              repeat (first | (with_reducible exact Below.refl _ _) | (with_reducible refine below_drewN' ?_ _) | (with_reducible refine Below.drew ?_) | (with_reducible refine Below.setCell ?_ (by first | (simp; done) | (simp; omega) | omega) _) | (with_reducible refine below_alloc ?_ _) | (with_reducible refine Below.alloc ?_ (by first | (simp; done) | (simp; omega) | omega) _) | (with_reducible exact hB) | (with_reducible refine below_call ?_ hB))
            clear hB HS
            go_wp2_with fail
            go_roundg (cs.length - (kk + 1))
            case measure => omega
            case rel => exact ⟨kk + 1, by omega, by omega, by go_num, (by show Blk _ _ _ _; rw [HE.out]; exact HB2.out.alloc _), below_alloc HBB.out _⟩
          · have HE : Hid (bestTo c cs (kk + 1) = z) := by show _ = _; rw [HS.out]; unfold better; rw [if_neg hbt]
            clear HS
            go_wp2_with fail
            go_roundg (cs.length - (kk + 1))
            case measure => omega
            case rel => exact ⟨kk + 1, by omega, by omega, by go_num, (by show Blk _ _ _ _; rw [HE.out]; exact HB.out.alloc _), below_alloc BW.out _⟩
        · have hltz : ¬ (kk : Int) < (cs.length : Int) := by omega
          have hke : kk = cs.length := by omega
          subst hke
          rw [bestTo_all] at HB
          generalize cs.foldl better c = z at *
          have bc := HB.out.cell
          have bl := HB.out.lt
          go_wp2_with fail
          go_ret
          exact ⟨retI' (by rw [HT.out]), BW.out⟩
end MonW
end Go.Proofs.Ytpgpibojegjogaa
