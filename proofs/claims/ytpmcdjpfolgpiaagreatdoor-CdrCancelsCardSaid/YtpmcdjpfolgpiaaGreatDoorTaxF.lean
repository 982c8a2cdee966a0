/-
  The walks of tax.gap and tax.taxOfGreatest.
  The walk of tax.Adjust.
  The walk of tax.Adjust where an item is wanted.
  The walk of tax.Adjust where an item is added, and Adjust as a whole.
-/
import Derived.Test.YtpmcdjpfolgpiaaGreatDoorTaxU
import Derived.Test.YtpmcdjpfolgpiaaGreatDoorBase
import Derived.Laws.AppendOwnNone
namespace Go.Proofs.YtpmcdjpfolgpiaaGreatDoor
namespace MonW
set_option linter.unusedSimpArgs false
set_option linter.unusedVariables false
open Go.RowKit

def bnd (N least most : Int) : Int := if least ≠ -1 ∧ N < least then least else if most ≠ -1 ∧ most < N then most else N

theorem gap_ways (N least most : Int) (hN : I64 N) (hl : -1 ≤ least) (hm : -1 ≤ most) (hl' : I64 least) (hm' : I64 most) :
    ((bnd N least most = N) ∧ ((least != -1) = false ∨ ((least != -1) = true ∧ ¬ N < least)) ∧ ((most != -1) = false ∨ ((most != -1) = true ∧ ¬ most < N))) ∨
    ((bnd N least most ≠ N) ∧ (((least != -1) = true ∧ N < least ∧ bnd N least most = least) ∨ (((least != -1) = false ∨ ((least != -1) = true ∧ ¬ N < least)) ∧ (most != -1) = true ∧ most < N ∧ bnd N least most = most))) := by
  unfold bnd
  by_cases h1 : least ≠ -1 ∧ N < least
  · right
    rw [if_pos h1]
    exact ⟨by omega, .inl ⟨bne_iff_ne.2 h1.1, h1.2, rfl⟩⟩
  · rw [if_neg h1]
    have q1 : (least != -1) = false ∨ ((least != -1) = true ∧ ¬ N < least) := by
      by_cases h : least = -1
      · left; rw [h]; rfl
      · right; exact ⟨bne_iff_ne.2 h, by omega⟩
    by_cases h2 : most ≠ -1 ∧ most < N
    · right
      rw [if_pos h2]
      exact ⟨by omega, .inr ⟨q1, bne_iff_ne.2 h2.1, h2.2, rfl⟩⟩
    · left
      rw [if_neg h2]
      refine ⟨rfl, q1, ?_⟩
      by_cases h : most = -1
      · left; rw [h]; rfl
      · right; exact ⟨bne_iff_ne.2 h, by omega⟩

set_option maxHeartbeats 1000000 in
theorem gap_no (N least most : Int) (w : World) (h : (least != -1) = false ∨ ((least != -1) = true ∧ ¬ N < least)) (h' : (most != -1) = false ∨ ((most != -1) = true ∧ ¬ most < N)) :
    Calls Tryz.prog 99 #[i N, i least, i most] w fun e w' => e = .returned (.tuple #[i 0, .bool true]) ∧ Below w.heap.size w w' := by
  rcases h with h | ⟨h, h0⟩ <;> rcases h' with h' | ⟨h', h0'⟩
  all_goals
    go_enter Tryz.func99, Tryz.ntmps99
    go_wp2_with fail
    go_ret2
    exact ⟨rfl, Below.refl _ _⟩

set_option maxHeartbeats 1000000 in
theorem gap_yes (N least most b : Int) (w : World) (hN : I64 N) (hb : I64 b) (hb0 : -1 ≤ b) (hne : b ≠ N) (hlow : N < 0 → 0 ≤ b)
    (h : ((least != -1) = true ∧ N < least ∧ b = least) ∨ (((least != -1) = false ∨ ((least != -1) = true ∧ ¬ N < least)) ∧ (most != -1) = true ∧ most < N ∧ b = most)) :
    Calls Tryz.prog 99 #[i N, i least, i most] w fun e w' => e = .returned (.tuple #[i (sumV (b - N)), .bool (fitI (b - N))]) ∧ Below w.heap.size w w' := by
  have hne2 : (b == N) = false := beq_eq_false_iff_ne.2 hne
  unfold I64 at hN hb
  by_cases hmin : N = -9223372036854775808
  · have HV : Hid (sumV (b - N) = 0 ∧ fitI (b - N) = false) := by
      have : fitI (b - N) = false := decide_eq_false (by omega)
      show _ ∧ _
      unfold sumV
      rw [this]
      exact ⟨rfl, rfl⟩
    have hm2 : (N == -9223372036854775808) = true := beq_iff_eq.2 hmin
    clear hmin hN hlow hne
    rcases h with ⟨h1, h2, rfl⟩ | ⟨h0 | ⟨h0, h00⟩, h1, h2, rfl⟩
    all_goals
      clear hb hb0
      go_enter Tryz.func99, Tryz.ntmps99
      go_wp2_with fail
      go_ret2
      exact ⟨retIB HV.out.1.symm HV.out.2.symm, Below.refl _ _⟩
  · have hm2 : (N == -9223372036854775808) = false := beq_eq_false_iff_ne.2 hmin
    have HP := Lib.hid (fun W => plus b (-N) W hb (by unfold I64; omega))
    have e : b + -N = b - N := by omega
    rw [e] at HP
    clear hlow hne e
    rcases h with ⟨h1, h2, rfl⟩ | ⟨h0 | ⟨h0, h00⟩, h1, h2, rfl⟩
    all_goals
      clear hb
      go_enter Tryz.func99, Tryz.ntmps99
      go_wp2_with fail
      refine (HP.out _).mono ?_
      rintro e w1 ⟨rfl, n1, rfl⟩
      go_wp2_with fail
      go_ret2
      exact ⟨rfl, below_drewN' (Below.refl _ _) _⟩

def better (b x : Itm) : Itm := if b.net < x.net then x else b
def bestTo (c : Itm) (cs : List Itm) (k : Nat) : Itm := (cs.take k).foldl better c
def topTax : List Itm → Int
  | [] => 0
  | c :: cs => (cs.foldl better c).tax
theorem bestTo_succ (c : Itm) (cs : List Itm) {k : Nat} (hk : k < cs.length) : bestTo c cs (k + 1) = better (bestTo c cs k) cs[k] := by
  unfold bestTo
  rw [List.take_succ_eq_append_getElem hk, List.foldl_append]
  rfl
theorem bestTo_all (c : Itm) (cs : List Itm) : bestTo c cs cs.length = cs.foldl better c := by unfold bestTo; rw [List.take_length]
abbrev itmA (x : Itm) : Array Value := #[i x.kind, i x.price, i x.tax, i x.qty, i x.net, i x.vat, i x.gross]

theorem set7 {w : World} {g : Nat} {t : TypeId} {x : Itm} (z : Itm) (h : Blk w g t (itmA x)) :
    Blk (((((((w.setCell ⟨g, 0, none⟩ (i z.kind)).setCell ⟨g, 1, none⟩ (i z.price)).setCell ⟨g, 2, none⟩ (i z.tax)).setCell ⟨g, 3, none⟩ (i z.qty)).setCell ⟨g, 4, none⟩ (i z.net)).setCell ⟨g, 5, none⟩ (i z.vat)).setCell ⟨g, 6, none⟩ (i z.gross)) g t (itmA z) := by
  simpa using ((((((h.set_ 0 (i z.kind)).set_ 1 (i z.price)).set_ 2 (i z.tax)).set_ 3 (i z.qty)).set_ 4 (i z.net)).set_ 5 (i z.vat)).set_ 6 (i z.gross)

set_option maxHeartbeats 2000000 in
theorem taxOfGreatest (v : Value) (cs : List Itm) (w : World) (h : ItmsAt w v cs) :
    Calls Tryz.prog 101 #[v] w fun e w' => e = .returned (i (topTax cs)) ∧ Below w.heap.size w w' := by
  obtain ⟨A, k, rfl, h1, h2⟩ := SliceAt.form h
  unfold maxLen at h2
  have HC := Lib.hid h
  clear h
  rcases cs with _ | ⟨c, cs⟩
  · go_enter Tryz.func101, Tryz.ntmps101
    go_wp2_with fail
    go_ret
    exact ⟨rfl, Below.refl _ _⟩
  · obtain ⟨b, off, rfl, hbl, _, hrow⟩ := ItmsAt.at_ (j := 0) HC.out (by simp)
    obtain ⟨l1, l2, l3, l4, l5, l6, l7⟩ := hrow w (Kept.refl _)
    simp only [List.getElem_cons_zero, Nat.zero_mul, Nat.add_zero] at l1 l2 l3 l4 l5 l6 l7
    clear hrow
    have hlz : ((cs.length : Int) + 1 == 0) = false := beq_eq_false_iff_ne.2 (by omega)
    have HK := Lib.hid (Blk.new w 52 (itmA c))
    have HB0 := Lib.hid (below_new w (.cells (itmA c) 52))
    have HT : Hid (topTax (c :: cs) = (cs.foldl better c).tax) := rfl
    rw [List.length_cons] at *
    by_cases hk1 : k = 1
    · subst hk1
      have hcs : cs = [] := List.eq_nil_of_length_eq_zero (by omega)
      subst hcs
      go_enter Tryz.func101, Tryz.ntmps101
      go_wp2_with fail
      refine wp_loop_once ?_
      go_wp2_with fail
      go_ret
      exact ⟨rfl, HB0.out⟩
    · go_enter Tryz.func101, Tryz.ntmps101
      go_wp2_with fail
      clear l1 l2 l3 l4 l5 l6 l7 hlz
      go_loopg [15] cs.length (fun gg s15 wr => ∃ kk : Nat, kk ≤ cs.length ∧ cs.length - kk ≤ gg ∧ s15 = i kk ∧ Hid (Blk wr w.heap.size 52 (itmA (bestTo c cs kk))) ∧ Hid (Below w.heap.size w wr))
      case atStart => exact ⟨0, Nat.zero_le _, by omega, rfl, HK, HB0⟩
      case round =>
        obtain ⟨kk, hkk, hg, rfl, HB, BW⟩ := hrel
        clear HK HB0
        by_cases hlt : kk < cs.length
        · have hltz : (kk : Int) < (cs.length : Int) := by omega
          obtain ⟨b', off', hA, _, _, hrow⟩ := ItmsAt.at_ (j := kk + 1) HC.out (by simpa using hlt)
          injection hA with hA
          injection hA with hA1 hA2
          subst hA1; subst hA2
          obtain ⟨l1, l2, l3, l4, l5, l6, l7⟩ := hrow wr (Kept.of BW.out)
          simp only [List.getElem_cons_succ, show off + (kk + 1) * 7 = off + 7 + kk * 7 by omega] at l1 l2 l3 l4 l5 l6 l7
          clear hrow
          have HS := Lib.hid (bestTo_succ c cs hlt)
          generalize cs[kk] = y at *
          generalize bestTo c cs kk = z at *
          have bc := HB.out.cell
          have bf := HB.out.frozen
          have bl := HB.out.lt
          by_cases hbt : z.net < y.net
          · have HE : Hid (bestTo c cs (kk + 1) = y) := by show _ = _; rw [HS.out]; unfold better; rw [if_pos hbt]
            have HB2 := Lib.hid (set7 y HB.out)
            have hB := BW.out
            have HBB : Hid (Below w.heap.size w (((((((wr.setCell ⟨w.heap.size, 0, none⟩ (i y.kind)).setCell ⟨w.heap.size, 1, none⟩ (i y.price)).setCell ⟨w.heap.size, 2, none⟩ (i y.tax)).setCell ⟨w.heap.size, 3, none⟩ (i y.qty)).setCell ⟨w.heap.size, 4, none⟩ (i y.net)).setCell ⟨w.heap.size, 5, none⟩ (i y.vat)).setCell ⟨w.heap.size, 6, none⟩ (i y.gross))) := by
              show Below _ _ _
              repeat (first | (with_reducible exact Below.refl _ _) | (with_reducible refine below_drewN' ?_ _) | (with_reducible refine Below.drew ?_) | (with_reducible refine Below.setCell ?_ (by first | (simp; done) | (simp; omega) | omega) _) | (with_reducible refine below_alloc ?_ _) | (with_reducible refine Below.alloc ?_ (by first | (simp; done) | (simp; omega) | omega) _) | (with_reducible exact hB) | (with_reducible refine below_call ?_ hB))
            clear hB HS
            go_wp2_with fail
            go_roundg (cs.length - (kk + 1))
            case measure => omega
            case rel => exact ⟨kk + 1, by omega, by omega, by go_num, (by show Blk _ _ _ _; rw [HE.out]; exact HB2.out.alloc _), below_alloc HBB.out _⟩
          · have HE : Hid (bestTo c cs (kk + 1) = z) := by show _ = _; rw [HS.out]; unfold better; rw [if_neg hbt]
            clear HS
            go_wp2_with fail
            go_roundg (cs.length - (kk + 1))
            case measure => omega
            case rel => exact ⟨kk + 1, by omega, by omega, by go_num, (by show Blk _ _ _ _; rw [HE.out]; exact HB.out.alloc _), below_alloc BW.out _⟩
        · have hltz : ¬ (kk : Int) < (cs.length : Int) := by omega
          have hke : kk = cs.length := by omega
          subst hke
          rw [bestTo_all] at HB
          generalize cs.foldl better c = z at *
          have bc := HB.out.cell
          have bl := HB.out.lt
          go_wp2_with fail
          go_ret
          exact ⟨retI' (by rw [HT.out]), BW.out⟩
end MonW
end Go.Proofs.YtpmcdjpfolgpiaaGreatDoor

namespace Go.Proofs.YtpmcdjpfolgpiaaGreatDoor
namespace MonW
set_option linter.unusedSimpArgs false
set_option linter.unusedVariables false
open Go.RowKit

def badR (least most : Int) : Bool := decide (least < -1 ∨ most < -1 ∨ (least ≠ -1 ∧ most ≠ -1 ∧ most < least))
def adjX (cs : List Itm) (least most : Int) : Itm := ⟨1, bnd (sNet cs) least most - sNet cs, topTax cs, 1, bnd (sNet cs) least most - sNet cs, 0, 0⟩
def adj (cs : List Itm) (least most : Int) : List Itm × Int :=
  if badR least most then (cs, 2) else if fitI (sNet cs) = false then (cs, 20) else if bnd (sNet cs) least most = sNet cs then (cs, 0) else if 64 ≤ cs.length then (cs, 3)
  else if fitI (bnd (sNet cs) least most - sNet cs) = false then (cs, 20) else if txOk (adjX cs least most) then (cs ++ [txV (adjX cs least most)], 0) else (cs, 20)
def AdjPost (cs : List Itm) (least most : Int) (w : World) (e : Ending) (w' : World) : Prop := ∃ v, e = .returned (.tuple #[v, i (adj cs least most).2]) ∧ ItmsAt w' v (adj cs least most).1 ∧ Below w.heap.size w w'
theorem AdjPost.mk {cs ds : List Itm} {least most n : Int} {w w' : World} {v : Value} (h : adj cs least most = (ds, n)) (hv : ItmsAt w' v ds) (hb : Below w.heap.size w w') : AdjPost cs least most w (.returned (.tuple #[v, i n])) w' :=
  ⟨v, by rw [h], by rw [h]; exact hv, hb⟩

theorem range_ways (least most : Int) : (badR least most = true ∧ (least < -1 ∨ (¬ least < -1 ∧ most < -1) ∨ (¬ least < -1 ∧ ¬ most < -1 ∧ (least != -1) = true ∧ (most != -1) = true ∧ most < least))) ∨
    (badR least most = false ∧ ¬ least < -1 ∧ ¬ most < -1 ∧ ((least != -1) = false ∨ ((least != -1) = true ∧ (most != -1) = false) ∨ ((least != -1) = true ∧ (most != -1) = true ∧ ¬ most < least))) := by
  unfold badR
  by_cases h : least < -1 ∨ most < -1 ∨ (least ≠ -1 ∧ most ≠ -1 ∧ most < least)
  · left
    refine ⟨decide_eq_true h, ?_⟩
    by_cases h1 : least < -1
    · exact .inl h1
    · by_cases h2 : most < -1
      · exact .inr (.inl ⟨h1, h2⟩)
      · have : least ≠ -1 ∧ most ≠ -1 ∧ most < least := by omega
        exact .inr (.inr ⟨h1, h2, bne_iff_ne.2 this.1, bne_iff_ne.2 this.2.1, this.2.2⟩)
  · right
    refine ⟨decide_eq_false h, by omega, by omega, ?_⟩
    by_cases h1 : least = -1
    · left; rw [h1]; rfl
    · right
      by_cases h2 : most = -1
      · left; rw [h2]; exact ⟨bne_iff_ne.2 h1, rfl⟩
      · right; exact ⟨bne_iff_ne.2 h1, bne_iff_ne.2 h2, by omega⟩

set_option maxHeartbeats 1000000 in
theorem adj_bad (v : Value) (cs : List Itm) (least most : Int) (w : World) (h : ItmsAt w v cs) (hb : badR least most = true)
    (hr : least < -1 ∨ (¬ least < -1 ∧ most < -1) ∨ (¬ least < -1 ∧ ¬ most < -1 ∧ (least != -1) = true ∧ (most != -1) = true ∧ most < least)) :
    Calls Tryz.prog 79 #[v, i least, i most] w (AdjPost cs least most w) := by
  have HF : Hid (adj cs least most = (cs, 2)) := by show _ = _; unfold adj; rw [if_pos hb]
  have HI := Lib.hid h
  obtain ⟨A, c, rfl, h1, h2⟩ := SliceAt.form h
  clear h hb
  rcases hr with h1 | ⟨h1, h2⟩ | ⟨h1, h2, h3, h4, h5⟩
  all_goals
    go_enter Tryz.func79, Tryz.ntmps79
    go_wp2_with fail
    go_ret2
    exact AdjPost.mk HF.out HI.out (Below.refl _ _)

set_option maxHeartbeats 2000000 in
theorem adj_none (v : Value) (cs : List Itm) (least most : Int) (w : World) (h : ItmsAt w v cs) (hn : cs.length ≤ 16777216) (hb : badR least most = false) (hl : ¬ least < -1) (hm : ¬ most < -1)
    (hr : (least != -1) = false ∨ ((least != -1) = true ∧ (most != -1) = false) ∨ ((least != -1) = true ∧ (most != -1) = true ∧ ¬ most < least)) (hf : fitI (sNet cs) = false) :
    Calls Tryz.prog 79 #[v, i least, i most] w (AdjPost cs least most w) := by
  have HF : Hid (adj cs least most = (cs, 20)) := by show _ = _; unfold adj; rw [if_neg (by rw [hb]; decide), if_pos hf]
  have HI := Lib.hid h
  have HN := Lib.hid (netSum v cs w h hn)
  rcases sum_ways (sNet cs) with ⟨f1, _⟩ | ⟨_, e1, e2⟩
  · rw [f1] at hf; cases hf
  rw [e1, e2] at HN
  obtain ⟨A, c, rfl, h1, h2⟩ := SliceAt.form h
  clear h hb hf e1 e2
  rcases hr with h1 | ⟨h1, h2⟩ | ⟨h1, h2, h3⟩
  all_goals
    go_enter Tryz.func79, Tryz.ntmps79
    go_wp2_with fail
    refine HN.out.mono ?_
    rintro e w1 ⟨rfl, hb1⟩
    go_wp2_with fail
    go_ret2
    exact AdjPost.mk HF.out (HI.out.call hb1) hb1

/-- What the walk knows behind gap. -/
theorem adj_gap {cs : List Itm} {least most : Int} (hl : ¬ least < -1) (hm : ¬ most < -1) (hl' : I64 least) (hm' : I64 most) (hf : fitI (sNet cs) = true) :
    (bnd (sNet cs) least most = sNet cs ∧ ∀ W, Calls Tryz.prog 99 #[i (sNet cs), i least, i most] W fun e w' => e = .returned (.tuple #[i 0, .bool true]) ∧ Below W.heap.size W w') ∨
    (bnd (sNet cs) least most ≠ sNet cs ∧ ∀ W, Calls Tryz.prog 99 #[i (sNet cs), i least, i most] W fun e w' => e = .returned (.tuple #[i (sumV (bnd (sNet cs) least most - sNet cs)), .bool (fitI (bnd (sNet cs) least most - sNet cs))]) ∧ Below W.heap.size W w') := by
  have hN : I64 (sNet cs) := of_decide_eq_true hf
  rcases gap_ways (sNet cs) least most hN (by omega) (by omega) hl' hm' with ⟨h1, h2, h3⟩ | ⟨h1, h2⟩
  · exact .inl ⟨h1, fun W => gap_no _ _ _ W h2 h3⟩
  · refine .inr ⟨h1, fun W => gap_yes _ _ _ _ W hN ?_ ?_ h1 ?_ h2⟩
    · rcases h2 with ⟨_, _, e⟩ | ⟨_, _, _, e⟩ <;> rw [e] <;> assumption
    · rcases h2 with ⟨_, _, e⟩ | ⟨_, _, _, e⟩ <;> rw [e] <;> omega
    · intro h0
      rcases h2 with ⟨h3, _, e⟩ | ⟨_, h3, h4, e⟩
      · rw [e]; have := bne_iff_ne.1 h3; omega
      · rw [e]; have := bne_iff_ne.1 h3; omega

set_option maxHeartbeats 4000000 in
theorem adj_copy (v : Value) (cs : List Itm) (least most : Int) (w : World) (h : ItmsAt w v cs) (hn : cs.length ≤ 16777216) (hb : badR least most = false) (hl : ¬ least < -1) (hm : ¬ most < -1) (hl' : I64 least) (hm' : I64 most)
    (hr : (least != -1) = false ∨ ((least != -1) = true ∧ (most != -1) = false) ∨ ((least != -1) = true ∧ (most != -1) = true ∧ ¬ most < least)) (hf : fitI (sNet cs) = true) (he : bnd (sNet cs) least most = sNet cs)
    (hg : ∀ W, Calls Tryz.prog 99 #[i (sNet cs), i least, i most] W fun e w' => e = .returned (.tuple #[i 0, .bool true]) ∧ Below W.heap.size W w') :
    Calls Tryz.prog 79 #[v, i least, i most] w (AdjPost cs least most w) := by
  have HF : Hid (adj cs least most = (cs, 0)) := by show _ = _; unfold adj; rw [if_neg (by rw [hb]; decide), if_neg (by rw [hf]; decide), if_pos he]
  have HI := Lib.hid h
  have HN := Lib.hid (netSum v cs w h hn)
  have HG := Lib.hid hg
  rcases sum_ways (sNet cs) with ⟨_, e1, e2⟩ | ⟨f1, _⟩
  · rw [e1, e2] at HN
    generalize sNet cs = N at *
    obtain ⟨i0, hi0, hz0, hz1, hz2⟩ := info_parts infoItm
    obtain ⟨A, c, rfl, h1, h2, h0⟩ := SliceAt.form' h
    clear hb hf e1 e2 he hg hl' hm'
    rcases A with _ | ad
    · have hc := h0 rfl
      have hcl : cs = [] := List.eq_nil_of_length_eq_zero (by omega)
      subst hcl
      subst hc
      clear h h0
      rcases hr with h1 | ⟨h1, h2⟩ | ⟨h1, h2, h3⟩
      all_goals
        go_enter Tryz.func79, Tryz.ntmps79
        go_wp2_with fail
        refine HN.out.mono ?_
        rintro e w1 ⟨rfl, hb1⟩
        go_wp2_with fail
        refine (HG.out _).mono ?_
        rintro e w2 ⟨rfl, hb2⟩
        go_wp2_with (at_builtin; refine wpList_append_own_none rfl _ (.tmp 54) 22 rfl w2.heap.size 52 i0 7 Tryz.underlying22 hi0 (.slice none 0 0) 0 [] rfl (World.ownsRow_nil _ _ _ _) rfl ?_)
        go_wp2_with fail
        go_ret2
        exact AdjPost.mk HF.out SliceAt.nil (below_call hb1 hb2)
    · obtain ⟨rs, hrs, hcells⟩ := SliceAt.rows (by omega) h
      have HR := Lib.hid hrs
      have HC := Lib.hid (hcells ad rfl)
      have hfl := flat_len rs hrs.each
      have HFL : Hid (rs.flatten.length = cs.length * 7) := by rw [hfl, hrs.1]; rfl
      have HO := Lib.hid (rows_one hrs one_itm)
      clear hcells hrs hfl h h0
      rcases hr with h1 | ⟨h1, h2⟩ | ⟨h1, h2, h3⟩
      all_goals
        go_enter Tryz.func79, Tryz.ntmps79
        go_wp2_with fail
        refine HN.out.mono ?_
        rintro e w1 ⟨rfl, hb1⟩
        go_wp2_with fail
        refine (HG.out _).mono ?_
        rintro e w2 ⟨rfl, hb2⟩
        have hb3 := below_call hb1 hb2
        have HC2 : Hid (∀ j u, rs.flatten[j]? = some u → w2.cell? (ad.add j) = some u) := fun j u hu => Kept.of hb3 _ _ (HC.out j u hu)
        go_wp2_with (at_builtin; refine wpList_append_own _ rfl _ (.tmp 54) 22 rfl w2.heap.size 52 i0 _ 7 56 Tryz.underlying22 hi0 hz0 hz1 hz2 rfl (by omega) (.slice none 0 0) 0 [] rfl (World.ownsRow_nil _ _ _ _) ad cs.length c rs.flatten rfl HFL.out HC2.out HO.out (by simp only [maxLen]; omega) (by omega) (Nat.le_refl _) ?_)
        intro u w3 hown hgr _
        have HOWN := Lib.hid hown
        have HGR := Lib.hid hgr
        clear hown hgr
        go_wp2_with fail
        go_ret2
        have hown := HOWN.out
        (try simp only [Nat.zero_add, List.nil_append] at hown)
        exact AdjPost.mk HF.out (SliceAt.of_own (by omega) hown HR.out rfl) (below_call hb3 ((Below.refl _ _).grown HGR.out (Nat.le_refl _) (fun k hk => by simp [Value.ownBlock] at hk)))
  · rw [f1] at hf; cases hf
end MonW
end Go.Proofs.YtpmcdjpfolgpiaaGreatDoor

namespace Go.Proofs.YtpmcdjpfolgpiaaGreatDoor
namespace MonW
set_option linter.unusedSimpArgs false
set_option linter.unusedVariables false
open Go.RowKit

theorem bool_cases (b : Bool) : b = true ∨ b = false := by cases b <;> simp

set_option maxHeartbeats 4000000 in
theorem adj_refuse (v : Value) (cs : List Itm) (least most : Int) (w : World) (h : ItmsAt w v cs) (hn : cs.length ≤ 16777216) (hb : badR least most = false) (hl : ¬ least < -1) (hm : ¬ most < -1)
    (hr : (least != -1) = false ∨ ((least != -1) = true ∧ (most != -1) = false) ∨ ((least != -1) = true ∧ (most != -1) = true ∧ ¬ most < least)) (hf : fitI (sNet cs) = true) (he : bnd (sNet cs) least most ≠ sNet cs)
    (hg : ∀ W, Calls Tryz.prog 99 #[i (sNet cs), i least, i most] W fun e w' => e = .returned (.tuple #[i (sumV (bnd (sNet cs) least most - sNet cs)), .bool (fitI (bnd (sNet cs) least most - sNet cs))]) ∧ Below W.heap.size W w')
    (hbad : 64 ≤ cs.length ∨ (¬ 64 ≤ cs.length ∧ fitI (bnd (sNet cs) least most - sNet cs) = false)) :
    Calls Tryz.prog 79 #[v, i least, i most] w (AdjPost cs least most w) := by
  have hA : adj cs least most = if 64 ≤ cs.length then (cs, 3) else if fitI (bnd (sNet cs) least most - sNet cs) = false then (cs, 20) else if txOk (adjX cs least most) then (cs ++ [txV (adjX cs least most)], 0) else (cs, 20) := by
    unfold adj; rw [if_neg (by rw [hb]; decide), if_neg (by rw [hf]; decide), if_neg he]
  have HI := Lib.hid h
  have HN := Lib.hid (netSum v cs w h hn)
  have HG := Lib.hid hg
  rcases sum_ways (sNet cs) with ⟨_, e1, e2⟩ | ⟨f1, _⟩
  · rw [e1, e2] at HN
    clear hg hb hf e1 e2
    have hD := sum_ways (bnd (sNet cs) least most - sNet cs)
    have hd0 : bnd (sNet cs) least most - sNet cs ≠ 0 := by omega
    clear he
    generalize bnd (sNet cs) least most - sNet cs = d at *
    generalize sNet cs = N at *
    obtain ⟨A, c, rfl, h1, h2, h0⟩ := SliceAt.form' h
    clear h h0
    unfold maxLen at h2
    rcases hbad with hbig | ⟨hbig, hfd⟩
    · rw [if_pos hbig] at hA
      have HF := Lib.hid hA
      clear hA
      have hbz : (64 : Int) ≤ (cs.length : Int) := by omega
      have hd : (fitI d = true ∧ sumV d = d ∧ (d == 0) = false) ∨ (fitI d = false ∧ sumV d = 0) := by
        rcases hD with ⟨a1, a2, a3⟩ | ⟨a1, a2, a3⟩
        · exact .inl ⟨a1, a2, beq_eq_false_iff_ne.2 hd0⟩
        · exact .inr ⟨a1, a2⟩
      clear hD hd0
      rcases hd with ⟨a1, a2, a3⟩ | ⟨a1, a2⟩ <;> rw [a1, a2] at HG <;> clear a1 a2 <;> rcases hr with q1 | ⟨q1, q2⟩ | ⟨q1, q2, q3⟩
      all_goals
        go_enter Tryz.func79, Tryz.ntmps79
        go_wp2_with fail
        refine HN.out.mono ?_
        rintro e w1 ⟨rfl, hb1⟩
        go_wp2_with fail
        refine (HG.out _).mono ?_
        rintro e w2 ⟨rfl, hb2⟩
        go_wp2_with fail
        go_ret2
        exact AdjPost.mk HF.out (HI.out.call (below_call hb1 hb2)) (below_call hb1 hb2)
    · rw [if_neg hbig, if_pos hfd] at hA
      have HF := Lib.hid hA
      clear hA
      have hbz : ¬ (64 : Int) ≤ (cs.length : Int) := by omega
      rcases hD with ⟨a1, a2, a3⟩ | ⟨a1, a2, a3⟩
      · rw [a1] at hfd; cases hfd
      rw [a1, a2] at HG
      clear a1 a2 a3 hfd hd0
      rcases hr with q1 | ⟨q1, q2⟩ | ⟨q1, q2, q3⟩
      all_goals
        go_enter Tryz.func79, Tryz.ntmps79
        go_wp2_with fail
        refine HN.out.mono ?_
        rintro e w1 ⟨rfl, hb1⟩
        go_wp2_with fail
        refine (HG.out _).mono ?_
        rintro e w2 ⟨rfl, hb2⟩
        go_wp2_with fail
        go_ret2
        exact AdjPost.mk HF.out (HI.out.call (below_call hb1 hb2)) (below_call hb1 hb2)
  · rw [f1] at hf; cases hf

/-- The words of the region 'append(append(out, l...), i)'. -/
def adG (W : World) (base g0 cap : Nat) (w : World) : Prop := W.grownBy w (some g0) ∧ w.ownsRow base 52 7 (.slice (some ⟨g0, 0, none⟩) 0 cap) 0 []
def adΦ (base g0 cap : Nat) (lv : Value) (cs : List Itm) (z : Itm) (k : Nat) (y : Value) (w : World) : Prop := match k with
  | 0 => y = .slice (some ⟨g0, 0, none⟩) 0 cap
  | 1 => y = lv
  | 2 => y = .slice (some ⟨g0, 0, none⟩) cs.length cap ∧ OwnI base w y cs
  | 3 => y = itmV z
  | 4 => ∃ g, y = .slice (some ⟨g, 0, none⟩) 1 1 ∧ g0 < g ∧ Blk w g 52 (itmA z)
  | _ => True
theorem adΦ_keep {base g0 cap : Nat} {lv : Value} {cs : List Itm} {z : Itm} {w w' : World} (h : Below w.heap.size w w') : ∀ k u, adΦ base g0 cap lv cs z k u w → adΦ base g0 cap lv cs z k u w' := by
  intro k u hk
  unfold adΦ at *
  split at hk
  · exact hk
  · exact hk
  · exact ⟨hk.1, hk.2.call h⟩
  · exact hk
  · obtain ⟨g, a, hB, b⟩ := hk
    exact ⟨g, a, hB, b.call h⟩
  · trivial
theorem grown_of {w w' : World} {r : Option Nat} (h : Below w.heap.size w w') : w.grownBy w' r := ⟨h.os, h.tape, h.output, h.size, fun k hk _ => h.block k hk⟩
theorem adG_keep {W : World} {base g0 cap : Nat} {w w' : World} (h : Below w.heap.size w w') (hg : adG W base g0 cap w) : adG W base g0 cap w' :=
  ⟨grownBy_trans hg.1 (grown_of h), ownsRow_call hg.2 h⟩
theorem own_empty {w : World} {base g cap n : Nat} {e : TypeId} {size : Nat} {xs : List Value} (h : w.ownsRow base e size (.slice (some ⟨g, 0, none⟩) n cap) n xs) : w.ownsRow base e size (.slice (some ⟨g, 0, none⟩) 0 cap) 0 [] := by
  refine ⟨by simp, ?_⟩
  rcases h.2 with ⟨h0, _⟩ | ⟨g', cap', cur, h0, r1, r2, r3, r4, r5, r6⟩
  · cases h0
  · injection h0 with q1 q2 q3
    injection q1 with q1
    injection q1 with q1
    subst q1; subst q3
    exact .inr ⟨g, cap, cur, rfl, r1, r2, Nat.zero_le _, r4, r5, by simp⟩
end MonW
end Go.Proofs.YtpmcdjpfolgpiaaGreatDoor

namespace Go.Proofs.YtpmcdjpfolgpiaaGreatDoor
namespace MonW
set_option linter.unusedSimpArgs false
set_option linter.unusedVariables false
open Go.RowKit

theorem topTax_ok {cs : List Itm} (h : ∀ x ∈ cs, x.ok) : I64 (topTax cs) := by
  cases cs with
  | nil => show I64 0; unfold I64; omega
  | cons c cs =>
    have key : ∀ (ds : List Itm) (b : Itm), b.ok → (∀ x ∈ ds, x.ok) → (ds.foldl better b).ok := by
      intro ds
      induction ds with
      | nil => intro b hb _; exact hb
      | cons d ds ih =>
        intro b hb hd
        refine ih _ ?_ (fun x hx => hd x (by simp [hx]))
        unfold better
        split
        · exact hd d (by simp)
        · exact hb
    exact (key cs c (h c (by simp)) (fun x hx => h x (by simp [hx]))).2.2.1
theorem itms_ok {w : World} {v : Value} {xs : List Itm} (h : ItmsAt w v xs) : ∀ x ∈ xs, x.ok := by
  intro x hx
  obtain ⟨A, c, rfl, _⟩ := SliceAt.form h
  obtain ⟨j, hj, rfl⟩ := List.getElem_of_mem hx
  obtain ⟨b, off, _, _, hok, _⟩ := ItmsAt.at_ h hj
  exact hok

theorem append_run (ty : TypeId) {w : World} {base g0 cap : Nat} {lv : Value} {cs : List Itm} (ho : w.ownsRow base 52 7 (.slice (some ⟨g0, 0, none⟩) 0 cap) 0 []) (hl : ItmsAt w lv cs) (hc : cs.length ≤ cap) :
    ∃ w', (Builtin.append_ #[22, 22] ty #[.slice (some ⟨g0, 0, none⟩) 0 cap, lv]).run Tryz.prog w = .ok (.slice (some ⟨g0, 0, none⟩) cs.length cap) w' ∧ OwnI base w' (.slice (some ⟨g0, 0, none⟩) cs.length cap) cs ∧ w.grownBy w' (some g0) := by
  obtain ⟨i0, hi0, hz0, hz1, hz2⟩ := info_parts infoItm
  obtain ⟨A, c, rfl, h1, h2, h0⟩ := SliceAt.form' hl
  rcases A with _ | ad
  · have hc0 := h0 rfl
    have hcl : cs = [] := List.eq_nil_of_length_eq_zero (by omega)
    subst hcl
    subst hc0
    exact ⟨w, run_append_owned_none (P := Tryz.prog) w base _ ty _ i0 7 Tryz.underlying22 hi0 _ 0 [] ho, ⟨[], ho, rows_nil⟩, World.grownBy.refl _ _⟩
  · obtain ⟨rs, hrs, hcells⟩ := SliceAt.rows (by omega) hl
    obtain ⟨w', hr, ho', hg⟩ := run_append_fits (P := Tryz.prog) w base _ ty _ i0 7 Tryz.underlying22 hi0 hz1 g0 0 cap [] ho ad cs.length c rs.flatten (by rw [flat_len rs hrs.each, hrs.1]) (hcells ad rfl) (rows_one hrs one_itm) (by omega)
    rw [Nat.zero_add] at hr ho'
    exact ⟨w', hr, ⟨rs, ho', hrs⟩, hg⟩
theorem step_append {P : Program} {R : Value → World → Prop} {o : Oper} {a : Act} {w w' : World} {s x : Operand} {t : TypeId} {v u v' : Value} (ho : o.op = .call { callee := .builtin .append, args := #[s, x], argTypes := #[t, t] })
    (hs : a.eval s = v) (hx : a.eval x = u) (hrun : (Builtin.append_ #[t, t] o.type #[v, u]).run P w = .ok v' w') (h : R v' w') : Reg4.StepOk P R ((execOp a.eval o).run P w) := by
  have : (execOp a.eval o).run P w = .ok (.value v') w' := by
    simp [execOp, ho, resolve, invoke, builtin, hs, hx, hrun, Result.andThen]
  rw [this]
  exact h
theorem kept_grow {w w5 w' : World} {g0 : Nat} (hb : Below w.heap.size w w5) (hg : w5.grownBy w' (some g0)) (h0 : w.heap.size ≤ g0) : Kept w w' := by
  intro p u hp
  have hlt := World.block_lt_of_cell? w p hp
  exact hg.cell (Kept.of hb p u hp) (fun e => by injection e with e; omega)

set_option maxRecDepth 100000 in
set_option maxHeartbeats 4000000 in
theorem adj_add (v : Value) (cs : List Itm) (least most : Int) (w : World) (h : ItmsAt w v cs) (hn : cs.length ≤ 16777216) (hb : badR least most = false) (hl : ¬ least < -1) (hm : ¬ most < -1)
    (hr : (least != -1) = false ∨ ((least != -1) = true ∧ (most != -1) = false) ∨ ((least != -1) = true ∧ (most != -1) = true ∧ ¬ most < least)) (hf : fitI (sNet cs) = true) (he : bnd (sNet cs) least most ≠ sNet cs)
    (hg : ∀ W, Calls Tryz.prog 99 #[i (sNet cs), i least, i most] W fun e w' => e = .returned (.tuple #[i (sumV (bnd (sNet cs) least most - sNet cs)), .bool (fitI (bnd (sNet cs) least most - sNet cs))]) ∧ Below W.heap.size W w')
    (hsm : ¬ 64 ≤ cs.length) (hfd : fitI (bnd (sNet cs) least most - sNet cs) = true) :
    Calls Tryz.prog 79 #[v, i least, i most] w (AdjPost cs least most w) := by
  have hA : adj cs least most = if txOk (adjX cs least most) then (cs ++ [txV (adjX cs least most)], 0) else (cs, 20) := by
    unfold adj; rw [if_neg (by rw [hb]; decide), if_neg (by rw [hf]; decide), if_neg he, if_neg hsm, if_neg (by rw [hfd]; decide)]
  have HI := Lib.hid h
  have HN := Lib.hid (netSum v cs w h hn)
  have hxo : (adjX cs least most).ok := by
    have h1 := of_decide_eq_true hfd
    exact ⟨by unfold I64 adjX; simp, h1, topTax_ok (itms_ok h), by unfold I64 adjX; simp, h1, by unfold I64 adjX; simp, by unfold I64 adjX; simp⟩
  have HT := Lib.hid (fun W => taxed (adjX cs least most) W hxo)
  have HZ := Lib.hid (txV_ok hxo)
  have HTG := Lib.hid (fun (W : World) (hb : Below w.heap.size w W) => taxOfGreatest v cs W (h.call hb))
  have hte : txE (adjX cs least most) = if txOk (adjX cs least most) then 0 else 20 := rfl
  rcases sum_ways (sNet cs) with ⟨_, e1, e2⟩ | ⟨f1, _⟩
  · rw [e1, e2] at HN
    have HG := Lib.hid hg
    rcases sum_ways (bnd (sNet cs) least most - sNet cs) with ⟨_, e3, e4⟩ | ⟨f1, _⟩
    · rw [e3, hfd] at HG
      clear hg hb hf e1 e2 e3 e4 hfd hxo
      have hd0 : (bnd (sNet cs) least most - sNet cs == 0) = false := beq_eq_false_iff_ne.2 (by omega)
      clear he
      generalize txV (adjX cs least most) = z at *
      generalize txE (adjX cs least most) = te at *
      generalize txOk (adjX cs least most) = ok at *
      unfold adjX at HT
      generalize bnd (sNet cs) least most - sNet cs = d at *
      generalize sNet cs = N at *
      generalize topTax cs = tt at *
      obtain ⟨A, c, rfl, h1, h2, h0⟩ := SliceAt.form' h
      unfold maxLen at h2
      have hbz : ¬ (64 : Int) ≤ (cs.length : Int) := by omega
      rcases bool_cases ok with rfl | rfl
      · rw [if_pos rfl] at hA hte
        subst hte
        have HF := Lib.hid hA
        clear hA
        obtain ⟨i0, hi0, hz0, hz1, hz2⟩ := info_parts infoItm
        rcases hr with q1 | ⟨q1, q2⟩ | ⟨q1, q2, q3⟩
        all_goals
          go_enter Tryz.func79, Tryz.ntmps79
          go_wp2_with fail
          refine HN.out.mono ?_
          rintro e w1 ⟨rfl, hb1⟩
          go_wp2_with fail
          refine (HG.out _).mono ?_
          rintro e w2 ⟨rfl, hb2⟩
          have hb3 := below_call hb1 hb2
          go_wp2_with fail
          refine (HTG.out _ hb3).mono ?_
          rintro e w3 ⟨rfl, hb4⟩
          go_wp2_with fail
          refine (HT.out _).mono ?_
          rintro e w4 ⟨rfl, hb5⟩
          have HB4 := Lib.hid (below_alloc (below_call (below_call hb3 hb4) hb5) (.cells (itmA z) 52))
          have HKz := Lib.hid (Blk.new w4 52 (itmA z))
          clear hb1 hb2 hb3 hb4 hb5
          go_wp2_with (at_make; refine wpList_make_own _ rfl _ _ 22 rfl (w4.heap.size + 1) 52 i0 _ 7 Tryz.underlying22 hi0 hz0 hz1 .i64 .i64 _ (cs.length + 1) rfl rfl rfl (by rw [hz2]; omega) (by unfold maxLen; omega) (by simp) ?_)
          intro w5 hown5 hgr5
          have hown5' : w5.ownsRow (w4.heap.size + 1) 52 7 (.slice (some ⟨w4.heap.size + 1, 0, none⟩) 0 (cs.length + 1)) 0 [] := by simpa using hown5
          have HO5 := Lib.hid hown5'
          have HB5 : Hid (Below w.heap.size w w5) := HB4.out.grown hgr5 HB4.out.size (fun k hk => by cases hk)
          have HK5 : Hid (Blk w5 w4.heap.size 52 (itmA z)) := (hgr5.block w4.heap.size HKz.out.lt (by simp)).trans HKz.out
          have HSZ : Hid (w.heap.size ≤ w4.heap.size + 1) := by
            have := HB4.out.size
            show _ ≤ _
            simpa using this
          have HL5 : Hid (w4.heap.size + 1 < w5.heap.size) := (hown5'.lt _ rfl).2
          clear hown5 hown5' hgr5 HB4 HKz
          go_upto_region 19 with (fail)
          refine Reg4.region 5 (adG w5 (w4.heap.size + 1) (w4.heap.size + 1) (cs.length + 1)) (adΦ (w4.heap.size + 1) (w4.heap.size + 1) (cs.length + 1) (.slice A cs.length c) cs z) (by kernel_rfl) (by kernel_rfl) ?_ ⟨grown_of (Below.drew (Below.refl _ _)), HO5.out⟩ ?_ ?_
          · exact Reg4.in_of (n := 86) (by kernel_rfl) rfl
          · intro j o hj ho a' w' hG hop
            have hj' : j = 0 ∨ j = 1 ∨ j = 2 ∨ j = 3 ∨ j = 4 := by omega
            rcases hj' with rfl | rfl | rfl | rfl | rfl
            all_goals
              obtain rfl := Option.some.inj ho
              clear ho hj
            · have h13 : a'.tmps[13]?.getD undef = .slice (some ⟨w4.heap.size + 1, 0, none⟩) 0 (cs.length + 1) := (Array.getD_eq_getD_getElem? ..).symm.trans (hop 13 (by simp [Op.operands]))
              go_simp
              exact ⟨hG, rfl, fun _ _ _ _ _ h => h⟩
            · have h0' : a'.tmps[0]?.getD undef = .slice A cs.length c := (Array.getD_eq_getD_getElem? ..).symm.trans (hop 0 (by simp [Op.operands]))
              go_simp
              exact ⟨hG, rfl, fun _ _ _ _ _ h => h⟩
            · have h80 : a'.eval (.tmp 80) = .slice (some ⟨w4.heap.size + 1, 0, none⟩) 0 (cs.length + 1) := hop 80 (by simp [Op.operands, Call.operands])
              have h81 : a'.eval (.tmp 81) = .slice A cs.length c := hop 81 (by simp [Op.operands, Call.operands])
              have hB5 := HB5.out
              have hsz : w.heap.size ≤ w4.heap.size + 1 := HSZ.out
              obtain ⟨w'', hrun, hown, hgr⟩ := append_run 22 hG.2 (ItmsAt.keep HI.out (kept_grow hB5 hG.1 hsz)) (Nat.le_succ _)
              refine step_append rfl h80 h81 hrun ?_
              refine ⟨⟨grownBy_trans hG.1 hgr, ?_⟩, ⟨rfl, hown⟩, ?_⟩
              · obtain ⟨rs, r1, _⟩ := hown
                exact own_empty r1
              · intro k u _ _ _ hk
                unfold adΦ at *
                split at hk
                · exact hk
                · exact hk
                · obtain ⟨rfl, _⟩ := hk
                  exact ⟨rfl, hown⟩
                · exact hk
                · obtain ⟨g, a1, a2, a3⟩ := hk
                  exact ⟨g, a1, a2, (hgr.block g a3.lt (fun e => by injection e with e; omega)).trans a3⟩
                · trivial
            · have h12 : a'.tmps[12]?.getD undef = .pointer (some ⟨w4.heap.size, 0, none⟩) := (Array.getD_eq_getD_getElem? ..).symm.trans (hop 12 (by simp [Op.operands]))
              have hkz : Blk w' w4.heap.size 52 (itmA z) := (hG.1.block w4.heap.size HK5.out.lt (fun e => by injection e with e; omega)).trans HK5.out
              have hkc := hkz.cell
              go_simp
              exact ⟨hG, rfl, fun _ _ _ _ _ h => h⟩
            · have h83 : a'.tmps[83]?.getD undef = itmV z := (Array.getD_eq_getD_getElem? ..).symm.trans (hop 83 (by simp [Op.operands]))
              go_simp
              refine ⟨adG_keep (below_new _ _) hG, ⟨_, rfl, ?_, Blk.new _ _ _⟩, fun k u _ _ _ h => adΦ_keep (below_new _ _) k u h⟩
              have := hG.1.size
              have := HL5.out
              omega
          · intro vals w' hG hΦ
            have hv0 : vals 0 = .slice (some ⟨w4.heap.size + 1, 0, none⟩) 0 (cs.length + 1) := hΦ 0 (by omega)
            have hv1 : vals 1 = .slice A cs.length c := hΦ 1 (by omega)
            obtain ⟨hv2, o2⟩ := hΦ 2 (by omega)
            have hv3 : vals 3 = itmV z := hΦ 3 (by omega)
            obtain ⟨g, hv4, hg4, b4⟩ := hΦ 4 (by omega)
            rw [hv2] at o2
            have HO2 := Lib.hid o2
            have HB4 := Lib.hid b4
            have HRR := Lib.hid (itmR_lit HZ.out)
            have HBW : Hid (Below w.heap.size w w') := HB5.out.grown hG.1 HB5.out.size (fun k hk => by injection hk with hk; have := HSZ.out; omega)
            have HLE : Hid (w4.heap.size + 1 ≤ w'.heap.size) := by
              have h1 := hG.1.size
              have h2 := HL5.out
              show _ ≤ _
              omega
            have HLEN : Hid (cs.length ≤ 16777216) := hn
            simp only [Reg4.puts, Reg4.dstOf, List.range, List.range.loop, hv0, hv1, hv2, hv3, hv4, if_true, List.drop_succ_cons, List.drop_zero]
            clear hv0 hv1 hv2 hv3 hv4 o2 b4 hΦ
            go_wp2_with (at_builtin; refine wpList_grow rfl (.tmp 82) (.tmp 84) 22 rfl i0 _ 56 Tryz.underlying22 hi0 hz0 hz1 hz2 rfl (by omega) rfl HO2.out g z _ 52 rfl HB4.out rfl HRR.out (one_itm _ _ HRR.out) HLEN.out (by omega) HLE.out ?_)
            rintro v' w6 hown6 - hbel6 ⟨A6, n6, c6, rfl⟩
            have HO6 := Lib.hid hown6
            have HB6 : Hid (Below w.heap.size w w6) := HBW.out.trans (hbel6.mono HSZ.out)
            clear hown6 hbel6
            go_wp2_with fail
            go_ret2
            exact AdjPost.mk HF.out (HO6.out.at_ (by omega)) HB6.out
      · rw [if_neg (by decide)] at hA hte
        subst hte
        have HF := Lib.hid hA
        clear hA
        rcases hr with q1 | ⟨q1, q2⟩ | ⟨q1, q2, q3⟩
        all_goals
          go_enter Tryz.func79, Tryz.ntmps79
          go_wp2_with fail
          refine HN.out.mono ?_
          rintro e w1 ⟨rfl, hb1⟩
          go_wp2_with fail
          refine (HG.out _).mono ?_
          rintro e w2 ⟨rfl, hb2⟩
          have hb3 := below_call hb1 hb2
          go_wp2_with fail
          refine (HTG.out _ hb3).mono ?_
          rintro e w3 ⟨rfl, hb4⟩
          go_wp2_with fail
          refine (HT.out _).mono ?_
          rintro e w4 ⟨rfl, hb5⟩
          have hb6 := below_call (below_call hb3 hb4) hb5
          have HB6 := Lib.hid hb6
          clear hb1 hb2 hb3 hb4 hb5 hb6
          go_wp2_with fail
          go_ret2
          exact AdjPost.mk HF.out (HI.out.call (below_alloc HB6.out _)) (below_alloc HB6.out _)
    · rw [f1] at hfd; cases hfd
  · rw [f1] at hf; cases hf

theorem adjust (v : Value) (cs : List Itm) (least most : Int) (w : World) (h : ItmsAt w v cs) (hn : cs.length ≤ 16777216) (hl' : I64 least) (hm' : I64 most) :
    Calls Tryz.prog 79 #[v, i least, i most] w (AdjPost cs least most w) := by
  rcases range_ways least most with ⟨hb, hr⟩ | ⟨hb, hl, hm, hr⟩
  · exact adj_bad v cs least most w h hb hr
  · rcases bool_cases (fitI (sNet cs)) with hf | hf
    · rcases adj_gap hl hm hl' hm' hf with ⟨he, hg⟩ | ⟨he, hg⟩
      · exact adj_copy v cs least most w h hn hb hl hm hl' hm' hr hf he hg
      · by_cases hbig : 64 ≤ cs.length
        · exact adj_refuse v cs least most w h hn hb hl hm hr hf he hg (.inl hbig)
        · rcases bool_cases (fitI (bnd (sNet cs) least most - sNet cs)) with hd | hd
          · exact adj_add v cs least most w h hn hb hl hm hr hf he hg hbig hd
          · exact adj_refuse v cs least most w h hn hb hl hm hr hf he hg (.inr ⟨hbig, hd⟩)
    · exact adj_none v cs least most w h hn hb hl hm hr hf
end MonW
end Go.Proofs.YtpmcdjpfolgpiaaGreatDoor
