/-
  The walk of tax.Adjust.
-/
import Derived.Test.YtpgpibojegjogaaTaxG
import Derived.Test.YtpgpibojegjogaaReg2
import Derived.Laws.AppendOwnNone
namespace Go.Proofs.Ytpgpibojegjogaa
namespace MonW
set_option linter.unusedSimpArgs false
set_option linter.unusedVariables false
open Go.RowKit

def badR (least most : Int) : Bool := decide (least < -1 ∨ most < -1 ∨ (least ≠ -1 ∧ most ≠ -1 ∧ most < least))
def adjX (cs : List Itm) (least most : Int) : Itm := ⟨1, bnd (sNet cs) least most - sNet cs, topTax cs, 1, bnd (sNet cs) least most - sNet cs, 0, 0⟩
def adj (cs : List Itm) (least most : Int) : List Itm × Int :=
  if badR least most then (cs, 2) else if fitI (sNet cs) = false then (cs, 20) else if bnd (sNet cs) least most = sNet cs then (cs, 0) else if 64 ≤ cs.length then (cs, 3)
  else if fitI (bnd (sNet cs) least most - sNet cs) = false then (cs, 20) else if txOk (adjX cs least most) then (cs ++ [txV (adjX cs least most)], 0) else (cs, 20)
def AdjPost (cs : List Itm) (least most : Int) (w : World) (e : Ending) (w' : World) : Prop := ∃ v, e = .returned (.tuple #[v, i (adj cs least most).2]) ∧ ItmsAt w' v (adj cs least most).1 ∧ Below w.heap.size w w'
theorem AdjPost.mk {cs ds : List Itm} {least most n : Int} {w w' : World} {v : Value} (h : adj cs least most = (ds, n)) (hv : ItmsAt w' v ds) (hb : Below w.heap.size w w') : AdjPost cs least most w (.returned (.tuple #[v, i n])) w' :=
  ⟨v, by rw [h], by rw [h]; exact hv, hb⟩

theorem range_ways (least most : Int) : (badR least most = true ∧ (least < -1 ∨ (¬ least < -1 ∧ most < -1) ∨ (¬ least < -1 ∧ ¬ most < -1 ∧ (least != -1) = true ∧ (most != -1) = true ∧ most < least))) ∨
    (badR least most = false ∧ ¬ least < -1 ∧ ¬ most < -1 ∧ ((least != -1) = false ∨ ((least != -1) = true ∧ (most != -1) = false) ∨ ((least != -1) = true ∧ (most != -1) = true ∧ ¬ most < least))) := by
  unfold badR
  by_cases h : least < -1 ∨ most < -1 ∨ (least ≠ -1 ∧ most ≠ -1 ∧ most < least)
  · left
    refine ⟨decide_eq_true h, ?_⟩
    by_cases h1 : least < -1
    · exact .inl h1
    · by_cases h2 : most < -1
      · exact .inr (.inl ⟨h1, h2⟩)
      · have : least ≠ -1 ∧ most ≠ -1 ∧ most < least := by omega
        exact .inr (.inr ⟨h1, h2, bne_iff_ne.2 this.1, bne_iff_ne.2 this.2.1, this.2.2⟩)
  · right
    refine ⟨decide_eq_false h, by omega, by omega, ?_⟩
    by_cases h1 : least = -1
    · left; rw [h1]; rfl
    · right
      by_cases h2 : most = -1
      · left; rw [h2]; exact ⟨bne_iff_ne.2 h1, rfl⟩
      · right; exact ⟨bne_iff_ne.2 h1, bne_iff_ne.2 h2, by omega⟩

set_option maxHeartbeats 1000000 in
theorem adj_bad (v : Value) (cs : List Itm) (least most : Int) (w : World) (h : ItmsAt w v cs) (hb : badR least most = true)
    (hr : least < -1 ∨ (¬ least < -1 ∧ most < -1) ∨ (¬ least < -1 ∧ ¬ most < -1 ∧ (least != -1) = true ∧ (most != -1) = true ∧ most < least)) :
    Calls Try.prog 17 #[v, i least, i most] w (AdjPost cs least most w) := by
  have HF : Hid (adj cs least most = (cs, 2)) := by show _ = _; unfold adj; rw [if_pos hb]
  have HI := Lib.hid h
  obtain ⟨A, c, rfl, h1, h2⟩ := SliceAt.form h
  clear h hb
  rcases hr with h1 | ⟨h1, h2⟩ | ⟨h1, h2, h3, h4, h5⟩
  all_goals
    go_enter Try.func17, Try.ntmps17
    go_wp2_with fail
    go_ret2
    exact AdjPost.mk HF.out HI.out (Below.refl _ _)

set_option maxHeartbeats 2000000 in
theorem adj_none (v : Value) (cs : List Itm) (least most : Int) (w : World) (h : ItmsAt w v cs) (hn : cs.length ≤ 16777216) (hb : badR least most = false) (hl : ¬ least < -1) (hm : ¬ most < -1)
    (hr : (least != -1) = false ∨ ((least != -1) = true ∧ (most != -1) = false) ∨ ((least != -1) = true ∧ (most != -1) = true ∧ ¬ most < least)) (hf : fitI (sNet cs) = false) :
    Calls Try.prog 17 #[v, i least, i most] w (AdjPost cs least most w) := by
  have HF : Hid (adj cs least most = (cs, 20)) := by show _ = _; unfold adj; rw [if_neg (by rw [hb]; decide), if_pos hf]
  have HI := Lib.hid h
  have HN := Lib.hid (netSum v cs w h hn)
  rcases sum_ways (sNet cs) with ⟨f1, _⟩ | ⟨_, e1, e2⟩
  · rw [f1] at hf; cases hf
  rw [e1, e2] at HN
  obtain ⟨A, c, rfl, h1, h2⟩ := SliceAt.form h
  clear h hb hf e1 e2
  rcases hr with h1 | ⟨h1, h2⟩ | ⟨h1, h2, h3⟩
  all_goals
    go_enter Try.func17, Try.ntmps17
    go_wp2_with fail
    refine HN.out.mono ?_
    rintro e w1 ⟨rfl, hb1⟩
    go_wp2_with fail
    go_ret2
    exact AdjPost.mk HF.out (HI.out.call hb1) hb1

/-- What the walk knows behind gap. -/
theorem adj_gap {cs : List Itm} {least most : Int} (hl : ¬ least < -1) (hm : ¬ most < -1) (hl' : I64 least) (hm' : I64 most) (hf : fitI (sNet cs) = true) :
    (bnd (sNet cs) least most = sNet cs ∧ ∀ W, Calls Try.prog 27 #[i (sNet cs), i least, i most] W fun e w' => e = .returned (.tuple #[i 0, .bool true]) ∧ Below W.heap.size W w') ∨
    (bnd (sNet cs) least most ≠ sNet cs ∧ ∀ W, Calls Try.prog 27 #[i (sNet cs), i least, i most] W fun e w' => e = .returned (.tuple #[i (sumV (bnd (sNet cs) least most - sNet cs)), .bool (fitI (bnd (sNet cs) least most - sNet cs))]) ∧ Below W.heap.size W w') := by
  have hN : I64 (sNet cs) := of_decide_eq_true hf
  rcases gap_ways (sNet cs) least most hN (by omega) (by omega) hl' hm' with ⟨h1, h2, h3⟩ | ⟨h1, h2⟩
  · exact .inl ⟨h1, fun W => gap_no _ _ _ W h2 h3⟩
  · refine .inr ⟨h1, fun W => gap_yes _ _ _ _ W hN ?_ ?_ h1 ?_ h2⟩
    · rcases h2 with ⟨_, _, e⟩ | ⟨_, _, _, e⟩ <;> rw [e] <;> assumption
    · rcases h2 with ⟨_, _, e⟩ | ⟨_, _, _, e⟩ <;> rw [e] <;> omega
    · intro h0
      rcases h2 with ⟨h3, _, e⟩ | ⟨_, h3, h4, e⟩
      · rw [e]; have := bne_iff_ne.1 h3; omega
      · rw [e]; have := bne_iff_ne.1 h3; omega

set_option maxHeartbeats 4000000 in
theorem adj_copy (v : Value) (cs : List Itm) (least most : Int) (w : World) (h : ItmsAt w v cs) (hn : cs.length ≤ 16777216) (hb : badR least most = false) (hl : ¬ least < -1) (hm : ¬ most < -1) (hl' : I64 least) (hm' : I64 most)
    (hr : (least != -1) = false ∨ ((least != -1) = true ∧ (most != -1) = false) ∨ ((least != -1) = true ∧ (most != -1) = true ∧ ¬ most < least)) (hf : fitI (sNet cs) = true) (he : bnd (sNet cs) least most = sNet cs)
    (hg : ∀ W, Calls Try.prog 27 #[i (sNet cs), i least, i most] W fun e w' => e = .returned (.tuple #[i 0, .bool true]) ∧ Below W.heap.size W w') :
    Calls Try.prog 17 #[v, i least, i most] w (AdjPost cs least most w) := by
  have HF : Hid (adj cs least most = (cs, 0)) := by show _ = _; unfold adj; rw [if_neg (by rw [hb]; decide), if_neg (by rw [hf]; decide), if_pos he]
  have HI := Lib.hid h
  have HN := Lib.hid (netSum v cs w h hn)
  have HG := Lib.hid hg
  rcases sum_ways (sNet cs) with ⟨_, e1, e2⟩ | ⟨f1, _⟩
  · rw [e1, e2] at HN
    generalize sNet cs = N at *
    obtain ⟨i0, hi0, hz0, hz1, hz2⟩ := info_parts infoItm
    obtain ⟨A, c, rfl, h1, h2, h0⟩ := SliceAt.form' h
    clear hb hf e1 e2 he hg hl' hm'
    rcases A with _ | ad
    · have hc := h0 rfl
      have hcl : cs = [] := List.eq_nil_of_length_eq_zero (by omega)
      subst hcl
      subst hc
      clear h h0
      rcases hr with h1 | ⟨h1, h2⟩ | ⟨h1, h2, h3⟩
      all_goals
        go_enter Try.func17, Try.ntmps17
        go_wp2_with fail
        refine HN.out.mono ?_
        rintro e w1 ⟨rfl, hb1⟩
        go_wp2_with fail
        refine (HG.out _).mono ?_
        rintro e w2 ⟨rfl, hb2⟩
        go_wp2_with (at_builtin; refine wpList_append_own_none rfl _ (.tmp 54) 24 rfl w2.heap.size 30 i0 7 Try.underlying24 hi0 (.slice none 0 0) 0 [] rfl (World.ownsRow_nil _ _ _ _) rfl ?_)
        go_wp2_with fail
        go_ret2
        exact AdjPost.mk HF.out SliceAt.nil (below_call hb1 hb2)
    · obtain ⟨rs, hrs, hcells⟩ := SliceAt.rows (by omega) h
      have HR := Lib.hid hrs
      have HC := Lib.hid (hcells ad rfl)
      have hfl := flat_len rs hrs.each
      have HFL : Hid (rs.flatten.length = cs.length * 7) := by rw [hfl, hrs.1]; rfl
      have HO := Lib.hid (rows_one hrs one_itm)
      clear hcells hrs hfl h h0
      rcases hr with h1 | ⟨h1, h2⟩ | ⟨h1, h2, h3⟩
      all_goals
        go_enter Try.func17, Try.ntmps17
        go_wp2_with fail
        refine HN.out.mono ?_
        rintro e w1 ⟨rfl, hb1⟩
        go_wp2_with fail
        refine (HG.out _).mono ?_
        rintro e w2 ⟨rfl, hb2⟩
        have hb3 := below_call hb1 hb2
        have HC2 : Hid (∀ j u, rs.flatten[j]? = some u → w2.cell? (ad.add j) = some u) := fun j u hu => Kept.of hb3 _ _ (HC.out j u hu)
        go_wp2_with (at_builtin; refine wpList_append_own _ rfl _ (.tmp 54) 24 rfl w2.heap.size 30 i0 _ 7 56 Try.underlying24 hi0 hz0 hz1 hz2 rfl (by omega) (.slice none 0 0) 0 [] rfl (World.ownsRow_nil _ _ _ _) ad cs.length c rs.flatten rfl HFL.out HC2.out HO.out (by simp only [maxLen]; omega) (by omega) (Nat.le_refl _) ?_)
        intro u w3 hown hgr _
        have HOWN := Lib.hid hown
        have HGR := Lib.hid hgr
        clear hown hgr
        go_wp2_with fail
        go_ret2
        have hown := HOWN.out
        (try simp only [Nat.zero_add, List.nil_append] at hown)
        exact AdjPost.mk HF.out (SliceAt.of_own (by omega) hown HR.out rfl) (below_call hb3 ((Below.refl _ _).grown HGR.out (Nat.le_refl _) (fun k hk => by simp [Value.ownBlock] at hk)))
  · rw [f1] at hf; cases hf
end MonW
end Go.Proofs.Ytpgpibojegjogaa
