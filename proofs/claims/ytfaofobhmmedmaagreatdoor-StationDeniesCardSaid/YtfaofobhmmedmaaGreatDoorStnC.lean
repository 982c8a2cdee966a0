/-
  slices.Clone at connectors, meters, transactions and ints, and of nil lists; cloneMessages of nil.
-/
import Derived.Test.YtfaofobhmmedmaaGreatDoorStnX
import Derived.WalkSpells
import Derived.OwnWalk
namespace Go.Proofs.YtfaofobhmmedmaaGreatDoor
namespace Stn
set_option linter.unusedSimpArgs false
set_option linter.unusedVariables false
open Go.RowKit

theorem flat_one {α : Type} {R : List Value → α → Prop} {size : Nat} {rs : List (List Value)} {xs : List α} (h : RowsOf R size rs xs) (hR : ∀ r x, R r x → ∀ u ∈ r, u.oneCell' = true) : ∀ u ∈ rs.flatten, u.oneCell' = true := by
  intro u hu
  obtain ⟨r, hr, hur⟩ := List.mem_flatten.1 hu
  obtain ⟨j, hj, rfl⟩ := List.getElem_of_mem hr
  exact hR _ _ (h.2 j rs[j] (xs[j]'(by rw [← h.1]; exact hj)) (List.getElem?_eq_getElem hj) (List.getElem?_eq_getElem _)).2 u hur
theorem o1_Cn (r : List Value) (x : Cn) (h : CnR r x) : ∀ u ∈ r, u.oneCell' = true := by
  unfold CnR at h
  subst h
  intro u hu
  simp at hu
  rcases hu with rfl | rfl | rfl | rfl | rfl <;> rfl
theorem o1_Mt (r : List Value) (x : Mt) (h : MtR r x) : ∀ u ∈ r, u.oneCell' = true := by
  unfold MtR at h
  subst h
  intro u hu
  simp at hu
  rcases hu with rfl | rfl | rfl | rfl <;> rfl
theorem o1_Tx (r : List Value) (x : Tx) (h : TxR r x) : ∀ u ∈ r, u.oneCell' = true := by
  unfold TxR at h
  subst h
  intro u hu
  simp at hu
  rcases hu with rfl | rfl | rfl | rfl | rfl | rfl | rfl | rfl | rfl <;> rfl
theorem o1_In (r : List Value) (x : Int) (h : InR r x) : ∀ u ∈ r, u.oneCell' = true := by
  unfold InR at h
  subst h
  intro u hu
  simp at hu
  rcases hu with rfl <;> rfl

set_option maxHeartbeats 800000 in
theorem cloneCn (v : Value) (xs : List Cn) (w : World) (h : CnsAt w v xs) (hn : xs.length ≤ 65536) :
    Calls Tryz.prog 120 #[v] w fun e w' => ∃ u, e = .returned u ∧ Own CnR 80 5 w.heap.size w' u xs ∧ Below w.heap.size w w' := by
  obtain ⟨A, c, rfl, h1, h2, h0⟩ := SliceAt.form' h
  unfold maxLen at h2
  obtain ⟨i0, hi0, hz0, hz1, hz2⟩ := info_parts infoC
  rcases A with _ | ad
  · have hc := h0 rfl
    have hcl : xs = [] := List.eq_nil_of_length_eq_zero (by omega)
    subst hcl
    subst hc
    have hq := fun (W : World) => Lib.run_eql_slice_nil (P := Tryz.prog) W 24 80 none 0 0 0 0 Tryz.underlying24
    go_enter Tryz.func120, Tryz.ntmps120
    go_wp2
    go_ret
    exact ⟨_, rfl, Own.nil, Below.refl _ _⟩
  · obtain ⟨rs, hrs, hcells⟩ := SliceAt.rows (by omega) h
    have HR := Lib.hid hrs
    have HC := Lib.hid (hcells ad rfl)
    have hfl := flat_len rs hrs.each
    have HFL : Hid (rs.flatten.length = xs.length * 5) := by rw [hfl, hrs.1]; rfl
    have HO := Lib.hid (flat_one hrs o1_Cn)
    clear hcells hrs hfl h h0
    have hq := fun (W : World) => Lib.run_eql_slice_nil (P := Tryz.prog) W 24 80 (some ad) xs.length c 0 0 Tryz.underlying24
    go_enter Tryz.func120, Tryz.ntmps120
    go_wp2_with (at_builtin; refine wpList_append_own _ rfl (.tmp 5) (.tmp 6) 24 rfl w.heap.size 80 i0 _ 5 24 Tryz.underlying24 hi0 hz0 hz1 hz2 rfl (by omega) (.slice (some ⟨w.heap.size, 0, none⟩) 0 0) 0 [] rfl (World.ownsRow_made w #[] 0 (Nat.le_refl _) (by simp [maxLen]) rfl) ad xs.length c rs.flatten rfl HFL.out ?c1 HO.out (by simp only [maxLen]; omega) (by omega) (by simp) ?_)
    case c1 =>
      intro j u hu
      exact Kept.of (below_new w (.cells #[] 80)) _ _ (HC.out j u hu)
    intro u w1 hown hgr _
    have HOWN := Lib.hid hown
    have HGR := Lib.hid hgr
    clear hown hgr
    go_wp2_with fail
    go_ret
    have hown := HOWN.out
    (try simp only [Nat.zero_add, List.nil_append] at hown)
    exact ⟨u, rfl, ⟨rs, hown, HR.out⟩, (below_new w _).grown HGR.out (by simp) (by simp [Value.ownBlock])⟩

set_option maxHeartbeats 800000 in
theorem cloneMt (v : Value) (xs : List Mt) (w : World) (h : MtsAt w v xs) (hn : xs.length ≤ 65536) :
    Calls Tryz.prog 121 #[v] w fun e w' => ∃ u, e = .returned u ∧ Own MtR 82 4 w.heap.size w' u xs ∧ Below w.heap.size w w' := by
  obtain ⟨A, c, rfl, h1, h2, h0⟩ := SliceAt.form' h
  unfold maxLen at h2
  obtain ⟨i0, hi0, hz0, hz1, hz2⟩ := info_parts infoM
  rcases A with _ | ad
  · have hc := h0 rfl
    have hcl : xs = [] := List.eq_nil_of_length_eq_zero (by omega)
    subst hcl
    subst hc
    have hq := fun (W : World) => Lib.run_eql_slice_nil (P := Tryz.prog) W 25 82 none 0 0 0 0 Tryz.underlying25
    go_enter Tryz.func121, Tryz.ntmps121
    go_wp2
    go_ret
    exact ⟨_, rfl, Own.nil, Below.refl _ _⟩
  · obtain ⟨rs, hrs, hcells⟩ := SliceAt.rows (by omega) h
    have HR := Lib.hid hrs
    have HC := Lib.hid (hcells ad rfl)
    have hfl := flat_len rs hrs.each
    have HFL : Hid (rs.flatten.length = xs.length * 4) := by rw [hfl, hrs.1]; rfl
    have HO := Lib.hid (flat_one hrs o1_Mt)
    clear hcells hrs hfl h h0
    have hq := fun (W : World) => Lib.run_eql_slice_nil (P := Tryz.prog) W 25 82 (some ad) xs.length c 0 0 Tryz.underlying25
    go_enter Tryz.func121, Tryz.ntmps121
    go_wp2_with (at_builtin; refine wpList_append_own _ rfl (.tmp 5) (.tmp 6) 25 rfl w.heap.size 82 i0 _ 4 32 Tryz.underlying25 hi0 hz0 hz1 hz2 rfl (by omega) (.slice (some ⟨w.heap.size, 0, none⟩) 0 0) 0 [] rfl (World.ownsRow_made w #[] 0 (Nat.le_refl _) (by simp [maxLen]) rfl) ad xs.length c rs.flatten rfl HFL.out ?c1 HO.out (by simp only [maxLen]; omega) (by omega) (by simp) ?_)
    case c1 =>
      intro j u hu
      exact Kept.of (below_new w (.cells #[] 82)) _ _ (HC.out j u hu)
    intro u w1 hown hgr _
    have HOWN := Lib.hid hown
    have HGR := Lib.hid hgr
    clear hown hgr
    go_wp2_with fail
    go_ret
    have hown := HOWN.out
    (try simp only [Nat.zero_add, List.nil_append] at hown)
    exact ⟨u, rfl, ⟨rs, hown, HR.out⟩, (below_new w _).grown HGR.out (by simp) (by simp [Value.ownBlock])⟩

set_option maxHeartbeats 800000 in
theorem cloneTx (v : Value) (xs : List Tx) (w : World) (h : TxsAt w v xs) (hn : xs.length ≤ 65536) :
    Calls Tryz.prog 122 #[v] w fun e w' => ∃ u, e = .returned u ∧ Own TxR 54 9 w.heap.size w' u xs ∧ Below w.heap.size w w' := by
  obtain ⟨A, c, rfl, h1, h2, h0⟩ := SliceAt.form' h
  unfold maxLen at h2
  obtain ⟨i0, hi0, hz0, hz1, hz2⟩ := info_parts infoT
  rcases A with _ | ad
  · have hc := h0 rfl
    have hcl : xs = [] := List.eq_nil_of_length_eq_zero (by omega)
    subst hcl
    subst hc
    have hq := fun (W : World) => Lib.run_eql_slice_nil (P := Tryz.prog) W 26 54 none 0 0 0 0 Tryz.underlying26
    go_enter Tryz.func122, Tryz.ntmps122
    go_wp2
    go_ret
    exact ⟨_, rfl, Own.nil, Below.refl _ _⟩
  · obtain ⟨rs, hrs, hcells⟩ := SliceAt.rows (by omega) h
    have HR := Lib.hid hrs
    have HC := Lib.hid (hcells ad rfl)
    have hfl := flat_len rs hrs.each
    have HFL : Hid (rs.flatten.length = xs.length * 9) := by rw [hfl, hrs.1]; rfl
    have HO := Lib.hid (flat_one hrs o1_Tx)
    clear hcells hrs hfl h h0
    have hq := fun (W : World) => Lib.run_eql_slice_nil (P := Tryz.prog) W 26 54 (some ad) xs.length c 0 0 Tryz.underlying26
    go_enter Tryz.func122, Tryz.ntmps122
    go_wp2_with (at_builtin; refine wpList_append_own _ rfl (.tmp 5) (.tmp 6) 26 rfl w.heap.size 54 i0 _ 9 96 Tryz.underlying26 hi0 hz0 hz1 hz2 rfl (by omega) (.slice (some ⟨w.heap.size, 0, none⟩) 0 0) 0 [] rfl (World.ownsRow_made w #[] 0 (Nat.le_refl _) (by simp [maxLen]) rfl) ad xs.length c rs.flatten rfl HFL.out ?c1 HO.out (by simp only [maxLen]; omega) (by omega) (by simp) ?_)
    case c1 =>
      intro j u hu
      exact Kept.of (below_new w (.cells #[] 54)) _ _ (HC.out j u hu)
    intro u w1 hown hgr _
    have HOWN := Lib.hid hown
    have HGR := Lib.hid hgr
    clear hown hgr
    go_wp2_with fail
    go_ret
    have hown := HOWN.out
    (try simp only [Nat.zero_add, List.nil_append] at hown)
    exact ⟨u, rfl, ⟨rs, hown, HR.out⟩, (below_new w _).grown HGR.out (by simp) (by simp [Value.ownBlock])⟩

set_option maxHeartbeats 800000 in
theorem cloneIn (v : Value) (xs : List Int) (w : World) (h : IntsAt w v xs) (hn : xs.length ≤ 65536) :
    Calls Tryz.prog 130 #[v] w fun e w' => ∃ u, e = .returned u ∧ Own InR 3 1 w.heap.size w' u xs ∧ Below w.heap.size w w' := by
  obtain ⟨A, c, rfl, h1, h2, h0⟩ := SliceAt.form' h
  unfold maxLen at h2
  obtain ⟨i0, hi0, hz0, hz1, hz2⟩ := info_parts infoI
  rcases A with _ | ad
  · have hc := h0 rfl
    have hcl : xs = [] := List.eq_nil_of_length_eq_zero (by omega)
    subst hcl
    subst hc
    have hq := fun (W : World) => Lib.run_eql_slice_nil (P := Tryz.prog) W 22 3 none 0 0 0 0 Tryz.underlying22
    go_enter Tryz.func130, Tryz.ntmps130
    go_wp2
    go_ret
    exact ⟨_, rfl, Own.nil, Below.refl _ _⟩
  · obtain ⟨rs, hrs, hcells⟩ := SliceAt.rows (by omega) h
    have HR := Lib.hid hrs
    have HC := Lib.hid (hcells ad rfl)
    have hfl := flat_len rs hrs.each
    have HFL : Hid (rs.flatten.length = xs.length * 1) := by rw [hfl, hrs.1]; rfl
    have HO := Lib.hid (flat_one hrs o1_In)
    clear hcells hrs hfl h h0
    have hq := fun (W : World) => Lib.run_eql_slice_nil (P := Tryz.prog) W 22 3 (some ad) xs.length c 0 0 Tryz.underlying22
    go_enter Tryz.func130, Tryz.ntmps130
    go_wp2_with (at_builtin; refine wpList_append_own _ rfl (.tmp 5) (.tmp 6) 22 rfl w.heap.size 3 i0 _ 1 8 Tryz.underlying22 hi0 hz0 hz1 hz2 rfl (by omega) (.slice (some ⟨w.heap.size, 0, none⟩) 0 0) 0 [] rfl (World.ownsRow_made w #[] 0 (Nat.le_refl _) (by simp [maxLen]) rfl) ad xs.length c rs.flatten rfl HFL.out ?c1 HO.out (by simp only [maxLen]; omega) (by omega) (by simp) ?_)
    case c1 =>
      intro j u hu
      exact Kept.of (below_new w (.cells #[] 3)) _ _ (HC.out j u hu)
    intro u w1 hown hgr _
    have HOWN := Lib.hid hown
    have HGR := Lib.hid hgr
    clear hown hgr
    go_wp2_with fail
    go_ret
    have hown := HOWN.out
    (try simp only [Nat.zero_add, List.nil_append] at hown)
    exact ⟨u, rfl, ⟨rs, hown, HR.out⟩, (below_new w _).grown HGR.out (by simp) (by simp [Value.ownBlock])⟩

theorem clonePro (w : World) : Calls Tryz.prog 123 #[.slice none 0 0] w fun e w' => e = .returned (.slice none 0 0) ∧ w = w' := by
  have hq := fun (W : World) => Lib.run_eql_slice_nil (P := Tryz.prog) W 27 61 none 0 0 0 0 Tryz.underlying27
  go_enter Tryz.func123, Tryz.ntmps123
  go_wp2
  go_ret
  exact ⟨rfl, rfl⟩

theorem cloneTok (w : World) : Calls Tryz.prog 125 #[.slice none 0 0] w fun e w' => e = .returned (.slice none 0 0) ∧ w = w' := by
  have hq := fun (W : World) => Lib.run_eql_slice_nil (P := Tryz.prog) W 28 96 none 0 0 0 0 Tryz.underlying28
  go_enter Tryz.func125, Tryz.ntmps125
  go_wp2
  go_ret
  exact ⟨rfl, rfl⟩

theorem cloneRes (w : World) : Calls Tryz.prog 126 #[.slice none 0 0] w fun e w' => e = .returned (.slice none 0 0) ∧ w = w' := by
  have hq := fun (W : World) => Lib.run_eql_slice_nil (P := Tryz.prog) W 31 99 none 0 0 0 0 Tryz.underlying31
  go_enter Tryz.func126, Tryz.ntmps126
  go_wp2
  go_ret
  exact ⟨rfl, rfl⟩

theorem cloneEvt (w : World) : Calls Tryz.prog 127 #[.slice none 0 0] w fun e w' => e = .returned (.slice none 0 0) ∧ w = w' := by
  have hq := fun (W : World) => Lib.run_eql_slice_nil (P := Tryz.prog) W 32 145 none 0 0 0 0 Tryz.underlying32
  go_enter Tryz.func127, Tryz.ntmps127
  go_wp2
  go_ret
  exact ⟨rfl, rfl⟩

theorem cloneMsg (w : World) : Calls Tryz.prog 197 #[.slice none 0 0] w fun e w' => e = .returned (.slice none 0 0) ∧ w = w' := by
  have hq := fun (W : World) => Lib.run_eql_slice_nil (P := Tryz.prog) W 35 63 none 0 0 0 0 Tryz.underlying35
  go_enter Tryz.func197, Tryz.ntmps197
  go_wp2
  go_ret
  exact ⟨rfl, rfl⟩

set_option maxRecDepth 100000 in
theorem cloneMsgs (w : World) : Calls Tryz.prog 129 #[.slice none 0 0] w fun e w' => e = .returned (.slice none 0 0) ∧ w = w' := by
  have HC := Lib.hid cloneMsg
  go_enter Tryz.func129, Tryz.ntmps129
  go_wp2_with fail
  refine (HC.out _).mono ?_
  rintro e w1 ⟨rfl, rfl⟩
  go_wp2_with fail
  go_loopg [9] 0 (fun gg s9 wr => s9 = i 0 ∧ wr = w)
  case atStart => exact ⟨rfl, rfl⟩
  case round =>
    obtain ⟨rfl, rfl⟩ := hrel
    go_wp2_with fail
    go_ret
    exact ⟨rfl, rfl⟩

end Stn
end Go.Proofs.YtfaofobhmmedmaaGreatDoor
