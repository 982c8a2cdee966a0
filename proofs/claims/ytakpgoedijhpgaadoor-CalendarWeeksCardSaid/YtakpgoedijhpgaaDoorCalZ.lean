/-
  The walks of the statements CalendarLeast, CalendarSteps.
-/
import Derived.Test.YtakpgoedijhpgaaDoorCalY
import Derived.Deep.Cut
namespace Go.Proofs.YtakpgoedijhpgaaDoor
namespace CalW
set_option linter.unusedSimpArgs false
set_option linter.unusedVariables false
open Go.RowKit

set_option maxHeartbeats 400000 in
theorem lon (days v : Int) (w : World) (h : 0 ≤ days) (h' : days ≤ 127) (hv : 1 ≤ v) (hv' : v ≤ 7) {b : Bool} (hb : Cal.onD days v = b) :
    Calls Tryd.prog 24 #[i days, i v] w fun e w' => e = .returned (.bool b) ∧ w = w' := by
  subst hb
  have g1 : decide (1 ≤ v) = true := by simpa using hv
  have g2 : decide (v ≤ 7) = true := by simpa using hv'
  by_cases hd : days = 0
  · have hd1 : (days == 0) = true := by simpa using hd
    have e : Cal.onD days v = true := by rw [hd]; exact onD_zero _
    rw [e]
    clear hd e
    go_enter Tryd.func24, Tryd.ntmps24
    go_wp2
    all_goals go_ret
    all_goals exact ⟨rfl, rfl⟩
  · have hd1 : (days == 0) = false := by simpa using hd
    have HD := Lib.hid hd
    clear hd
    go_enter Tryd.func24, Tryd.ntmps24
    go_wp2
    all_goals go_ret
    all_goals exact ⟨retB (onD_bits days v h h' hv HD.out rfl).symm, rfl⟩

set_option maxHeartbeats 1600000 in
theorem law_least (z : Int) (s : Bool) (t days mi : Int) (w : World) (ht : Tab w) : Calls Tryd.prog 9 #[zone z s, .agg #[i t, i days, i mi]] w fun e w' => e = .returned (.bool true) ∧ Below w.heap.size w w' := by
  have hta := (ht.alloc (.cells #[i z, .bool s] 33)).alloc (.cells #[i t, i days, i mi] 38)
  have b1 := (Blk.new w 33 #[i z, .bool s]).alloc (.cells #[i t, i days, i mi] 38)
  have b2 := Blk.new (w.alloc (.cells #[i z, .bool s] 33)) 38 #[i t, i days, i mi]
  have hB := below_alloc (below_new w (.cells #[i z, .bool s] 33)) (.cells #[i t, i days, i mi] 38)
  by_cases hin : (-840 ≤ z ∧ z ≤ 840 ∧ 0 ≤ days ∧ days ≤ 127 ∧ 0 ≤ mi ∧ mi ≤ 1439) ∧ (0 ≤ t ∧ t ≤ 268435456)
  · obtain ⟨⟨a1, a2, a3, a4, a5, a6⟩, h1, h2⟩ := hin
    obtain ⟨r, c, hn⟩ := Cal.nextIs_ex z s t days mi
    have hp : ∀ w, Tab w → Calls Tryd.prog 22 #[zone z s, i t, i days, i mi] w fun e w' => e = .returned (.tuple #[i r, i c]) ∧ Below w.heap.size w w' := by
      intro w ht
      refine (next_in z s t days mi w ht a1 a2 h1 h2 a3 a4 a5 a6).mono ?_
      rintro e w' ⟨r', c', rfl, hn', hb⟩
      obtain ⟨rfl, rfl⟩ := hn.eq hn'
      exact ⟨rfl, hb⟩
    have HP := Lib.hid hp
    clear hp
    rcases hn with ⟨rfl, n1, n2, n3, n4, n5⟩ | ⟨rfl, rfl, n1⟩
    · have HH := Lib.hid n4
      have HN := Lib.hid n5
      clear n4 n5
      have wb := Cal.wd_bd ((r + Cal.offs z s r) / 1440)
      have m1 : ((r + Cal.offs z s r) % 1440 != mi) = false := by simpa using HH.out.1
      have m2 : ((r + Cal.offs z s r) % 1440 == mi) = true := by simpa using HH.out.1
      go_enter Tryd.func9, Tryd.ntmps9
      go_wp2_with fail
      refine (HP.out _ hta).mono ?_
      rintro e w1 ⟨rfl, hb1⟩
      have hB1 := below_call hB hb1
      have k1 := b1.call hb1
      have k2 := b2.call hb1
      simp only [World.size_alloc] at k2
      have c1 := k1.cell
      have c2 := k2.cell
      go_wp2_with fail
      refine (local_yes z s r _ a1 a2 (by omega) (by omega) (ht.below hB1 ht.lt)).mono ?_
      rintro e w2 ⟨rfl, hb2⟩
      clear c1 c2
      unfold date
      have c1 := ((k1.call hb2).alloc (.cells #[i (Cal.yr ((r + Cal.offs z s r) / 1440)), i (Cal.mo ((r + Cal.offs z s r) / 1440)), i (Cal.dy ((r + Cal.offs z s r) / 1440)), i (Cal.wd ((r + Cal.offs z s r) / 1440)), i ((r + Cal.offs z s r) % 1440)] 23)).cell
      have c2 := ((k2.call hb2).alloc (.cells #[i (Cal.yr ((r + Cal.offs z s r) / 1440)), i (Cal.mo ((r + Cal.offs z s r) / 1440)), i (Cal.dy ((r + Cal.offs z s r) / 1440)), i (Cal.wd ((r + Cal.offs z s r) / 1440)), i ((r + Cal.offs z s r) % 1440)] 23)).cell
      go_wp2_with (go_at_call 24; refine (lon _ _ _ a3 a4 wb.1 wb.2 HH.out.2).mono ?_; rintro e w' ⟨rfl, rfl⟩)
      all_goals
        have hB2 := below_alloc (below_call hB1 hb2) (.cells #[i (Cal.yr ((r + Cal.offs z s r) / 1440)), i (Cal.mo ((r + Cal.offs z s r) / 1440)), i (Cal.dy ((r + Cal.offs z s r) / 1440)), i (Cal.wd ((r + Cal.offs z s r) / 1440)), i ((r + Cal.offs z s r) % 1440)] 23)
        have j1 := ((k1.call hb2).alloc (.cells #[i (Cal.yr ((r + Cal.offs z s r) / 1440)), i (Cal.mo ((r + Cal.offs z s r) / 1440)), i (Cal.dy ((r + Cal.offs z s r) / 1440)), i (Cal.wd ((r + Cal.offs z s r) / 1440)), i ((r + Cal.offs z s r) % 1440)] 23))
        have j2 := ((k2.call hb2).alloc (.cells #[i (Cal.yr ((r + Cal.offs z s r) / 1440)), i (Cal.mo ((r + Cal.offs z s r) / 1440)), i (Cal.dy ((r + Cal.offs z s r) / 1440)), i (Cal.wd ((r + Cal.offs z s r) / 1440)), i ((r + Cal.offs z s r) % 1440)] 23))
        clear c1 c2 k1 k2 b1 b2 hb1 hb2 m1 m2
        go_loopw [9] (fun x wr => ∃ u : Int, t < u ∧ u ≤ r ∧ x = i u ∧ Blk wr w.heap.size 33 #[i z, .bool s] ∧ Blk wr (w.heap.size + 1) 38 #[i t, i days, i mi] ∧ Below w.heap.size w wr) (fun x _ => (r - intOf x).toNat)
        case atStart => exact ⟨_, by omega, by omega, rfl, j1, j2, hB2⟩
        case round =>
          clear j1 j2 hB2
          obtain ⟨u, u1, u2, rfl, j1, j2, hBw⟩ := hrel
          have c1 := j1.cell
          have c2 := j2.cell
          have htr := ht.below hBw ht.lt
          by_cases hlt : u < r
          · have hno := HN.out u u1 hlt
            have wb := Cal.wd_bd ((u + Cal.offs z s u) / 1440)
            by_cases hm : (u + Cal.offs z s u) % 1440 = mi
            · have hon : Cal.onD days (Cal.wd ((u + Cal.offs z s u) / 1440)) = false := by
                cases ho : Cal.onD days (Cal.wd ((u + Cal.offs z s u) / 1440))
                · rfl
                · exact absurd ⟨hm, ho⟩ hno
              have HO := Lib.hid hon
              have m3 : ((u + Cal.offs z s u) % 1440 == mi) = true := by simpa using hm
              clear hon hno hm
              go_wp2_with fail
              refine (local_yes z s u _ a1 a2 (by omega) (by omega) htr).mono ?_
              rintro e w3 ⟨rfl, hb3⟩
              clear c1 c2
              unfold date
              have k1 := (j1.call hb3).alloc (.cells #[i (Cal.yr ((u + Cal.offs z s u) / 1440)), i (Cal.mo ((u + Cal.offs z s u) / 1440)), i (Cal.dy ((u + Cal.offs z s u) / 1440)), i (Cal.wd ((u + Cal.offs z s u) / 1440)), i ((u + Cal.offs z s u) % 1440)] 23)
              have k2 := (j2.call hb3).alloc (.cells #[i (Cal.yr ((u + Cal.offs z s u) / 1440)), i (Cal.mo ((u + Cal.offs z s u) / 1440)), i (Cal.dy ((u + Cal.offs z s u) / 1440)), i (Cal.wd ((u + Cal.offs z s u) / 1440)), i ((u + Cal.offs z s u) % 1440)] 23)
              have c2 := k2.cell
              go_wp2_with (go_at_call 24; refine (lon _ _ _ a3 a4 wb.1 wb.2 HO.out).mono ?_; rintro e w' ⟨rfl, rfl⟩)
              go_roundw
              case rel => exact ⟨u + 1, by omega, by omega, rfl, k1, k2, below_alloc (below_call hBw hb3) _⟩
              case measure => simp [intOf]; omega
            · have m3 : ((u + Cal.offs z s u) % 1440 == mi) = false := by simpa using hm
              clear hno hm
              go_wp2_with fail
              refine (local_yes z s u _ a1 a2 (by omega) (by omega) htr).mono ?_
              rintro e w3 ⟨rfl, hb3⟩
              clear c1 c2
              unfold date
              have k1 := (j1.call hb3).alloc (.cells #[i (Cal.yr ((u + Cal.offs z s u) / 1440)), i (Cal.mo ((u + Cal.offs z s u) / 1440)), i (Cal.dy ((u + Cal.offs z s u) / 1440)), i (Cal.wd ((u + Cal.offs z s u) / 1440)), i ((u + Cal.offs z s u) % 1440)] 23)
              have k2 := (j2.call hb3).alloc (.cells #[i (Cal.yr ((u + Cal.offs z s u) / 1440)), i (Cal.mo ((u + Cal.offs z s u) / 1440)), i (Cal.dy ((u + Cal.offs z s u) / 1440)), i (Cal.wd ((u + Cal.offs z s u) / 1440)), i ((u + Cal.offs z s u) % 1440)] 23)
              have c2 := k2.cell
              go_wp2_with fail
              go_roundw
              case rel => exact ⟨u + 1, by omega, by omega, rfl, k1, k2, below_alloc (below_call hBw hb3) _⟩
              case measure => simp [intOf]; omega
          · go_wp2_with fail
            refine (example_holds _ htr).mono ?_
            rintro e w3 ⟨rfl, hb3⟩
            go_wp2_with fail
            go_ret
            exact ⟨rfl, below_call hBw hb3⟩
    · go_enter Tryd.func9, Tryd.ntmps9
      go_wp2_with fail
      refine (HP.out _ hta).mono ?_
      rintro e w1 ⟨rfl, hb1⟩
      go_wp2_with fail
      refine (example_holds _ (hta.below hb1 hta.lt)).mono ?_
      rintro e w2 ⟨rfl, hb2⟩
      go_wp2_with fail
      go_ret
      exact ⟨rfl, below_call (below_call hB hb1) hb2⟩
  · obtain ⟨c, hc, hp⟩ : ∃ c : Int, (c = 1 ∨ c = 2) ∧ ∀ w, Calls Tryd.prog 22 #[zone z s, i t, i days, i mi] w fun e w' => e = .returned (.tuple #[i 0, i c]) ∧ Below w.heap.size w w' := by
      by_cases g : -840 ≤ z ∧ z ≤ 840 ∧ 0 ≤ days ∧ days ≤ 127 ∧ 0 ≤ mi ∧ mi ≤ 1439
      · exact ⟨2, .inr rfl, fun w => next_no z s t days mi w g.1 g.2.1 g.2.2.1 g.2.2.2.1 g.2.2.2.2.1 g.2.2.2.2.2 (by omega)⟩
      · exact ⟨1, .inl rfl, fun w => next_inv z s t days mi w g⟩
    have HP := Lib.hid hp
    clear hp
    have hc1 : (c != 0) = true := by simp; omega
    go_enter Tryd.func9, Tryd.ntmps9
    go_wp2_with fail
    refine (HP.out _).mono ?_
    rintro e w1 ⟨rfl, hb1⟩
    go_wp2_with fail
    refine (example_holds _ (hta.below hb1 hta.lt)).mono ?_
    rintro e w2 ⟨rfl, hb2⟩
    go_wp2_with fail
    go_ret
    exact ⟨rfl, below_call (below_call hB hb1) hb2⟩
set_option maxRecDepth 100000 in
set_option maxHeartbeats 9600000 in
theorem steps_core (z : Int) (sm : Bool) (t : Int) (w : World) (ht : Tab w) (h1 : 0 ≤ t) (h2 : t < 268435456) (y1 m1 k1 v1 mi1 y2 m2 k2 v2 mi2 y3 m3 k3 v3 mi3 : Int)
    (HL1 : Hid (∀ w, Tab w → Calls Tryd.prog 16 #[zone z sm, i t] w fun e w' => e = .returned (.tuple #[dateV y1 m1 k1 v1 mi1, i 0]) ∧ Below w.heap.size w w'))
    (HL2 : Hid (∀ w, Tab w → Calls Tryd.prog 16 #[zone z sm, i (t + 1)] w fun e w' => e = .returned (.tuple #[dateV y2 m2 k2 v2 mi2, i 0]) ∧ Below w.heap.size w w'))
    (HD : Hid (∀ w, Tab w → Calls Tryd.prog 11 #[i (t + 1)] w fun e w' => e = .returned (.tuple #[dateV y3 m3 k3 v3 mi3, i 0]) ∧ Below w.heap.size w w'))
    (n1 : 0 ≤ mi1) (n2 : mi1 ≤ 1439) (n7 : 0 ≤ mi2) (n8 : 0 ≤ v1) (n9 : v1 ≤ 7) (n10 : 0 ≤ k1) (n11 : k1 ≤ 31) (n12 : 0 ≤ m1) (n13 : m1 ≤ 12) (n14 : 0 ≤ y1) (n15 : y1 ≤ 10000)
    (e1 : ((mi1 + 1 + (Cal.offs z sm (t + 1) - Cal.offs z sm t) + 2880) % 1440 != mi2) = false)
    (hby : ((Cal.offs z sm (t + 1) - Cal.offs z sm t != 0) = true ∧ ((Cal.offs z sm (t + 1) - Cal.offs z sm t == 60) = true ∨ (Cal.offs z sm (t + 1) - Cal.offs z sm t == 60) = false ∧ (Cal.offs z sm (t + 1) - Cal.offs z sm t == -60) = true) ∧ sm = true ∧ (v3 == 7) = true ∧ (mi3 == 60) = true ∧ ((m3 == 3) = true ∨ (m3 == 3) = false ∧ (m3 == 10) = true) ∧ decide (25 ≤ k3) = true) ∨
      ((Cal.offs z sm (t + 1) - Cal.offs z sm t != 0) = false ∧ decide (0 < mi2) = true ∧ (y1 == y2) = true ∧ (m1 == m2) = true ∧ (k1 == k2) = true ∧ (v1 == v2) = true) ∨
      ((Cal.offs z sm (t + 1) - Cal.offs z sm t != 0) = false ∧ decide (0 < mi2) = false ∧ (v1 % 7 + 1 == v2) = true ∧
        (((y1 == y2) = true ∧ (m1 == m2) = true ∧ (k1 + 1 == k2) = true) ∨ ((y1 == y2) = true ∧ (m1 == m2) = false ∧ (k2 == 1) = true ∧ decide (28 ≤ k1) = true ∧ (m1 + 1 == m2) = true) ∨
          ((y1 == y2) = false ∧ (k2 == 1) = true ∧ decide (28 ≤ k1) = true ∧ (m1 + 1 == m2) = false ∧ (m1 == 12) = true ∧ (m2 == 1) = true ∧ (y1 + 1 == y2) = true)))) :
    Calls Tryd.prog 8 #[zone z sm, i t] w fun e w' => e = .returned (.bool true) ∧ Below w.heap.size w w' := by
  have hta := ht.alloc (.cells #[i z, .bool sm] 33)
  have b0 := Blk.new w 33 #[i z, .bool sm]
  have HBY := Lib.hid hby
  have ob1 := Cal.offs_bd z sm t
  have ob2 := Cal.offs_bd z sm (t + 1)
  clear hby
  go_enter Tryd.func8, Tryd.ntmps8
  go_wp2_with fail
  refine (HL1.out _ hta).mono ?_
  rintro e w1 ⟨rfl, hb1⟩
  have hB1 := below_alloc (below_call (below_new _ _) hb1) (.cells #[i y1, i m1, i k1, i v1, i mi1] 23)
  have b1 := (b0.call hb1).alloc (.cells #[i y1, i m1, i k1, i v1, i mi1] 23)
  have c1 := b1.cell
  go_wp2_with fail
  refine (HL2.out _ (ht.below hB1 ht.lt)).mono ?_
  rintro e w2 ⟨rfl, hb2⟩
  clear c1
  have hB2 := below_alloc (below_call hB1 hb2) (.cells #[i y2, i m2, i k2, i v2, i mi2] 23)
  have b2 := (b1.call hb2).alloc (.cells #[i y2, i m2, i k2, i v2, i mi2] 23)
  have a1 := ((Blk.new w1 23 #[i y1, i m1, i k1, i v1, i mi1]).call hb2).alloc (.cells #[i y2, i m2, i k2, i v2, i mi2] 23)
  have a2 := Blk.new w2 23 #[i y2, i m2, i k2, i v2, i mi2]
  go_wp2_with fail
  generalize w2.alloc (.cells #[i y2, i m2, i k2, i v2, i mi2] 23) = W at *
  generalize w2.heap.size = g2 at *
  generalize w1.heap.size = g1 at *
  have HT := ht.below hB2 ht.lt
  have hS : ∀ w', Below W.heap.size W w' → (∀ o, w'.cell? ⟨w.heap.size, o, none⟩ = #[i z, .bool sm][o]?) ∧ Fine W w' := fun w' hb => ⟨(b2.call hb).cell, ⟨HT.below hb HT.lt, hb⟩⟩
  have HS := Lib.hid hS
  clear hS hb2 hb1 b0 b1 hB1
  go_region_held3 (fun w' => (∀ o, w'.cell? ⟨w.heap.size, o, none⟩ = #[i z, .bool sm][o]?) ∧ Fine W w')
    (first | exact HS.out _ (below_drewN (Below.refl _ _) _) | exact HS.out _ (Below.drew (Below.refl _ _)) | (go_split_ands; exact HS.out _ (below_call (Fine.below (W := W) (by assumption)) hbx)))
    (first | (go_at_call 20; go_split_ands; refine (offset _ _ _ _ (Fine.tab (W := W) (by assumption))).mono ?_; rintro e wx ⟨rfl, hbx⟩))
  go_split_ands
  have hfin := Fine.below (W := W) (w' := wx) (by assumption)
  have HX := Lib.hid ((b2.call hfin).cell)
  have hA1 := (a1.call hfin).cell
  have hA2 := (a2.call hfin).cell
  have hBx := below_call hB2 hfin
  have hTx := ht.below hBx ht.lt
  clear HS HL1 HL2
  rcases HBY.out with ⟨q1, q2, q3, q4, q5, q6, q7⟩ | ⟨q1, q2, q3, q4, q5, q6⟩ | ⟨q1, q2, q3, q4⟩
  · clear HBY
    subst q3
    have hZ := HX.out
    have hl := (b2.call hfin).lt
    go_wp2_with fail
    refine (HD.out _ hTx).mono ?_
    rintro e w5 ⟨rfl, hb5⟩
    have k0 := ((b2.call hfin).call hb5).alloc (.cells #[i y3, i m3, i k3, i v3, i mi3] 23)
    have hB5 := below_alloc (below_call hBx hb5) (.cells #[i y3, i m3, i k3, i v3, i mi3] 23)
    clear hA1 hA2 hZ
    have hZ := k0.cell
    rcases q2 with q2 | ⟨q2, q2'⟩ <;> rcases q6 with q6 | ⟨q6, q6'⟩
    all_goals
      go_wp2_with fail
      refine (example_holds _ (ht.below hB5 ht.lt)).mono ?_
      rintro e w6 ⟨rfl, hb6⟩
      go_wp2_with fail
      go_ret
      exact ⟨rfl, below_call hB5 hb6⟩
  · clear HBY
    go_wp2_with fail
    refine (example_holds _ hTx).mono ?_
    rintro e w6 ⟨rfl, hb6⟩
    go_wp2_with fail
    go_ret
    exact ⟨rfl, below_call hBx hb6⟩
  · clear HBY
    rcases q4 with ⟨r1, r2, r3⟩ | ⟨r1, r2, r3, r4, r5⟩ | ⟨r1, r2, r3, r4, r5, r6, r7⟩
    all_goals
      go_upto_region 13 with (fail)
      simp only [List.append_eq, List.cons_append, List.nil_append]
      go_wp2_with fail
      refine (example_holds _ hTx).mono ?_
      rintro e w6 ⟨rfl, hb6⟩
      go_wp2_with fail
      go_ret
      exact ⟨rfl, below_call hBx hb6⟩

set_option maxRecDepth 100000 in
set_option maxHeartbeats 800000 in
theorem law_steps (z : Int) (s : Bool) (t : Int) (w : World) (ht : Tab w) : Calls Tryd.prog 8 #[zone z s, i t] w fun e w' => e = .returned (.bool true) ∧ Below w.heap.size w w' := by
  by_cases hz : -840 ≤ z ∧ z ≤ 840
  · obtain ⟨hz, hz'⟩ := hz
    by_cases h : 0 ≤ t ∧ t ≤ 268435456
    · obtain ⟨h1, h2⟩ := h
      by_cases h3 : t < 268435456
      · have ob1 := Cal.offs_bd z s t
        have ob2 := Cal.offs_bd z s (t + 1)
        have yb := Cal.yr_bd ((t + Cal.offs z s t) / 1440) (by omega) (by omega)
        have mb := Cal.mo_bd ((t + Cal.offs z s t) / 1440)
        have db := Cal.dy_bd ((t + Cal.offs z s t) / 1440)
        have dm := Cal.md_bd (Cal.yr ((t + Cal.offs z s t) / 1440)) (Cal.mo ((t + Cal.offs z s t) / 1440))
        have vb := Cal.wd_bd ((t + Cal.offs z s t) / 1440)
        refine steps_core z s t w ht h1 h3 _ _ _ _ _ _ _ _ _ _ _ _ _ _ _ (Lib.hid fun w ht => local_yes z s t w hz hz' h1 h2 ht) (Lib.hid fun w ht => local_yes z s (t + 1) w hz hz' (by omega) (by omega) ht)
          (Lib.hid fun w ht => date_yes (t + 1) w (by omega) (by omega) ht) (by omega) (by omega) (by omega) (by omega) (by omega) (by omega) (by omega) (by omega) (by omega) (by omega) (by omega) (by simp only [bne_eq_false_iff_eq]; omega) ?_
        simp only [bne_iff_ne, bne_eq_false_iff_eq, beq_iff_eq, beq_eq_false_iff_ne, decide_eq_true_eq, decide_eq_false_iff_not]
        by_cases hby : Cal.offs z s (t + 1) - Cal.offs z s t = 0
        · right
          have ho : Cal.offs z s (t + 1) = Cal.offs z s t := by omega
          rw [ho]
          by_cases hm : 0 < (t + 1 + Cal.offs z s t) % 1440
          · left
            have e : (t + 1 + Cal.offs z s t) / 1440 = (t + Cal.offs z s t) / 1440 := by omega
            rw [e]
            exact ⟨by omega, hm, rfl, rfl, rfl, rfl⟩
          · right
            have e : (t + 1 + Cal.offs z s t) / 1440 = (t + Cal.offs z s t) / 1440 + 1 := by omega
            rw [e, ← Cal.wd_1]
            refine ⟨by omega, hm, rfl, ?_⟩
            rcases Cal.day_after ((t + Cal.offs z s t) / 1440) with ⟨q1, q2, q3⟩ | ⟨q1, q2, q3, q4⟩ | ⟨q1, q2, q3, q4, q5⟩
            · exact .inl ⟨q1.symm, q2.symm, q3.symm⟩
            · exact .inr (.inl ⟨q1.symm, by omega, q3, q4, q2.symm⟩)
            · exact .inr (.inr ⟨by omega, q4, q5, by omega, q3, q2, q1.symm⟩)
        · left
          obtain ⟨q1, q2, q3, q4, q5, q6⟩ := Cal.offs_turn z s t hz hz' h1 h3 hby
          exact ⟨hby, by omega, q1, q4, q3, by omega, q6⟩
      · have hta := ht.alloc (.cells #[i z, .bool s] 33)
        have HL := Lib.hid (fun w ht => local_yes z s t w hz hz' h1 h2 ht)
        unfold date at HL
        go_enter Tryd.func8, Tryd.ntmps8
        go_wp2_with fail
        refine (HL.out _ hta).mono ?_
        rintro e w1 ⟨rfl, hb1⟩
        go_wp2_with fail
        refine (example_holds _ ((hta.below hb1 hta.lt).alloc _)).mono ?_
        rintro e w2 ⟨rfl, hb2⟩
        go_wp2_with fail
        go_ret
        exact ⟨rfl, below_call (below_alloc (below_call (below_new _ _) hb1) _) hb2⟩
    · have hta := ht.alloc (.cells #[i z, .bool s] 33)
      go_enter Tryd.func8, Tryd.ntmps8
      go_wp2_with fail
      refine (local_no z s t _ hz hz' h).mono ?_
      rintro e w1 ⟨rfl, hb1⟩
      go_wp2_with fail
      refine (example_holds _ ((hta.below hb1 hta.lt).alloc _)).mono ?_
      rintro e w2 ⟨rfl, hb2⟩
      go_wp2_with fail
      go_ret
      exact ⟨rfl, below_call (below_alloc (below_call (below_new _ _) hb1) _) hb2⟩
  · have hta := ht.alloc (.cells #[i z, .bool s] 33)
    go_enter Tryd.func8, Tryd.ntmps8
    go_wp2_with fail
    refine (local_inv z s t _ hz).mono ?_
    rintro e w1 ⟨rfl, hb1⟩
    go_wp2_with fail
    refine (example_holds _ ((hta.below hb1 hta.lt).alloc _)).mono ?_
    rintro e w2 ⟨rfl, hb2⟩
    go_wp2_with fail
    go_ret
    exact ⟨rfl, below_call (below_alloc (below_call (below_new _ _) hb1) _) hb2⟩
end CalW
end Go.Proofs.YtakpgoedijhpgaaDoor
