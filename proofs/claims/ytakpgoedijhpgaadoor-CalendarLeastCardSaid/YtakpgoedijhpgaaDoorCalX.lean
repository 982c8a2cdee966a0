/-
  The walks of the statements CalendarDates, CalendarTimes, CalendarNext, CalendarLocal.
-/
import Derived.Test.YtakpgoedijhpgaaDoorCalE
import Derived.Test.YtakpgoedijhpgaaDoorLib
namespace Go.Proofs.YtakpgoedijhpgaaDoor
namespace CalW
set_option linter.unusedSimpArgs false
set_option linter.unusedVariables false
open Go.RowKit

def Fine (W w' : World) : Prop := Tab w' ∧ Below W.heap.size W w'
theorem Fine.tab {W w' : World} (h : Fine W w') : Tab w' := h.1
theorem Fine.below {W w' : World} (h : Fine W w') : Below W.heap.size W w' := h.2

set_option maxHeartbeats 800000 in
theorem law_dates (t : Int) (w : World) (ht : Tab w) : Calls Tryd.prog 3 #[i t] w fun e w' => e = .returned (.bool true) ∧ Below w.heap.size w w' := by
  obtain ⟨d, c, hd, hp, hr⟩ : ∃ (d : Fin 5 → Int) (c : Int), True ∧
      (∀ w, Tab w → Calls Tryd.prog 11 #[i t] w fun e w' => e = .returned (.tuple #[.agg #[i (d 0), i (d 1), i (d 2), i (d 3), i (d 4)], i c]) ∧ Below w.heap.size w w') ∧
      (∀ w, Calls Tryd.prog 12 #[i t] w fun e w' => e = .returned (.tuple #[.agg #[i (d 0), i (d 1), i (d 2), i (d 3), i (d 4)], i c]) ∧ Below w.heap.size w w') := by
    by_cases h : 0 ≤ t ∧ t ≤ 268435456
    · exact ⟨fun k => if k = 0 then Cal.yr (t / 1440) else if k = 1 then Cal.mo (t / 1440) else if k = 2 then Cal.dy (t / 1440) else if k = 3 then Cal.wd (t / 1440) else t % 1440, 0, trivial, fun w ht => date_yes t w h.1 h.2 ht, fun w => rdate_yes t w h.1 h.2⟩
    · exact ⟨fun _ => 0, 2, trivial, fun w ht => date_no t w h, fun w => rdate_no t w h⟩
  generalize d 0 = d0 at *
  generalize d 1 = d1 at *
  generalize d 2 = d2 at *
  generalize d 3 = d3 at *
  generalize d 4 = d4 at *
  have HP := Lib.hid hp
  have HR := Lib.hid hr
  clear hp hr hd
  go_enter Tryd.func3, Tryd.ntmps3
  go_wp2_with fail
  refine (HP.out w ht).mono ?_
  rintro e w1 ⟨rfl, hb1⟩
  have ht1 := ht.below hb1 ht.lt
  have s1 := hb1.size
  go_wp2_with fail
  refine (HR.out _).mono ?_
  rintro e w2 ⟨rfl, hb2⟩
  have ht2 := (ht1.alloc _).below hb2 (ht1.alloc _).lt
  have s2 := hb2.size
  simp at s2
  have c1 : ∀ o, w2.cell? ⟨w1.heap.size, o, none⟩ = (w1.alloc (.cells #[i d0, i d1, i d2, i d3, i d4] 23)).cell? ⟨w1.heap.size, o, none⟩ := fun o => hb2.cell (p := ⟨w1.heap.size, o, none⟩) (by simp)
  have hz : w1.heap.size < w2.heap.size := by omega
  go_wp2_with fail
  refine (example_holds _ (ht2.alloc _)).mono ?_
  rintro e w3 ⟨rfl, hb3⟩
  go_wp2_with fail
  go_ret
  refine ⟨rfl, ?_⟩
  refine Below.trans ?_ (hb3.mono (by simp; omega))
  refine Below.alloc ?_ (by omega) _
  refine Below.trans ?_ (hb2.mono (by simp; omega))
  exact Below.alloc hb1 (by omega) _

set_option maxHeartbeats 800000 in
theorem law_times (y m k v mi : Int) (w : World) (ht : Tab w) : Calls Tryd.prog 4 #[dateV y m k v mi] w fun e w' => e = .returned (.bool true) ∧ Below w.heap.size w w' := by
  obtain ⟨r, c, hp, hr⟩ : ∃ (r c : Int),
      (∀ w, Tab w → Calls Tryd.prog 14 #[dateV y m k v mi] w fun e w' => e = .returned (.tuple #[i r, i c]) ∧ Below w.heap.size w w') ∧
      (∀ w, Calls Tryd.prog 15 #[dateV y m k v mi] w fun e w' => e = .returned (.tuple #[i r, i c]) ∧ Below w.heap.size w w') := by
    by_cases h1 : 2000 ≤ y ∧ y ≤ 2600 ∧ 1 ≤ m ∧ m ≤ 12
    · obtain ⟨a1, a2, a3, a4⟩ := h1
      by_cases h2 : 1 ≤ k ∧ k ≤ Cal.md y m ∧ 0 ≤ mi ∧ mi ≤ 1439
      · obtain ⟨a5, a6, a7, a8⟩ := h2
        obtain ⟨r, c, hrc⟩ : ∃ r c : Int, Hid ((¬ v = 0 ∧ ¬ v = Cal.wd (Cal.dayOf y m k) → r = 0 ∧ c = 1) ∧ (v = 0 ∨ v = Cal.wd (Cal.dayOf y m k) → (Cal.dayOf y m k * 1440 + mi ≤ 268435456 → r = Cal.dayOf y m k * 1440 + mi ∧ c = 0) ∧ (268435456 < Cal.dayOf y m k * 1440 + mi → r = 0 ∧ c = 1))) := by
          by_cases g1 : ¬ v = 0 ∧ ¬ v = Cal.wd (Cal.dayOf y m k)
          · exact ⟨0, 1, Lib.hid ⟨fun _ => ⟨rfl, rfl⟩, fun g => by omega⟩⟩
          · by_cases g2 : Cal.dayOf y m k * 1440 + mi ≤ 268435456
            · exact ⟨Cal.dayOf y m k * 1440 + mi, 0, Lib.hid ⟨fun g => absurd g g1, fun _ => ⟨fun _ => ⟨rfl, rfl⟩, fun g => by omega⟩⟩⟩
            · exact ⟨0, 1, Lib.hid ⟨fun g => ⟨rfl, rfl⟩, fun _ => ⟨fun g => absurd g g2, fun g => ⟨rfl, rfl⟩⟩⟩⟩
        exact ⟨r, c, fun w ht => time_in y m k v mi w a1 a2 a3 a4 ht a5 a6 a7 a8 r c hrc, fun w => rtime_in y m k v mi w a1 a2 a3 a4 a5 a6 a7 a8 r c hrc⟩
      · exact ⟨0, 1, fun w ht => time_no2 y m k v mi w a1 a2 a3 a4 ht h2, fun w => rtime_no y m k v mi w (by omega)⟩
    · exact ⟨0, 1, fun w ht => time_no1 y m k v mi w h1, fun w => rtime_no y m k v mi w (by omega)⟩
  have HP := Lib.hid hp
  have HR := Lib.hid hr
  clear hp hr
  have hta := ht.alloc (.cells #[i y, i m, i k, i v, i mi] 23)
  go_enter Tryd.func4, Tryd.ntmps4
  go_wp2_with fail
  refine (HP.out _ hta).mono ?_
  rintro e w1 ⟨rfl, hb1⟩
  have ht1 := hta.below hb1 hta.lt
  obtain ⟨hc, hf⟩ := bcell hb1
  go_wp2_with fail
  refine (HR.out _).mono ?_
  rintro e w2 ⟨rfl, hb2⟩
  have ht2 := ht1.below hb2 ht1.lt
  have s1 := hb1.size
  simp at s1
  have s2 := hb2.size
  go_wp2_with fail
  refine (example_holds _ ht2).mono ?_
  rintro e w3 ⟨rfl, hb3⟩
  go_wp2_with fail
  go_ret
  refine ⟨rfl, ?_⟩
  refine Below.trans ?_ (hb3.mono (by omega))
  refine Below.trans ?_ (hb2.mono (by omega))
  exact ((Below.refl _ _).alloc (Nat.le_refl _) _).trans (hb1.mono (by simp))

set_option maxHeartbeats 800000 in
theorem law_next (z : Int) (s : Bool) (t days mi : Int) (w : World) (ht : Tab w) : Calls Tryd.prog 6 #[zone z s, .agg #[i t, i days, i mi]] w fun e w' => e = .returned (.bool true) ∧ Below w.heap.size w w' := by
  obtain ⟨r, c, hp, hr⟩ : ∃ (r c : Int),
      (∀ w, Tab w → Calls Tryd.prog 22 #[zone z s, i t, i days, i mi] w fun e w' => e = .returned (.tuple #[i r, i c]) ∧ Below w.heap.size w w') ∧
      (∀ w, Calls Tryd.prog 23 #[zone z s, i t, i days, i mi] w fun e w' => e = .returned (.tuple #[i r, i c]) ∧ Below w.heap.size w w') := by
    by_cases h1 : -840 ≤ z ∧ z ≤ 840 ∧ 0 ≤ days ∧ days ≤ 127 ∧ 0 ≤ mi ∧ mi ≤ 1439
    · obtain ⟨a1, a2, a3, a4, a5, a6⟩ := h1
      by_cases h2 : 0 ≤ t ∧ t ≤ 268435456
      · obtain ⟨r, c, hn⟩ := Cal.nextIs_ex z s t days mi
        refine ⟨r, c, fun w ht => (next_in z s t days mi w ht a1 a2 h2.1 h2.2 a3 a4 a5 a6).mono ?_, fun w => (rnext_in z s t days mi w a1 a2 h2.1 h2.2 a3 a4 a5 a6).mono ?_⟩
        all_goals
          rintro e w' ⟨r', c', rfl, hn', hb⟩
          obtain ⟨rfl, rfl⟩ := hn.eq hn'
          exact ⟨rfl, hb⟩
      · exact ⟨0, 2, fun w ht => next_no z s t days mi w a1 a2 a3 a4 a5 a6 h2, fun w => rnext_no z s t days mi w a1 a2 a3 a4 a5 a6 h2⟩
    · exact ⟨0, 1, fun w ht => next_inv z s t days mi w h1, fun w => rnext_inv z s t days mi w h1⟩
  have HP := Lib.hid hp
  have HR := Lib.hid hr
  clear hp hr
  have hta := (ht.alloc (.cells #[i z, .bool s] 33)).alloc (.cells #[i t, i days, i mi] 38)
  go_enter Tryd.func6, Tryd.ntmps6
  go_wp2_with fail
  have b1 := (Blk.new w 33 #[i z, .bool s]).alloc (.cells #[i t, i days, i mi] 38)
  have b2 := Blk.new (w.alloc (.cells #[i z, .bool s] 33)) 38 #[i t, i days, i mi]
  have hB := below_alloc (below_new w (.cells #[i z, .bool s] 33)) (.cells #[i t, i days, i mi] 38)
  refine (HP.out _ hta).mono ?_
  rintro e w1 ⟨rfl, hb1⟩
  have ht1 := hta.below hb1 hta.lt
  have c1 := (b1.call hb1).cell
  have c2 := (b2.call hb1).cell
  simp only [World.size_alloc] at c2
  go_wp2_with fail
  refine (HR.out _).mono ?_
  rintro e w2 ⟨rfl, hb2⟩
  have ht2 := ht1.below hb2 ht1.lt
  go_wp2_with fail
  refine (example_holds _ ht2).mono ?_
  rintro e w3 ⟨rfl, hb3⟩
  go_wp2_with fail
  go_ret
  exact ⟨rfl, below_call (below_call (below_call hB hb1) hb2) hb3⟩

set_option maxHeartbeats 1600000 in
theorem law_local (z : Int) (s : Bool) (t : Int) (w : World) (ht : Tab w) : Calls Tryd.prog 5 #[zone z s, i t] w fun e w' => e = .returned (.bool true) ∧ Below w.heap.size w w' := by
  obtain ⟨d, c, hp, hr⟩ : ∃ (d : Fin 5 → Int) (c : Int),
      (∀ w, Tab w → Calls Tryd.prog 16 #[zone z s, i t] w fun e w' => e = .returned (.tuple #[.agg #[i (d 0), i (d 1), i (d 2), i (d 3), i (d 4)], i c]) ∧ Below w.heap.size w w') ∧
      (∀ w, Calls Tryd.prog 17 #[zone z s, i t] w fun e w' => e = .returned (.tuple #[.agg #[i (d 0), i (d 1), i (d 2), i (d 3), i (d 4)], i c]) ∧ Below w.heap.size w w') := by
    by_cases hz : -840 ≤ z ∧ z ≤ 840
    · by_cases h : 0 ≤ t ∧ t ≤ 268435456
      · exact ⟨fun k => if k = 0 then Cal.yr ((t + Cal.offs z s t) / 1440) else if k = 1 then Cal.mo ((t + Cal.offs z s t) / 1440) else if k = 2 then Cal.dy ((t + Cal.offs z s t) / 1440) else if k = 3 then Cal.wd ((t + Cal.offs z s t) / 1440) else (t + Cal.offs z s t) % 1440, 0, fun w ht => local_yes z s t w hz.1 hz.2 h.1 h.2 ht, fun w => rlocal_yes z s t w hz.1 hz.2 h.1 h.2⟩
      · exact ⟨fun _ => 0, 2, fun w ht => local_no z s t w hz.1 hz.2 h, fun w => rlocal_no z s t w hz.1 hz.2 h⟩
    · exact ⟨fun _ => 0, 1, fun w ht => local_inv z s t w hz, fun w => rlocal_inv z s t w hz⟩
  generalize d 0 = d0 at *
  generalize d 1 = d1 at *
  generalize d 2 = d2 at *
  generalize d 3 = d3 at *
  generalize d 4 = d4 at *
  have HP := Lib.hid hp
  have HR := Lib.hid hr
  clear hp hr
  generalize hsm : Cal.smr t = sm at *
  have HSM := Lib.hid hsm
  clear hsm
  generalize hof : Cal.offs z s t = of at *
  have HOF := Lib.hid hof
  clear hof
  have hsum : ∀ w, Tab w → Calls Tryd.prog 18 #[i t] w fun e w' => e = .returned (.bool sm) ∧ Below w.heap.size w w' := fun w ht => (summer_is t w ht HSM.out).mono fun e w' ⟨he, m, hm⟩ => ⟨he, by subst hm; exact below_drewN (Below.refl _ _) m⟩
  have hoff : ∀ w, Tab w → Calls Tryd.prog 20 #[zone z s, i t] w fun e w' => e = .returned (i of) ∧ Below w.heap.size w w' := fun w ht => by have := offset z s t w ht; rw [HOF.out] at this; exact this
  have hrof : ∀ w, Calls Tryd.prog 21 #[zone z s, i t] w fun e w' => e = .returned (i of) ∧ Below w.heap.size w w' := fun w => by have := roffset z s t w; rw [HOF.out] at this; exact this
  have HSU := Lib.hid hsum
  have HOO := Lib.hid hoff
  have HRO := Lib.hid hrof
  clear hsum hoff hrof
  have hta := ht.alloc (.cells #[i z, .bool s] 33)
  go_enter Tryd.func5, Tryd.ntmps5
  go_wp2_with fail
  have b0 := Blk.new w 33 #[i z, .bool s]
  refine (HP.out _ hta).mono ?_
  rintro e w1 ⟨rfl, hb1⟩
  have ht1 := hta.below hb1 hta.lt
  have b1 := b0.call hb1
  have c1 := (b1.alloc (.cells #[i d0, i d1, i d2, i d3, i d4] 23)).cell
  go_wp2_with fail
  refine (HR.out _).mono ?_
  rintro e w2 ⟨rfl, hb2⟩
  have ht2 := (ht1.alloc _).below hb2 (ht1.alloc _).lt
  clear c1
  go_wp2_with fail
  have hB : Below w.heap.size w (w2.alloc (.cells #[i d0, i d1, i d2, i d3, i d4] 23)) := below_alloc (below_call (below_alloc (below_call (below_new _ _) hb1) _) hb2) _
  have hT := ht2.alloc (.cells #[i d0, i d1, i d2, i d3, i d4] 23)
  have k0 := ((b1.alloc (.cells #[i d0, i d1, i d2, i d3, i d4] 23)).call hb2).alloc (.cells #[i d0, i d1, i d2, i d3, i d4] 23)
  have k1 := ((Blk.new w1 23 #[i d0, i d1, i d2, i d3, i d4]).call hb2).alloc (.cells #[i d0, i d1, i d2, i d3, i d4] 23)
  have k2 := Blk.new w2 23 #[i d0, i d1, i d2, i d3, i d4]
  generalize w2.alloc (.cells #[i d0, i d1, i d2, i d3, i d4] 23) = W at *
  generalize w2.heap.size = g2 at *
  generalize w1.heap.size = g1 at *
  have hS : ∀ w', Below W.heap.size W w' → (∀ o, w'.cell? ⟨w.heap.size, o, none⟩ = #[i z, .bool s][o]?) ∧ (∀ o, w'.cell? ⟨g1, o, none⟩ = #[i d0, i d1, i d2, i d3, i d4][o]?) ∧ (∀ o, w'.cell? ⟨g2, o, none⟩ = #[i d0, i d1, i d2, i d3, i d4][o]?) ∧ Fine W w' :=
    fun w' hb => ⟨(k0.call hb).cell, (k1.call hb).cell, (k2.call hb).cell, ⟨hT.below hb hT.lt, hb⟩⟩
  have HS := Lib.hid hS
  clear hS k0 k1 k2 hb2 hb1 b0 b1 ht2 ht1
  go_region_held3 (fun w' => (∀ o, w'.cell? ⟨w.heap.size, o, none⟩ = #[i z, .bool s][o]?) ∧ (∀ o, w'.cell? ⟨g1, o, none⟩ = #[i d0, i d1, i d2, i d3, i d4][o]?) ∧ (∀ o, w'.cell? ⟨g2, o, none⟩ = #[i d0, i d1, i d2, i d3, i d4][o]?) ∧ Fine W w')
    (first | exact HS.out _ (below_drewN (Below.refl _ _) _) | exact HS.out _ (Below.drew (Below.refl _ _)) | (go_split_ands; exact HS.out _ (below_call (Fine.below (W := W) (by assumption)) hbx)))
    (first | (go_at_call 18; go_split_ands; refine (HSU.out _ (Fine.tab (W := W) (by assumption))).mono ?_; rintro e wx ⟨rfl, hbx⟩) | (go_at_call 19; refine (rsummer _ _ HSM.out).mono ?_; rintro e wx ⟨rfl, hbx⟩) | (go_at_call 20; go_split_ands; refine (HOO.out _ (Fine.tab (W := W) (by assumption))).mono ?_; rintro e wx ⟨rfl, hbx⟩) | (go_at_call 21; refine (HRO.out _).mono ?_; rintro e wx ⟨rfl, hbx⟩) | (go_at_call 13; go_split_ands; refine (example_holds _ (Fine.tab (W := W) (by assumption))).mono ?_; rintro e wx ⟨rfl, hbx⟩))
  go_split_ands
  have hfin := Fine.below (W := W) (w' := wx) (by assumption)
  go_wp2_with fail
  go_ret
  exact ⟨rfl, below_call hB hfin⟩
end CalW
end Go.Proofs.YtakpgoedijhpgaaDoor
