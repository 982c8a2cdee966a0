/-
  The walks of package calendar's exported functions Summer, Offset and Local.
-/
import Derived.Test.YtndlhhiifmjieaaDoorCalT
namespace Go.Proofs.YtndlhhiifmjieaaDoor
namespace CalW
set_option linter.unusedSimpArgs false
set_option linter.unusedVariables false
open Go.RowKit

set_option maxHeartbeats 400000 in
theorem summer (t : Int) (w : World) (ht : Tab w) :
    Calls Tryd.prog 93 #[i t] w fun e w' => e = .returned (.bool (Cal.smr t)) ∧ ∃ m, w' = w.drewN m := by
  by_cases h : 0 ≤ t ∧ t ≤ 268435456
  · obtain ⟨h1, h2⟩ := h
    have hy := Cal.yr_bd (t / 1440) (by omega) (by omega)
    have l3 := Cal.ls_bd (Cal.yr (t / 1440)) 3 (by omega) (by omega)
    have l10 := Cal.ls_bd (Cal.yr (t / 1440)) 10 (by omega) (by omega)
    go_enter Tryd.func93, Tryd.ntmps93
    go_wp2_with (first | (go_at_call 82; refine (isTime_yes _ _ (by omega) (by omega)).mono ?_; rintro e w' ⟨rfl, rfl⟩) | (go_at_call 89; refine (yearOf _ _ (by omega) (by omega)).mono ?_; rintro e w' ⟨rfl, m, rfl⟩) | (go_at_call 96; refine (lastSunday _ _ _ (by omega) (by omega) (by omega) (by omega) (by exact ht.drewN _)).mono ?_; rintro e w' ⟨rfl, m3, rfl⟩))
    all_goals go_ret
    · exact ⟨retB (by simp [Cal.smr]; omega), _, rfl⟩
    · exact ⟨retB (by simp [Cal.smr, *]), _, rfl⟩
  · have e : Cal.smr t = false := by simp [Cal.smr]; omega
    rw [e]
    clear e
    go_enter Tryd.func93, Tryd.ntmps93
    go_wp2_with (go_at_call 82; refine (isTime_no _ _ h).mono ?_; rintro e w' ⟨rfl, rfl⟩)
    go_ret
    exact ⟨rfl, 0, rfl⟩
theorem summer_is (t : Int) (w : World) (ht : Tab w) {b : Bool} (hb : Cal.smr t = b) :
    Calls Tryd.prog 93 #[i t] w fun e w' => e = .returned (.bool b) ∧ ∃ m, w' = w.drewN m := by
  have := summer t w ht
  rwa [hb] at this

abbrev zone (z : Int) (s : Bool) : Value := .agg #[i z, .bool s]

set_option maxHeartbeats 400000 in
theorem validZone_yes (z : Int) (s : Bool) (w : World) (h : -840 ≤ z) (h' : z ≤ 840) :
    Calls Tryd.prog 81 #[zone z s] w fun e w' => e = .returned (.bool true) ∧ Below w.heap.size w w' := by
  go_enter Tryd.func81, Tryd.ntmps81
  go_wp2
  all_goals go_ret
  all_goals exact ⟨retB (by first | (simp; done) | (simp; omega)), (Below.refl _ _).alloc (Nat.le_refl _) _⟩
set_option maxHeartbeats 400000 in
theorem validZone_no (z : Int) (s : Bool) (w : World) (h : ¬ (-840 ≤ z ∧ z ≤ 840)) :
    Calls Tryd.prog 81 #[zone z s] w fun e w' => e = .returned (.bool false) ∧ Below w.heap.size w w' := by
  go_enter Tryd.func81, Tryd.ntmps81
  go_wp2
  all_goals go_ret
  all_goals exact ⟨retB (by first | (simp; done) | (simp; omega)), (Below.refl _ _).alloc (Nat.le_refl _) _⟩

set_option maxHeartbeats 400000 in
theorem offset (z : Int) (s : Bool) (t : Int) (w : World) (ht : Tab w) :
    Calls Tryd.prog 84 #[zone z s, i t] w fun e w' => e = .returned (i (Cal.offs z s t)) ∧ Below w.heap.size w w' := by
  by_cases hz : -840 ≤ z ∧ z ≤ 840
  · obtain ⟨h1, h2⟩ := hz
    cases s
    · rw [Cal.offs_off z t ⟨h1, h2⟩]
      go_enter Tryd.func84, Tryd.ntmps84
      go_wp2_with fail
      refine (validZone_yes _ _ _ h1 h2).mono ?_
      rintro e w1 ⟨rfl, hb⟩
      obtain ⟨hc, hf⟩ := bcell hb
      go_wp2_with fail
      go_ret
      exact ⟨rfl, ((Below.refl _ _).alloc (Nat.le_refl _) _).trans (hb.mono (by simp))⟩
    · cases hs : Cal.smr t
      · rw [Cal.offs_no z true t ⟨h1, h2⟩ hs]
        have HS := Lib.hid hs
        clear hs
        go_enter Tryd.func84, Tryd.ntmps84
        go_wp2_with fail
        refine (validZone_yes _ _ _ h1 h2).mono ?_
        rintro e w1 ⟨rfl, hb⟩
        obtain ⟨hc, hf⟩ := bcell hb
        have ht1 := (ht.alloc (.cells #[i z, .bool true] 28)).below hb (ht.alloc _).lt
        go_wp2_with (go_at_call 93; refine (summer_is _ _ ht1 HS.out).mono ?_; rintro e w' ⟨rfl, m, rfl⟩)
        go_ret
        exact ⟨rfl, below_drewN (((Below.refl _ _).alloc (Nat.le_refl _) _).trans (hb.mono (by simp))) _⟩
      · rw [Cal.offs_yes z t ⟨h1, h2⟩ hs]
        have HS := Lib.hid hs
        clear hs
        go_enter Tryd.func84, Tryd.ntmps84
        go_wp2_with fail
        refine (validZone_yes _ _ _ h1 h2).mono ?_
        rintro e w1 ⟨rfl, hb⟩
        obtain ⟨hc, hf⟩ := bcell hb
        have ht1 := (ht.alloc (.cells #[i z, .bool true] 28)).below hb (ht.alloc _).lt
        go_wp2_with (go_at_call 93; refine (summer_is _ _ ht1 HS.out).mono ?_; rintro e w' ⟨rfl, m, rfl⟩)
        go_ret
        exact ⟨rfl, below_drewN (((Below.refl _ _).alloc (Nat.le_refl _) _).trans (hb.mono (by simp))) _⟩
  · rw [Cal.offs_out z s t hz]
    go_enter Tryd.func84, Tryd.ntmps84
    go_wp2_with fail
    refine (validZone_no _ _ _ hz).mono ?_
    rintro e w1 ⟨rfl, hb⟩
    go_wp2_with fail
    go_ret
    exact ⟨rfl, ((Below.refl _ _).alloc (Nat.le_refl _) _).trans (hb.mono (by simp))⟩

set_option maxHeartbeats 400000 in
theorem local_inv (z : Int) (s : Bool) (t : Int) (w : World) (hz : ¬ (-840 ≤ z ∧ z ≤ 840)) :
    Calls Tryd.prog 75 #[zone z s, i t] w fun e w' => e = .returned (.tuple #[noDate, i 1]) ∧ Below w.heap.size w w' := by
  go_enter Tryd.func75, Tryd.ntmps75
  go_wp2_with fail
  refine (validZone_no _ _ _ hz).mono ?_
  rintro e w1 ⟨rfl, hb⟩
  obtain ⟨hc, hf⟩ := bcell hb
  have hs := hb.size
  simp at hs
  go_wp2_with fail
  refine bodyPost_ret (v := .tuple #[noDate, i 1]) (by simp [results, Tryd.results75, go_sem, hc, hf]) rfl ⟨rfl, ?_⟩
  repeat (first | (with_reducible exact Below.refl _ _) | (with_reducible refine below_drewN ?_ _) | (with_reducible refine Below.setCell ?_ (by simp) _) | (with_reducible refine Below.alloc ?_ (by simp) _) | (with_reducible refine Below.trans ?_ (hb.mono (by first | omega | (simp; done) | (simp; omega)))))
set_option maxHeartbeats 400000 in
theorem local_no (z : Int) (s : Bool) (t : Int) (w : World) (hz : -840 ≤ z) (hz' : z ≤ 840) (h : ¬ (0 ≤ t ∧ t ≤ 268435456)) :
    Calls Tryd.prog 75 #[zone z s, i t] w fun e w' => e = .returned (.tuple #[noDate, i 2]) ∧ Below w.heap.size w w' := by
  go_enter Tryd.func75, Tryd.ntmps75
  go_wp2_with fail
  refine (validZone_yes _ _ _ hz hz').mono ?_
  rintro e w1 ⟨rfl, hb⟩
  obtain ⟨hc, hf⟩ := bcell hb
  have hs := hb.size
  simp at hs
  go_wp2_with (go_at_call 82; refine (isTime_no _ _ h).mono ?_; rintro e w' ⟨rfl, rfl⟩)
  refine bodyPost_ret (v := .tuple #[noDate, i 2]) (by simp [results, Tryd.results75, go_sem, hc, hf]) rfl ⟨rfl, ?_⟩
  repeat (first | (with_reducible exact Below.refl _ _) | (with_reducible refine below_drewN ?_ _) | (with_reducible refine Below.setCell ?_ (by simp) _) | (with_reducible refine Below.alloc ?_ (by simp) _) | (with_reducible refine Below.trans ?_ (hb.mono (by first | omega | (simp; done) | (simp; omega)))))
set_option maxHeartbeats 400000 in
theorem local_yes (z : Int) (s : Bool) (t : Int) (w : World) (hz : -840 ≤ z) (hz' : z ≤ 840) (h : 0 ≤ t) (h' : t ≤ 268435456) (ht : Tab w) :
    Calls Tryd.prog 75 #[zone z s, i t] w fun e w' => e = .returned (.tuple #[date ((t + Cal.offs z s t) / 1440) ((t + Cal.offs z s t) % 1440), i 0]) ∧ Below w.heap.size w w' := by
  have ob := Cal.offs_bd z s t
  have hta := (ht.alloc (.cells #[i z, .bool s] 28)).alloc (.cells #[i 0, i 0, i 0, i 0, i 0] 119)
  go_enter Tryd.func75, Tryd.ntmps75
  go_wp2_with fail
  refine (validZone_yes _ _ _ hz hz').mono ?_
  rintro e w1 ⟨rfl, hb⟩
  obtain ⟨hc, hf⟩ := bcell hb
  have hs := hb.size
  simp at hs
  have hta1 := hta.below hb hta.lt
  go_wp2_with (go_at_call 82; refine (isTime_yes _ _ h h').mono ?_; rintro e w' ⟨rfl, rfl⟩)
  refine (offset _ _ _ _ hta1).mono ?_
  rintro e w2 ⟨rfl, hb2⟩
  have hta2 := hta1.below hb2 hta1.lt
  go_wp2_with fail
  refine (civil _ _ (by omega) (by omega) hta2).mono ?_
  rintro e w3 ⟨rfl, hb3⟩
  have hB : Below (w.heap.size + 2) ((w.alloc (.cells #[i z, .bool s] 28)).alloc (.cells #[i 0, i 0, i 0, i 0, i 0] 119)) w3 := by
    have h2 := hb2.size
    exact ((hb.mono (by simp)).trans (hb2.mono (by omega))).trans (hb3.mono (by omega))
  clear hc hf
  have hc : ∀ o, w3.cell? ⟨w.heap.size + 1, o, none⟩ = ((w.alloc (.cells #[i z, .bool s] 28)).alloc (.cells #[i 0, i 0, i 0, i 0, i 0] 119)).cell? ⟨w.heap.size + 1, o, none⟩ := fun o => hB.cell (p := ⟨w.heap.size + 1, o, none⟩) (by simp)
  have hf : ∀ o, w3.frozen? ⟨w.heap.size + 1, o, none⟩ = ((w.alloc (.cells #[i z, .bool s] 28)).alloc (.cells #[i 0, i 0, i 0, i 0, i 0] 119)).frozen? ⟨w.heap.size + 1, o, none⟩ := fun o => hB.frozen (p := ⟨w.heap.size + 1, o, none⟩) (by simp)
  unfold date
  go_wp2_with fail
  refine bodyPost_ret (v := .tuple #[date ((t + Cal.offs z s t) / 1440) ((t + Cal.offs z s t) % 1440), i 0]) (by simp [results, Tryd.results75, go_sem, date, hc, hf]) rfl ⟨rfl, ?_⟩
  repeat (first | (with_reducible exact Below.refl _ _) | (with_reducible refine below_drewN ?_ _) | (with_reducible refine Below.setCell ?_ (by simp) _) | (with_reducible refine Below.alloc ?_ (by simp) _) | (with_reducible refine Below.trans ?_ (hB.mono (by first | omega | (simp; done) | (simp; omega)))))
end CalW
end Go.Proofs.YtndlhhiifmjieaaDoor
