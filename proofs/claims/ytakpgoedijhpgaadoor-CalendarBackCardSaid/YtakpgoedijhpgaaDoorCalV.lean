/-
  The walks of the calendar's reference: Local, On, Next.
-/
import Derived.Test.YtakpgoedijhpgaaDoorCalU
namespace Go.Proofs.YtakpgoedijhpgaaDoor
namespace CalW
set_option linter.unusedSimpArgs false
set_option linter.unusedVariables false
open Go.RowKit

set_option maxHeartbeats 400000 in
theorem rlocal_inv (z : Int) (s : Bool) (t : Int) (w : World) (hz : ¬ (-840 ≤ z ∧ z ≤ 840)) :
    Calls Tryd.prog 17 #[zone z s, i t] w fun e w' => e = .returned (.tuple #[noDate, i 1]) ∧ Below w.heap.size w w' := by
  go_enter Tryd.func17, Tryd.ntmps17
  go_wp2_with fail
  refine (rzone_no _ _ _ hz).mono ?_
  rintro e w1 ⟨rfl, hb⟩
  obtain ⟨hc, hf⟩ := bcell hb
  have hs := hb.size
  simp at hs
  go_wp2_with fail
  refine bodyPost_ret (v := .tuple #[noDate, i 1]) (by simp [results, Tryd.results17, go_sem, hc, hf]) rfl ⟨rfl, ?_⟩
  repeat (first | (with_reducible exact Below.refl _ _) | (with_reducible refine below_drewN ?_ _) | (with_reducible refine Below.setCell ?_ (by simp) _) | (with_reducible refine Below.alloc ?_ (by simp) _) | (with_reducible refine Below.trans ?_ (hb.mono (by first | omega | (simp; done) | (simp; omega)))))
set_option maxHeartbeats 400000 in
theorem rlocal_no (z : Int) (s : Bool) (t : Int) (w : World) (hz : -840 ≤ z) (hz' : z ≤ 840) (h : ¬ (0 ≤ t ∧ t ≤ 268435456)) :
    Calls Tryd.prog 17 #[zone z s, i t] w fun e w' => e = .returned (.tuple #[noDate, i 2]) ∧ Below w.heap.size w w' := by
  go_enter Tryd.func17, Tryd.ntmps17
  go_wp2_with fail
  refine (rzone_yes _ _ _ hz hz').mono ?_
  rintro e w1 ⟨rfl, hb⟩
  obtain ⟨hc, hf⟩ := bcell hb
  have hs := hb.size
  simp at hs
  go_wp2_with (go_at_call 27; refine (right_no _ _ h).mono ?_; rintro e w' ⟨rfl, rfl⟩)
  refine bodyPost_ret (v := .tuple #[noDate, i 2]) (by simp [results, Tryd.results17, go_sem, hc, hf]) rfl ⟨rfl, ?_⟩
  repeat (first | (with_reducible exact Below.refl _ _) | (with_reducible refine below_drewN ?_ _) | (with_reducible refine Below.setCell ?_ (by simp) _) | (with_reducible refine Below.alloc ?_ (by simp) _) | (with_reducible refine Below.trans ?_ (hb.mono (by first | omega | (simp; done) | (simp; omega)))))
set_option maxHeartbeats 400000 in
theorem rlocal_yes (z : Int) (s : Bool) (t : Int) (w : World) (hz : -840 ≤ z) (hz' : z ≤ 840) (h : 0 ≤ t) (h' : t ≤ 268435456) :
    Calls Tryd.prog 17 #[zone z s, i t] w fun e w' => e = .returned (.tuple #[date ((t + Cal.offs z s t) / 1440) ((t + Cal.offs z s t) % 1440), i 0]) ∧ Below w.heap.size w w' := by
  have ob := Cal.offs_bd z s t
  go_enter Tryd.func17, Tryd.ntmps17
  go_wp2_with fail
  refine (rzone_yes _ _ _ hz hz').mono ?_
  rintro e w1 ⟨rfl, hb⟩
  obtain ⟨hc, hf⟩ := bcell hb
  have hs := hb.size
  simp at hs
  go_wp2_with (go_at_call 27; refine (right_yes _ _ h h').mono ?_; rintro e w' ⟨rfl, rfl⟩)
  refine (roffset _ _ _ _).mono ?_
  rintro e w2 ⟨rfl, hb2⟩
  go_wp2_with fail
  refine (rcivil _ _ (by omega) (by omega)).mono ?_
  rintro e w3 ⟨rfl, hb3⟩
  have hB : Below (w.heap.size + 2) ((w.alloc (.cells #[i z, .bool s] 33)).alloc (.cells #[i 0, i 0, i 0, i 0, i 0] 23)) w3 := by
    have h2 := hb2.size
    exact ((hb.mono (by simp)).trans (hb2.mono (by omega))).trans (hb3.mono (by omega))
  clear hc hf
  have hc : ∀ o, w3.cell? ⟨w.heap.size + 1, o, none⟩ = ((w.alloc (.cells #[i z, .bool s] 33)).alloc (.cells #[i 0, i 0, i 0, i 0, i 0] 23)).cell? ⟨w.heap.size + 1, o, none⟩ := fun o => hB.cell (p := ⟨w.heap.size + 1, o, none⟩) (by simp)
  have hf : ∀ o, w3.frozen? ⟨w.heap.size + 1, o, none⟩ = ((w.alloc (.cells #[i z, .bool s] 33)).alloc (.cells #[i 0, i 0, i 0, i 0, i 0] 23)).frozen? ⟨w.heap.size + 1, o, none⟩ := fun o => hB.frozen (p := ⟨w.heap.size + 1, o, none⟩) (by simp)
  unfold date
  go_wp2_with fail
  refine bodyPost_ret (v := .tuple #[date ((t + Cal.offs z s t) / 1440) ((t + Cal.offs z s t) % 1440), i 0]) (by simp [results, Tryd.results17, go_sem, date, hc, hf]) rfl ⟨rfl, ?_⟩
  repeat (first | (with_reducible exact Below.refl _ _) | (with_reducible refine below_drewN ?_ _) | (with_reducible refine Below.setCell ?_ (by simp) _) | (with_reducible refine Below.alloc ?_ (by simp) _) | (with_reducible refine Below.trans ?_ (hB.mono (by first | omega | (simp; done) | (simp; omega)))))

set_option maxHeartbeats 400000 in
theorem ron (days v : Int) (w : World) (h : 0 ≤ days) (h' : days ≤ 127) (hv : 1 ≤ v) (hv' : v ≤ 7) {b : Bool} (hb : Cal.onD days v = b) :
    Calls Tryd.prog 40 #[i days, i v] w fun e w' => e = .returned (.bool b) ∧ w = w' := by
  subst hb
  by_cases hd : days = 0
  · have hd1 : (days == 0) = true := by simpa using hd
    have e : Cal.onD days v = true := by rw [hd]; exact onD_zero _
    rw [e]
    clear hd e
    go_enter Tryd.func40, Tryd.ntmps40
    go_wp2
    all_goals go_ret
    all_goals exact ⟨rfl, rfl⟩
  · have hd1 : (days == 0) = false := by simpa using hd
    have HD := Lib.hid hd
    clear hd
    go_enter Tryd.func40, Tryd.ntmps40
    go_wp2
    all_goals go_ret
    all_goals exact ⟨retB (onD_bits days v h h' hv HD.out rfl).symm, rfl⟩

set_option maxHeartbeats 800000 in
theorem rnext_inv (z : Int) (s : Bool) (t days mi : Int) (w : World) (h : ¬ (-840 ≤ z ∧ z ≤ 840 ∧ 0 ≤ days ∧ days ≤ 127 ∧ 0 ≤ mi ∧ mi ≤ 1439)) :
    Calls Tryd.prog 23 #[zone z s, i t, i days, i mi] w fun e w' => e = .returned (.tuple #[i 0, i 1]) ∧ Below w.heap.size w w' := by
  by_cases hz : -840 ≤ z ∧ z ≤ 840
  · obtain ⟨hz, hz'⟩ := hz
    go_enter Tryd.func23, Tryd.ntmps23
    go_wp2_with fail
    refine (rzone_yes _ _ _ hz hz').mono ?_
    rintro e w1 ⟨rfl, hb⟩
    go_wp2_with fail
    all_goals first | (exfalso; omega) | (go_ret2; exact ⟨rfl, ((Below.refl _ _).alloc (Nat.le_refl _) _).trans (hb.mono (by simp))⟩)
  · go_enter Tryd.func23, Tryd.ntmps23
    go_wp2_with fail
    refine (rzone_no _ _ _ hz).mono ?_
    rintro e w1 ⟨rfl, hb⟩
    go_wp2_with fail
    go_ret2
    exact ⟨rfl, ((Below.refl _ _).alloc (Nat.le_refl _) _).trans (hb.mono (by simp))⟩
set_option maxHeartbeats 800000 in
theorem rnext_no (z : Int) (s : Bool) (t days mi : Int) (w : World) (hz : -840 ≤ z) (hz' : z ≤ 840) (h3 : 0 ≤ days) (h4 : days ≤ 127) (h5 : 0 ≤ mi) (h6 : mi ≤ 1439) (h : ¬ (0 ≤ t ∧ t ≤ 268435456)) :
    Calls Tryd.prog 23 #[zone z s, i t, i days, i mi] w fun e w' => e = .returned (.tuple #[i 0, i 2]) ∧ Below w.heap.size w w' := by
  go_enter Tryd.func23, Tryd.ntmps23
  go_wp2_with fail
  refine (rzone_yes _ _ _ hz hz').mono ?_
  rintro e w1 ⟨rfl, hb⟩
  go_wp2_with (go_at_call 27; refine (right_no _ _ h).mono ?_; rintro e w' ⟨rfl, rfl⟩)
  go_ret2
  exact ⟨rfl, ((Below.refl _ _).alloc (Nat.le_refl _) _).trans (hb.mono (by simp))⟩

set_option maxHeartbeats 800000 in
theorem rnext_in (z : Int) (s : Bool) (t days mi : Int) (w : World) (hz : -840 ≤ z) (hz' : z ≤ 840) (h1 : 0 ≤ t) (h2 : t ≤ 268435456) (h3 : 0 ≤ days) (h4 : days ≤ 127) (h5 : 0 ≤ mi) (h6 : mi ≤ 1439) :
    Calls Tryd.prog 23 #[zone z s, i t, i days, i mi] w (NextPost z s t days mi w) := by
  go_enter Tryd.func23, Tryd.ntmps23
  go_wp2_with fail
  refine (rzone_yes _ _ _ hz hz').mono ?_
  rintro e w1 ⟨rfl, hb⟩
  go_wp2_with (go_at_call 27; refine (right_yes _ _ h1 h2).mono ?_; rintro e w' ⟨rfl, rfl⟩)
  have hB0 : Below (w.heap.size + 1) (w.alloc (.cells #[i z, .bool s] 33)) w1 := hb.mono (by simp)
  clear hb
  go_loopw [10] (fun x wr => ∃ u : Int, t < u ∧ u ≤ 268435457 ∧ x = i u ∧ Hid (∀ v, t < v → v < u → ¬ Cal.hit z s days mi v) ∧ Below (w.heap.size + 1) (w.alloc (.cells #[i z, .bool s] 33)) wr) (fun x _ => (268435458 - intOf x).toNat)
  case atStart => exact ⟨t + 1, by omega, by omega, rfl, Lib.hid (fun v g1 g2 => by omega), hB0⟩
  case round =>
    clear hB0
    obtain ⟨u, hu1, hu2, rfl, HU, hBw⟩ := hrel
    have hc : ∀ o, wr.cell? ⟨w.heap.size, o, none⟩ = (w.alloc (.cells #[i z, .bool s] 33)).cell? ⟨w.heap.size, o, none⟩ := fun o => hBw.cell (p := ⟨w.heap.size, o, none⟩) (by simp)
    have hsz : w.heap.size + 1 ≤ wr.heap.size := by have := hBw.size; simpa using this
    by_cases hlt : u ≤ t + 11520 ∧ u ≤ 268435456
    · obtain ⟨hl1, hl2⟩ := hlt
      have wb := Cal.wd_bd ((u + Cal.offs z s u) / 1440)
      by_cases hm : (u + Cal.offs z s u) % 1440 = mi
      · have hm1 : ((u + Cal.offs z s u) % 1440 == mi) = true := by simpa using hm
        have HM := Lib.hid hm
        clear hm
        cases hon : Cal.onD days (Cal.wd ((u + Cal.offs z s u) / 1440))
        · have HO := Lib.hid hon
          clear hon
          go_wp2_with fail
          refine (rlocal_yes _ _ _ _ hz hz' (by omega) (by omega)).mono ?_
          rintro e w2 ⟨rfl, hb2⟩
          unfold date
          go_wp2_with (go_at_call 40; refine (ron _ _ _ h3 h4 wb.1 wb.2 HO.out).mono ?_; rintro e w' ⟨rfl, rfl⟩)
          go_roundw
          case rel =>
            refine ⟨u + 1, by omega, by omega, rfl, Lib.hid (fun v g1 g2 => ?_), Below.alloc (hBw.trans (hb2.mono hsz)) (by have := hb2.size; omega) _⟩
            rcases Int.lt_or_le v u with g | g
            · exact HU.out v g1 g
            · obtain rfl : v = u := by omega
              exact fun hh => by have := hh.2; rw [HO.out] at this; cases this
          case measure => simp [intOf]; omega
        · have HO := Lib.hid hon
          clear hon
          go_wp2_with fail
          refine (rlocal_yes _ _ _ _ hz hz' (by omega) (by omega)).mono ?_
          rintro e w2 ⟨rfl, hb2⟩
          unfold date
          go_wp2_with (go_at_call 40; refine (ron _ _ _ h3 h4 wb.1 wb.2 HO.out).mono ?_; rintro e w' ⟨rfl, rfl⟩)
          go_ret2
          refine ⟨u, 0, rfl, .inl ⟨rfl, hu1, hl1, hl2, ⟨HM.out, HO.out⟩, HU.out⟩, ?_⟩
          exact Below.alloc (((Below.refl _ _).alloc (Nat.le_refl _) _).trans ((hBw.trans (hb2.mono hsz)).mono (by omega))) (by have := hb2.size; omega) _
      · have hm1 : ((u + Cal.offs z s u) % 1440 == mi) = false := by simpa using hm
        have HM := Lib.hid hm
        clear hm
        go_wp2_with fail
        refine (rlocal_yes _ _ _ _ hz hz' (by omega) (by omega)).mono ?_
        rintro e w2 ⟨rfl, hb2⟩
        unfold date
        go_wp2_with fail
        go_roundw
        case rel =>
          refine ⟨u + 1, by omega, by omega, rfl, Lib.hid (fun v g1 g2 => ?_), Below.alloc (hBw.trans (hb2.mono hsz)) (by have := hb2.size; omega) _⟩
          rcases Int.lt_or_le v u with g | g
          · exact HU.out v g1 g
          · obtain rfl : v = u := by omega
            exact fun hh => HM.out hh.1
        case measure => simp [intOf]; omega
    · have hx : (t + 11520 < u) ∨ (u ≤ t + 11520 ∧ 268435456 < u) := by omega
      clear hlt
      rcases hx with hx | ⟨hx, hx'⟩
      all_goals
        go_wp2_with fail
        go_ret2
        exact ⟨0, 8, rfl, .inr ⟨rfl, rfl, fun v g1 g2 g3 => HU.out v g1 (by omega)⟩, ((Below.refl _ _).alloc (Nat.le_refl _) _).trans (hBw.mono (by omega))⟩
end CalW
end Go.Proofs.YtakpgoedijhpgaaDoor
