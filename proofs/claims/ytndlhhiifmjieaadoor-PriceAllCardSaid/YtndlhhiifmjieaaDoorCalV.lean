/-
  The walks of the calendar's reference: Local, On, Next.
-/
import Derived.Test.YtndlhhiifmjieaaDoorCalU
namespace Go.Proofs.YtndlhhiifmjieaaDoor
namespace CalW
set_option linter.unusedSimpArgs false
set_option linter.unusedVariables false
open Go.RowKit

set_option maxHeartbeats 400000 in
theorem rlocal_inv (z : Int) (s : Bool) (t : Int) (w : World) (hz : ¬ (-840 ≤ z ∧ z ≤ 840)) :
    Calls Tryd.prog 65 #[zone z s, i t] w fun e w' => e = .returned (.tuple #[noDate, i 1]) ∧ Below w.heap.size w w' := by
  go_enter Tryd.func65, Tryd.ntmps65
  go_wp2_with fail
  refine (rzone_no _ _ _ hz).mono ?_
  rintro e w1 ⟨rfl, hb⟩
  obtain ⟨hc, hf⟩ := bcell hb
  have hs := hb.size
  simp at hs
  go_wp2_with fail
  refine bodyPost_ret (v := .tuple #[noDate, i 1]) (by simp [results, Tryd.results65, go_sem, hc, hf]) rfl ⟨rfl, ?_⟩
  repeat (first | (with_reducible exact Below.refl _ _) | (with_reducible refine below_drewN ?_ _) | (with_reducible refine Below.setCell ?_ (by simp) _) | (with_reducible refine Below.alloc ?_ (by simp) _) | (with_reducible refine Below.trans ?_ (hb.mono (by first | omega | (simp; done) | (simp; omega)))))
set_option maxHeartbeats 400000 in
theorem rlocal_no (z : Int) (s : Bool) (t : Int) (w : World) (hz : -840 ≤ z) (hz' : z ≤ 840) (h : ¬ (0 ≤ t ∧ t ≤ 268435456)) :
    Calls Tryd.prog 65 #[zone z s, i t] w fun e w' => e = .returned (.tuple #[noDate, i 2]) ∧ Below w.heap.size w w' := by
  go_enter Tryd.func65, Tryd.ntmps65
  go_wp2_with fail
  refine (rzone_yes _ _ _ hz hz').mono ?_
  rintro e w1 ⟨rfl, hb⟩
  obtain ⟨hc, hf⟩ := bcell hb
  have hs := hb.size
  simp at hs
  go_wp2_with (go_at_call 38; refine (right_no _ _ h).mono ?_; rintro e w' ⟨rfl, rfl⟩)
  refine bodyPost_ret (v := .tuple #[noDate, i 2]) (by simp [results, Tryd.results65, go_sem, hc, hf]) rfl ⟨rfl, ?_⟩
  repeat (first | (with_reducible exact Below.refl _ _) | (with_reducible refine below_drewN ?_ _) | (with_reducible refine Below.setCell ?_ (by simp) _) | (with_reducible refine Below.alloc ?_ (by simp) _) | (with_reducible refine Below.trans ?_ (hb.mono (by first | omega | (simp; done) | (simp; omega)))))
set_option maxHeartbeats 400000 in
theorem rlocal_yes (z : Int) (s : Bool) (t : Int) (w : World) (hz : -840 ≤ z) (hz' : z ≤ 840) (h : 0 ≤ t) (h' : t ≤ 268435456) :
    Calls Tryd.prog 65 #[zone z s, i t] w fun e w' => e = .returned (.tuple #[date ((t + Cal.offs z s t) / 1440) ((t + Cal.offs z s t) % 1440), i 0]) ∧ Below w.heap.size w w' := by
  have ob := Cal.offs_bd z s t
  go_enter Tryd.func65, Tryd.ntmps65
  go_wp2_with fail
  refine (rzone_yes _ _ _ hz hz').mono ?_
  rintro e w1 ⟨rfl, hb⟩
  obtain ⟨hc, hf⟩ := bcell hb
  have hs := hb.size
  simp at hs
  go_wp2_with (go_at_call 38; refine (right_yes _ _ h h').mono ?_; rintro e w' ⟨rfl, rfl⟩)
  refine (roffset _ _ _ _).mono ?_
  rintro e w2 ⟨rfl, hb2⟩
  go_wp2_with fail
  refine (rcivil _ _ (by omega) (by omega)).mono ?_
  rintro e w3 ⟨rfl, hb3⟩
  have hB : Below (w.heap.size + 2) ((w.alloc (.cells #[i z, .bool s] 28)).alloc (.cells #[i 0, i 0, i 0, i 0, i 0] 119)) w3 := by
    have h2 := hb2.size
    exact ((hb.mono (by simp)).trans (hb2.mono (by omega))).trans (hb3.mono (by omega))
  clear hc hf
  have hc : ∀ o, w3.cell? ⟨w.heap.size + 1, o, none⟩ = ((w.alloc (.cells #[i z, .bool s] 28)).alloc (.cells #[i 0, i 0, i 0, i 0, i 0] 119)).cell? ⟨w.heap.size + 1, o, none⟩ := fun o => hB.cell (p := ⟨w.heap.size + 1, o, none⟩) (by simp)
  have hf : ∀ o, w3.frozen? ⟨w.heap.size + 1, o, none⟩ = ((w.alloc (.cells #[i z, .bool s] 28)).alloc (.cells #[i 0, i 0, i 0, i 0, i 0] 119)).frozen? ⟨w.heap.size + 1, o, none⟩ := fun o => hB.frozen (p := ⟨w.heap.size + 1, o, none⟩) (by simp)
  unfold date
  go_wp2_with fail
  refine bodyPost_ret (v := .tuple #[date ((t + Cal.offs z s t) / 1440) ((t + Cal.offs z s t) % 1440), i 0]) (by simp [results, Tryd.results65, go_sem, date, hc, hf]) rfl ⟨rfl, ?_⟩
  repeat (first | (with_reducible exact Below.refl _ _) | (with_reducible refine below_drewN ?_ _) | (with_reducible refine Below.setCell ?_ (by simp) _) | (with_reducible refine Below.alloc ?_ (by simp) _) | (with_reducible refine Below.trans ?_ (hB.mono (by first | omega | (simp; done) | (simp; omega)))))

end CalW
end Go.Proofs.YtndlhhiifmjieaaDoor
