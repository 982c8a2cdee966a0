/-
  The parts of station.Valid, on a fresh station of one connector.
-/
import Derived.Test.YtfaofobhmmedmaaGreatDoorStnQ
namespace Go.Proofs.YtfaofobhmmedmaaGreatDoor
namespace Stn
set_option linter.unusedSimpArgs false
set_option linter.unusedVariables false
open Go.RowKit Go.Great

/-- The station of the example. -/
abbrev s1 : St := ⟨⟨#[83]⟩, 0, false, 0, 0, 0, [⟨1, false, false, false, 0⟩], [⟨0, 100000, 0, 0⟩], [zTx], 0, 64, 0, 1, 3, 2, 0, 0, 0, 0, 0, 0, 0, 0, 30, 2000, [0], [0], [0]⟩
theorem fresh1 : fresh ⟨#[83]⟩ [0] 100000 = s1 := rfl
theorem forms {w : World} {l : Sl} (h : StAt w s1 l) : ∃ AC cC AM cM AT cT AP cP ALT cLT ACA cCA ARE cRE AIT cIT AQ cQ AO cO AS cS AOV cOV ALM cLM ASH cSH, l = ⟨.slice AC 1 cC, .slice AM 1 cM, .slice AT 1 cT, .slice AP 0 cP, .slice ALT 0 cLT, .slice ACA 0 cCA, .slice ARE 0 cRE, .slice AIT 0 cIT, .slice AQ 0 cQ, .slice AO 0 cO, .slice AS 0 cS, .slice AOV 1 cOV, .slice ALM 1 cLM, .slice ASH 1 cSH⟩ := by
  obtain ⟨C, M, T, P, LT, CA, RE, IT, Q, O, S, OV, LM, SH⟩ := l
  obtain ⟨hC, hM, hT, hP, hLT, hCA, hRE, hIT, hQ, hO, hS, hOV, hLM, hSH⟩ := h
  obtain ⟨AC, cC, eC, -, -⟩ := SliceAt.form hC
  obtain ⟨AM, cM, eM, -, -⟩ := SliceAt.form hM
  obtain ⟨AT, cT, eT, -, -⟩ := SliceAt.form hT
  obtain ⟨AP, cP, eP, -, -⟩ := hP.form
  obtain ⟨ALT, cLT, eLT, -, -⟩ := hLT.form
  obtain ⟨ACA, cCA, eCA, -, -⟩ := hCA.form
  obtain ⟨ARE, cRE, eRE, -, -⟩ := hRE.form
  obtain ⟨AIT, cIT, eIT, -, -⟩ := hIT.form
  obtain ⟨AQ, cQ, eQ, -, -⟩ := hQ.form
  obtain ⟨AO, cO, eO, -, -⟩ := hO.form
  obtain ⟨AS, cS, eS, -, -⟩ := hS.form
  obtain ⟨AOV, cOV, eOV, -, -⟩ := SliceAt.form hOV
  obtain ⟨ALM, cLM, eLM, -, -⟩ := SliceAt.form hLM
  obtain ⟨ASH, cSH, eSH, -, -⟩ := SliceAt.form hSH
  simp only at eC eM eT eP eLT eCA eRE eIT eQ eO eS eOV eLM eSH
  subst eC eM eT eP eLT eCA eRE eIT eQ eO eS eOV eLM eSH
  exact ⟨_, _, _, _, _, _, _, _, _, _, _, _, _, _, _, _, _, _, _, _, _, _, _, _, _, _, _, _, rfl⟩

set_option maxRecDepth 100000 in
theorem vtime (w : World) : Calls Tryz.prog 148 #[i 0] w fun e w' => e = .returned (.bool true) ∧ Below w.heap.size w w' := by
  go_enter Tryz.func148, Tryz.ntmps148
  go_wp2_with fail
  go_ret
  exact ⟨rfl, by repeat (first | (with_reducible exact Below.refl _ _) | (with_reducible refine below_drewN' ?_ _) | (with_reducible refine Below.drew ?_) | (with_reducible refine Below.setCell ?_ (by first | (simp; done) | (simp; omega) | omega) _) | (with_reducible refine below_alloc ?_ _) | (with_reducible refine Below.alloc ?_ (by first | (simp; done) | (simp; omega) | omega) _))⟩

set_option maxRecDepth 100000 in
theorem session1 (w : World) : Calls Tryz.prog 176 #[i 1] w fun e w' => e = .returned (.bool false) ∧ Below w.heap.size w w' := by
  go_enter Tryz.func176, Tryz.ntmps176
  go_wp2_with fail
  go_ret
  exact ⟨rfl, by repeat (first | (with_reducible exact Below.refl _ _) | (with_reducible refine below_drewN' ?_ _) | (with_reducible refine Below.drew ?_) | (with_reducible refine Below.setCell ?_ (by first | (simp; done) | (simp; omega) | omega) _) | (with_reducible refine below_alloc ?_ _) | (with_reducible refine Below.alloc ?_ (by first | (simp; done) | (simp; omega) | omega) _))⟩

set_option maxRecDepth 100000 in
theorem base1 (w : World) : Calls Tryz.prog 177 #[.agg #[i 1, .bool false, .bool false, .bool false, i 0]] w fun e w' => e = .returned (i 1) ∧ Below w.heap.size w w' := by
  go_enter Tryz.func177, Tryz.ntmps177
  go_wp2_with fail
  go_ret
  exact ⟨rfl, by repeat (first | (with_reducible exact Below.refl _ _) | (with_reducible refine below_drewN' ?_ _) | (with_reducible refine Below.drew ?_) | (with_reducible refine Below.setCell ?_ (by first | (simp; done) | (simp; omega) | omega) _) | (with_reducible refine below_alloc ?_ _) | (with_reducible refine Below.alloc ?_ (by first | (simp; done) | (simp; omega) | omega) _))⟩

set_option maxRecDepth 100000 in
theorem waiting1 (AQ AO AS : Option Addr) (cQ cO cS : Nat) (w : World) : Calls Tryz.prog 212 #[.agg (enA 1 3 2 (.slice AQ 0 cQ) (.slice AO 0 cO) 0 0 (.slice AS 0 cS))] w fun e w' => e = .returned (.bool true) ∧ Below w.heap.size w w' := by
  go_enter Tryz.func212, Tryz.ntmps212
  go_wp2_with fail
  go_ret
  exact ⟨rfl, by repeat (first | (with_reducible exact Below.refl _ _) | (with_reducible refine below_drewN' ?_ _) | (with_reducible refine Below.drew ?_) | (with_reducible refine Below.setCell ?_ (by first | (simp; done) | (simp; omega) | omega) _) | (with_reducible refine below_alloc ?_ _) | (with_reducible refine Below.alloc ?_ (by first | (simp; done) | (simp; omega) | omega) _))⟩

set_option maxRecDepth 100000 in
theorem fwValid1 (w : World) : Calls Tryz.prog 152 #[.agg #[i 0, i 0, i 0, i 0, i 0]] w fun e w' => e = .returned (i 0) ∧ Below w.heap.size w w' := by
  go_enter Tryz.func152, Tryz.ntmps152
  go_wp2_with fail
  go_ret
  exact ⟨rfl, by repeat (first | (with_reducible exact Below.refl _ _) | (with_reducible refine below_drewN' ?_ _) | (with_reducible refine Below.drew ?_) | (with_reducible refine Below.setCell ?_ (by first | (simp; done) | (simp; omega) | omega) _) | (with_reducible refine below_alloc ?_ _) | (with_reducible refine Below.alloc ?_ (by first | (simp; done) | (simp; omega) | omega) _))⟩

set_option maxRecDepth 100000 in
theorem shaped1 (l : Sl) (w : World) (h : StAt w s1 l) : Calls Tryz.prog 55 #[.agg (stA s1 l)] w fun e w' => e = .returned (.bool true) ∧ Below w.heap.size w w' := by
  obtain ⟨AC, cC, AM, cM, AT, cT, AP, cP, ALT, cLT, ACA, cCA, ARE, cRE, AIT, cIT, AQ, cQ, AO, cO, AS, cS, AOV, cOV, ALM, cLM, ASH, cSH, rfl⟩ := forms h
  clear h
  go_enter Tryz.func55, Tryz.ntmps55
  go_wp2_with fail
  go_ret
  exact ⟨rfl, by repeat (first | (with_reducible exact Below.refl _ _) | (with_reducible refine below_drewN' ?_ _) | (with_reducible refine Below.drew ?_) | (with_reducible refine Below.setCell ?_ (by first | (simp; done) | (simp; omega) | omega) _) | (with_reducible refine below_alloc ?_ _) | (with_reducible refine Below.alloc ?_ (by first | (simp; done) | (simp; omega) | omega) _))⟩

set_option maxRecDepth 100000 in
theorem listValid1 (A : Option Addr) (c : Nat) (w : World) : Calls Tryz.prog 149 #[.agg #[i 0, .slice A 0 c]] w fun e w' => e = .returned (i 0) ∧ Below w.heap.size w w' := by
  go_enter Tryz.func149, Tryz.ntmps149
  go_wp2_with fail
  go_loopg [30] 0 (fun gg s30 wr => s30 = i 0 ∧ Hid (Below w.heap.size w wr))
  case atStart => exact ⟨rfl, by show Below _ _ _; repeat (first | (with_reducible exact Below.refl _ _) | (with_reducible refine below_drewN' ?_ _) | (with_reducible refine Below.drew ?_) | (with_reducible refine Below.setCell ?_ (by first | (simp; done) | (simp; omega) | omega) _) | (with_reducible refine below_alloc ?_ _) | (with_reducible refine Below.alloc ?_ (by first | (simp; done) | (simp; omega) | omega) _))⟩
  case round =>
    obtain ⟨rfl, HB⟩ := hrel
    go_wp2_with fail
    go_ret
    exact ⟨rfl, HB.out⟩

set_option maxRecDepth 100000 in
theorem outValid1 (A : Option Addr) (c : Nat) (w : World) : Calls Tryz.prog 150 #[.agg #[i 64, .slice A 0 c, i 0]] w fun e w' => e = .returned (i 0) ∧ Below w.heap.size w w' := by
  go_enter Tryz.func150, Tryz.ntmps150
  go_wp2_with fail
  go_loopg [33] 0 (fun gg s33 wr => s33 = i 0 ∧ Hid (Below w.heap.size w wr))
  case atStart => exact ⟨rfl, by show Below _ _ _; repeat (first | (with_reducible exact Below.refl _ _) | (with_reducible refine below_drewN' ?_ _) | (with_reducible refine Below.drew ?_) | (with_reducible refine Below.setCell ?_ (by first | (simp; done) | (simp; omega) | omega) _) | (with_reducible refine below_alloc ?_ _) | (with_reducible refine Below.alloc ?_ (by first | (simp; done) | (simp; omega) | omega) _))⟩
  case round =>
    obtain ⟨rfl, HB⟩ := hrel
    go_wp2_with fail
    go_ret
    exact ⟨rfl, HB.out⟩

set_option maxRecDepth 100000 in
set_option maxHeartbeats 1000000 in
theorem callValid1 (AQ AO AS : Option Addr) (cQ cO cS : Nat) (w : World) : Calls Tryz.prog 151 #[.agg (enA 1 3 2 (.slice AQ 0 cQ) (.slice AO 0 cO) 0 0 (.slice AS 0 cS))] w fun e w' => e = .returned (i 0) ∧ Below w.heap.size w w' := by
  have HS := Lib.hid settings
  have HW := Lib.hid (waiting1 AQ AO AS cQ cO cS)
  have HB := Lib.hid (below_new w (.cells (enA 1 3 2 (.slice AQ 0 cQ) (.slice AO 0 cO) 0 0 (.slice AS 0 cS)) 37))
  have HK := Lib.hid (Blk.new w 37 (enA 1 3 2 (.slice AQ 0 cQ) (.slice AO 0 cO) 0 0 (.slice AS 0 cS)))
  go_enter Tryz.func151, Tryz.ntmps151
  go_upto_region 1 with (fail)
  generalize w.alloc (.cells (enA 1 3 2 (.slice AQ 0 cQ) (.slice AO 0 cO) 0 0 (.slice AS 0 cS)) 37) = w0 at *
  have kc := HK.out.cell
  go_wp2_with fail
  refine (HS.out _).mono ?_
  rintro e w1 ⟨rfl, rfl⟩
  go_wp2_with fail
  refine (HW.out _).mono ?_
  rintro e w1 ⟨rfl, hb⟩
  have HB1 := Lib.hid (below_call HB.out hb)
  have HK1 := Lib.hid (HK.out.call hb)
  clear kc hb HB HK HS HW
  have kc := HK1.out.cell
  go_wp2_with fail
  go_loopg [52] 2 (fun gg s52 wr => ∃ kk : Nat, kk ≤ 2 ∧ 2 - kk ≤ gg ∧ s52 = i kk ∧ wr = w1)
  case atStart => exact ⟨0, by omega, by omega, rfl, rfl⟩
  case round =>
    obtain ⟨kk, hkk, hg, rfl, rfl⟩ := hrel
    rcases (show kk = 0 ∨ kk = 1 ∨ kk = 2 by omega) with rfl | rfl | rfl
    · have hix : ∀ W, (Instr.index 256 (.agg #[.slice AO 0 cO, .slice AQ 0 cQ]) (i 0)).run Tryz.prog W = .ok (.slice AO 0 cO) W := fun W => by kernel_rfl
      go_wp2_with fail
      go_loopg [57] 0 (fun gg s57 wq => s57 = i 0 ∧ wq = wr)
      case atStart => exact ⟨rfl, rfl⟩
      case round =>
        obtain ⟨rfl, rfl⟩ := hrel
        go_wp2_with fail
        go_roundg 1
        case measure => omega
        case rel => exact ⟨1, by omega, by omega, by rfl, rfl⟩
    · have hix : ∀ W, (Instr.index 256 (.agg #[.slice AO 0 cO, .slice AQ 0 cQ]) (i 1)).run Tryz.prog W = .ok (.slice AQ 0 cQ) W := fun W => by kernel_rfl
      go_wp2_with fail
      go_loopg [57] 0 (fun gg s57 wq => s57 = i 0 ∧ wq = wr)
      case atStart => exact ⟨rfl, rfl⟩
      case round =>
        obtain ⟨rfl, rfl⟩ := hrel
        go_wp2_with fail
        go_roundg 0
        case measure => omega
        case rel => exact ⟨2, by omega, by omega, by rfl, rfl⟩
    · go_wp2_with fail
      go_loopg [89] 0 (fun gg s89 wq => s89 = i 0 ∧ wq = wr)
      case atStart => exact ⟨rfl, rfl⟩
      case round =>
        obtain ⟨rfl, rfl⟩ := hrel
        go_wp2_with fail
        go_ret
        exact ⟨rfl, HB1.out⟩

set_option maxRecDepth 100000 in
set_option maxHeartbeats 1000000 in
theorem safeValid1 (A : Option Addr) (c : Nat) (w : World) (h : IntsAt w (.slice A 1 c) [0]) : Calls Tryz.prog 131 #[.agg #[i 0, i 30, i 2000, .slice A 1 c]] w fun e w' => e = .returned (i 0) ∧ Below w.heap.size w w' := by
  obtain ⟨b, off, rfl, hrow⟩ := IntsAt.at_ h (j := 0) (by simp)
  have HB := Lib.hid (below_new w (.cells #[i 0, i 30, i 2000, .slice (some ⟨b, off, none⟩) 1 c] 41))
  have HL : Hid ((w.alloc (.cells #[i 0, i 30, i 2000, .slice (some ⟨b, off, none⟩) 1 c] 41)).cell? ⟨b, off, none⟩ = some (i 0)) := by show _ = _; have := hrow _ (Kept.of HB.out); simpa using this
  have HK := Lib.hid (Blk.new w 41 #[i 0, i 30, i 2000, .slice (some ⟨b, off, none⟩) 1 c])
  clear h hrow
  go_enter Tryz.func131, Tryz.ntmps131
  go_upto_region 1 with (fail)
  generalize w.alloc (.cells #[i 0, i 30, i 2000, .slice (some ⟨b, off, none⟩) 1 c] 41) = w0 at *
  have kc := HK.out.cell
  have kl := HL.out
  go_wp2_with fail
  go_loopg [48] 1 (fun gg s48 wr => ∃ kk : Nat, kk ≤ 1 ∧ 1 - kk ≤ gg ∧ s48 = i kk ∧ wr = w0)
  case atStart => exact ⟨0, by omega, by omega, rfl, rfl⟩
  case round =>
    obtain ⟨kk, hkk, hg, rfl, rfl⟩ := hrel
    rcases (show kk = 0 ∨ kk = 1 by omega) with rfl | rfl
    · go_wp2_with fail
      go_roundg 0
      case measure => omega
      case rel => exact ⟨1, by omega, by omega, by rfl, rfl⟩
    · go_wp2_with fail
      go_ret
      exact ⟨rfl, HB.out⟩

set_option maxRecDepth 100000 in
set_option maxHeartbeats 1000000 in
theorem validLists1 (l : Sl) (w : World) (h : StAt w s1 l) : Calls Tryz.prog 153 #[.agg (stA s1 l)] w fun e w' => e = .returned (.bool true) ∧ Below w.heap.size w w' := by
  obtain ⟨AC, cC, AM, cM, AT, cT, AP, cP, ALT, cLT, ACA, cCA, ARE, cRE, AIT, cIT, AQ, cQ, AO, cO, AS, cS, AOV, cOV, ALM, cLM, ASH, cSH, rfl⟩ := forms h
  clear h
  have HB := Lib.hid (below_new w (.cells (stA s1 ⟨.slice AC 1 cC, .slice AM 1 cM, .slice AT 1 cT, .slice AP 0 cP, .slice ALT 0 cLT, .slice ACA 0 cCA, .slice ARE 0 cRE, .slice AIT 0 cIT, .slice AQ 0 cQ, .slice AO 0 cO, .slice AS 0 cS, .slice AOV 1 cOV, .slice ALM 1 cLM, .slice ASH 1 cSH⟩) 43))
  have HK := Lib.hid (Blk.new w 43 (stA s1 ⟨.slice AC 1 cC, .slice AM 1 cM, .slice AT 1 cT, .slice AP 0 cP, .slice ALT 0 cLT, .slice ACA 0 cCA, .slice ARE 0 cRE, .slice AIT 0 cIT, .slice AQ 0 cQ, .slice AO 0 cO, .slice AS 0 cS, .slice AOV 1 cOV, .slice ALM 1 cLM, .slice ASH 1 cSH⟩))
  go_enter Tryz.func153, Tryz.ntmps153
  go_upto_region 1 with (fail)
  generalize w.alloc (.cells _ 43) = w0 at *
  have k6 : w0.cell? ⟨w.heap.size, 6, none⟩ = some (.slice AC 1 cC) := HK.out.cell 6
  have k9 : w0.cell? ⟨w.heap.size, 9, none⟩ = some (.slice AP 0 cP) := HK.out.cell 9
  have k12 : w0.cell? ⟨w.heap.size, 12, none⟩ = some (.slice ACA 0 cCA) := HK.out.cell 12
  have k13 : w0.cell? ⟨w.heap.size, 13, none⟩ = some (.slice ARE 0 cRE) := HK.out.cell 13
  go_wp2_with fail
  go_loopg [35] 0 (fun gg s35 wr => s35 = i 0 ∧ wr = w0)
  case atStart => exact ⟨rfl, rfl⟩
  case round =>
    obtain ⟨rfl, rfl⟩ := hrel
    go_wp2_with fail
    go_loopg [46] 0 (fun gg s46 wq => s46 = i 0 ∧ wq = wr)
    case atStart => exact ⟨rfl, rfl⟩
    case round =>
      obtain ⟨rfl, rfl⟩ := hrel
      go_wp2_with fail
      go_loopg [73] 0 (fun gg s73 wp => s73 = i 0 ∧ wp = wr)
      case atStart => exact ⟨rfl, rfl⟩
      case round =>
        obtain ⟨rfl, rfl⟩ := hrel
        go_wp2_with fail
        go_ret
        exact ⟨rfl, HB.out⟩

end Stn
end Go.Proofs.YtfaofobhmmedmaaGreatDoor
