/-
  The walks of Pick.
-/
import Derived.Test.YtkooekdcegfapaaDoorTarCl
import Derived.Deep.LoopGhost
import Derived.Deep.Light
import Derived.Deep.DeepCutAuto
namespace Go.Proofs.YtkooekdcegfapaaDoor
namespace TarW
set_option linter.unusedSimpArgs false
set_option linter.unusedVariables false
open Go.RowKit CalW

def okT (id : ByteArray) (a : Int) (t : Trf) : Bool := decide (t.id.toList = id.toList) && decide (t.fr ≤ a) && (t.to == -1 || decide (a < t.to))
def takes (id : ByteArray) (a : Int) (ts : List Trf) (b : Int) (k : Nat) : Bool := match ts[k]? with
  | some t => okT id a t && (decide (b < 0) || match ts[b.toNat]? with
    | some s => decide (s.ver < t.ver)
    | none => false)
  | none => false
def pickN (id : ByteArray) (a : Int) (ts : List Trf) : Nat → Int
  | 0 => -1
  | k + 1 => if takes id a ts (pickN id a ts k) k then k else pickN id a ts k
theorem pickN_bd (id : ByteArray) (a : Int) (ts : List Trf) : ∀ k, -1 ≤ pickN id a ts k ∧ pickN id a ts k < k
  | 0 => by simp [pickN]
  | k + 1 => by
    have := pickN_bd id a ts k
    unfold pickN
    split <;> omega
def trf0 : Trf := ⟨⟨#[]⟩, ⟨#[]⟩, 0, 0, 0, [], 0, 0⟩
def pickT (id : ByteArray) (a : Int) (ts : List Trf) : Trf × Int :=
  if pickN id a ts ts.length < 0 then (trf0, 8) else (ts.getD (pickN id a ts ts.length).toNat trf0, 0)
def PickPost (id : ByteArray) (a : Int) (ts : List Trf) (w : World) (r : Ending) (w' : World) : Prop :=
  ∃ u, r = .returned (.tuple #[trfV (pickT id a ts).1 u, i (pickT id a ts).2]) ∧ ElemsAt w' u (pickT id a ts).1.els ∧ Below w.heap.size w w'

theorem takes_no {id : ByteArray} {a : Int} {ts : List Trf} {b : Int} {k : Nat} (hk : k < ts.length) (h : okT id a ts[k] = false) : takes id a ts b k = false := by
  unfold takes; rw [List.getElem?_eq_getElem hk]; simp [h]
theorem takes_first {id : ByteArray} {a : Int} {ts : List Trf} {b : Int} {k : Nat} (hk : k < ts.length) (h : okT id a ts[k] = true) (hb : b < 0) : takes id a ts b k = true := by
  unfold takes; rw [List.getElem?_eq_getElem hk]; simp [h, hb]
theorem takes_ver {id : ByteArray} {a : Int} {ts : List Trf} {m k : Nat} (hk : k < ts.length) (h : okT id a ts[k] = true) (hm : m < ts.length) : takes id a ts m k = decide (ts[m].ver < ts[k].ver) := by
  unfold takes; rw [List.getElem?_eq_getElem hk, show ((m : Int)).toNat = m by omega, List.getElem?_eq_getElem hm]
  have hb : ¬ (m : Int) < 0 := by omega
  simp [h, hb]
theorem pickN_yes {id : ByteArray} {a : Int} {ts : List Trf} {k : Nat} {b : Int} (h : pickN id a ts k = b) (ht : takes id a ts b k = true) : pickN id a ts (k + 1) = k := by
  unfold pickN; rw [h, ht]; rfl
theorem pickN_no {id : ByteArray} {a : Int} {ts : List Trf} {k : Nat} {b : Int} (h : pickN id a ts k = b) (ht : takes id a ts b k = false) : pickN id a ts (k + 1) = b := by
  unfold pickN; rw [h, ht]; rfl

set_option maxRecDepth 100000 in
set_option maxHeartbeats 4000000 in
theorem pick_ (ts : List Trf) (v : Value) (id : ByteArray) (a : Int) (w : World) (h : TrfsAt w v ts) (hn : ts.length ≤ 65536) (hes : ∀ t ∈ ts, t.els.length ≤ 65536 ∧ ∀ e ∈ t.els, e.cs.length ≤ 65536) :
    Calls Tryd.prog 23 #[v, .string id, i a] w (PickPost id a ts w) := by
  obtain ⟨A, c, rfl, h1, h2⟩ := SliceAt.form h
  unfold maxLen at h2
  have hb0 := below_new w (.cells #[.string ⟨#[]⟩, .string ⟨#[]⟩, .int .i64 0, .int .i64 0, .int .i64 0, .slice none 0 0, .int .i64 0, .int .i64 0] 26)
  have r0 := Blk.new w 26 #[.string ⟨#[]⟩, .string ⟨#[]⟩, .int .i64 0, .int .i64 0, .int .i64 0, .slice none 0 0, .int .i64 0, .int .i64 0]
  have HE := Lib.hid (h.call hb0)
  clear h
  go_enter Tryd.func23, Tryd.ntmps23
  go_wp2_with fail
  generalize w.alloc (.cells #[.string ⟨#[]⟩, .string ⟨#[]⟩, .int .i64 0, .int .i64 0, .int .i64 0, .slice none 0 0, .int .i64 0, .int .i64 0] 26) = W0 at *
  have HES := Lib.hid hes
  clear hes
  go_loopg [8, 13] ts.length (fun gg s8 s13 wr => ∃ (kk : Nat) (b : Int), kk ≤ ts.length ∧ ts.length - kk ≤ gg ∧ s8 = i b ∧ s13 = i kk ∧ -1 ≤ b ∧ b < kk ∧ Hid (Below W0.heap.size W0 wr) ∧ Hid (pickN id a ts kk = b))
  case atStart => exact ⟨0, -1, Nat.zero_le _, by omega, rfl, rfl, by omega, by omega, Below.refl _ _, rfl⟩
  case round =>
    obtain ⟨kk, b, hkk, hg, rfl, rfl, hb1, hb2, BW, HA⟩ := hrel
    by_cases hlt : kk < ts.length
    · have hltz : (kk : Int) < (ts.length : Int) := by omega
      obtain ⟨bb, off, u, rfl, _, hu, hs1, hs2, hrow⟩ := TrfsAt.at_ HE.out hlt
      have hcells := hrow wr (Kept.of BW.out)
      clear hrow
      have HT0 := Lib.hid (@takes_no id a ts b kk hlt)
      have HT1 := Lib.hid (@takes_first id a ts b kk hlt)
      have HT2 := Lib.hid (fun m => @takes_ver id a ts m kk hlt)
      generalize ts[kk] = y at *
      obtain ⟨A1, c1, rfl, h3, h4⟩ := SliceAt.form hu
      unfold maxLen at h4
      obtain ⟨l0, l1, l2, l3, l4, l5, l6, l7⟩ := hcells
      have y3 := Blk.new wr 26 #[.string y.id, .string y.cur, i y.ver, i y.fr, i y.to, .slice A1 y.els.length c1, i y.least, i y.most]
      have hb3 := below_alloc BW.out (.cells #[.string y.id, .string y.cur, i y.ver, i y.fr, i y.to, .slice A1 y.els.length c1, i y.least, i y.most] 26)
      have yc := y3.cell
      go_upto_region 5 with (fail)
      generalize wr.alloc (.cells #[.string y.id, .string y.cur, i y.ver, i y.fr, i y.to, .slice A1 y.els.length c1, i y.least, i y.most] 26) = w3 at *
      clear l0 l1 l2 l3 l4 l5 l6 l7
      go_cut [41] (fun s41 wc => s41 = .bool (!okT id a y) ∧ wc = w3)
      case first =>
        cases hto : (y.to != -1)
        all_goals
          have HTO := Lib.hid hto
          go_wp2_with fail
        all_goals go_meet
        all_goals
          refine ⟨congrArg Value.bool ?_, rfl⟩
          go_light
          have hto := HTO.out
          clear yc HTO HT0 HT1 HT2 HES HE
          unfold okT
          rw [Bool.eq_iff_iff]
          simp_all
        all_goals omega
      case rest =>
        obtain ⟨rfl, rfl⟩ := hcut
        cases hok : okT id a y with
        | false =>
          have HN := Lib.hid (pickN_no HA.out (HT0.out hok))
          clear hok
          go_wp2_with fail
          go_roundg (ts.length - (kk + 1))
          case measure => omega
          case rel => exact ⟨kk + 1, b, by omega, by omega, rfl, by go_num, by omega, by omega, hb3, HN.out⟩
        | true =>
          by_cases hbn : b < 0
          · have HN := Lib.hid (pickN_yes HA.out (HT1.out hok hbn))
            clear hok
            have hbd : decide (b < 0) = true := decide_eq_true hbn
            go_wp2_with fail
            go_quiet (fail)
            go_wp2_with fail
            go_roundg (ts.length - (kk + 1))
            case measure => omega
            case rel => exact ⟨kk + 1, kk, by omega, by omega, rfl, by go_num, by omega, by omega, below_drewN' hb3 _, HN.out⟩
          · obtain ⟨m, rfl⟩ := Int.eq_ofNat_of_zero_le (show 0 ≤ b by omega)
            have hbd : decide ((m : Int) < 0) = false := decide_eq_false (by omega)
            have hm : m < ts.length := by omega
            have hmz : (m : Int) < (ts.length : Int) := by omega
            have hm0 : (0 : Int) ≤ (m : Int) := by omega
            obtain ⟨b', off', u', hA', _, _, _, _, hrow⟩ := TrfsAt.at_ HE.out hm
            obtain ⟨rfl, rfl⟩ : bb = b' ∧ off = off' := by simpa using hA'
            obtain ⟨_, _, m2, _, _, _, _, _⟩ := hrow wc (Kept.of hb3)
            clear hrow
            have HTV := Lib.hid (HT2.out m hok hm)
            generalize ts[m] = q at *
            clear hok hbn
            cases hv : decide (q.ver < y.ver) with
            | true =>
              have HN := Lib.hid (pickN_yes HA.out (HTV.out.trans hv))
              have hv' := of_decide_eq_true hv
              clear hv
              go_wp2_with fail
              go_quiet (fail)
              go_wp2_with fail
              go_roundg (ts.length - (kk + 1))
              case measure => omega
              case rel => exact ⟨kk + 1, kk, by omega, by omega, rfl, by go_num, by omega, by omega, below_drewN' hb3 _, HN.out⟩
            | false =>
              have HN := Lib.hid (pickN_no HA.out (HTV.out.trans hv))
              have hv' := of_decide_eq_false hv
              go_wp2_with fail
              go_quiet (fail)
              go_wp2_with fail
              go_roundg (ts.length - (kk + 1))
              case measure => omega
              case rel => exact ⟨kk + 1, m, by omega, by omega, rfl, by go_num, by omega, by omega, below_drewN' hb3 _, HN.out⟩
    · have hltz : ¬ (kk : Int) < (ts.length : Int) := by omega
      obtain rfl : kk = ts.length := by omega
      have g4 := r0.call BW.out
      have rc := g4.cell
      have rf := g4.frozen
      by_cases hbn : b < 0
      · have HF : Hid (pickT id a ts = (trf0, 8)) := by unfold pickT; rw [HA.out, if_pos hbn]; rfl
        go_wp2_with fail
        refine bodyPost_ret (v := .tuple #[trfV trf0 (.slice none 0 0), i 8]) (by simp [results, Tryd.results23, go_sem, rc, trf0]) rfl ?_
        unfold PickPost
        rw [HF.out]
        exact ⟨_, rfl, SliceAt.nil, below8 (hb0.trans (BW.out.mono hb0.size)) (by omega) _ _ _ _ _ _ _ _⟩
      · obtain ⟨m, rfl⟩ := Int.eq_ofNat_of_zero_le (show 0 ≤ b by omega)
        have hm : m < ts.length := by omega
        have hmz : (m : Int) < (ts.length : Int) := by omega
        have HF : Hid (pickT id a ts = (ts[m], 0)) := by
          unfold pickT
          rw [HA.out, if_neg (by omega), show ((m : Int)).toNat = m by omega, List.getD_eq_getElem?_getD, List.getElem?_eq_getElem hm]
          rfl
        obtain ⟨b', off', u', rfl, _, hu, _, _, hrow⟩ := TrfsAt.at_ HE.out hm
        obtain ⟨l0, l1, l2, l3, l4, l5, l6, l7⟩ := hrow wr (Kept.of BW.out)
        have hes := HES.out ts[m] (List.getElem_mem _)
        clear hrow
        generalize ts[m] = q at *
        obtain ⟨A1, c1, rfl, h3, h4⟩ := SliceAt.form hu
        unfold maxLen at h4
        go_wp2_with fail
        refine (clone_ q _ _ (hu.call BW.out) hes.1 hes.2).mono ?_
        rintro r w5 ⟨u5, rfl, he5, hb5⟩
        obtain ⟨A5, c5, rfl, h5, h6⟩ := SliceAt.form (he5.fin (Nat.le_refl _))
        have g5 := g4.call hb5
        have rc5 := g5.cell
        have rf5 := g5.frozen
        have HE5 := Lib.hid he5
        clear he5
        go_wp2_with fail
        refine bodyPost_ret (v := .tuple #[trfV q (.slice A5 q.els.length c5), i 0]) (by simp [results, Tryd.results23, go_sem, rc5]) rfl ?_
        unfold PickPost
        rw [HF.out]
        exact ⟨_, rfl, (HE5.out.keep (keeps8 g5 (by decide) _ _ _ _ _ _ _ _) (keeps8 g5 (by decide) _ _ _ _ _ _ _ _)).fin (Nat.le_refl _), below8 (hb0.trans ((below_call BW.out hb5).mono hb0.size)) (by omega) _ _ _ _ _ _ _ _⟩

set_option maxRecDepth 100000 in
set_option maxHeartbeats 4000000 in
theorem rpick_ (ts : List Trf) (v : Value) (id : ByteArray) (a : Int) (w : World) (h : TrfsAt w v ts) :
    Calls Tryd.prog 24 #[v, .string id, i a] w (PickPost id a ts w) := by
  obtain ⟨A, c, rfl, h1, h2⟩ := SliceAt.form h
  unfold maxLen at h2
  have hb0 := below_new w (.cells #[.string ⟨#[]⟩, .string ⟨#[]⟩, .int .i64 0, .int .i64 0, .int .i64 0, .slice none 0 0, .int .i64 0, .int .i64 0] 26)
  have r0 := Blk.new w 26 #[.string ⟨#[]⟩, .string ⟨#[]⟩, .int .i64 0, .int .i64 0, .int .i64 0, .slice none 0 0, .int .i64 0, .int .i64 0]
  have HE := Lib.hid (h.call hb0)
  have H0 := Lib.hid h
  clear h
  go_enter Tryd.func24, Tryd.ntmps24
  go_wp2_with fail
  generalize w.alloc (.cells #[.string ⟨#[]⟩, .string ⟨#[]⟩, .int .i64 0, .int .i64 0, .int .i64 0, .slice none 0 0, .int .i64 0, .int .i64 0] 26) = W0 at *
  go_loopg [8, 9] ts.length (fun gg s8 s13 wr => ∃ (kk : Nat) (b : Int), kk ≤ ts.length ∧ ts.length - kk ≤ gg ∧ s8 = i b ∧ s13 = i kk ∧ -1 ≤ b ∧ b < kk ∧ Hid (Below W0.heap.size W0 wr) ∧ Hid (pickN id a ts kk = b))
  case atStart => exact ⟨0, -1, Nat.zero_le _, by omega, rfl, rfl, by omega, by omega, Below.refl _ _, rfl⟩
  case round =>
    obtain ⟨kk, b, hkk, hg, rfl, rfl, hb1, hb2, BW, HA⟩ := hrel
    by_cases hlt : kk < ts.length
    · have hltz : (kk : Int) < (ts.length : Int) := by omega
      obtain ⟨bb, off, u, rfl, _, hu, hs1, hs2, hrow⟩ := TrfsAt.at_ HE.out hlt
      have hcells := hrow wr (Kept.of BW.out)
      clear hrow
      have HT0 := Lib.hid (@takes_no id a ts b kk hlt)
      have HT1 := Lib.hid (@takes_first id a ts b kk hlt)
      have HT2 := Lib.hid (fun m => @takes_ver id a ts m kk hlt)
      generalize ts[kk] = y at *
      obtain ⟨A1, c1, rfl, h3, h4⟩ := SliceAt.form hu
      unfold maxLen at h4
      obtain ⟨l0, l1, l2, l3, l4, l5, l6, l7⟩ := hcells
      have y3 := Blk.new wr 26 #[.string y.id, .string y.cur, i y.ver, i y.fr, i y.to, .slice A1 y.els.length c1, i y.least, i y.most]
      have hb3 := below_alloc BW.out (.cells #[.string y.id, .string y.cur, i y.ver, i y.fr, i y.to, .slice A1 y.els.length c1, i y.least, i y.most] 26)
      have yc := y3.cell
      go_upto_region 6 with (fail)
      generalize wr.alloc (.cells #[.string y.id, .string y.cur, i y.ver, i y.fr, i y.to, .slice A1 y.els.length c1, i y.least, i y.most] 26) = w3 at *
      clear l0 l1 l2 l3 l4 l5 l6 l7
      go_cut [44] (fun s41 wc => s41 = .bool (!okT id a y) ∧ wc = w3)
      case first =>
        cases hto : (y.to != -1)
        all_goals
          have HTO := Lib.hid hto
          go_wp2_with fail
        all_goals go_meet
        all_goals
          refine ⟨congrArg Value.bool ?_, rfl⟩
          go_light
          have hto := HTO.out
          clear yc HTO HT0 HT1 HT2 HE
          unfold okT
          rw [Bool.eq_iff_iff]
          simp_all
        all_goals omega
      case rest =>
        obtain ⟨rfl, rfl⟩ := hcut
        cases hok : okT id a y with
        | false =>
          have HN := Lib.hid (pickN_no HA.out (HT0.out hok))
          clear hok
          go_wp2_with fail
          go_roundg (ts.length - (kk + 1))
          case measure => omega
          case rel => exact ⟨kk + 1, b, by omega, by omega, rfl, by go_num, by omega, by omega, hb3, HN.out⟩
        | true =>
          by_cases hbn : b < 0
          · have HN := Lib.hid (pickN_yes HA.out (HT1.out hok hbn))
            clear hok
            have hbd : decide (b < 0) = true := decide_eq_true hbn
            go_wp2_with fail
            go_quiet (fail)
            go_wp2_with fail
            go_roundg (ts.length - (kk + 1))
            case measure => omega
            case rel => exact ⟨kk + 1, kk, by omega, by omega, rfl, by go_num, by omega, by omega, below_drewN' hb3 _, HN.out⟩
          · obtain ⟨m, rfl⟩ := Int.eq_ofNat_of_zero_le (show 0 ≤ b by omega)
            have hbd : decide ((m : Int) < 0) = false := decide_eq_false (by omega)
            have hm : m < ts.length := by omega
            have hmz : (m : Int) < (ts.length : Int) := by omega
            have hm0 : (0 : Int) ≤ (m : Int) := by omega
            obtain ⟨b', off', u', hA', _, _, _, _, hrow⟩ := TrfsAt.at_ HE.out hm
            obtain ⟨rfl, rfl⟩ : bb = b' ∧ off = off' := by simpa using hA'
            obtain ⟨_, _, m2, _, _, _, _, _⟩ := hrow wc (Kept.of hb3)
            clear hrow
            have HTV := Lib.hid (HT2.out m hok hm)
            generalize ts[m] = q at *
            clear hok hbn
            cases hv : decide (q.ver < y.ver) with
            | true =>
              have HN := Lib.hid (pickN_yes HA.out (HTV.out.trans hv))
              have hv' := of_decide_eq_true hv
              clear hv
              go_wp2_with fail
              go_quiet (fail)
              go_wp2_with fail
              go_roundg (ts.length - (kk + 1))
              case measure => omega
              case rel => exact ⟨kk + 1, kk, by omega, by omega, rfl, by go_num, by omega, by omega, below_drewN' hb3 _, HN.out⟩
            | false =>
              have HN := Lib.hid (pickN_no HA.out (HTV.out.trans hv))
              have hv' := of_decide_eq_false hv
              go_wp2_with fail
              go_quiet (fail)
              go_wp2_with fail
              go_roundg (ts.length - (kk + 1))
              case measure => omega
              case rel => exact ⟨kk + 1, m, by omega, by omega, rfl, by go_num, by omega, by omega, below_drewN' hb3 _, HN.out⟩
    · have hltz : ¬ (kk : Int) < (ts.length : Int) := by omega
      obtain rfl : kk = ts.length := by omega
      have g4 := r0.call BW.out
      have rc := g4.cell
      have rf := g4.frozen
      by_cases hbn : b < 0
      · have HF : Hid (pickT id a ts = (trf0, 8)) := by unfold pickT; rw [HA.out, if_pos hbn]; rfl
        go_wp2_with fail
        refine bodyPost_ret (v := .tuple #[trfV trf0 (.slice none 0 0), i 8]) (by simp [results, Tryd.results24, go_sem, rc, trf0]) rfl ?_
        unfold PickPost
        rw [HF.out]
        exact ⟨_, rfl, SliceAt.nil, below8 (hb0.trans (BW.out.mono hb0.size)) (by omega) _ _ _ _ _ _ _ _⟩
      · obtain ⟨m, rfl⟩ := Int.eq_ofNat_of_zero_le (show 0 ≤ b by omega)
        have hm : m < ts.length := by omega
        have hmz : (m : Int) < (ts.length : Int) := by omega
        have HF : Hid (pickT id a ts = (ts[m], 0)) := by
          unfold pickT
          rw [HA.out, if_neg (by omega), show ((m : Int)).toNat = m by omega, List.getD_eq_getElem?_getD, List.getElem?_eq_getElem hm]
          rfl
        obtain ⟨b', off', u', rfl, _, hu, _, _, hrow⟩ := TrfsAt.at_ H0.out hm
        obtain ⟨l0, l1, l2, l3, l4, l5, l6, l7⟩ := hrow wr (Kept.of (below_call hb0 BW.out))
        clear hrow
        generalize ts[m] = q at *
        obtain ⟨A1, c1, rfl, h3, h4⟩ := SliceAt.form hu
        unfold maxLen at h4
        go_wp2_with fail
        refine bodyPost_ret (v := .tuple #[trfV q (.slice A1 q.els.length c1), i 0]) (by simp [results, Tryd.results24, go_sem, rc]) rfl ?_
        unfold PickPost
        rw [HF.out]
        have hbf := below8 (hb0.trans (BW.out.mono hb0.size)) (by omega : w.heap.size ≤ w.heap.size) (.string q.id) (.string q.cur) (i q.ver) (i q.fr) (i q.to) (.slice A1 q.els.length c1) (i q.least) (i q.most)
        exact ⟨_, rfl, hu.call hbf, hbf⟩
end TarW
end Go.Proofs.YtkooekdcegfapaaDoor
