/-
  The walks of package tariff: within, Holds.
  The walks of the tariff's reference: on, within, Holds.
-/
import Derived.Test.YtpmcdjpfolgpiaaGreatDoorTarA
import Derived.Deep.DeepCutAuto
namespace Go.Proofs.YtpmcdjpfolgpiaaGreatDoor
namespace TarW
set_option linter.unusedSimpArgs false
set_option linter.unusedVariables false
open Go.RowKit CalW

structure B3 where
  (x lo hi : Int)
def B3.ok (b : B3) : Bool := Tar.bnd b.x b.lo b.hi
theorem bnd_cases (x lo hi : Int) :
    (Tar.bnd x lo hi = true ∧ ((lo != -1) = false ∨ (lo != -1) = true ∧ decide (x < lo) = false) ∧ ((hi != -1) = false ∨ (hi != -1) = true ∧ decide (hi ≤ x) = false)) ∨
    (Tar.bnd x lo hi = false ∧ (((lo != -1) = true ∧ decide (x < lo) = true) ∨ (((lo != -1) = false ∨ (lo != -1) = true ∧ decide (x < lo) = false) ∧ (hi != -1) = true ∧ decide (hi ≤ x) = true))) := by
  unfold Tar.bnd
  simp only [bne_iff_ne, bne_eq_false_iff_eq, decide_eq_true_eq, decide_eq_false_iff_not, Bool.and_eq_true, Bool.or_eq_true, Bool.and_eq_false_iff, Bool.or_eq_false_iff]
  omega

def allTo (b0 b1 b2 b3 : B3) (k : Nat) : Prop := (0 < k → b0.ok = true) ∧ (1 < k → b1.ok = true) ∧ (2 < k → b2.ok = true) ∧ (3 < k → b3.ok = true)
def res4 (b0 b1 b2 b3 : B3) : Bool := b0.ok && (b1.ok && (b2.ok && b3.ok))

theorem res4_no0 {b0 b1 b2 b3 : B3} (h : Tar.bnd b0.x b0.lo b0.hi = false) : res4 b0 b1 b2 b3 = false := by simp [res4, B3.ok, h]
theorem res4_no1 {b0 b1 b2 b3 : B3} (h : Tar.bnd b1.x b1.lo b1.hi = false) : res4 b0 b1 b2 b3 = false := by simp [res4, B3.ok, h]
theorem res4_no2 {b0 b1 b2 b3 : B3} (h : Tar.bnd b2.x b2.lo b2.hi = false) : res4 b0 b1 b2 b3 = false := by simp [res4, B3.ok, h]
theorem res4_no3 {b0 b1 b2 b3 : B3} (h : Tar.bnd b3.x b3.lo b3.hi = false) : res4 b0 b1 b2 b3 = false := by simp [res4, B3.ok, h]
theorem res4_yes {b0 b1 b2 b3 : B3} (h : allTo b0 b1 b2 b3 4) : res4 b0 b1 b2 b3 = true := by
  simp [res4, h.1 (by omega), h.2.1 (by omega), h.2.2.1 (by omega), h.2.2.2 (by omega)]

set_option maxHeartbeats 4000000 in
theorem within4 (b0 b1 b2 b3 : B3) (g : Nat) (w : World)
    (hk : Blk w g 232 #[i b0.x, i b0.lo, i b0.hi, i b1.x, i b1.lo, i b1.hi, i b2.x, i b2.lo, i b2.hi, i b3.x, i b3.lo, i b3.hi]) :
    Calls Tryz.prog 171 #[.slice (some ⟨g, 0, none⟩) 4 4] w fun e w' => e = .returned (.bool (res4 b0 b1 b2 b3)) ∧ Below w.heap.size w w' := by
  go_enter Tryz.func171, Tryz.ntmps171
  go_wp2_with fail
  go_loopw [7] (fun x wr => ∃ k : Nat, k ≤ 4 ∧ x = i k ∧ allTo b0 b1 b2 b3 k ∧ Below w.heap.size w wr) (fun x _ => (4 - intOf x).toNat)
  case atStart => exact ⟨0, by omega, rfl, by simp [allTo], Below.refl _ _⟩
  case round =>
    obtain ⟨k, hk4, rfl, hall, hBw⟩ := hrel
    have hc := (hk.call hBw).cell
    have HA := Lib.hid hall
    clear hall
    have hkk : k = 0 ∨ k = 1 ∨ k = 2 ∨ k = 3 ∨ k = 4 := by omega
    rcases hkk with rfl | rfl | rfl | rfl | rfl
    · rcases bnd_cases b0.x b0.lo b0.hi with ⟨hb, h1, h2⟩ | ⟨hb, ⟨h1, h2⟩ | ⟨h1, h2, h3⟩⟩
      · have HB := Lib.hid hb
        clear hb
        rcases h1 with h1 | ⟨h1, h1'⟩ <;> rcases h2 with h2 | ⟨h2, h2'⟩
        all_goals
          go_wp2_with fail
          go_roundw
          case rel => exact ⟨1, by omega, by go_num, ⟨fun _ => HB.out, fun h => by omega, fun h => by omega, fun h => by omega⟩, below_alloc hBw _⟩
          case measure => simp [intOf]
      · have HB := Lib.hid hb
        clear hb
        go_wp2_with fail
        go_ret
        exact ⟨retB (res4_no0 HB.out).symm, below_alloc hBw _⟩
      · have HB := Lib.hid hb
        clear hb
        rcases h1 with h1 | ⟨h1, h1'⟩
        all_goals
          go_wp2_with fail
          go_ret
          exact ⟨retB (res4_no0 HB.out).symm, below_alloc hBw _⟩
    · rcases bnd_cases b1.x b1.lo b1.hi with ⟨hb, h1, h2⟩ | ⟨hb, ⟨h1, h2⟩ | ⟨h1, h2, h3⟩⟩
      · have HB := Lib.hid hb
        clear hb
        rcases h1 with h1 | ⟨h1, h1'⟩ <;> rcases h2 with h2 | ⟨h2, h2'⟩
        all_goals
          go_wp2_with fail
          go_roundw
          case rel => exact ⟨2, by omega, by go_num, ⟨fun _ => HA.out.1 (by omega), fun _ => HB.out, fun h => by omega, fun h => by omega⟩, below_alloc hBw _⟩
          case measure => simp [intOf]
      · have HB := Lib.hid hb
        clear hb
        go_wp2_with fail
        go_ret
        exact ⟨retB (res4_no1 HB.out).symm, below_alloc hBw _⟩
      · have HB := Lib.hid hb
        clear hb
        rcases h1 with h1 | ⟨h1, h1'⟩
        all_goals
          go_wp2_with fail
          go_ret
          exact ⟨retB (res4_no1 HB.out).symm, below_alloc hBw _⟩
    · rcases bnd_cases b2.x b2.lo b2.hi with ⟨hb, h1, h2⟩ | ⟨hb, ⟨h1, h2⟩ | ⟨h1, h2, h3⟩⟩
      · have HB := Lib.hid hb
        clear hb
        rcases h1 with h1 | ⟨h1, h1'⟩ <;> rcases h2 with h2 | ⟨h2, h2'⟩
        all_goals
          go_wp2_with fail
          go_roundw
          case rel => exact ⟨3, by omega, by go_num, ⟨fun _ => HA.out.1 (by omega), fun _ => HA.out.2.1 (by omega), fun _ => HB.out, fun h => by omega⟩, below_alloc hBw _⟩
          case measure => simp [intOf]
      · have HB := Lib.hid hb
        clear hb
        go_wp2_with fail
        go_ret
        exact ⟨retB (res4_no2 HB.out).symm, below_alloc hBw _⟩
      · have HB := Lib.hid hb
        clear hb
        rcases h1 with h1 | ⟨h1, h1'⟩
        all_goals
          go_wp2_with fail
          go_ret
          exact ⟨retB (res4_no2 HB.out).symm, below_alloc hBw _⟩
    · rcases bnd_cases b3.x b3.lo b3.hi with ⟨hb, h1, h2⟩ | ⟨hb, ⟨h1, h2⟩ | ⟨h1, h2, h3⟩⟩
      · have HB := Lib.hid hb
        clear hb
        rcases h1 with h1 | ⟨h1, h1'⟩ <;> rcases h2 with h2 | ⟨h2, h2'⟩
        all_goals
          go_wp2_with fail
          go_roundw
          case rel => exact ⟨4, by omega, by go_num, ⟨fun _ => HA.out.1 (by omega), fun _ => HA.out.2.1 (by omega), fun _ => HA.out.2.2.1 (by omega), fun _ => HB.out⟩, below_alloc hBw _⟩
          case measure => simp [intOf]
      · have HB := Lib.hid hb
        clear hb
        go_wp2_with fail
        go_ret
        exact ⟨retB (res4_no3 HB.out).symm, below_alloc hBw _⟩
      · have HB := Lib.hid hb
        clear hb
        rcases h1 with h1 | ⟨h1, h1'⟩
        all_goals
          go_wp2_with fail
          go_ret
          exact ⟨retB (res4_no3 HB.out).symm, below_alloc hBw _⟩
    · go_wp2_with fail
      go_ret
      exact ⟨retB (res4_yes HA.out).symm, hBw⟩

theorem holds_out (x : Tar.Wh) (z : Int) (s : Bool) (a since en po : Int) (h : ¬ (-840 ≤ z ∧ z ≤ 840 ∧ 0 ≤ a ∧ a ≤ 268435456)) : Tar.holds x z s a since en po = false := by
  unfold Tar.holds
  rw [decide_eq_false h]
  rfl
theorem holds_in (x : Tar.Wh) (z : Int) (s : Bool) (a since en po : Int) (h : -840 ≤ z ∧ z ≤ 840 ∧ 0 ≤ a ∧ a ≤ 268435456) :
    Tar.holds x z s a since en po = (Tar.hours x (Cal.wd ((a + Cal.offs z s a) / 1440)) ((a + Cal.offs z s a) % 1440) && res4 ⟨a, x.f, x.t⟩ ⟨en, x.e0, x.e1⟩ ⟨po, x.p0, x.p1⟩ ⟨since, x.t0, x.t1⟩) := by
  unfold Tar.holds
  rw [decide_eq_true h]
  rfl

set_option maxRecDepth 100000 in
set_option maxHeartbeats 4000000 in
theorem holds_ (x : Tar.Wh) (z : Int) (s : Bool) (a since en po : Int) (w : World) (ht : Tab w) :
    Calls Tryz.prog 164 #[.agg (wh x), zone z s, i a, i since, i en, i po] w fun e w' => e = .returned (.bool (Tar.holds x z s a since en po)) ∧ Below w.heap.size w w' := by
  have hB := below_alloc (below_new w (.cells (wh x) 63)) (.cells #[i z, .bool s] 38)
  by_cases h : -840 ≤ z ∧ z ≤ 840 ∧ 0 ≤ a ∧ a ≤ 268435456
  · rw [holds_in x z s a since en po h]
    obtain ⟨z1, z2, a1, a2⟩ := h
    have b0 := (Blk.new w 63 (wh x)).alloc (.cells #[i z, .bool s] 38)
    have L := Lib.hid (fun w ht => local_yes z s a w z1 z2 a1 a2 ht)
    unfold date at L
    have vb := Cal.wd_bd ((a + Cal.offs z s a) / 1440)
    generalize Cal.yr ((a + Cal.offs z s a) / 1440) = y at *
    generalize Cal.mo ((a + Cal.offs z s a) / 1440) = m at *
    generalize Cal.dy ((a + Cal.offs z s a) / 1440) = k at *
    generalize Cal.wd ((a + Cal.offs z s a) / 1440) = v at *
    generalize (a + Cal.offs z s a) % 1440 = mi at *
    go_enter Tryz.func164, Tryz.ntmps164
    go_wp2_with fail
    refine (L.out _ (ht.below hB ht.lt)).mono ?_
    rintro e w1 ⟨rfl, hb1⟩
    have hB1 := below_alloc (below_call hB hb1) (.cells #[i y, i m, i k, i v, i mi] 216)
    have b1 := (b0.call hb1).alloc (.cells #[i y, i m, i k, i v, i mi] 216)
    have c1 := b1.cell
    cases hh : Tar.hours x v mi
    · have HH := Lib.hid hh
      clear hh
      go_wp2_with fail
      refine (inHours x v mi _ vb.1 vb.2 HH.out).mono ?_
      rintro e w2 ⟨rfl, hb2⟩
      go_wp2_with fail
      go_ret
      exact ⟨retB (by rw [HH.out]; rfl), below_call hB1 hb2⟩
    · have HH := Lib.hid hh
      clear hh
      go_wp2_with fail
      refine (inHours x v mi _ vb.1 vb.2 HH.out).mono ?_
      rintro e w2 ⟨rfl, hb2⟩
      have b2 := b1.call hb2
      clear c1
      have c2 := b2.cell
      go_wp2_with fail
      refine (within4 ⟨a, x.f, x.t⟩ ⟨en, x.e0, x.e1⟩ ⟨po, x.p0, x.p1⟩ ⟨since, x.t0, x.t1⟩ _ _ (Blk.new _ _ _)).mono ?_
      rintro e w3 ⟨rfl, hb3⟩
      go_wp2_with fail
      go_ret
      exact ⟨retB (by rw [HH.out]; rfl), below_call (below_alloc (below_call hB1 hb2) _) hb3⟩
  · rw [holds_out x z s a since en po h]
    obtain ⟨c, hc, hp⟩ : ∃ c : Int, (c != 0) = true ∧ ∀ w, Calls Tryz.prog 169 #[zone z s, i a] w fun e w' => e = .returned (.tuple #[noDate, i c]) ∧ Below w.heap.size w w' := by
      by_cases hz : -840 ≤ z ∧ z ≤ 840
      · exact ⟨2, rfl, fun w => local_no z s a w hz.1 hz.2 (by omega)⟩
      · exact ⟨1, rfl, fun w => local_inv z s a w hz⟩
    have HP := Lib.hid hp
    clear hp
    go_enter Tryz.func164, Tryz.ntmps164
    go_wp2_with fail
    refine (HP.out _).mono ?_
    rintro e w1 ⟨rfl, hb1⟩
    go_wp2_with fail
    go_ret
    exact ⟨rfl, below_alloc (below_call hB hb1) _⟩
end TarW
end Go.Proofs.YtpmcdjpfolgpiaaGreatDoor

namespace Go.Proofs.YtpmcdjpfolgpiaaGreatDoor
namespace TarW
set_option linter.unusedSimpArgs false
set_option linter.unusedVariables false
open Go.RowKit CalW

set_option maxHeartbeats 400000 in
theorem ron41 (days v : Int) (w : World) (hv : 1 ≤ v) (hv' : v ≤ 7) {b : Bool} (hb : Tar.onW days v = b) :
    Calls Tryz.prog 155 #[i days, i v] w fun e w' => e = .returned (.bool b) ∧ w = w' := by
  subst hb
  have db := Tar.dset_bd days
  by_cases hd : Tar.dset days = 0
  · have hd1 : (bits .and .i64 days 127 == 0) = true := by simpa [Tar.dset] using hd
    have e : Tar.onW days v = true := by unfold Tar.onW; rw [hd]; exact onD_zero _
    rw [e]
    clear hd e
    go_enter Tryz.func155, Tryz.ntmps155
    go_wp2
    all_goals go_ret
    all_goals exact ⟨rfl, rfl⟩
  · have hd1 : (bits .and .i64 days 127 == 0) = false := by simpa [Tar.dset] using hd
    have HD := Lib.hid hd
    clear hd
    unfold Tar.dset at db
    go_enter Tryz.func155, Tryz.ntmps155
    go_wp2
    all_goals go_ret
    all_goals refine ⟨retB ?_, rfl⟩
    all_goals
      unfold Tar.onW
      exact (onD_bits (Tar.dset days) v db.1 db.2 hv HD.out rfl).symm

set_option maxHeartbeats 400000 in
theorem rwithin (lo x hi : Int) (w : World) {b : Bool} (hb : Tar.bnd x lo hi = b) :
    Calls Tryz.prog 156 #[i lo, i x, i hi] w fun e w' => e = .returned (.bool b) ∧ w = w' := by
  subst hb
  go_enter Tryz.func156, Tryz.ntmps156
  go_wp2
  all_goals go_ret
  all_goals refine ⟨retB ?_, rfl⟩
  all_goals (unfold Tar.bnd; rw [Bool.eq_iff_iff]; simp_all)
  all_goals omega

theorem yest (v : Int) (h : 1 ≤ v) (h' : v ≤ 7) : (v = 1 ∧ (v + 5) % 7 + 1 = 7) ∨ ((v - 1 == 0) = false ∧ (v + 5) % 7 + 1 = v - 1) := by
  rcases (by omega : v = 1 ∨ 2 ≤ v) with h | h
  · exact .inl ⟨h, by omega⟩
  · exact .inr ⟨by simp; omega, by omega⟩

def day1 (x : Tar.Wh) (v mi : Int) : Bool := if x.s < x.e then Tar.onW x.d v && decide (x.s ≤ mi) && decide (mi < x.e) else Tar.onW x.d v
theorem valB {a b : Bool} (h : a = b) : Value.bool a = .bool b := by rw [h]
set_option maxRecDepth 100000 in
set_option maxHeartbeats 8000000 in
theorem rholds (x : Tar.Wh) (z : Int) (s : Bool) (a since en po : Int) (w : World) :
    Calls Tryz.prog 135 #[.agg (wh x), zone z s, i a, i since, i en, i po] w fun e w' => e = .returned (.bool (Tar.holds x z s a since en po)) ∧ Below w.heap.size w w' := by
  have hB := below_alloc (below_new w (.cells (wh x) 63)) (.cells #[i z, .bool s] 38)
  by_cases h : -840 ≤ z ∧ z ≤ 840 ∧ 0 ≤ a ∧ a ≤ 268435456
  · rw [holds_in x z s a since en po h]
    obtain ⟨z1, z2, a1, a2⟩ := h
    have b0 := (Blk.new w 63 (wh x)).alloc (.cells #[i z, .bool s] 38)
    have L := Lib.hid (fun w => rlocal_yes z s a w z1 z2 a1 a2)
    unfold date at L
    have vb := Cal.wd_bd ((a + Cal.offs z s a) / 1440)
    generalize Cal.yr ((a + Cal.offs z s a) / 1440) = y at *
    generalize Cal.mo ((a + Cal.offs z s a) / 1440) = m at *
    generalize Cal.dy ((a + Cal.offs z s a) / 1440) = k at *
    generalize Cal.wd ((a + Cal.offs z s a) / 1440) = v at *
    generalize (a + Cal.offs z s a) % 1440 = mi at *
    go_enter Tryz.func135, Tryz.ntmps135
    go_wp2_with fail
    refine (L.out _).mono ?_
    rintro e w1 ⟨rfl, hb1⟩
    have hB1 := below_alloc (below_call hB hb1) (.cells #[i y, i m, i k, i v, i mi] 216)
    have b1 := (b0.call hb1).alloc (.cells #[i y, i m, i k, i v, i mi] 216)
    have c1 := b1.cell
    have j1 := Blk.new w1 216 #[i y, i m, i k, i v, i mi]
    obtain ⟨q, hq1, hq2, hq3, hqv⟩ : ∃ q : Int, 1 ≤ q ∧ q ≤ 7 ∧ (v + 5) % 7 + 1 = q ∧ ((v - 1 == 0) = true ∧ q = 7 ∨ (v - 1 == 0) = false ∧ q = v - 1) := by
      rcases yest v vb.1 vb.2 with ⟨h1, h2⟩ | ⟨h1, h2⟩
      · exact ⟨_, by omega, by omega, rfl, .inl ⟨by simp; omega, h2⟩⟩
      · exact ⟨_, by omega, by omega, rfl, .inr ⟨h1, h2⟩⟩
    have HQ3 := Lib.hid hq3
    clear hq3
    go_upto_region 5 with (fail)
    generalize w1.alloc (.cells #[i y, i m, i k, i v, i mi] 216) = W at *
    generalize w1.heap.size = g at *
    have c2 := j1.cell
    have HQV := Lib.hid hqv
    clear hqv
    go_upto_if 29 with (fail)
    go_cut [15] (fun s15 wc => s15 = i q ∧ wc = W)
    case first =>
      rcases HQV.out with ⟨h1, h2⟩ | ⟨h1, h2⟩
      all_goals
        have H2 := Lib.hid h2
        clear h2
        go_wp2_with fail
        go_meet
        exact ⟨by rw [H2.out], rfl⟩
    case rest =>
      obtain ⟨rfl, rfl⟩ := hcut
      clear HQV
      cases ho : Tar.onW x.d v
      all_goals
        have HO := Lib.hid ho
        clear ho
        go_upto_if 39 with ((go_at_call 155; refine (ron41 _ _ _ (by omega) (by omega) HO.out).mono ?_; rintro e w' ⟨rfl, rfl⟩))
        go_cut [16] (fun s16 w8 => s16 = .bool (day1 x v mi) ∧ w8 = wc)
        case first =>
          by_cases hlt : x.s < x.e
          · go_wp2_with fail
            all_goals go_meet
            all_goals exact ⟨valB (by unfold day1; rw [if_pos hlt, HO.out]; first | rfl | (simp; done) | (simp; omega) | (rw [Bool.eq_iff_iff]; simp; omega)), rfl⟩
          · go_wp2_with fail
            all_goals go_meet
            all_goals exact ⟨valB (by unfold day1; rw [if_neg (by omega), HO.out]), rfl⟩
        case rest =>
          obtain ⟨rfl, rfl⟩ := hcut
          go_upto_if 59 with (fail)
          go_cut [16] (fun s16 w7 => s16 = .bool (Tar.hours x v mi) ∧ w7 = wc)
          case first =>
            by_cases hgt : x.e < x.s
            · have hd : day1 x v mi = Tar.onW x.d v := by unfold day1; rw [if_neg (by omega)]
              rw [HO.out] at hd
              have hH := hours_gt x v mi hgt
              rw [HO.out, HQ3.out] at hH
              have HH := Lib.hid hH
              rw [hd]
              clear hH hd
              cases hqq : Tar.onW x.d q <;> by_cases hm : x.s ≤ mi
              all_goals
                have HQ := Lib.hid hqq
                clear hqq
                go_wp2_with ((go_at_call 155; refine (ron41 _ _ _ (by omega) (by omega) HQ.out).mono ?_; rintro e w' ⟨rfl, rfl⟩))
              all_goals go_meet
              all_goals exact ⟨valB (by rw [HH.out, HQ.out]; first | rfl | (simp; done) | (simp; omega) | (rw [Bool.eq_iff_iff]; simp; omega)), rfl⟩
            · have hd : day1 x v mi = Tar.hours x v mi := by
                unfold day1
                rcases (by omega : x.s < x.e ∨ x.s = x.e) with h | h
                · rw [hours_lt x v mi h, if_pos h]
                · rw [hours_eq x v mi h, if_neg (by omega)]
              have HD := Lib.hid hd
              clear hd
              go_wp2_with fail
              all_goals go_meet
              all_goals exact ⟨valB HD.out, rfl⟩
          case rest =>
            obtain ⟨rfl, rfl⟩ := hcut
            cases hh : Tar.hours x v mi
            · have HH := Lib.hid hh
              clear hh
              go_wp2_with fail
              go_ret
              exact ⟨retB (by rw [HH.out]; rfl), hB1⟩
            · have HH := Lib.hid hh
              clear hh
              cases h1 : Tar.bnd a x.f x.t
              · have H1 := Lib.hid h1
                clear h1
                go_wp2_with fail
                refine (rwithin _ _ _ _ H1.out).mono ?_
                rintro e w' ⟨rfl, rfl⟩
                go_wp2_with fail
                go_ret
                exact ⟨retB (by rw [HH.out, res4_no0 H1.out]; rfl), hB1⟩
              · have H1 := Lib.hid h1
                clear h1
                cases h2 : Tar.bnd en x.e0 x.e1
                · have H2 := Lib.hid h2
                  clear h2
                  go_wp2_with fail
                  refine (rwithin _ _ _ _ H1.out).mono ?_
                  rintro e w' ⟨rfl, rfl⟩
                  go_wp2_with fail
                  refine (rwithin _ _ _ _ H2.out).mono ?_
                  rintro e w' ⟨rfl, rfl⟩
                  go_wp2_with fail
                  go_ret
                  exact ⟨retB (by rw [HH.out, res4_no1 H2.out]; rfl), hB1⟩
                · have H2 := Lib.hid h2
                  clear h2
                  cases h3 : Tar.bnd po x.p0 x.p1
                  · have H3 := Lib.hid h3
                    clear h3
                    go_wp2_with fail
                    refine (rwithin _ _ _ _ H1.out).mono ?_
                    rintro e w' ⟨rfl, rfl⟩
                    go_wp2_with fail
                    refine (rwithin _ _ _ _ H2.out).mono ?_
                    rintro e w' ⟨rfl, rfl⟩
                    go_wp2_with fail
                    refine (rwithin _ _ _ _ H3.out).mono ?_
                    rintro e w' ⟨rfl, rfl⟩
                    go_wp2_with fail
                    go_ret
                    exact ⟨retB (by rw [HH.out, res4_no2 H3.out]; rfl), hB1⟩
                  · have H3 := Lib.hid h3
                    clear h3
                    go_wp2_with fail
                    refine (rwithin _ _ _ _ H1.out).mono ?_
                    rintro e w' ⟨rfl, rfl⟩
                    go_wp2_with fail
                    refine (rwithin _ _ _ _ H2.out).mono ?_
                    rintro e w' ⟨rfl, rfl⟩
                    go_wp2_with fail
                    refine (rwithin _ _ _ _ H3.out).mono ?_
                    rintro e w' ⟨rfl, rfl⟩
                    go_wp2_with fail
                    refine (rwithin _ _ _ _ rfl).mono ?_
                    rintro e w' ⟨rfl, rfl⟩
                    go_wp2_with fail
                    go_ret
                    exact ⟨retB (by rw [HH.out]; simp only [res4, B3.ok, H1.out, H2.out, H3.out, Bool.true_and]), hB1⟩
  · rw [holds_out x z s a since en po h]
    obtain ⟨c, hc, hp⟩ : ∃ c : Int, (c != 0) = true ∧ ∀ w, Calls Tryz.prog 154 #[zone z s, i a] w fun e w' => e = .returned (.tuple #[noDate, i c]) ∧ Below w.heap.size w w' := by
      by_cases hz : -840 ≤ z ∧ z ≤ 840
      · exact ⟨2, rfl, fun w => rlocal_no z s a w hz.1 hz.2 (by omega)⟩
      · exact ⟨1, rfl, fun w => rlocal_inv z s a w hz⟩
    have HP := Lib.hid hp
    clear hp
    go_enter Tryz.func135, Tryz.ntmps135
    go_wp2_with fail
    refine (HP.out _).mono ?_
    rintro e w1 ⟨rfl, hb1⟩
    go_wp2_with fail
    go_ret
    exact ⟨rfl, below_alloc (below_call hB hb1) _⟩
end TarW
end Go.Proofs.YtpmcdjpfolgpiaaGreatDoor
