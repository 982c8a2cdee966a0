/-
  The walks of the tariff's reference: on, within, Holds.
-/
import Derived.Test.YtndlhhiifmjieaaDoorTarH
import Derived.Deep.DeepCutAuto
namespace Go.Proofs.YtndlhhiifmjieaaDoor
namespace TarW
set_option linter.unusedSimpArgs false
set_option linter.unusedVariables false
open Go.RowKit CalW

set_option maxHeartbeats 400000 in
theorem ron41 (days v : Int) (w : World) (hv : 1 ≤ v) (hv' : v ≤ 7) {b : Bool} (hb : Tar.onW days v = b) :
    Calls Tryd.prog 66 #[i days, i v] w fun e w' => e = .returned (.bool b) ∧ w = w' := by
  subst hb
  have db := Tar.dset_bd days
  by_cases hd : Tar.dset days = 0
  · have hd1 : (bits .and .i64 days 127 == 0) = true := by simpa [Tar.dset] using hd
    have e : Tar.onW days v = true := by unfold Tar.onW; rw [hd]; exact onD_zero _
    rw [e]
    clear hd e
    go_enter Tryd.func66, Tryd.ntmps66
    go_wp2
    all_goals go_ret
    all_goals exact ⟨rfl, rfl⟩
  · have hd1 : (bits .and .i64 days 127 == 0) = false := by simpa [Tar.dset] using hd
    have HD := Lib.hid hd
    clear hd
    unfold Tar.dset at db
    go_enter Tryd.func66, Tryd.ntmps66
    go_wp2
    all_goals go_ret
    all_goals refine ⟨retB ?_, rfl⟩
    all_goals
      unfold Tar.onW
      exact (onD_bits (Tar.dset days) v db.1 db.2 hv HD.out rfl).symm

set_option maxHeartbeats 400000 in
theorem rwithin (lo x hi : Int) (w : World) {b : Bool} (hb : Tar.bnd x lo hi = b) :
    Calls Tryd.prog 67 #[i lo, i x, i hi] w fun e w' => e = .returned (.bool b) ∧ w = w' := by
  subst hb
  go_enter Tryd.func67, Tryd.ntmps67
  go_wp2
  all_goals go_ret
  all_goals refine ⟨retB ?_, rfl⟩
  all_goals (unfold Tar.bnd; rw [Bool.eq_iff_iff]; simp_all)
  all_goals omega

theorem yest (v : Int) (h : 1 ≤ v) (h' : v ≤ 7) : (v = 1 ∧ (v + 5) % 7 + 1 = 7) ∨ ((v - 1 == 0) = false ∧ (v + 5) % 7 + 1 = v - 1) := by
  rcases (by omega : v = 1 ∨ 2 ≤ v) with h | h
  · exact .inl ⟨h, by omega⟩
  · exact .inr ⟨by simp; omega, by omega⟩

def day1 (x : Tar.Wh) (v mi : Int) : Bool := if x.s < x.e then Tar.onW x.d v && decide (x.s ≤ mi) && decide (mi < x.e) else Tar.onW x.d v
theorem valB {a b : Bool} (h : a = b) : Value.bool a = .bool b := by rw [h]
def BndsPost (b : Bool) (w : World) (e : Ending) (w' : World) : Prop := e = .returned (.bool b) ∧ Below w.heap.size w w'

set_option maxRecDepth 100000 in
set_option maxHeartbeats 8000000 in
theorem rholds (x : Tar.Wh) (z : Int) (s : Bool) (a since en po : Int) (w : World) :
    Calls Tryd.prog 59 #[.agg (wh x), zone z s, i a, i since, i en, i po] w fun e w' => e = .returned (.bool (Tar.holds x z s a since en po)) ∧ Below w.heap.size w w' := by
  have hB := below_alloc (below_new w (.cells (wh x) 51)) (.cells #[i z, .bool s] 28)
  by_cases h : -840 ≤ z ∧ z ≤ 840 ∧ 0 ≤ a ∧ a ≤ 268435456
  · rw [holds_in x z s a since en po h]
    obtain ⟨z1, z2, a1, a2⟩ := h
    have b0 := (Blk.new w 51 (wh x)).alloc (.cells #[i z, .bool s] 28)
    have L := Lib.hid (fun w => rlocal_yes z s a w z1 z2 a1 a2)
    unfold date at L
    have vb := Cal.wd_bd ((a + Cal.offs z s a) / 1440)
    generalize Cal.yr ((a + Cal.offs z s a) / 1440) = y at *
    generalize Cal.mo ((a + Cal.offs z s a) / 1440) = m at *
    generalize Cal.dy ((a + Cal.offs z s a) / 1440) = k at *
    generalize Cal.wd ((a + Cal.offs z s a) / 1440) = v at *
    generalize (a + Cal.offs z s a) % 1440 = mi at *
    go_enter Tryd.func59, Tryd.ntmps59
    go_wp2_with fail
    refine (L.out _).mono ?_
    rintro e w1 ⟨rfl, hb1⟩
    have hB1 := below_alloc (below_call hB hb1) (.cells #[i y, i m, i k, i v, i mi] 119)
    have b1 := (b0.call hb1).alloc (.cells #[i y, i m, i k, i v, i mi] 119)
    have c1 := b1.cell
    have j1 := Blk.new w1 119 #[i y, i m, i k, i v, i mi]
    obtain ⟨q, hq1, hq2, hq3, hqv⟩ : ∃ q : Int, 1 ≤ q ∧ q ≤ 7 ∧ (v + 5) % 7 + 1 = q ∧ ((v - 1 == 0) = true ∧ q = 7 ∨ (v - 1 == 0) = false ∧ q = v - 1) := by
      rcases yest v vb.1 vb.2 with ⟨h1, h2⟩ | ⟨h1, h2⟩
      · exact ⟨_, by omega, by omega, rfl, .inl ⟨by simp; omega, h2⟩⟩
      · exact ⟨_, by omega, by omega, rfl, .inr ⟨h1, h2⟩⟩
    have HQ3 := Lib.hid hq3
    clear hq3
    go_upto_region 5 with (fail)
    generalize w1.alloc (.cells #[i y, i m, i k, i v, i mi] 119) = W at *
    generalize w1.heap.size = g at *
    have c2 := j1.cell
    have HQV := Lib.hid hqv
    clear hqv
    go_upto_if 29 with (fail)
    go_cut [15] (fun s15 wc => s15 = i q ∧ wc = W)
    case first =>
      rcases HQV.out with ⟨h1, h2⟩ | ⟨h1, h2⟩
      all_goals
        have H2 := Lib.hid h2
        clear h2
        go_wp2_with fail
        go_meet
        exact ⟨by rw [H2.out], rfl⟩
    case rest =>
      obtain ⟨rfl, rfl⟩ := hcut
      clear HQV
      cases ho : Tar.onW x.d v
      all_goals
        have HO := Lib.hid ho
        clear ho
        go_upto_if 39 with ((go_at_call 66; refine (ron41 _ _ _ (by omega) (by omega) HO.out).mono ?_; rintro e w' ⟨rfl, rfl⟩))
        go_cut [16] (fun s16 w8 => s16 = .bool (day1 x v mi) ∧ w8 = wc)
        case first =>
          by_cases hlt : x.s < x.e
          · go_wp2_with fail
            all_goals go_meet
            all_goals exact ⟨valB (by unfold day1; rw [if_pos hlt, HO.out]; first | rfl | (simp; done) | (simp; omega) | (rw [Bool.eq_iff_iff]; simp; omega)), rfl⟩
          · go_wp2_with fail
            all_goals go_meet
            all_goals exact ⟨valB (by unfold day1; rw [if_neg (by omega), HO.out]), rfl⟩
        case rest =>
          obtain ⟨rfl, rfl⟩ := hcut
          go_upto_if 59 with (fail)
          go_cut [16] (fun s16 w7 => s16 = .bool (Tar.hours x v mi) ∧ w7 = wc)
          case first =>
            by_cases hgt : x.e < x.s
            · have hd : day1 x v mi = Tar.onW x.d v := by unfold day1; rw [if_neg (by omega)]
              rw [HO.out] at hd
              have hH := hours_gt x v mi hgt
              rw [HO.out, HQ3.out] at hH
              have HH := Lib.hid hH
              rw [hd]
              clear hH hd
              cases hqq : Tar.onW x.d q <;> by_cases hm : x.s ≤ mi
              all_goals
                have HQ := Lib.hid hqq
                clear hqq
                go_wp2_with ((go_at_call 66; refine (ron41 _ _ _ (by omega) (by omega) HQ.out).mono ?_; rintro e w' ⟨rfl, rfl⟩))
              all_goals go_meet
              all_goals exact ⟨valB (by rw [HH.out, HQ.out]; first | rfl | (simp; done) | (simp; omega) | (rw [Bool.eq_iff_iff]; simp; omega)), rfl⟩
            · have hd : day1 x v mi = Tar.hours x v mi := by
                unfold day1
                rcases (by omega : x.s < x.e ∨ x.s = x.e) with h | h
                · rw [hours_lt x v mi h, if_pos h]
                · rw [hours_eq x v mi h, if_neg (by omega)]
              have HD := Lib.hid hd
              clear hd
              go_wp2_with fail
              all_goals go_meet
              all_goals exact ⟨valB HD.out, rfl⟩
          case rest =>
            obtain ⟨rfl, rfl⟩ := hcut
            cases hh : Tar.hours x v mi
            · have HH := Lib.hid hh
              clear hh
              go_wp2_with fail
              go_ret
              exact ⟨retB (by rw [HH.out]; rfl), hB1⟩
            · have HH := Lib.hid hh
              clear hh
              cases h1 : Tar.bnd a x.f x.t
              · have H1 := Lib.hid h1
                clear h1
                go_wp2_with fail
                refine (rwithin _ _ _ _ H1.out).mono ?_
                rintro e w' ⟨rfl, rfl⟩
                go_wp2_with fail
                go_ret
                exact ⟨retB (by rw [HH.out, res4_no0 H1.out]; rfl), hB1⟩
              · have H1 := Lib.hid h1
                clear h1
                cases h2 : Tar.bnd en x.e0 x.e1
                · have H2 := Lib.hid h2
                  clear h2
                  go_wp2_with fail
                  refine (rwithin _ _ _ _ H1.out).mono ?_
                  rintro e w' ⟨rfl, rfl⟩
                  go_wp2_with fail
                  refine (rwithin _ _ _ _ H2.out).mono ?_
                  rintro e w' ⟨rfl, rfl⟩
                  go_wp2_with fail
                  go_ret
                  exact ⟨retB (by rw [HH.out, res4_no1 H2.out]; rfl), hB1⟩
                · have H2 := Lib.hid h2
                  clear h2
                  cases h3 : Tar.bnd po x.p0 x.p1
                  · have H3 := Lib.hid h3
                    clear h3
                    go_wp2_with fail
                    refine (rwithin _ _ _ _ H1.out).mono ?_
                    rintro e w' ⟨rfl, rfl⟩
                    go_wp2_with fail
                    refine (rwithin _ _ _ _ H2.out).mono ?_
                    rintro e w' ⟨rfl, rfl⟩
                    go_wp2_with fail
                    refine (rwithin _ _ _ _ H3.out).mono ?_
                    rintro e w' ⟨rfl, rfl⟩
                    go_wp2_with fail
                    go_ret
                    exact ⟨retB (by rw [HH.out, res4_no2 H3.out]; rfl), hB1⟩
                  · have H3 := Lib.hid h3
                    clear h3
                    go_wp2_with fail
                    refine (rwithin _ _ _ _ H1.out).mono ?_
                    rintro e w' ⟨rfl, rfl⟩
                    go_wp2_with fail
                    refine (rwithin _ _ _ _ H2.out).mono ?_
                    rintro e w' ⟨rfl, rfl⟩
                    go_wp2_with fail
                    refine (rwithin _ _ _ _ H3.out).mono ?_
                    rintro e w' ⟨rfl, rfl⟩
                    go_wp2_with fail
                    refine (rwithin _ _ _ _ rfl).mono ?_
                    rintro e w' ⟨rfl, rfl⟩
                    go_wp2_with fail
                    go_ret
                    exact ⟨retB (by rw [HH.out]; simp only [res4, B3.ok, H1.out, H2.out, H3.out, Bool.true_and]), hB1⟩
  · rw [holds_out x z s a since en po h]
    obtain ⟨c, hc, hp⟩ : ∃ c : Int, (c != 0) = true ∧ ∀ w, Calls Tryd.prog 65 #[zone z s, i a] w fun e w' => e = .returned (.tuple #[noDate, i c]) ∧ Below w.heap.size w w' := by
      by_cases hz : -840 ≤ z ∧ z ≤ 840
      · exact ⟨2, rfl, fun w => rlocal_no z s a w hz.1 hz.2 (by omega)⟩
      · exact ⟨1, rfl, fun w => rlocal_inv z s a w hz⟩
    have HP := Lib.hid hp
    clear hp
    go_enter Tryd.func59, Tryd.ntmps59
    go_wp2_with fail
    refine (HP.out _).mono ?_
    rintro e w1 ⟨rfl, hb1⟩
    go_wp2_with fail
    go_ret
    exact ⟨rfl, below_alloc (below_call hB hb1) _⟩
end TarW
end Go.Proofs.YtndlhhiifmjieaaDoor
