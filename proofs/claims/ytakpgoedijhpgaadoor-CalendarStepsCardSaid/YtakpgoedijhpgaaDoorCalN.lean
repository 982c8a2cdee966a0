/-
  The walk of package calendar's exported function Next.
-/
import Derived.Test.YtakpgoedijhpgaaDoorCalL
namespace Go.Proofs.YtakpgoedijhpgaaDoor
namespace CalW
set_option linter.unusedSimpArgs false
set_option linter.unusedVariables false
open Go.RowKit

theorem ofInt_i64 (a : Nat) (ha : a < 9223372036854775808) : (BitVec.ofInt 64 (a : Int)).toNat = a := by
  rw [BitVec.ofInt_natCast, BitVec.toNat_ofNat]; exact Nat.mod_eq_of_lt (by omega)
theorem i64_and_nat (a b : Nat) (ha : a < 9223372036854775808) (hb : b < 9223372036854775808) : bits .and .i64 (a : Int) (b : Int) = ((a &&& b : Nat) : Int) := by
  have hx : a &&& b < 2 ^ 63 := Nat.and_lt_two_pow _ (by omega)
  show IntKind.i64.wrap ((BitVec.ofInt 64 (a : Int) &&& BitVec.ofInt 64 (b : Int)).toNat : Int) = _
  rw [BitVec.toNat_and, ofInt_i64 a ha, ofInt_i64 b hb, IntKind.wrap_i64]
  omega
theorem and_one (a : Int) (h : 0 ≤ a) (h' : a ≤ 1000000) : bits .and .i64 a 1 = a % 2 := by
  obtain ⟨n, rfl⟩ := Int.eq_ofNat_of_zero_le h
  have := i64_and_nat n 1 (by omega) (by omega)
  rw [show ((1 : Nat) : Int) = 1 from rfl] at this
  rw [this, Nat.and_one_is_mod]
  omega
theorem shr_bd (d : Int) (n : Nat) (h : 0 ≤ d) (h' : d ≤ 127) : 0 ≤ d / 2 ^ n ∧ d / 2 ^ n ≤ 127 :=
  ⟨Int.ediv_nonneg h (Int.le_of_lt (Int.pow_pos (by omega))), Int.le_trans (Int.ediv_le_self _ h) h'⟩
theorem onD_bits (days v : Int) {b : Bool} (h : 0 ≤ days) (h' : days ≤ 127) (hv : 1 ≤ v) (hd : ¬ days = 0) (hb : (bits .and .i64 (days / 2 ^ (v.toNat - 1)) 1 == 1) = b) : Cal.onD days v = b := by
  have hs := shr_bd days (v.toNat - 1) h h'
  rw [and_one _ hs.1 (by omega)] at hb
  unfold Cal.onD
  rw [show (v - 1).toNat = v.toNat - 1 by omega, hb]
  simp [hd]
theorem onD_zero (v : Int) : Cal.onD 0 v = true := by simp [Cal.onD]

def NextPost (z : Int) (s : Bool) (t days mi : Int) (w : World) (e : Ending) (w' : World) : Prop :=
  ∃ r c : Int, e = .returned (.tuple #[i r, i c]) ∧ Cal.NextIs z s t days mi r c ∧ Below w.heap.size w w'

set_option maxHeartbeats 800000 in
theorem next_in (z : Int) (s : Bool) (t days mi : Int) (w : World) (ht : Tab w) (hz : -840 ≤ z) (hz' : z ≤ 840) (h1 : 0 ≤ t) (h2 : t ≤ 268435456) (h3 : 0 ≤ days) (h4 : days ≤ 127) (h5 : 0 ≤ mi) (h6 : mi ≤ 1439) :
    Calls Tryd.prog 22 #[zone z s, i t, i days, i mi] w (NextPost z s t days mi w) := by
  obtain ⟨L, hL1, hL2, hL3⟩ : ∃ L : Int, L ≤ 268435456 ∧ L ≤ t + 11520 ∧ (L = t + 11520 ∨ L = 268435456) := by
    by_cases h : 268435456 ≤ t + 11520
    · exact ⟨268435456, by omega, by omega, by omega⟩
    · exact ⟨t + 11520, by omega, by omega, by omega⟩
  have HL := Lib.hid hL3
  clear hL3
  have hta := ht.alloc (.cells #[i z, .bool s] 33)
  go_enter Tryd.func22, Tryd.ntmps22
  go_wp2_with fail
  refine (validZone_yes _ _ _ hz hz').mono ?_
  rintro e w1 ⟨rfl, hb⟩
  obtain ⟨hc, hf⟩ := bcell hb
  go_wp2_with (go_at_call 25; refine (isTime_yes _ _ h1 h2).mono ?_; rintro e w' ⟨rfl, rfl⟩)
  all_goals
    have hB0 : Below (w.heap.size + 1) (w.alloc (.cells #[i z, .bool s] 33)) w1 := hb.mono (by simp)
    clear hc hf hb
    go_loopw [11, 52] (fun b x wr => ∃ k best : Int, 0 ≤ k ∧ k ≤ 2 ∧ x = i k ∧ b = i best ∧ 0 ≤ best ∧ best ≤ 268435457 ∧ Hid (Cal.Best z s t days mi L k best) ∧ Below (w.heap.size + 1) (w.alloc (.cells #[i z, .bool s] 33)) wr) (fun _ x _ => (2 - intOf x).toNat)
    case atStart =>
      refine ⟨0, L + 1, by omega, by omega, rfl, ?_, by have := HL.out; omega, by omega, ?_, hB0⟩
      · have := HL.out
        congr 1
        omega
      · exact Lib.hid ⟨by have := HL.out; omega, by omega, by omega, fun v _ _ ⟨j, j1, j2, _⟩ => by omega⟩
    case round =>
      obtain ⟨k, best, hk0, hk2, rfl, rfl, hb0, hb1, HB, hBw⟩ := hrel
      clear hB0
      by_cases hk : k < 2
      · have hix : ∀ W : World, (Instr.index 47 (.agg #[i z, i (z + 60)]) (i k)).run Tryd.prog W = .ok (i (z + 60 * k)) W := by
          intro W
          rcases (by omega : k = 0 ∨ k = 1) with rfl | rfl
          · rw [show z + 60 * 0 = z by omega]; kernel_rfl
          · rw [show z + 60 * 1 = z + 60 by omega]; kernel_rfl
        go_wp2_with (go_at_call 39; refine (divide _ _ _ (by omega) (by omega) (by omega) (by omega)).mono ?_; rintro e w' ⟨rfl, m, rfl⟩)
        have hBw2 := below_drewN hBw m
        obtain ⟨wo, hwo⟩ : ∃ wo : World, wo = wr.drewN m := ⟨_, rfl⟩
        rw [← hwo] at hBw2 ⊢
        clear hwo hBw hix
        generalize hat : t + 1 + (mi - (z + 60 * k) - (t + 1)) % 1440 = at0
        have hat1 : t + 1 ≤ at0 := by omega
        have hat2 : at0 ≤ t + 1440 := by omega
        have HA : Hid ((at0 + (z + 60 * k)) % 1440 = mi) := (by omega : (at0 + (z + 60 * k)) % 1440 = mi)
        clear hat
        go_loopw [11, 16] (fun b x wr => ∃ at_ best : Int, x = i at_ ∧ b = i best ∧ t < at_ ∧ at_ ≤ 268440000 ∧ 0 ≤ best ∧ best ≤ 268435457 ∧ Hid (Cal.Best z s t days mi L k best) ∧ Hid (Cal.Seen z s t days mi (z + 60 * k) at_ best) ∧ Hid ((at_ + (z + 60 * k)) % 1440 = mi) ∧ Below (w.heap.size + 1) (w.alloc (.cells #[i z, .bool s] 33)) wr) (fun b x _ => (intOf b - intOf x).toNat)
        case atStart => exact ⟨at0, best, rfl, rfl, by omega, by omega, by omega, by omega, HB, Lib.hid (Cal.Seen.first z s t days mi _ _ _ HA.out hat2), HA, hBw2⟩
        case round =>
          clear HB HA hBw2 hb0 hb1 hat1 hat2
          obtain ⟨at_, best, rfl, rfl, ha1, ha2, hb0, hb1, HB, HS, HA, hBw2⟩ := hrel
          have hc : ∀ o, wr.cell? ⟨w.heap.size, o, none⟩ = (w.alloc (.cells #[i z, .bool s] 33)).cell? ⟨w.heap.size, o, none⟩ := fun o => hBw2.cell (p := ⟨w.heap.size, o, none⟩) (by simp)
          have htr : Tab wr := hta.below (hBw2.mono (by simp)) hta.lt
          have hsz : w.heap.size + 1 ≤ wr.heap.size := by have := hBw2.size; simpa using this
          by_cases hlt : at_ < best
          · by_cases ho : Cal.offs z s at_ = z + 60 * k
            · have hne : (Cal.offs z s at_ != z + 60 * k) = false := by simpa using ho
              have HO := Lib.hid ho
              clear ho
              by_cases hd : days = 0
              · have hd1 : (days == 0) = true := by simpa using hd
                have HD := Lib.hid hd
                clear hd
                go_wp2_with fail
                refine (offset _ _ _ _ htr).mono ?_
                rintro e w2 ⟨rfl, hb2⟩
                go_wp2_with (go_at_call 39; refine (divide _ _ _ (by omega) (by omega) (by omega) (by omega)).mono ?_; rintro e w' ⟨rfl, m, rfl⟩)
                go_roundw
                case rel =>
                  have hh : Cal.hit z s days mi at_ := ⟨by rw [HO.out]; exact HA.out, by rw [HD.out]; exact onD_zero _⟩
                  exact ⟨at_ + 1440, at_, rfl, rfl, by omega, by omega, by omega, by omega, Lib.hid (Cal.Best.less HB.out hlt ha1 hh), Lib.hid (fun v g1 g2 _ g4 => HS.out v g1 (by omega) g2 g4), (by have := HA.out; show (at_ + 1440 + (z + 60 * k)) % 1440 = mi; omega), below_drewN (hBw2.trans (hb2.mono hsz)) _⟩
                case measure => simp [intOf]; omega
              · have hd1 : (days == 0) = false := by simpa using hd
                have HD := Lib.hid hd
                clear hd
                have wb := Cal.wd_bd ((at_ + (z + 60 * k)) / 1440)
                go_wp2_with fail
                refine (offset _ _ _ _ htr).mono ?_
                rintro e w2 ⟨rfl, hb2⟩
                go_wp2_with (first | (go_at_call 39; refine (divide _ _ _ (by omega) (by omega) (by omega) (by omega)).mono ?_; rintro e w' ⟨rfl, m, rfl⟩) | (go_at_call 31; refine (weekday _ _ (by omega) (by omega)).mono ?_; rintro e w' ⟨rfl, m, rfl⟩))
                · go_roundw
                  case rel =>
                    have hon := onD_bits days _ h3 h4 wb.1 HD.out (by assumption)
                    have hh : Cal.hit z s days mi at_ := ⟨by rw [HO.out]; exact HA.out, by rw [HO.out]; exact hon⟩
                    exact ⟨at_ + 1440, at_, rfl, rfl, by omega, by omega, by omega, by omega, Lib.hid (Cal.Best.less HB.out hlt ha1 hh), Lib.hid (fun v g1 g2 _ g4 => HS.out v g1 (by omega) g2 g4), (by have := HA.out; show (at_ + 1440 + (z + 60 * k)) % 1440 = mi; omega), below_drewN (hBw2.trans (hb2.mono hsz)) _⟩
                  case measure => simp [intOf]; omega
                · go_roundw
                  case rel =>
                    have hon := onD_bits days _ h3 h4 wb.1 HD.out (by assumption)
                    have hh : ¬ Cal.hit z s days mi at_ := fun hx => by have := hx.2; rw [HO.out, hon] at this; cases this
                    exact ⟨at_ + 1440, best, rfl, rfl, by omega, by omega, by omega, by omega, HB, Lib.hid (Cal.Seen.miss HS.out HA.out (fun _ => hh)), (by have := HA.out; show (at_ + 1440 + (z + 60 * k)) % 1440 = mi; omega), below_drewN (hBw2.trans (hb2.mono hsz)) _⟩
                  case measure => simp [intOf]; omega
            · have hne : (Cal.offs z s at_ != z + 60 * k) = true := by simpa using ho
              have HO := Lib.hid ho
              clear ho
              go_wp2_with fail
              refine (offset _ _ _ _ htr).mono ?_
              rintro e w2 ⟨rfl, hb2⟩
              go_wp2_with fail
              go_roundw
              case rel => exact ⟨at_ + 1440, best, rfl, rfl, by omega, by omega, by omega, by omega, HB, Lib.hid (Cal.Seen.miss HS.out HA.out (fun e => absurd e HO.out)), (by have := HA.out; show (at_ + 1440 + (z + 60 * k)) % 1440 = mi; omega), hBw2.trans (hb2.mono hsz)⟩
              case measure => simp [intOf]; omega
          · go_wp2_with fail
            go_roundw
            case rel => exact ⟨k + 1, best, by omega, by omega, rfl, rfl, by omega, by omega, Lib.hid (Cal.Best.next HB.out HS.out (by omega)), hBw2⟩
            case measure => simp [intOf]; omega
      · obtain rfl : k = 2 := by omega
        have hsz : w.heap.size + 1 ≤ wr.heap.size := by have := hBw.size; simpa using this
        have HLL := HL
        clear HL
        by_cases hle : best ≤ L
        · have hx : best ≤ 268435456 := by omega
          have hy : best ≤ t + 11520 := by omega
          go_wp2_with fail
          go_ret2
          exact ⟨best, 0, rfl, Cal.Best.done_some HB.out hz hz' hle (by omega) (by omega), ((Below.refl _ _).alloc (Nat.le_refl _) _).trans (hBw.mono (by omega))⟩
        · have hx := HLL.out
          have hy : 268435456 < best ∨ t + 11520 < best := by omega
          have HX := Lib.hid hx
          clear hx
          go_wp2_with fail
          all_goals go_ret2
          all_goals first | (exfalso; have := HX.out; omega) | exact ⟨0, 8, rfl, Cal.Best.done_none HB.out hz hz' (by omega) HX.out, ((Below.refl _ _).alloc (Nat.le_refl _) _).trans (hBw.mono (by omega))⟩

set_option maxHeartbeats 800000 in
theorem next_inv (z : Int) (s : Bool) (t days mi : Int) (w : World) (h : ¬ (-840 ≤ z ∧ z ≤ 840 ∧ 0 ≤ days ∧ days ≤ 127 ∧ 0 ≤ mi ∧ mi ≤ 1439)) :
    Calls Tryd.prog 22 #[zone z s, i t, i days, i mi] w fun e w' => e = .returned (.tuple #[i 0, i 1]) ∧ Below w.heap.size w w' := by
  by_cases hz : -840 ≤ z ∧ z ≤ 840
  · obtain ⟨hz, hz'⟩ := hz
    go_enter Tryd.func22, Tryd.ntmps22
    go_wp2_with fail
    refine (validZone_yes _ _ _ hz hz').mono ?_
    rintro e w1 ⟨rfl, hb⟩
    go_wp2_with fail
    all_goals first | (exfalso; omega) | (go_ret2; exact ⟨rfl, ((Below.refl _ _).alloc (Nat.le_refl _) _).trans (hb.mono (by simp))⟩)
  · go_enter Tryd.func22, Tryd.ntmps22
    go_wp2_with fail
    refine (validZone_no _ _ _ hz).mono ?_
    rintro e w1 ⟨rfl, hb⟩
    go_wp2_with fail
    go_ret2
    exact ⟨rfl, ((Below.refl _ _).alloc (Nat.le_refl _) _).trans (hb.mono (by simp))⟩
set_option maxHeartbeats 800000 in
theorem next_no (z : Int) (s : Bool) (t days mi : Int) (w : World) (hz : -840 ≤ z) (hz' : z ≤ 840) (h3 : 0 ≤ days) (h4 : days ≤ 127) (h5 : 0 ≤ mi) (h6 : mi ≤ 1439) (h : ¬ (0 ≤ t ∧ t ≤ 268435456)) :
    Calls Tryd.prog 22 #[zone z s, i t, i days, i mi] w fun e w' => e = .returned (.tuple #[i 0, i 2]) ∧ Below w.heap.size w w' := by
  go_enter Tryd.func22, Tryd.ntmps22
  go_wp2_with fail
  refine (validZone_yes _ _ _ hz hz').mono ?_
  rintro e w1 ⟨rfl, hb⟩
  go_wp2_with (go_at_call 25; refine (isTime_no _ _ h).mono ?_; rintro e w' ⟨rfl, rfl⟩)
  go_ret2
  exact ⟨rfl, ((Below.refl _ _).alloc (Nat.le_refl _) _).trans (hb.mono (by simp))⟩
end CalW
end Go.Proofs.YtakpgoedijhpgaaDoor
