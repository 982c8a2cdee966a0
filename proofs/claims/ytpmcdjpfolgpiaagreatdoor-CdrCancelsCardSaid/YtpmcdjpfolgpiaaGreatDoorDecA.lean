/-
  The walks of fields.check and of the reader's integer (where the bytes are those of a number).
  The walks of slices.Clone on bytes and of the reader's data.
  The walks of fields.TakeInt, cdr.takeNumber, takeField, takeText where the bytes are right.
  The walk of fields.TakeList where the bytes are right.
-/
import Derived.Test.YtpmcdjpfolgpiaaGreatDoorEncP
import Derived.Test.YtpmcdjpfolgpiaaGreatDoorEncA
import Derived.Test.YtpmcdjpfolgpiaaGreatDoorEncE
import Derived.Lib.SliceRun
import Derived.Tactics
import Derived.Tactics2
import Derived.Defers
import Derived.Recover
import Derived.Laws.Pointers
import Derived.Laws.BytesArg
import Derived.Test.YtpmcdjpfolgpiaaGreatDoorBase
namespace Go.Proofs.YtpmcdjpfolgpiaaGreatDoor
namespace EncW
set_option linter.unusedSimpArgs false
set_option linter.unusedVariables false
open Go.RowKit MonW Enc

theorem check (e : Int) (w : World) : Calls Tryz.prog 69 #[.bool true, i e] w fun r w' => r = .returned (.tuple #[]) ∧ w = w' := by
  go_enter Tryz.func69, Tryz.ntmps69
  go_wp2_with fail
  go_end0
  exact ⟨rfl, rfl⟩

/-- A reader's bytes. -/
def RdAt (w : World) (R : Nat) (xs : List Int) : Prop := ∃ u, Blk w R 120 #[u] ∧ Data w u xs
theorem or_acc (u jj : Nat) (h : u < 18446744073709551616) (x d a : Nat) (hd : u / 128 ^ jj % 128 = d) (ha : u % 128 ^ jj = a) (hx : bits .and .u8 (x : Int) 127 = ((d : Nat) : Int)) :
    bits .or .u64 (a : Int) (IntKind.u64.wrap (IntKind.u64.wrap (bits .and .u8 (x : Int) 127) * 2 ^ (7 * jj))) = ((u % 128 ^ (jj + 1) : Nat) : Int) := by
  subst hd ha
  have hp : (0 : Nat) < 128 ^ jj := Nat.pow_pos (by decide)
  have hlt : u % 128 ^ jj < 128 ^ jj := Nat.mod_lt _ hp
  have e := acc_step u jj
  have h1 : u % 128 ^ (jj + 1) ≤ u := Nat.mod_le _ _
  have h2 : 128 ^ jj * (u / 128 ^ jj % 128) < 18446744073709551616 := by omega
  have h3 : u % 128 ^ jj < 18446744073709551616 := by omega
  have h4 : u / 128 ^ jj % 128 < 128 := Nat.mod_lt _ (by decide)
  have e2 : ((2 : Int) ^ (7 * jj)) = ((128 ^ jj : Nat) : Int) := by rw [Int.pow_mul]; simp
  have o := or_step (u % 128 ^ jj) (u / 128 ^ jj % 128) jj hlt
  rw [Nat.mul_comm] at h2
  rw [hx, e2, e, Nat.mul_comm, ← o, wrapU, wrapU]
  generalize u / 128 ^ jj % 128 = d at *
  generalize u % 128 ^ jj = a at *
  generalize 128 ^ jj = p at *
  have e3 : ((d : Int) % 18446744073709551616 * (p : Int)) % 18446744073709551616 = ((d * p : Nat) : Int) := by
    rw [show (d : Int) % 18446744073709551616 = d from Int.emod_eq_of_lt (by omega) (by omega), ← Int.natCast_mul, Int.emod_eq_of_lt (by omega) (by omega)]
  rw [e3]
  exact bits_or_u64_nat a (d * p) h3 h2
theorem low7 : ∀ x : Nat, x < 256 → bits .and .u8 (x : Int) 127 = ((x % 128 : Nat) : Int) := by decide +kernel
theorem Data.split {w : World} {A : Option Addr} {n c : Nat} {xs ys : List Int} (h : Data w (.slice A n c) (xs ++ ys)) (hx : 0 < xs.length) : ∃ b off cs fz, A = some ⟨b, off, none⟩ ∧ n = xs.length + ys.length ∧ n ≤ c ∧ c ≤ maxLen ∧ w.heap[b]? = some (.cells cs 5 fz) ∧ (∀ j x, (xs ++ ys)[j]? = some x → cs[off + j]? = some (.int .u8 x)) ∧ (∀ x ∈ xs ++ ys, 0 ≤ x ∧ x ≤ 255) := by
  obtain ⟨A', c', e, h1, h2, h3, h4, h5⟩ := h
  cases e
  rcases h5 with h5 | ⟨b, off, cs, fz, rfl, e2, e3⟩
  · have := congrArg List.length h5
    rw [List.length_append, List.length_nil] at this
    omega
  · exact ⟨b, off, cs, fz, rfl, by simp, h1, h2, e2, e3, h4⟩
theorem Data.tail {w : World} {b off c k : Nat} {cs : Array Value} {fz : Nat × Nat} {xs ys : List Int} (hb : w.heap[b]? = some (.cells cs 5 fz)) (hc : xs.length + ys.length ≤ c) (hm : c ≤ maxLen) (hk : xs.length = k) (hat : ∀ j x, (xs ++ ys)[j]? = some x → cs[off + j]? = some (.int .u8 x)) (hr : ∀ x ∈ xs ++ ys, 0 ≤ x ∧ x ≤ 255) : Data w (.slice (some ⟨b, off + k, none⟩) ys.length (c - k)) ys := by
  subst hk
  refine ⟨_, _, rfl, by omega, by omega, fun e => (by cases e), fun x hx => hr x (List.mem_append_right _ hx), .inr ⟨b, off + xs.length, cs, fz, rfl, hb, fun j x hj => ?_⟩⟩
  rw [Nat.add_assoc]
  exact hat (xs.length + j) x (by rw [List.getElem?_append_right (by omega)]; simpa using hj)
theorem cell_of {w : World} {b j : Nat} {cs : Array Value} {t : TypeId} {fz : Nat × Nat} {v : Value} (h : w.heap[b]? = some (.cells cs t fz)) (hv : cs[j]? = some v) : w.cell? ⟨b, j, none⟩ = some v := by
  simp [World.cell?, h, hv]
theorem bytes_app {xs ys : List Int} {u : Nat} (hx : xs = encU u) {k : Nat} (hk : k < (encU u).length) : (xs ++ ys)[k]? = some (if k + 1 < (encU u).length then ((u / 128 ^ k % 128 + 128 : Nat) : Int) else ((u / 128 ^ k : Nat) : Int)) := by
  subst hx
  rw [List.getElem?_append_left hk, List.getElem?_eq_getElem hk, encU_at u u (Nat.le_refl _) k hk]

theorem byte_at {w : World} {b off kk u : Nat} (h : ∀ k, k < kk + 1 → w.cell? ⟨b, off + k, none⟩ = some (.int .u8 (if k + 1 < kk + 1 then ((u / 128 ^ k % 128 + 128 : Nat) : Int) else ((u / 128 ^ k : Nat) : Int)))) (ht : u < 128 ^ (kk + 1)) (jj : Nat) (hj : jj < kk + 1) :
    ∃ x : Nat, w.cell? ⟨b, off + jj, none⟩ = some (.int .u8 (x : Int)) ∧ bits .and .u8 (x : Int) 127 = ((u / 128 ^ jj % 128 : Nat) : Int) := by
  have h1 := h jj hj
  by_cases hl : jj + 1 < kk + 1
  · rw [if_pos hl] at h1
    refine ⟨_, h1, ?_⟩
    rw [low7 _ (by have := Nat.mod_lt (u / 128 ^ jj) (show 0 < 128 by decide); omega)]
    simp
  · rw [if_neg hl] at h1
    refine ⟨_, h1, ?_⟩
    obtain rfl : jj = kk := by omega
    have h2 : u / 128 ^ jj < 128 := Nat.div_lt_of_lt_mul (by rw [Nat.pow_succ] at ht; exact ht)
    exact low7 _ (by omega)
theorem xor_i64 (a : Nat) (h : a < 9223372036854775808) : bits .xor .i64 (a : Int) 0 = (a : Int) ∧ bits .xor .i64 (a : Int) (-1) = -(a : Int) - 1 := by
  have h1 : (BitVec.ofInt 64 (a : Int)).toNat = a := by
    rw [BitVec.ofInt_natCast, BitVec.toNat_ofNat]; exact Nat.mod_eq_of_lt (by omega)
  constructor
  · show IntKind.i64.wrap ((BitVec.ofInt 64 (a : Int) ^^^ BitVec.ofInt 64 0).toNat : Int) = _
    rw [show BitVec.ofInt 64 0 = 0#64 from rfl, BitVec.xor_zero, h1]
    exact IntWalk.i64_in _ (by omega)
  · show IntKind.i64.wrap ((BitVec.ofInt 64 (a : Int) ^^^ BitVec.ofInt 64 (-1)).toNat : Int) = _
    rw [show BitVec.ofInt 64 (-1) = BitVec.allOnes 64 from by decide, BitVec.xor_allOnes, BitVec.toNat_not, h1]
    simp [IntKind.wrap, IntKind.bits, IntKind.signed]
    omega
theorem unzz {n : Int} {u : Nat} (h : zz n = u) (hn : I64 n) : bits BinOp.xor IntKind.i64 ((u : Int) / 2) (wrap64 (-wrap64 (bits BinOp.and IntKind.u64 (u : Int) 1))) = n := by
  unfold I64 at hn
  have hu : u < 18446744073709551616 := by rw [← h]; exact zz_lt hn
  have e := bits_and_u64_nat u 1 hu (by decide)
  rw [show ((1 : Nat) : Int) = 1 from rfl, show (1 : Nat) = 2 ^ 1 - 1 from rfl, Nat.and_two_pow_sub_one_eq_mod] at e
  rw [e]
  have e2 : ((u : Int) / 2) = ((u / 2 : Nat) : Int) := by omega
  rw [e2]
  obtain ⟨x1, x2⟩ := xor_i64 (u / 2) (by omega)
  unfold zz at h
  by_cases h0 : 0 ≤ n
  · rw [if_pos h0] at h
    have e3 : u % 2 ^ 1 = 0 := by omega
    rw [e3]
    rw [show wrap64 (-wrap64 ((0 : Nat) : Int)) = 0 from by decide +kernel, x1]
    omega
  · rw [if_neg h0] at h
    have e3 : u % 2 ^ 1 = 1 := by omega
    rw [e3]
    rw [show wrap64 (-wrap64 ((1 : Nat) : Int)) = -1 from by decide +kernel, x2]
    omega
theorem end0 {w : World} {R b off m c : Nat} {ys : List Int} (hk : Blk w R 120 #[.slice (some ⟨b, off, none⟩) m c]) (h : ys.length = 0) : RdAt (w.setCell ⟨R, 0, none⟩ (.slice (some ⟨b, off, none⟩) 0 0)) R ys := by
  obtain rfl := List.eq_nil_of_length_eq_zero h
  exact ⟨_, by simpa using hk.set_ 0 (.slice (some ⟨b, off, none⟩) 0 0), _, 0, rfl, Nat.le_refl _, by decide, fun e => (by cases e), fun x hx => (by cases hx), .inl rfl⟩
theorem end1 {w : World} {R b off m c k u : Nat} {n : Int} {cs : Array Value} {fz : Nat × Nat} {ys : List Int} (hk : Blk w R 120 #[.slice (some ⟨b, off, none⟩) m c]) (hb : w.heap[b]? = some (.cells cs 5 fz)) (hm : k + 1 + ys.length = m) (hxe : encI n = encU u) (hkk : (encU u).length = k + 1) (hc : m ≤ c) (hmax : c ≤ maxLen) (hcat : ∀ j x, (encI n ++ ys)[j]? = some x → cs[off + j]? = some (.int .u8 x)) (hr : ∀ x ∈ encI n ++ ys, 0 ≤ x ∧ x ≤ 255) :
    RdAt (w.setCell ⟨R, 0, none⟩ (.slice (some ⟨b, off + (k + 1), none⟩) (m - (k + 1)) (c - (k + 1)))) R ys := by
  have e : m - (k + 1) = ys.length := by omega
  rw [e]
  refine ⟨_, by simpa using hk.set_ 0 (.slice (some ⟨b, off + (k + 1), none⟩) ys.length (c - (k + 1))), ?_⟩
  refine Data.keep (Data.tail hb (by rw [hxe, hkk]; omega) hmax (by rw [hxe, hkk]) hcat hr) (grownBy_setCell' w R _) (fun k e => ?_)
  cases e
  exact ⟨_, _, _, hk, by decide⟩
set_option maxRecDepth 100000 in
set_option maxHeartbeats 1000000 in
theorem integer (R : Nat) (n : Int) (ys : List Int) (w : World) (h : RdAt w R (encI n ++ ys)) (hn : I64 n) :
    Calls Tryz.prog 70 #[.pointer (some ⟨R, 0, none⟩)] w fun e w' => e = .returned (i n) ∧ RdAt w' R ys ∧ (∀ k, k ≠ R → w'.heap[k]? = w.heap[k]?) ∧ Below R w w' := by
  obtain ⟨u0, hk, hdat⟩ := h
  obtain ⟨A, c, rfl⟩ := Data.slice hdat
  obtain ⟨b, off, cs, fz, rfl, hlen, hcap, hmax, hheap, hcat, hrng⟩ := Data.split hdat (encU_pos _)
  have hat := fun j x hj => cell_of hheap (hcat j x hj)
  have HHP := Lib.hid hheap
  have HCAT := Lib.hid hcat
  have HRNG := Lib.hid hrng
  clear hdat hheap hcat hrng hlen
  have hzl := zz_lt hn
  obtain ⟨u, hu⟩ : ∃ u, zz n = u := ⟨_, rfl⟩
  have hxe : encI n = encU u := by unfold encI; rw [hu]
  rw [hu] at hzl
  have hten := encU_ten hzl
  have HZL := Lib.hid hzl
  have htop := encU_top u u (Nat.le_refl _)
  have hpos := encU_pos u
  have HAPP := fun k hk => hat k _ (bytes_app (ys := ys) hxe (k := k) hk)
  rw [List.length_append, hxe] at hk
  rw [List.length_append, hxe] at hcap
  obtain ⟨K, hK⟩ : ∃ K, (encU u).length = K + 1 := ⟨_, (Nat.sub_add_cancel hpos).symm⟩
  rw [hK] at hk hcap hten htop HAPP
  rw [Nat.add_sub_cancel] at htop
  have hc0 := hk.cell 0
  simp at hc0
  have HK := Lib.hid hk
  have HF := Lib.hid hk.frozen
  have HAP := Lib.hid HAPP
  have HTOP := Lib.hid htop
  have HAT := Lib.hid hat
  have HXE := Lib.hid hxe
  have HKK := Lib.hid hK
  have HU := Lib.hid hu
  clear hk HAPP htop hat hxe hK hu hpos
  generalize hm : K + 1 + ys.length = m at *
  have HMM := Lib.hid hm
  clear hm
  have hmm := HMM.out
  go_enter Tryz.func70, Tryz.ntmps70
  go_wp2_with fail
  go_loopg [3] K (fun gg s3 wr => ∃ kk : Nat, kk ≤ K ∧ K - kk ≤ gg ∧ s3 = i kk ∧ wr = w)
  case atStart => exact ⟨0, Nat.zero_le _, by omega, rfl, rfl⟩
  case round =>
    obtain ⟨kk, hkk, hg, rfl, hwr⟩ := hrel
    subst wr
    have hltz : (kk : Int) < (m : Int) := by omega
    have h10 : (kk : Int) < 10 := by omega
    have hk0 : (0 : Int) ≤ (kk : Int) := by omega
    have l0 := HAP.out kk (by omega)
    by_cases hlt : kk < K
    · rw [if_pos (by omega)] at l0
      have hx : (128 : Int) ≤ ((u / 128 ^ kk % 128 + 128 : Nat) : Int) := by omega
      generalize ((u / 128 ^ kk % 128 + 128 : Nat) : Int) = xb at *
      go_wp2_with fail
      go_roundg (K - (kk + 1))
      case measure => omega
      case rel => exact ⟨kk + 1, by omega, by omega, by go_num, rfl⟩
    · obtain rfl : kk = K := by omega
      rw [if_neg (by omega)] at l0
      have hx : ¬ (128 : Int) ≤ ((u / 128 ^ kk : Nat) : Int) := by
        have h1 := HTOP.out.1
        rw [Nat.pow_succ] at h1
        have : u / 128 ^ kk < 128 := Nat.div_lt_of_lt_mul h1
        omega
      have hway : (((u / 128 ^ kk : Nat) : Int) ≠ 0 ∧ kk < 9) ∨ (((u / 128 ^ kk : Nat) : Int) = 0 ∧ kk = 0) ∨ (((u / 128 ^ kk : Nat) : Int) ≠ 0 ∧ kk = 9 ∧ ((u / 128 ^ kk : Nat) : Int) ≤ 1) := by
        by_cases h0 : kk = 0
        · subst h0
          by_cases h1 : ((u / 128 ^ 0 : Nat) : Int) = 0
          · exact .inr (.inl ⟨h1, rfl⟩)
          · exact .inl ⟨h1, by omega⟩
        · have h2 := HTOP.out.2 (by omega)
          have h3 : 0 < u / 128 ^ kk := Nat.div_pos h2 (Nat.pow_pos (by decide))
          by_cases h9 : kk < 9
          · exact .inl ⟨by omega, h9⟩
          · have hk9 : kk = 9 := by omega
            subst hk9
            have h4 : u / 128 ^ 9 < 2 := Nat.div_lt_of_lt_mul (by omega)
            exact .inr (.inr ⟨by omega, rfl, by omega⟩)
      have HXB := Lib.hid (show (u / 128 ^ kk : Nat) < 128 by omega)
      have HXV : Hid (((u / 128 ^ kk : Nat) : Int) = ((u / 128 ^ kk : Nat) : Int)) := rfl
      obtain ⟨xb, hxb⟩ : ∃ xb, ((u / 128 ^ kk : Nat) : Int) = xb := ⟨_, rfl⟩
      rw [hxb] at l0 hx hway
      have HXB2 := Lib.hid hxb
      clear hxb HXV
      obtain ⟨b1, b2, b3, e1, e2, e3, e4⟩ : ∃ b1 b2 b3 : Bool, (xb != 0) = b1 ∧ ((kk : Int) == 0) = b2 ∧ decide ((kk : Int) < 9) = b3 ∧ ((b1 = true ∧ b3 = true) ∨ (b1 = false ∧ b2 = true ∧ b3 = true) ∨ (b1 = true ∧ b3 = false ∧ xb ≤ 1)) := by
        refine ⟨_, _, _, rfl, rfl, rfl, ?_⟩
        rcases hway with ⟨a1, a2⟩ | ⟨a1, a2⟩ | ⟨a1, a2, a3⟩
        · exact .inl ⟨by simpa using a1, by simp; omega⟩
        · exact .inr (.inl ⟨by simp [a1], by simp [a2], by simp; omega⟩)
        · exact .inr (.inr ⟨by simpa using a1, by simp; omega, a3⟩)
      have e5 : decide (kk < 9) = b3 := by rw [← e3]; exact decide_eq_decide.2 (by omega)
      have hcs : (kk : Int) + 1 ≤ (c : Int) := by omega
      have hw1 : IntKind.i64.wrap ((kk : Int) + 1) = (kk : Int) + 1 := IntWalk.i64_in _ (by omega)
      clear hway
      rcases e4 with ⟨rfl, rfl⟩ | ⟨rfl, rfl, rfl⟩ | ⟨rfl, rfl, hx1⟩
      · go_wp2_with fail
        refine (check _ _).mono ?_
        rintro e _ ⟨rfl, rfl⟩
        go_wp2_with fail
        refine (check _ _).mono ?_
        rintro e _ ⟨rfl, rfl⟩
        go_wp2_with fail
        refine (check _ _).mono ?_
        rintro e _ ⟨rfl, rfl⟩
        go_wp2_with fail
        refine (check _ _).mono ?_
        rintro e _ ⟨rfl, rfl⟩
        go_wp2_with fail
        go_loopg [5, 71] (kk + 1) (fun gg s5 s71 wr => ∃ (jj a : Nat), jj ≤ kk + 1 ∧ kk + 1 - jj ≤ gg ∧ Hid (u % 128 ^ jj = a) ∧ s5 = .int .u64 (a : Int) ∧ s71 = i jj ∧ wr = w)
        case atStart => exact ⟨0, 0, Nat.zero_le _, by omega, by show _ = _; simp [Nat.mod_one], rfl, rfl, rfl⟩
        case round =>
          obtain ⟨jj, a, hjj, hg2, HA, rfl, rfl, hwr2⟩ := hrel
          subst wr
          by_cases hlt2 : jj < kk + 1
          · obtain ⟨x, l1, hx1⟩ := byte_at HAP.out HTOP.out.1 jj hlt2
            have hacc := or_acc u jj HZL.out x _ a rfl HA.out hx1
            have HACC := Lib.hid hacc
            clear hacc hx1
            have hlt3 : (jj : Int) < (kk : Int) + 1 := by omega
            have hj0 : (0 : Int) ≤ (jj : Int) := by omega
            have hj7 : IntKind.i64.wrap (7 * (jj : Int)) = 7 * (jj : Int) := IntWalk.i64_in _ (by omega)
            go_wp2_with fail
            rw [HACC.out]
            go_roundg (kk + 1 - (jj + 1))
            case measure => omega
            case rel => exact ⟨jj + 1, _, by omega, Nat.le_refl _, rfl, rfl, by go_num, rfl⟩
          · obtain rfl : jj = kk + 1 := by omega
            rw [← HA.out, Nat.mod_eq_of_lt HTOP.out.1]
            have HW := Lib.hid (unzz HU.out hn)
            have f0 := HF.out
            by_cases hcz : c = kk + 1
            · have hmz : m = kk + 1 := by omega
              subst hcz
              go_wp2_with fail
              rw [HW.out]
              go_ret
              exact ⟨rfl, end0 HK.out (by omega), fun k hk => (Below.heap_setCell w ⟨R, 0, none⟩ _ k hk), (Below.refl R w).setCell (p := ⟨R, 0, none⟩) (Nat.le_refl _) _⟩
            · go_wp2_with fail
              rw [HW.out]
              go_ret
              exact ⟨rfl, end1 HK.out HHP.out HMM.out HXE.out HKK.out (by omega) hmax HCAT.out HRNG.out, fun k hk => (Below.heap_setCell w ⟨R, 0, none⟩ _ k hk), (Below.refl R w).setCell (p := ⟨R, 0, none⟩) (Nat.le_refl _) _⟩
      · go_wp2_with fail
        refine (check _ _).mono ?_
        rintro e _ ⟨rfl, rfl⟩
        go_wp2_with fail
        refine (check _ _).mono ?_
        rintro e _ ⟨rfl, rfl⟩
        go_wp2_with fail
        refine (check _ _).mono ?_
        rintro e _ ⟨rfl, rfl⟩
        go_wp2_with fail
        refine (check _ _).mono ?_
        rintro e _ ⟨rfl, rfl⟩
        go_wp2_with fail
        go_loopg [5, 71] (kk + 1) (fun gg s5 s71 wr => ∃ (jj a : Nat), jj ≤ kk + 1 ∧ kk + 1 - jj ≤ gg ∧ Hid (u % 128 ^ jj = a) ∧ s5 = .int .u64 (a : Int) ∧ s71 = i jj ∧ wr = w)
        case atStart => exact ⟨0, 0, Nat.zero_le _, by omega, by show _ = _; simp [Nat.mod_one], rfl, rfl, rfl⟩
        case round =>
          obtain ⟨jj, a, hjj, hg2, HA, rfl, rfl, hwr2⟩ := hrel
          subst wr
          by_cases hlt2 : jj < kk + 1
          · obtain ⟨x, l1, hx1⟩ := byte_at HAP.out HTOP.out.1 jj hlt2
            have hacc := or_acc u jj HZL.out x _ a rfl HA.out hx1
            have HACC := Lib.hid hacc
            clear hacc hx1
            have hlt3 : (jj : Int) < (kk : Int) + 1 := by omega
            have hj0 : (0 : Int) ≤ (jj : Int) := by omega
            have hj7 : IntKind.i64.wrap (7 * (jj : Int)) = 7 * (jj : Int) := IntWalk.i64_in _ (by omega)
            go_wp2_with fail
            rw [HACC.out]
            go_roundg (kk + 1 - (jj + 1))
            case measure => omega
            case rel => exact ⟨jj + 1, _, by omega, Nat.le_refl _, rfl, rfl, by go_num, rfl⟩
          · obtain rfl : jj = kk + 1 := by omega
            rw [← HA.out, Nat.mod_eq_of_lt HTOP.out.1]
            have HW := Lib.hid (unzz HU.out hn)
            have f0 := HF.out
            by_cases hcz : c = kk + 1
            · have hmz : m = kk + 1 := by omega
              subst hcz
              go_wp2_with fail
              rw [HW.out]
              go_ret
              exact ⟨rfl, end0 HK.out (by omega), fun k hk => (Below.heap_setCell w ⟨R, 0, none⟩ _ k hk), (Below.refl R w).setCell (p := ⟨R, 0, none⟩) (Nat.le_refl _) _⟩
            · go_wp2_with fail
              rw [HW.out]
              go_ret
              exact ⟨rfl, end1 HK.out HHP.out HMM.out HXE.out HKK.out (by omega) hmax HCAT.out HRNG.out, fun k hk => (Below.heap_setCell w ⟨R, 0, none⟩ _ k hk), (Below.refl R w).setCell (p := ⟨R, 0, none⟩) (Nat.le_refl _) _⟩
      · go_wp2_with fail
        refine (check _ _).mono ?_
        rintro e _ ⟨rfl, rfl⟩
        go_wp2_with fail
        refine (check _ _).mono ?_
        rintro e _ ⟨rfl, rfl⟩
        go_wp2_with fail
        refine (check _ _).mono ?_
        rintro e _ ⟨rfl, rfl⟩
        go_wp2_with fail
        refine (check _ _).mono ?_
        rintro e _ ⟨rfl, rfl⟩
        go_wp2_with fail
        go_loopg [5, 71] (kk + 1) (fun gg s5 s71 wr => ∃ (jj a : Nat), jj ≤ kk + 1 ∧ kk + 1 - jj ≤ gg ∧ Hid (u % 128 ^ jj = a) ∧ s5 = .int .u64 (a : Int) ∧ s71 = i jj ∧ wr = w)
        case atStart => exact ⟨0, 0, Nat.zero_le _, by omega, by show _ = _; simp [Nat.mod_one], rfl, rfl, rfl⟩
        case round =>
          obtain ⟨jj, a, hjj, hg2, HA, rfl, rfl, hwr2⟩ := hrel
          subst wr
          by_cases hlt2 : jj < kk + 1
          · obtain ⟨x, l1, hx1⟩ := byte_at HAP.out HTOP.out.1 jj hlt2
            have hacc := or_acc u jj HZL.out x _ a rfl HA.out hx1
            have HACC := Lib.hid hacc
            clear hacc hx1
            have hlt3 : (jj : Int) < (kk : Int) + 1 := by omega
            have hj0 : (0 : Int) ≤ (jj : Int) := by omega
            have hj7 : IntKind.i64.wrap (7 * (jj : Int)) = 7 * (jj : Int) := IntWalk.i64_in _ (by omega)
            go_wp2_with fail
            rw [HACC.out]
            go_roundg (kk + 1 - (jj + 1))
            case measure => omega
            case rel => exact ⟨jj + 1, _, by omega, Nat.le_refl _, rfl, rfl, by go_num, rfl⟩
          · obtain rfl : jj = kk + 1 := by omega
            rw [← HA.out, Nat.mod_eq_of_lt HTOP.out.1]
            have HW := Lib.hid (unzz HU.out hn)
            have f0 := HF.out
            by_cases hcz : c = kk + 1
            · have hmz : m = kk + 1 := by omega
              subst hcz
              go_wp2_with fail
              rw [HW.out]
              go_ret
              exact ⟨rfl, end0 HK.out (by omega), fun k hk => (Below.heap_setCell w ⟨R, 0, none⟩ _ k hk), (Below.refl R w).setCell (p := ⟨R, 0, none⟩) (Nat.le_refl _) _⟩
            · go_wp2_with fail
              rw [HW.out]
              go_ret
              exact ⟨rfl, end1 HK.out HHP.out HMM.out HXE.out HKK.out (by omega) hmax HCAT.out HRNG.out, fun k hk => (Below.heap_setCell w ⟨R, 0, none⟩ _ k hk), (Below.refl R w).setCell (p := ⟨R, 0, none⟩) (Nat.le_refl _) _⟩
end EncW
end Go.Proofs.YtpmcdjpfolgpiaaGreatDoor

namespace Go.Proofs.YtpmcdjpfolgpiaaGreatDoor
namespace EncW
set_option linter.unusedSimpArgs false
set_option linter.unusedVariables false
open Go.RowKit MonW Enc

theorem own_empty {base : Nat} {w : World} (h : base ≤ w.heap.size) : OwnB base (w.alloc (.cells #[] 5)) (.slice (some ⟨w.heap.size, 0, none⟩) 0 0) [] := by
  refine ⟨[], ⟨rfl, .inr ⟨w.heap.size, 0, #[], rfl, h, Blk.new w _ _, Nat.zero_le _, by unfold maxLen; omega, rfl, rfl⟩⟩, rfl, fun j r x hr => (by cases hr)⟩

set_option maxRecDepth 100000 in
set_option maxHeartbeats 1000000 in
theorem clone (u : Value) (d : List Int) (w : World) (h : Data w u d) (hd : d ≠ []) (hl : d.length ≤ 1000000) :
    Calls Tryz.prog 89 #[u] w fun e w' => ∃ v, e = .returned v ∧ OwnB w.heap.size w' v d ∧ Below w.heap.size w w' := by
  obtain ⟨i0, hi0, hz0, hz1, hz2⟩ := info_parts infoB
  obtain ⟨A, c, rfl⟩ := Data.slice h
  obtain ⟨b, off, cs, fz, rfl, -, -, -, -, -, -⟩ := Data.split (xs := d) (ys := []) (by simpa using h) (List.length_pos_iff.2 hd)
  have HD := Lib.hid (Data.call h (below_new w (.cells #[] 5)))
  have HN := Lib.hid hd
  clear h hd
  have qT : ∀ (w : World) (a : Option Addr) (n c n' c' : Nat), (binOp .eql 48 (.slice a n c) (.slice none n' c')).run Tryz.prog w = .ok (.bool a.isNone) w := fun w a n c n' c' => Lib.run_eql_slice_nil _ _ _ _ _ _ _ _ Tryz.underlying48
  go_enter Tryz.func89, Tryz.ntmps89
  go_wp2_with (at_builtin; refine wpList_data rfl (.tmp 5) (.tmp 6) 48 rfl i0 _ Tryz.underlying48 hi0 hz0 hz1 hz2 rfl rfl (own_empty (Nat.le_refl _)) rfl HD.out HN.out (by simp; omega) (by simp) ?_)
  rintro v' w3 hown hbel ⟨A2, n2, c2, rfl⟩
  have HO := Lib.hid hown
  have HB := Lib.hid ((below_new w (.cells #[] 5)).trans hbel)
  clear hown hbel
  go_wp2_with fail
  go_ret
  exact ⟨_, rfl, by simpa using HO.out, HB.out⟩
theorem endD {w : World} {R b off m c k : Nat} {xs ys : List Int} (hk : Blk w R 120 #[.slice (some ⟨b, off, none⟩) m c]) (hd : Data w (.slice (some ⟨b, off, none⟩) m c) (xs ++ ys)) (he : xs.length = k) (h0 : 0 < k) :
    RdAt (w.setCell ⟨R, 0, none⟩ (.slice (some ⟨b, off + k, none⟩) (m - k) (c - k))) R ys := by
  obtain ⟨b', off', cs, fz, e, e1, e2, e3, e4, e5, e6⟩ := Data.split hd (by omega)
  cases e
  have e7 : m - k = ys.length := by omega
  rw [e7]
  refine ⟨_, by simpa using hk.set_ 0 (.slice (some ⟨b, off + k, none⟩) ys.length (c - k)), ?_⟩
  refine Data.keep (Data.tail e4 (by omega) e3 he e5 e6) (grownBy_setCell' w R _) (fun k e => ?_)
  cases e
  exact ⟨_, _, _, hk, by decide⟩
theorem Data.head {w : World} {b off m c k : Nat} {xs ys : List Int} (hd : Data w (.slice (some ⟨b, off, none⟩) m c) (xs ++ ys)) (he : xs.length = k) (h0 : 0 < k) : Data w (.slice (some ⟨b, off, none⟩) k k) xs := by
  obtain ⟨b', off', cs, fz, e, e1, e2, e3, e4, e5, e6⟩ := Data.split hd (by omega)
  cases e
  subst he
  exact ⟨_, _, rfl, Nat.le_refl _, by omega, fun e => (by cases e), fun x hx => e6 x (List.mem_append_left _ hx), .inr ⟨b, off, cs, fz, rfl, e4, fun j x hj => e5 j x (by
    have := (List.getElem?_eq_some_iff.1 hj).1
    rw [List.getElem?_append_left this]; exact hj)⟩⟩

theorem ownB_base {base base' : Nat} {w : World} {v : Value} {xs : List Int} (h : OwnB base w v xs) (hb : base' ≤ base) : OwnB base' w v xs := by
  obtain ⟨rs, h1, h2⟩ := h
  exact ⟨rs, ownsRow_base h1 hb, h2⟩
theorem ownB_set {base : Nat} {w : World} {v : Value} {xs : List Int} {R : Nat} {cs : Array Value} (h : OwnB base w v xs) (hk : Blk w R 120 cs) (u : Value) : OwnB base (w.setCell ⟨R, 0, none⟩ u) v xs :=
  OwnB.keep h (grownBy_setCell' w R u) (fun k e => by cases e; exact ⟨_, _, _, hk, by decide⟩)
theorem far_chain {w w1 w2 : World} {R k : Nat} (hs : ∀ k, k ≠ R → w1.heap[k]? = w.heap[k]?) (hb : Below w1.heap.size w1 w2) (hz : w.heap.size ≤ w1.heap.size) (h1 : k < w.heap.size) (h2 : k ≠ R) (u : Value) : (w2.setCell ⟨R, 0, none⟩ u).heap[k]? = w.heap[k]? :=
  (Below.heap_setCell w2 ⟨R, 0, none⟩ u k h2).trans ((hb.block k (by omega)).trans (hs k h2))
theorem far_below {w w1 w2 : World} {R : Nat} (h1 : Below R w w1) (hb : Below w1.heap.size w1 w2) (hz : w.heap.size ≤ w1.heap.size) (hr : R < w.heap.size) (u : Value) : Below R w (w2.setCell ⟨R, 0, none⟩ u) :=
  (h1.trans (hb.mono (by omega))).setCell (p := ⟨R, 0, none⟩) (Nat.le_refl _) u

set_option maxRecDepth 100000 in
set_option maxHeartbeats 1000000 in
theorem data (R : Nat) (d ys : List Int) (w : World) (h : RdAt w R (encI d.length ++ (d ++ ys))) (hd : d ≠ []) (hl : d.length ≤ 1000000) :
    Calls Tryz.prog 71 #[.pointer (some ⟨R, 0, none⟩)] w fun e w' => ∃ v, e = .returned v ∧ OwnB w.heap.size w' v d ∧ RdAt w' R ys ∧ (∀ k, k < w.heap.size → k ≠ R → w'.heap[k]? = w.heap[k]?) ∧ Below R w w' := by
  have HI := Lib.hid (integer R d.length (d ++ ys) w h (by unfold I64; omega))
  have hr : R < w.heap.size := by obtain ⟨u, hk, _⟩ := h; exact hk.lt
  have hdl := List.length_pos_iff.2 hd
  have HN := Lib.hid hd
  clear h hd
  go_enter Tryz.func71, Tryz.ntmps71
  go_wp2_with fail
  refine HI.out.mono ?_
  rintro e w1 ⟨rfl, ⟨u, hk, hd⟩, hsame, hbel⟩
  obtain ⟨A, c, rfl⟩ := Data.slice hd
  obtain ⟨b, off, cs, fz, rfl, hlen, hcap, hmax, hheap, hcat, hrng⟩ := Data.split hd hdl
  generalize hm : (d ++ ys).length = m at *
  have hc0 := hk.cell 0
  simp at hc0
  have hfr := hk.frozen
  have HK := Lib.hid hk
  have HD := Lib.hid hd
  have HS := Lib.hid hsame
  have HB := Lib.hid hbel
  have HC := Lib.hid (clone _ d w1 (Data.head hd rfl hdl) HN.out hl)
  have HSZ := Lib.hid hbel.size
  clear hk hd hsame hbel hheap hcat hrng hm
  have hge : (0 : Int) ≤ (d.length : Int) := by omega
  have hle : (d.length : Int) ≤ (m : Int) := by omega
  have hlc : (d.length : Int) ≤ (c : Int) := by omega
  have HLEN := Lib.hid hlen
  clear hlen
  go_wp2_with fail
  refine (check _ _).mono ?_
  rintro e _ ⟨rfl, rfl⟩
  go_wp2_with fail
  refine (check _ _).mono ?_
  rintro e _ ⟨rfl, rfl⟩
  go_wp2_with fail
  refine HC.out.mono ?_
  rintro e w2 ⟨v, rfl, hown, hb2⟩
  have hk2 : Blk w2 R 120 #[.slice (some ⟨b, off, none⟩) m c] := (hb2.block R HK.out.lt).trans HK.out
  have hd2 := Data.call HD.out hb2
  have hc2 := hk2.cell 0
  simp at hc2
  have hf2 := hk2.frozen
  have HK2 := Lib.hid hk2
  have HD2 := Lib.hid hd2
  have HO := Lib.hid (ownB_base hown HSZ.out)
  have HB2 := Lib.hid hb2
  clear hk2 hd2 hown hb2
  by_cases hcz : c = d.length
  · have hmz : m = d.length := by omega
    have hyz : ys.length = 0 := by have := HLEN.out; omega
    subst hcz
    subst hmz
    go_wp2_with fail
    go_ret
    exact ⟨_, rfl, ownB_set HO.out HK2.out _, end0 HK2.out hyz, fun k h1 h2 => far_chain HS.out HB2.out HSZ.out h1 h2 _, far_below HB.out HB2.out HSZ.out hr _⟩
  · go_wp2_with fail
    go_ret
    exact ⟨_, rfl, ownB_set HO.out HK2.out _, endD HK2.out HD2.out rfl hdl, fun k h1 h2 => far_chain HS.out HB2.out HSZ.out h1 h2 _, far_below HB.out HB2.out HSZ.out hr _⟩
end EncW
end Go.Proofs.YtpmcdjpfolgpiaaGreatDoor

namespace Go.Proofs.YtpmcdjpfolgpiaaGreatDoor
namespace EncW
set_option linter.unusedSimpArgs false
set_option linter.unusedVariables false
open Go.RowKit MonW Enc

theorem idle141 (p q : Addr) (w : World) :
    CallsD Tryz.prog 141 #[.pointer (some p), .pointer (some q)] .returning w fun e u' w' => e = .returned (.tuple #[]) ∧ u' = .returning ∧ w' = w := by
  refine callsD_of_wpS Tryz.func141 rfl fun c₀ cs hu => ?_
  apply wpS_seq
  apply wpS_region
  simp [wpOpsS, go_sem, recoverD, hu, Tryz.ntmps141, Exit.thenS]
  refine wpS_seq ?_
  apply wpS_region
  simp [wpOpsS, go_sem, recoverD, hu, Tryz.ntmps141, Exit.thenS]
  refine wpS_cond (t := false) (by simp [Act.eval, Array.replicate]) ?_
  simp only [Bool.false_eq_true, if_false]
  refine wpS_of_wp (wp_skip ?_)
  cases c₀
  simp_all [bodyPostS, results, Tryz.results141]

set_option maxRecDepth 100000 in
set_option maxHeartbeats 1000000 in
theorem takeInt (u : Value) (n : Int) (w : World) (h : Data w u (encI n)) (hn : I64 n) :
    Calls Tryz.prog 116 #[u] w fun e w' => e = .returned (.tuple #[i n, i 0]) ∧ Below w.heap.size w w' := by
  have hmf : ∀ (fn : Fn) (first cap : Array Value) (w : World), (Instr.makeFunc fn first cap).run Tryz.prog w = .ok (.func fn first cap) w := fun _ _ _ _ => rfl
  obtain ⟨A, c, rfl⟩ := Data.slice h
  have HD := Lib.hid h
  clear h
  go_enter_defers Tryz.func116, Tryz.ntmps116
  go_wp2_with fail
  have k0 := Blk.new w 3 #[.int .i64 0]
  have k0b := (k0.alloc (.cells #[.int .i64 0] 27)).alloc (.cells #[.slice A (encI n).length c] 120)
  have k1 := Blk.new (w.alloc (.cells #[.int .i64 0] 3)) 27 #[.int .i64 0]
  have k1b := k1.alloc (.cells #[.slice A (encI n).length c] 120)
  have k2 := Blk.new ((w.alloc (.cells #[.int .i64 0] 3)).alloc (.cells #[.int .i64 0] 27)) 120 #[.slice A (encI n).length c]
  have hb3 : Below w.heap.size w (((w.alloc (.cells #[.int .i64 0] 3)).alloc (.cells #[.int .i64 0] 27)).alloc (.cells #[.slice A (encI n).length c] 120)) := ((below_new w _).alloc (by simp) _).alloc (by simp; omega) _
  have hd3 := Data.call HD.out hb3
  generalize hw3 : (((w.alloc (.cells #[.int .i64 0] 3)).alloc (.cells #[.int .i64 0] 27)).alloc (.cells #[.slice A (encI n).length c] 120)) = w3 at *
  simp only [World.size_alloc] at k0b k1b k2
  have hrd : RdAt w3 (w.heap.size + 1 + 1) (encI n ++ []) := ⟨_, k2, by rw [List.append_nil]; exact hd3⟩
  have HW := Lib.hid hw3
  have HI := Lib.hid (integer _ n [] w3 hrd hn)
  have HB3 := Lib.hid hb3
  have HK0 := Lib.hid k0b
  have HK1 := Lib.hid k1b
  clear hw3 hrd hb3 hd3 k0 k0b k1 k1b k2
  generalize hB : w.heap.size = B at *
  have HBE := Lib.hid hB
  clear hB
  refine HI.out.mono ?_
  rintro e w4 ⟨rfl, ⟨u, hk, hd⟩, hsame, hbel⟩
  obtain ⟨A4, c4, rfl⟩ := Data.slice hd
  have k0 : Blk w4 B 3 #[.int .i64 0] := (hsame B (by omega)).trans HK0.out
  have k1 : Blk w4 (B + 1) 27 #[.int .i64 0] := (hsame (B + 1) (by omega)).trans HK1.out
  have q0 := k0.cell 0
  have q1 := k1.cell 0
  have q2 := hk.cell 0
  have f0 := k0.frozen
  have f1 := k1.frozen
  simp at q0 q1 q2
  have hne1 : ¬ B = B + 1 := by omega
  have hne2 : ¬ B = B + 1 + 1 := by omega
  have HK4 := Lib.hid k0
  have HK5 := Lib.hid k1
  have HB4 := Lib.hid hbel
  clear hk hd hsame hbel k0 k1
  go_wp2_with fail
  refine (check _ _).mono ?_
  rintro e _ ⟨rfl, rfl⟩
  go_wp2_with fail
  have kk0 := ((HK4.out.set_ 0 (.int .i64 n)).set_ 0 (.int .i64 n)).far (p := ⟨B + 1, 0, none⟩) (by simp) (.int .i64 0)
  have kk1 := ((HK5.out.far (p := ⟨B, 0, none⟩) (by simp) (.int .i64 n)).far (p := ⟨B, 0, none⟩) (by simp) (.int .i64 n)).set_ 0 (.int .i64 0)
  have hb9 : Below B w (((w4.setCell ⟨B, 0, none⟩ (.int .i64 n)).setCell ⟨B, 0, none⟩ (.int .i64 n)).setCell ⟨B + 1, 0, none⟩ (.int .i64 0)) := (((HB3.out.trans (HB4.out.mono (by omega))).setCell (p := ⟨B, 0, none⟩) (Nat.le_refl _) _).setCell (p := ⟨B, 0, none⟩) (Nat.le_refl _) _).setCell (p := ⟨B + 1, 0, none⟩) (by simp) _
  generalize (((w4.setCell ⟨B, 0, none⟩ (.int .i64 n)).setCell ⟨B, 0, none⟩ (.int .i64 n)).setCell ⟨B + 1, 0, none⟩ (.int .i64 0)) = W at *
  have c0 := kk0.cell 0
  have c1 := kk1.cell 0
  simp at c0 c1
  have HB9 := Lib.hid hb9
  clear hb9 kk0 kk1 q0 q1 q2 f0 f1
  refine leaves_cons (f := 141) (args := #[.pointer (some ⟨B, 0, none⟩), .pointer (some ⟨B + 1, 0, none⟩)]) (by simp) (by simp [go_sem]) ?_
  refine (idle141 _ _ _).mono ?_
  rintro e u' w'' ⟨rfl, rfl, rfl⟩
  have hbz : Below w.heap.size w w'' := by rw [HBE.out]; exact HB9.out
  simp [Leaves, settle, results, Tryz.results116, go_sem, c0, c1, hbz]

set_option maxRecDepth 100000 in
theorem takeNumber (u : Value) (n : Int) (w : World) (h : Data w u (encI n)) (hn : I64 n) :
    Calls Tryz.prog 90 #[u] w fun e w' => e = .returned (i n) ∧ Below w.heap.size w w' := by
  obtain ⟨A, c, rfl⟩ := Data.slice h
  have HI := Lib.hid (takeInt _ n w h hn)
  clear h
  go_enter Tryz.func90, Tryz.ntmps90
  go_wp2_with fail
  refine HI.out.mono ?_
  rintro e w1 ⟨rfl, hb⟩
  have HB := Lib.hid hb
  clear hb
  go_wp2_with fail
  go_ret
  exact ⟨rfl, HB.out⟩
set_option maxRecDepth 100000 in
theorem takeField (u : Value) (n : Int) (w : World) (h : Data w u (encI n)) (hn : I64 n) (h0 : n ≠ 0) :
    Calls Tryz.prog 73 #[u] w fun e w' => e = .returned (i n) ∧ Below w.heap.size w w' := by
  obtain ⟨A, c, rfl⟩ := Data.slice h
  have HI := Lib.hid (takeNumber _ n w h hn)
  have e0 : (n == 0) = false := by simpa using h0
  clear h
  go_enter Tryz.func73, Tryz.ntmps73
  go_wp2_with fail
  refine HI.out.mono ?_
  rintro e w1 ⟨rfl, hb⟩
  have HB := Lib.hid hb
  clear hb
  go_wp2_with fail
  go_ret
  exact ⟨rfl, HB.out⟩
theorem strOf_strB (s : ByteArray) : strOfNums (strB s) = s := by
  apply ByteArray.ext
  apply Array.toList_inj.1
  rw [strOfNums_data]
  unfold strB
  rw [List.map_map]
  conv => rhs; rw [← List.map_id s.data.toList]
  apply List.map_congr_left
  intro x _
  simp
theorem conv_data {w : World} {A : Option Addr} {n c : Nat} {s : ByteArray} (h : Data w (.slice A n c) (strB s)) (h0 : strB s ≠ []) : (convert 48 9 (.slice A n c)).run Tryz.prog w = .ok (.string s) w := by
  obtain ⟨b, off, cs, fz, rfl, e1, e2, e3, e4, e5, e6⟩ := Data.split (xs := strB s) (ys := []) (by simpa using h) (List.length_pos_iff.2 h0)
  have hv := run_convert_bytes_arg (P := Tryz.prog) w 48 5 Tryz.underlying48 Tryz.underlying5 b off n c (strB s) (by simpa using e1.symm) (fun j hj => by
    have hj2 : j < (strB s).length := by simpa [e1] using hj
    refine cell_of e4 (e5 j _ ?_)
    rw [List.append_nil, List.getElem?_eq_getElem hj2]
    simp [List.getD, List.getElem?_eq_getElem hj2]) 9 Tryz.underlying9
  rw [hv, strOf_strB]
set_option maxRecDepth 100000 in
theorem takeText (u : Value) (s : ByteArray) (w : World) (h : Data w u (strB s)) (h0 : strB s ≠ []) :
    Calls Tryz.prog 72 #[u] w fun e w' => e = .returned (.string s) ∧ w' = w := by
  obtain ⟨A, c, rfl⟩ := Data.slice h
  have hcv := conv_data h h0
  have e0 : (((strB s).length : Int) == 0) = false := by have := List.length_pos_iff.2 h0; simp; omega
  clear h
  generalize (strB s).length = m at *
  go_enter Tryz.func72, Tryz.ntmps72
  go_wp2_with fail
  go_ret
  exact ⟨rfl, rfl⟩
end EncW
end Go.Proofs.YtpmcdjpfolgpiaaGreatDoor

namespace Go.Proofs.YtpmcdjpfolgpiaaGreatDoor
namespace EncW
set_option linter.unusedSimpArgs false
set_option linter.unusedVariables false
open Go.RowKit MonW Enc

theorem idle117 (p q : Addr) (w : World) :
    CallsD Tryz.prog 117 #[.pointer (some p), .pointer (some q)] .returning w fun e u' w' => e = .returned (.tuple #[]) ∧ u' = .returning ∧ w' = w := by
  refine callsD_of_wpS Tryz.func117 rfl fun c₀ cs hu => ?_
  apply wpS_seq
  apply wpS_region
  simp [wpOpsS, go_sem, recoverD, hu, Tryz.ntmps117, Exit.thenS]
  refine wpS_seq ?_
  apply wpS_region
  simp [wpOpsS, go_sem, recoverD, hu, Tryz.ntmps117, Exit.thenS]
  refine wpS_cond (t := false) (by simp [Act.eval, Array.replicate]) ?_
  simp only [Bool.false_eq_true, if_false]
  refine wpS_of_wp (wp_skip ?_)
  cases c₀
  simp_all [bodyPostS, results, Tryz.results117]
/-- What a call that reads from R leaves. -/
theorem grown_data {wr w5 : World} {R : Nat} (hs : ∀ k, k < wr.heap.size → k ≠ R → w5.heap[k]? = wr.heap[k]?) (hb : Below R wr w5) : wr.grownBy w5 (some R) :=
  ⟨hb.os, hb.tape, hb.output, hb.size, fun k hk hne => hs k hk (fun e => hne (by rw [e]))⟩
theorem rdr_keep {w w' : World} {R : Nat} {xs : List Int} {row : Option Nat} (h : RdAt w R xs) (hg : w.grownBy w' row) (hr : ∀ k, row = some k → ∃ cs t fz, w.heap[k]? = some (.cells cs t fz) ∧ t ≠ 5 ∧ t ≠ 120) : RdAt w' R xs := by
  obtain ⟨u, hk, hd⟩ := h
  refine ⟨u, (hg.block R hk.lt (fun e => ?_)).trans hk, Data.keep hd hg (fun k e => by obtain ⟨cs, t, fz, h1, h2, _⟩ := hr k e; exact ⟨cs, t, fz, h1, h2⟩)⟩
  obtain ⟨cs, t, fz, h1, _, h2⟩ := hr R e.symm
  rw [show w.heap[R]? = _ from hk] at h1
  cases h1
  exact h2 rfl
theorem rdr_call {w w' : World} {R : Nat} {xs : List Int} (h : RdAt w R xs) (hb : Below w.heap.size w w') : RdAt w' R xs :=
  rdr_keep h (row := none) ⟨hb.os, hb.tape, hb.output, hb.size, fun k hk _ => hb.block k hk⟩ (fun k e => by cases e)
theorem ownD_keep {base : Nat} {w w' : World} {v : Value} {ds : List (List Int)} {row : Option Nat} (h : OwnD base w v ds) (hg : w.grownBy w' row) (hr : ∀ k, row = some k → ∃ cs t fz, w.heap[k]? = some (.cells cs t fz) ∧ t ≠ 5 ∧ t ≠ 48) : OwnD base w' v ds := by
  refine Own.mono ?_ (DatR.keep hg (fun k e => by obtain ⟨cs, t, fz, h1, h2, _⟩ := hr k e; exact ⟨cs, t, fz, h1, h2⟩))
  obtain ⟨rs, h1, h2⟩ := h
  refine ⟨rs, h1.kept hg ?_, h2⟩
  rcases h1.2 with ⟨rfl, _⟩ | ⟨g, cap, cur, rfl, _, hg', _⟩
  · exact .inl rfl
  · refine .inr (fun e => ?_)
    obtain ⟨cs, t, fz, h3, _, h4⟩ := hr g e.symm
    rw [hg'] at h3
    cases h3
    exact h4 rfl
theorem blk_keep {w w' : World} {g : Nat} {t : TypeId} {cs : Array Value} {row : Option Nat} (h : Blk w g t cs) (hg : w.grownBy w' row) (hr : ∀ k, row = some k → ∃ cs t' fz, w.heap[k]? = some (.cells cs t' fz) ∧ t' ≠ t) : Blk w' g t cs := by
  refine (hg.block g h.lt (fun e => ?_)).trans h
  obtain ⟨cs', t', fz, h1, h2⟩ := hr g e.symm
  rw [show w.heap[g]? = _ from h] at h1
  cases h1
  exact h2 rfl
theorem ownD_isSl {base : Nat} {w : World} {v : Value} {ds : List (List Int)} (h : OwnD base w v ds) : IsSl v := by
  obtain ⟨rs, h1, h2⟩ := h
  rcases h1.2 with ⟨rfl, _⟩ | ⟨g, cap, cur, rfl, _⟩
  · exact ⟨_, _, _, rfl⟩
  · exact ⟨_, _, _, rfl⟩
/-- The list that grows in B while R is read. -/
structure ColD (w : World) (B : Nat) (v : Value) (ds : List (List Int)) (xs : List Int) (wr : World) : Prop where
  k0 : Blk wr B 109 #[v]
  k1 : Blk wr (B + 1) 27 #[i 0]
  rd : RdAt wr (B + 1 + 1) xs
  own : OwnD B wr v ds
  bel : Below B w wr
theorem ColD.draw {w wr : World} {B : Nat} {v : Value} {ds : List (List Int)} {xs : List Int} (h : ColD w B v ds xs wr) : ColD w B v ds xs wr.drew := by
  obtain ⟨a, b, c, d, e⟩ := h
  exact ⟨a, b, c, d, Below.drew e⟩
/-- After the reader's data and the new row. -/
theorem ColD.read {w wr w5 : World} {B : Nat} {v u : Value} {ds : List (List Int)} {xs d ys : List Int} (h : ColD w B v ds xs wr) (ho : OwnB wr.heap.size w5 u d) (hr : RdAt w5 (B + 1 + 1) ys) (hs : ∀ k, k < wr.heap.size → k ≠ B + 1 + 1 → w5.heap[k]? = wr.heap[k]?) (hb : Below (B + 1 + 1) wr w5) :
    ColD w B v ds ys w5 := by
  have hg := grown_data hs hb
  have hne : ∀ k, some (B + 1 + 1) = some k → ∃ cs t fz, wr.heap[k]? = some (.cells cs t fz) ∧ t = 120 := by
    obtain ⟨_, hk, _⟩ := h.rd
    intro k e
    cases e
    exact ⟨_, _, _, hk, rfl⟩
  refine ⟨blk_keep h.k0 hg ?_, blk_keep h.k1 hg ?_, hr, ownD_keep h.own hg ?_, h.bel.trans (hb.mono (by omega))⟩
  all_goals
    intro k e
    obtain ⟨cs, t, fz, h1, rfl⟩ := hne k e
    exact ⟨_, _, _, h1, by decide⟩
theorem ColD.alloc {w wr : World} {B : Nat} {v : Value} {ds : List (List Int)} {xs : List Int} (h : ColD w B v ds xs wr) (o : Obj) : ColD w B v ds xs (wr.alloc o) :=
  ⟨h.k0.alloc o, h.k1.alloc o, rdr_call h.rd (below_new wr o), OwnD.call h.own (below_new wr o), h.bel.alloc (Nat.le_trans (Nat.le_of_lt h.k0.lt) (Nat.le_refl _)) o⟩
/-- After the append and the store. -/
theorem ColD.put {w wr w5 : World} {B : Nat} {v v5 : Value} {ds es : List (List Int)} {xs : List Int} (h : ColD w B v ds xs wr) (ho : Own (DatR wr) 48 1 B w5 v5 es) (hg : wr.grownBy w5 v.ownBlock) (hb : Below B wr w5) :
    ColD w B v5 es xs (w5.setCell ⟨B, 0, none⟩ v5) := by
  have hrow := OwnD.row h.own
  have hne : ∀ k, v.ownBlock = some k → ∃ cs t fz, wr.heap[k]? = some (.cells cs t fz) ∧ t = 48 := by
    intro k hk
    obtain ⟨cs, fz, h1⟩ := hrow k hk
    exact ⟨_, _, _, h1, rfl⟩
  have k0 : Blk w5 B 109 #[v] := blk_keep h.k0 hg (fun k e => by obtain ⟨cs, t, fz, h1, rfl⟩ := hne k e; exact ⟨_, _, _, h1, by decide⟩)
  have k1 : Blk w5 (B + 1) 27 #[i 0] := blk_keep h.k1 hg (fun k e => by obtain ⟨cs, t, fz, h1, rfl⟩ := hne k e; exact ⟨_, _, _, h1, by decide⟩)
  have rd : RdAt w5 (B + 1 + 1) xs := rdr_keep h.rd hg (fun k e => by obtain ⟨cs, t, fz, h1, rfl⟩ := hne k e; exact ⟨_, _, _, h1, by decide, by decide⟩)
  have own : OwnD B w5 v5 es := Own.mono ho (DatR.keep hg (fun k e => by obtain ⟨cs, t, fz, h1, rfl⟩ := hne k e; exact ⟨_, _, _, h1, by decide⟩))
  have hg9 := grownBy_setCell' w5 B v5
  refine ⟨by simpa using k0.set_ 0 v5, k1.far (p := ⟨B, 0, none⟩) (by simp) v5, rdr_keep rd hg9 ?_, ownD_keep own hg9 ?_, (h.bel.trans hb).setCell (p := ⟨B, 0, none⟩) (Nat.le_refl _) v5⟩
  all_goals
    intro k e
    cases e
    exact ⟨_, _, _, k0, by decide, by decide⟩
theorem ColD.mid {w wr w5 : World} {B : Nat} {v : Value} {ds : List (List Int)} {xs : List Int} (h : ColD w B v ds xs wr) (hg : wr.grownBy w5 v.ownBlock) : Blk w5 B 109 #[v] :=
  blk_keep h.k0 hg (fun k e => by obtain ⟨cs, fz, h1⟩ := OwnD.row h.own k e; exact ⟨_, _, _, h1, by decide⟩)
theorem RdAt.heap {w W : World} {R : Nat} {xs : List Int} (h : RdAt w R xs) (he : W.heap = w.heap) : RdAt W R xs := by
  obtain ⟨u, hk, A, c, rfl, h1, h2, h3, h4, h5⟩ := h
  refine ⟨_, (congrArg (fun h => h[R]?) he).trans hk, A, c, rfl, h1, h2, h3, h4, ?_⟩
  rcases h5 with h5 | ⟨b, off, cs, fz, e1, e2, e3⟩
  · exact .inl h5
  · exact .inr ⟨b, off, cs, fz, e1, (congrArg (fun h => h[b]?) he).trans e2, e3⟩
theorem take_next {α : Type} {ds : List α} {k : Nat} (h : k < ds.length) : ds.take k ++ [ds[k]] = ds.take (k + 1) := (List.take_succ_eq_append_getElem h).symm
theorem ColD.le {w wr : World} {B : Nat} {v : Value} {ds : List (List Int)} {xs : List Int} (h : ColD w B v ds xs wr) : B ≤ wr.heap.size := Nat.le_of_lt h.k0.lt
/-- The facts of the head of 'l = append(l, r.data())'. -/
def lG (w : World) (B : Nat) (v : Value) (ds : List (List Int)) (xs ys : List Int) (L : Nat → Bool) (w' : World) : Prop := ColD w B v ds (if L 1 then ys else xs) w'
def lΦ (v : Value) (d : List Int) (k : Nat) (u : Value) (w' : World) : Prop :=
  if k = 0 then u = v else if k = 1 then Data w' u d else ∃ g u', u = .slice (some ⟨g, 0, none⟩) 1 1 ∧ Blk w' g 48 #[u'] ∧ Data w' u' d
theorem lG_of {w : World} {B : Nat} {v : Value} {ds : List (List Int)} {xs ys : List Int} {L L' : Nat → Bool} {w' : World} (h : lG w B v ds xs ys L w') (e : L' 1 = L 1) : lG w B v ds xs ys L' w' := by
  unfold lG at *
  rw [e]; exact h
theorem lG_alloc {w : World} {B : Nat} {v : Value} {ds : List (List Int)} {xs ys : List Int} {L L' : Nat → Bool} {w' : World} (h : lG w B v ds xs ys L w') (e : L' 1 = L 1) (o : Obj) : lG w B v ds xs ys L' (w'.alloc o) := by
  unfold lG at *
  rw [e]; exact h.alloc o
theorem lΦ_call {v : Value} {d : List Int} {w' w'' : World} (hb : Below w'.heap.size w' w'') (k : Nat) (u : Value) (h : lΦ v d k u w') : lΦ v d k u w'' := by
  unfold lΦ at *
  split
  · rename_i e; rw [if_pos e] at h; exact h
  · rename_i e
    rw [if_neg e] at h
    split
    · rename_i e2; rw [if_pos e2] at h; exact Data.call h hb
    · rename_i e2
      rw [if_neg e2] at h
      obtain ⟨g, u', h1, h2, h3⟩ := h
      exact ⟨g, u', h1, h2.call hb, Data.call h3 hb⟩
def dTo (ds : List (List Int)) (k : Nat) : List Int := (ds.drop k).flatMap fun d => encI d.length ++ d
theorem dTo_next {ds : List (List Int)} {k : Nat} (h : k < ds.length) : dTo ds k = encI (ds[k].length : Int) ++ (ds[k] ++ dTo ds (k + 1)) := by
  unfold dTo
  rw [List.drop_eq_getElem_cons h, List.flatMap_cons, List.append_assoc]
theorem dTo_all (ds : List (List Int)) : dTo ds ds.length = [] := by unfold dTo; rw [List.drop_length]; rfl

set_option maxRecDepth 100000 in
set_option maxHeartbeats 2000000 in
theorem takeList (u : Value) (ds : List (List Int)) (w : World) (h : Data w u (putL ds)) (hl : ds.length ≤ 256) (hd : ∀ d ∈ ds, d.length ≤ 1000 ∧ d ≠ []) :
    Calls Tryz.prog 91 #[u] w fun e w' => ∃ v, e = .returned (.tuple #[v, i 0]) ∧ OwnD w.heap.size w' v ds ∧ Below w.heap.size w w' := by
  have hmf : ∀ (fn : Fn) (first cap : Array Value) (w : World), (Instr.makeFunc fn first cap).run Tryz.prog w = .ok (.func fn first cap) w := fun _ _ _ _ => rfl
  obtain ⟨i0, hi0, hz0, hz1, hz2⟩ := info_parts infoD
  obtain ⟨A, c, rfl⟩ := Data.slice h
  have HD := Lib.hid h
  have HDS := Lib.hid hd
  clear h hd
  have hln : I64 (ds.length : Int) := by unfold I64; omega
  go_enter_defers Tryz.func91, Tryz.ntmps91
  go_wp2_with fail
  have k0 := Blk.new w 109 #[.slice none 0 0]
  have k0b := (k0.alloc (.cells #[.int .i64 0] 27)).alloc (.cells #[.slice A (putL ds).length c] 120)
  have k1 := Blk.new (w.alloc (.cells #[.slice none 0 0] 109)) 27 #[.int .i64 0]
  have k1b := k1.alloc (.cells #[.slice A (putL ds).length c] 120)
  have k2 := Blk.new ((w.alloc (.cells #[.slice none 0 0] 109)).alloc (.cells #[.int .i64 0] 27)) 120 #[.slice A (putL ds).length c]
  have hb3 : Below w.heap.size w (((w.alloc (.cells #[.slice none 0 0] 109)).alloc (.cells #[.int .i64 0] 27)).alloc (.cells #[.slice A (putL ds).length c] 120)) := ((below_new w _).alloc (by simp) _).alloc (by simp; omega) _
  have hd3 := Data.call HD.out hb3
  generalize hw3 : (((w.alloc (.cells #[.slice none 0 0] 109)).alloc (.cells #[.int .i64 0] 27)).alloc (.cells #[.slice A (putL ds).length c] 120)) = w3 at *
  simp only [World.size_alloc] at k0b k1b k2
  have hrd : RdAt w3 (w.heap.size + 1 + 1) (encI ds.length ++ dTo ds 0) := ⟨_, k2, hd3⟩
  have HI := Lib.hid (integer _ ds.length (dTo ds 0) w3 hrd hln)
  have HB3 := Lib.hid hb3
  have HK0 := Lib.hid k0b
  have HK1 := Lib.hid k1b
  clear hw3 hrd hb3 hd3 k0 k0b k1 k1b k2
  generalize hB : w.heap.size = B at *
  have HBE := Lib.hid hB
  clear hB
  refine HI.out.mono ?_
  rintro e w4 ⟨rfl, hrd, hsame, hbel⟩
  have HC : Hid (ColD w B (.slice none 0 0) (ds.take 0) (dTo ds 0) w4) := ⟨(hsame B (by omega)).trans HK0.out, (hsame (B + 1) (by omega)).trans HK1.out, hrd, Own.nil, HB3.out.trans (hbel.mono (by omega))⟩
  clear hrd hsame hbel
  have hge : (0 : Int) ≤ (ds.length : Int) := by omega
  have hle : (ds.length : Int) ≤ 256 := by omega
  have hne1 : ¬ B = B + 1 := by omega
  have hne2 : ¬ B = B + 1 + 1 := by omega
  go_wp2_with fail
  refine (check _ _).mono ?_
  rintro e _ ⟨rfl, rfl⟩
  go_wp2_with fail
  refine (check _ _).mono ?_
  rintro e _ ⟨rfl, rfl⟩
  go_wp2_with fail
  go_loopg [17] ds.length (fun gg s17 wr => ∃ (kk : Nat) (A1 : Option Addr) (n1 c1 : Nat), kk ≤ ds.length ∧ ds.length - kk ≤ gg ∧ s17 = i kk ∧ Hid (ColD w B (.slice A1 n1 c1) (ds.take kk) (dTo ds kk) wr))
  case atStart => exact ⟨0, _, _, _, Nat.zero_le _, by omega, rfl, HC.out⟩
  case round =>
    obtain ⟨kk, A1, n1, c1, hkk, hg, rfl, HC⟩ := hrel
    by_cases hlt : kk < ds.length
    · have hltz : (kk : Int) < (ds.length : Int) := by omega
      have hdk := HDS.out _ (List.getElem_mem hlt)
      have hlk : (ds.take kk).length ≤ 256 := by rw [List.length_take]; omega
      have hrd := HC.out.rd
      rw [dTo_next hlt] at hrd
      have HT := Lib.hid (take_next hlt)
      generalize ds[kk] = d at *
      have HRD := Lib.hid hrd
      have HNE := Lib.hid hdk.2
      have hdl := hdk.1
      have q0 := HC.out.k0.cell 0
      simp at q0
      have HDT := Lib.hid (fun W (he : W.heap = wr.heap) => data (B + 1 + 1) d (dTo ds (kk + 1)) W (hrd.heap he) hdk.2 (by omega))
      clear hrd hdk
      go_wp2_with fail
      refine Reg7.region 3 (lG w B (.slice A1 n1 c1) (ds.take kk) (encI d.length ++ (d ++ dTo ds (kk + 1))) (dTo ds (kk + 1))) (lΦ (.slice A1 n1 c1) d) (by kernel_rfl) (by kernel_rfl) ?_ ?_ ?_ ?_
      · exact Reg4.in_of (n := 30) (by kernel_rfl) rfl
      · obtain ⟨a1, a2, a3, a4, a5⟩ := HC.out
        exact ⟨a1, a2, HRD.out.heap rfl, a4, Below.drew a5⟩
      · intro idx o hj0 ho L a' w' hL hG hop
        have hj' : idx = 0 ∨ idx = 1 ∨ idx = 2 := by omega
        rcases hj' with rfl | rfl | rfl
        all_goals
          obtain rfl := Option.some.inj ho
          clear ho hj0
        · have h2 : a'.tmps[2]?.getD undef = .pointer (some ⟨B, 0, none⟩) := (Array.getD_eq_getD_getElem? ..).symm.trans (hop 2 (by simp [Op.operands, Call.operands]))
          have q0 := hG.k0.cell 0
          simp at q0
          go_simp
          exact ⟨lG_of hG rfl, rfl, fun k u _ _ _ h => h⟩
        · have h4 : a'.tmps[4]?.getD undef = .pointer (some ⟨B + 1 + 1, 0, none⟩) := (Array.getD_eq_getD_getElem? ..).symm.trans (hop 4 (by simp [Op.operands, Call.operands]))
          have hG1 : ColD w B (.slice A1 n1 c1) (ds.take kk) (encI d.length ++ (d ++ dTo ds (kk + 1))) w' := by
            have := hG
            unfold lG at this
            rw [hL] at this
            exact this
          go_simp
          refine (data (B + 1 + 1) d (dTo ds (kk + 1)) w' hG1.rd HNE.out (by omega)).mono ?_
          rintro e w5 ⟨u, rfl, hown, hrd, hsame, hbel⟩
          refine ⟨_, rfl, ?_, Data.of hown, fun k u hk hne hr h => ?_⟩
          · show ColD _ _ _ _ _ _
            exact hG1.read hown hrd hsame hbel
          · have hk' : k = 0 ∨ k = 2 := by omega
            rcases hk' with rfl | rfl
            · exact h
            · have e : false = true := hr.symm.trans (by kernel_rfl)
              cases e
        · obtain h20 : Data w' (a'.tmps.getD 20 undef) d := hop 20 (by simp [Op.operands, Call.operands])
          rw [Array.getD_eq_getD_getElem?] at h20
          obtain ⟨A4, c4, h20e⟩ := Data.slice h20
          rw [h20e] at h20
          go_simp
          exact ⟨lG_alloc hG rfl _, ⟨_, _, rfl, Blk.new w' _ _, Data.call h20 (below_new w' _)⟩, fun k u _ _ _ h => lΦ_call (below_new w' _) k u h⟩
      · intro L vals w' hL hG hΦ
        have h0 : vals 0 = .slice A1 n1 c1 := hΦ 0 (by omega)
        obtain ⟨g, u', h2, hkg, hdg⟩ : ∃ g u', vals 2 = .slice (some ⟨g, 0, none⟩) 1 1 ∧ Blk w' g 48 #[u'] ∧ Data w' u' d := hΦ 2 (by omega)
        have hC : ColD w B (.slice A1 n1 c1) (ds.take kk) (dTo ds (kk + 1)) w' := by
          have := hG
          unfold lG at this
          rw [hL 1 (by omega)] at this
          exact this
        have HC5 := Lib.hid hC
        have HKG := Lib.hid hkg
        have HDG : Hid (DatR w' (#[u'] : Array Value).toList d) := ⟨u', rfl, hdg⟩
        simp only [Reg4.puts, Reg4.dstOf, List.range, List.range.loop, if_true, List.drop_succ_cons, List.drop_zero, h0, h2]
        generalize vals 1 = v20 at *
        clear hG hΦ h0 h2 hL hC hkg hdg q0
        go_wp2_with (at_builtin; refine wpList_grow rfl (.tmp 19) (.tmp 21) 109 rfl i0 _ 24 Tryz.underlying109 hi0 hz0 hz1 hz2 rfl (by omega) rfl HC5.out.own g d _ 48 rfl HKG.out rfl HDG.out (one_dat _ _ _ HDG.out) (by omega) (by omega) HC5.out.le ?_)
        rintro v' w6 hown2 hgr hbel2 ⟨A6, n6, c6, rfl⟩
        have k6 := HC5.out.mid hgr
        have q6 := k6.cell 0
        have f6 := k6.frozen
        simp at q6
        have hC6 := HC5.out.put hown2 hgr hbel2
        rw [HT.out] at hC6
        have HC6 := Lib.hid hC6
        clear hown2 hgr hbel2 k6 hC6
        go_wp2_with fail
        go_roundg (ds.length - (kk + 1))
        case measure => omega
        case rel => exact ⟨kk + 1, _, _, _, by omega, by omega, by go_num, HC6.out⟩
    · obtain rfl : kk = ds.length := by omega
      have hltz : ¬ ((ds.length : Nat) : Int) < (ds.length : Int) := by omega
      have hC := HC.out
      rw [List.take_length, dTo_all] at hC
      obtain ⟨k0, k1, ⟨u, hkr, hdr⟩, own, bel⟩ := hC
      obtain ⟨A7, c7, rfl⟩ := Data.slice hdr
      have q0 := k0.cell 0
      have q1 := k1.cell 0
      have q2 := hkr.cell 0
      have f0 := k0.frozen
      have f1 := k1.frozen
      simp at q0 q1 q2
      have HK0 := Lib.hid k0
      have HK1 := Lib.hid k1
      have HO := Lib.hid own
      have HB9 := Lib.hid bel
      clear k0 k1 hkr hdr own bel
      go_wp2_with fail
      refine (check _ _).mono ?_
      rintro e _ ⟨rfl, rfl⟩
      go_wp2_with fail
      have kk0 := (HK0.out.set_ 0 (.slice A1 n1 c1)).far (p := ⟨B + 1, 0, none⟩) (by simp) (.int .i64 0)
      have kk1 := (HK1.out.far (p := ⟨B, 0, none⟩) (by simp) (.slice A1 n1 c1)).set_ 0 (.int .i64 0)
      have hb9 : Below B w ((wr.setCell ⟨B, 0, none⟩ (.slice A1 n1 c1)).setCell ⟨B + 1, 0, none⟩ (.int .i64 0)) := (HB9.out.setCell (p := ⟨B, 0, none⟩) (Nat.le_refl _) _).setCell (p := ⟨B + 1, 0, none⟩) (by simp) _
      have hg1 := grownBy_setCell' wr B (.slice A1 n1 c1)
      have ho1 := ownD_keep HO.out hg1 (fun k e => by cases e; exact ⟨_, _, _, HK0.out, by decide, by decide⟩)
      have hg2 := grownBy_setCell' (wr.setCell ⟨B, 0, none⟩ (.slice A1 n1 c1)) (B + 1) (.int .i64 0)
      have ho2 := ownD_keep ho1 hg2 (fun k e => by cases e; exact ⟨_, _, _, HK1.out.far (p := ⟨B, 0, none⟩) (by simp) (.slice A1 n1 c1), by decide, by decide⟩)
      generalize (wr.setCell ⟨B, 0, none⟩ (.slice A1 n1 c1)).setCell ⟨B + 1, 0, none⟩ (.int .i64 0) = W at *
      have e0 := kk0.cell 0
      have e1 := kk1.cell 0
      simp at e0 e1
      have HB9 := Lib.hid hb9
      have HO9 := Lib.hid ho2
      clear hb9 kk0 kk1 q0 q1 q2 f0 f1 hg1 ho1 hg2 ho2
      refine leaves_cons (f := 117) (args := #[.pointer (some ⟨B, 0, none⟩), .pointer (some ⟨B + 1, 0, none⟩)]) (by simp) (by simp [go_sem]) ?_
      refine (idle117 _ _ _).mono ?_
      rintro e u' w'' ⟨rfl, rfl, rfl⟩
      have hbz : Below w.heap.size w w'' := by rw [HBE.out]; exact HB9.out
      have hoz : OwnD w.heap.size w'' (.slice A1 n1 c1) ds := by rw [HBE.out]; exact HO9.out
      simp [Leaves, settle, results, Tryz.results91, go_sem, e0, e1, hbz, hoz]
end EncW
end Go.Proofs.YtpmcdjpfolgpiaaGreatDoor
