/-
  The walk of usage.Uses.
-/
import Derived.Test.YtpmcdjpfolgpiaaGreatDoorUsgL
import Derived.Test.YtpmcdjpfolgpiaaGreatDoorCdrP
namespace Go.Proofs.YtpmcdjpfolgpiaaGreatDoor
namespace UsgW
set_option linter.unusedSimpArgs false
set_option linter.unusedVariables false
open Go.RowKit CalW TarW Usg Cdr PriW

theorem minTo_range {l : List Rdg} {m : Int} (h : Good l m) : ∀ k (hk : k < l.length), ((minTo l m (List.range k)).length : Int) = l[k].at_ - (l[0]'(by omega)).at_
  | 0, hk => by simp [minTo]
  | k + 1, hk => by
    have ih := minTo_range h k (by omega)
    have ha := h.asc k hk
    rw [List.range_succ, minTo_snoc, List.length_append, partsK_at hk, parts_len]
    omega
theorem minV_len (l : List Rdg) (m : Int) : (minV l m).length ≤ 20160 := by
  unfold minV
  by_cases hE : minE l m = 0
  · rw [if_pos hE]
    unfold minE at hE
    by_cases hu : useE l m ≠ 0
    · rw [if_pos hu] at hE; exact absurd hE hu
    rw [if_neg hu] at hE
    have hG := good_of (by omega : useE l m = 0)
    by_cases hs : 20160 < span l
    · rw [if_pos hs] at hE; cases hE
    have h1 := minTo_range hG (l.length - 1) (by have := hG.n1; omega)
    rw [span_at hG.n1] at hs
    rw [mins_eq]
    omega
  · rw [if_neg hE]; simp
theorem minV_bd (l : List Rdg) (m : Int) : ∀ x ∈ minV l m, 0 ≤ x ∧ x < 1099511627776 := by
  unfold minV
  by_cases hE : minE l m = 0
  · rw [if_pos hE]
    unfold minE at hE
    by_cases hu : useE l m ≠ 0
    · rw [if_pos hu] at hE; exact absurd hE hu
    have hG := good_of (by omega : useE l m = 0)
    intro x hx
    have h1 := mins_bd hG.m1 l x hx
    have h2 := hG.m2
    omega
  · rw [if_neg hE]; intro x hx; cases hx

def UsePost (l : List Rdg) (m : Int) (w : World) (e : Ending) (w' : World) : Prop := ∃ v, e = .returned (.tuple #[v, i (minE l m)]) ∧ UsesAt w' v (useV l m) ∧ Below w.heap.size w w'
theorem UsePost.no {l : List Rdg} {m n : Int} {w w' : World} (h : minE l m = n) (hn : n ≠ 0) (hb : Below w.heap.size w w') : UsePost l m w (.returned (.tuple #[.slice none 0 0, i n])) w' := by
  refine ⟨.slice none 0 0, by rw [h], ?_, hb⟩
  unfold useV minV
  rw [if_neg (by omega)]
  exact SliceAt.nil
theorem infoUse : (Tryz.prog.info? 133).map (fun i => (i.zero, i.size, i.bytes)) = some (some (.agg #[.int .i64 0, .bool false]), 2, 16) := by kernel_rfl
abbrev OwnU (base : Nat) (w : World) (v : Value) (xs : List Prc.Use) : Prop := Own UseR 133 2 base w v xs
theorem one_use (r : List Value) (u : Prc.Use) (h : UseR r u) : ∀ x ∈ r, x.oneCell' = true := by
  rw [h.1]
  intro x hx
  rcases List.mem_cons.1 hx with rfl | hx
  · rfl
  · obtain rfl : x = .bool u.idle := by simpa using hx
    rfl
def uTo (xs : List Int) (k : Nat) : List Prc.Use := (xs.take k).map useOf
theorem uTo_succ {xs : List Int} {k : Nat} (hk : k < xs.length) : uTo xs (k + 1) = uTo xs k ++ [useOf xs[k]] := by
  unfold uTo
  rw [List.take_succ_eq_append_getElem hk, List.map_append]
  rfl
theorem uTo_all (xs : List Int) : uTo xs xs.length = xs.map useOf := by unfold uTo; rw [List.take_length]
theorem uTo_len {xs : List Int} {k : Nat} (h : xs.length ≤ 20160) : (uTo xs k).length ≤ 16777216 := by unfold uTo; rw [List.length_map, List.length_take]; omega

set_option maxRecDepth 100000 in
set_option maxHeartbeats 1000000 in
theorem uses (v : Value) (l : List Rdg) (m : Int) (w : World) (h : RdgsAt w v l) (hm : MonW.I64 m) : Calls Tryz.prog 76 #[v, i m] w (UsePost l m w) := by
  obtain ⟨A, c, rfl, h1, h2⟩ := SliceAt.form h
  have HM := Lib.hid (minutes (.slice A l.length c) l m w h hm)
  have HV := Lib.hid (show UsePost l m = UsePost l m from rfl)
  have HL := Lib.hid (minV_len l m)
  have HB := Lib.hid (minV_bd l m)
  obtain ⟨i0, hi0, hz0, hz1, hz2⟩ := info_parts infoUse
  clear h
  have HU : Hid (∀ (w' : World) (u : Value), UsesAt w' u ((minV l m).map useOf) → minE l m = 0 → Below w.heap.size w w' → UsePost l m w (.returned (.tuple #[u, i 0])) w') := fun w' u h1 h2 h3 => ⟨u, by rw [h2], h1, h3⟩
  have HN : Hid (∀ (w' : World), minE l m ≠ 0 → Below w.heap.size w w' → UsePost l m w (.returned (.tuple #[.slice none 0 0, i (minE l m)])) w') := fun w' h2 h3 => UsePost.no rfl h2 h3
  unfold MinPost at HM
  generalize hxs : minV l m = xs at *
  generalize hE : minE l m = E at *
  go_enter Tryz.func76, Tryz.ntmps76
  go_wp2_with fail
  refine HM.out.mono ?_
  rintro e w1 ⟨u, rfl, hu, hb1⟩
  obtain ⟨A1, c1, rfl, h3, h4⟩ := SliceAt.form hu
  unfold maxLen at h4
  have HX := Lib.hid hu
  have HB1 := Lib.hid hb1
  clear hu hb1
  by_cases h0 : E = 0
  · subst h0
    have hl := HL.out
    go_wp2_with (at_make; refine wpList_make_own _ rfl _ _ 94 rfl w1.heap.size 133 i0 _ 2 Tryz.underlying94 hi0 hz0 hz1 .i64 .i64 _ xs.length rfl rfl rfl (by rw [hz2]; omega) (by unfold maxLen; omega) (by simp) ?_)
    intro w5 hown5 hgr5
    have hown5' : w5.ownsRow w1.heap.size 133 2 (.slice (some ⟨w1.heap.size, 0, none⟩) 0 xs.length) 0 [] := by simpa using hown5
    have HO5 : Hid (OwnU w1.heap.size w5 (.slice (some ⟨w1.heap.size, 0, none⟩) 0 xs.length) []) := Own.made (n := 0) hown5'
    have HB5 : Hid (Below w.heap.size w w5) := HB1.out.grown hgr5 HB1.out.size (fun k hk => by cases hk)
    have HK5 : Hid (Kept w1 w5) := Kept.of ((Below.refl _ w1).grown hgr5 (Nat.le_refl _) (fun k hk => by cases hk))
    have hle := HB1.out.size
    have hle5 := hgr5.size
    clear hown5 hown5'
    go_wp2_with fail
    go_loopg [8, 25] xs.length (fun gg s8 s25 wr => ∃ (kk : Nat) (A1 : Option Addr) (n1 c1 : Nat), kk ≤ xs.length ∧ xs.length - kk ≤ gg ∧ s8 = .slice A1 n1 c1 ∧ s25 = i kk ∧ Hid (OwnU w1.heap.size wr (.slice A1 n1 c1) (uTo xs kk)) ∧ Hid (Below w1.heap.size w1 wr))
    case atStart => exact ⟨0, _, _, _, Nat.zero_le _, by omega, rfl, rfl, HO5.out, (Below.refl _ w1).grown hgr5 (Nat.le_refl _) (fun k hk => by cases hk)⟩
    case round =>
      obtain ⟨kk, A2, n2, c2, hkk, hg, rfl, rfl, HO, BW⟩ := hrel
      by_cases hlt : kk < xs.length
      · have hltz : (kk : Int) < (xs.length : Int) := by omega
        obtain ⟨b, off, rfl, _, _, hrow⟩ := MonW.IntsAt.at_ HX.out hlt
        have l1 := hrow wr (Kept.of BW.out)
        clear hrow
        have HMT := Lib.hid (uTo_succ hlt)
        have hbd := HB.out xs[kk] (List.getElem_mem hlt)
        have HRR : Hid (UseR (#[i xs[kk], .bool (xs[kk] == 0)] : Array Value).toList (useOf xs[kk])) := ⟨rfl, by constructor <;> show _ <;> simp [useOf] <;> omega⟩
        generalize xs[kk] = y at *
        have HO1 := Lib.hid (Own.call HO.out (below_new wr (.cells #[i y, .bool (y == 0)] 133)))
        have HB1' := Lib.hid (below_alloc BW.out (.cells #[i y, .bool (y == 0)] 133))
        have HLEN := Lib.hid (uTo_len (xs := xs) (k := kk) HL.out)
        go_wp2_with (at_builtin; refine wpList_grow rfl (.tmp 29) (.tmp 34) 94 rfl i0 _ 16 Tryz.underlying94 hi0 hz0 hz1 hz2 rfl (by omega) rfl HO1.out wr.heap.size (useOf y) _ 133 rfl (Blk.new wr _ _) rfl HRR.out (one_use _ _ HRR.out) HLEN.out (by omega) HB1'.out.size ?_)
        rintro v' w3 hown2 - hbel2 ⟨A3, n3, c3, rfl⟩
        have HO2 : Hid (OwnU w1.heap.size w3 (.slice A3 n3 c3) (uTo xs (kk + 1))) := by
          show OwnU _ _ _ _
          rw [HMT.out]; exact hown2
        have HB3 : Hid (Below w1.heap.size w1 w3) := HB1'.out.trans hbel2
        clear hown2 hbel2 HO1 HB1' l1
        go_wp2_with fail
        go_roundg (xs.length - (kk + 1))
        case measure => omega
        case rel => exact ⟨kk + 1, _, _, _, by omega, by omega, rfl, by go_num, HO2, HB3⟩
      · have hltz : ¬ (kk : Int) < (xs.length : Int) := by omega
        have hke : kk = xs.length := by omega
        subst hke
        rw [uTo_all] at HO
        go_wp2_with fail
        go_ret2
        exact HU.out _ _ (HO.out.at_ (by omega)) (by simp) (HB1.out.trans (BW.out.mono HB1.out.size))
  · have hz : (E != 0) = true := by simpa using h0
    go_wp2_with fail
    go_ret2
    exact HN.out _ h0 HB1.out
end UsgW
end Go.Proofs.YtpmcdjpfolgpiaaGreatDoor
