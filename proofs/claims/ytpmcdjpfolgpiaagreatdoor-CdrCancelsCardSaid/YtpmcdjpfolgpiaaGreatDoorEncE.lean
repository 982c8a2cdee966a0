/-
  The walk of the writer's items.
  The walk of fields.Put where the fields are in order.
  The walk of cdr.Encode.
-/
import Derived.Test.YtpmcdjpfolgpiaaGreatDoorEncA
import Derived.Test.YtpmcdjpfolgpiaaGreatDoorTaxF
import Derived.Test.YtpmcdjpfolgpiaaGreatDoorCdrA
namespace Go.Proofs.YtpmcdjpfolgpiaaGreatDoor
namespace EncW
set_option linter.unusedSimpArgs false
set_option linter.unusedVariables false
open Go.RowKit MonW Enc

def itN (x : Itm) : List Int := [x.kind, x.price, x.tax, x.qty, x.net, x.vat, x.gross]
def nums (its : List Itm) : List Int := its.flatMap itN
def dats (its : List Itm) : List (List Int) := (nums its).map encI
theorem nums_len : ∀ its : List Itm, (nums its).length = 7 * its.length
  | [] => rfl
  | x :: its => by
    have := nums_len its
    unfold nums at *
    rw [List.flatMap_cons, List.length_append, this, List.length_cons]
    simp [itN]
    omega
theorem encI_ne (n : Int) : encI n ≠ [] := by
  unfold encI
  by_cases h : 128 ≤ zz n
  · rw [encU_big h]; simp
  · rw [encU_small h]; simp
abbrev OwnD (base : Nat) (w : World) (v : Value) (ds : List (List Int)) : Prop := Own (DatR w) 48 1 base w v ds
theorem infoD : (Tryz.prog.info? 48).map (fun i => (i.zero, i.size, i.bytes)) = some (some (.slice none 0 0), 1, 24) := by kernel_rfl
theorem DatR.keep {w w' : World} {row : Option Nat} (hg : w.grownBy w' row) (hr : ∀ k, row = some k → ∃ cs t fz, w.heap[k]? = some (.cells cs t fz) ∧ t ≠ 5) : ∀ r f, DatR w r f → DatR w' r f := by
  rintro r f ⟨u, rfl, h⟩
  exact ⟨u, rfl, Data.keep h hg hr⟩
theorem OwnD.call {base : Nat} {w w' : World} {v : Value} {ds : List (List Int)} (h : OwnD base w v ds) (hb : Below w.heap.size w w') : OwnD base w' v ds :=
  Own.mono (Own.call h hb) (DatR.keep (row := none) ⟨hb.os, hb.tape, hb.output, hb.size, fun k hk _ => hb.block k hk⟩ (fun k hk => by cases hk))
theorem OwnD.row {base : Nat} {w : World} {v : Value} {l : List (List Int)} (h : OwnD base w v l) : ∀ k, v.ownBlock = some k → ∃ cs fz, w.heap[k]? = some (.cells cs 48 fz) := by
  obtain ⟨rs, h1, h2⟩ := h
  intro k hk
  rcases h1.2 with ⟨rfl, _⟩ | ⟨g, cap, cur, rfl, _, hg, _⟩
  · simp [Value.ownBlock] at hk
  · obtain rfl : g = k := by simpa [Value.ownBlock] using hk
    exact ⟨_, _, hg⟩
theorem one_dat (w : World) (r : List Value) (f : List Int) (h : DatR w r f) : ∀ u ∈ r, u.oneCell' = true := by
  obtain ⟨u, rfl, hd⟩ := h
  obtain ⟨A, c, rfl⟩ := Data.slice hd
  intro x hx
  obtain rfl : x = .slice A f.length c := by simpa using hx
  rfl
def nTo (its : List Itm) (kk jj : Nat) (x : Itm) : List (List Int) := (nums (its.take kk) ++ (itN x).take jj).map encI
theorem nTo_next (its : List Itm) (kk jj : Nat) (x : Itm) (hj : jj < 7) : nTo its kk (jj + 1) x = nTo its kk jj x ++ [encI ((itN x)[jj]'(by simp [itN]; omega))] := by
  unfold nTo
  rw [List.take_succ_eq_append_getElem (by simp [itN]; omega), ← List.append_assoc, List.map_append]
  rfl
theorem nTo_done (its : List Itm) (kk : Nat) (hk : kk < its.length) : nTo its kk 7 its[kk] = dats (its.take (kk + 1)) := by
  unfold nTo dats nums
  rw [List.take_succ_eq_append_getElem hk, List.flatMap_append]
  simp [itN]
theorem nTo_zero (its : List Itm) (kk : Nat) (x : Itm) : nTo its kk 0 x = dats (its.take kk) := by unfold nTo dats; simp
theorem nTo_len (its : List Itm) (kk jj : Nat) (x : Itm) (h : its.length ≤ 32) : (nTo its kk jj x).length ≤ 231 := by
  unfold nTo
  rw [List.length_map, List.length_append, nums_len, List.length_take, List.length_take]
  simp [itN]
  omega

set_option maxRecDepth 100000 in
set_option maxHeartbeats 2000000 in
theorem items (B : Nat) (l : List Fld) (tag : Int) (v : Value) (its : List Itm) (w : World) (h : WrAt w B l) (hl : l.length ≤ 1000) (hi : ItmsAt w v its) (hn : its.length ≤ 32) :
    Calls Tryz.prog 40 #[.pointer (some ⟨B, 0, none⟩), i tag, v] w fun e w' => e = .returned (i 0) ∧ WrAt w' B (if its.length = 0 then l else addF l tag (putL (dats its))) ∧ Below B w w' := by
  obtain ⟨A, c, rfl, h1, h2⟩ := SliceAt.form hi
  have hB : B ≤ w.heap.size := by
    obtain ⟨v, hk, _⟩ := h
    exact Nat.le_of_lt hk.lt
  by_cases h0 : its.length = 0
  · rw [if_pos h0]
    have hz : ((its.length : Int) == 0) = true := by simp [h0]
    have hz2 : its = [] := List.eq_nil_of_length_eq_zero h0
    subst hz2
    go_enter Tryz.func40, Tryz.ntmps40
    go_wp2_with fail
    go_ret
    exact ⟨rfl, h, Below.refl _ _⟩
  · rw [if_neg h0]
    have hz : ((its.length : Int) == 0) = false := beq_eq_false_iff_ne.2 (by omega)
    have hz3 : ¬ its = [] := fun e => h0 (by rw [e]; rfl)
    obtain ⟨i0, hi0, hz0, hz1, hz2⟩ := info_parts infoD
    have HI := Lib.hid hi
    have HW := Lib.hid h
    have HNZ := Lib.hid hz3
    have HOKS := Lib.hid (itms_ok hi)
    clear h hi
    go_enter Tryz.func40, Tryz.ntmps40
    go_wp2_with fail
    go_loopg [7, 19] its.length (fun gg s7 s19 wr => ∃ (kk : Nat) (A1 : Option Addr) (n1 c1 : Nat), kk ≤ its.length ∧ its.length - kk ≤ gg ∧ s7 = .slice A1 n1 c1 ∧ s19 = i kk ∧ Hid (OwnD w.heap.size wr (.slice A1 n1 c1) (dats (its.take kk))) ∧ Hid (Below w.heap.size w wr))
    case atStart => exact ⟨0, _, _, _, Nat.zero_le _, by omega, rfl, rfl, Own.nil, Below.refl _ w⟩
    case round =>
      obtain ⟨kk, A2, n2, c2, hkk, hg, rfl, rfl, HO, BW⟩ := hrel
      by_cases hlt : kk < its.length
      · have hltz : (kk : Int) < (its.length : Int) := by omega
        obtain ⟨b, off, rfl, _, hok, hrow⟩ := ItmsAt.at_ HI.out hlt
        obtain ⟨l1, l2, l3, l4, l5, l6, l7⟩ := hrow wr (Kept.of BW.out)
        clear hrow
        have HDN := Lib.hid (nTo_done its kk hlt)
        generalize its[kk] = y at *
        obtain ⟨y1, y2, y3, y4, y5, y6, y7⟩ := y
        have HOK := Lib.hid hok
        simp only at l1 l2 l3 l4 l5 l6 l7
        have HO' : Hid (OwnD w.heap.size (wr.alloc (.cells #[i y1, i y2, i y3, i y4, i y5, i y6, i y7] 52)) (.slice A2 n2 c2) (nTo its kk 0 ⟨y1, y2, y3, y4, y5, y6, y7⟩)) := by
          show OwnD _ _ _ _
          rw [nTo_zero]; exact OwnD.call HO.out (below_new _ _)
        have BW' := Lib.hid (below_alloc BW.out (.cells #[i y1, i y2, i y3, i y4, i y5, i y6, i y7] 52))
        clear hok HO BW
        go_wp2_with fail
        go_loopg [7, 38] 7 (fun gg s7 s38 wq => ∃ (jj : Nat) (A1 : Option Addr) (n1 c1 : Nat), jj ≤ 7 ∧ 7 - jj ≤ gg ∧ s7 = .slice A1 n1 c1 ∧ s38 = i jj ∧ Hid (OwnD w.heap.size wq (.slice A1 n1 c1) (nTo its kk jj ⟨y1, y2, y3, y4, y5, y6, y7⟩)) ∧ Hid (Below w.heap.size w wq))
        case atStart => exact ⟨0, _, _, _, by omega, by omega, rfl, rfl, HO'.out, BW'.out⟩
        case round =>
          obtain ⟨jj, A3, n3, c3, hjj, hg2, rfl, rfl, HO, BW⟩ := hrel
          have HLN := nTo_len its kk jj ⟨y1, y2, y3, y4, y5, y6, y7⟩ hn
          by_cases hlt2 : jj < 7
          · rcases (show jj = 0 ∨ jj = 1 ∨ jj = 2 ∨ jj = 3 ∨ jj = 4 ∨ jj = 5 ∨ jj = 6 by omega) with rfl | rfl | rfl | rfl | rfl | rfl | rfl
            · have hix : ∀ W, (Instr.index 110 (.agg #[.int .i64 y1, .int .i64 y2, .int .i64 y3, .int .i64 y4, .int .i64 y5, .int .i64 y6, .int .i64 y7]) (i 0)).run Tryz.prog W = .ok (i y1) W := fun W => by kernel_rfl
              have HP := Lib.hid (putInt y1 wr (HOK.out.1))
              have HNX : Hid (nTo its kk 1 ⟨y1, y2, y3, y4, y5, y6, y7⟩ = nTo its kk 0 ⟨y1, y2, y3, y4, y5, y6, y7⟩ ++ [encI y1]) := nTo_next its kk 0 ⟨y1, y2, y3, y4, y5, y6, y7⟩ (by omega)
              go_wp2_with fail
              refine HP.out.mono ?_
              rintro e w3 ⟨u, rfl, hu, hb⟩
              obtain ⟨A4, n4, c4, rfl⟩ := OwnB.isSl hu
              have HD3 := Lib.hid (Data.of hu)
              have HO3 := Lib.hid (OwnD.call HO.out hb)
              have BW3 := Lib.hid (below_call BW.out hb)
              clear hu hb
              have HO4 := Lib.hid (OwnD.call HO3.out (below_new w3 (.cells #[.slice A4 n4 c4] 48)))
              have HR4 : Hid (DatR (w3.alloc (.cells #[.slice A4 n4 c4] 48)) (#[.slice A4 n4 c4] : Array Value).toList (encI y1)) := ⟨_, rfl, Data.call HD3.out (below_new _ _)⟩
              have HROW := Lib.hid (OwnD.row HO4.out)
              have BW4 := Lib.hid (below_alloc BW3.out (.cells #[.slice A4 n4 c4] 48))
              go_wp2_with (at_builtin; refine wpList_grow rfl (.tmp 41) (.tmp 44) 109 rfl i0 _ 24 Tryz.underlying109 hi0 hz0 hz1 hz2 rfl (by omega) rfl HO4.out w3.heap.size (encI y1) _ 48 rfl (Blk.new w3 _ _) rfl HR4.out (one_dat _ _ _ HR4.out) (by omega) (by omega) BW4.out.size ?_)
              rintro v' w5 hown hgr hbel ⟨A5, n5, c5, rfl⟩
              have HO5 : Hid (OwnD w.heap.size w5 (.slice A5 n5 c5) (nTo its kk 1 ⟨y1, y2, y3, y4, y5, y6, y7⟩)) := by
                show OwnD _ _ _ _
                rw [HNX.out]
                exact Own.mono hown (DatR.keep hgr (fun k hk => by obtain ⟨cs, fz, hh⟩ := HROW.out k hk; exact ⟨cs, _, fz, hh, by decide⟩))
              have BW5 := Lib.hid (BW4.out.trans hbel)
              clear hown hgr hbel HO4 HR4 BW4 HO3 BW3
              go_wp2_with fail
              go_roundg 6
              case measure => omega
              case rel => exact ⟨1, _, _, _, by omega, by omega, rfl, by go_num, HO5, BW5⟩
            · have hix : ∀ W, (Instr.index 110 (.agg #[.int .i64 y1, .int .i64 y2, .int .i64 y3, .int .i64 y4, .int .i64 y5, .int .i64 y6, .int .i64 y7]) (i 1)).run Tryz.prog W = .ok (i y2) W := fun W => by kernel_rfl
              have HP := Lib.hid (putInt y2 wr (HOK.out.2.1))
              have HNX : Hid (nTo its kk 2 ⟨y1, y2, y3, y4, y5, y6, y7⟩ = nTo its kk 1 ⟨y1, y2, y3, y4, y5, y6, y7⟩ ++ [encI y2]) := nTo_next its kk 1 ⟨y1, y2, y3, y4, y5, y6, y7⟩ (by omega)
              go_wp2_with fail
              refine HP.out.mono ?_
              rintro e w3 ⟨u, rfl, hu, hb⟩
              obtain ⟨A4, n4, c4, rfl⟩ := OwnB.isSl hu
              have HD3 := Lib.hid (Data.of hu)
              have HO3 := Lib.hid (OwnD.call HO.out hb)
              have BW3 := Lib.hid (below_call BW.out hb)
              clear hu hb
              have HO4 := Lib.hid (OwnD.call HO3.out (below_new w3 (.cells #[.slice A4 n4 c4] 48)))
              have HR4 : Hid (DatR (w3.alloc (.cells #[.slice A4 n4 c4] 48)) (#[.slice A4 n4 c4] : Array Value).toList (encI y2)) := ⟨_, rfl, Data.call HD3.out (below_new _ _)⟩
              have HROW := Lib.hid (OwnD.row HO4.out)
              have BW4 := Lib.hid (below_alloc BW3.out (.cells #[.slice A4 n4 c4] 48))
              go_wp2_with (at_builtin; refine wpList_grow rfl (.tmp 41) (.tmp 44) 109 rfl i0 _ 24 Tryz.underlying109 hi0 hz0 hz1 hz2 rfl (by omega) rfl HO4.out w3.heap.size (encI y2) _ 48 rfl (Blk.new w3 _ _) rfl HR4.out (one_dat _ _ _ HR4.out) (by omega) (by omega) BW4.out.size ?_)
              rintro v' w5 hown hgr hbel ⟨A5, n5, c5, rfl⟩
              have HO5 : Hid (OwnD w.heap.size w5 (.slice A5 n5 c5) (nTo its kk 2 ⟨y1, y2, y3, y4, y5, y6, y7⟩)) := by
                show OwnD _ _ _ _
                rw [HNX.out]
                exact Own.mono hown (DatR.keep hgr (fun k hk => by obtain ⟨cs, fz, hh⟩ := HROW.out k hk; exact ⟨cs, _, fz, hh, by decide⟩))
              have BW5 := Lib.hid (BW4.out.trans hbel)
              clear hown hgr hbel HO4 HR4 BW4 HO3 BW3
              go_wp2_with fail
              go_roundg 5
              case measure => omega
              case rel => exact ⟨2, _, _, _, by omega, by omega, rfl, by go_num, HO5, BW5⟩
            · have hix : ∀ W, (Instr.index 110 (.agg #[.int .i64 y1, .int .i64 y2, .int .i64 y3, .int .i64 y4, .int .i64 y5, .int .i64 y6, .int .i64 y7]) (i 2)).run Tryz.prog W = .ok (i y3) W := fun W => by kernel_rfl
              have HP := Lib.hid (putInt y3 wr (HOK.out.2.2.1))
              have HNX : Hid (nTo its kk 3 ⟨y1, y2, y3, y4, y5, y6, y7⟩ = nTo its kk 2 ⟨y1, y2, y3, y4, y5, y6, y7⟩ ++ [encI y3]) := nTo_next its kk 2 ⟨y1, y2, y3, y4, y5, y6, y7⟩ (by omega)
              go_wp2_with fail
              refine HP.out.mono ?_
              rintro e w3 ⟨u, rfl, hu, hb⟩
              obtain ⟨A4, n4, c4, rfl⟩ := OwnB.isSl hu
              have HD3 := Lib.hid (Data.of hu)
              have HO3 := Lib.hid (OwnD.call HO.out hb)
              have BW3 := Lib.hid (below_call BW.out hb)
              clear hu hb
              have HO4 := Lib.hid (OwnD.call HO3.out (below_new w3 (.cells #[.slice A4 n4 c4] 48)))
              have HR4 : Hid (DatR (w3.alloc (.cells #[.slice A4 n4 c4] 48)) (#[.slice A4 n4 c4] : Array Value).toList (encI y3)) := ⟨_, rfl, Data.call HD3.out (below_new _ _)⟩
              have HROW := Lib.hid (OwnD.row HO4.out)
              have BW4 := Lib.hid (below_alloc BW3.out (.cells #[.slice A4 n4 c4] 48))
              go_wp2_with (at_builtin; refine wpList_grow rfl (.tmp 41) (.tmp 44) 109 rfl i0 _ 24 Tryz.underlying109 hi0 hz0 hz1 hz2 rfl (by omega) rfl HO4.out w3.heap.size (encI y3) _ 48 rfl (Blk.new w3 _ _) rfl HR4.out (one_dat _ _ _ HR4.out) (by omega) (by omega) BW4.out.size ?_)
              rintro v' w5 hown hgr hbel ⟨A5, n5, c5, rfl⟩
              have HO5 : Hid (OwnD w.heap.size w5 (.slice A5 n5 c5) (nTo its kk 3 ⟨y1, y2, y3, y4, y5, y6, y7⟩)) := by
                show OwnD _ _ _ _
                rw [HNX.out]
                exact Own.mono hown (DatR.keep hgr (fun k hk => by obtain ⟨cs, fz, hh⟩ := HROW.out k hk; exact ⟨cs, _, fz, hh, by decide⟩))
              have BW5 := Lib.hid (BW4.out.trans hbel)
              clear hown hgr hbel HO4 HR4 BW4 HO3 BW3
              go_wp2_with fail
              go_roundg 4
              case measure => omega
              case rel => exact ⟨3, _, _, _, by omega, by omega, rfl, by go_num, HO5, BW5⟩
            · have hix : ∀ W, (Instr.index 110 (.agg #[.int .i64 y1, .int .i64 y2, .int .i64 y3, .int .i64 y4, .int .i64 y5, .int .i64 y6, .int .i64 y7]) (i 3)).run Tryz.prog W = .ok (i y4) W := fun W => by kernel_rfl
              have HP := Lib.hid (putInt y4 wr (HOK.out.2.2.2.1))
              have HNX : Hid (nTo its kk 4 ⟨y1, y2, y3, y4, y5, y6, y7⟩ = nTo its kk 3 ⟨y1, y2, y3, y4, y5, y6, y7⟩ ++ [encI y4]) := nTo_next its kk 3 ⟨y1, y2, y3, y4, y5, y6, y7⟩ (by omega)
              go_wp2_with fail
              refine HP.out.mono ?_
              rintro e w3 ⟨u, rfl, hu, hb⟩
              obtain ⟨A4, n4, c4, rfl⟩ := OwnB.isSl hu
              have HD3 := Lib.hid (Data.of hu)
              have HO3 := Lib.hid (OwnD.call HO.out hb)
              have BW3 := Lib.hid (below_call BW.out hb)
              clear hu hb
              have HO4 := Lib.hid (OwnD.call HO3.out (below_new w3 (.cells #[.slice A4 n4 c4] 48)))
              have HR4 : Hid (DatR (w3.alloc (.cells #[.slice A4 n4 c4] 48)) (#[.slice A4 n4 c4] : Array Value).toList (encI y4)) := ⟨_, rfl, Data.call HD3.out (below_new _ _)⟩
              have HROW := Lib.hid (OwnD.row HO4.out)
              have BW4 := Lib.hid (below_alloc BW3.out (.cells #[.slice A4 n4 c4] 48))
              go_wp2_with (at_builtin; refine wpList_grow rfl (.tmp 41) (.tmp 44) 109 rfl i0 _ 24 Tryz.underlying109 hi0 hz0 hz1 hz2 rfl (by omega) rfl HO4.out w3.heap.size (encI y4) _ 48 rfl (Blk.new w3 _ _) rfl HR4.out (one_dat _ _ _ HR4.out) (by omega) (by omega) BW4.out.size ?_)
              rintro v' w5 hown hgr hbel ⟨A5, n5, c5, rfl⟩
              have HO5 : Hid (OwnD w.heap.size w5 (.slice A5 n5 c5) (nTo its kk 4 ⟨y1, y2, y3, y4, y5, y6, y7⟩)) := by
                show OwnD _ _ _ _
                rw [HNX.out]
                exact Own.mono hown (DatR.keep hgr (fun k hk => by obtain ⟨cs, fz, hh⟩ := HROW.out k hk; exact ⟨cs, _, fz, hh, by decide⟩))
              have BW5 := Lib.hid (BW4.out.trans hbel)
              clear hown hgr hbel HO4 HR4 BW4 HO3 BW3
              go_wp2_with fail
              go_roundg 3
              case measure => omega
              case rel => exact ⟨4, _, _, _, by omega, by omega, rfl, by go_num, HO5, BW5⟩
            · have hix : ∀ W, (Instr.index 110 (.agg #[.int .i64 y1, .int .i64 y2, .int .i64 y3, .int .i64 y4, .int .i64 y5, .int .i64 y6, .int .i64 y7]) (i 4)).run Tryz.prog W = .ok (i y5) W := fun W => by kernel_rfl
              have HP := Lib.hid (putInt y5 wr (HOK.out.2.2.2.2.1))
              have HNX : Hid (nTo its kk 5 ⟨y1, y2, y3, y4, y5, y6, y7⟩ = nTo its kk 4 ⟨y1, y2, y3, y4, y5, y6, y7⟩ ++ [encI y5]) := nTo_next its kk 4 ⟨y1, y2, y3, y4, y5, y6, y7⟩ (by omega)
              go_wp2_with fail
              refine HP.out.mono ?_
              rintro e w3 ⟨u, rfl, hu, hb⟩
              obtain ⟨A4, n4, c4, rfl⟩ := OwnB.isSl hu
              have HD3 := Lib.hid (Data.of hu)
              have HO3 := Lib.hid (OwnD.call HO.out hb)
              have BW3 := Lib.hid (below_call BW.out hb)
              clear hu hb
              have HO4 := Lib.hid (OwnD.call HO3.out (below_new w3 (.cells #[.slice A4 n4 c4] 48)))
              have HR4 : Hid (DatR (w3.alloc (.cells #[.slice A4 n4 c4] 48)) (#[.slice A4 n4 c4] : Array Value).toList (encI y5)) := ⟨_, rfl, Data.call HD3.out (below_new _ _)⟩
              have HROW := Lib.hid (OwnD.row HO4.out)
              have BW4 := Lib.hid (below_alloc BW3.out (.cells #[.slice A4 n4 c4] 48))
              go_wp2_with (at_builtin; refine wpList_grow rfl (.tmp 41) (.tmp 44) 109 rfl i0 _ 24 Tryz.underlying109 hi0 hz0 hz1 hz2 rfl (by omega) rfl HO4.out w3.heap.size (encI y5) _ 48 rfl (Blk.new w3 _ _) rfl HR4.out (one_dat _ _ _ HR4.out) (by omega) (by omega) BW4.out.size ?_)
              rintro v' w5 hown hgr hbel ⟨A5, n5, c5, rfl⟩
              have HO5 : Hid (OwnD w.heap.size w5 (.slice A5 n5 c5) (nTo its kk 5 ⟨y1, y2, y3, y4, y5, y6, y7⟩)) := by
                show OwnD _ _ _ _
                rw [HNX.out]
                exact Own.mono hown (DatR.keep hgr (fun k hk => by obtain ⟨cs, fz, hh⟩ := HROW.out k hk; exact ⟨cs, _, fz, hh, by decide⟩))
              have BW5 := Lib.hid (BW4.out.trans hbel)
              clear hown hgr hbel HO4 HR4 BW4 HO3 BW3
              go_wp2_with fail
              go_roundg 2
              case measure => omega
              case rel => exact ⟨5, _, _, _, by omega, by omega, rfl, by go_num, HO5, BW5⟩
            · have hix : ∀ W, (Instr.index 110 (.agg #[.int .i64 y1, .int .i64 y2, .int .i64 y3, .int .i64 y4, .int .i64 y5, .int .i64 y6, .int .i64 y7]) (i 5)).run Tryz.prog W = .ok (i y6) W := fun W => by kernel_rfl
              have HP := Lib.hid (putInt y6 wr (HOK.out.2.2.2.2.2.1))
              have HNX : Hid (nTo its kk 6 ⟨y1, y2, y3, y4, y5, y6, y7⟩ = nTo its kk 5 ⟨y1, y2, y3, y4, y5, y6, y7⟩ ++ [encI y6]) := nTo_next its kk 5 ⟨y1, y2, y3, y4, y5, y6, y7⟩ (by omega)
              go_wp2_with fail
              refine HP.out.mono ?_
              rintro e w3 ⟨u, rfl, hu, hb⟩
              obtain ⟨A4, n4, c4, rfl⟩ := OwnB.isSl hu
              have HD3 := Lib.hid (Data.of hu)
              have HO3 := Lib.hid (OwnD.call HO.out hb)
              have BW3 := Lib.hid (below_call BW.out hb)
              clear hu hb
              have HO4 := Lib.hid (OwnD.call HO3.out (below_new w3 (.cells #[.slice A4 n4 c4] 48)))
              have HR4 : Hid (DatR (w3.alloc (.cells #[.slice A4 n4 c4] 48)) (#[.slice A4 n4 c4] : Array Value).toList (encI y6)) := ⟨_, rfl, Data.call HD3.out (below_new _ _)⟩
              have HROW := Lib.hid (OwnD.row HO4.out)
              have BW4 := Lib.hid (below_alloc BW3.out (.cells #[.slice A4 n4 c4] 48))
              go_wp2_with (at_builtin; refine wpList_grow rfl (.tmp 41) (.tmp 44) 109 rfl i0 _ 24 Tryz.underlying109 hi0 hz0 hz1 hz2 rfl (by omega) rfl HO4.out w3.heap.size (encI y6) _ 48 rfl (Blk.new w3 _ _) rfl HR4.out (one_dat _ _ _ HR4.out) (by omega) (by omega) BW4.out.size ?_)
              rintro v' w5 hown hgr hbel ⟨A5, n5, c5, rfl⟩
              have HO5 : Hid (OwnD w.heap.size w5 (.slice A5 n5 c5) (nTo its kk 6 ⟨y1, y2, y3, y4, y5, y6, y7⟩)) := by
                show OwnD _ _ _ _
                rw [HNX.out]
                exact Own.mono hown (DatR.keep hgr (fun k hk => by obtain ⟨cs, fz, hh⟩ := HROW.out k hk; exact ⟨cs, _, fz, hh, by decide⟩))
              have BW5 := Lib.hid (BW4.out.trans hbel)
              clear hown hgr hbel HO4 HR4 BW4 HO3 BW3
              go_wp2_with fail
              go_roundg 1
              case measure => omega
              case rel => exact ⟨6, _, _, _, by omega, by omega, rfl, by go_num, HO5, BW5⟩
            · have hix : ∀ W, (Instr.index 110 (.agg #[.int .i64 y1, .int .i64 y2, .int .i64 y3, .int .i64 y4, .int .i64 y5, .int .i64 y6, .int .i64 y7]) (i 6)).run Tryz.prog W = .ok (i y7) W := fun W => by kernel_rfl
              have HP := Lib.hid (putInt y7 wr (HOK.out.2.2.2.2.2.2))
              have HNX : Hid (nTo its kk 7 ⟨y1, y2, y3, y4, y5, y6, y7⟩ = nTo its kk 6 ⟨y1, y2, y3, y4, y5, y6, y7⟩ ++ [encI y7]) := nTo_next its kk 6 ⟨y1, y2, y3, y4, y5, y6, y7⟩ (by omega)
              go_wp2_with fail
              refine HP.out.mono ?_
              rintro e w3 ⟨u, rfl, hu, hb⟩
              obtain ⟨A4, n4, c4, rfl⟩ := OwnB.isSl hu
              have HD3 := Lib.hid (Data.of hu)
              have HO3 := Lib.hid (OwnD.call HO.out hb)
              have BW3 := Lib.hid (below_call BW.out hb)
              clear hu hb
              have HO4 := Lib.hid (OwnD.call HO3.out (below_new w3 (.cells #[.slice A4 n4 c4] 48)))
              have HR4 : Hid (DatR (w3.alloc (.cells #[.slice A4 n4 c4] 48)) (#[.slice A4 n4 c4] : Array Value).toList (encI y7)) := ⟨_, rfl, Data.call HD3.out (below_new _ _)⟩
              have HROW := Lib.hid (OwnD.row HO4.out)
              have BW4 := Lib.hid (below_alloc BW3.out (.cells #[.slice A4 n4 c4] 48))
              go_wp2_with (at_builtin; refine wpList_grow rfl (.tmp 41) (.tmp 44) 109 rfl i0 _ 24 Tryz.underlying109 hi0 hz0 hz1 hz2 rfl (by omega) rfl HO4.out w3.heap.size (encI y7) _ 48 rfl (Blk.new w3 _ _) rfl HR4.out (one_dat _ _ _ HR4.out) (by omega) (by omega) BW4.out.size ?_)
              rintro v' w5 hown hgr hbel ⟨A5, n5, c5, rfl⟩
              have HO5 : Hid (OwnD w.heap.size w5 (.slice A5 n5 c5) (nTo its kk 7 ⟨y1, y2, y3, y4, y5, y6, y7⟩)) := by
                show OwnD _ _ _ _
                rw [HNX.out]
                exact Own.mono hown (DatR.keep hgr (fun k hk => by obtain ⟨cs, fz, hh⟩ := HROW.out k hk; exact ⟨cs, _, fz, hh, by decide⟩))
              have BW5 := Lib.hid (BW4.out.trans hbel)
              clear hown hgr hbel HO4 HR4 BW4 HO3 BW3
              go_wp2_with fail
              go_roundg 0
              case measure => omega
              case rel => exact ⟨7, _, _, _, by omega, by omega, rfl, by go_num, HO5, BW5⟩
          · obtain rfl : jj = 7 := by omega
            have HO7 : Hid (OwnD w.heap.size wr (.slice A3 n3 c3) (dats (its.take (kk + 1)))) := by
              show OwnD _ _ _ _
              rw [← HDN.out]; exact HO.out
            go_wp2_with fail
            go_roundg (its.length - (kk + 1))
            case measure => omega
            case rel => exact ⟨kk + 1, _, _, _, by omega, by omega, rfl, by go_num, HO7, BW⟩
      · have hltz : ¬ (kk : Int) < (its.length : Int) := by omega
        have hke : kk = its.length := by omega
        subst hke
        rw [List.take_length] at HO
        have HAT : Hid (DatsAt wr (.slice A2 n2 c2) (dats its)) := HO.out.at_ (by omega)
        have HPL := Lib.hid (putList _ (dats its) wr HAT.out (by unfold dats; rw [List.length_map, nums_len]; omega) (fun d hd => by
          unfold dats at hd
          obtain ⟨x, hx, rfl⟩ := List.mem_map.1 hd
          refine ⟨?_, encI_ne x⟩
          have : I64 x := by
            unfold nums at hx
            obtain ⟨y, hy, hx⟩ := List.mem_flatMap.1 hx
            have hk := HOKS.out y hy
            unfold Itm.ok at hk
            unfold itN at hx
            simp at hx
            rcases hx with rfl | rfl | rfl | rfl | rfl | rfl | rfl
            · exact hk.1
            · exact hk.2.1
            · exact hk.2.2.1
            · exact hk.2.2.2.1
            · exact hk.2.2.2.2.1
            · exact hk.2.2.2.2.2.1
            · exact hk.2.2.2.2.2.2
          have := encI_len this
          omega))
        go_wp2_with fail
        refine HPL.out.mono ?_
        rintro e w3 ⟨u, rfl, hu, hb⟩
        have HB3 := Lib.hid (below_call BW.out hb)
        have HBY := Lib.hid (bytes B l tag u (putL (dats its)) w3 (HW.out.call HB3.out) (Data.of hu) hl)
        obtain ⟨A4, n4, c4, rfl⟩ := OwnB.isSl hu
        clear hu hb
        go_wp2_with fail
        refine HBY.out.mono ?_
        rintro e w5 ⟨rfl, hw, hb5⟩
        go_wp2_with fail
        go_ret
        exact ⟨rfl, hw, (HB3.out.mono hB).trans hb5⟩
end EncW
end Go.Proofs.YtpmcdjpfolgpiaaGreatDoor

namespace Go.Proofs.YtpmcdjpfolgpiaaGreatDoor
namespace EncW
set_option linter.unusedSimpArgs false
set_option linter.unusedVariables false
open Go.RowKit MonW Enc

theorem OwnB.rowT {base : Nat} {w : World} {v : Value} {l : List Int} (h : OwnB base w v l) : ∀ k, v.ownBlock = some k → ∃ cs fz, w.heap[k]? = some (.cells cs 5 fz) := by
  obtain ⟨rs, h1, h2⟩ := h
  intro k hk
  rcases h1.2 with ⟨rfl, _⟩ | ⟨g, cap, cur, rfl, _, hg, _⟩
  · simp [Value.ownBlock] at hk
  · obtain rfl : g = k := by simpa [Value.ownBlock] using hk
    exact ⟨_, _, hg⟩
theorem Blk.grew {base : Nat} {w w' : World} {v : Value} {l : List Int} {g : Nat} {t : TypeId} {cs : Array Value} (hk : Blk w g t cs) (ho : OwnB base w v l) (hg : w.grownBy w' v.ownBlock) (ht : t ≠ 5) : Blk w' g t cs := by
  refine (hg.block g hk.lt (fun e => ?_)).trans hk
  obtain ⟨cs', fz, h⟩ := OwnB.rowT ho g e.symm
  rw [show w.heap[g]? = _ from hk] at h
  cases h
  exact ht rfl
def FldsAt (w : World) (v : Value) (l : List Fld) : Prop := SliceAt (FldR w) 2 w v l
/-- Fields in the order of their tags. -/
def OkF (l : List Fld) : Prop := l.length ≤ 256 ∧ (∀ f ∈ l, 1 ≤ f.tag ∧ f.tag ≤ 1000 ∧ f.data ≠ [] ∧ f.data.length ≤ 50000) ∧ ∀ k (hk : k + 1 < l.length), l[k].tag < l[k + 1].tag
def bef (l : List Fld) : Nat → Int
  | 0 => 0
  | k + 1 => match l[k]? with
    | some f => f.tag
    | none => 0
theorem bef_succ {l : List Fld} {k : Nat} (hk : k < l.length) : bef l (k + 1) = l[k].tag := by
  have e : bef l (k + 1) = (match l[k]? with | some f => f.tag | none => 0) := rfl
  rw [e, List.getElem?_eq_getElem hk]
theorem bef_lt {l : List Fld} (h : OkF l) {k : Nat} (hk : k < l.length) : bef l k < l[k].tag := by
  cases k with
  | zero => have := (h.2.1 _ (List.getElem_mem hk)).1; show (0 : Int) < _; omega
  | succ k =>
    rw [bef_succ (by omega)]
    exact h.2.2 k hk
def pTo (l : List Fld) (k : Nat) : List Int := putF (l.take k)
theorem pTo_succ {l : List Fld} {k : Nat} (hk : k < l.length) : pTo l (k + 1) = ((pTo l k ++ encI l[k].tag) ++ encI l[k].data.length) ++ l[k].data := by
  unfold pTo putF
  rw [List.take_succ_eq_append_getElem hk, List.flatMap_append]
  simp
theorem pTo_all (l : List Fld) : pTo l l.length = putF l := by unfold pTo; rw [List.take_length]
theorem pTo_len {l : List Fld} (h : OkF l) : ∀ k, k ≤ l.length → (pTo l k).length ≤ 50022 * k := by
  intro k
  induction k with
  | zero => intro _; unfold pTo putF; simp
  | succ k ih =>
    intro hk
    have h1 := ih (by omega)
    obtain ⟨a1, a2, a3, a4⟩ := h.2.1 _ (List.getElem_mem (show k < l.length by omega))
    have h3 := encI_len (n := (l[k]'(by omega)).tag) (by omega)
    have h4 := encI_len (n := ((l[k]'(by omega)).data.length : Int)) (by omega)
    rw [pTo_succ (by omega), List.length_append, List.length_append, List.length_append]
    omega

set_option maxRecDepth 100000 in
set_option maxHeartbeats 2000000 in
theorem put (v : Value) (l : List Fld) (w : World) (h : FldsAt w v l) (hl : OkF l) :
    Calls Tryz.prog 41 #[v] w fun e w' => ∃ u, e = .returned (.tuple #[u, i 0]) ∧ OwnB w.heap.size w' u (putF l) ∧ Below w.heap.size w w' := by
  obtain ⟨A, c, rfl, h1, h2⟩ := SliceAt.form h
  unfold maxLen at h2
  obtain ⟨i0, hi0, hz0, hz1, hz2⟩ := info_parts infoB
  have hl256 := hl.1
  have hlz : ¬ (256 : Int) < (l.length : Int) := by omega
  have HL := Lib.hid h
  have HOK := Lib.hid hl
  clear h hl
  go_enter Tryz.func41, Tryz.ntmps41
  go_wp2_with fail
  go_loopg [4, 5, 13] l.length (fun gg s4 s5 s13 wr => ∃ (kk : Nat) (A1 : Option Addr) (n1 c1 : Nat), kk ≤ l.length ∧ l.length - kk ≤ gg ∧ s4 = .slice A1 n1 c1 ∧ s5 = i (bef l kk) ∧ s13 = i kk ∧ Hid (OwnB w.heap.size wr (.slice A1 n1 c1) (pTo l kk)) ∧ Hid (Below w.heap.size w wr))
  case atStart => exact ⟨0, _, _, _, Nat.zero_le _, by omega, rfl, rfl, rfl, Own.nil, Below.refl _ _⟩
  case round =>
    obtain ⟨kk, A2, n2, c2, hkk, hg, rfl, rfl, rfl, HO, BW⟩ := hrel
    have hln := pTo_len HOK.out kk hkk
    by_cases hlt : kk < l.length
    · have hltz : (kk : Int) < (l.length : Int) := by omega
      obtain ⟨b, off, r, rfl, _, ⟨u, hr, hdt, _, _, _, rfl⟩, hcell⟩ := SliceAt.at_ HL.out hlt
      subst hr
      obtain ⟨A3, c3, he⟩ := Data.slice hdt
      rw [he] at hdt hcell
      have l0 : wr.cell? ⟨b, off + kk * 2, none⟩ = some (i l[kk].tag) := by simpa using Kept.of BW.out _ _ (hcell 0 _ rfl)
      have l1 : wr.cell? ⟨b, off + kk * 2 + 1, none⟩ = some (.slice A3 l[kk].data.length c3) := Kept.of BW.out _ _ (hcell 1 _ rfl)
      obtain ⟨t1, t2, t3, t4⟩ := HOK.out.2.1 _ (List.getElem_mem hlt)
      have hbf := bef_lt HOK.out hlt
      have HBS := Lib.hid (bef_succ hlt)
      have HSU := Lib.hid (pTo_succ hlt)
      have HDT0 := Lib.hid hdt
      clear hcell hdt he
      generalize l[kk] = f at *
      obtain ⟨tag, d⟩ := f
      simp only at *
      generalize bef l kk = bf at *
      have g1 : ¬ tag < 1 := by omega
      have g2 : ¬ 1000 < tag := by omega
      have g3 : decide (tag ≤ bf) = false := by simp; omega
      have g4 : ¬ tag ≤ bf := by omega
      have HKF := Lib.hid (Blk.new wr 86 #[i tag, .slice A3 d.length c3])
      have HO' := Lib.hid (Own.call HO.out (below_new wr (.cells #[i tag, .slice A3 d.length c3] 86)))
      have BW' := Lib.hid (below_alloc BW.out (.cells #[i tag, .slice A3 d.length c3] 86))
      have HAP := Lib.hid (appendInt w.heap.size _ _ tag _ HO'.out BW'.out.size (by unfold I64; omega) (by omega))
      by_cases hk0 : kk = 0
      · have hgd : decide ((0 : Int) < (kk : Int)) = false := by simp [hk0]
        have hgn : decide (0 < kk) = false := by simp [hk0]
        clear hk0
        go_wp2_with fail
        refine HAP.out.mono ?_
        rintro e w3 ⟨u3, rfl, hu3, hb3, hg3⟩
        have HK3 := Lib.hid (Blk.grew HKF.out HO'.out hg3 (by decide))
        obtain ⟨A4, n4, c4, rfl⟩ := OwnB.isSl hu3
        have HO3 := Lib.hid hu3
        have BW3 := Lib.hid (BW'.out.trans hb3)
        have m1 := HK3.out.cell 1
        simp at m1
        clear hu3 hb3 hg3
        have hln3 : (pTo l kk ++ encI tag).length ≤ 16000000 := by have := encI_len (n := tag) (by omega); rw [List.length_append]; omega
        have HAP4 := Lib.hid (appendInt w.heap.size _ _ d.length _ HO3.out BW3.out.size (by unfold I64; omega) hln3)
        clear hln3
        go_wp2_with fail
        refine HAP4.out.mono ?_
        rintro e w4 ⟨u4, rfl, hu4, hb4, hg4⟩
        have HK4 := Lib.hid (Blk.grew HK3.out HO3.out hg4 (by decide))
        obtain ⟨A5, n5, c5, rfl⟩ := OwnB.isSl hu4
        have HO4 := Lib.hid hu4
        have BW4 := Lib.hid (BW3.out.trans hb4)
        have m2 := HK4.out.cell 1
        simp at m2
        clear hu4 hb4 hg4 m1
        have HDT4 := Lib.hid (HDT0.out.call BW4.out)
        have HS4 := BW4.out.size
        have hln4 : ((pTo l kk ++ encI tag) ++ encI d.length).length + d.length ≤ 16777216 := by
          have := encI_len (n := tag) (by omega)
          have := encI_len (n := (d.length : Int)) (by omega)
          rw [List.length_append, List.length_append]
          omega
        have HLN := Lib.hid hln4
        clear hln4
        go_wp2_with (at_builtin; refine wpList_data rfl (.tmp 45) (.tmp 47) 48 rfl i0 _ Tryz.underlying48 hi0 hz0 hz1 hz2 rfl rfl HO4.out rfl HDT4.out t3 HLN.out HS4 ?_)
        rintro v' w5 hown hbel ⟨A6, n6, c6, rfl⟩
        have HO5 : Hid (OwnB w.heap.size w5 (.slice A6 n6 c6) (pTo l (kk + 1))) := by
          show OwnB _ _ _ _
          rw [HSU.out]
          simpa using hown
        have BW5 := Lib.hid (BW4.out.trans hbel)
        clear hown hbel m2
        go_wp2_with fail
        go_roundg (l.length - (kk + 1))
        case measure => omega
        case rel => exact ⟨kk + 1, _, _, _, by omega, by omega, rfl, by rw [HBS.out], by go_num, HO5, BW5⟩
      · have hgd : decide ((0 : Int) < (kk : Int)) = true := by simp; omega
        have hgn : decide (0 < kk) = true := by simp; omega
        clear hk0
        go_wp2_with fail
        refine HAP.out.mono ?_
        rintro e w3 ⟨u3, rfl, hu3, hb3, hg3⟩
        have HK3 := Lib.hid (Blk.grew HKF.out HO'.out hg3 (by decide))
        obtain ⟨A4, n4, c4, rfl⟩ := OwnB.isSl hu3
        have HO3 := Lib.hid hu3
        have BW3 := Lib.hid (BW'.out.trans hb3)
        have m1 := HK3.out.cell 1
        simp at m1
        clear hu3 hb3 hg3
        have hln3 : (pTo l kk ++ encI tag).length ≤ 16000000 := by have := encI_len (n := tag) (by omega); rw [List.length_append]; omega
        have HAP4 := Lib.hid (appendInt w.heap.size _ _ d.length _ HO3.out BW3.out.size (by unfold I64; omega) hln3)
        clear hln3
        go_wp2_with fail
        refine HAP4.out.mono ?_
        rintro e w4 ⟨u4, rfl, hu4, hb4, hg4⟩
        have HK4 := Lib.hid (Blk.grew HK3.out HO3.out hg4 (by decide))
        obtain ⟨A5, n5, c5, rfl⟩ := OwnB.isSl hu4
        have HO4 := Lib.hid hu4
        have BW4 := Lib.hid (BW3.out.trans hb4)
        have m2 := HK4.out.cell 1
        simp at m2
        clear hu4 hb4 hg4 m1
        have HDT4 := Lib.hid (HDT0.out.call BW4.out)
        have HS4 := BW4.out.size
        have hln4 : ((pTo l kk ++ encI tag) ++ encI d.length).length + d.length ≤ 16777216 := by
          have := encI_len (n := tag) (by omega)
          have := encI_len (n := (d.length : Int)) (by omega)
          rw [List.length_append, List.length_append]
          omega
        have HLN := Lib.hid hln4
        clear hln4
        go_wp2_with (at_builtin; refine wpList_data rfl (.tmp 45) (.tmp 47) 48 rfl i0 _ Tryz.underlying48 hi0 hz0 hz1 hz2 rfl rfl HO4.out rfl HDT4.out t3 HLN.out HS4 ?_)
        rintro v' w5 hown hbel ⟨A6, n6, c6, rfl⟩
        have HO5 : Hid (OwnB w.heap.size w5 (.slice A6 n6 c6) (pTo l (kk + 1))) := by
          show OwnB _ _ _ _
          rw [HSU.out]
          simpa using hown
        have BW5 := Lib.hid (BW4.out.trans hbel)
        clear hown hbel m2
        go_wp2_with fail
        go_roundg (l.length - (kk + 1))
        case measure => omega
        case rel => exact ⟨kk + 1, _, _, _, by omega, by omega, rfl, by rw [HBS.out], by go_num, HO5, BW5⟩
    · have hltz : ¬ (kk : Int) < (l.length : Int) := by omega
      have hke : kk = l.length := by omega
      subst hke
      rw [pTo_all] at HO
      go_wp2_with fail
      go_ret2
      exact ⟨_, rfl, HO.out, BW.out⟩
end EncW
end Go.Proofs.YtpmcdjpfolgpiaaGreatDoor

namespace Go.Proofs.YtpmcdjpfolgpiaaGreatDoor
namespace EncW
set_option linter.unusedSimpArgs false
set_option linter.unusedVariables false
open Go.RowKit MonW Enc Cdr

def addN (l : List Fld) (tag n : Int) : List Fld := if n = 0 then l else addF l tag (encI n)
def addI (l : List Fld) (tag : Int) (its : List Itm) : List Fld := if its.length = 0 then l else addF l tag (putL (dats its))
def addC (l : List Fld) (c : Bool) : List Fld := if c = true then addN l 13 1 else l
/-- The fields of a record. -/
def recF (c : CDR) : List Fld :=
  addF (addC (addN (addI (addF (addF (addN (addN (addN (addN (addF (addF (addF (addF [] 1 (strB c.id)) 2 (strB c.oper)) 3 (strB c.prov)) 4 (strB c.sess)) 5 c.ver) 6 c.start) 7 c.stop) 8 c.en) 9 (strB c.tar)) 10 (strB c.cur)) 11 c.items) 12 c.total) c.credit) 14 (strB c.ref)
def encR (c : CDR) : List Int × Int := if cdrE c ≠ 0 then ([], cdrE c) else (putF (recF c), 0)
structure OkT (l : List Fld) (t : Int) (k : Nat) : Prop where
  ok : OkF l
  tag : ∀ f ∈ l, f.tag ≤ t
  len : l.length ≤ k
theorem OkT.nil : OkT [] 0 0 := ⟨⟨by simp, fun f hf => (by cases hf), fun k hk => (by simp at hk)⟩, fun f hf => (by cases hf), Nat.le_refl _⟩
theorem OkT.mono {l : List Fld} {t t' : Int} {k k' : Nat} (h : OkT l t k) (ht : t ≤ t') (hk : k ≤ k') : OkT l t' k' := ⟨h.ok, fun f hf => Int.le_trans (h.tag f hf) ht, Nat.le_trans h.len hk⟩
theorem OkT.add {l : List Fld} {t t' : Int} {k : Nat} {xs : List Int} (h : OkT l t k) (h0 : 0 ≤ t) (ht : t < t') (h1 : t' ≤ 1000) (hk : k + 1 ≤ 256) (hx : xs.length ≤ 50000) : OkT (addF l t' xs) t' (k + 1) := by
  unfold addF
  by_cases h2 : xs.length = 0
  · rw [if_pos h2]; exact h.mono (by omega) (by omega)
  · rw [if_neg h2]
    have hl := h.len
    refine ⟨⟨by rw [List.length_append]; simp; omega, fun f hf => ?_, fun j hj => ?_⟩, fun f hf => ?_, by rw [List.length_append]; simp; omega⟩
    · rcases List.mem_append.1 hf with hf | hf
      · exact h.ok.2.1 f hf
      · obtain rfl : f = _ := by simpa using hf
        exact ⟨by show 1 ≤ t'; omega, h1, fun e => h2 (by rw [show xs = [] from e]; rfl), hx⟩
    · rw [List.length_append] at hj
      simp at hj
      by_cases h3 : j + 1 < l.length
      · rw [List.getElem_append_left (by omega), List.getElem_append_left (by omega)]
        exact h.ok.2.2 j h3
      · rw [List.getElem_append_left (by omega), List.getElem_append_right (by omega)]
        have := h.tag _ (List.getElem_mem (show j < l.length by omega))
        simp
        omega
    · rcases List.mem_append.1 hf with hf | hf
      · have := h.tag f hf; omega
      · obtain rfl : f = _ := by simpa using hf
        exact Int.le_refl _
theorem OkT.addN {l : List Fld} {t t' n : Int} {k : Nat} (h : OkT l t k) (h0 : 0 ≤ t) (ht : t < t') (h1 : t' ≤ 1000) (hk : k + 1 ≤ 256) (hn : I64 n) : OkT (addN l t' n) t' (k + 1) := by
  unfold EncW.addN
  split
  · exact h.mono (by omega) (by omega)
  · exact h.add h0 ht h1 hk (by have := encI_len hn; omega)
theorem lTo_len2 {ds : List (List Int)} (h : ds.length ≤ 256) (hd : ∀ d ∈ ds, d.length ≤ 11) : ∀ k, k ≤ ds.length → (lTo ds k).length ≤ 11 + 22 * k := by
  intro k
  induction k with
  | zero => intro _; unfold lTo; simp; exact encI_len (by omega)
  | succ k ih =>
    intro hk
    have h1 := ih (by omega)
    have h2 := hd _ (List.getElem_mem (show k < ds.length by omega))
    have h3 := encI_len (n := ((ds[k]'(by omega)).length : Int)) (by omega)
    rw [lTo_succ (by omega), List.length_append, List.length_append]
    omega
theorem dats_len {its : List Itm} (ho : ∀ x ∈ its, x.ok) (hn : its.length ≤ 32) : (putL (dats its)).length ≤ 6000 := by
  have hl : (dats its).length = 7 * its.length := by unfold dats; rw [List.length_map, nums_len]
  have := lTo_len2 (ds := dats its) (by omega) (fun d hd => by
    unfold dats at hd
    obtain ⟨x, hx, rfl⟩ := List.mem_map.1 hd
    refine encI_len ?_
    unfold nums at hx
    obtain ⟨y, hy, hx⟩ := List.mem_flatMap.1 hx
    have hk := ho y hy
    unfold Itm.ok at hk
    unfold itN at hx
    simp at hx
    rcases hx with rfl | rfl | rfl | rfl | rfl | rfl | rfl
    · exact hk.1
    · exact hk.2.1
    · exact hk.2.2.1
    · exact hk.2.2.2.1
    · exact hk.2.2.2.2.1
    · exact hk.2.2.2.2.2.1
    · exact hk.2.2.2.2.2.2) (dats its).length (Nat.le_refl _)
  rw [lTo_all] at this
  omega
theorem OkT.addI {l : List Fld} {t t' : Int} {k : Nat} {its : List Itm} (h : OkT l t k) (h0 : 0 ≤ t) (ht : t < t') (h1 : t' ≤ 1000) (hk : k + 1 ≤ 256) (ho : ∀ x ∈ its, x.ok) (hn : its.length ≤ 32) : OkT (addI l t' its) t' (k + 1) := by
  unfold EncW.addI
  split
  · exact h.mono (by omega) (by omega)
  · exact h.add h0 ht h1 hk (by have := dats_len ho hn; omega)
theorem OkT.addC {l : List Fld} {k : Nat} {c : Bool} (h : OkT l 12 k) (hk : k + 1 ≤ 256) : OkT (addC l c) 13 (k + 1) := by
  unfold EncW.addC
  split
  · exact h.addN (by omega) (by omega) (by omega) hk (by unfold I64; omega)
  · exact h.mono (by omega) (by omega)
theorem WrAt.flds {w : World} {B : Nat} {l : List Fld} (h : WrAt w B l) : ∃ v, w.cell? ⟨B, 0, none⟩ = some v ∧ IsSl v ∧ FldsAt w v l := by
  obtain ⟨v, hk, ho⟩ := h
  exact ⟨v, hk.cell 0, OwnF.slice ho, ho.at_ (by omega)⟩

def EncPost (c : CDR) (w : World) (e : Ending) (w' : World) : Prop := ∃ u, e = .returned (.tuple #[u, i (encR c).2]) ∧ OwnB w.heap.size w' u (encR c).1 ∧ Below w.heap.size w w'
/-- The strings of a record are short. -/
def ShortS (c : CDR) : Prop := c.id.size ≤ 1000 ∧ c.oper.size ≤ 1000 ∧ c.prov.size ≤ 1000 ∧ c.sess.size ≤ 1000 ∧ c.tar.size ≤ 1000 ∧ c.cur.size ≤ 1000 ∧ c.ref.size ≤ 1000

set_option maxRecDepth 100000 in
set_option maxHeartbeats 4000000 in
theorem encode_no (c : CDR) (A : Option Addr) (n k : Nat) (w : World) (ho : c.ok) (hi : ItmsAt w (.slice A n k) c.items) (hE : cdrE c ≠ 0) :
    Calls Tryz.prog 18 #[.agg (cdrA c (.slice A n k))] w (EncPost c w) := by
  have HB0 := Lib.hid (below_new w (.cells (cdrA c (.slice A n k)) 24))
  have HV := Lib.hid (valid c A n k (w.alloc (.cells (cdrA c (.slice A n k)) 24)) ho (ItmsAt.call hi (below_new w _)) rfl)
  have HR : Hid (encR c = ([], cdrE c)) := by show _ = _; unfold encR; rw [if_pos hE]
  generalize cdrE c = e1 at *
  have hz : (e1 != 0) = true := by simpa using hE
  clear ho hi
  go_enter Tryz.func18, Tryz.ntmps18
  go_wp2_with fail
  refine HV.out.mono ?_
  rintro e w1 ⟨rfl, hb⟩
  have HB1 := Lib.hid (below_call HB0.out hb)
  clear hb
  go_wp2_with fail
  go_ret2
  exact ⟨.slice none 0 0, by rw [HR.out]; rfl, by rw [HR.out]; exact Own.nil, HB1.out⟩

set_option maxRecDepth 100000 in
set_option maxHeartbeats 4000000 in
theorem encode_yes (c : CDR) (A : Option Addr) (n k : Nat) (w : World) (ho : c.ok) (hi : ItmsAt w (.slice A n k) c.items) (hE : cdrE c = 0) (hs : ShortS c) (hn : c.items.length ≤ 32) (hio : ∀ x ∈ c.items, x.ok) :
    Calls Tryz.prog 18 #[.agg (cdrA c (.slice A n k))] w (EncPost c w) := by
  have HB0 := Lib.hid (below_new w (.cells (cdrA c (.slice A n k)) 24))
  have HV := Lib.hid (valid c A n k (w.alloc (.cells (cdrA c (.slice A n k)) 24)) ho (ItmsAt.call hi (below_new w _)) rfl)
  obtain ⟨z1, z2, z3, z4, z5, z6, z7⟩ := hs
  have HR : Hid (encR c = (putF (recF c), 0)) := by show _ = _; unfold encR; rw [if_neg (fun e => e hE)]
  have T0 := OkT.nil
  have T1 : OkT (addF [] 1 (strB c.id)) 1 1 := T0.add (by omega) (by omega) (by omega) (by omega) (by rw [strB_len]; omega)
  have T2 : OkT (addF (addF [] 1 (strB c.id)) 2 (strB c.oper)) 2 2 := T1.add (by omega) (by omega) (by omega) (by omega) (by rw [strB_len]; omega)
  have T3 : OkT (addF (addF (addF [] 1 (strB c.id)) 2 (strB c.oper)) 3 (strB c.prov)) 3 3 := T2.add (by omega) (by omega) (by omega) (by omega) (by rw [strB_len]; omega)
  have T4 : OkT (addF (addF (addF (addF [] 1 (strB c.id)) 2 (strB c.oper)) 3 (strB c.prov)) 4 (strB c.sess)) 4 4 := T3.add (by omega) (by omega) (by omega) (by omega) (by rw [strB_len]; omega)
  have T5 : OkT (addN (addF (addF (addF (addF [] 1 (strB c.id)) 2 (strB c.oper)) 3 (strB c.prov)) 4 (strB c.sess)) 5 c.ver) 5 5 := T4.addN (by omega) (by omega) (by omega) (by omega) ho.n1
  have T6 : OkT (addN (addN (addF (addF (addF (addF [] 1 (strB c.id)) 2 (strB c.oper)) 3 (strB c.prov)) 4 (strB c.sess)) 5 c.ver) 6 c.start) 6 6 := T5.addN (by omega) (by omega) (by omega) (by omega) ho.n2
  have T7 : OkT (addN (addN (addN (addF (addF (addF (addF [] 1 (strB c.id)) 2 (strB c.oper)) 3 (strB c.prov)) 4 (strB c.sess)) 5 c.ver) 6 c.start) 7 c.stop) 7 7 := T6.addN (by omega) (by omega) (by omega) (by omega) ho.n3
  have T8 : OkT (addN (addN (addN (addN (addF (addF (addF (addF [] 1 (strB c.id)) 2 (strB c.oper)) 3 (strB c.prov)) 4 (strB c.sess)) 5 c.ver) 6 c.start) 7 c.stop) 8 c.en) 8 8 := T7.addN (by omega) (by omega) (by omega) (by omega) ho.n4
  have T9 : OkT (addF (addN (addN (addN (addN (addF (addF (addF (addF [] 1 (strB c.id)) 2 (strB c.oper)) 3 (strB c.prov)) 4 (strB c.sess)) 5 c.ver) 6 c.start) 7 c.stop) 8 c.en) 9 (strB c.tar)) 9 9 := T8.add (by omega) (by omega) (by omega) (by omega) (by rw [strB_len]; omega)
  have T10 : OkT (addF (addF (addN (addN (addN (addN (addF (addF (addF (addF [] 1 (strB c.id)) 2 (strB c.oper)) 3 (strB c.prov)) 4 (strB c.sess)) 5 c.ver) 6 c.start) 7 c.stop) 8 c.en) 9 (strB c.tar)) 10 (strB c.cur)) 10 10 := T9.add (by omega) (by omega) (by omega) (by omega) (by rw [strB_len]; omega)
  have T11 : OkT (addI (addF (addF (addN (addN (addN (addN (addF (addF (addF (addF [] 1 (strB c.id)) 2 (strB c.oper)) 3 (strB c.prov)) 4 (strB c.sess)) 5 c.ver) 6 c.start) 7 c.stop) 8 c.en) 9 (strB c.tar)) 10 (strB c.cur)) 11 c.items) 11 11 := T10.addI (by omega) (by omega) (by omega) (by omega) hio hn
  have T12 : OkT (addN (addI (addF (addF (addN (addN (addN (addN (addF (addF (addF (addF [] 1 (strB c.id)) 2 (strB c.oper)) 3 (strB c.prov)) 4 (strB c.sess)) 5 c.ver) 6 c.start) 7 c.stop) 8 c.en) 9 (strB c.tar)) 10 (strB c.cur)) 11 c.items) 12 c.total) 12 12 := T11.addN (by omega) (by omega) (by omega) (by omega) ho.n5
  have T13 : OkT (addC (addN (addI (addF (addF (addN (addN (addN (addN (addF (addF (addF (addF [] 1 (strB c.id)) 2 (strB c.oper)) 3 (strB c.prov)) 4 (strB c.sess)) 5 c.ver) 6 c.start) 7 c.stop) 8 c.en) 9 (strB c.tar)) 10 (strB c.cur)) 11 c.items) 12 c.total) c.credit) 13 13 := T12.addC (by omega)
  have T14 : OkT (addF (addC (addN (addI (addF (addF (addN (addN (addN (addN (addF (addF (addF (addF [] 1 (strB c.id)) 2 (strB c.oper)) 3 (strB c.prov)) 4 (strB c.sess)) 5 c.ver) 6 c.start) 7 c.stop) 8 c.en) 9 (strB c.tar)) 10 (strB c.cur)) 11 c.items) 12 c.total) c.credit) 14 (strB c.ref)) 14 14 := T13.add (by omega) (by omega) (by omega) (by omega) (by rw [strB_len]; omega)
  have hrec : recF c = (addF (addC (addN (addI (addF (addF (addN (addN (addN (addN (addF (addF (addF (addF [] 1 (strB c.id)) 2 (strB c.oper)) 3 (strB c.prov)) 4 (strB c.sess)) 5 c.ver) 6 c.start) 7 c.stop) 8 c.en) 9 (strB c.tar)) 10 (strB c.cur)) 11 c.items) 12 c.total) c.credit) 14 (strB c.ref)) := rfl
  rw [hrec] at HR
  have HOO := Lib.hid ho
  skip
  have HHN := Lib.hid hn
  have HI := Lib.hid hi
  rw [hE] at HV
  have HK0 := Lib.hid (cdr_new w c (.slice A n k))
  have HT0 := Lib.hid T0
  have HT1 := Lib.hid T1
  have HT2 := Lib.hid T2
  have HT3 := Lib.hid T3
  have HT4 := Lib.hid T4
  have HT5 := Lib.hid T5
  have HT6 := Lib.hid T6
  have HT7 := Lib.hid T7
  have HT8 := Lib.hid T8
  have HT9 := Lib.hid T9
  have HT10 := Lib.hid T10
  have HT11 := Lib.hid T11
  have HT12 := Lib.hid T12
  have HT13 := Lib.hid T13
  have HT14 := Lib.hid T14
  clear T0 T1 T2 T3 T4 T5 T6 T7 T8 T9 T10 T11 T12 T13 T14 hrec hi ho hE
  obtain ⟨cid, oper, prov, sess, ver, start, stop, en, tar, cur, items, total, credit, ref⟩ := c
  simp only at z1 z2 z3 z4 z5 z6 z7
  go_enter Tryz.func18, Tryz.ntmps18
  go_wp2_with fail
  refine HV.out.mono ?_
  rintro e w1 ⟨rfl, hb⟩
  have HB1 := Lib.hid (below_alloc (below_call HB0.out hb) (.cells #[.slice none 0 0] 76))
  have HK1 := Lib.hid ((HK0.out.call hb).alloc (.cells #[.slice none 0 0] 76))
  have HW1 : Hid (WrAt (w1.alloc (.cells #[.slice none 0 0] 76)) w1.heap.size []) := ⟨_, Blk.new w1 _ _, Own.nil⟩
  have HLT := Lib.hid (show w.heap.size < w1.heap.size from (HK0.out.call hb).lt)
  obtain ⟨c0, c1, c2, c3, c4, c5, c6, c7, c8, c9, c10, c11, c12, c13⟩ := cdr_cells (HK0.out.call hb)
  clear hb HB0 HK0 c0 c1 c2 c3 c4 c5 c6 c7 c8 c9 c10 c11 c12 c13
  obtain ⟨c0, c1, c2, c3, c4, c5, c6, c7, c8, c9, c10, c11, c12, c13⟩ := cdr_cells HK1.out
  go_wp2_with fail
  refine (text w1.heap.size _ 1 _ _ HW1.out (by have := HT0.out.len; omega) (by omega)).mono ?_
  rintro e w2 ⟨rfl, hw, hb⟩
  have HW2 : Hid (WrAt w2 w1.heap.size (addF [] 1 (strB cid))) := hw
  have HK2 := Lib.hid (HK1.out.below hb HLT.out)
  have HB2 := Lib.hid (HB1.out.trans (hb.mono (Nat.le_of_lt HLT.out)))
  clear hb hw c0 c1 c2 c3 c4 c5 c6 c7 c8 c9 c10 c11 c12 c13
  obtain ⟨c0, c1, c2, c3, c4, c5, c6, c7, c8, c9, c10, c11, c12, c13⟩ := cdr_cells HK2.out
  go_wp2_with fail
  refine (text w1.heap.size _ 2 _ _ HW2.out (by have := HT1.out.len; omega) (by omega)).mono ?_
  rintro e w3 ⟨rfl, hw, hb⟩
  have HW3 : Hid (WrAt w3 w1.heap.size (addF (addF [] 1 (strB cid)) 2 (strB oper))) := hw
  have HK3 := Lib.hid (HK2.out.below hb HLT.out)
  have HB3 := Lib.hid (HB2.out.trans (hb.mono (Nat.le_of_lt HLT.out)))
  clear hb hw c0 c1 c2 c3 c4 c5 c6 c7 c8 c9 c10 c11 c12 c13
  obtain ⟨c0, c1, c2, c3, c4, c5, c6, c7, c8, c9, c10, c11, c12, c13⟩ := cdr_cells HK3.out
  go_wp2_with fail
  refine (text w1.heap.size _ 3 _ _ HW3.out (by have := HT2.out.len; omega) (by omega)).mono ?_
  rintro e w4 ⟨rfl, hw, hb⟩
  have HW4 : Hid (WrAt w4 w1.heap.size (addF (addF (addF [] 1 (strB cid)) 2 (strB oper)) 3 (strB prov))) := hw
  have HK4 := Lib.hid (HK3.out.below hb HLT.out)
  have HB4 := Lib.hid (HB3.out.trans (hb.mono (Nat.le_of_lt HLT.out)))
  clear hb hw c0 c1 c2 c3 c4 c5 c6 c7 c8 c9 c10 c11 c12 c13
  obtain ⟨c0, c1, c2, c3, c4, c5, c6, c7, c8, c9, c10, c11, c12, c13⟩ := cdr_cells HK4.out
  go_wp2_with fail
  refine (text w1.heap.size _ 4 _ _ HW4.out (by have := HT3.out.len; omega) (by omega)).mono ?_
  rintro e w5 ⟨rfl, hw, hb⟩
  have HW5 : Hid (WrAt w5 w1.heap.size (addF (addF (addF (addF [] 1 (strB cid)) 2 (strB oper)) 3 (strB prov)) 4 (strB sess))) := hw
  have HK5 := Lib.hid (HK4.out.below hb HLT.out)
  have HB5 := Lib.hid (HB4.out.trans (hb.mono (Nat.le_of_lt HLT.out)))
  clear hb hw c0 c1 c2 c3 c4 c5 c6 c7 c8 c9 c10 c11 c12 c13
  obtain ⟨c0, c1, c2, c3, c4, c5, c6, c7, c8, c9, c10, c11, c12, c13⟩ := cdr_cells HK5.out
  go_wp2_with fail
  refine (number w1.heap.size _ 5 _ _ HW5.out (by have := HT4.out.len; omega) HOO.out.n1).mono ?_
  rintro e w6 ⟨rfl, hw, hb⟩
  have HW6 : Hid (WrAt w6 w1.heap.size (addN (addF (addF (addF (addF [] 1 (strB cid)) 2 (strB oper)) 3 (strB prov)) 4 (strB sess)) 5 ver)) := hw
  have HK6 := Lib.hid (HK5.out.below hb HLT.out)
  have HB6 := Lib.hid (HB5.out.trans (hb.mono (Nat.le_of_lt HLT.out)))
  clear hb hw c0 c1 c2 c3 c4 c5 c6 c7 c8 c9 c10 c11 c12 c13
  obtain ⟨c0, c1, c2, c3, c4, c5, c6, c7, c8, c9, c10, c11, c12, c13⟩ := cdr_cells HK6.out
  go_wp2_with fail
  refine (number w1.heap.size _ 6 _ _ HW6.out (by have := HT5.out.len; omega) HOO.out.n2).mono ?_
  rintro e w7 ⟨rfl, hw, hb⟩
  have HW7 : Hid (WrAt w7 w1.heap.size (addN (addN (addF (addF (addF (addF [] 1 (strB cid)) 2 (strB oper)) 3 (strB prov)) 4 (strB sess)) 5 ver) 6 start)) := hw
  have HK7 := Lib.hid (HK6.out.below hb HLT.out)
  have HB7 := Lib.hid (HB6.out.trans (hb.mono (Nat.le_of_lt HLT.out)))
  clear hb hw c0 c1 c2 c3 c4 c5 c6 c7 c8 c9 c10 c11 c12 c13
  obtain ⟨c0, c1, c2, c3, c4, c5, c6, c7, c8, c9, c10, c11, c12, c13⟩ := cdr_cells HK7.out
  go_wp2_with fail
  refine (number w1.heap.size _ 7 _ _ HW7.out (by have := HT6.out.len; omega) HOO.out.n3).mono ?_
  rintro e w8 ⟨rfl, hw, hb⟩
  have HW8 : Hid (WrAt w8 w1.heap.size (addN (addN (addN (addF (addF (addF (addF [] 1 (strB cid)) 2 (strB oper)) 3 (strB prov)) 4 (strB sess)) 5 ver) 6 start) 7 stop)) := hw
  have HK8 := Lib.hid (HK7.out.below hb HLT.out)
  have HB8 := Lib.hid (HB7.out.trans (hb.mono (Nat.le_of_lt HLT.out)))
  clear hb hw c0 c1 c2 c3 c4 c5 c6 c7 c8 c9 c10 c11 c12 c13
  obtain ⟨c0, c1, c2, c3, c4, c5, c6, c7, c8, c9, c10, c11, c12, c13⟩ := cdr_cells HK8.out
  go_wp2_with fail
  refine (number w1.heap.size _ 8 _ _ HW8.out (by have := HT7.out.len; omega) HOO.out.n4).mono ?_
  rintro e w9 ⟨rfl, hw, hb⟩
  have HW9 : Hid (WrAt w9 w1.heap.size (addN (addN (addN (addN (addF (addF (addF (addF [] 1 (strB cid)) 2 (strB oper)) 3 (strB prov)) 4 (strB sess)) 5 ver) 6 start) 7 stop) 8 en)) := hw
  have HK9 := Lib.hid (HK8.out.below hb HLT.out)
  have HB9 := Lib.hid (HB8.out.trans (hb.mono (Nat.le_of_lt HLT.out)))
  clear hb hw c0 c1 c2 c3 c4 c5 c6 c7 c8 c9 c10 c11 c12 c13
  obtain ⟨c0, c1, c2, c3, c4, c5, c6, c7, c8, c9, c10, c11, c12, c13⟩ := cdr_cells HK9.out
  go_wp2_with fail
  refine (text w1.heap.size _ 9 _ _ HW9.out (by have := HT8.out.len; omega) (by omega)).mono ?_
  rintro e w10 ⟨rfl, hw, hb⟩
  have HW10 : Hid (WrAt w10 w1.heap.size (addF (addN (addN (addN (addN (addF (addF (addF (addF [] 1 (strB cid)) 2 (strB oper)) 3 (strB prov)) 4 (strB sess)) 5 ver) 6 start) 7 stop) 8 en) 9 (strB tar))) := hw
  have HK10 := Lib.hid (HK9.out.below hb HLT.out)
  have HB10 := Lib.hid (HB9.out.trans (hb.mono (Nat.le_of_lt HLT.out)))
  clear hb hw c0 c1 c2 c3 c4 c5 c6 c7 c8 c9 c10 c11 c12 c13
  obtain ⟨c0, c1, c2, c3, c4, c5, c6, c7, c8, c9, c10, c11, c12, c13⟩ := cdr_cells HK10.out
  go_wp2_with fail
  refine (text w1.heap.size _ 10 _ _ HW10.out (by have := HT9.out.len; omega) (by omega)).mono ?_
  rintro e w11 ⟨rfl, hw, hb⟩
  have HW11 : Hid (WrAt w11 w1.heap.size (addF (addF (addN (addN (addN (addN (addF (addF (addF (addF [] 1 (strB cid)) 2 (strB oper)) 3 (strB prov)) 4 (strB sess)) 5 ver) 6 start) 7 stop) 8 en) 9 (strB tar)) 10 (strB cur))) := hw
  have HK11 := Lib.hid (HK10.out.below hb HLT.out)
  have HB11 := Lib.hid (HB10.out.trans (hb.mono (Nat.le_of_lt HLT.out)))
  clear hb hw c0 c1 c2 c3 c4 c5 c6 c7 c8 c9 c10 c11 c12 c13
  obtain ⟨c0, c1, c2, c3, c4, c5, c6, c7, c8, c9, c10, c11, c12, c13⟩ := cdr_cells HK11.out
  go_wp2_with fail
  refine (EncW.items w1.heap.size _ 11 _ items _ HW11.out (by have := HT10.out.len; omega) (ItmsAt.keep HI.out (Kept.of (show Below w.heap.size w _ from HB11.out))) HHN.out).mono ?_
  rintro e w12 ⟨rfl, hw, hb⟩
  have HW12 : Hid (WrAt w12 w1.heap.size (addI (addF (addF (addN (addN (addN (addN (addF (addF (addF (addF [] 1 (strB cid)) 2 (strB oper)) 3 (strB prov)) 4 (strB sess)) 5 ver) 6 start) 7 stop) 8 en) 9 (strB tar)) 10 (strB cur)) 11 items)) := hw
  have HK12 := Lib.hid (HK11.out.below hb HLT.out)
  have HB12 := Lib.hid (HB11.out.trans (hb.mono (Nat.le_of_lt HLT.out)))
  clear hb hw c0 c1 c2 c3 c4 c5 c6 c7 c8 c9 c10 c11 c12 c13
  obtain ⟨c0, c1, c2, c3, c4, c5, c6, c7, c8, c9, c10, c11, c12, c13⟩ := cdr_cells HK12.out
  go_wp2_with fail
  refine (number w1.heap.size _ 12 _ _ HW12.out (by have := HT11.out.len; omega) HOO.out.n5).mono ?_
  rintro e w13 ⟨rfl, hw, hb⟩
  have HW13 : Hid (WrAt w13 w1.heap.size (addN (addI (addF (addF (addN (addN (addN (addN (addF (addF (addF (addF [] 1 (strB cid)) 2 (strB oper)) 3 (strB prov)) 4 (strB sess)) 5 ver) 6 start) 7 stop) 8 en) 9 (strB tar)) 10 (strB cur)) 11 items) 12 total)) := hw
  have HK13 := Lib.hid (HK12.out.below hb HLT.out)
  have HB13 := Lib.hid (HB12.out.trans (hb.mono (Nat.le_of_lt HLT.out)))
  clear hb hw c0 c1 c2 c3 c4 c5 c6 c7 c8 c9 c10 c11 c12 c13
  obtain ⟨c0, c1, c2, c3, c4, c5, c6, c7, c8, c9, c10, c11, c12, c13⟩ := cdr_cells HK13.out
  cases credit with
  | true =>
    go_wp2_with fail
    refine (number w1.heap.size _ 13 1 _ HW13.out (by have := HT12.out.len; omega) (by unfold I64; omega)).mono ?_
    rintro e w14 ⟨rfl, hw, hb⟩
    have HW14 : Hid (WrAt w14 w1.heap.size (addC (addN (addI (addF (addF (addN (addN (addN (addN (addF (addF (addF (addF [] 1 (strB cid)) 2 (strB oper)) 3 (strB prov)) 4 (strB sess)) 5 ver) 6 start) 7 stop) 8 en) 9 (strB tar)) 10 (strB cur)) 11 items) 12 total) true)) := hw
    have HK14 := Lib.hid (HK13.out.below hb HLT.out)
    have HB14 := Lib.hid (HB13.out.trans (hb.mono (Nat.le_of_lt HLT.out)))
    clear hb hw c0 c1 c2 c3 c4 c5 c6 c7 c8 c9 c10 c11 c12 c13
    obtain ⟨c0, c1, c2, c3, c4, c5, c6, c7, c8, c9, c10, c11, c12, c13⟩ := cdr_cells HK14.out
    go_wp2_with fail
    refine (text w1.heap.size _ 14 _ _ HW14.out (by have := HT13.out.len; omega) (by omega)).mono ?_
    rintro e w15 ⟨rfl, hw, hb⟩
    have HW15 : Hid (WrAt w15 w1.heap.size (addF (addC (addN (addI (addF (addF (addN (addN (addN (addN (addF (addF (addF (addF [] 1 (strB cid)) 2 (strB oper)) 3 (strB prov)) 4 (strB sess)) 5 ver) 6 start) 7 stop) 8 en) 9 (strB tar)) 10 (strB cur)) 11 items) 12 total) true) 14 (strB ref))) := hw
    have HK15 := Lib.hid (HK14.out.below hb HLT.out)
    have HB15 := Lib.hid (HB14.out.trans (hb.mono (Nat.le_of_lt HLT.out)))
    clear hb hw c0 c1 c2 c3 c4 c5 c6 c7 c8 c9 c10 c11 c12 c13
    obtain ⟨c0, c1, c2, c3, c4, c5, c6, c7, c8, c9, c10, c11, c12, c13⟩ := cdr_cells HK15.out
    obtain ⟨vf, hvf, ⟨FA, fn, fk, rfl⟩, hfl⟩ := WrAt.flds HW15.out
    have HPU := Lib.hid (put _ _ _ hfl HT14.out.ok)
    clear hfl
    go_wp2_with fail
    refine HPU.out.mono ?_
    rintro e wz ⟨u, rfl, hu, hb⟩
    have HBZ := Lib.hid (below_call HB15.out hb)
    have HUZ := Lib.hid (hu.lower HB15.out.size)
    obtain ⟨UA, un, uk, rfl⟩ := OwnB.isSl hu
    clear hb hu
    go_wp2_with fail
    go_ret2
    exact ⟨_, by rw [HR.out]; rfl, by rw [HR.out]; exact HUZ.out, HBZ.out⟩
  | false =>
    have HW14 : Hid (WrAt w13 w1.heap.size (addC (addN (addI (addF (addF (addN (addN (addN (addN (addF (addF (addF (addF [] 1 (strB cid)) 2 (strB oper)) 3 (strB prov)) 4 (strB sess)) 5 ver) 6 start) 7 stop) 8 en) 9 (strB tar)) 10 (strB cur)) 11 items) 12 total) false)) := HW13.out
    have HK14 := HK13
    have HB14 := HB13
    go_wp2_with fail
    refine (text w1.heap.size _ 14 _ _ HW14.out (by have := HT13.out.len; omega) (by omega)).mono ?_
    rintro e w15 ⟨rfl, hw, hb⟩
    have HW15 : Hid (WrAt w15 w1.heap.size (addF (addC (addN (addI (addF (addF (addN (addN (addN (addN (addF (addF (addF (addF [] 1 (strB cid)) 2 (strB oper)) 3 (strB prov)) 4 (strB sess)) 5 ver) 6 start) 7 stop) 8 en) 9 (strB tar)) 10 (strB cur)) 11 items) 12 total) false) 14 (strB ref))) := hw
    have HK15 := Lib.hid (HK14.out.below hb HLT.out)
    have HB15 := Lib.hid (HB14.out.trans (hb.mono (Nat.le_of_lt HLT.out)))
    clear hb hw c0 c1 c2 c3 c4 c5 c6 c7 c8 c9 c10 c11 c12 c13
    obtain ⟨c0, c1, c2, c3, c4, c5, c6, c7, c8, c9, c10, c11, c12, c13⟩ := cdr_cells HK15.out
    obtain ⟨vf, hvf, ⟨FA, fn, fk, rfl⟩, hfl⟩ := WrAt.flds HW15.out
    have HPU := Lib.hid (put _ _ _ hfl HT14.out.ok)
    clear hfl
    go_wp2_with fail
    refine HPU.out.mono ?_
    rintro e wz ⟨u, rfl, hu, hb⟩
    have HBZ := Lib.hid (below_call HB15.out hb)
    have HUZ := Lib.hid (hu.lower HB15.out.size)
    obtain ⟨UA, un, uk, rfl⟩ := OwnB.isSl hu
    clear hb hu
    go_wp2_with fail
    go_ret2
    exact ⟨_, by rw [HR.out]; rfl, by rw [HR.out]; exact HUZ.out, HBZ.out⟩
theorem encode (c : CDR) (A : Option Addr) (n k : Nat) (w : World) (ho : c.ok) (hi : ItmsAt w (.slice A n k) c.items) (hs : cdrE c = 0 → ShortS c ∧ c.items.length ≤ 32) : Calls Tryz.prog 18 #[.agg (cdrA c (.slice A n k))] w (EncPost c w) := by
  by_cases hE : cdrE c = 0
  · exact encode_yes c A n k w ho hi hE (hs hE).1 (hs hE).2 (itms_ok hi)
  · exact encode_no c A n k w ho hi hE
end EncW
end Go.Proofs.YtpmcdjpfolgpiaaGreatDoor
