/-
  The walks of Same (at equal lists), tax.Negate and the reference's Negate.
-/
import Derived.Test.YtpgpibojegjogaaTaxL
import Derived.Test.YtpgpibojegjogaaRow
import Derived.Laws.StructEq
namespace Go.Proofs.Ytpgpibojegjogaa
namespace MonW
set_option linter.unusedSimpArgs false
set_option linter.unusedVariables false
open Go.RowKit

set_option maxHeartbeats 800000 in
theorem neqItm (x : Itm) (w : World) : (binOp .neq 30 (itmV x) (itmV x)).run Try.prog w = .ok (.bool false) w := by
  have u3 := Try.underlying3
  have a3 := Try.isAgg3
  have z3 := Try.sizeOf3
  have hS : Try.prog.underlying 30 = some (.struct (Try.prog.fieldsOf 30)) := by kernel_rfl
  have hp : Try.prog.stoodInHeld 30 = false := by kernel_rfl
  rw [run_neq_struct, show (10000 : Nat) = 9999 + 1 from rfl, run_equalIn_agg w 9999 30 _ _ hS hp]
  simp only [Program.fieldsOf, Try.underlying30]
  go_simp

set_option maxHeartbeats 1600000 in
theorem same (cs : List Itm) (v v' : Value) (w : World) (h : ItmsAt w v cs) (h' : ItmsAt w v' cs) :
    Calls Try.prog 10 #[v, v'] w fun e w' => e = .returned (.bool true) ∧ ∃ m, w' = w.drewN m := by
  obtain ⟨A, c, rfl, h1, h2⟩ := SliceAt.form h
  obtain ⟨A', c', rfl, h1', h2'⟩ := SliceAt.form h'
  unfold maxLen at h2 h2'
  have HC := Lib.hid h
  have HC' := Lib.hid h'
  clear h h'
  go_enter Try.func10, Try.ntmps10
  go_wp2_with fail
  go_loopg [5] cs.length (fun gg s5 wr => ∃ kk m : Nat, kk ≤ cs.length ∧ cs.length - kk ≤ gg ∧ s5 = i kk ∧ wr = w.drewN m)
  case atStart => exact ⟨0, 0, Nat.zero_le _, by omega, rfl, rfl⟩
  case round =>
    obtain ⟨kk, m, hkk, hg, rfl, rfl⟩ := hrel
    by_cases hlt : kk < cs.length
    · have hltz : (kk : Int) < (cs.length : Int) := by omega
      have hk0 : (0 : Int) ≤ (kk : Int) := by omega
      obtain ⟨b, off, rfl, _, _, hrow⟩ := ItmsAt.at_ HC.out hlt
      obtain ⟨b', off', rfl, _, _, hrow'⟩ := ItmsAt.at_ HC'.out hlt
      obtain ⟨l0, l1, l2, l3, l4, l5, l6⟩ := hrow w (Kept.refl _)
      obtain ⟨m0, m1, m2, m3, m4, m5, m6⟩ := hrow' w (Kept.refl _)
      clear hrow hrow'
      generalize cs[kk] = y at *
      have hq := fun W => neqItm y W
      go_wp2_with fail
      go_quiet (fail)
      go_wp2_with fail
      go_roundg (cs.length - (kk + 1))
      case measure => omega
      case rel => exact ⟨kk + 1, m + nq, by omega, by omega, by go_num, rfl⟩
    · have hltz : ¬ (kk : Int) < (cs.length : Int) := by omega
      go_wp2_with fail
      go_ret
      exact ⟨rfl, m, rfl⟩

def ngi (x : Itm) : Itm := ⟨x.kind, wrap64 (-x.price), x.tax, x.qty, wrap64 (-x.net), wrap64 (-x.vat), wrap64 (-x.gross)⟩
theorem wrap_I64 (n : Int) : I64 (wrap64 n) := by unfold wrap64 I64; omega
theorem ngi_ok {x : Itm} (h : x.ok) : (ngi x).ok := by
  obtain ⟨h1, h2, h3, h4, h5, h6, h7⟩ := h
  exact ⟨h1, wrap_I64 _, h3, h4, wrap_I64 _, wrap_I64 _, wrap_I64 _⟩
def ngTo (cs : List Itm) (k : Nat) : List Itm := (cs.take k).map ngi
theorem ngTo_succ {cs : List Itm} {k : Nat} (hk : k < cs.length) : ngTo cs (k + 1) = ngTo cs k ++ [ngi cs[k]] := map_take hk
theorem ngTo_all (cs : List Itm) : ngTo cs cs.length = cs.map ngi := by unfold ngTo; rw [List.take_length]
theorem ngTo_len {cs : List Itm} {k : Nat} (h : cs.length ≤ 16777216) : (ngTo cs k).length ≤ 16777216 := by unfold ngTo; rw [List.length_map, List.length_take]; omega

def NegPost (cs : List Itm) (w : World) (e : Ending) (w' : World) : Prop := ∃ v, e = .returned v ∧ ItmsAt w' v (cs.map ngi) ∧ Below w.heap.size w w'

set_option maxHeartbeats 2000000 in
theorem rnegate (v : Value) (cs : List Itm) (w : World) (h : ItmsAt w v cs) (hn : cs.length ≤ 16777216) : Calls Try.prog 15 #[v] w (NegPost cs w) := by
  obtain ⟨A, c, rfl, h1, h2⟩ := SliceAt.form h
  obtain ⟨i0, hi0, hz0, hz1, hz2⟩ := info_parts infoItm
  unfold maxLen at h2
  have HC := Lib.hid h
  clear h
  go_enter Try.func15, Try.ntmps15
  go_wp2
  go_loopg [3, 4] cs.length (fun gg s4 s17 wr => ∃ (kk : Nat) (A1 : Option Addr) (n1 c1 : Nat), kk ≤ cs.length ∧ cs.length - kk ≤ gg ∧ s4 = .slice A1 n1 c1 ∧ s17 = i kk ∧ Hid (OwnI w.heap.size wr (.slice A1 n1 c1) (ngTo cs kk)) ∧ Hid (Below w.heap.size w wr))
  case atStart => exact ⟨0, _, _, _, Nat.zero_le _, by omega, rfl, rfl, Own.nil, Below.refl _ w⟩
  case round =>
    obtain ⟨kk, A1, n1, c1, hkk, hg, rfl, rfl, HO, BW⟩ := hrel
    by_cases hlt : kk < cs.length
    · have hltz : (kk : Int) < (cs.length : Int) := by omega
      obtain ⟨b, off, rfl, _, hok, hrow⟩ := ItmsAt.at_ HC.out hlt
      obtain ⟨l1, l2, l3, l4, l5, l6, l7⟩ := hrow wr (Kept.of BW.out)
      clear hrow
      have HOK := Lib.hid (ngi_ok hok)
      have HMT := Lib.hid (ngTo_succ hlt)
      clear hok
      generalize cs[kk] = y at *
      have HO1 : Hid (OwnI w.heap.size ((wr.alloc (.cells #[i y.kind, i (wrap64 (-y.price)), i y.tax, i y.qty, i (wrap64 (-y.net)), i (wrap64 (-y.vat)), i (wrap64 (-y.gross))] 30)).alloc (.cells #[i y.kind, i (wrap64 (-y.price)), i y.tax, i y.qty, i (wrap64 (-y.net)), i (wrap64 (-y.vat)), i (wrap64 (-y.gross))] 30)) (.slice A1 n1 c1) (ngTo cs kk)) := by
        refine Own.call HO.out ?_
        repeat (first | (with_reducible exact Below.refl _ _) | (with_reducible refine below_drewN' ?_ _) | (with_reducible refine Below.drew ?_) | (with_reducible refine Below.setCell ?_ (by first | (simp; done) | (simp; omega) | omega) _) | (with_reducible refine below_alloc ?_ _) | (with_reducible refine Below.alloc ?_ (by first | (simp; done) | (simp; omega) | omega) _))
      have HB1 : Hid (Below w.heap.size w ((wr.alloc (.cells #[i y.kind, i (wrap64 (-y.price)), i y.tax, i y.qty, i (wrap64 (-y.net)), i (wrap64 (-y.vat)), i (wrap64 (-y.gross))] 30)).alloc (.cells #[i y.kind, i (wrap64 (-y.price)), i y.tax, i y.qty, i (wrap64 (-y.net)), i (wrap64 (-y.vat)), i (wrap64 (-y.gross))] 30))) := below_alloc (below_alloc BW.out _) _
      have HRR : Hid (ItmR (#[i y.kind, i (wrap64 (-y.price)), i y.tax, i y.qty, i (wrap64 (-y.net)), i (wrap64 (-y.vat)), i (wrap64 (-y.gross))] : Array Value).toList (ngi y)) := itmR_lit HOK.out
      have HLEN : Hid ((ngTo cs kk).length ≤ 16777216) := ngTo_len hn
      go_wp2_with (at_builtin; refine wpList_grow rfl (.tmp 32) (.tmp 34) 24 rfl i0 _ 56 Try.underlying24 hi0 hz0 hz1 hz2 rfl (by omega) rfl HO1.out (wr.heap.size + 1) (ngi y) _ 30 rfl (by simpa using Blk.new (wr.alloc _) _ _) rfl HRR.out (one_itm _ _ HRR.out) HLEN.out (by omega) HB1.out.size ?_)
      rintro v' w3 hown2 - hbel2 ⟨A2, n2, c2, rfl⟩
      have HO2 : Hid (OwnI w.heap.size w3 (.slice A2 n2 c2) (ngTo cs (kk + 1))) := by
        show OwnI _ _ _ _
        rw [HMT.out]; exact hown2
      have HB3 : Hid (Below w.heap.size w w3) := HB1.out.trans hbel2
      clear hown2 hbel2 HO1 HB1 l1 l2 l3 l4 l5 l6 l7
      go_wp2_with fail
      go_roundg (cs.length - (kk + 1))
      case measure => omega
      case rel => exact ⟨kk + 1, _, _, _, by omega, by omega, rfl, by go_num, HO2, HB3⟩
    · have hltz : ¬ (kk : Int) < (cs.length : Int) := by omega
      have hke : kk = cs.length := by omega
      subst hke
      rw [ngTo_all] at HO
      go_wp2_with fail
      go_ret
      exact ⟨_, rfl, HO.out.at_ (by omega), BW.out⟩

theorem putCells7 (w : World) (g p : Nat) (a b c d e f h : Value) : putCells w g p [a, b, c, d, e, f, h] = ((((((w.setCell ⟨g, p, none⟩ a).setCell ⟨g, p + 1, none⟩ b).setCell ⟨g, p + 2, none⟩ c).setCell ⟨g, p + 3, none⟩ d).setCell ⟨g, p + 4, none⟩ e).setCell ⟨g, p + 5, none⟩ f).setCell ⟨g, p + 6, none⟩ h := by
  simp only [putCells, Nat.add_assoc, Nat.reduceAdd]
def mixTo (cs : List Itm) (k : Nat) : List Itm := ngTo cs k ++ List.replicate (cs.length - k) noItm
theorem mixTo_len {cs : List Itm} {k : Nat} (h : k ≤ cs.length) : (mixTo cs k).length = cs.length := by
  unfold mixTo ngTo
  rw [List.length_append, List.length_map, List.length_take, List.length_replicate]
  omega
theorem mixTo_zero (cs : List Itm) : mixTo cs 0 = List.replicate cs.length noItm := by unfold mixTo ngTo; simp
theorem mixTo_all (cs : List Itm) : mixTo cs cs.length = cs.map ngi := by unfold mixTo; rw [ngTo_all]; simp
theorem mixTo_succ {cs : List Itm} {k : Nat} (hk : k < cs.length) : (mixTo cs k).set k (ngi cs[k]) = mixTo cs (k + 1) := by
  unfold mixTo
  have hl : (ngTo cs k).length = k := by unfold ngTo; rw [List.length_map, List.length_take]; omega
  rw [ngTo_succ hk, List.set_append, if_neg (by omega), hl, Nat.sub_self, show cs.length - k = (cs.length - (k + 1)) + 1 by omega, List.replicate_succ, List.set_cons_zero, List.append_assoc]
  rfl

set_option maxHeartbeats 2000000 in
theorem negate (v : Value) (cs : List Itm) (w : World) (h : ItmsAt w v cs) (hn : cs.length ≤ 16777216) : Calls Try.prog 14 #[v] w (NegPost cs w) := by
  obtain ⟨A, c, rfl, h1, h2⟩ := SliceAt.form h
  obtain ⟨i0, hi0, hz0, hz1, hz2⟩ := info_parts infoItm
  unfold maxLen at h2
  have HC := Lib.hid h
  clear h
  go_enter Try.func14, Try.ntmps14
  go_wp2_with (at_make; refine wpList_make_full _ rfl _ _ 24 rfl w.heap.size 30 i0 _ 7 Try.underlying24 hi0 hz0 hz1 .i64 .i64 _ _ cs.length rfl rfl rfl rfl (by rw [hz2]; omega) (by unfold maxLen; omega) (Nat.le_refl _) ?_)
  intro w0 hown0 hgr0
  have HO0 : Hid (OwnI w.heap.size w0 (.slice (some ⟨w.heap.size, 0, none⟩) cs.length cs.length) (mixTo cs 0)) := by
    show OwnI _ _ _ _
    rw [mixTo_zero]
    exact own_made (x := noItm) (z := itmV noItm) (by omega) rfl ⟨rfl, noItm_ok⟩ hown0
  have HB0 : Hid (Below w.heap.size w w0) := (Below.refl _ _).grown hgr0 (Nat.le_refl _) (fun k hk => by cases hk)
  clear hown0 hgr0
  go_wp2
  go_loopg [11] cs.length (fun gg s11 wr => ∃ (kk : Nat), kk ≤ cs.length ∧ cs.length - kk ≤ gg ∧ s11 = i kk ∧ Hid (OwnI w.heap.size wr (.slice (some ⟨w.heap.size, 0, none⟩) cs.length cs.length) (mixTo cs kk)) ∧ Hid (Below w.heap.size w wr))
  case atStart => exact ⟨0, Nat.zero_le _, by omega, rfl, HO0, HB0⟩
  case round =>
    obtain ⟨kk, hkk, hg, rfl, HO, BW⟩ := hrel
    clear HO0 HB0
    by_cases hlt : kk < cs.length
    · have hltz : (kk : Int) < (cs.length : Int) := by omega
      have hk0 : (0 : Int) ≤ (kk : Int) := by omega
      obtain ⟨b, off, rfl, _, hok, hrow⟩ := ItmsAt.at_ HC.out hlt
      obtain ⟨l1, l2, l3, l4, l5, l6, l7⟩ := hrow wr (Kept.of BW.out)
      clear hrow
      have HOK := Lib.hid (ngi_ok hok)
      have HMT := Lib.hid (mixTo_succ hlt)
      clear hok
      generalize cs[kk] = y at *
      have hml := mixTo_len hkk
      obtain ⟨⟨u0, t0⟩, f0⟩ := HO.out.there (j := kk) (o := 0) hml.symm (by omega) (by omega)
      obtain ⟨⟨u1, t1⟩, f1⟩ := HO.out.there (j := kk) (o := 1) hml.symm (by omega) (by omega)
      obtain ⟨⟨u2, t2⟩, f2⟩ := HO.out.there (j := kk) (o := 2) hml.symm (by omega) (by omega)
      obtain ⟨⟨u3, t3⟩, f3⟩ := HO.out.there (j := kk) (o := 3) hml.symm (by omega) (by omega)
      obtain ⟨⟨u4, t4⟩, f4⟩ := HO.out.there (j := kk) (o := 4) hml.symm (by omega) (by omega)
      obtain ⟨⟨u5, t5⟩, f5⟩ := HO.out.there (j := kk) (o := 5) hml.symm (by omega) (by omega)
      obtain ⟨⟨u6, t6⟩, f6⟩ := HO.out.there (j := kk) (o := 6) hml.symm (by omega) (by omega)
      rw [Nat.add_zero] at t0 f0
      have hgz : w.heap.size < wr.heap.size := World.block_lt_of_cell? wr _ t0
      have HRR : Hid (ItmR [i y.kind, i (wrap64 (-y.price)), i y.tax, i y.qty, i (wrap64 (-y.net)), i (wrap64 (-y.vat)), i (wrap64 (-y.gross))] (ngi y)) := itmR_lit HOK.out
      have HP := Lib.hid (Own.put HO.out (j := kk) hml.symm (by omega) rfl HRR.out)
      rw [HMT.out, putCells7] at HP
      have HB1 : Hid (Below w.heap.size w _) := BW.out.grown HP.out.2 BW.out.size (fun k hk => by injection hk with hk; omega)
      clear hml
      go_wp2_with fail
      go_roundg (cs.length - (kk + 1))
      case measure => omega
      case rel => exact ⟨kk + 1, by omega, by omega, by go_num, HP.out.1.call (below_new _ _), below_alloc HB1.out _⟩
    · have hltz : ¬ (kk : Int) < (cs.length : Int) := by omega
      have hke : kk = cs.length := by omega
      subst hke
      rw [mixTo_all] at HO
      go_wp2_with fail
      go_ret
      exact ⟨_, rfl, HO.out.at_ (by omega), BW.out⟩
end MonW
end Go.Proofs.Ytpgpibojegjogaa
