/-
  The walks of the sums of items' parts, tax.Totals and the reference's Totals.
-/
import Derived.Test.YtpgpibojegjogaaTaxP
namespace Go.Proofs.Ytpgpibojegjogaa
namespace MonW
set_option linter.unusedSimpArgs false
set_option linter.unusedVariables false
open Go.RowKit

theorem infoInt : (Try.prog.info? 3).map (fun i => (i.zero, i.size, i.bytes)) = some (some (.int .i64 0), 1, 8) := by kernel_rfl
abbrev OwnN (base : Nat) (w : World) (v : Value) (xs : List Int) : Prop := Own IntR 3 1 base w v xs

theorem enters_own {P : Program} {f : FuncId} {fn : Func} {c : Code} (hf : P.funcs[f]? = some fn) (hname : (fn.name == "runtime.NumGoroutine") = false) (hb : fn.body = some c) : ∀ args w, (callFunc f args).run P w = .ok (.enter f args) w := by
  intro args w
  have h1 : fn.name ≠ "runtime.NumGoroutine" := by simpa using hname
  simp [callFunc, hf, h1, hb, mark]

theorem partNet (x : Itm) (w : World) : Calls Try.prog 36 #[itmV x] w fun e w' => e = .returned (i x.net) ∧ Below w.heap.size w w' := by
  go_enter Try.func36, Try.ntmps36
  go_wp2
  go_ret
  exact ⟨rfl, below_new _ _⟩
theorem partVat (x : Itm) (w : World) : Calls Try.prog 23 #[itmV x] w fun e w' => e = .returned (i x.vat) ∧ Below w.heap.size w w' := by
  go_enter Try.func23, Try.ntmps23
  go_wp2
  go_ret
  exact ⟨rfl, below_new _ _⟩
theorem partGross (x : Itm) (w : World) : Calls Try.prog 24 #[itmV x] w fun e w' => e = .returned (i x.gross) ∧ Below w.heap.size w w' := by
  go_enter Try.func24, Try.ntmps24
  go_wp2
  go_ret
  exact ⟨rfl, below_new _ _⟩
theorem egNet : ∀ args w, (callFunc 36 args).run Try.prog w = .ok (.enter 36 args) w := enters_own Try.func36 (by kernel_rfl) rfl
theorem egVat : ∀ args w, (callFunc 23 args).run Try.prog w = .ok (.enter 23 args) w := enters_own Try.func23 (by kernel_rfl) rfl
theorem egGross : ∀ args w, (callFunc 24 args).run Try.prog w = .ok (.enter 24 args) w := enters_own Try.func24 (by kernel_rfl) rfl

def mixN (f : Itm → Int) (cs : List Itm) (k : Nat) : List Int := (cs.take k).map f ++ List.replicate (cs.length - k) 0
theorem mixN_len {f : Itm → Int} {cs : List Itm} {k : Nat} (h : k ≤ cs.length) : (mixN f cs k).length = cs.length := by
  unfold mixN
  rw [List.length_append, List.length_map, List.length_take, List.length_replicate]
  omega
theorem mixN_zero (f : Itm → Int) (cs : List Itm) : mixN f cs 0 = List.replicate cs.length 0 := by unfold mixN; simp
theorem mixN_all (f : Itm → Int) (cs : List Itm) : mixN f cs cs.length = cs.map f := by unfold mixN; simp
theorem mixN_succ {f : Itm → Int} {cs : List Itm} {k : Nat} (hk : k < cs.length) : (mixN f cs k).set k (f cs[k]) = mixN f cs (k + 1) := by
  unfold mixN
  have hl : ((cs.take k).map f).length = k := by rw [List.length_map, List.length_take]; omega
  rw [map_take hk, List.set_append, if_neg (by omega), hl, Nat.sub_self, show cs.length - k = (cs.length - (k + 1)) + 1 by omega, List.replicate_succ, List.set_cons_zero, List.append_assoc]
  rfl

set_option maxHeartbeats 2000000 in
theorem sumF (fid : FuncId) (f : Itm → Int) (hf : ∀ x : Itm, x.ok → I64 (f x)) (hp : ∀ (x : Itm) (w : World), Calls Try.prog fid #[itmV x] w fun e w' => e = .returned (i (f x)) ∧ Below w.heap.size w w')
    (he : ∀ args w, (callFunc fid args).run Try.prog w = .ok (.enter fid args) w)
    (v : Value) (cs : List Itm) (w : World) (h : ItmsAt w v cs) (hn : cs.length ≤ 16777216) :
    Calls Try.prog 22 #[v, .func (.func fid) #[] #[]] w fun e w' => e = .returned (.tuple #[i (sumV (tot (cs.map f))), i (sumE (tot (cs.map f)))]) ∧ Below w.heap.size w w' := by
  obtain ⟨A, c, rfl, h1, h2⟩ := SliceAt.form h
  obtain ⟨i0, hi0, hz0, hz1, hz2⟩ := info_parts infoInt
  unfold maxLen at h2
  have HC := Lib.hid h
  have HF := Lib.hid hf
  have HP := Lib.hid hp
  clear h hf hp
  go_enter Try.func22, Try.ntmps22
  go_wp2_with (at_make; refine wpList_make_full _ rfl _ _ 49 rfl w.heap.size 3 i0 _ 1 Try.underlying49 hi0 hz0 hz1 .i64 .i64 _ _ cs.length rfl rfl rfl rfl (by rw [hz2]; omega) (by unfold maxLen; omega) (Nat.le_refl _) ?_)
  intro w0 hown0 hgr0
  have HO0 : Hid (OwnN w.heap.size w0 (.slice (some ⟨w.heap.size, 0, none⟩) cs.length cs.length) (mixN f cs 0)) := by
    show OwnN _ _ _ _
    rw [mixN_zero]
    exact own_made (x := (0 : Int)) (z := i 0) (by omega) rfl ⟨rfl, by unfold I64; omega⟩ (by rw [Nat.mul_one]; exact hown0)
  have HB0 : Hid (Below w.heap.size w w0) := (Below.refl _ _).grown hgr0 (Nat.le_refl _) (fun k hk => by cases hk)
  clear hown0 hgr0
  go_wp2
  go_loopg [14] cs.length (fun gg s14 wr => ∃ (kk : Nat), kk ≤ cs.length ∧ cs.length - kk ≤ gg ∧ s14 = i kk ∧ Hid (OwnN w.heap.size wr (.slice (some ⟨w.heap.size, 0, none⟩) cs.length cs.length) (mixN f cs kk)) ∧ Hid (Below w.heap.size w wr))
  case atStart => exact ⟨0, Nat.zero_le _, by omega, rfl, HO0, HB0⟩
  case round =>
    obtain ⟨kk, hkk, hg, rfl, HO, BW⟩ := hrel
    clear HO0 HB0
    by_cases hlt : kk < cs.length
    · have hltz : (kk : Int) < (cs.length : Int) := by omega
      have hk0 : (0 : Int) ≤ (kk : Int) := by omega
      obtain ⟨b, off, rfl, _, hok, hrow⟩ := ItmsAt.at_ HC.out hlt
      obtain ⟨l1, l2, l3, l4, l5, l6, l7⟩ := hrow wr (Kept.of BW.out)
      clear hrow
      have HOK := Lib.hid (HF.out _ hok)
      have HMT := Lib.hid (mixN_succ (f := f) hlt)
      have HPP := Lib.hid (fun W => HP.out cs[kk] W)
      have HML := Lib.hid (mixN_len (f := f) hkk)
      clear hok
      generalize cs[kk] = y at *
      generalize f y = fy at *
      go_wp2_with fail
      refine (HPP.out _).mono ?_
      rintro e w1 ⟨rfl, hb1⟩
      have hO1 : OwnN w.heap.size w1 (.slice (some ⟨w.heap.size, 0, none⟩) cs.length cs.length) (mixN f cs kk) := by
        refine Own.call HO.out ?_
        repeat (first | (with_reducible exact Below.refl _ _) | (with_reducible refine below_drewN' ?_ _) | (with_reducible refine Below.drew ?_) | (with_reducible refine Below.setCell ?_ (by first | (simp; done) | (simp; omega) | omega) _) | (with_reducible refine below_alloc ?_ _) | (with_reducible refine Below.alloc ?_ (by first | (simp; done) | (simp; omega) | omega) _) | (with_reducible exact hb1) | (with_reducible refine below_call ?_ hb1))
      have hB1 : Below w.heap.size w w1 := by
        have hB := BW.out
        repeat (first | (with_reducible exact Below.refl _ _) | (with_reducible refine below_drewN' ?_ _) | (with_reducible refine Below.drew ?_) | (with_reducible refine Below.setCell ?_ (by first | (simp; done) | (simp; omega) | omega) _) | (with_reducible refine below_alloc ?_ _) | (with_reducible refine Below.alloc ?_ (by first | (simp; done) | (simp; omega) | omega) _) | (with_reducible exact hb1) | (with_reducible refine below_call ?_ hb1) | (with_reducible exact hB) | (with_reducible refine below_call ?_ hB))
      obtain ⟨⟨u0, t0⟩, f0⟩ := hO1.there (j := kk) (o := 0) HML.out.symm (by rw [HML.out]; omega) (by omega)
      rw [Nat.add_zero, Nat.mul_one] at t0 f0
      have hgz : w.heap.size < w1.heap.size := World.block_lt_of_cell? w1 _ t0
      have HP1 := Lib.hid (Own.put hO1 (j := kk) HML.out.symm (by rw [HML.out]; omega) rfl (⟨rfl, HOK.out⟩ : IntR [i fy] fy))
      rw [HMT.out, Nat.mul_one] at HP1
      have HB2 : Hid (Below w.heap.size w _) := hB1.grown HP1.out.2 hB1.size (fun k hk => by injection hk with hk; omega)
      clear hO1 hB1 l1 l2 l3 l4 l5 l6 l7
      go_wp2_with fail
      go_roundg (cs.length - (kk + 1))
      case measure => omega
      case rel => exact ⟨kk + 1, by omega, by omega, by go_num, HP1.out.1, HB2⟩
    · have hltz : ¬ (kk : Int) < (cs.length : Int) := by omega
      have hke : kk = cs.length := by omega
      subst hke
      rw [mixN_all] at HO
      have HS := Lib.hid (msum _ _ wr (HO.out.at_ (by omega) : IntsAt wr _ _))
      generalize hsv : sumV (tot (cs.map f)) = sv at HS
      generalize hse : sumE (tot (cs.map f)) = se at HS
      have HV := Lib.hid (And.intro hsv hse)
      clear hsv hse
      go_wp2_with fail
      refine HS.out.mono ?_
      rintro e w1 ⟨rfl, hb1⟩
      go_wp2_with fail
      go_ret2
      exact ⟨ret2 ⟨HV.out.1.symm, HV.out.2.symm⟩, below_call BW.out hb1⟩

def sNet (cs : List Itm) : Int := tot (cs.map (·.net))
def sVat (cs : List Itm) : Int := tot (cs.map (·.vat))
def sGross (cs : List Itm) : Int := tot (cs.map (·.gross))
theorem netSum (v : Value) (cs : List Itm) (w : World) (h : ItmsAt w v cs) (hn : cs.length ≤ 16777216) :
    Calls Try.prog 21 #[v] w fun e w' => e = .returned (.tuple #[i (sumV (sNet cs)), i (sumE (sNet cs))]) ∧ Below w.heap.size w w' := by
  obtain ⟨A, c, rfl, h1, h2⟩ := SliceAt.form h
  have HS := Lib.hid (sumF 36 (·.net) (fun x hx => hx.2.2.2.2.1) partNet egNet _ cs w h hn)
  unfold sNet
  generalize sumV (tot (cs.map (·.net))) = sv at *
  generalize sumE (tot (cs.map (·.net))) = se at *
  go_enter Try.func21, Try.ntmps21
  go_wp2_with fail
  refine HS.out.mono ?_
  rintro e w1 ⟨rfl, hb1⟩
  go_wp2_with fail
  go_ret2
  exact ⟨rfl, hb1⟩

def totOk (cs : List Itm) : Bool := fitI (sNet cs) && fitI (sVat cs) && fitI (sGross cs)
def totX (cs : List Itm) (x : Int) : Int := if totOk cs then x else 0
def totE (cs : List Itm) : Int := if totOk cs then 0 else 20
def totV (cs : List Itm) : Value := .tuple #[i (totX cs (sNet cs)), i (totX cs (sVat cs)), i (totX cs (sGross cs)), i (totE cs)]
theorem sum_ways (S : Int) : (fitI S = true ∧ sumV S = S ∧ sumE S = 0) ∨ (fitI S = false ∧ sumV S = 0 ∧ sumE S = 20) := by
  cases h : fitI S
  · exact .inr ⟨rfl, by unfold sumV; rw [h]; rfl, by unfold sumE; rw [h]; rfl⟩
  · exact .inl ⟨rfl, by unfold sumV; rw [h]; rfl, by unfold sumE; rw [h]; rfl⟩
theorem totNo {cs : List Itm} (h : totOk cs = false) : totV cs = .tuple #[i 0, i 0, i 0, i 20] := by unfold totV totX totE; rw [h]; rfl
theorem totYes {cs : List Itm} (h : totOk cs = true) : totV cs = .tuple #[i (sNet cs), i (sVat cs), i (sGross cs), i 0] := by unfold totV totX totE; rw [h]; rfl

set_option maxHeartbeats 1000000 in
theorem totals (v : Value) (cs : List Itm) (w : World) (h : ItmsAt w v cs) (hn : cs.length ≤ 16777216) :
    Calls Try.prog 11 #[v] w fun e w' => e = .returned (totV cs) ∧ Below w.heap.size w w' := by
  obtain ⟨A, c, rfl, h1, h2⟩ := SliceAt.form h
  have H1 := Lib.hid (netSum _ cs w h hn)
  have H2 := Lib.hid (fun (W : World) (hb : Below w.heap.size w W) => sumF 23 (·.vat) (fun x hx => hx.2.2.2.2.2.1) partVat egVat _ cs W (h.call hb) hn)
  have H3 := Lib.hid (fun (W : World) (hb : Below w.heap.size w W) => sumF 24 (·.gross) (fun x hx => hx.2.2.2.2.2.2) partGross egGross _ cs W (h.call hb) hn)
  have ok : totOk cs = (fitI (sNet cs) && fitI (tot (cs.map (·.vat))) && fitI (tot (cs.map (·.gross)))) := rfl
  have HY : Hid (totOk cs = true → totV cs = .tuple #[i (sNet cs), i (tot (cs.map (·.vat))), i (tot (cs.map (·.gross))), i 0]) := fun h => totYes h
  have HN : Hid (totOk cs = false → totV cs = .tuple #[i 0, i 0, i 0, i 20]) := fun h => totNo h
  have w1 := sum_ways (sNet cs)
  have w2 := sum_ways (tot (cs.map (·.vat)))
  have w3 := sum_ways (tot (cs.map (·.gross)))
  generalize sNet cs = a at *
  generalize tot (cs.map (·.vat)) = b at *
  generalize tot (cs.map (·.gross)) = d at *
  clear h
  rcases w1 with ⟨f1, e1, e2⟩ | ⟨f1, e1, e2⟩
  · rw [e1, e2] at H1
    rcases w2 with ⟨f2, e3, e4⟩ | ⟨f2, e3, e4⟩
    · rw [e3, e4] at H2
      rcases w3 with ⟨f3, e5, e6⟩ | ⟨f3, e5, e6⟩
      · rw [e5, e6] at H3
        rw [f1, f2, f3] at ok
        have HF := Lib.hid (HY.out ok)
        clear ok HY HN f1 f2 f3 e1 e2 e3 e4 e5 e6
        go_enter Try.func11, Try.ntmps11
        go_wp2_with fail
        refine H1.out.mono ?_
        rintro e w1 ⟨rfl, hb1⟩
        go_wp2_with fail
        refine (H2.out w1 hb1).mono ?_
        rintro e w2 ⟨rfl, hb2⟩
        have hb3 := below_call hb1 hb2
        go_wp2_with fail
        refine (H3.out w2 hb3).mono ?_
        rintro e w3 ⟨rfl, hb4⟩
        go_wp2_with fail
        refine bodyPost_ret (v := .tuple #[i a, i b, i d, i 0]) (by simp [results, Try.results11, go_sem]) rfl ⟨by rw [HF.out], below_call hb3 hb4⟩
      · rw [e5, e6] at H3
        rw [f1, f2, f3] at ok
        have HF := Lib.hid (HN.out ok)
        clear ok HY HN f1 f2 f3 e1 e2 e3 e4 e5 e6
        go_enter Try.func11, Try.ntmps11
        go_wp2_with fail
        refine H1.out.mono ?_
        rintro e w1 ⟨rfl, hb1⟩
        go_wp2_with fail
        refine (H2.out w1 hb1).mono ?_
        rintro e w2 ⟨rfl, hb2⟩
        have hb3 := below_call hb1 hb2
        go_wp2_with fail
        refine (H3.out w2 hb3).mono ?_
        rintro e w3 ⟨rfl, hb4⟩
        go_wp2_with fail
        refine bodyPost_ret (v := .tuple #[i 0, i 0, i 0, i 20]) (by simp [results, Try.results11, go_sem]) rfl ⟨by rw [HF.out], below_call hb3 hb4⟩
    · rw [e3, e4] at H2
      rw [f1, f2] at ok
      have HF := Lib.hid (HN.out ok)
      clear ok HY HN f1 f2 e1 e2 e3 e4 w3
      go_enter Try.func11, Try.ntmps11
      go_wp2_with fail
      refine H1.out.mono ?_
      rintro e w1 ⟨rfl, hb1⟩
      go_wp2_with fail
      refine (H2.out w1 hb1).mono ?_
      rintro e w2 ⟨rfl, hb2⟩
      have hb3 := below_call hb1 hb2
      go_wp2_with fail
      refine bodyPost_ret (v := .tuple #[i 0, i 0, i 0, i 20]) (by simp [results, Try.results11, go_sem]) rfl ⟨by rw [HF.out], hb3⟩
  · rw [e1, e2] at H1
    rw [f1] at ok
    have HF := Lib.hid (HN.out ok)
    clear ok HY HN f1 e1 e2 w2 w3
    go_enter Try.func11, Try.ntmps11
    go_wp2_with fail
    refine H1.out.mono ?_
    rintro e w1 ⟨rfl, hb1⟩
    go_wp2_with fail
    refine bodyPost_ret (v := .tuple #[i 0, i 0, i 0, i 20]) (by simp [results, Try.results11, go_sem]) rfl ⟨by rw [HF.out], hb1⟩
end MonW
end Go.Proofs.Ytpgpibojegjogaa
