/-
  The walks of the statements TariffFind, TariffPick.
-/
import Derived.Test.YtkooekdcegfapaaDoorTarM
namespace Go.Proofs.YtkooekdcegfapaaDoor
namespace TarW
set_option linter.unusedSimpArgs false
set_option linter.unusedVariables false
open Go.RowKit CalW

def fnd (t : Trf) (c : Cs) : Option Comp := findC (fun x => Tar.holds x c.z c.s c.a c.since c.en c.po) c.k t.els
set_option maxRecDepth 100000 in
set_option maxHeartbeats 1600000 in
theorem lfind (t : Trf) (u : Value) (c : Cs) (w : World) (ht : Tab w) (he : ElemsAt w u t.els) {o : Option Comp} (ho : fnd t c = o) :
    Calls Tryd.prog 16 #[trfV t u, .agg (caseA c)] w (FindPost o w) := by
  subst ho
  obtain ⟨A, k, rfl, _, _⟩ := SliceAt.form he
  have hB := below_alloc (below_alloc (below_new w (.cells (trfA t (.slice A t.els.length k)) 26)) (.cells (caseA c) 36)) (.cells #[.int .i64 0, .int .i64 0, .int .i64 0, .int .i64 0] 40)
  have g4 := Blk.newG (w := (w.alloc (.cells (trfA t (.slice A t.els.length k)) 26)).alloc (.cells (caseA c) 36)) (g := w.heap.size + 1 + 1) (by simp) 40 #[.int .i64 0, .int .i64 0, .int .i64 0, .int .i64 0]
  have HF : Hid (∀ W, Tab W → ElemsAt W (.slice A t.els.length k) t.els → Calls Tryd.prog 27 #[trfV t (.slice A t.els.length k), zone c.z c.s, i c.k, i c.a, i c.since, i c.en, i c.po] W (FindPost (fnd t c) W)) := fun W h1 h2 => find_ t _ c.z c.s c.k c.a c.since c.en c.po W h1 h2
  generalize fnd t c = o at *
  have hT := ht.below hB ht.lt
  have hE := he.call hB
  clear ht he
  go_enter Tryd.func16, Tryd.ntmps16
  go_wp2_with fail
  refine (HF.out _ hT hE).mono ?_
  rintro e w1 ⟨rfl, hb1⟩
  have g5 := g4.call hb1
  have cc := g5.cell
  have fz := g5.frozen
  obtain ⟨q, hq⟩ : ∃ q, compO o = q := ⟨_, rfl⟩
  obtain ⟨b, hb⟩ : ∃ b, o.isSome = b := ⟨_, rfl⟩
  rw [hq, hb]
  have HQ := Lib.hid hq
  have HBo := Lib.hid hb
  clear hq hb
  have HB1 := Lib.hid (below_call hB hb1)
  clear HF hT hE hb1 g4
  go_wp2_with fail
  refine bodyPost_ret (v := .tuple #[compV q, .bool b]) (by simp [results, Tryd.results16, go_sem, cc]) rfl ?_
  exact ⟨by rw [HQ.out, HBo.out], set4 HB1.out (by omega) _ _ _ _⟩

set_option maxHeartbeats 800000 in
theorem eqComp (x : Comp) (w : World) : (binOp .eql 40 (compV x) (compV x)).run Tryd.prog w = .ok (.bool true) w := by
  have u3 := Tryd.underlying3
  have a3 := Tryd.isAgg3
  have z3 := Tryd.sizeOf3
  have hS : Tryd.prog.underlying 40 = some (.struct (Tryd.prog.fieldsOf 40)) := by kernel_rfl
  have hp : Tryd.prog.stoodInHeld 40 = false := by kernel_rfl
  rw [run_eql_struct, show (10000 : Nat) = 9999 + 1 from rfl, run_equalIn_agg w 9999 40 _ _ hS hp]
  simp only [Program.fieldsOf, Tryd.underlying40]
  go_simp

set_option maxRecDepth 100000 in
set_option maxHeartbeats 4000000 in
theorem law_find (t : Trf) (u : Value) (c : Cs) (w : World) (ht : Tab w) (he : ElemsAt w u t.els) (h1 : t.id.size ≤ maxLen) (h2 : t.cur.size ≤ maxLen) :
    Calls Tryd.prog 5 #[trfV t u, .agg (caseA c)] w fun e w' => e = .returned (.bool true) ∧ Below w.heap.size w w' := by
  obtain ⟨A, k, rfl, _, _⟩ := SliceAt.form he
  have hB := below_alloc (below_new w (.cells (trfA t (.slice A t.els.length k)) 26)) (.cells (caseA c) 36)
  have k0 := (Blk.new w 26 (trfA t (.slice A t.els.length k))).alloc (.cells (caseA c) 36)
  have k1 := Blk.newG (w := w.alloc (.cells (trfA t (.slice A t.els.length k)) 26)) (g := w.heap.size + 1) (by simp) 36 (caseA c)
  have hT := ht.below hB ht.lt
  have hE := he.call hB
  have HB := Lib.hid (fun W hx => big_ t (.slice A t.els.length k) W hx h1 h2)
  obtain ⟨q, b, HL, HR⟩ : ∃ (q : Comp) (b : Bool), Hid (∀ W, Tab W → ElemsAt W (.slice A t.els.length k) t.els → Calls Tryd.prog 16 #[trfV t (.slice A t.els.length k), .agg (caseA c)] W fun e w' => e = .returned (.tuple #[compV q, .bool b]) ∧ Below W.heap.size W w') ∧
      Hid (∀ W, ElemsAt W (.slice A t.els.length k) t.els → Calls Tryd.prog 17 #[trfV t (.slice A t.els.length k), zone c.z c.s, i c.k, i c.a, i c.since, i c.en, i c.po] W fun e w' => e = .returned (.tuple #[compV q, .bool b]) ∧ Below W.heap.size W w') :=
    ⟨compO (fnd t c), (fnd t c).isSome, fun W hx hy => lfind t _ c W hx hy rfl, fun W hx => rfind_ t (.slice A t.els.length k) c.z c.s c.k c.a c.since c.en c.po W hx⟩
  clear ht he h1 h2
  go_enter Tryd.func5, Tryd.ntmps5
  go_wp2_with fail
  refine (HB.out _ hE).mono ?_
  rintro e w1 ⟨rfl, hb1⟩
  have hB1 := below_call hB hb1
  have k01 := k0.call hb1
  have k11 := k1.call hb1
  have hT1 := hT.below hb1 hT.lt
  have hE1 := hE.call hb1
  clear hB hb1 k0 k1 hT hE HB
  have c0 := k01.cell
  have c1 := k11.cell
  cases hbig : bigT t with
  | true =>
    clear hbig
    go_wp2_with fail
    refine (example_holds _ hT1).mono ?_
    rintro e w2 ⟨rfl, hb2⟩
    go_wp2_with fail
    go_ret
    exact ⟨rfl, below_call hB1 hb2⟩
  | false =>
    clear hbig
    go_wp2_with fail
    refine (HL.out _ hT1 hE1).mono ?_
    rintro e w2 ⟨rfl, hb2⟩
    have hb3 := below_alloc hb2 (.cells #[i q.kind, i q.price, i q.step, i q.tax] 40)
    have m1 := Blk.new w2 40 #[i q.kind, i q.price, i q.step, i q.tax]
    have hB3 := below_call hB1 hb3
    have k03 := k01.call hb3
    have k13 := k11.call hb3
    have hT3 := hT1.below hb3 hT1.lt
    have hE3 := hE1.call hb3
    clear c0 c1 hB1 k01 k11 hT1 hE1 hb2 hb3
    have c0 := k03.cell
    have c1 := k13.cell
    go_upto_region 4 with (fail)
    generalize w2.alloc (.cells #[i q.kind, i q.price, i q.step, i q.tax] 40) = w3 at *
    generalize w2.heap.size = p1 at *
    go_wp2_with fail
    refine (HR.out _ hE3).mono ?_
    rintro e w4 ⟨rfl, hb4⟩
    have hb5 := below_alloc hb4 (.cells #[i q.kind, i q.price, i q.step, i q.tax] 40)
    have m2 := Blk.new w4 40 #[i q.kind, i q.price, i q.step, i q.tax]
    have m1' := m1.call hb5
    have hB5 := below_call hB3 hb5
    have hT5 := hT3.below hb5 hT3.lt
    clear c0 c1 k03 k13 hB3 hT3 hE3 m1 hb4 hb5 HL HR
    have d1 := m1'.cell
    have d2 := m2.cell
    have hq := fun W => eqComp q W
    go_wp2_with fail
    refine (example_holds _ hT5).mono ?_
    rintro e w6 ⟨rfl, hb6⟩
    go_wp2_with fail
    go_ret
    exact ⟨rfl, below_call hB5 hb6⟩

set_option maxRecDepth 100000 in
set_option maxHeartbeats 4000000 in
theorem law_pick (ts : List Trf) (v : Value) (id : ByteArray) (a : Int) (w : World) (ht : Tab w) (he : TrfsAt w v ts) (hi : id.size ≤ maxLen) :
    Calls Tryd.prog 9 #[v, .string id, i a] w fun e w' => e = .returned (.bool true) ∧ Below w.heap.size w w' := by
  obtain ⟨A, k, rfl, h1, h2⟩ := SliceAt.form he
  unfold maxLen at h2 hi
  by_cases hbig : 40 < ts.length ∨ 4096 < id.size
  · rcases (by omega : 40 < ts.length ∨ (ts.length ≤ 40 ∧ 4096 < id.size)) with h | ⟨h, h'⟩
    all_goals
      clear hbig
      go_enter Tryd.func9, Tryd.ntmps9
      go_wp2_with fail
      refine (example_holds _ ht).mono ?_
      rintro e w2 ⟨rfl, hb2⟩
      go_wp2_with fail
      go_ret
      exact ⟨rfl, hb2⟩
  · obtain ⟨z1, z2⟩ : ts.length ≤ 40 ∧ id.size ≤ 4096 := by omega
    clear hbig
    have HE := Lib.hid he
    have HT := Lib.hid ht
    clear he ht
    go_enter Tryd.func9, Tryd.ntmps9
    go_wp2_with fail
    go_loopg [23] ts.length (fun gg s23 wr => ∃ kk : Nat, kk ≤ ts.length ∧ ts.length - kk ≤ gg ∧ s23 = i kk ∧ Hid (Below w.heap.size w wr) ∧ Hid (∀ j (hj : j < ts.length), j < kk → bigT ts[j] = false))
    case atStart => exact ⟨0, Nat.zero_le _, by omega, rfl, Below.refl _ _, fun j hj h => by omega⟩
    case round =>
      obtain ⟨kk, hkk, hg, rfl, BW, HA⟩ := hrel
      have HTr := Lib.hid (HT.out.below BW.out HT.out.lt)
      by_cases hlt : kk < ts.length
      · have hltz : (kk : Int) < (ts.length : Int) := by omega
        obtain ⟨b, off, u, rfl, _, hu, hs1, hs2, hrow⟩ := TrfsAt.at_ HE.out hlt
        obtain ⟨l0, l1, l2, l3, l4, l5, l6, l7⟩ := hrow wr (Kept.of BW.out)
        have hu1 := hu.call BW.out
        have HG : Hid (bigT ts[kk] = false → ∀ j (hj : j < ts.length), j < kk + 1 → bigT ts[j] = false) := by
          intro hh j hj hl
          by_cases e : j = kk
          · subst e; exact hh
          · exact HA.out j hj (by omega)
        clear hrow hu
        generalize ts[kk] = y at *
        obtain ⟨A1, c1, rfl, h3, h4⟩ := SliceAt.form hu1
        cases hb : bigT y with
        | true =>
          have HY := Lib.hid (fun W hx => big_ y (.slice A1 y.els.length c1) W hx hs1 hs2)
          rw [hb] at HY
          clear hb
          go_wp2_with fail
          refine (HY.out _ hu1).mono ?_
          rintro e w2 ⟨rfl, hb2⟩
          go_wp2_with fail
          refine (example_holds _ (HTr.out.below hb2 HTr.out.lt)).mono ?_
          rintro e w3 ⟨rfl, hb3⟩
          go_wp2_with fail
          go_ret
          exact ⟨rfl, below_call (below_call BW.out hb2) hb3⟩
        | false =>
          have HY := Lib.hid (fun W hx => big_ y (.slice A1 y.els.length c1) W hx hs1 hs2)
          rw [hb] at HY
          have HG' := Lib.hid (HG.out hb)
          clear hb
          go_wp2_with fail
          refine (HY.out _ hu1).mono ?_
          rintro e w2 ⟨rfl, hb2⟩
          go_wp2_with fail
          go_roundg (ts.length - (kk + 1))
          case measure => omega
          case rel => exact ⟨kk + 1, by omega, by omega, by go_num, below_call BW.out hb2, HG'.out⟩
      · have hltz : ¬ (kk : Int) < (ts.length : Int) := by omega
        have hsm : ∀ t ∈ ts, t.els.length ≤ 65536 ∧ ∀ e ∈ t.els, e.cs.length ≤ 65536 := by
          intro t htm
          obtain ⟨j, hj, rfl⟩ := List.getElem_of_mem htm
          obtain ⟨q1, _, _, q4⟩ := bigT_small (HA.out j hj (by omega))
          exact ⟨by omega, fun e he => by have := q4 e he; omega⟩
        have hE := HE.out.call BW.out
        have HP : Hid (∀ W, TrfsAt W (.slice A ts.length k) ts → Calls Tryd.prog 23 #[.slice A ts.length k, .string id, i a] W (PickPost id a ts W)) := fun W hx => pick_ ts _ id a W hx (by omega) hsm
        have HR : Hid (∀ W, TrfsAt W (.slice A ts.length k) ts → Calls Tryd.prog 24 #[.slice A ts.length k, .string id, i a] W (PickPost id a ts W)) := fun W hx => rpick_ ts _ id a W hx
        clear hsm
        go_wp2_with fail
        refine (HP.out _ hE).mono ?_
        rintro e w2 ⟨u2, he2, hu2, hb2⟩
        obtain ⟨T, hT⟩ : ∃ T, (pickT id a ts).1 = T := ⟨_, rfl⟩
        obtain ⟨n, hn⟩ : ∃ n, (pickT id a ts).2 = n := ⟨_, rfl⟩
        rw [hT, hn] at he2
        rw [hT] at hu2
        have HTn := Lib.hid (And.intro hT hn)
        clear hT hn
        subst he2
        obtain ⟨A2, c2, rfl, _, _⟩ := SliceAt.form hu2
        have hb3 := below_alloc hb2 (.cells (trfA T (.slice A2 T.els.length c2)) 26)
        have m1 := Blk.new w2 26 (trfA T (.slice A2 T.els.length c2))
        have hE3 := hE.call hb3
        have hu3 := hu2.call (below_new w2 (.cells (trfA T (.slice A2 T.els.length c2)) 26))
        have hB3 := below_call BW.out hb3
        have hT3 := HTr.out.below hb3 HTr.out.lt
        clear hu2 hb2 hb3 hE
        go_upto_region 10 with (fail)
        generalize w2.alloc (.cells (trfA T (.slice A2 T.els.length c2)) 26) = w3 at *
        generalize w2.heap.size = p2 at *
        go_wp2_with fail
        refine (HR.out _ hE3).mono ?_
        rintro e w4 ⟨u4, he4, hu4, hb4⟩
        rw [HTn.out.1, HTn.out.2] at he4
        rw [HTn.out.1] at hu4
        subst he4
        obtain ⟨A4, c4, rfl, _, _⟩ := SliceAt.form hu4
        have hb5 := below_alloc hb4 (.cells (trfA T (.slice A4 T.els.length c4)) 26)
        have m2 := Blk.new w4 26 (trfA T (.slice A4 T.els.length c4))
        have m1' := m1.call hb5
        have hu5 := Lib.hid (hu4.call (below_new w4 (.cells (trfA T (.slice A4 T.els.length c4)) 26)))
        have hu3' := Lib.hid (hu3.call hb5)
        have hB5 := below_call hB3 hb5
        have hT5 := hT3.below hb5 hT3.lt
        have d1 := m1'.cell
        have d2 := m2.cell
        clear m1 hu3 hu4 hb4 hb5 hB3 hT3 hE3
        go_wp2_with fail
        refine (same_ T _ _ _ hu3'.out hu5.out).mono ?_
        rintro e w6 ⟨rfl, hb6⟩
        have hT6 := hT5.below hb6 hT5.lt
        go_wp2_with fail
        refine (example_holds _ hT6).mono ?_
        rintro e w7 ⟨rfl, hb7⟩
        go_wp2_with fail
        go_ret
        exact ⟨rfl, below_call (below_call hB5 hb6) hb7⟩
end TarW
end Go.Proofs.YtkooekdcegfapaaDoor
