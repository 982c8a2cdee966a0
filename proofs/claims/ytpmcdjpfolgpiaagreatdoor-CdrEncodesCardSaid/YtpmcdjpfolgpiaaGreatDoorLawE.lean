/-
  The walk of the statement CdrEncodes.
-/
import Derived.Test.YtpmcdjpfolgpiaaGreatDoorCdrU
import Derived.Test.YtpmcdjpfolgpiaaGreatDoorCdrK
import Derived.Test.YtpmcdjpfolgpiaaGreatDoorEncS
namespace Go.Proofs.YtpmcdjpfolgpiaaGreatDoor
namespace Ex
set_option linter.unusedSimpArgs false
set_option linter.unusedVariables false
open Go.RowKit TarW Usg UsgW Prc PriW Cdr MonW CdrW EncW

theorem enc_short {c : CDR} (h : ShortC c) (hE : cdrE c = 0) : ShortS c ∧ c.items.length ≤ 32 := by
  have hk := cdrE_ok hE
  have hcu : c.cur.size = 3 := by
    have := hk.cu
    unfold curOk at this
    rw [Bool.and_eq_true] at this
    exact of_decide_eq_true this.1
  obtain ⟨h0, h1, h2, h3, h4, h5, h7⟩ := h
  exact ⟨⟨by omega, by omega, by omega, by omega, by omega, by omega, by omega⟩, (itemsE_ok hk.it).l⟩
theorem conv_any {w : World} {A : Option Addr} {n c : Nat} {xs : List Int} (h : EncW.Data w (.slice A n c) xs) (h0 : xs ≠ []) : (convert 48 9 (.slice A n c)).run Tryz.prog w = .ok (.string (strOfNums xs)) w := by
  obtain ⟨b, off, cs, fz, rfl, e1, e2, e3, e4, e5, e6⟩ := EncW.Data.split (xs := xs) (ys := []) (by simpa using h) (List.length_pos_iff.2 h0)
  exact run_convert_bytes_arg (P := Tryz.prog) w 48 5 Tryz.underlying48 Tryz.underlying5 b off n c xs (by simpa using e1.symm) (fun j hj => by
    have hj2 : j < xs.length := by simpa [e1] using hj
    refine cell_of e4 (e5 j _ ?_)
    rw [List.append_nil, List.getElem?_eq_getElem hj2]
    simp [List.getD, List.getElem?_eq_getElem hj2]) 9 Tryz.underlying9
theorem conv_own {base : Nat} {w : World} {u : Value} {xs : List Int} (h : OwnB base w u xs) : ∃ A n c, u = .slice A n c ∧ (convert 48 9 (.slice A n c)).run Tryz.prog w = .ok (.string (strOfNums xs)) w := by
  by_cases h0 : xs = []
  · subst h0
    obtain ⟨rs, h1, h2⟩ := h
    rcases h1.2 with ⟨rfl, _⟩ | ⟨g, cap, cur, rfl, _⟩
    · exact ⟨_, _, _, rfl, by kernel_rfl⟩
    · refine ⟨_, _, _, rfl, ?_⟩
      exact run_convert_bytes_arg (P := Tryz.prog) w 48 5 Tryz.underlying48 Tryz.underlying5 g 0 _ cap [] rfl (fun j hj => absurd hj (Nat.not_lt_zero j)) 9 Tryz.underlying9
  · have hd := EncW.Data.of h
    obtain ⟨A, c, rfl⟩ := EncW.Data.slice hd
    exact ⟨_, _, _, rfl, conv_any hd h0⟩

set_option maxRecDepth 100000 in
set_option maxHeartbeats 4000000 in
theorem law_encodes (c : CDR) (A : Option Addr) (n k : Nat) (w : World) (ht : CalW.Tab w) (ho : c.ok) (hi : ItmsAt w (.slice A n k) c.items) :
    Calls Tryz.prog 6 #[.agg (cdrA c (.slice A n k))] w (LawPost w) := by
  have hB := below_new w (.cells (cdrA c (.slice A n k)) 24)
  have HS := Lib.hid (short c A n k _ ho (ItmsAt.call hi hB))
  obtain ⟨xs, E, hR⟩ : ∃ xs E, encR c = (xs, E) := ⟨_, _, rfl⟩
  have HC : Hid (ShortC c → ∀ W, Below w.heap.size w W → Calls Tryz.prog 18 #[.agg (cdrA c (.slice A n k))] W fun e w' => ∃ u, e = .returned (.tuple #[u, i E]) ∧ OwnB W.heap.size w' u xs ∧ Below W.heap.size W w') := fun hs W hb => by
    have := encode c A n k W ho (ItmsAt.call hi hb) (enc_short hs)
    unfold EncPost at this
    rw [hR] at this
    exact this
  have HR : Hid (ShortC c → ∀ W, Below w.heap.size w W → Calls Tryz.prog 19 #[.agg (cdrA c (.slice A n k))] W fun e w' => ∃ u, e = .returned (.tuple #[u, i E]) ∧ OwnB W.heap.size w' u xs ∧ Below W.heap.size W w') := fun hs W hb => by
    have := rencode c A n k W ho (ItmsAt.call hi hb) (enc_short hs)
    unfold EncPost at this
    rw [hR] at this
    exact this
  have HEX := Lib.hid (fun W (hb : Below w.heap.size w W) => example_holds W (ht.below hb ht.lt))
  have HB := Lib.hid hB
  have HK := Lib.hid (cdr_new w c (.slice A n k))
  clear hR hB ht ho hi
  go_enter Tryz.func6, Tryz.ntmps6
  go_wp2_with fail
  refine HS.out.mono ?_
  rintro e w1 ⟨b, rfl, hsh, hb1⟩
  have HB1 := Lib.hid (below_call HB.out hb1)
  have HK1 := Lib.hid (HK.out.call hb1)
  have kc := HK1.out.cell
  clear hb1 HB HS HK
  cases b
  case false =>
    go_wp2_with fail
    refine (HEX.out _ HB1.out).mono ?_
    rintro e w2 ⟨rfl, hb2⟩
    go_wp2_with fail
    go_ret
    exact ⟨rfl, below_call HB1.out hb2⟩
  replace HC := Lib.hid (HC.out (hsh rfl))
  replace HR := Lib.hid (HR.out (hsh rfl))
  clear hsh
  go_wp2_with fail
  refine (HC.out _ HB1.out).mono ?_
  rintro e w2 ⟨u, rfl, hu, hb2⟩
  have HU2 := Lib.hid hu
  have HB2 := Lib.hid (below_call HB1.out hb2)
  have HK2 := Lib.hid (HK1.out.call hb2)
  obtain ⟨A2, n2, c2, rfl⟩ := OwnB.isSl hu
  clear hu hb2 kc HK1 HB1
  have kc := HK2.out.cell
  go_wp2_with fail
  refine (HR.out _ HB2.out).mono ?_
  rintro e w3 ⟨u, rfl, hu, hb3⟩
  have HU3 := Lib.hid hu
  have HV3 := Lib.hid (Own.call HU2.out hb3)
  have HB3 := Lib.hid (below_call HB2.out hb3)
  obtain ⟨A3, n3, c3, rfl⟩ := OwnB.isSl hu
  clear hu hb3 kc
  obtain ⟨_, _, _, e2, hcv2⟩ := conv_own HV3.out
  cases e2
  obtain ⟨_, _, _, e3, hcv3⟩ := conv_own HU3.out
  cases e3
  go_wp2_with fail
  refine (HEX.out _ HB3.out).mono ?_
  rintro e w7 ⟨rfl, hb7⟩
  go_wp2_with fail
  go_ret
  exact ⟨rfl, below_call HB3.out hb7⟩
end Ex
end Go.Proofs.YtpmcdjpfolgpiaaGreatDoor
