/-
  Bytes in memory; the walk of fields.appendInt.
  Fields in memory; the walk of the writer's bytes.
  The walks of the writer's text and number.
  The walk of fields.PutList.
-/
import Derived.Test.YtpmcdjpfolgpiaaGreatDoorEncP
import Derived.Test.YtpmcdjpfolgpiaaGreatDoorBase
import Derived.Test.YtpmcdjpfolgpiaaGreatDoorTaxD
import Derived.Deep.LoopGhost
import Derived.Deep.QuietTactic
import Derived.BigQuiet
import Derived.IntWalk
import Derived.Laws.Bits64
import Derived.Laws.Bits64b
import Derived.RangeFuncBox
import Derived.Laws.IdiomStrings
namespace Go.Proofs.YtpmcdjpfolgpiaaGreatDoor
namespace EncW
set_option linter.unusedSimpArgs false
set_option linter.unusedVariables false
open Go.RowKit MonW Enc

def BytR (r : List Value) (x : Int) : Prop := r = [.int .u8 x] ∧ 0 ≤ x ∧ x ≤ 255
def BytesAt (w : World) (v : Value) (xs : List Int) : Prop := SliceAt BytR 1 w v xs
abbrev OwnB (base : Nat) (w : World) (v : Value) (xs : List Int) : Prop := Own BytR 5 1 base w v xs
theorem infoB : (Tryz.prog.info? 5).map (fun i => (i.zero, i.size, i.bytes)) = some (some (.int .u8 0), 1, 1) := by kernel_rfl
theorem one_byt (r : List Value) (x : Int) (h : BytR r x) : ∀ u ∈ r, u.oneCell' = true := by
  rw [h.1]
  intro u hu
  obtain rfl : u = .int .u8 x := by simpa using hu
  rfl

theorem wrapU (x : Int) : IntKind.u64.wrap x = x % 18446744073709551616 := by
  have := IntKind.u64.wrap x
  simp [IntKind.wrap, IntKind.bits, IntKind.signed]
theorem zz_eq {n : Int} (h : I64 n) : bits BinOp.xor IntKind.u64 (IntKind.u64.wrap (IntKind.u64.wrap n * 2)) (IntKind.u64.wrap (n / 9223372036854775808)) = ((zz n : Nat) : Int) := by
  unfold I64 at h
  rw [wrapU, wrapU, wrapU]
  unfold zz
  by_cases h0 : 0 ≤ n
  · rw [if_pos h0]
    have e1 : n % 18446744073709551616 * 2 % 18446744073709551616 = ((2 * n).toNat : Nat) := by omega
    have e2 : n / 9223372036854775808 % 18446744073709551616 = ((0 : Nat) : Int) := by omega
    rw [e1, e2, bits_xor_u64_nat _ _ (by omega) (by decide), Nat.xor_zero]
  · rw [if_neg h0]
    have e1 : n % 18446744073709551616 * 2 % 18446744073709551616 = ((2 * n + 18446744073709551616).toNat : Nat) := by omega
    have e2 : n / 9223372036854775808 % 18446744073709551616 = ((18446744073709551615 : Nat) : Int) := by omega
    rw [e1, e2, bits_xor_u64_nat _ _ (by omega) (by decide), xor_ones _ (by omega)]
    omega
theorem and127 (u : Nat) (h : u < 18446744073709551616) : bits .and .u64 (u : Int) 127 = ((u % 128 : Nat) : Int) := by
  have := bits_and_u64_nat u 127 h (by decide)
  rw [show ((127 : Nat) : Int) = 127 from rfl] at this
  rw [this, show (127 : Nat) = 2 ^ 7 - 1 from rfl, Nat.and_two_pow_sub_one_eq_mod]
theorem or128 : ∀ x : Nat, x < 128 → bits .or .u8 (x : Int) 128 = (x : Int) + 128 := by decide

/-- What a row that grows again leaves. -/
theorem grow_on {w wr w3 : World} {o : Obj} {r0 : Option Nat} {cur : Value} (h : w.grownBy wr r0) (hc : cur.ownBlock = r0 ∨ ∀ k, cur.ownBlock = some k → w.heap.size ≤ k) (hg : (wr.alloc o).grownBy w3 cur.ownBlock) : w.grownBy w3 r0 := by
  have hs := h.size
  have hs2 : wr.heap.size + 1 ≤ w3.heap.size := by have := hg.size; simpa using this
  refine ⟨hg.os.trans h.os, hg.tape.trans h.tape, hg.output.trans h.output, by omega, fun k hk hne => ?_⟩
  refine (hg.block k (by simp; omega) (fun e => ?_)).trans ((Below.heap_alloc wr o k (by omega)).trans (h.block k hk hne))
  rcases hc with hc | hc
  · exact hne (e.trans hc)
  · have := hc k e.symm
    omega
theorem next_on {w wr : World} {r0 : Option Nat} {cur v' : Value} (hs : w.heap.size ≤ wr.heap.size) (hc : cur.ownBlock = r0 ∨ ∀ k, cur.ownBlock = some k → w.heap.size ≤ k) (hat : v'.ownBlock = cur.ownBlock ∨ v'.ownBlock = some (wr.heap.size + 1)) : v'.ownBlock = r0 ∨ ∀ k, v'.ownBlock = some k → w.heap.size ≤ k := by
  rcases hat with hat | hat
  · rw [hat]; exact hc
  · refine .inr (fun k hk => ?_)
    rw [hat] at hk
    injection hk with hk
    omega

set_option maxRecDepth 100000 in
set_option maxHeartbeats 1000000 in
theorem appendInt (base : Nat) (v : Value) (xs : List Int) (n : Int) (w : World) (h : OwnB base w v xs) (hb : base ≤ w.heap.size) (hn : I64 n) (hl : xs.length ≤ 16000000) :
    Calls Tryz.prog 60 #[v, i n] w fun e w' => ∃ u, e = .returned u ∧ OwnB base w' u (xs ++ encI n) ∧ Below base w w' ∧ w.grownBy w' v.ownBlock := by
  obtain ⟨i0, hi0, hz0, hz1, hz2⟩ := info_parts infoB
  obtain ⟨A, m, c, rfl⟩ : ∃ A m c, v = .slice A m c := by
    obtain ⟨rs, h1, h2⟩ := h
    rcases h1.2 with ⟨rfl, _⟩ | ⟨g, cap, cur, rfl, _⟩
    · exact ⟨_, _, _, rfl⟩
    · exact ⟨_, _, _, rfl⟩
  go_enter Tryz.func60, Tryz.ntmps60
  go_wp2_with fail
  rw [zz_eq hn]
  have HU := Lib.hid (zz_lt hn)
  have HN := Lib.hid (encI_len hn)
  have HE := Lib.hid (show encI n = [] ++ encU (zz n) from rfl)
  generalize hys : encI n = ys at *
  generalize zz n = u0 at *
  go_loopg [0, 5] u0 (fun gg s0 s5 wr => ∃ (u : Nat) (zs : List Int) (A1 : Option Addr) (m1 c1 : Nat), u ≤ gg ∧ u < 18446744073709551616 ∧ s0 = .slice A1 m1 c1 ∧ s5 = .int .u64 u ∧ Hid (ys = zs ++ encU u) ∧ Hid (OwnB base wr (.slice A1 m1 c1) (xs ++ zs)) ∧ Hid (Below base w wr) ∧ Hid (w.grownBy wr (Value.slice A m c).ownBlock) ∧ Hid ((Value.slice A1 m1 c1).ownBlock = (Value.slice A m c).ownBlock ∨ ∀ k, (Value.slice A1 m1 c1).ownBlock = some k → w.heap.size ≤ k))
  case atStart => exact ⟨u0, [], _, _, _, Nat.le_refl _, HU.out, rfl, rfl, HE.out, (by show OwnB _ _ _ _; simpa using h), Below.refl _ _, ⟨rfl, rfl, rfl, Nat.le_refl _, fun _ _ _ => rfl⟩, .inl rfl⟩
  case round =>
    obtain ⟨u, zs, A1, m1, c1, hg, hu, rfl, rfl, HY, HO, HB, HG, HC⟩ := hrel
    have hlz : zs.length ≤ 11 := by
      have := congrArg List.length HY.out
      rw [List.length_append] at this
      have := HN.out
      omega
    have HS := Lib.hid (show base ≤ wr.heap.size from Nat.le_trans hb HB.out.size)
    by_cases h128 : 128 ≤ u
    · have hz : (128 : Int) ≤ (u : Int) := by omega
      have e1 := and127 u hu
      have e2 : bits .or .u8 ((u : Int) % 128) 128 = (u : Int) % 128 + 128 := by
        have := or128 (u % 128) (Nat.mod_lt _ (by decide))
        simpa using this
      have e3 : IntKind.u8.wrap ((u : Int) % 128) = (u : Int) % 128 := by simp [IntKind.wrap, IntKind.bits, IntKind.signed]; omega
      have HRR : Hid (BytR (#[.int .u8 ((u : Int) % 128 + 128)] : Array Value).toList ((u : Int) % 128 + 128)) := ⟨rfl, by omega, by omega⟩
      have HO1 := Lib.hid (Own.call HO.out (below_new wr (.cells #[.int .u8 ((u : Int) % 128 + 128)] 5)))
      have HB1 : Hid (Below base w (wr.alloc (.cells #[.int .u8 ((u : Int) % 128 + 128)] 5))) := HB.out.alloc HS.out _
      have HLEN : Hid ((xs ++ zs).length ≤ 16777216) := by show _ ≤ _; rw [List.length_append]; omega
      go_wp2_with (at_builtin; refine wpList_growAt rfl (.tmp 15) (.tmp 20) 48 rfl i0 _ 1 Tryz.underlying48 hi0 hz0 hz1 hz2 rfl (by omega) rfl HO1.out wr.heap.size ((u : Int) % 128 + 128) _ 5 rfl (Blk.new wr _ _) rfl HRR.out (one_byt _ _ HRR.out) HLEN.out (by omega) (by have := HS.out; simp; omega) ?_)
      rintro v' w3 hown2 hgr hbel2 ⟨A2, n2, c2, rfl⟩ hat
      have HG3 := Lib.hid (grow_on HG.out HC.out hgr)
      have HC3 := Lib.hid (next_on HG.out.size HC.out hat)
      have HO2 : Hid (OwnB base w3 (.slice A2 n2 c2) (xs ++ (zs ++ [(u : Int) % 128 + 128]))) := by
        show OwnB _ _ _ _
        exact hown2
      have HB3 : Hid (Below base w w3) := HB1.out.trans hbel2
      clear hown2 hbel2 hgr hat HO1 HB1
      go_wp2_with fail
      go_roundg (u / 128)
      case measure => omega
      case rel =>
        refine ⟨u / 128, zs ++ [(u : Int) % 128 + 128], _, _, _, Nat.le_refl _, by omega, rfl, by simp, ?_, HO2, HB3, HG3, HC3⟩
        show _ = _
        rw [HY.out, encU_big h128]
        simp
    · have hz : ¬ (128 : Int) ≤ (u : Int) := by omega
      have e3 : IntKind.u8.wrap (u : Int) = (u : Int) := by simp [IntKind.wrap, IntKind.bits, IntKind.signed]; omega
      have HRR : Hid (BytR (#[.int .u8 (u : Int)] : Array Value).toList (u : Int)) := ⟨rfl, by omega, by omega⟩
      have HO1 := Lib.hid (Own.call HO.out (below_new wr (.cells #[.int .u8 (u : Int)] 5)))
      have HB1 : Hid (Below base w (wr.alloc (.cells #[.int .u8 (u : Int)] 5))) := HB.out.alloc HS.out _
      have HLEN : Hid ((xs ++ zs).length ≤ 16777216) := by show _ ≤ _; rw [List.length_append]; omega
      have HYY : Hid (ys = zs ++ [(u : Int)]) := by
        show _ = _
        rw [HY.out, encU_small h128]
      go_wp2_with (at_builtin; refine wpList_growAt rfl (.tmp 24) (.tmp 27) 48 rfl i0 _ 1 Tryz.underlying48 hi0 hz0 hz1 hz2 rfl (by omega) rfl HO1.out wr.heap.size (u : Int) _ 5 rfl (Blk.new wr _ _) rfl HRR.out (one_byt _ _ HRR.out) HLEN.out (by omega) (by have := HS.out; simp; omega) ?_)
      rintro v' w3 hown2 hgr hbel2 ⟨A2, n2, c2, rfl⟩ hat
      have HG3 := Lib.hid (grow_on HG.out HC.out hgr)
      have HC3 := Lib.hid (next_on HG.out.size HC.out hat)
      have HO2 : Hid (OwnB base w3 (.slice A2 n2 c2) (xs ++ ys)) := by
        show OwnB _ _ _ _
        rw [HYY.out]; exact hown2
      have HB3 : Hid (Below base w w3) := HB1.out.trans hbel2
      clear hown2 hbel2 hgr hat HO1 HB1
      go_wp2_with fail
      go_ret
      exact ⟨_, rfl, by rw [hys]; exact HO2.out, HB3.out, HG3.out⟩
end EncW
end Go.Proofs.YtpmcdjpfolgpiaaGreatDoor

namespace Go.Proofs.YtpmcdjpfolgpiaaGreatDoor
namespace EncW
set_option linter.unusedSimpArgs false
set_option linter.unusedVariables false
open Go.RowKit MonW Enc

theorem Own.mono {α : Type} {R R' : List Value → α → Prop} {e : TypeId} {size base : Nat} {w : World} {v : Value} {xs : List α} (h : Own R e size base w v xs) (hR : ∀ r x, R r x → R' r x) : Own R' e size base w v xs := by
  obtain ⟨rs, h1, h2, h3⟩ := h
  exact ⟨rs, h1, h2, fun j r x a b => ⟨(h3 j r x a b).1, hR _ _ (h3 j r x a b).2⟩⟩
theorem OwnB.keep {base : Nat} {w w' : World} {u : Value} {xs : List Int} {row : Option Nat} (h : OwnB base w u xs) (hg : w.grownBy w' row) (hr : ∀ k, row = some k → ∃ cs t fz, w.heap[k]? = some (.cells cs t fz) ∧ t ≠ 5) : OwnB base w' u xs := by
  obtain ⟨rs, h1, h2⟩ := h
  refine ⟨rs, h1.kept hg ?_, h2⟩
  rcases h1.2 with ⟨rfl, _⟩ | ⟨g, cap, cur, rfl, _, hg', _⟩
  · exact .inl rfl
  · refine .inr (fun e => ?_)
    obtain ⟨cs, t, fz, h3, h4⟩ := hr g e.symm
    rw [hg'] at h3
    cases h3
    exact h4 rfl
/-- Bytes that lie in a block of bytes (frozen or not). -/
def Data (w : World) (u : Value) (xs : List Int) : Prop := ∃ A c, u = .slice A xs.length c ∧ xs.length ≤ c ∧ c ≤ maxLen ∧ (A = none → c = 0) ∧ (∀ x ∈ xs, 0 ≤ x ∧ x ≤ 255) ∧
  (xs = [] ∨ ∃ b off cs fz, A = some ⟨b, off, none⟩ ∧ w.heap[b]? = some (.cells cs 5 fz) ∧ ∀ j x, xs[j]? = some x → cs[off + j]? = some (.int .u8 x))
theorem Data.keep {w w' : World} {u : Value} {xs : List Int} {row : Option Nat} (h : Data w u xs) (hg : w.grownBy w' row) (hr : ∀ k, row = some k → ∃ cs t fz, w.heap[k]? = some (.cells cs t fz) ∧ t ≠ 5) : Data w' u xs := by
  obtain ⟨A, c, rfl, h1, h2, h3, h4, h5⟩ := h
  refine ⟨A, c, rfl, h1, h2, h3, h4, ?_⟩
  rcases h5 with h5 | ⟨b, off, cs, fz, e1, e2, e3⟩
  · exact .inl h5
  · refine .inr ⟨b, off, cs, fz, e1, (hg.block b (Array.getElem?_eq_some_iff.1 e2).1 (fun e => ?_)).trans e2, e3⟩
    obtain ⟨cs', t', fz', h6, h7⟩ := hr b e.symm
    rw [e2] at h6
    cases h6
    exact h7 rfl
theorem Data.call {w w' : World} {u : Value} {xs : List Int} (h : Data w u xs) (hb : Below w.heap.size w w') : Data w' u xs := h.keep (row := none) ⟨hb.os, hb.tape, hb.output, hb.size, fun k hk _ => hb.block k hk⟩ (fun k hk => by cases hk)
theorem Data.slice {w : World} {u : Value} {xs : List Int} (h : Data w u xs) : ∃ A c, u = .slice A xs.length c := by
  obtain ⟨A, c, h, _⟩ := h
  exact ⟨A, c, h⟩
theorem bytes_flat : ∀ (rs : List (List Value)) (xs : List Int), RowsOf BytR 1 rs xs → rs.flatten = xs.map (Value.int .u8) ∧ ∀ x ∈ xs, 0 ≤ x ∧ x ≤ 255
  | [], [], _ => ⟨rfl, fun x hx => by cases hx⟩
  | [], x :: xs, h => by have := h.1; simp at this
  | r :: rs, [], h => by have := h.1; simp at this
  | r :: rs, x :: xs, h => by
    have h0 := h.2 0 r x rfl rfl
    obtain ⟨_, e, e1, e2⟩ := h0
    have ih := bytes_flat rs xs ⟨by have := h.1; simpa using this, fun j r' x' a b => h.2 (j + 1) r' x' a b⟩
    subst e
    refine ⟨by rw [List.flatten_cons, ih.1]; rfl, fun y hy => ?_⟩
    rcases List.mem_cons.1 hy with rfl | hy
    · exact ⟨e1, e2⟩
    · exact ih.2 y hy
theorem Data.of {base : Nat} {w : World} {u : Value} {xs : List Int} (h : OwnB base w u xs) : Data w u xs := by
  obtain ⟨rs, h1, h2⟩ := h
  obtain ⟨f1, f2⟩ := bytes_flat rs xs h2
  have hl := h1.1
  rw [f1] at h1
  rcases h1.2 with ⟨rfl, h0⟩ | ⟨g, cap, cur, rfl, _, hg, hc1, hc2, _, ht⟩
  · have : xs = [] := List.eq_nil_of_length_eq_zero (by omega)
    subst this
    exact ⟨none, 0, rfl, Nat.le_refl _, by unfold maxLen; omega, fun _ => rfl, fun x hx => (by cases hx), .inl rfl⟩
  · refine ⟨_, cap, rfl, hc1, hc2, fun e => (by cases e), f2, .inr ⟨g, 0, cur, _, rfl, hg, fun j x hx => ?_⟩⟩
    have hj : j < xs.length := (List.getElem?_eq_some_iff.1 hx).1
    have h3 : (cur.toList.take (xs.length * 1))[j]? = some (.int .u8 x) := by rw [ht, List.getElem?_map, hx]; rfl
    rw [List.getElem?_take_of_lt (by omega)] at h3
    simpa using h3
/-- A field as a row. -/
def FldR (w : World) (r : List Value) (f : Fld) : Prop := ∃ u, r = [i f.tag, u] ∧ Data w u f.data ∧ IsSl u
abbrev OwnF (base : Nat) (w : World) (v : Value) (l : List Fld) : Prop := Own (FldR w) 86 2 base w v l
def WrAt (w : World) (B : Nat) (l : List Fld) : Prop := ∃ v, Blk w B 76 #[v] ∧ OwnF B w v l
theorem infoF : (Tryz.prog.info? 86).map (fun i => (i.zero, i.size, i.bytes)) = some (some (.agg #[.int .i64 0, .slice none 0 0]), 2, 32) := by kernel_rfl
theorem FldR.keep {w w' : World} {row : Option Nat} (hg : w.grownBy w' row) (hr : ∀ k, row = some k → ∃ cs t fz, w.heap[k]? = some (.cells cs t fz) ∧ t ≠ 5) : ∀ r f, FldR w r f → FldR w' r f := by
  rintro r f ⟨u, rfl, h, hs⟩
  exact ⟨u, rfl, Data.keep h hg hr, hs⟩
theorem OwnB.slice {base : Nat} {w : World} {u : Value} {xs : List Int} (h : OwnB base w u xs) : ∃ A c, u = .slice A xs.length c := by
  obtain ⟨rs, h1, h2⟩ := h
  have hl := h2.1
  rcases h1.2 with ⟨rfl, h0⟩ | ⟨g, cap, cur, rfl, _⟩
  · have : xs.length = 0 := by omega
    exact ⟨none, 0, by rw [this]⟩
  · exact ⟨_, _, rfl⟩
theorem OwnF.slice {base : Nat} {w : World} {v : Value} {l : List Fld} (h : OwnF base w v l) : IsSl v := by
  obtain ⟨rs, h1, h2⟩ := h
  rcases h1.2 with ⟨rfl, _⟩ | ⟨g, cap, cur, rfl, _⟩
  · exact ⟨_, _, _, rfl⟩
  · exact ⟨_, _, _, rfl⟩
theorem OwnF.row {base : Nat} {w : World} {v : Value} {l : List Fld} (h : OwnF base w v l) : ∀ k, v.ownBlock = some k → ∃ cs fz, w.heap[k]? = some (.cells cs 86 fz) := by
  obtain ⟨rs, h1, h2⟩ := h
  intro k hk
  rcases h1.2 with ⟨rfl, _⟩ | ⟨g, cap, cur, rfl, _, hg, _⟩
  · simp [Value.ownBlock] at hk
  · obtain rfl : g = k := by simpa [Value.ownBlock] using hk
    exact ⟨_, _, hg⟩
theorem one_fld (w : World) (r : List Value) (f : Fld) (h : FldR w r f) : ∀ u ∈ r, u.oneCell' = true := by
  obtain ⟨u, rfl, _, A, n, c, rfl⟩ := h
  intro x hx
  rcases List.mem_cons.1 hx with rfl | hx
  · rfl
  · obtain rfl : x = .slice A n c := by simpa using hx
    rfl
def addF (l : List Fld) (tag : Int) (xs : List Int) : List Fld := if xs.length = 0 then l else l ++ [⟨tag, xs⟩]

set_option maxRecDepth 100000 in
set_option maxHeartbeats 1000000 in
theorem bytes (B : Nat) (l : List Fld) (tag : Int) (u : Value) (xs : List Int) (w : World) (h : WrAt w B l) (hu : Data w u xs) (hl : l.length ≤ 1000) :
    Calls Tryz.prog 57 #[.pointer (some ⟨B, 0, none⟩), i tag, u] w fun e w' => e = .returned (.tuple #[]) ∧ WrAt w' B (addF l tag xs) ∧ Below B w w' := by
  obtain ⟨A, c, rfl⟩ := Data.slice hu
  obtain ⟨v, hk, ho⟩ := h
  obtain ⟨A1, n1, c1, rfl⟩ := OwnF.slice ho
  by_cases h0 : xs.length = 0
  · have hz : ¬ (0 : Int) < (xs.length : Int) := by omega
    unfold addF
    rw [if_pos h0]
    go_enter Tryz.func57, Tryz.ntmps57
    go_wp2_with fail
    go_end0
    exact ⟨rfl, ⟨_, hk, ho⟩, Below.refl _ _⟩
  · have hz : (0 : Int) < (xs.length : Int) := by omega
    unfold addF
    rw [if_neg h0]
    obtain ⟨i0, hi0, hz0, hz1, hz2⟩ := info_parts infoF
    have HK := Lib.hid hk
    have HO := Lib.hid ho
    have HU := Lib.hid hu
    have hc := hk.cell 0
    simp at hc
    have hsz := hk.lt
    have hoa := OwnF.row ho
    clear hk ho hu
    go_enter Tryz.func57, Tryz.ntmps57
    have HO1 : Hid (Own (FldR (w.alloc (.cells #[i tag, .slice A xs.length c] 86))) 86 2 B (w.alloc (.cells #[i tag, .slice A xs.length c] 86)) (.slice A1 n1 c1) l) := Own.mono (Own.call HO.out (below_new w _)) (FldR.keep (World.grownBy_alloc w _ none) (fun k hk => by cases hk))
    have HRR : Hid (FldR (w.alloc (.cells #[i tag, .slice A xs.length c] 86)) (#[i tag, .slice A xs.length c] : Array Value).toList ⟨tag, xs⟩) := ⟨_, rfl, Data.keep HU.out (World.grownBy_alloc w _ none) (fun k hk => by cases hk), _, _, _, rfl⟩
    have HKA := Lib.hid (HK.out.alloc (.cells #[i tag, .slice A xs.length c] 86))
    have HROW := Lib.hid (fun k hk => (OwnF.row (base := B) (Own.mono (Own.call HO.out (below_new w (.cells #[i tag, .slice A xs.length c] 86))) (FldR.keep (World.grownBy_alloc w _ none) (fun k hk => by cases hk)))) k hk)
    clear hoa
    go_wp2_with (at_builtin; refine wpList_grow rfl (.tmp 13) (.tmp 17) 74 rfl i0 _ 32 Tryz.underlying74 hi0 hz0 hz1 hz2 rfl (by omega) rfl HO1.out w.heap.size ⟨tag, xs⟩ _ 86 rfl (Blk.new w _ _) rfl HRR.out (one_fld _ _ _ HRR.out) (by omega) (by omega) (by simp; omega) ?_)
    rintro v' w3 hown2 hgr hbel2 ⟨A2, n2, c2, rfl⟩
    have hk3 : Blk w3 B 76 #[.slice A1 n1 c1] := by
      refine (hgr.block B HKA.out.lt (fun e => ?_)).trans HKA.out
      obtain ⟨cs, fz, hh⟩ := HROW.out B e.symm
      rw [show (w.alloc (.cells #[i tag, .slice A xs.length c] 86)).heap[B]? = _ from HKA.out] at hh
      cases hh
    have HR3 : Hid (∀ r f, FldR (w.alloc (.cells #[i tag, .slice A xs.length c] 86)) r f → FldR w3 r f) := FldR.keep hgr (fun k hk => by obtain ⟨cs, fz, hh⟩ := HROW.out k hk; exact ⟨cs, _, fz, hh, by decide⟩)
    have HO3 := Lib.hid (Own.mono hown2 HR3.out)
    have HK3 := Lib.hid hk3
    have HB3 : Hid (Below B w w3) := ((Below.refl B w).alloc (by omega) _).trans hbel2
    have q3 := hk3.cell 0
    have f3 := hk3.frozen
    simp at q3
    clear hown2 hgr hbel2 hk3
    go_wp2_with fail
    go_end0
    have hg9 := grownBy_setCell' w3 B (.slice A2 n2 c2)
    have hty : ∀ k, some B = some k → ∃ cs t fz, w3.heap[k]? = some (.cells cs t fz) ∧ t ≠ 5 := fun k e => by cases e; exact ⟨_, _, _, HK3.out, by decide⟩
    refine ⟨rfl, ⟨_, by simpa using HK3.out.set_ 0 (.slice A2 n2 c2), ?_⟩, HB3.out.setCell (p := ⟨B, 0, none⟩) (Nat.le_refl _) _⟩
    refine Own.mono ?_ (FldR.keep hg9 hty)
    obtain ⟨rs, h1, h2⟩ := HO3.out
    refine ⟨rs, h1.kept hg9 ?_, h2⟩
    rcases h1.2 with ⟨e, _⟩ | ⟨g, cap, cur, e, _, hg', _⟩
    · rw [e]; exact .inl rfl
    · rw [e]
      refine .inr (fun e2 => ?_)
      obtain rfl : g = B := by simpa [Value.ownBlock] using e2
      rw [show w3.heap[g]? = _ from HK3.out] at hg'
      cases hg'
end EncW
end Go.Proofs.YtpmcdjpfolgpiaaGreatDoor

namespace Go.Proofs.YtpmcdjpfolgpiaaGreatDoor
namespace EncW
set_option linter.unusedSimpArgs false
set_option linter.unusedVariables false
open Go.RowKit MonW Enc

def strB (s : ByteArray) : List Int := s.data.toList.map fun c => (c.toNat : Int)
theorem strB_len (s : ByteArray) : (strB s).length = s.size := by unfold strB; simp

theorem putInt (n : Int) (w : World) (hn : I64 n) : Calls Tryz.prog 58 #[i n] w fun e w' => ∃ u, e = .returned u ∧ OwnB w.heap.size w' u (encI n) ∧ Below w.heap.size w w' := by
  have HA := Lib.hid (appendInt w.heap.size (.slice none 0 0) [] n w Own.nil (Nat.le_refl _) hn (by simp))
  go_enter Tryz.func58, Tryz.ntmps58
  go_wp2_with fail
  refine HA.out.mono ?_
  rintro e w1 ⟨u, rfl, hu, hb, -⟩
  obtain ⟨A, c, rfl⟩ := OwnB.slice hu
  go_wp2_with fail
  go_ret
  exact ⟨_, rfl, by simpa using hu, hb⟩

set_option maxRecDepth 100000 in
theorem WrAt.call {w w' : World} {B : Nat} {l : List Fld} (h : WrAt w B l) (hb : Below w.heap.size w w') : WrAt w' B l := by
  obtain ⟨v, hk, ho⟩ := h
  have hg : w.grownBy w' none := ⟨hb.os, hb.tape, hb.output, hb.size, fun k hk _ => hb.block k hk⟩
  exact ⟨v, hk.call hb, Own.mono (Own.call ho hb) (FldR.keep hg (fun k hk => by cases hk))⟩

set_option maxRecDepth 100000 in
set_option maxHeartbeats 1000000 in
theorem number (B : Nat) (l : List Fld) (tag n : Int) (w : World) (h : WrAt w B l) (hl : l.length ≤ 1000) (hn : I64 n) :
    Calls Tryz.prog 39 #[.pointer (some ⟨B, 0, none⟩), i tag, i n] w fun e w' => e = .returned (.tuple #[]) ∧ WrAt w' B (if n = 0 then l else addF l tag (encI n)) ∧ Below B w w' := by
  have hB : B ≤ w.heap.size := by
    obtain ⟨v, hk, _⟩ := h
    exact Nat.le_of_lt hk.lt
  by_cases h0 : n = 0
  · rw [if_pos h0]
    subst h0
    go_enter Tryz.func39, Tryz.ntmps39
    go_wp2_with fail
    go_end0
    exact ⟨rfl, h, Below.refl _ _⟩
  · rw [if_neg h0]
    have hz : (n != 0) = true := by simpa using h0
    have HP := Lib.hid (putInt n w hn)
    have HH := Lib.hid h
    clear h
    go_enter Tryz.func39, Tryz.ntmps39
    go_wp2_with fail
    refine HP.out.mono ?_
    rintro e w1 ⟨u, rfl, hu, hb⟩
    have HB := Lib.hid (bytes B l tag u (encI n) w1 (HH.out.call hb) (Data.of hu) hl)
    obtain ⟨A, c, rfl⟩ := OwnB.slice hu
    have HB1 := Lib.hid hb
    clear hb hu
    go_wp2_with fail
    refine HB.out.mono ?_
    rintro e w2 ⟨rfl, hw, hb2⟩
    go_wp2_with fail
    go_end0
    exact ⟨rfl, hw, (HB1.out.mono hB).trans hb2⟩

theorem Data.str (w : World) (s : ByteArray) (c : Nat) (fz : Nat × Nat) (hc : s.size ≤ c) (hm : c ≤ maxLen) : Data (w.alloc (.cells (bytesRow s c) 5 fz)) (.slice (some ⟨w.heap.size, 0, none⟩) s.size c) (strB s) := by
  refine ⟨_, c, by rw [strB_len], by rw [strB_len]; exact hc, hm, fun e => (by cases e), fun x hx => ?_, .inr ⟨w.heap.size, 0, _, _, rfl, World.alloc_heap_new w _, fun j x hx => ?_⟩⟩
  · unfold strB at hx
    obtain ⟨b, _, rfl⟩ := List.mem_map.1 hx
    have := b.toNat_lt
    omega
  · unfold strB at hx
    rw [List.getElem?_map] at hx
    obtain ⟨hj, _⟩ := List.getElem?_eq_some_iff.1 (show (s.data.toList.map fun c => (c.toNat : Int))[j]? = some x by rw [List.getElem?_map]; exact hx)
    have hj' : j < s.data.size := by simpa using hj
    unfold bytesRow
    rw [Nat.zero_add, Array.getElem?_append_left (by simpa using hj'), Array.getElem?_map]
    rw [Array.getElem?_toList] at hx
    rw [Array.getElem?_eq_getElem hj'] at hx ⊢
    simp at hx ⊢
    exact hx

set_option maxRecDepth 100000 in
set_option maxHeartbeats 1000000 in
theorem text (B : Nat) (l : List Fld) (tag : Int) (s : ByteArray) (w : World) (h : WrAt w B l) (hl : l.length ≤ 1000) (hs : s.size ≤ 1000000) :
    Calls Tryz.prog 38 #[.pointer (some ⟨B, 0, none⟩), i tag, .string s] w fun e w' => e = .returned (.tuple #[]) ∧ WrAt w' B (addF l tag (strB s)) ∧ Below B w w' := by
  have hB : B ≤ w.heap.size := by
    obtain ⟨v, hk, _⟩ := h
    exact Nat.le_of_lt hk.lt
  have hcv := run_bytes_of_string (P := Tryz.prog) w 9 48 5 s Tryz.underlying9 Tryz.underlying48 Tryz.underlying5
  have hc1 : s.size ≤ grownCap w s.size 0 5 := grownCap_ge _ _ _ _
  have hc2 : grownCap w s.size 0 5 ≤ maxLen := grownCap_le_maxLen _ _ _ _ (by unfold maxLen; omega)
  have HD := Lib.hid (Data.str w.drew s _ ((bytesRow s (grownCap w s.size 0 5)).size, (bytesRow s (grownCap w s.size 0 5)).size + 1) hc1 hc2)
  have HW := Lib.hid (WrAt.call (w' := w.drew.alloc (.cells (bytesRow s (grownCap w s.size 0 5)) 5 ((bytesRow s (grownCap w s.size 0 5)).size, (bytesRow s (grownCap w s.size 0 5)).size + 1))) h ((Below.refl _ w).drew.alloc (Nat.le_refl _) _))
  have HB0 : Hid (Below B w (w.drew.alloc (.cells (bytesRow s (grownCap w s.size 0 5)) 5 ((bytesRow s (grownCap w s.size 0 5)).size, (bytesRow s (grownCap w s.size 0 5)).size + 1)))) := (Below.refl _ w).drew.alloc hB _
  have HB := Lib.hid (bytes B l tag _ (strB s) _ HW.out HD.out hl)
  generalize w.drew.alloc (.cells (bytesRow s (grownCap w s.size 0 5)) 5 ((bytesRow s (grownCap w s.size 0 5)).size, (bytesRow s (grownCap w s.size 0 5)).size + 1)) = W1 at *
  generalize grownCap w s.size 0 5 = cp at *
  have hds : w.drew.heap.size = w.heap.size := rfl
  rw [hds] at HB
  clear h hc1 hc2 HD hds
  go_enter Tryz.func38, Tryz.ntmps38
  go_wp2_with fail
  refine HB.out.mono ?_
  rintro e w2 ⟨rfl, hw, hb⟩
  go_wp2_with fail
  go_end0
  exact ⟨rfl, hw, HB0.out.trans hb⟩
end EncW
end Go.Proofs.YtpmcdjpfolgpiaaGreatDoor

namespace Go.Proofs.YtpmcdjpfolgpiaaGreatDoor
namespace EncW
set_option linter.unusedSimpArgs false
set_option linter.unusedVariables false
open Go.RowKit MonW Enc

theorem flat_b : ∀ (xs : List Int), (xs.map (fun x => [Value.int .u8 x])).flatten = xs.map (Value.int .u8)
  | [] => rfl
  | x :: xs => by rw [List.map_cons, List.flatten_cons, flat_b xs]; rfl
theorem rows_b {xs : List Int} (h : ∀ x ∈ xs, 0 ≤ x ∧ x ≤ 255) : RowsOf BytR 1 (xs.map (fun x => [Value.int .u8 x])) xs := by
  refine ⟨by simp, fun j r x h1 h2 => ?_⟩
  rw [List.getElem?_map, h2] at h1
  obtain rfl : [Value.int .u8 x] = r := by simpa using h1
  exact ⟨rfl, rfl, h x (List.mem_of_getElem? h2)⟩

/-- 'b = append(b, data...)'. -/
theorem wpList_data {P : Program} {ops : Array Oper} {rest : List Oper} {o : Oper} {a : Act} {w : World} {Q : Exit → Act → World → Prop} (hgd : o.guard = none) (s x : Operand) (t : TypeId)
    (ho : o.op = .call { callee := .builtin .append, args := #[s, x], argTypes := #[t, t] })
    (i : TypeInfo) (z : Value) (ht : P.underlying t = some (.slice 5)) (hi : P.info? 5 = some i) (hz : i.zero = some z)
    (hsize : i.size = 1) (hby : i.bytes = 1) (hzs : z.cells.size = 1) {base : Nat} {v u : Value} {xs d : List Int} (hs : a.eval s = v) (hown : OwnB base w v xs) (hx : a.eval x = u) (hd : Data w u d) (hne : d ≠ []) (hn : xs.length + d.length ≤ 16777216) (hbase : base ≤ w.heap.size)
    (h : ∀ v' w', OwnB base w' v' (xs ++ d) → Below base w w' → IsSl v' → wpList P ops Q rest (a.put o.dst v') w') : wpList P ops Q (o :: rest) a w := by
  obtain ⟨rs, k1, k2⟩ := hown
  obtain ⟨A, c, rfl, d1, d2, d3, d4, d5⟩ := hd
  rcases d5 with d5 | ⟨b, off, cs, fz, rfl, e2, e3⟩
  · exact absurd d5 hne
  refine wpList_append_own w hgd s x t ho base 5 i z 1 1 ht hi hz hsize hby hzs (by omega) v xs.length rs.flatten hs k1 ⟨b, off, none⟩ d.length c (d.map (Value.int .u8)) hx (by simp) ?_ ?_ (by unfold maxLen; omega) (by omega) hbase ?_
  · intro j u hu
    rw [List.getElem?_map] at hu
    cases hj : d[j]? with
    | none => rw [hj] at hu; cases hu
    | some y =>
      rw [hj] at hu
      obtain rfl : Value.int .u8 y = u := by simpa using hu
      have := e3 j y hj
      rw [Addr.add_lit]
      simp [World.cell?, e2, this]
  · intro u hu
    obtain ⟨y, _, rfl⟩ := List.mem_map.1 hu
    rfl
  · intro v' w' ho hg _
    refine h v' w' ⟨rs ++ d.map (fun x => [Value.int .u8 x]), ?_, rows_append k2 (rows_b d4)⟩ ((Below.refl _ _).grown hg hbase (fun k hk => (k1.lt k hk).1)) ?_
    · rw [List.flatten_append, flat_b]
      simpa using ho
    · rcases ho.2 with ⟨h0, _⟩ | ⟨g', cap, cur, h0, _⟩
      · exact ⟨_, _, _, h0⟩
      · exact ⟨_, _, _, h0⟩
theorem OwnB.isSl {base : Nat} {w : World} {u : Value} {xs : List Int} (h : OwnB base w u xs) : IsSl u := by
  obtain ⟨A, c, rfl⟩ := OwnB.slice h
  exact ⟨_, _, _, rfl⟩
def DatR (w : World) (r : List Value) (d : List Int) : Prop := ∃ u, r = [u] ∧ Data w u d
def DatsAt (w : World) (v : Value) (ds : List (List Int)) : Prop := SliceAt (DatR w) 1 w v ds
def lTo (ds : List (List Int)) (k : Nat) : List Int := encI ds.length ++ (ds.take k).flatMap fun d => encI d.length ++ d
theorem lTo_succ {ds : List (List Int)} {k : Nat} (hk : k < ds.length) : lTo ds (k + 1) = (lTo ds k ++ encI ds[k].length) ++ ds[k] := by
  unfold lTo
  rw [List.take_succ_eq_append_getElem hk, List.flatMap_append]
  simp
theorem lTo_all (ds : List (List Int)) : lTo ds ds.length = putL ds := by unfold lTo putL; rw [List.take_length]
theorem lTo_len {ds : List (List Int)} (h : ds.length ≤ 256) (hd : ∀ d ∈ ds, d.length ≤ 1000) : ∀ k, k ≤ ds.length → (lTo ds k).length ≤ 11 + 1011 * k := by
  intro k
  induction k with
  | zero => intro _; unfold lTo; simp; exact encI_len (by omega)
  | succ k ih =>
    intro hk
    have h1 := ih (by omega)
    have h2 := hd _ (List.getElem_mem (show k < ds.length by omega))
    have h3 := encI_len (n := ((ds[k]'(by omega)).length : Int)) (by omega)
    rw [lTo_succ (by omega), List.length_append, List.length_append]
    omega

set_option maxRecDepth 100000 in
set_option maxHeartbeats 1000000 in
theorem putList (v : Value) (ds : List (List Int)) (w : World) (h : DatsAt w v ds) (hl : ds.length ≤ 256) (hd : ∀ d ∈ ds, d.length ≤ 1000 ∧ d ≠ []) :
    Calls Tryz.prog 59 #[v] w fun e w' => ∃ u, e = .returned (.tuple #[u, i 0]) ∧ OwnB w.heap.size w' u (putL ds) ∧ Below w.heap.size w w' := by
  obtain ⟨A, c, rfl, h1, h2⟩ := SliceAt.form h
  unfold maxLen at h2
  obtain ⟨i0, hi0, hz0, hz1, hz2⟩ := info_parts infoB
  have hlz : ¬ (256 : Int) < (ds.length : Int) := by omega
  have HL := Lib.hid h
  have HA := Lib.hid (appendInt w.heap.size (.slice none 0 0) [] ds.length w Own.nil (Nat.le_refl _) (by unfold I64; omega) (by simp))
  have HLEN := Lib.hid (lTo_len hl (fun d hd' => (hd d hd').1))
  have HD := Lib.hid hd
  clear h hd
  go_enter Tryz.func59, Tryz.ntmps59
  go_wp2_with fail
  refine HA.out.mono ?_
  rintro e w1 ⟨u, rfl, hu, hb, -⟩
  obtain ⟨A1, n1, c1, rfl⟩ := OwnB.isSl hu
  have HO1 : Hid (OwnB w.heap.size w1 (.slice A1 n1 c1) (lTo ds 0)) := by
    show OwnB _ _ _ _
    unfold lTo
    simpa using hu
  have HB1 := Lib.hid hb
  clear hu hb
  go_wp2_with fail
  go_loopg [4, 15] ds.length (fun gg s4 s15 wr => ∃ (kk : Nat) (A1 : Option Addr) (n1 c1 : Nat), kk ≤ ds.length ∧ ds.length - kk ≤ gg ∧ s4 = .slice A1 n1 c1 ∧ s15 = i kk ∧ Hid (OwnB w.heap.size wr (.slice A1 n1 c1) (lTo ds kk)) ∧ Hid (Below w.heap.size w wr))
  case atStart => exact ⟨0, _, _, _, Nat.zero_le _, by omega, rfl, rfl, HO1.out, HB1.out⟩
  case round =>
    obtain ⟨kk, A2, n2, c2, hkk, hg, rfl, rfl, HO, BW⟩ := hrel
    have hln := HLEN.out kk hkk
    by_cases hlt : kk < ds.length
    · have hltz : (kk : Int) < (ds.length : Int) := by omega
      obtain ⟨b, off, r, rfl, _, ⟨u, hr, hdt⟩, hcell⟩ := SliceAt.at_ HL.out hlt
      subst hr
      have l0 : wr.cell? ⟨b, off + kk, none⟩ = some u := by simpa using Kept.of BW.out _ _ (hcell 0 _ rfl)
      obtain ⟨hd1, hd2⟩ := HD.out _ (List.getElem_mem hlt)
      have HDT := Lib.hid (hdt.call BW.out)
      have HDT0 := Lib.hid hdt
      have HSU := Lib.hid (lTo_succ hlt)
      clear hcell hdt
      generalize ds[kk] = d at *
      obtain ⟨A3, c3, rfl⟩ := Data.slice HDT.out
      have HAP := Lib.hid (appendInt w.heap.size _ _ d.length wr HO.out BW.out.size (by unfold I64; omega) (by omega))
      go_wp2_with fail
      refine HAP.out.mono ?_
      rintro e w3 ⟨u3, rfl, hu3, hb3, -⟩
      obtain ⟨A4, n4, c4, rfl⟩ := OwnB.isSl hu3
      have HO3 := Lib.hid hu3
      have BW3 := Lib.hid (BW.out.trans hb3)
      have HDT3 := Lib.hid (HDT0.out.call BW3.out)
      have HS3 := BW3.out.size
      clear hu3 hb3
      go_wp2_with (at_builtin; refine wpList_data rfl (.tmp 23) (.tmp 24) 48 rfl i0 _ Tryz.underlying48 hi0 hz0 hz1 hz2 rfl rfl HO3.out rfl HDT3.out hd2 (by have := encI_len (n := (d.length : Int)) (by omega); rw [List.length_append]; omega) HS3 ?_)
      rintro v' w5 hown hbel ⟨A5, n5, c5, rfl⟩
      have HO5 : Hid (OwnB w.heap.size w5 (.slice A5 n5 c5) (lTo ds (kk + 1))) := by
        show OwnB _ _ _ _
        rw [HSU.out]
        simpa using hown
      have BW5 := Lib.hid (BW3.out.trans hbel)
      clear hown hbel
      go_wp2_with fail
      go_roundg (ds.length - (kk + 1))
      case measure => omega
      case rel => exact ⟨kk + 1, _, _, _, by omega, by omega, rfl, by go_num, HO5, BW5⟩
    · have hltz : ¬ (kk : Int) < (ds.length : Int) := by omega
      have hke : kk = ds.length := by omega
      subst hke
      rw [lTo_all] at HO
      go_wp2_with fail
      go_ret2
      exact ⟨_, rfl, HO.out, BW.out⟩
end EncW
end Go.Proofs.YtpmcdjpfolgpiaaGreatDoor
