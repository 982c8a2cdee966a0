/-
  A slice that the call itself grows by all elements of another.
  The walk of the reference's Adjust.
-/
import Derived.Test.YtpmcdjpfolgpiaaGreatDoorBase
import Derived.Laws.AppendOwnNone
import Derived.Test.YtpmcdjpfolgpiaaGreatDoorTaxF
import Derived.Test.YtpmcdjpfolgpiaaGreatDoorCdrV
import Derived.BigQuiet
import Derived.Deep.DeepCutAuto
namespace Go.Proofs.YtpmcdjpfolgpiaaGreatDoor
set_option linter.unusedVariables false
open Go.RowKit Go.ChangeShapes Go.WideShapes Go.Deep
section
variable {α : Type} {R : List Value → α → Prop} {e : TypeId} {size base : Nat} {w w' : World} {v : Value} {xs : List α}
/-- 'v = append(v, u...)'. -/
theorem wpList_growAll {P : Program} {ops : Array Oper} {rest : List Oper} {o : Oper} {a : Act} {Q : Exit → Act → World → Prop} (hgd : o.guard = none) (s x : Operand) (t : TypeId)
    (ho : o.op = .call { callee := .builtin .append, args := #[s, x], argTypes := #[t, t] })
    (i : TypeInfo) (z : Value) (bytes : Nat) (ht : P.underlying t = some (.slice e)) (hi : P.info? e = some i) (hz : i.zero = some z)
    (hsize : i.size = size) (hby : i.bytes = bytes) (hzs : z.cells.size = size) (hsz : 0 < size)
    (hs : a.eval s = v) (hown : Own R e size base w v xs) (u : Value) (ys : List α) (hx : a.eval x = u) (hu : SliceAt R size w u ys)
    (h1 : ∀ r x, R r x → ∀ u ∈ r, u.oneCell' = true) (hn : xs.length + ys.length ≤ 16777216) (hb8 : bytes ≤ 4096) (hbase : base ≤ w.heap.size)
    (h : ∀ v' w', Own R e size base w' v' (xs ++ ys) → w.grownBy w' v.ownBlock → Below base w w' → IsSl v' → wpList P ops Q rest (a.put o.dst v') w') : wpList P ops Q (o :: rest) a w := by
  obtain ⟨rs, k1, k2⟩ := hown
  have hsl : IsSl v := by
    rcases k1.2 with ⟨h0, _⟩ | ⟨g', cap, cur, h0, _⟩
    · exact ⟨_, _, _, h0⟩
    · exact ⟨_, _, _, h0⟩
  obtain ⟨A, c, rfl, l1, l2, l0⟩ := SliceAt.form' hu
  rcases A with _ | ad
  · have hc0 := l0 rfl
    have hcl : ys = [] := List.eq_nil_of_length_eq_zero (by omega)
    subst hcl
    subst hc0
    refine wpList_append_own_none hgd s x t ho base e i size ht hi v xs.length rs.flatten hs k1 hx ?_
    refine h v w ⟨rs, ?_, ?_⟩ (World.grownBy.refl _ _) (Below.refl _ _) hsl
    · rw [List.append_nil]; exact k1
    · rw [List.append_nil]; exact k2
  · obtain ⟨qs, hqs, hcells⟩ := SliceAt.rows hsz hu
    refine wpList_append_own w hgd s x t ho base e i z size bytes ht hi hz hsize hby hzs hsz v xs.length rs.flatten hs k1 ad ys.length c qs.flatten hx (by rw [flat_len qs hqs.each, hqs.1]) (hcells ad rfl) (rows_one hqs h1) (by unfold maxLen; omega) ?_ hbase ?_
    · exact Nat.le_trans (Nat.mul_le_mul (show xs.length + ys.length ≤ 16777217 by omega) hb8) (by decide)
    · intro v' w' ho hg _
      refine h v' w' ⟨rs ++ qs, ?_, rows_append k2 hqs⟩ hg ((Below.refl _ _).grown hg hbase (fun k hk => (k1.lt k hk).1)) ?_
      · rw [List.flatten_append, List.length_append]; exact ho
      · rcases ho.2 with ⟨h0, _⟩ | ⟨g', cap, cur, h0, _⟩
        · exact ⟨_, _, _, h0⟩
        · exact ⟨_, _, _, h0⟩

end
end Go.Proofs.YtpmcdjpfolgpiaaGreatDoor

namespace Go.Proofs.YtpmcdjpfolgpiaaGreatDoor
namespace MonW
set_option linter.unusedSimpArgs false
set_option linter.unusedVariables false
open Go.RowKit

/-- No item among the first k is ahead of one of net x at place q. -/
def topTo (cs : List Itm) (x : Int) (q : Nat) : Nat → Bool
  | 0 => true
  | k + 1 => topTo cs x q k && (match cs[k]? with | none => true | some y => !(decide (x < y.net) || ((y.net == x) && decide (k < q))))
theorem topTo_succ {cs : List Itm} {x : Int} {q k : Nat} (hk : k < cs.length) : topTo cs x q (k + 1) = (topTo cs x q k && !(decide (x < cs[k].net) || ((cs[k].net == x) && decide (k < q)))) := by
  rw [topTo, List.getElem?_eq_getElem hk]
theorem nb (x y : Int) (k q : Nat) : (!(decide (x < y) || ((y == x) && decide (k < q)))) = true ↔ ¬ (x < y ∨ (y = x ∧ k < q)) := by
  by_cases h1 : x < y <;> by_cases h2 : y = x <;> by_cases h3 : k < q <;> simp [h1, h2, h3]
theorem topTo_true {cs : List Itm} {x : Int} {q : Nat} : ∀ n, n ≤ cs.length → (topTo cs x q n = true ↔ ∀ k (hk : k < cs.length), k < n → ¬ (x < cs[k].net ∨ (cs[k].net = x ∧ k < q)))
  | 0, _ => by simp [topTo]
  | n + 1, hn => by
    rw [topTo_succ (by omega), Bool.and_eq_true, topTo_true n (by omega), nb]
    constructor
    · rintro ⟨h1, h2⟩ k hk hkn
      by_cases e : k = n
      · subst e
        exact h2
      · exact h1 k hk (by omega)
    · intro h
      exact ⟨fun k hk hkn => h k hk (by omega), h n (by omega) (by omega)⟩
theorem best_at (c : Itm) (cs : List Itm) : ∀ k, k ≤ cs.length → ∃ t, ∃ ht : t < (c :: cs).length, t ≤ k ∧ bestTo c cs k = (c :: cs)[t] ∧ ∀ j (hj : j < (c :: cs).length), j ≤ k → (c :: cs)[j].net ≤ (c :: cs)[t].net ∧ (j < t → (c :: cs)[j].net < (c :: cs)[t].net)
  | 0, _ => ⟨0, by simp, Nat.le_refl _, rfl, fun j hj hj0 => by
      obtain rfl : j = 0 := by omega
      exact ⟨Int.le_refl _, fun h => absurd h (by omega)⟩⟩
  | k + 1, hk => by
    obtain ⟨t, ht, htk, e, h⟩ := best_at c cs k (by omega)
    rw [bestTo_succ c cs (by omega), e]
    unfold better
    by_cases hlt : (c :: cs)[t].net < cs[k].net
    · rw [if_pos hlt]
      have hkk : k + 1 < (c :: cs).length := by simp; omega
      refine ⟨k + 1, hkk, Nat.le_refl _, rfl, fun j hj hjk => ?_⟩
      by_cases ej : j = k + 1
      · subst ej; exact ⟨Int.le_refl _, fun h => absurd h (by omega)⟩
      · have h1 := h j hj (by omega)
        have e2 : ((c :: cs)[k + 1]'hkk).net = cs[k].net := rfl
        rw [e2]
        exact ⟨by omega, fun _ => by omega⟩
    · rw [if_neg hlt]
      refine ⟨t, ht, by omega, rfl, fun j hj hjk => ?_⟩
      by_cases ej : j = k + 1
      · subst ej
        have e2 : ((c :: cs)[k + 1]'hj).net = cs[k].net := rfl
        rw [e2]
        exact ⟨by omega, fun h => absurd h (by omega)⟩
      · exact h j hj (by omega)
/-- The item whose tax is taken: where it lies. -/
theorem top_at {cs : List Itm} (h0 : 0 < cs.length) : ∃ t, ∃ ht : t < cs.length, topTax cs = cs[t].tax ∧ ∀ q (hq : q < cs.length), topTo cs cs[q].net q cs.length = decide (q = t) := by
  cases cs with
  | nil => simp at h0
  | cons c cs =>
    obtain ⟨t, ht, _, e, h⟩ := best_at c cs cs.length (Nat.le_refl _)
    refine ⟨t, ht, by show (cs.foldl better c).tax = _; rw [← bestTo_all, e], fun q hq => ?_⟩
    rw [Bool.eq_iff_iff, topTo_true _ (Nat.le_refl _), decide_eq_true_iff]
    constructor
    · intro h2
      have h3 := h2 t ht ht
      have h4 := h q hq (by simp at hq; omega)
      have h5 : ¬ (c :: cs)[q].net < (c :: cs)[t].net := fun e => h3 (.inl e)
      have h6 : (c :: cs)[t].net = (c :: cs)[q].net := by omega
      have h7 : ¬ t < q := fun e => h3 (.inr ⟨h6, e⟩)
      have h8 : ¬ q < t := fun e => by have := h4.2 e; omega
      omega
    · rintro rfl k hk _ h2
      have h4 := h k hk (by simp at hk; omega)
      rcases h2 with h2 | ⟨h2, h3⟩
      · omega
      · have := h4.2 h3; omega
theorem bnd_two (N least most : Int) (hl : -1 ≤ least) (hm : -1 ≤ most) (hr : least = -1 ∨ most = -1 ∨ least ≤ most) :
    bnd N least most = (if 0 ≤ most ∧ most < N then most else if 0 ≤ least ∧ N < least then least else N) := by
  unfold bnd
  by_cases h1 : least ≠ -1 ∧ N < least
  · rw [if_pos h1, if_neg (by omega), if_pos (by omega)]
  · rw [if_neg h1]
    by_cases h2 : most ≠ -1 ∧ most < N
    · rw [if_pos h2, if_pos (by omega)]
    · rw [if_neg h2, if_neg (by omega), if_neg (by omega)]
theorem topTax_I64 {cs : List Itm} (h : ∀ x ∈ cs, x.ok) : I64 (topTax cs) := by
  cases cs with
  | nil => exact ⟨by show (-9223372036854775808 : Int) ≤ 0; omega, by show (0 : Int) ≤ _; omega⟩
  | cons c cs =>
    obtain ⟨t, ht, e, _⟩ := top_at (cs := c :: cs) (by simp)
    rw [e]
    exact (h _ (List.getElem_mem ht)).2.2.1

set_option maxRecDepth 100000 in
set_option maxHeartbeats 1000000 in
theorem radj_bad (v : Value) (cs : List Itm) (least most : Int) (w : World) (h : ItmsAt w v cs) (hb : badR least most = true) :
    Calls Tryz.prog 53 #[v, i least, i most] w (AdjPost cs least most w) := by
  have HF : Hid (adj cs least most = (cs, 2)) := by show _ = _; unfold adj; rw [if_pos hb]
  have HI := Lib.hid h
  obtain ⟨A, c, rfl, h1, h2⟩ := SliceAt.form h
  have hr := of_decide_eq_true (show decide _ = true from hb)
  clear h hb
  by_cases q1 : least < -1
  · go_enter Tryz.func53, Tryz.ntmps53
    go_wp2_with fail
    go_ret2
    exact AdjPost.mk HF.out HI.out (Below.refl _ _)
  by_cases q2 : most < -1
  · go_enter Tryz.func53, Tryz.ntmps53
    go_wp2_with fail
    go_ret2
    exact AdjPost.mk HF.out HI.out (Below.refl _ _)
  have q3 : 0 ≤ least := by omega
  have q4 : 0 ≤ most := by omega
  have q5 : most < least := by omega
  clear hr
  go_enter Tryz.func53, Tryz.ntmps53
  go_wp2_with fail
  go_ret2
  exact AdjPost.mk HF.out HI.out (Below.refl _ _)

/-- The bound behind the first test, behind both. -/
def bnd1 (N least : Int) : Int := if 0 ≤ least ∧ N < least then least else N
def taxTo (t : Nat) (T : Int) (q : Nat) : Int := if t < q then T else 0

set_option maxRecDepth 100000 in
set_option maxHeartbeats 4000000 in
theorem radj_good (v : Value) (cs : List Itm) (least most : Int) (w : World) (h : ItmsAt w v cs) (hn : cs.length ≤ 16777216) (hl' : I64 least) (hm' : I64 most) (hb : badR least most = false) :
    Calls Tryz.prog 53 #[v, i least, i most] w (AdjPost cs least most w) := by
  have hr := of_decide_eq_false (show decide _ = false from hb)
  have hl : ¬ least < -1 := by omega
  have hm : ¬ most < -1 := by omega
  have hlm : ¬ (0 ≤ least ∧ 0 ≤ most ∧ most < least) := by omega
  have hA : adj cs least most = if fitI (sNet cs) = false then (cs, 20) else if bnd (sNet cs) least most = sNet cs then (cs, 0) else if 64 ≤ cs.length then (cs, 3)
      else if fitI (bnd (sNet cs) least most - sNet cs) = false then (cs, 20) else if txOk (adjX cs least most) then (cs ++ [txV (adjX cs least most)], 0) else (cs, 20) := by
    unfold adj; rw [if_neg (by rw [hb]; decide)]
  have hb2 := bnd_two (sNet cs) least most (by omega) (by omega) (by omega)
  obtain ⟨A, c, rfl, h1, h2⟩ := SliceAt.form h
  have HI := Lib.hid h
  have HOK := Lib.hid (itms_ok h)
  have HNT := Lib.hid (fun W (hb : Below w.heap.size w W) => rnets (.slice A cs.length c) cs W (ItmsAt.call h hb) hn)
  have HSM : Hid (∀ (u : Value) W, IntsAt W u (cs.map (·.net)) → Calls Tryz.prog 54 #[u] W fun e w' => e = .returned (.tuple #[i (sumV (sNet cs)), i (sumE (sNet cs))]) ∧ Below W.heap.size W w') := fun u W hu => rsum u _ W hu
  have hw := sum_ways (sNet cs)
  have HAD := Lib.hid hA
  have HB2 := Lib.hid hb2
  clear h hr hb hA hb2
  -- the first tests: nothing is wrong
  have hT : Hid (∃ u, u = (0 : Int)) := ⟨0, rfl⟩
  clear hT
  have key : ∀ (N : Int) (hfN : I64 N), (∀ (u : Value) W, IntsAt W u (cs.map (·.net)) → Calls Tryz.prog 54 #[u] W fun e w' => e = .returned (.tuple #[i N, i 0]) ∧ Below W.heap.size W w') →
      sNet cs = N → Calls Tryz.prog 53 #[.slice A cs.length c, i least, i most] w (AdjPost cs least most w) := by
    intro N hfN hs hN
    have HS := Lib.hid hs
    have hfit : fitI N = true := decide_eq_true hfN
    have HAD2 : Hid (adj cs least most = if bnd N least most = N then (cs, 0) else if 64 ≤ cs.length then (cs, 3)
      else if fitI (bnd N least most - N) = false then (cs, 20) else if txOk (adjX cs least most) then (cs ++ [txV (adjX cs least most)], 0) else (cs, 20)) := by
      have := HAD.out
      rw [hN, hfit, if_neg (by decide)] at this
      exact this
    have HX : Hid (adjX cs least most = ⟨1, bnd N least most - N, topTax cs, 1, bnd N least most - N, 0, 0⟩) := by
      show _ = _
      unfold adjX
      rw [hN]
    have hB1 : Hid (bnd N least most = if 0 ≤ most ∧ most < N then most else bnd1 N least) := by
      have := HB2.out
      rw [hN] at this
      exact this
    clear hs HSM HAD HB2 hw hN hfit
    unfold I64 at hfN hl' hm'
    go_enter Tryz.func53, Tryz.ntmps53
    go_upto_region 1 with (fail)
    go_cut [38] (fun s38 wd => s38 = .bool false ∧ w = wd)
    case first =>
      by_cases q1 : 0 ≤ least
      · by_cases q2 : 0 ≤ most
        · have q3 : ¬ most < least := by omega
          go_wp2_with fail
          go_meet
          exact ⟨rfl, rfl⟩
        · go_wp2_with fail
          go_meet
          exact ⟨rfl, rfl⟩
      · go_wp2_with fail
        go_meet
        exact ⟨rfl, rfl⟩
    case rest =>
    obtain ⟨rfl, rfl⟩ := hcut
    go_wp2_with fail
    refine (HNT.out _ (Below.refl _ _)).mono ?_
    rintro e w1 ⟨⟨u, rfl, hu⟩, hb1⟩
    go_wp2_with fail
    refine (HS.out u w1 hu).mono ?_
    rintro e w2 ⟨rfl, hb2⟩
    have HBW := Lib.hid (below_call hb1 hb2)
    clear hu hb1 hb2 HNT HS
    go_upto_region 7 with (fail)
    go_cut [57] (fun s57 wd => s57 = .bool (decide (0 ≤ least ∧ N < least)) ∧ w2 = wd)
    case first =>
      by_cases q1 : 0 ≤ least
      · by_cases q2 : N < least
        · go_wp2_with fail
          go_meet
          exact ⟨by rw [decide_eq_true (show 0 ≤ least ∧ N < least from ⟨q1, q2⟩)], rfl⟩
        · go_wp2_with fail
          go_meet
          exact ⟨by rw [decide_eq_false (show ¬ (0 ≤ least ∧ N < least) by omega)], rfl⟩
      · go_wp2_with fail
        go_meet
        exact ⟨by rw [decide_eq_false (show ¬ (0 ≤ least ∧ N < least) by omega)], rfl⟩
    case rest =>
    obtain ⟨rfl, rfl⟩ := hcut
    obtain ⟨p, hp⟩ : ∃ p, decide (0 ≤ least ∧ N < least) = p := ⟨_, rfl⟩
    have HP := Lib.hid hp
    rw [hp]
    clear hp
    go_upto_if 57 with (fail)
    go_cut [10] (fun s10 wd => s10 = i (bnd1 N least) ∧ w2 = wd)
    case first =>
      cases p with
      | true =>
        have e1 : Hid (bnd1 N least = least) := by show _ = _; unfold bnd1; rw [if_pos (of_decide_eq_true HP.out)]
        go_wp2_with fail
        go_meet
        exact ⟨by rw [e1.out], rfl⟩
      | false =>
        have e1 : Hid (bnd1 N least = N) := by show _ = _; unfold bnd1; rw [if_neg (of_decide_eq_false HP.out)]
        go_wp2_with fail
        go_meet
        exact ⟨by rw [e1.out], rfl⟩
    case rest =>
    obtain ⟨rfl, rfl⟩ := hcut
    clear HP
    go_upto_region 9 with (fail)
    go_cut [65] (fun s65 wf => s65 = .bool (decide (0 ≤ most ∧ most < N)) ∧ w2 = wf)
    case first =>
      by_cases q1 : 0 ≤ most
      · by_cases q2 : most < N
        · go_wp2_with fail
          go_meet
          exact ⟨by rw [decide_eq_true (show 0 ≤ most ∧ most < N from ⟨q1, q2⟩)], rfl⟩
        · go_wp2_with fail
          go_meet
          exact ⟨by rw [decide_eq_false (show ¬ (0 ≤ most ∧ most < N) by omega)], rfl⟩
      · go_wp2_with fail
        go_meet
        exact ⟨by rw [decide_eq_false (show ¬ (0 ≤ most ∧ most < N) by omega)], rfl⟩
    case rest =>
    obtain ⟨rfl, rfl⟩ := hcut
    obtain ⟨p2, hp⟩ : ∃ p, decide (0 ≤ most ∧ most < N) = p := ⟨_, rfl⟩
    have HP := Lib.hid hp
    rw [hp]
    clear hp
    go_upto_if 65 with (fail)
    go_cut [10] (fun s10 wg => s10 = i (bnd N least most) ∧ w2 = wg)
    case first =>
      cases p2 with
      | true =>
        have e1 : Hid (bnd N least most = most) := by show _ = _; rw [hB1.out, if_pos (of_decide_eq_true HP.out)]
        go_wp2_with fail
        go_meet
        exact ⟨by rw [e1.out], rfl⟩
      | false =>
        have e1 : Hid (bnd N least most = bnd1 N least) := by show _ = _; rw [hB1.out, if_neg (of_decide_eq_false HP.out)]
        go_wp2_with fail
        go_meet
        exact ⟨by rw [e1.out], rfl⟩
    case rest =>
    obtain ⟨rfl, rfl⟩ := hcut
    have hbb : -9223372036854775808 ≤ bnd N least most ∧ bnd N least most ≤ 9223372036854775807 := by
      rw [hB1.out]
      unfold bnd1
      split
      · exact hm'
      · split
        · exact hl'
        · exact hfN
    clear HP hB1 hl' hm' hl hm hlm
    generalize bnd N least most = b at *
    by_cases he : b = N
    · have HF : Hid (adj cs least most = (cs, 0)) := by
        have := HAD2.out
        rw [if_pos he] at this
        exact this
      have hez : (b == N) = true := beq_iff_eq.2 he
      clear he
      go_wp2_with fail
      go_ret2
      exact AdjPost.mk HF.out (ItmsAt.call HI.out HBW.out) HBW.out
    have hez : (b == N) = false := beq_eq_false_iff_ne.2 he
    have HAD3 : Hid (adj cs least most = if 64 ≤ cs.length then (cs, 3) else if fitI (b - N) = false then (cs, 20) else if txOk (adjX cs least most) then (cs ++ [txV (adjX cs least most)], 0) else (cs, 20)) := by
      have := HAD2.out
      rw [if_neg he] at this
      exact this
    clear HAD2 he
    by_cases h64 : 64 ≤ cs.length
    · have h64z : (64 : Int) ≤ (cs.length : Int) := by omega
      have HF : Hid (adj cs least most = (cs, 3)) := by
        have := HAD3.out
        rw [if_pos h64] at this
        exact this
      go_wp2_with fail
      go_ret2
      exact AdjPost.mk HF.out (ItmsAt.call HI.out HBW.out) HBW.out
    have h64z : ¬ (64 : Int) ≤ (cs.length : Int) := by omega
    have HAD4 : Hid (adj cs least most = if fitI (b - N) = false then (cs, 20) else if txOk (adjX cs least most) then (cs ++ [txV (adjX cs least most)], 0) else (cs, 20)) := by
      have := HAD3.out
      rw [if_neg h64] at this
      exact this
    clear HAD3
    have hwN : IntKind.i64.wrap (-1 - N) = -1 - N := IntWalk.i64_in _ (by omega)
    have hti : tot [b, -1 - N, 1] = b - N := by simp [tot]; omega
    have HS3 : Hid (∀ W : World, Calls Tryz.prog 54 #[.slice (some ⟨W.heap.size, 0, none⟩) 3 3] (W.alloc (.cells #[i b, i (-1 - N), i 1] 3)) fun e w' => e = .returned (.tuple #[i (sumV (b - N)), i (sumE (b - N))]) ∧ Below (W.alloc (.cells #[i b, i (-1 - N), i 1] 3)).heap.size (W.alloc (.cells #[i b, i (-1 - N), i 1] 3)) w') := by
      intro W
      have hin : IntsAt (W.alloc (.cells #[i b, i (-1 - N), i 1] 3)) (.slice (some ⟨W.heap.size, 0, none⟩) 3 3) [b, -1 - N, 1] :=
        Cdr.sl1 (f := fun n : Int => i n) W [b, -1 - N, 1] 3 #[i b, i (-1 - N), i 1] rfl (fun x hx => ⟨rfl, by
          unfold I64
          simp at hx
          omega⟩) (by unfold maxLen; simp) rfl rfl rfl
      have := rsum (.slice (some ⟨W.heap.size, 0, none⟩) 3 3) [b, -1 - N, 1] _ hin
      rw [hti] at this
      exact this
    have hw2 := sum_ways (b - N)
    clear hti hbb hfN
    go_wp2_with fail
    refine (HS3.out _).mono ?_
    rintro e w3 ⟨rfl, hb3⟩
    have HB3 := Lib.hid (below_call (below_alloc HBW.out _) hb3)
    clear hb3 HS3 HBW hwN
    rcases hw2 with ⟨f1, f2, f3⟩ | ⟨f1, f2, f3⟩
    case inr =>
      have HF : Hid (adj cs least most = (cs, 20)) := by
        have := HAD4.out
        rw [if_pos f1] at this
        exact this
      rw [f2, f3]
      clear f1 f2 f3
      go_wp2_with fail
      go_ret2
      exact AdjPost.mk HF.out (ItmsAt.call HI.out HB3.out) HB3.out
    have HAD5 : Hid (adj cs least most = if txOk (adjX cs least most) then (cs ++ [txV (adjX cs least most)], 0) else (cs, 20)) := by
      have := HAD4.out
      rw [if_neg (by rw [f1]; decide)] at this
      exact this
    have hD : I64 (b - N) := of_decide_eq_true f1
    have HD := Lib.hid hD
    clear hD
    rw [f2, f3]
    clear f1 f2 f3 HAD4
    generalize hdd : b - N = D at *
    clear hdd hez
    obtain ⟨T, hT⟩ : ∃ T, topTax cs = T := ⟨_, rfl⟩
    have HT := Lib.hid hT
    have HTOP : Hid (∃ t, (cs = [] → T = 0) ∧ (0 < cs.length → t < cs.length ∧ ∀ q (hq : q < cs.length), topTo cs cs[q].net q cs.length = decide (q = t) ∧ (q = t → cs[q].tax = T))) := by
      rcases Nat.eq_zero_or_pos cs.length with h0 | h0
      · refine ⟨0, fun _ => ?_, fun h => by omega⟩
        have : cs = [] := List.eq_nil_of_length_eq_zero h0
        subst this
        exact hT.symm
      · obtain ⟨t, ht, e, h⟩ := top_at h0
        refine ⟨t, fun h => by subst h; simp at h0, fun _ => ⟨ht, fun q hq => ⟨h q hq, fun e2 => ?_⟩⟩⟩
        subst e2
        rw [← e]; exact hT
    clear hT
    obtain ⟨t, HT0, HTT⟩ := HTOP.out
    clear HTOP
    have HT0 := Lib.hid HT0
    have HTT := Lib.hid HTT
    go_wp2_with fail
    go_loopg [13, 14] cs.length (fun gg s13 s14 wr => ∃ (q n : Nat), q ≤ cs.length ∧ cs.length - q ≤ gg ∧ s13 = i (taxTo t T q) ∧ s14 = i (q : Int) ∧ Hid (wr = w3.drewN n))
    case atStart => exact ⟨0, 0, Nat.zero_le _, by omega, by unfold taxTo; rw [if_neg (by omega)], rfl, rfl⟩
    case round =>
      obtain ⟨q, nn, hq, hg, rfl, rfl, HW⟩ := hrel
      have hw := HW.out
      clear HW
      subst hw
      by_cases hlt : q < cs.length
      · have hltz : (q : Int) < (cs.length : Int) := by omega
        have hq0 : (0 : Int) ≤ (q : Int) := by omega
        obtain ⟨htl, htt⟩ := HTT.out (by omega)
        obtain ⟨htop, htax⟩ := htt q hlt
        have HTO := Lib.hid htop
        have HTX := Lib.hid htax
        obtain ⟨b0, off, rfl, _, _, hrow⟩ := ItmsAt.at_ HI.out hlt
        obtain ⟨-, -, l2, -, l4, -, -⟩ := hrow w3 (Kept.of HB3.out)
        clear hrow htop htax htt
        generalize cs[q].net = xn at *
        generalize cs[q].tax = xt at *
        go_wp2_with fail
        go_loopg [15, 16] cs.length (fun gg s15 s16 wr => ∃ (kk n : Nat), kk ≤ cs.length ∧ cs.length - kk ≤ gg ∧ s15 = .bool (topTo cs xn q kk) ∧ s16 = i (kk : Int) ∧ Hid (wr = w3.drewN n))
        case atStart => exact ⟨0, nn, Nat.zero_le _, by omega, rfl, rfl, rfl⟩
        case round =>
          obtain ⟨kk, n2, hkk, hg2, rfl, rfl, HW⟩ := hrel
          have hw := HW.out
          clear HW
          subst hw
          by_cases hlt2 : kk < cs.length
          · have hltz2 : (kk : Int) < (cs.length : Int) := by omega
            have hk0 : (0 : Int) ≤ (kk : Int) := by omega
            obtain ⟨b1, off1, hA1, _, _, hrow⟩ := ItmsAt.at_ HI.out hlt2
            obtain ⟨rfl, rfl⟩ : b0 = b1 ∧ off = off1 := by simpa using hA1
            obtain ⟨-, -, -, -, m4, -, -⟩ := hrow w3 (Kept.of HB3.out)
            have HST := Lib.hid (topTo_succ (x := xn) (q := q) hlt2)
            clear hrow hA1
            generalize cs[kk].net = yn at *
            obtain ⟨tn, HTN⟩ : ∃ s, Hid (topTo cs xn q (kk + 1) = s) := ⟨_, rfl⟩
            rw [HTN.out] at HST
            generalize topTo cs xn q kk = tk at *
            by_cases g1 : xn < yn
            · have g1z : decide (xn < yn) = true := decide_eq_true g1
              have HV : Hid (tn = false) := by show tn = false; have := HST.out; rw [g1z] at this; simpa using this
              go_wp2_with fail
              go_quiet (fail)
              go_wp2_with fail
              go_roundg (cs.length - (kk + 1))
              case measure => omega
              case rel => exact ⟨kk + 1, _, by omega, by omega, by rw [HTN.out, HV.out], by go_num, rfl⟩
            have g1z : decide (xn < yn) = false := decide_eq_false g1
            by_cases g2 : yn = xn
            · have g2z : (yn == xn) = true := beq_iff_eq.2 g2
              by_cases g3 : kk < q
              · have g3z : decide (kk < q) = true := decide_eq_true g3
                have g3y : decide ((kk : Int) < (q : Int)) = true := decide_eq_true (by omega)
                have HV : Hid (tn = false) := by show tn = false; have := HST.out; rw [g1z, g2z, g3z] at this; simpa using this
                clear g2 HST
                go_wp2_with fail
                go_quiet (fail)
                go_wp2_with fail
                go_roundg (cs.length - (kk + 1))
                case measure => omega
                case rel => exact ⟨kk + 1, _, by omega, by omega, by rw [HTN.out, HV.out], by go_num, rfl⟩
              · have g3z : decide (kk < q) = false := decide_eq_false g3
                have g3y : decide ((kk : Int) < (q : Int)) = false := decide_eq_false (by omega)
                have HV : Hid (tn = tk) := by show tn = tk; have := HST.out; rw [g1z, g2z, g3z] at this; simpa using this
                clear g2 HST
                go_wp2_with fail
                go_quiet (fail)
                go_wp2_with fail
                go_roundg (cs.length - (kk + 1))
                case measure => omega
                case rel => exact ⟨kk + 1, _, by omega, by omega, by rw [HTN.out, HV.out], by go_num, rfl⟩
            · have g2z : (yn == xn) = false := beq_eq_false_iff_ne.2 g2
              have HV : Hid (tn = tk) := by show tn = tk; have := HST.out; rw [g1z, g2z] at this; simpa using this
              clear g2 HST
              go_wp2_with fail
              go_quiet (fail)
              go_wp2_with fail
              go_roundg (cs.length - (kk + 1))
              case measure => omega
              case rel => exact ⟨kk + 1, _, by omega, by omega, by rw [HTN.out, HV.out], by go_num, rfl⟩
          · have hltz2 : ¬ (kk : Int) < (cs.length : Int) := by omega
            have hke : kk = cs.length := by omega
            subst hke
            by_cases ht : q = t
            · have HV : Hid (topTo cs xn q cs.length = true) := HTO.out.trans (decide_eq_true ht)
              have HX2 : Hid (taxTo t T (q + 1) = xt) := by show _ = _; unfold taxTo; rw [if_pos (by omega)]; exact (HTX.out ht).symm
              rw [HV.out]
              clear ht
              go_wp2_with fail
              go_roundg (cs.length - (q + 1))
              case measure => omega
              case rel => exact ⟨q + 1, _, by omega, by omega, by rw [HX2.out], by go_num, rfl⟩
            · have HV : Hid (topTo cs xn q cs.length = false) := HTO.out.trans (decide_eq_false ht)
              have HX2 : Hid (taxTo t T (q + 1) = taxTo t T q) := by
                show _ = _
                unfold taxTo
                by_cases h5 : t < q
                · rw [if_pos h5, if_pos (by omega)]
                · rw [if_neg h5, if_neg (by omega)]
              rw [HV.out]
              clear ht
              go_wp2_with fail
              go_roundg (cs.length - (q + 1))
              case measure => omega
              case rel => exact ⟨q + 1, _, by omega, by omega, by rw [HX2.out], by go_num, rfl⟩
      · have hltz : ¬ (q : Int) < (cs.length : Int) := by omega
        have hke : q = cs.length := by omega
        subst hke
        have HTF : Hid (taxTo t T cs.length = T) := by
          show _ = _
          unfold taxTo
          rcases Nat.eq_zero_or_pos cs.length with h0 | h0
          · rw [if_neg (by omega), HT0.out (List.eq_nil_of_length_eq_zero h0)]
          · rw [if_pos (HTT.out h0).1]
        rw [HTF.out]
        have HXE : Hid (adjX cs least most = ⟨1, D, T, 1, D, 0, 0⟩) := by
          have := HX.out
          rw [HT.out] at this
          exact this
        have HTI : Hid (I64 T) := by
          have := topTax_I64 HOK.out
          rw [HT.out] at this
          exact this
        have HAX : Hid (adj cs least most = if txOk ⟨1, D, T, 1, D, 0, 0⟩ then (cs ++ [txV ⟨1, D, T, 1, D, 0, 0⟩], 0) else (cs, 20)) := by
          have := HAD5.out
          rw [HXE.out] at this
          exact this
        have o1 : I64 1 := by unfold I64; decide
        have o0 : I64 0 := by unfold I64; decide
        have hxo : (⟨1, D, T, 1, D, 0, 0⟩ : Itm).ok := ⟨o1, HD.out, HTI.out, o1, HD.out, o0, o0⟩
        have HTAX : Hid (∀ W, Calls Tryz.prog 86 #[.agg #[i 1, i D, i T, i 1, i D, i 0, i 0]] W fun e w' => e = .returned (.tuple #[itmV (txV ⟨1, D, T, 1, D, 0, 0⟩), .bool (txOk ⟨1, D, T, 1, D, 0, 0⟩)]) ∧ Below W.heap.size W w') := fun W => rtaxed _ W hxo
        have HZO := Lib.hid (txV_ok hxo)
        clear HTF HXE HTI HD HAD5 HX HT HT0 HTT hxo hltz o1 o0
        generalize txV ⟨1, D, T, 1, D, 0, 0⟩ = z at *
        generalize txOk ⟨1, D, T, 1, D, 0, 0⟩ = ok at *
        have HB4 := Lib.hid (below_drewN' HB3.out nn)
        generalize w3.drewN nn = w4 at *
        clear HB3
        go_wp2_with fail
        refine (HTAX.out _).mono ?_
        rintro e w5 ⟨rfl, hb5⟩
        have HB5 := Lib.hid (below_call HB4.out hb5)
        clear hb5 HB4 HTAX
        cases ok with
        | false =>
          go_wp2_with fail
          go_ret2
          exact AdjPost.mk HAX.out (ItmsAt.call HI.out (below_alloc HB5.out _)) (below_alloc HB5.out _)
        | true =>
          obtain ⟨i0, hi0, hz0, hz1, hz2⟩ := info_parts infoItm
          have HK6 := Lib.hid (Blk.new w5 52 (itmA z))
          have HB6 := Lib.hid (below_alloc HB5.out (.cells (itmA z) 52))
          have hs6 : Hid ((w5.alloc (.cells (itmA z) 52)).heap.size = w5.heap.size + 1) := by show _ = _; simp
          go_upto_region 34 with (fail)
          generalize w5.alloc (.cells #[i z.kind, i z.price, i z.tax, i z.qty, i z.net, i z.vat, i z.gross] 52) = w6 at *
          have HI6 := Lib.hid (ItmsAt.call HI.out HB6.out)
          go_wp2_with (at_builtin; refine wpList_growAll (xs := []) (base := w6.heap.size) rfl (.tmp 144) (.tmp 145) 22 rfl i0 _ 56 Tryz.underlying22 hi0 hz0 hz1 hz2 rfl (by omega) rfl Own.nil _ cs rfl HI6.out one_itm (by simpa using hn) (by omega) (Nat.le_refl _) ?_)
          rintro v7 w7 hown7 hgr7 hbel7 ⟨A7, n7, c7, rfl⟩
          have HO7 : Hid (OwnI w6.heap.size w7 (.slice A7 n7 c7) cs) := by show OwnI _ _ _ _; simpa using hown7
          have HK7 := Lib.hid (HK6.out.below hbel7 (by rw [hs6.out]; omega))
          have kc7 := HK7.out.cell
          have HB7 := Lib.hid (HB6.out.trans (hbel7.mono HB6.out.size))
          have HB67 := Lib.hid hbel7
          clear hown7 hgr7 hbel7 HK6
          have HO8 := Lib.hid (Own.call HO7.out (below_new w7 (.cells (itmA z) 52)))
          have HB78 : Hid (Below w6.heap.size w6 (w7.alloc (.cells (itmA z) 52))) := below_alloc HB67.out _
          go_wp2_with (at_builtin; refine wpList_grow rfl (.tmp 147) (.tmp 149) 22 rfl i0 _ 56 Tryz.underlying22 hi0 hz0 hz1 hz2 rfl (by omega) rfl HO8.out w7.heap.size z _ 52 rfl (Blk.new w7 _ _) rfl (itmR_lit HZO.out) (one_itm _ _ (itmR_lit HZO.out)) hn (by omega) HB78.out.size ?_)
          rintro v9 w9 hown9 - hbel9 ⟨A9, n9, c9, rfl⟩
          have HO9 := Lib.hid hown9
          have HB9 := Lib.hid (HB6.out.trans ((HB78.out.trans hbel9).mono HB6.out.size))
          clear hown9 hbel9 kc7
          go_wp2_with fail
          go_ret2
          exact AdjPost.mk HAX.out (HO9.out.at_ (by omega)) HB9.out
  rcases hw with ⟨f1, f2, f3⟩ | ⟨f1, f2, f3⟩
  · rw [f2, f3] at HSM
    exact key _ (of_decide_eq_true f1) HSM.out rfl
  · have HF : Hid (adj cs least most = (cs, 20)) := by
      have := HAD.out
      rw [if_pos f1] at this
      exact this
    rw [f2, f3] at HSM
    clear HAD HB2 f1 f2 f3 key
    go_enter Tryz.func53, Tryz.ntmps53
    go_upto_region 1 with (fail)
    go_cut [38] (fun s38 wd => s38 = .bool false ∧ w = wd)
    case first =>
      by_cases q1 : 0 ≤ least
      · by_cases q2 : 0 ≤ most
        · have q3 : ¬ most < least := by omega
          go_wp2_with fail
          go_meet
          exact ⟨rfl, rfl⟩
        · go_wp2_with fail
          go_meet
          exact ⟨rfl, rfl⟩
      · go_wp2_with fail
        go_meet
        exact ⟨rfl, rfl⟩
    case rest =>
    obtain ⟨rfl, rfl⟩ := hcut
    go_wp2_with fail
    refine (HNT.out _ (Below.refl _ _)).mono ?_
    rintro e w1 ⟨⟨u, rfl, hu⟩, hb1⟩
    go_wp2_with fail
    refine (HSM.out u w1 hu).mono ?_
    rintro e w2 ⟨rfl, hb2⟩
    have HBW := Lib.hid (below_call hb1 hb2)
    clear hu hb1 hb2
    go_wp2_with fail
    go_ret2
    exact AdjPost.mk HF.out (ItmsAt.call HI.out HBW.out) HBW.out
theorem radjust (v : Value) (cs : List Itm) (least most : Int) (w : World) (h : ItmsAt w v cs) (hn : cs.length ≤ 16777216) (hl' : I64 least) (hm' : I64 most) :
    Calls Tryz.prog 53 #[v, i least, i most] w (AdjPost cs least most w) := by
  cases hb : badR least most with
  | true => exact radj_bad v cs least most w h hb
  | false => exact radj_good v cs least most w h hn hl' hm' hb
end MonW
end Go.Proofs.YtpmcdjpfolgpiaaGreatDoor
