/-
  Drawn regions that read, call and store into one box: Reg9D, RegB.
-/
import Derived.Test.YtfaofobhmmedmaaGreatDoorRegG
namespace Go.Proofs.YtfaofobhmmedmaaGreatDoor
namespace Reg9D
set_option linter.unusedVariables false
open Go.RowKit Reg4

section
variable {P : Program} {ops : Array Oper} {Q : Exit → Act → World → Prop} {m : Nat} {a0 : Act} {S : (Nat → Bool) → (Nat → Value) → World → Prop}

structure Inv (ops : Array Oper) (m : Nat) (a0 : Act) (S : (Nat → Bool) → (Nat → Value) → World → Prop) (vals : Nat → Value) (listed : Array Bool) (a : Act) (w : World) : Prop where
  size : listed.size = ops.size
  tail : ∀ i, m ≤ i → i < ops.size → listed.getD i true = false
  act : a = puts ops vals (fun k => listed.getD k false) (List.range m) a0
  s : S (fun k => listed.getD k false) vals w
  down : ∀ (k : Nat) (o : Oper), ops[k]? = some o → listed.getD k false = true → ∀ e ∈ o.after, Region.binds .any e = true → listed.getD e.on false = true

theorem main (hH : headB ops m = true) (hin : ∀ k d, k < m → dstOf ops k = some d → d < a0.tmps.size)
    (hstep : ∀ i o, i < m → ops[i]? = some o → ∀ (L : Nat → Bool) (vals : Nat → Value) (a : Act) (w : World), L i = false → S L vals w → (∀ e ∈ o.after, Region.binds .any e = true → L e.on = true) → (∀ d, Operand.tmp d ∈ o.op.operands → match idxOf ops m d with | some k => L k = true ∧ a.tmps.getD d undef = vals k | none => a.tmps.getD d undef = a0.tmps.getD d undef) → (∀ k j o', ops[k]? = some o' → L k = true → reaches ops ops.size k j = true → L j = true) →
      StepOk P (fun v w' => S (fun k => if k = i then true else L k) (fun k => if k = i then v else vals k) w') ((execOp a.eval o).run P w))
    (hfin : ∀ (L : Nat → Bool) (vals : Nat → Value) (w : World), (∀ k, k < m → L k = true) → S L vals w → wpList P ops Q (ops.toList.drop m) (puts ops vals (fun _ => true) (List.range m) a0) w) :
    ∀ (c : Nat) (vals : Nat → Value) (listed : Array Bool) (a : Act) (w : World), Inv ops m a0 S vals listed a w → left m listed = c → wpAny P .any ops Q (c + (ops.size - m)) listed a w := by
  simp only [headB, Bool.and_eq_true, decide_eq_true_eq, List.all_eq_true, List.mem_range, Bool.or_eq_true] at hH
  obtain ⟨⟨⟨hmn, hop⟩, htail⟩, hseq⟩ := hH
  have hopx : ∀ i o, i < m → ops[i]? = some o → o.guard = none ∧ (∀ e ∈ o.after, Region.binds .any e = true → e.on < i) ∧ (∀ d, Operand.tmp d ∈ o.op.operands → ∀ k, k < m → dstOf ops k = some d → waits o k = true) ∧ (∀ k, k < m → k ≠ i → ∀ d, dstOf ops i = some d → dstOf ops k ≠ some d) := by
    intro i o hi ho
    have h := hop i hi
    unfold opB at h
    rw [ho] at h
    simp only [Bool.and_eq_true, Option.isNone_iff_eq_none, Array.all_eq_true_iff_forall_mem, decide_eq_true_eq, List.all_eq_true, List.mem_range, Bool.or_eq_true, bne_iff_ne, beq_iff_eq] at h
    obtain ⟨⟨⟨h1, h2⟩, h3⟩, h4⟩ := h
    refine ⟨h1, fun e he hb => (h2 e he).resolve_left (by rw [hb]; decide), fun d hd k hk hkd => ?_, fun k hk hne d hd hkd => ?_⟩
    · have := h3 _ hd
      simp only [List.all_eq_true, List.mem_range, Bool.or_eq_true, bne_iff_ne] at this
      rcases this k hk with h | h
      · exact absurd hkd h
      · exact h
    · rcases h4 k hk with (h | h) | h
      · exact hne h
      · rw [h] at hd; cases hd
      · rw [hd, hkd] at h; exact h rfl
  intro c
  induction c with
  | zero =>
    intro vals listed a w inv hc
    have hall : ∀ k, k < m → listed.getD k false = true := by
      intro k hk
      unfold left at hc
      have := List.eq_nil_of_length_eq_zero hc
      have h2 := List.filter_eq_nil_iff.1 this k (List.mem_range.2 hk)
      simpa using h2
    have hl : listed = marks m ops.size := by
      refine Array.ext (by simp [marks, inv.size]; omega) (fun k h1 h2 => ?_)
      by_cases hk : k < m
      · have e1 := hall k hk
        rw [Array.getD_eq_getD_getElem?, Array.getElem?_eq_getElem h1] at e1
        have e2 : (marks m ops.size)[k] = true := by simp [marks, hk]
        rw [e2]; simpa using e1
      · have e1 := inv.tail k (by omega) (by rw [← inv.size]; exact h1)
        rw [Array.getD_eq_getD_getElem?, Array.getElem?_eq_getElem h1] at e1
        have e2 : (marks m ops.size)[k] = false := by simp [marks, Array.getElem_append, hk]
        rw [e2]; simpa using e1
    have ha : a = puts ops vals (fun _ => true) (List.range m) a0 := by
      rw [inv.act]
      exact puts_congr _ _ (fun k hk => ⟨hall k (List.mem_range.1 hk), rfl⟩)
    subst ha
    have hlen : (ops.toList.drop m).length = ops.size - m := by simp
    have := wpAny_of_seq (md := .any) (Q' := Q) (P := P) (ops := ops) (ops.toList.drop m) m listed _ w (fun j => by simp) (by rw [hlen, hl]; exact hseq) (hfin _ vals w hall inv.s)
    rw [hlen] at this
    rw [Nat.zero_add]
    exact this
  | succ c ih =>
    intro vals listed a w inv hc
    rw [show c + 1 + (ops.size - m) = (c + (ops.size - m)) + 1 by omega]
    have hex : ∃ i, i < m ∧ listed.getD i false = false := by
      unfold left at hc
      rcases hl : (List.range m).filter (fun k => !listed.getD k false) with _ | ⟨i, l⟩
      · rw [hl] at hc; simp at hc
      · have : i ∈ (List.range m).filter (fun k => !listed.getD k false) := by rw [hl]; simp
        rw [List.mem_filter, List.mem_range] at this
        exact ⟨i, this.1, by simpa using this.2⟩
    refine ⟨fun hr => ?_, fun i hi => ?_⟩
    · -- the least that has not come up may come up
      exfalso
      obtain ⟨i, ⟨hi, hu⟩, hmin⟩ : ∃ i, (i < m ∧ listed.getD i false = false) ∧ ∀ j, j < i → listed.getD j false = true := by
        obtain ⟨i, hi, hu⟩ := hex
        induction i using Nat.strongRecOn with
        | _ i ihs =>
          by_cases hb : ∃ j, j < i ∧ listed.getD j false = false
          · obtain ⟨j, hj, hju⟩ := hb
            exact ihs j hj (by omega) hju
          · exact ⟨i, ⟨hi, hu⟩, fun j hj => by
              cases hv : listed.getD j false with
              | true => rfl
              | false => exact absurd ⟨j, hj, hv⟩ hb⟩
      have ho : ∃ o, ops[i]? = some o := ⟨ops[i]'(by omega), Array.getElem?_eq_getElem _⟩
      obtain ⟨o, ho⟩ := ho
      have : i ∈ Region.ready .any ops listed := mem_ready.2 ⟨by rw [getD_tf _ _ (by rw [inv.size]; omega)]; exact hu, o, ho, fun e he hb => hmin _ ((hopx i o hi ho).2.1 e he hb)⟩
      rw [hr] at this
      cases this
    · obtain ⟨hu, o, ho, hed⟩ := mem_ready.1 hi
      have hin' : i < ops.size := (Array.getElem?_eq_some_iff.1 ho).1
      have his : i < listed.size := by rw [inv.size]; exact hin'
      have hu' : listed.getD i false = false := by rw [← getD_tf _ _ his]; exact hu
      have him : i < m := by
        rcases Nat.lt_or_ge i m with h | h
        · exact h
        · exfalso
          obtain ⟨k, hk, hku⟩ := hex
          have ht := htail i hin'
          rcases ht with ht | ht
          · omega
          · unfold tailB at ht
            simp only [List.all_eq_true, List.mem_range] at ht
            have := reach_listed inv.down _ i o k ho hed (ht k hk)
            rw [hku] at this
            cases this
      obtain ⟨g1, g2, g3, g4⟩ := hopx i o him ho
      have hstep' := hstep i o him ho _ vals a w hu' inv.s hed (fun d hx => by
        split
        · rename_i k hk
          unfold idxOf at hk
          have hkm : k < m := List.mem_range.1 (List.mem_of_find?_eq_some hk)
          have hkd : dstOf ops k = some d := by simpa using List.find?_some hk
          have hw := g3 d hx k hkm hkd
          unfold waits at hw
          rw [Array.any_eq_true'] at hw
          obtain ⟨e, he, hb⟩ := hw
          simp only [Bool.and_eq_true, beq_iff_eq] at hb
          have hlk := hed e he hb.1
          rw [hb.2] at hlk
          have : a.tmps.getD d undef = vals k := by
            rw [inv.act]
            refine puts_at hkd hlk (List.range m) a0 List.nodup_range (List.mem_range.2 hkm) (hin k d hkm hkd) (fun j hj hne hjd => ?_)
            have hj' : j < m := List.mem_range.1 hj
            have hoj : ∃ oj, ops[j]? = some oj := ⟨ops[j]'(by omega), Array.getElem?_eq_getElem _⟩
            obtain ⟨oj, hoj⟩ := hoj
            exact (hopx j oj hj' hoj).2.2.2 k hkm (fun e => hne e.symm) d hjd hkd
          exact ⟨hlk, this⟩
        · rename_i hk
          unfold idxOf at hk
          have hno : ∀ k ∈ List.range m, dstOf ops k ≠ some d := fun k hk' => by
            have := List.find?_eq_none.1 hk k hk'
            simpa using this
          rw [inv.act]
          exact puts_none _ _ hno) (fun k j ok hok hk hr => reach_listed inv.down _ k ok j hok (inv.down k ok hok hk) hr)
      have hGe : (fun k => (listed.setIfInBounds i true).getD k false) = (fun k => if k = i then true else listed.getD k false) := funext fun k => getD_set _ _ _ _ his
      have hK : ∀ (v : Value) (w' : World), S (fun k => if k = i then true else listed.getD k false) (fun k => if k = i then v else vals k) w' → wpAny P .any ops Q (c + (ops.size - m)) (listed.setIfInBounds i true) (a.put o.dst v) w' := by
        intro v w' hG
        refine ih (fun k => if k = i then v else vals k) _ _ _ ⟨by simp [inv.size], fun j hj hjn => ?_, ?_, by rw [hGe]; exact hG, fun k ok hok hlk e he hbe => ?_⟩ ?_
        · rw [getD_set _ _ _ _ his, if_neg (by omega)]
          exact inv.tail j hj hjn
        · have hdst : o.dst = dstOf ops i := by unfold dstOf; rw [ho]; rfl
          rw [hdst, inv.act, ← puts_ins (List.range m) a0 List.nodup_range (List.mem_range.2 him) hu' (fun k hk hne d h1 => g4 k (List.mem_range.1 hk) hne d h1)]
          refine puts_congr _ _ (fun k hk => ⟨?_, rfl⟩)
          rw [getD_set _ _ _ _ his]
          by_cases e : k = i
          · simp [e]
          · simp [e]
        · have hlo : listed.getD e.on false = true := by
            by_cases ek : k = i
            · subst ek
              rw [ho] at hok
              injection hok with hok
              subst hok
              exact hed e he hbe
            · rw [getD_set _ _ _ _ his, if_neg ek] at hlk
              exact inv.down k ok hok hlk e he hbe
          rw [getD_set _ _ _ _ his]
          split
          · rfl
          · exact hlo
        · have := left_set (m := m) him his hu'
          omega
      unfold wpOp
      rw [ho]
      have hwant : Region.wanted o (yielded ops a.tmps) = true := by simp [Region.wanted, g1]
      simp only [hwant, if_true]
      left
      unfold Oper.wp
      generalize (execOp a.eval o).run P w = r at hstep'
      cases r with
      | ok nx w' =>
        cases nx <;> simp only [StepOk] at hstep' <;> simp only [Oper.upon]
        · exact hK _ _ hstep'
        · exact hK _ _ hstep'
        · exact hstep'.mono fun e w'' ⟨v, he, hR⟩ => by subst he; exact hK v w'' hR
      | halt x w' => simp only [StepOk] at hstep'

/-- The law. -/
theorem region {id : Nat} {w : World} (m : Nat) (S : (Nat → Bool) → (Nat → Value) → World → Prop) (hm : P.follows .mixedOrders = true) (hH : headB ops m = true) (hin : ∀ k d, k < m → dstOf ops k = some d → d < a0.tmps.size) (hG : S (fun _ => false) (fun _ => undef) w.drew)
    (hstep : ∀ i o, i < m → ops[i]? = some o → ∀ (L : Nat → Bool) (vals : Nat → Value) (a : Act) (w : World), L i = false → S L vals w → (∀ e ∈ o.after, Region.binds .any e = true → L e.on = true) → (∀ d, Operand.tmp d ∈ o.op.operands → match idxOf ops m d with | some k => L k = true ∧ a.tmps.getD d undef = vals k | none => a.tmps.getD d undef = a0.tmps.getD d undef) → (∀ k j o', ops[k]? = some o' → L k = true → reaches ops ops.size k j = true → L j = true) →
      StepOk P (fun v w' => S (fun k => if k = i then true else L k) (fun k => if k = i then v else vals k) w') ((execOp a.eval o).run P w))
    (hfin : ∀ (L : Nat → Bool) (vals : Nat → Value) (w : World), (∀ k, k < m → L k = true) → S L vals w → wpList P ops Q (ops.toList.drop m) (puts ops vals (fun _ => true) (List.range m) a0) w) :
    (Code.region id ops true).wp P Q a0 w := by
  refine wp_region_any hm ?_
  have hmn : m ≤ ops.size := by
    simp only [headB, Bool.and_eq_true, decide_eq_true_eq] at hH
    exact hH.1.1.1
  have hz : ∀ k b, k < ops.size → (Array.replicate ops.size false).getD k b = false := fun k b hk => by
    rw [Array.getD_eq_getD_getElem?, Array.getElem?_replicate, if_pos hk]; rfl
  have hl : left m (Array.replicate ops.size false) = m := by
    unfold left
    rw [List.filter_eq_self.2 (fun k hk => by rw [hz k false (by have := List.mem_range.1 hk; omega)]; rfl), List.length_range]
  have hGz : S (fun _ => false) (fun _ => undef) w.drew → S (fun k => (Array.replicate ops.size false).getD k false) (fun _ => undef) w.drew := fun h => by
    have e : (fun k => (Array.replicate ops.size false).getD k false) = (fun _ => false) := funext fun k => by
      rw [Array.getD_eq_getD_getElem?, Array.getElem?_replicate]
      split <;> rfl
    rw [e]; exact h
  have := main (P := P) (Q := Q) (a0 := a0) (S := S) hH hin hstep hfin m (fun _ => undef) (Array.replicate ops.size false) a0 w.drew ⟨by simp, fun i _ hi => hz i true hi, ?_, hGz hG, fun k o ho h => ?_⟩ hl
  · rw [show m + (ops.size - m) = ops.size by omega] at this
    exact this
  · have : ∀ (ks : List Nat) (a : Act), (∀ k ∈ ks, k < ops.size) → puts ops (fun _ => undef) (fun k => (Array.replicate ops.size false).getD k false) ks a = a := by
      intro ks
      induction ks with
      | nil => intro a _; rfl
      | cons k ks ih =>
        intro a h
        unfold puts
        rw [hz k false (h k (by simp))]
        exact ih a (fun j hj => h j (by simp [hj]))
    exact (this _ _ (fun k hk => by have := List.mem_range.1 hk; omega)).symm
  · rw [hz k false (Array.getElem?_eq_some_iff.1 ho).1] at h; cases h
end
end Reg9D

namespace RegB
set_option linter.unusedVariables false
open Go.RowKit Reg4
section
variable {P : Program} {ops : Array Oper} {Q : Exit → Act → World → Prop} {a0 : Act}
/-- All that was there is as it was, but for block g. -/
def But (g : Nat) (W W' : World) : Prop := W.heap.size ≤ W'.heap.size ∧ ∀ b, b < W.heap.size → b ≠ g → W'.heap[b]? = W.heap[b]?
theorem But.refl (g : Nat) (W : World) : But g W W := ⟨Nat.le_refl _, fun _ _ _ => rfl⟩
theorem But.of {g : Nat} {W W' : World} (h : Below W.heap.size W W') : But g W W' := ⟨h.size, fun b hb _ => h.block b hb⟩
theorem But.row (g : Nat) (W : World) (cs : Array Value) : But g W (W.setRow g cs) := ⟨by rw [size_setRow]; exact Nat.le_refl _, fun b _ h => setRow_other W g b cs h⟩
theorem But.trans {g : Nat} {W W' W'' : World} (h : But g W W') (h' : But g W' W'') : But g W W'' := ⟨Nat.le_trans h.1 h'.1, fun b hb hn => (h'.2 b (Nat.lt_of_lt_of_le hb h.1) hn).trans (h.2 b hb hn)⟩
theorem But.blk {g g' : Nat} {W W' : World} {t : TypeId} {cs : Array Value} (h : But g W W') (hk : Blk W g' t cs) (hg : g' ≠ g) : Blk W' g' t cs := (h.2 g' hk.lt hg).trans hk
theorem But.own {α : Type} {R : List Value → α → Prop} {e : TypeId} {size base g : Nat} {W W' : World} {v : Value} {xs : List α} (h : But g W W') (ho : Own R e size base W v xs) (hg : g < base) : Own R e size base W' v xs := by
  obtain ⟨rs, ⟨h1, h2⟩, h3⟩ := ho
  refine ⟨rs, ⟨h1, ?_⟩, h3⟩
  rcases h2 with h0 | ⟨g', cap, cur, r1, r2, r3, r4⟩
  · exact .inl h0
  · exact .inr ⟨g', cap, cur, r1, r2, (h.2 g' (Array.getElem?_eq_some_iff.1 r3).1 (by omega)).trans r3, r4⟩
theorem But.ownNe {α : Type} {R : List Value → α → Prop} {e : TypeId} {size base g : Nat} {W W' : World} {v : Value} {xs : List α} (h : But g W W') (ho : Own R e size base W v xs) (hg : ∀ k, v.ownBlock = some k → k ≠ g) : Own R e size base W' v xs := by
  obtain ⟨rs, ⟨h1, h2⟩, h3⟩ := ho
  refine ⟨rs, ⟨h1, ?_⟩, h3⟩
  rcases h2 with h0 | ⟨g', cap, cur, r1, r2, r3, r4⟩
  · exact .inl h0
  · exact .inr ⟨g', cap, cur, r1, r2, (h.2 g' (Array.getElem?_eq_some_iff.1 r3).1 (hg g' (by rw [r1]; rfl))).trans r3, r4⟩
/-- The law: the values' facts hold on where nothing but block g is changed; g's cells hang on what is done and on the values. -/
theorem region {id : Nat} {w : World} (m : Nat) (wb : World) (base g : Nat) (T : TypeId) (cells : (Nat → Bool) → (Nat → Value) → Array Value) (Φ : Nat → Value → World → Prop)
    (hm : P.follows .mixedOrders = true) (hH : headB ops m = true) (hin : ∀ k d, k < m → dstOf ops k = some d → d < a0.tmps.size)
    (hB : Below base wb w) (hg : Blk w g T (cells (fun _ => false) (fun _ => undef)))
    (hΦ : ∀ k v W W', But g W W' → Φ k v W → Φ k v W')
    (hstep : ∀ i o, i < m → ops[i]? = some o → ∀ (L : Nat → Bool) (vals : Nat → Value) (a : Act) (W : World), L i = false → Below base wb W → But g w W → Blk W g T (cells L vals) →
      (∀ d, Operand.tmp d ∈ o.op.operands → match idxOf ops m d with | some k => L k = true ∧ a.tmps.getD d undef = vals k ∧ Φ k (vals k) W | none => a.tmps.getD d undef = a0.tmps.getD d undef) →
      (∀ k, reaches ops ops.size k i = true → L k = false) → (∀ k, waits o k = true → L k = true) →
      StepOk P (fun v W' => Below base wb W' ∧ Blk W' g T (cells (fun k => if k = i then true else L k) (fun k => if k = i then v else vals k)) ∧ Φ i v W' ∧ But g W W') ((execOp a.eval o).run P W))
    (hfin : ∀ (L : Nat → Bool) (vals : Nat → Value) (W : World), (∀ k, k < m → L k = true) → Below base wb W → But g w W → Blk W g T (cells L vals) → (∀ k, k < m → Φ k (vals k) W) → wpList P ops Q (ops.toList.drop m) (puts ops vals (fun _ => true) (List.range m) a0) W) :
    (Code.region id ops true).wp P Q a0 w := by
  refine Reg9D.region m (fun L vals W => Below base wb W ∧ But g w W ∧ Blk W g T (cells L vals) ∧ ∀ k, k < m → L k = true → Φ k (vals k) W) hm hH hin ⟨Below.drew hB, But.refl g w, Blk.drew hg, fun _ _ h => (by cases h)⟩ ?_ ?_
  · intro i o hi ho L vals a W hL hS hw hop hdn
    obtain ⟨hb, hbt, hk, hv⟩ := hS
    refine Reg4.StepOk.mono (hstep i o hi ho L vals a W hL hb hbt hk (fun d hd => ?_) (fun k hr => ?_) (fun k hr => ?_)) ?_
    · have := hop d hd
      split
      · rename_i k hk'
        rw [hk'] at this
        have hkm : k < m := by
          unfold idxOf at hk'
          exact List.mem_range.1 (List.mem_of_find?_eq_some hk')
        exact ⟨this.1, this.2, hv k hkm this.1⟩
      · rename_i hk'
        rw [hk'] at this
        exact this
    · cases hLk : L k with
      | false => rfl
      | true =>
        have hok : ∃ o', ops[k]? = some o' := by
          cases h : ops[k]? with
          | some o' => exact ⟨o', rfl⟩
          | none =>
            exfalso
            cases hs : ops.size with
            | zero => rw [hs] at hr; simp [reaches] at hr
            | succ f => rw [hs] at hr; unfold reaches at hr; rw [h] at hr; simp at hr
        obtain ⟨o', hok⟩ := hok
        have := hdn k i o' hok hLk hr
        rw [hL] at this
        cases this
    · unfold waits at hr
      rw [Array.any_eq_true'] at hr
      obtain ⟨e, he, hbe⟩ := hr
      simp only [Bool.and_eq_true, beq_iff_eq] at hbe
      have := hw e he hbe.1
      rw [hbe.2] at this
      exact this
    · rintro v W' ⟨h1, h2, h3, h4⟩
      refine ⟨h1, hbt.trans h4, h2, fun k hkm hk' => ?_⟩
      by_cases ek : k = i
      · subst ek
        simp only [if_true]
        exact h3
      · simp only [if_neg ek] at hk' ⊢
        exact hΦ k _ W W' h4 (hv k hkm hk')
  · intro L vals W hall hS
    exact hfin L vals W hall hS.1 hS.2.1 hS.2.2.1 (fun k hk => hS.2.2.2 k hk (hall k hk))
end
end RegB
end Go.Proofs.YtfaofobhmmedmaaGreatDoor
