/-
  Drawn regions with guards: Reg9G, and RegG for regions whose values are known.
-/
import Derived.Test.YtfaofobhmmedmaaGreatDoorRegA
import Derived.Great.BuildSlice
import Derived.Laws.CopyOwn
namespace Go.Proofs.YtfaofobhmmedmaaGreatDoor
namespace Reg9G
/-- A value as a guard sees it. -/
def asB : Value → Option Bool
  | .bool b => some b
  | _ => none
set_option linter.unusedVariables false
open Go.RowKit Reg4

section
variable {P : Program} {ops : Array Oper} {Q : Exit → Act → World → Prop} {m : Nat} {a0 : Act} {S : (Nat → Bool) → (Nat → Value) → World → Prop}

theorem yielded_of {ops : Array Oper} {tmps : Array Value} {j : Nat} {d : Tmp} (h : dstOf ops j = some d) : yielded ops tmps j = asB (tmps.getD d undef) := by
  unfold yielded
  have : (ops[j]?).bind (·.dst) = some d := h
  rw [this]
  simp only [Option.bind_some]
  rw [Array.getD_eq_getD_getElem?]
  cases tmps[d]? with
  | none => rfl
  | some v => cases v <;> rfl
def opG (ops : Array Oper) (m i : Nat) : Bool := match ops[i]? with
  | some o => (match o.guard with | none => true | some (j, _) => decide (j < m) && waits o j && (dstOf ops j).isSome) && o.after.all (fun e => !Region.binds .any e || decide (e.on < i)) &&
      o.op.operands.all (fun x => match x with | .tmp d => (List.range m).all (fun k => dstOf ops k != some d || waits o k) | _ => true) &&
      (List.range m).all (fun k => k == i || dstOf ops i == none || dstOf ops k != dstOf ops i)
  | none => false
def headG (ops : Array Oper) (m : Nat) : Bool :=
  decide (m ≤ ops.size) && (List.range m).all (opG ops m) && (List.range ops.size).all (fun i => decide (i < m) || tailB ops m i) && Region.seqB .any ops (ops.size - m) m (marks m ops.size)

structure Inv (ops : Array Oper) (m : Nat) (a0 : Act) (S : (Nat → Bool) → (Nat → Value) → World → Prop) (vals : Nat → Value) (listed : Array Bool) (a : Act) (w : World) : Prop where
  size : listed.size = ops.size
  tail : ∀ i, m ≤ i → i < ops.size → listed.getD i true = false
  act : a = puts ops vals (fun k => listed.getD k false) (List.range m) a0
  s : S (fun k => listed.getD k false) vals w
  down : ∀ (k : Nat) (o : Oper), ops[k]? = some o → listed.getD k false = true → ∀ e ∈ o.after, Region.binds .any e = true → listed.getD e.on false = true

theorem main (hH : headG ops m = true) (hin : ∀ k d, k < m → dstOf ops k = some d → d < a0.tmps.size)
    (hstep : ∀ i o, i < m → ops[i]? = some o → ∀ (L : Nat → Bool) (vals : Nat → Value) (a : Act) (w : World), L i = false → S L vals w → (∀ e ∈ o.after, Region.binds .any e = true → L e.on = true) → (∀ d, Operand.tmp d ∈ o.op.operands → match idxOf ops m d with | some k => L k = true ∧ a.tmps.getD d undef = vals k | none => a.tmps.getD d undef = a0.tmps.getD d undef) → (∀ j b, o.guard = some (j, b) → j < m ∧ L j = true) →
      if Region.wanted o (fun j => asB (vals j)) = true then StepOk P (fun v w' => S (fun k => if k = i then true else L k) (fun k => if k = i then v else vals k) w') ((execOp a.eval o).run P w) else S (fun k => if k = i then true else L k) (fun k => if k = i then undef else vals k) w)
    (hfin : ∀ (L : Nat → Bool) (vals : Nat → Value) (w : World), (∀ k, k < m → L k = true) → S L vals w → wpList P ops Q (ops.toList.drop m) (puts ops vals (fun _ => true) (List.range m) a0) w) :
    ∀ (c : Nat) (vals : Nat → Value) (listed : Array Bool) (a : Act) (w : World), Inv ops m a0 S vals listed a w → left m listed = c → wpAny P .any ops Q (c + (ops.size - m)) listed a w := by
  simp only [headG, Bool.and_eq_true, decide_eq_true_eq, List.all_eq_true, List.mem_range, Bool.or_eq_true] at hH
  obtain ⟨⟨⟨hmn, hop⟩, htail⟩, hseq⟩ := hH
  have hopx : ∀ i o, i < m → ops[i]? = some o → (∀ j b, o.guard = some (j, b) → j < m ∧ waits o j = true ∧ ∃ d, dstOf ops j = some d) ∧ (∀ e ∈ o.after, Region.binds .any e = true → e.on < i) ∧ (∀ d, Operand.tmp d ∈ o.op.operands → ∀ k, k < m → dstOf ops k = some d → waits o k = true) ∧ (∀ k, k < m → k ≠ i → ∀ d, dstOf ops i = some d → dstOf ops k ≠ some d) := by
    intro i o hi ho
    have h := hop i hi
    unfold opG at h
    rw [ho] at h
    simp only [Bool.and_eq_true, Array.all_eq_true_iff_forall_mem, decide_eq_true_eq, List.all_eq_true, List.mem_range, Bool.or_eq_true, bne_iff_ne, beq_iff_eq] at h
    obtain ⟨⟨⟨h1, h2⟩, h3⟩, h4⟩ := h
    refine ⟨fun j b hg => (by rw [hg] at h1; simp only [Bool.and_eq_true, decide_eq_true_eq] at h1; exact ⟨h1.1.1, h1.1.2, Option.isSome_iff_exists.1 h1.2⟩), fun e he hb => (h2 e he).resolve_left (by rw [hb]; decide), fun d hd k hk hkd => ?_, fun k hk hne d hd hkd => ?_⟩
    · have := h3 _ hd
      simp only [List.all_eq_true, List.mem_range, Bool.or_eq_true, bne_iff_ne] at this
      rcases this k hk with h | h
      · exact absurd hkd h
      · exact h
    · rcases h4 k hk with (h | h) | h
      · exact hne h
      · rw [h] at hd; cases hd
      · rw [hd, hkd] at h; exact h rfl
  intro c
  induction c with
  | zero =>
    intro vals listed a w inv hc
    have hall : ∀ k, k < m → listed.getD k false = true := by
      intro k hk
      unfold left at hc
      have := List.eq_nil_of_length_eq_zero hc
      have h2 := List.filter_eq_nil_iff.1 this k (List.mem_range.2 hk)
      simpa using h2
    have hl : listed = marks m ops.size := by
      refine Array.ext (by simp [marks, inv.size]; omega) (fun k h1 h2 => ?_)
      by_cases hk : k < m
      · have e1 := hall k hk
        rw [Array.getD_eq_getD_getElem?, Array.getElem?_eq_getElem h1] at e1
        have e2 : (marks m ops.size)[k] = true := by simp [marks, hk]
        rw [e2]; simpa using e1
      · have e1 := inv.tail k (by omega) (by rw [← inv.size]; exact h1)
        rw [Array.getD_eq_getD_getElem?, Array.getElem?_eq_getElem h1] at e1
        have e2 : (marks m ops.size)[k] = false := by simp [marks, Array.getElem_append, hk]
        rw [e2]; simpa using e1
    have ha : a = puts ops vals (fun _ => true) (List.range m) a0 := by
      rw [inv.act]
      exact puts_congr _ _ (fun k hk => ⟨hall k (List.mem_range.1 hk), rfl⟩)
    subst ha
    have hlen : (ops.toList.drop m).length = ops.size - m := by simp
    have := wpAny_of_seq (md := .any) (Q' := Q) (P := P) (ops := ops) (ops.toList.drop m) m listed _ w (fun j => by simp) (by rw [hlen, hl]; exact hseq) (hfin _ vals w hall inv.s)
    rw [hlen] at this
    rw [Nat.zero_add]
    exact this
  | succ c ih =>
    intro vals listed a w inv hc
    rw [show c + 1 + (ops.size - m) = (c + (ops.size - m)) + 1 by omega]
    have hex : ∃ i, i < m ∧ listed.getD i false = false := by
      unfold left at hc
      rcases hl : (List.range m).filter (fun k => !listed.getD k false) with _ | ⟨i, l⟩
      · rw [hl] at hc; simp at hc
      · have : i ∈ (List.range m).filter (fun k => !listed.getD k false) := by rw [hl]; simp
        rw [List.mem_filter, List.mem_range] at this
        exact ⟨i, this.1, by simpa using this.2⟩
    refine ⟨fun hr => ?_, fun i hi => ?_⟩
    · -- the least that has not come up may come up
      exfalso
      obtain ⟨i, ⟨hi, hu⟩, hmin⟩ : ∃ i, (i < m ∧ listed.getD i false = false) ∧ ∀ j, j < i → listed.getD j false = true := by
        obtain ⟨i, hi, hu⟩ := hex
        induction i using Nat.strongRecOn with
        | _ i ihs =>
          by_cases hb : ∃ j, j < i ∧ listed.getD j false = false
          · obtain ⟨j, hj, hju⟩ := hb
            exact ihs j hj (by omega) hju
          · exact ⟨i, ⟨hi, hu⟩, fun j hj => by
              cases hv : listed.getD j false with
              | true => rfl
              | false => exact absurd ⟨j, hj, hv⟩ hb⟩
      have ho : ∃ o, ops[i]? = some o := ⟨ops[i]'(by omega), Array.getElem?_eq_getElem _⟩
      obtain ⟨o, ho⟩ := ho
      have : i ∈ Region.ready .any ops listed := mem_ready.2 ⟨by rw [getD_tf _ _ (by rw [inv.size]; omega)]; exact hu, o, ho, fun e he hb => hmin _ ((hopx i o hi ho).2.1 e he hb)⟩
      rw [hr] at this
      cases this
    · obtain ⟨hu, o, ho, hed⟩ := mem_ready.1 hi
      have hin' : i < ops.size := (Array.getElem?_eq_some_iff.1 ho).1
      have his : i < listed.size := by rw [inv.size]; exact hin'
      have hu' : listed.getD i false = false := by rw [← getD_tf _ _ his]; exact hu
      have him : i < m := by
        rcases Nat.lt_or_ge i m with h | h
        · exact h
        · exfalso
          obtain ⟨k, hk, hku⟩ := hex
          have ht := htail i hin'
          rcases ht with ht | ht
          · omega
          · unfold tailB at ht
            simp only [List.all_eq_true, List.mem_range] at ht
            have := reach_listed inv.down _ i o k ho hed (ht k hk)
            rw [hku] at this
            cases this
      obtain ⟨g1, g2, g3, g4⟩ := hopx i o him ho
      have hval : ∀ k d, k < m → dstOf ops k = some d → waits o k = true → listed.getD k false = true ∧ a.tmps.getD d undef = vals k := by
        intro k d hkm hkd hw
        unfold waits at hw
        rw [Array.any_eq_true'] at hw
        obtain ⟨e, he, hb⟩ := hw
        simp only [Bool.and_eq_true, beq_iff_eq] at hb
        have hlk := hed e he hb.1
        rw [hb.2] at hlk
        refine ⟨hlk, ?_⟩
        rw [inv.act]
        refine puts_at hkd hlk (List.range m) a0 List.nodup_range (List.mem_range.2 hkm) (hin k d hkm hkd) (fun j hj hne hjd => ?_)
        have hj' : j < m := List.mem_range.1 hj
        have hoj : ∃ oj, ops[j]? = some oj := ⟨ops[j]'(by omega), Array.getElem?_eq_getElem _⟩
        obtain ⟨oj, hoj⟩ := hoj
        exact (hopx j oj hj' hoj).2.2.2 k hkm (fun e => hne e.symm) d hjd hkd
      have hstep' := hstep i o him ho _ vals a w hu' inv.s hed (fun d hx => by
        split
        · rename_i k hk
          unfold idxOf at hk
          have hkm : k < m := List.mem_range.1 (List.mem_of_find?_eq_some hk)
          have hkd : dstOf ops k = some d := by simpa using List.find?_some hk
          exact hval k d hkm hkd (g3 d hx k hkm hkd)
        · rename_i hk
          unfold idxOf at hk
          have hno : ∀ k ∈ List.range m, dstOf ops k ≠ some d := fun k hk' => by
            have := List.find?_eq_none.1 hk k hk'
            simpa using this
          rw [inv.act]
          exact puts_none _ _ hno) (fun j b hg => ⟨(g1 j b hg).1, (hval j _ (g1 j b hg).1 (g1 j b hg).2.2.choose_spec (g1 j b hg).2.1).1⟩)
      have hGe : (fun k => (listed.setIfInBounds i true).getD k false) = (fun k => if k = i then true else listed.getD k false) := funext fun k => getD_set _ _ _ _ his
      have hK : ∀ (v : Value) (w' : World), S (fun k => if k = i then true else listed.getD k false) (fun k => if k = i then v else vals k) w' → wpAny P .any ops Q (c + (ops.size - m)) (listed.setIfInBounds i true) (a.put o.dst v) w' := by
        intro v w' hG
        refine ih (fun k => if k = i then v else vals k) _ _ _ ⟨by simp [inv.size], fun j hj hjn => ?_, ?_, by rw [hGe]; exact hG, fun k ok hok hlk e he hbe => ?_⟩ ?_
        · rw [getD_set _ _ _ _ his, if_neg (by omega)]
          exact inv.tail j hj hjn
        · have hdst : o.dst = dstOf ops i := by unfold dstOf; rw [ho]; rfl
          rw [hdst, inv.act, ← puts_ins (List.range m) a0 List.nodup_range (List.mem_range.2 him) hu' (fun k hk hne d h1 => g4 k (List.mem_range.1 hk) hne d h1)]
          refine puts_congr _ _ (fun k hk => ⟨?_, rfl⟩)
          rw [getD_set _ _ _ _ his]
          by_cases e : k = i
          · simp [e]
          · simp [e]
        · have hlo : listed.getD e.on false = true := by
            by_cases ek : k = i
            · subst ek
              rw [ho] at hok
              injection hok with hok
              subst hok
              exact hed e he hbe
            · rw [getD_set _ _ _ _ his, if_neg ek] at hlk
              exact inv.down k ok hok hlk e he hbe
          rw [getD_set _ _ _ _ his]
          split
          · rfl
          · exact hlo
        · have := left_set (m := m) him his hu'
          omega
      unfold wpOp
      rw [ho]
      have hwant : Region.wanted o (yielded ops a.tmps) = Region.wanted o (fun j => asB (vals j)) := by
        unfold Region.wanted
        split
        · rfl
        · rename_i j want hg
          obtain ⟨h1, h2, d, h3⟩ := g1 j want hg
          rw [yielded_of h3, (hval j d h1 h3 h2).2]
      show (if Region.wanted o (yielded ops a.tmps) = true then _ ∨ _ else _)
      rw [hwant]
      by_cases hW : Region.wanted o (fun j => asB (vals j)) = true
      · rw [if_pos hW] at hstep' ⊢
        left
        unfold Oper.wp
        generalize (execOp a.eval o).run P w = r at hstep'
        cases r with
        | ok nx w' =>
          cases nx <;> simp only [StepOk] at hstep' <;> simp only [Oper.upon]
          · exact hK _ _ hstep'
          · exact hK _ _ hstep'
          · exact hstep'.mono fun e w'' ⟨v, he, hR⟩ => by subst he; exact hK v w'' hR
        | halt x w' => simp only [StepOk] at hstep'
      · rw [if_neg hW] at hstep' ⊢
        exact hK _ _ hstep'

/-- The law. -/
theorem region {id : Nat} {w : World} (m : Nat) (S : (Nat → Bool) → (Nat → Value) → World → Prop) (hm : P.follows .mixedOrders = true) (hH : headG ops m = true) (hin : ∀ k d, k < m → dstOf ops k = some d → d < a0.tmps.size) (hG : S (fun _ => false) (fun _ => undef) w.drew)
    (hstep : ∀ i o, i < m → ops[i]? = some o → ∀ (L : Nat → Bool) (vals : Nat → Value) (a : Act) (w : World), L i = false → S L vals w → (∀ e ∈ o.after, Region.binds .any e = true → L e.on = true) → (∀ d, Operand.tmp d ∈ o.op.operands → match idxOf ops m d with | some k => L k = true ∧ a.tmps.getD d undef = vals k | none => a.tmps.getD d undef = a0.tmps.getD d undef) → (∀ j b, o.guard = some (j, b) → j < m ∧ L j = true) →
      if Region.wanted o (fun j => asB (vals j)) = true then StepOk P (fun v w' => S (fun k => if k = i then true else L k) (fun k => if k = i then v else vals k) w') ((execOp a.eval o).run P w) else S (fun k => if k = i then true else L k) (fun k => if k = i then undef else vals k) w)
    (hfin : ∀ (L : Nat → Bool) (vals : Nat → Value) (w : World), (∀ k, k < m → L k = true) → S L vals w → wpList P ops Q (ops.toList.drop m) (puts ops vals (fun _ => true) (List.range m) a0) w) :
    (Code.region id ops true).wp P Q a0 w := by
  refine wp_region_any hm ?_
  have hmn : m ≤ ops.size := by
    simp only [headG, Bool.and_eq_true, decide_eq_true_eq] at hH
    exact hH.1.1.1
  have hz : ∀ k b, k < ops.size → (Array.replicate ops.size false).getD k b = false := fun k b hk => by
    rw [Array.getD_eq_getD_getElem?, Array.getElem?_replicate, if_pos hk]; rfl
  have hl : left m (Array.replicate ops.size false) = m := by
    unfold left
    rw [List.filter_eq_self.2 (fun k hk => by rw [hz k false (by have := List.mem_range.1 hk; omega)]; rfl), List.length_range]
  have hGz : S (fun _ => false) (fun _ => undef) w.drew → S (fun k => (Array.replicate ops.size false).getD k false) (fun _ => undef) w.drew := fun h => by
    have e : (fun k => (Array.replicate ops.size false).getD k false) = (fun _ => false) := funext fun k => by
      rw [Array.getD_eq_getD_getElem?, Array.getElem?_replicate]
      split <;> rfl
    rw [e]; exact h
  have := main (P := P) (Q := Q) (a0 := a0) (S := S) hH hin hstep hfin m (fun _ => undef) (Array.replicate ops.size false) a0 w.drew ⟨by simp, fun i _ hi => hz i true hi, ?_, hGz hG, fun k o ho h => ?_⟩ hl
  · rw [show m + (ops.size - m) = ops.size by omega] at this
    exact this
  · have : ∀ (ks : List Nat) (a : Act), (∀ k ∈ ks, k < ops.size) → puts ops (fun _ => undef) (fun k => (Array.replicate ops.size false).getD k false) ks a = a := by
      intro ks
      induction ks with
      | nil => intro a _; rfl
      | cons k ks ih =>
        intro a h
        unfold puts
        rw [hz k false (h k (by simp))]
        exact ih a (fun j hj => h j (by simp [hj]))
    exact (this _ _ (fun k hk => by have := List.mem_range.1 hk; omega)).symm
  · rw [hz k false (Array.getElem?_eq_some_iff.1 ho).1] at h; cases h
end
end Reg9G

namespace RegG
set_option linter.unusedVariables false
open Go.RowKit Reg4
section
variable {P : Program} {ops : Array Oper} {Q : Exit → Act → World → Prop} {a0 : Act}
/-- Regions whose values are known, with guards: what a guard bars has the value undef. -/
theorem region {id : Nat} {w : World} (m : Nat) (K : Nat → Option Value) (hm : P.follows .mixedOrders = true) (hH : Reg9G.headG ops m = true) (hin : ∀ k d, k < m → dstOf ops k = some d → d < a0.tmps.size)
    (hstep : ∀ i o, i < m → ops[i]? = some o → (∃ j b, o.guard = some (j, b) ∧ (∃ c, K j = some (.bool c) ∧ c ≠ b) ∧ ∀ x, K i = some x → x = undef) ∨ (∀ (a : Act) (W : World), Below w.heap.size w W → (∀ d, Operand.tmp d ∈ o.op.operands → RegA.OpV ops m a0 K d (a.tmps.getD d undef)) → StepOk P (fun v W' => (∀ x, K i = some x → v = x) ∧ Below W.heap.size W W') ((execOp a.eval o).run P W)))
    (hgrd : ∀ i o, i < m → ops[i]? = some o → ∀ j b, o.guard = some (j, b) → ∃ c, K j = some (.bool c))
    (hoff : ∀ i o, i < m → ops[i]? = some o → ∀ j b, o.guard = some (j, b) → K j = some (.bool (!b)) → ∀ x, K i = some x → x = undef)
    (hfin : ∀ (vals : Nat → Value) (W : World), Below w.heap.size w W → (∀ k x, k < m → K k = some x → vals k = x) → wpList P ops Q (ops.toList.drop m) (puts ops vals (fun _ => true) (List.range m) a0) W) :
    (Code.region id ops true).wp P Q a0 w := by
  refine Reg9G.region m (fun L vals W => Below w.heap.size w W ∧ ∀ k x, L k = true → K k = some x → vals k = x) hm hH hin ⟨Below.drew (Below.refl _ _), fun _ _ h => (by cases h)⟩ ?_ ?_
  · intro i o hi ho L vals a W hL hS hw hop hg
    obtain ⟨hb, hv⟩ := hS
    have hskip : (∀ x, K i = some x → x = undef) → Below w.heap.size w W ∧ ∀ k x, (if k = i then true else L k) = true → K k = some x → (if k = i then undef else vals k) = x := by
      intro hx
      refine ⟨hb, fun k x hk hx' => ?_⟩
      by_cases ek : k = i
      · subst ek
        simp only [if_true]
        exact (hx x hx').symm
      · simp only [if_neg ek] at hk ⊢
        exact hv k x hk hx'
    by_cases hW : Region.wanted o (fun j => Reg9G.asB (vals j)) = true
    · rw [if_pos hW]
      rcases hstep i o hi ho with ⟨j, b, h1, ⟨c, h2, h3⟩, h4⟩ | hstep
      · exfalso
        unfold Region.wanted at hW
        rw [h1] at hW
        simp only [beq_iff_eq] at hW
        rw [hv j _ (hg j b h1).2 h2] at hW
        exact h3 (by injection hW)
      refine Reg4.StepOk.mono (hstep a W hb (fun d hd => ?_)) ?_
      · have := hop d hd
        unfold RegA.OpV
        split
        · rename_i k hk
          rw [hk] at this
          exact fun y hy => this.2.trans (hv k y this.1 hy)
        · rename_i hk
          rw [hk] at this
          exact this
      · rintro v W' ⟨hx, hbc⟩
        refine ⟨hb.trans (hbc.mono hb.size), fun k x hk hx' => ?_⟩
        by_cases ek : k = i
        · subst ek
          simp only [if_true]
          exact hx x hx'
        · simp only [if_neg ek] at hk ⊢
          exact hv k x hk hx'
    · rw [if_neg hW]
      refine hskip ?_
      cases hgo : o.guard with
      | none => unfold Region.wanted at hW; rw [hgo] at hW; simp at hW
      | some p =>
        obtain ⟨j, b⟩ := p
        obtain ⟨c, hc⟩ := hgrd i o hi ho j b hgo
        refine hoff i o hi ho j b hgo ?_
        rw [hc]
        unfold Region.wanted at hW
        rw [hgo] at hW
        simp only [beq_iff_eq] at hW
        rw [hv j _ (hg j b hgo).2 hc] at hW
        cases c <;> cases b <;> first | rfl | exact absurd rfl hW
  · intro L vals W hall hS
    exact hfin vals W hS.1 (fun k x hk hx => hS.2 k x (hall k hk) hx)
end
end RegG
end Go.Proofs.YtfaofobhmmedmaaGreatDoor
