/-
  Drawn regions: one state of what is done, of the values and of the world (Reg9); reads, one call, one box made and filled (RegA).
-/
import Derived.Test.YtfaofobhmmedmaaGreatDoorBase
import Derived.Great.BuildSlice
import Derived.Laws.CopyOwn
namespace Go.Proofs.YtfaofobhmmedmaaGreatDoor
namespace Reg9
set_option linter.unusedVariables false
open Go.RowKit Reg4

section
variable {P : Program} {ops : Array Oper} {Q : Exit → Act → World → Prop} {m : Nat} {a0 : Act} {S : (Nat → Bool) → (Nat → Value) → World → Prop}

structure Inv (ops : Array Oper) (m : Nat) (a0 : Act) (S : (Nat → Bool) → (Nat → Value) → World → Prop) (vals : Nat → Value) (listed : Array Bool) (a : Act) (w : World) : Prop where
  size : listed.size = ops.size
  tail : ∀ i, m ≤ i → i < ops.size → listed.getD i true = false
  act : a = puts ops vals (fun k => listed.getD k false) (List.range m) a0
  s : S (fun k => listed.getD k false) vals w
  down : ∀ (k : Nat) (o : Oper), ops[k]? = some o → listed.getD k false = true → ∀ e ∈ o.after, Region.binds .any e = true → listed.getD e.on false = true

theorem main (hH : headB ops m = true) (hin : ∀ k d, k < m → dstOf ops k = some d → d < a0.tmps.size)
    (hstep : ∀ i o, i < m → ops[i]? = some o → ∀ (L : Nat → Bool) (vals : Nat → Value) (a : Act) (w : World), L i = false → S L vals w → (∀ e ∈ o.after, Region.binds .any e = true → L e.on = true) → (∀ d, Operand.tmp d ∈ o.op.operands → match idxOf ops m d with | some k => L k = true ∧ a.tmps.getD d undef = vals k | none => a.tmps.getD d undef = a0.tmps.getD d undef) →
      StepOk P (fun v w' => S (fun k => if k = i then true else L k) (fun k => if k = i then v else vals k) w') ((execOp a.eval o).run P w))
    (hfin : ∀ (L : Nat → Bool) (vals : Nat → Value) (w : World), (∀ k, k < m → L k = true) → S L vals w → wpList P ops Q (ops.toList.drop m) (puts ops vals (fun _ => true) (List.range m) a0) w) :
    ∀ (c : Nat) (vals : Nat → Value) (listed : Array Bool) (a : Act) (w : World), Inv ops m a0 S vals listed a w → left m listed = c → wpAny P .any ops Q (c + (ops.size - m)) listed a w := by
  simp only [headB, Bool.and_eq_true, decide_eq_true_eq, List.all_eq_true, List.mem_range, Bool.or_eq_true] at hH
  obtain ⟨⟨⟨hmn, hop⟩, htail⟩, hseq⟩ := hH
  have hopx : ∀ i o, i < m → ops[i]? = some o → o.guard = none ∧ (∀ e ∈ o.after, Region.binds .any e = true → e.on < i) ∧ (∀ d, Operand.tmp d ∈ o.op.operands → ∀ k, k < m → dstOf ops k = some d → waits o k = true) ∧ (∀ k, k < m → k ≠ i → ∀ d, dstOf ops i = some d → dstOf ops k ≠ some d) := by
    intro i o hi ho
    have h := hop i hi
    unfold opB at h
    rw [ho] at h
    simp only [Bool.and_eq_true, Option.isNone_iff_eq_none, Array.all_eq_true_iff_forall_mem, decide_eq_true_eq, List.all_eq_true, List.mem_range, Bool.or_eq_true, bne_iff_ne, beq_iff_eq] at h
    obtain ⟨⟨⟨h1, h2⟩, h3⟩, h4⟩ := h
    refine ⟨h1, fun e he hb => (h2 e he).resolve_left (by rw [hb]; decide), fun d hd k hk hkd => ?_, fun k hk hne d hd hkd => ?_⟩
    · have := h3 _ hd
      simp only [List.all_eq_true, List.mem_range, Bool.or_eq_true, bne_iff_ne] at this
      rcases this k hk with h | h
      · exact absurd hkd h
      · exact h
    · rcases h4 k hk with (h | h) | h
      · exact hne h
      · rw [h] at hd; cases hd
      · rw [hd, hkd] at h; exact h rfl
  intro c
  induction c with
  | zero =>
    intro vals listed a w inv hc
    have hall : ∀ k, k < m → listed.getD k false = true := by
      intro k hk
      unfold left at hc
      have := List.eq_nil_of_length_eq_zero hc
      have h2 := List.filter_eq_nil_iff.1 this k (List.mem_range.2 hk)
      simpa using h2
    have hl : listed = marks m ops.size := by
      refine Array.ext (by simp [marks, inv.size]; omega) (fun k h1 h2 => ?_)
      by_cases hk : k < m
      · have e1 := hall k hk
        rw [Array.getD_eq_getD_getElem?, Array.getElem?_eq_getElem h1] at e1
        have e2 : (marks m ops.size)[k] = true := by simp [marks, hk]
        rw [e2]; simpa using e1
      · have e1 := inv.tail k (by omega) (by rw [← inv.size]; exact h1)
        rw [Array.getD_eq_getD_getElem?, Array.getElem?_eq_getElem h1] at e1
        have e2 : (marks m ops.size)[k] = false := by simp [marks, Array.getElem_append, hk]
        rw [e2]; simpa using e1
    have ha : a = puts ops vals (fun _ => true) (List.range m) a0 := by
      rw [inv.act]
      exact puts_congr _ _ (fun k hk => ⟨hall k (List.mem_range.1 hk), rfl⟩)
    subst ha
    have hlen : (ops.toList.drop m).length = ops.size - m := by simp
    have := wpAny_of_seq (md := .any) (Q' := Q) (P := P) (ops := ops) (ops.toList.drop m) m listed _ w (fun j => by simp) (by rw [hlen, hl]; exact hseq) (hfin _ vals w hall inv.s)
    rw [hlen] at this
    rw [Nat.zero_add]
    exact this
  | succ c ih =>
    intro vals listed a w inv hc
    rw [show c + 1 + (ops.size - m) = (c + (ops.size - m)) + 1 by omega]
    have hex : ∃ i, i < m ∧ listed.getD i false = false := by
      unfold left at hc
      rcases hl : (List.range m).filter (fun k => !listed.getD k false) with _ | ⟨i, l⟩
      · rw [hl] at hc; simp at hc
      · have : i ∈ (List.range m).filter (fun k => !listed.getD k false) := by rw [hl]; simp
        rw [List.mem_filter, List.mem_range] at this
        exact ⟨i, this.1, by simpa using this.2⟩
    refine ⟨fun hr => ?_, fun i hi => ?_⟩
    · -- the least that has not come up may come up
      exfalso
      obtain ⟨i, ⟨hi, hu⟩, hmin⟩ : ∃ i, (i < m ∧ listed.getD i false = false) ∧ ∀ j, j < i → listed.getD j false = true := by
        obtain ⟨i, hi, hu⟩ := hex
        induction i using Nat.strongRecOn with
        | _ i ihs =>
          by_cases hb : ∃ j, j < i ∧ listed.getD j false = false
          · obtain ⟨j, hj, hju⟩ := hb
            exact ihs j hj (by omega) hju
          · exact ⟨i, ⟨hi, hu⟩, fun j hj => by
              cases hv : listed.getD j false with
              | true => rfl
              | false => exact absurd ⟨j, hj, hv⟩ hb⟩
      have ho : ∃ o, ops[i]? = some o := ⟨ops[i]'(by omega), Array.getElem?_eq_getElem _⟩
      obtain ⟨o, ho⟩ := ho
      have : i ∈ Region.ready .any ops listed := mem_ready.2 ⟨by rw [getD_tf _ _ (by rw [inv.size]; omega)]; exact hu, o, ho, fun e he hb => hmin _ ((hopx i o hi ho).2.1 e he hb)⟩
      rw [hr] at this
      cases this
    · obtain ⟨hu, o, ho, hed⟩ := mem_ready.1 hi
      have hin' : i < ops.size := (Array.getElem?_eq_some_iff.1 ho).1
      have his : i < listed.size := by rw [inv.size]; exact hin'
      have hu' : listed.getD i false = false := by rw [← getD_tf _ _ his]; exact hu
      have him : i < m := by
        rcases Nat.lt_or_ge i m with h | h
        · exact h
        · exfalso
          obtain ⟨k, hk, hku⟩ := hex
          have ht := htail i hin'
          rcases ht with ht | ht
          · omega
          · unfold tailB at ht
            simp only [List.all_eq_true, List.mem_range] at ht
            have := reach_listed inv.down _ i o k ho hed (ht k hk)
            rw [hku] at this
            cases this
      obtain ⟨g1, g2, g3, g4⟩ := hopx i o him ho
      have hstep' := hstep i o him ho _ vals a w hu' inv.s hed (fun d hx => by
        split
        · rename_i k hk
          unfold idxOf at hk
          have hkm : k < m := List.mem_range.1 (List.mem_of_find?_eq_some hk)
          have hkd : dstOf ops k = some d := by simpa using List.find?_some hk
          have hw := g3 d hx k hkm hkd
          unfold waits at hw
          rw [Array.any_eq_true'] at hw
          obtain ⟨e, he, hb⟩ := hw
          simp only [Bool.and_eq_true, beq_iff_eq] at hb
          have hlk := hed e he hb.1
          rw [hb.2] at hlk
          have : a.tmps.getD d undef = vals k := by
            rw [inv.act]
            refine puts_at hkd hlk (List.range m) a0 List.nodup_range (List.mem_range.2 hkm) (hin k d hkm hkd) (fun j hj hne hjd => ?_)
            have hj' : j < m := List.mem_range.1 hj
            have hoj : ∃ oj, ops[j]? = some oj := ⟨ops[j]'(by omega), Array.getElem?_eq_getElem _⟩
            obtain ⟨oj, hoj⟩ := hoj
            exact (hopx j oj hj' hoj).2.2.2 k hkm (fun e => hne e.symm) d hjd hkd
          exact ⟨hlk, this⟩
        · rename_i hk
          unfold idxOf at hk
          have hno : ∀ k ∈ List.range m, dstOf ops k ≠ some d := fun k hk' => by
            have := List.find?_eq_none.1 hk k hk'
            simpa using this
          rw [inv.act]
          exact puts_none _ _ hno)
      have hGe : (fun k => (listed.setIfInBounds i true).getD k false) = (fun k => if k = i then true else listed.getD k false) := funext fun k => getD_set _ _ _ _ his
      have hK : ∀ (v : Value) (w' : World), S (fun k => if k = i then true else listed.getD k false) (fun k => if k = i then v else vals k) w' → wpAny P .any ops Q (c + (ops.size - m)) (listed.setIfInBounds i true) (a.put o.dst v) w' := by
        intro v w' hG
        refine ih (fun k => if k = i then v else vals k) _ _ _ ⟨by simp [inv.size], fun j hj hjn => ?_, ?_, by rw [hGe]; exact hG, fun k ok hok hlk e he hbe => ?_⟩ ?_
        · rw [getD_set _ _ _ _ his, if_neg (by omega)]
          exact inv.tail j hj hjn
        · have hdst : o.dst = dstOf ops i := by unfold dstOf; rw [ho]; rfl
          rw [hdst, inv.act, ← puts_ins (List.range m) a0 List.nodup_range (List.mem_range.2 him) hu' (fun k hk hne d h1 => g4 k (List.mem_range.1 hk) hne d h1)]
          refine puts_congr _ _ (fun k hk => ⟨?_, rfl⟩)
          rw [getD_set _ _ _ _ his]
          by_cases e : k = i
          · simp [e]
          · simp [e]
        · have hlo : listed.getD e.on false = true := by
            by_cases ek : k = i
            · subst ek
              rw [ho] at hok
              injection hok with hok
              subst hok
              exact hed e he hbe
            · rw [getD_set _ _ _ _ his, if_neg ek] at hlk
              exact inv.down k ok hok hlk e he hbe
          rw [getD_set _ _ _ _ his]
          split
          · rfl
          · exact hlo
        · have := left_set (m := m) him his hu'
          omega
      unfold wpOp
      rw [ho]
      have hwant : Region.wanted o (yielded ops a.tmps) = true := by simp [Region.wanted, g1]
      simp only [hwant, if_true]
      left
      unfold Oper.wp
      generalize (execOp a.eval o).run P w = r at hstep'
      cases r with
      | ok nx w' =>
        cases nx <;> simp only [StepOk] at hstep' <;> simp only [Oper.upon]
        · exact hK _ _ hstep'
        · exact hK _ _ hstep'
        · exact hstep'.mono fun e w'' ⟨v, he, hR⟩ => by subst he; exact hK v w'' hR
      | halt x w' => simp only [StepOk] at hstep'

/-- The law. -/
theorem region {id : Nat} {w : World} (m : Nat) (S : (Nat → Bool) → (Nat → Value) → World → Prop) (hm : P.follows .mixedOrders = true) (hH : headB ops m = true) (hin : ∀ k d, k < m → dstOf ops k = some d → d < a0.tmps.size) (hG : S (fun _ => false) (fun _ => undef) w.drew)
    (hstep : ∀ i o, i < m → ops[i]? = some o → ∀ (L : Nat → Bool) (vals : Nat → Value) (a : Act) (w : World), L i = false → S L vals w → (∀ e ∈ o.after, Region.binds .any e = true → L e.on = true) → (∀ d, Operand.tmp d ∈ o.op.operands → match idxOf ops m d with | some k => L k = true ∧ a.tmps.getD d undef = vals k | none => a.tmps.getD d undef = a0.tmps.getD d undef) →
      StepOk P (fun v w' => S (fun k => if k = i then true else L k) (fun k => if k = i then v else vals k) w') ((execOp a.eval o).run P w))
    (hfin : ∀ (L : Nat → Bool) (vals : Nat → Value) (w : World), (∀ k, k < m → L k = true) → S L vals w → wpList P ops Q (ops.toList.drop m) (puts ops vals (fun _ => true) (List.range m) a0) w) :
    (Code.region id ops true).wp P Q a0 w := by
  refine wp_region_any hm ?_
  have hmn : m ≤ ops.size := by
    simp only [headB, Bool.and_eq_true, decide_eq_true_eq] at hH
    exact hH.1.1.1
  have hz : ∀ k b, k < ops.size → (Array.replicate ops.size false).getD k b = false := fun k b hk => by
    rw [Array.getD_eq_getD_getElem?, Array.getElem?_replicate, if_pos hk]; rfl
  have hl : left m (Array.replicate ops.size false) = m := by
    unfold left
    rw [List.filter_eq_self.2 (fun k hk => by rw [hz k false (by have := List.mem_range.1 hk; omega)]; rfl), List.length_range]
  have hGz : S (fun _ => false) (fun _ => undef) w.drew → S (fun k => (Array.replicate ops.size false).getD k false) (fun _ => undef) w.drew := fun h => by
    have e : (fun k => (Array.replicate ops.size false).getD k false) = (fun _ => false) := funext fun k => by
      rw [Array.getD_eq_getD_getElem?, Array.getElem?_replicate]
      split <;> rfl
    rw [e]; exact h
  have := main (P := P) (Q := Q) (a0 := a0) (S := S) hH hin hstep hfin m (fun _ => undef) (Array.replicate ops.size false) a0 w.drew ⟨by simp, fun i _ hi => hz i true hi, ?_, hGz hG, fun k o ho h => ?_⟩ hl
  · rw [show m + (ops.size - m) = ops.size by omega] at this
    exact this
  · have : ∀ (ks : List Nat) (a : Act), (∀ k ∈ ks, k < ops.size) → puts ops (fun _ => undef) (fun k => (Array.replicate ops.size false).getD k false) ks a = a := by
      intro ks
      induction ks with
      | nil => intro a _; rfl
      | cons k ks ih =>
        intro a h
        unfold puts
        rw [hz k false (h k (by simp))]
        exact ih a (fun j hj => h j (by simp [hj]))
    exact (this _ _ (fun k hk => by have := List.mem_range.1 hk; omega)).symm
  · rw [hz k false (Array.getElem?_eq_some_iff.1 ho).1] at h; cases h
end
end Reg9

namespace RegA
set_option linter.unusedVariables false
open Go.RowKit Reg4
section
variable {P : Program} {ops : Array Oper} {Q : Exit → Act → World → Prop} {a0 : Act} {Γ : Type}
/-- What is known of a temporary that an operation reads. -/
def OpV (ops : Array Oper) (m : Nat) (a0 : Act) (K : Nat → Option Value) (d : Tmp) (v : Value) : Prop := match idxOf ops m d with
  | some k => ∀ y, K k = some y → v = y
  | none => v = a0.tmps.getD d undef
/-- The state: values that are known (some hang on what the call answers), one box that one operation makes and another fills. -/
abbrev S (w0 : World) (K : Γ → Nat → Option Value) (F : Γ → World → Prop) (T : TypeId) (z : Array Value) (c : Γ → Array Value) (ia ic ist : Nat) (L : Nat → Bool) (vals : Nat → Value) (W : World) : Prop :=
  Below w0.heap.size w0 W ∧ (L ist = true → L ia = true ∧ L ic = true) ∧
  (L ia = true → ∃ p, vals ia = .pointer (some ⟨p, 0, none⟩) ∧ w0.heap.size ≤ p ∧ ∃ cs, Blk W p T cs ∧ (L ist = false → cs = z)) ∧
  ((L ic = false ∧ ∀ γ k x, L k = true → K γ k = some x → vals k = x) ∨
   (L ic = true ∧ ∃ γ, F γ W ∧ (∀ k x, L k = true → K γ k = some x → vals k = x) ∧ (L ist = true → ∀ p, vals ia = .pointer (some ⟨p, 0, none⟩) → Blk W p T (c γ))))

theorem storeRun {o : Oper} {a : Act} {W : World} (ty : TypeId) (x y : Operand) (ho : o.op = .store ty x y) (p : Nat) (hx : a.eval x = .pointer (some ⟨p, 0, none⟩)) (cs old : Array Value) (hy : a.eval y = .agg cs) (hg : Blk W p ty old)
    (hi : (P.info? ty).map (·.size) = some cs.size) (hold : old.size = cs.size) (h1 : cs.all (·.oneCell') = true) {R : Value → World → Prop} (hR : R undef (W.setRow p cs)) : StepOk P R ((execOp a.eval o).run P W) := by
  unfold execOp
  simp only [ho, hx, hy, Instr.storeAt, Instr.sureAddr, Sem.run_bind, Sem.run_pure, Result.andThen_ok, run_storeVar_row W p ty ty old cs hg hi hold h1]
  exact hR

theorem region [Nonempty Γ] {id : Nat} {w : World} (m : Nat) (K : Γ → Nat → Option Value) (F : Γ → World → Prop) (T : TypeId) (z : Array Value) (c : Γ → Array Value) (ia ic ist : Nat) (ta tv : Tmp) (kv : Nat)
    (hm : P.follows .mixedOrders = true) (hH : headB ops m = true) (hin : ∀ k d, k < m → dstOf ops k = some d → d < a0.tmps.size)
    (hne : ia < m ∧ ic < m ∧ ist < m ∧ ia ≠ ic ∧ ia ≠ ist ∧ ic ≠ ist)
    (hKa : ∀ γ, K γ ia = none) (hKs : ∀ γ, K γ ist = none) (hKv : ∀ γ, K γ kv = some (.agg (c γ)))
    (hKall : ∀ γ k, k < m → k ≠ ia → k ≠ ist → ∃ x, K γ k = some x)
    (hFb : ∀ γ W W', F γ W → Below W.heap.size W W' → F γ W')
    (hFs : ∀ γ W p cs, F γ W → Blk W p T cs → w.heap.size ≤ p → F γ (W.setRow p (c γ)))
    (hia : idxOf ops m ta = some ia) (hiv : idxOf ops m tv = some kv)
    (hst : ∀ o, ops[ist]? = some o → o.op = .store T (.tmp ta) (.tmp tv) ∧ ∃ e ∈ o.after, Region.binds .any e = true ∧ e.on = ic)
    (hi : ∀ γ, (P.info? T).map (·.size) = some (c γ).size) (hzs : ∀ γ, z.size = (c γ).size) (h1 : ∀ γ, (c γ).all (·.oneCell') = true)
    (hpure : ∀ γ i o x, i < m → i ≠ ic → ops[i]? = some o → K γ i = some x → ∀ (a : Act) (W : World), Below w.heap.size w W → (∀ d, Operand.tmp d ∈ o.op.operands → OpV ops m a0 (K γ) d (a.tmps.getD d undef)) → (execOp a.eval o).run P W = .ok (.value x) W)
    (hcall : ∀ o, ops[ic]? = some o → ∀ (a : Act) (W : World), Below w.heap.size w W → (∀ γ d, Operand.tmp d ∈ o.op.operands → OpV ops m a0 (K γ) d (a.tmps.getD d undef)) → StepOk P (fun v W' => ∃ γ, K γ ic = some v ∧ F γ W' ∧ Below W.heap.size W W') ((execOp a.eval o).run P W))
    (halloc : ∀ o, ops[ia]? = some o → ∀ (a : Act) (W : World), (execOp a.eval o).run P W = .ok (.value (.pointer (some ⟨W.heap.size, 0, none⟩))) (W.alloc (.cells z T)))
    (hfin : ∀ γ (vals : Nat → Value) (p : Nat) (W : World), Below w.heap.size w W → F γ W → Blk W p T (c γ) → w.heap.size ≤ p → (∀ k x, k < m → K γ k = some x → vals k = x) → vals ia = .pointer (some ⟨p, 0, none⟩) → wpList P ops Q (ops.toList.drop m) (puts ops vals (fun _ => true) (List.range m) a0) W) :
    (Code.region id ops true).wp P Q a0 w := by
  obtain ⟨n1, n2, n3, n4, n5, n6⟩ := hne
  refine Reg9.region m (S w K F T z c ia ic ist) hm hH hin ⟨Below.drew (Below.refl _ _), fun h => (by cases h), fun h => (by cases h), Or.inl ⟨rfl, fun _ _ _ h => (by cases h)⟩⟩ ?_ ?_
  · intro i o hi' ho L vals a W hLi hS hw hop
    obtain ⟨hb, hord, hbox, hval⟩ := hS
    have hops : ∀ γ, (∀ k x, L k = true → K γ k = some x → vals k = x) → ∀ d, Operand.tmp d ∈ o.op.operands → OpV ops m a0 (K γ) d (a.tmps.getD d undef) := by
      intro γ hγ d hd
      have := hop d hd
      unfold OpV
      split
      · rename_i k hk
        rw [hk] at this
        exact fun y hy => this.2.trans (hγ k y this.1 hy)
      · rename_i hk
        rw [hk] at this
        exact this
    by_cases e1 : i = ist
    · subst e1
      obtain ⟨h2, e, he, hbi, heo⟩ := hst o ho
      have hLc : L ic = true := heo ▸ hw e he hbi
      rcases hval with ⟨h, -⟩ | ⟨-, γ, hF, hγ, -⟩
      · rw [hLc] at h; cases h
      have q1 := hop ta (by rw [h2]; simp [Op.operands])
      rw [hia] at q1
      have q2 := hop tv (by rw [h2]; simp [Op.operands])
      rw [hiv] at q2
      obtain ⟨p, hp, hpw, cs, hcs, hz⟩ := hbox q1.1
      have hcz := hz hLi
      rw [hcz] at hcs
      have ep : a.eval (.tmp ta) = .pointer (some ⟨p, 0, none⟩) := q1.2.trans hp
      have ev : a.eval (.tmp tv) = .agg (c γ) := q2.2.trans (hγ kv _ q2.1 (hKv γ))
      refine storeRun (P := P) T (.tmp ta) (.tmp tv) h2 p ep (c γ) z ev hcs (hi γ) (hzs γ) (h1 γ) ?_
      refine ⟨below_setRow hb hpw _, fun _ => ⟨by simp only [if_neg n5]; exact q1.1, by simp only [if_neg n6]; exact hLc⟩, fun _ => ⟨p, by simp only [if_neg n5]; exact hp, hpw, c γ, setRow_heap W p z (c γ) T (0, 0) hcs, fun h => by simp at h⟩, .inr ⟨by simp only [if_neg n6]; exact hLc, γ, hFs γ W p z hF hcs hpw, fun k x hk hx => ?_, fun _ p' hp' => ?_⟩⟩
      · by_cases ek : k = i
        · subst ek; rw [hKs γ] at hx; cases hx
        · simp only [if_neg ek] at hk ⊢
          exact hγ k x hk hx
      · simp only [if_neg n5] at hp'
        rw [hp] at hp'
        injection hp' with hp'
        injection hp' with hp'
        injection hp' with hp'
        subst hp'
        exact setRow_heap W p z (c γ) T (0, 0) hcs
    have hLs : ∀ b : Bool, L ist = b → (if ist = i then true else L ist) = b := fun b h => by rw [if_neg (Ne.symm e1)]; exact h
    by_cases e2 : i = ic
    · subst e2
      have hLsf : L ist = false := by
        cases hq : L ist with
        | false => rfl
        | true => have := (hord hq).2; rw [hLi] at this; cases this
      have hγ : ∀ γ k x, L k = true → K γ k = some x → vals k = x := by
        rcases hval with ⟨-, h⟩ | ⟨h, -⟩
        · exact h
        · rw [hLi] at h; cases h
      refine Reg4.StepOk.mono (hcall o ho a W hb (fun γ => hops γ (hγ γ))) ?_
      rintro v W' ⟨γ, hK, hF, hbc⟩
      refine ⟨hb.trans (hbc.mono hb.size), fun h => ?_, fun h => ?_, .inr ⟨by simp, γ, hF, fun k x hk hx => ?_, fun h => ?_⟩⟩
      · have h : (if ist = i then true else L ist) = true := h; rw [hLs false hLsf] at h; cases h
      · simp only [if_neg n4] at h ⊢
        obtain ⟨p, hp, hpw, cs, hcs, hz⟩ := hbox h
        exact ⟨p, hp, hpw, cs, hcs.call hbc, fun _ => hz hLsf⟩
      · by_cases ek : k = i
        · subst ek
          simp only [if_true]
          rw [hK] at hx
          exact Option.some.inj hx
        · simp only [if_neg ek] at hk ⊢
          exact hγ γ k x hk hx
      · have h : (if ist = i then true else L ist) = true := h; rw [hLs false hLsf] at h; cases h
    by_cases e3 : i = ia
    · subst e3
      have hLsf : L ist = false := by
        cases hq : L ist with
        | false => rfl
        | true => have := (hord hq).1; rw [hLi] at this; cases this
      rw [halloc o ho a W]
      simp only [StepOk]
      have hbn : Below W.heap.size W (W.alloc (.cells z T)) := below_new W _
      refine ⟨hb.trans (hbn.mono hb.size), fun h => ?_, fun _ => ⟨W.heap.size, by simp, hb.size, z, Blk.new W T z, fun _ => rfl⟩, ?_⟩
      · have h : (if ist = i then true else L ist) = true := h; rw [hLs false hLsf] at h; cases h
      · rcases hval with ⟨h, hγ⟩ | ⟨h, γ, hF, hγ, -⟩
        · refine .inl ⟨by simp only [if_neg (Ne.symm n4)]; exact h, fun γ k x hk hx => ?_⟩
          by_cases ek : k = i
          · subst ek; rw [hKa γ] at hx; cases hx
          · simp only [if_neg ek] at hk ⊢
            exact hγ γ k x hk hx
        · refine .inr ⟨by simp only [if_neg (Ne.symm n4)]; exact h, γ, hFb γ _ _ hF hbn, fun k x hk hx => ?_, fun h => ?_⟩
          · by_cases ek : k = i
            · subst ek; rw [hKa γ] at hx; cases hx
            · simp only [if_neg ek] at hk ⊢
              exact hγ k x hk hx
          · have h : (if ist = i then true else L ist) = true := h; rw [hLs false hLsf] at h; cases h
    -- a read
    have hgo : ∀ γ, (∀ k x, L k = true → K γ k = some x → vals k = x) → ∃ x, K γ i = some x ∧ (execOp a.eval o).run P W = .ok (.value x) W := by
      intro γ hγ
      obtain ⟨x, hx⟩ := hKall γ i hi' e3 e1
      exact ⟨x, hx, hpure γ i o x hi' e2 ho hx a W hb (hops γ hγ)⟩
    have hold : (L ia = true → ∃ p, vals ia = .pointer (some ⟨p, 0, none⟩) ∧ w.heap.size ≤ p ∧ ∃ cs, Blk W p T cs ∧ (L ist = false → cs = z)) := hbox
    rcases hval with ⟨h, hγ⟩ | ⟨h, γ, hF, hγ, hc⟩
    · obtain ⟨γ0⟩ := ‹Nonempty Γ›
      obtain ⟨x0, -, hrun⟩ := hgo γ0 (hγ γ0)
      rw [hrun]
      simp only [StepOk]
      refine ⟨hb, fun hl => ?_, fun hl => ?_, .inl ⟨by simp only [if_neg (Ne.symm e2)]; exact h, fun γ k x hk hx => ?_⟩⟩
      · simp only [if_neg (Ne.symm e1)] at hl
        simp only [if_neg (Ne.symm e3), if_neg (Ne.symm e2)]
        exact hord hl
      · simp only [if_neg (Ne.symm e3)] at hl ⊢
        simp only [if_neg (Ne.symm e1)]
        exact hold hl
      · by_cases ek : k = i
        · subst ek
          simp only [if_true]
          obtain ⟨x1, hx1, hr1⟩ := hgo γ (hγ γ)
          rw [hrun] at hr1
          rw [hx1] at hx
          injection hr1 with hr1 _
          injection hr1 with hr1
          exact hr1.trans (Option.some.inj hx)
        · simp only [if_neg ek] at hk ⊢
          exact hγ γ k x hk hx
    · obtain ⟨x0, hx0, hrun⟩ := hgo γ hγ
      rw [hrun]
      simp only [StepOk]
      refine ⟨hb, fun hl => ?_, fun hl => ?_, .inr ⟨by simp only [if_neg (Ne.symm e2)]; exact h, γ, hF, fun k x hk hx => ?_, fun hl => ?_⟩⟩
      · simp only [if_neg (Ne.symm e1)] at hl
        simp only [if_neg (Ne.symm e3), if_neg (Ne.symm e2)]
        exact hord hl
      · simp only [if_neg (Ne.symm e3)] at hl ⊢
        simp only [if_neg (Ne.symm e1)]
        exact hold hl
      · by_cases ek : k = i
        · subst ek
          simp only [if_true]
          rw [hx0] at hx
          exact Option.some.inj hx
        · simp only [if_neg ek] at hk ⊢
          exact hγ k x hk hx
      · simp only [if_neg (Ne.symm e1)] at hl
        simp only [if_neg (Ne.symm e3)]
        exact hc hl
  · intro L vals W hall hS
    obtain ⟨hb, -, hbox, hval⟩ := hS
    rcases hval with ⟨h, -⟩ | ⟨-, γ, hF, hγ, hc⟩
    · rw [hall ic n2] at h; cases h
    obtain ⟨p, hp, hpw, -⟩ := hbox (hall ia n1)
    exact hfin γ vals p W hb hF (hc (hall ist n3) p hp) hpw (fun k x hk hx => hγ k x (hall k hk) hx) hp
end
end RegA
namespace RegC
set_option linter.unusedVariables false
open Go.RowKit Reg4
section
variable {P : Program} {ops : Array Oper} {Q : Exit → Act → World → Prop} {a0 : Act}
/-- The law of regions whose values are known: they read, and call what only makes memory. -/
theorem region {id : Nat} {w : World} (m : Nat) (K : Nat → Option Value) (hm : P.follows .mixedOrders = true) (hH : headB ops m = true) (hin : ∀ k d, k < m → dstOf ops k = some d → d < a0.tmps.size)
    (hstep : ∀ i o, i < m → ops[i]? = some o → ∀ (a : Act) (W : World), Below w.heap.size w W → (∀ d, Operand.tmp d ∈ o.op.operands → RegA.OpV ops m a0 K d (a.tmps.getD d undef)) → StepOk P (fun v W' => (∀ x, K i = some x → v = x) ∧ Below W.heap.size W W') ((execOp a.eval o).run P W))
    (hfin : ∀ (vals : Nat → Value) (W : World), Below w.heap.size w W → (∀ k x, k < m → K k = some x → vals k = x) → wpList P ops Q (ops.toList.drop m) (puts ops vals (fun _ => true) (List.range m) a0) W) :
    (Code.region id ops true).wp P Q a0 w := by
  refine Reg9.region m (fun L vals W => Below w.heap.size w W ∧ ∀ k x, L k = true → K k = some x → vals k = x) hm hH hin ⟨Below.drew (Below.refl _ _), fun _ _ h => (by cases h)⟩ ?_ ?_
  · intro i o hi ho L vals a W hL hS hw hop
    obtain ⟨hb, hv⟩ := hS
    refine Reg4.StepOk.mono (hstep i o hi ho a W hb (fun d hd => ?_)) ?_
    · have := hop d hd
      unfold RegA.OpV
      split
      · rename_i k hk
        rw [hk] at this
        exact fun y hy => this.2.trans (hv k y this.1 hy)
      · rename_i hk
        rw [hk] at this
        exact this
    · rintro v W' ⟨hx, hbc⟩
      refine ⟨hb.trans (hbc.mono hb.size), fun k x hk hx' => ?_⟩
      by_cases ek : k = i
      · subst ek
        simp only [if_true]
        exact hx x hx'
      · simp only [if_neg ek] at hk ⊢
        exact hv k x hk hx'
  · intro L vals W hall hS
    exact hfin vals W hS.1 (fun k x hk hx => hS.2 k x (hall k hk) hx)
end
end RegC
end Go.Proofs.YtfaofobhmmedmaaGreatDoor
