/-
  A DRAWN REGION WHOSE HEAD READS AND MAKES ONE BLOCK AT ITS LAST OPERATION: one world behind it, whatever the order; outside (Reg6P) and inside a fence, a round too (Reg6I).
-/
import Derived.Test.YtpmcdjpfolgpiaaGreatDoorReg5
namespace Go.Proofs.YtpmcdjpfolgpiaaGreatDoor
namespace Reg6I
set_option linter.unusedVariables false
set_option linter.unusedSimpArgs false
open Go.RowKit
open Reg4 (dstOf idxOf waits opB reaches tailB marks headB puts puts_put puts_congr puts_ins put_size puts_size put_other put_same puts_none puts_at TmpOk left getD_set getD_tf left_set reach_listed)
open Reg5 (noCall callB StepIn seqIn)

structure Inv (ops : Array Oper) (m : Nat) (a0 : Act) (G : Bool → World → Prop) (Φ : Nat → Value → World → Prop) (vals : Nat → Value) (listed : Array Bool) (a : Act) (w : World) : Prop where
  size : listed.size = ops.size
  tail : ∀ i, m ≤ i → i < ops.size → listed.getD i true = false
  act : a = puts ops vals (fun k => listed.getD k false) (List.range m) a0
  g : G (listed.getD (m - 1) false) w
  phi : ∀ k, k < m → listed.getD k false = true → Φ k (vals k) w
  down : ∀ (k : Nat) (o : Oper), ops[k]? = some o → listed.getD k false = true → ∀ e ∈ o.after, Region.binds .any e = true → listed.getD e.on false = true

section
variable {F : Fence} {n : Nat} {P : Program} {ops : Array Oper} {Q : Exit → Act → World → Prop} {m : Nat} {a0 : Act} {G : Bool → World → Prop} {Φ : Nat → Value → World → Prop}

theorem main (hH : headB ops m = true) (hnc : callB ops m = true) (h0m : 0 < m) (hin : ∀ k d, k < m → dstOf ops k = some d → d < a0.tmps.size)
    (hstep : ∀ i o, i < m → ops[i]? = some o → ∀ (b : Bool) (a : Act) (w : World), (i + 1 = m → b = false) → G b w → (∀ d, Operand.tmp d ∈ o.op.operands → TmpOk ops m a0 Φ w d (a.tmps.getD d undef)) →
      StepIn (fun v w' => G (b || (i + 1 == m)) w' ∧ Φ i v w' ∧ ∀ k u, k < m → k ≠ i → reaches ops ops.size k i = false → Φ k u w → Φ k u w') ((execOp a.eval o).run P w))
    (hfin : ∀ (vals : Nat → Value) (w : World), G true w → (∀ k, k < m → Φ k (vals k) w) → wpListIn F n P ops Q (ops.toList.drop m) (puts ops vals (fun _ => true) (List.range m) a0) w) :
    ∀ (c : Nat) (vals : Nat → Value) (listed : Array Bool) (a : Act) (w : World), Inv ops m a0 G Φ vals listed a w → left m listed = c → wpAnyIn F n P .any ops Q (c + (ops.size - m)) listed a w := by
  simp only [headB, Bool.and_eq_true, decide_eq_true_eq, List.all_eq_true, List.mem_range, Bool.or_eq_true] at hH
  obtain ⟨⟨⟨hmn, hop⟩, htail⟩, hseq⟩ := hH
  have hopx : ∀ i o, i < m → ops[i]? = some o → o.guard = none ∧ (∀ e ∈ o.after, Region.binds .any e = true → e.on < i) ∧ (∀ d, Operand.tmp d ∈ o.op.operands → ∀ k, k < m → dstOf ops k = some d → waits o k = true) ∧ (∀ k, k < m → k ≠ i → ∀ d, dstOf ops i = some d → dstOf ops k ≠ some d) := by
    intro i o hi ho
    have h := hop i hi
    unfold opB at h
    rw [ho] at h
    simp only [Bool.and_eq_true, Option.isNone_iff_eq_none, Array.all_eq_true_iff_forall_mem, decide_eq_true_eq, List.all_eq_true, List.mem_range, Bool.or_eq_true, bne_iff_ne, beq_iff_eq] at h
    obtain ⟨⟨⟨h1, h2⟩, h3⟩, h4⟩ := h
    refine ⟨h1, fun e he hb => (h2 e he).resolve_left (by rw [hb]; decide), fun d hd k hk hkd => ?_, fun k hk hne d hd hkd => ?_⟩
    · have := h3 _ hd
      simp only [List.all_eq_true, List.mem_range, Bool.or_eq_true, bne_iff_ne] at this
      rcases this k hk with h | h
      · exact absurd hkd h
      · exact h
    · rcases h4 k hk with (h | h) | h
      · exact hne h
      · rw [h] at hd; cases hd
      · rw [hd, hkd] at h; exact h rfl
  intro c
  induction c with
  | zero =>
    intro vals listed a w inv hc
    have hall : ∀ k, k < m → listed.getD k false = true := by
      intro k hk
      unfold left at hc
      have := List.eq_nil_of_length_eq_zero hc
      have h2 := List.filter_eq_nil_iff.1 this k (List.mem_range.2 hk)
      simpa using h2
    have hl : listed = marks m ops.size := by
      refine Array.ext (by simp [marks, inv.size]; omega) (fun k h1 h2 => ?_)
      by_cases hk : k < m
      · have e1 := hall k hk
        rw [Array.getD_eq_getD_getElem?, Array.getElem?_eq_getElem h1] at e1
        have e2 : (marks m ops.size)[k] = true := by simp [marks, hk]
        rw [e2]; simpa using e1
      · have e1 := inv.tail k (by omega) (by rw [← inv.size]; exact h1)
        rw [Array.getD_eq_getD_getElem?, Array.getElem?_eq_getElem h1] at e1
        have e2 : (marks m ops.size)[k] = false := by simp [marks, Array.getElem_append, hk]
        rw [e2]; simpa using e1
    have ha : a = puts ops vals (fun _ => true) (List.range m) a0 := by
      rw [inv.act]
      exact puts_congr _ _ (fun k hk => ⟨hall k (List.mem_range.1 hk), rfl⟩)
    subst ha
    have hlen : (ops.toList.drop m).length = ops.size - m := by simp
    have := seqIn (F := F) (n := n) (Q := Q) (P := P) (ops := ops) (ops.toList.drop m) m listed _ w (fun j => by simp) (by rw [hlen, hl]; exact hseq) (hfin vals w (by have := inv.g; rwa [hall (m - 1) (by omega)] at this) (fun k hk => inv.phi k hk (hall k hk)))
    rw [hlen] at this
    rw [Nat.zero_add]
    exact this
  | succ c ih =>
    intro vals listed a w inv hc
    rw [show c + 1 + (ops.size - m) = (c + (ops.size - m)) + 1 by omega]
    have hex : ∃ i, i < m ∧ listed.getD i false = false := by
      unfold left at hc
      rcases hl : (List.range m).filter (fun k => !listed.getD k false) with _ | ⟨i, l⟩
      · rw [hl] at hc; simp at hc
      · have : i ∈ (List.range m).filter (fun k => !listed.getD k false) := by rw [hl]; simp
        rw [List.mem_filter, List.mem_range] at this
        exact ⟨i, this.1, by simpa using this.2⟩
    refine ⟨fun hr => ?_, fun i hi => ?_⟩
    · -- the least that has not come up may come up
      exfalso
      obtain ⟨i, ⟨hi, hu⟩, hmin⟩ : ∃ i, (i < m ∧ listed.getD i false = false) ∧ ∀ j, j < i → listed.getD j false = true := by
        obtain ⟨i, hi, hu⟩ := hex
        induction i using Nat.strongRecOn with
        | _ i ihs =>
          by_cases hb : ∃ j, j < i ∧ listed.getD j false = false
          · obtain ⟨j, hj, hju⟩ := hb
            exact ihs j hj (by omega) hju
          · exact ⟨i, ⟨hi, hu⟩, fun j hj => by
              cases hv : listed.getD j false with
              | true => rfl
              | false => exact absurd ⟨j, hj, hv⟩ hb⟩
      have ho : ∃ o, ops[i]? = some o := ⟨ops[i]'(by omega), Array.getElem?_eq_getElem _⟩
      obtain ⟨o, ho⟩ := ho
      have : i ∈ Region.ready .any ops listed := mem_ready.2 ⟨by rw [getD_tf _ _ (by rw [inv.size]; omega)]; exact hu, o, ho, fun e he hb => hmin _ ((hopx i o hi ho).2.1 e he hb)⟩
      rw [hr] at this
      cases this
    · obtain ⟨hu, o, ho, hed⟩ := mem_ready.1 hi
      have hin' : i < ops.size := (Array.getElem?_eq_some_iff.1 ho).1
      have his : i < listed.size := by rw [inv.size]; exact hin'
      have hu' : listed.getD i false = false := by rw [← getD_tf _ _ his]; exact hu
      have him : i < m := by
        rcases Nat.lt_or_ge i m with h | h
        · exact h
        · exfalso
          obtain ⟨k, hk, hku⟩ := hex
          have ht := htail i hin'
          rcases ht with ht | ht
          · omega
          · unfold tailB at ht
            simp only [List.all_eq_true, List.mem_range] at ht
            have := reach_listed inv.down _ i o k ho hed (ht k hk)
            rw [hku] at this
            cases this
      obtain ⟨g1, g2, g3, g4⟩ := hopx i o him ho
      have hstep' := hstep i o him ho (listed.getD (m - 1) false) a w (fun e => by rw [show m - 1 = i by omega]; exact hu') inv.g (fun d hx => by
        unfold TmpOk
        split
        · rename_i k hk
          unfold idxOf at hk
          have hkm : k < m := List.mem_range.1 (List.mem_of_find?_eq_some hk)
          have hkd : dstOf ops k = some d := by simpa using List.find?_some hk
          have hw := g3 d hx k hkm hkd
          unfold waits at hw
          rw [Array.any_eq_true'] at hw
          obtain ⟨e, he, hb⟩ := hw
          simp only [Bool.and_eq_true, beq_iff_eq] at hb
          have hlk := hed e he hb.1
          rw [hb.2] at hlk
          have : a.tmps.getD d undef = vals k := by
            rw [inv.act]
            refine puts_at hkd hlk (List.range m) a0 List.nodup_range (List.mem_range.2 hkm) (hin k d hkm hkd) (fun j hj hne hjd => ?_)
            have hj' : j < m := List.mem_range.1 hj
            have hoj : ∃ oj, ops[j]? = some oj := ⟨ops[j]'(by omega), Array.getElem?_eq_getElem _⟩
            obtain ⟨oj, hoj⟩ := hoj
            exact (hopx j oj hj' hoj).2.2.2 k hkm (fun e => hne e.symm) d hjd hkd
          rw [this]
          exact inv.phi k hkm hlk
        · rename_i hk
          unfold idxOf at hk
          have hno : ∀ k ∈ List.range m, dstOf ops k ≠ some d := fun k hk' => by
            have := List.find?_eq_none.1 hk k hk'
            simpa using this
          rw [inv.act]
          exact puts_none _ _ hno)
      have hK : ∀ (v : Value) (w' : World), (G (listed.getD (m - 1) false || (i + 1 == m)) w' ∧ Φ i v w' ∧ ∀ k u, k < m → k ≠ i → reaches ops ops.size k i = false → Φ k u w → Φ k u w') → wpAnyIn F n P .any ops Q (c + (ops.size - m)) (listed.setIfInBounds i true) (a.put o.dst v) w' := by
        rintro v w' ⟨hG, hΦ, hkeep⟩
        have hG2 : G ((listed.setIfInBounds i true).getD (m - 1) false) w' := by
          rw [getD_set _ _ _ _ his]
          by_cases e : m - 1 = i
          · have e2 : (i + 1 == m) = true := by simp; omega
            rw [e2, Bool.or_true] at hG
            rw [if_pos e]; exact hG
          · have e2 : (i + 1 == m) = false := by simp; omega
            rw [e2, Bool.or_false] at hG
            rw [if_neg e]; exact hG
        refine ih (fun k => if k = i then v else vals k) _ _ _ ⟨by simp [inv.size], fun j hj hjn => ?_, ?_, hG2, fun k hk hlk => ?_, fun k ok hok hlk e he hbe => ?_⟩ ?_
        · rw [getD_set _ _ _ _ his, if_neg (by omega)]
          exact inv.tail j hj hjn
        · have hdst : o.dst = dstOf ops i := by unfold dstOf; rw [ho]; rfl
          rw [hdst, inv.act, ← puts_ins (List.range m) a0 List.nodup_range (List.mem_range.2 him) hu' (fun k hk hne d h1 => g4 k (List.mem_range.1 hk) hne d h1)]
          refine puts_congr _ _ (fun k hk => ⟨?_, rfl⟩)
          rw [getD_set _ _ _ _ his]
          by_cases e : k = i
          · simp [e]
          · simp [e]
        · by_cases e : k = i
          · subst e; simpa using hΦ
          · rw [getD_set _ _ _ _ his, if_neg e] at hlk
            simp only [if_neg e]
            refine hkeep k _ hk e ?_ (inv.phi k hk hlk)
            cases hr : reaches ops ops.size k i with
            | false => rfl
            | true =>
              have hok : ∃ ok, ops[k]? = some ok := ⟨ops[k]'(by omega), Array.getElem?_eq_getElem _⟩
              obtain ⟨ok, hok⟩ := hok
              have := reach_listed inv.down _ k ok i hok (fun e he hb => inv.down k ok hok hlk e he hb) hr
              rw [hu'] at this
              cases this
        · have hlo : listed.getD e.on false = true := by
            by_cases ek : k = i
            · subst ek
              rw [ho] at hok
              injection hok with hok
              subst hok
              exact hed e he hbe
            · rw [getD_set _ _ _ _ his, if_neg ek] at hlk
              exact inv.down k ok hok hlk e he hbe
          rw [getD_set _ _ _ _ his]
          split
          · rfl
          · exact hlo
        · have := left_set (m := m) him his hu'
          omega
      unfold wpOpIn
      rw [ho]
      have hwant : Region.wanted o (yielded ops a.tmps) = true := by simp [Region.wanted, g1]
      simp only [hwant, if_true]
      have hc := List.all_eq_true.1 hnc i (List.mem_range.2 him)
      rw [ho] at hc
      refine ⟨fun f hf => ?_, ?_⟩
      · exfalso
        unfold Oper.about at hf
        cases hop' : o.op <;> simp [hop', noCall] at hc hf
      rw [Oper.semAt_eq _ _ _ (fun c h => by simp [h, noCall] at hc)]
      generalize (execOp a.eval o).run P w = r at hstep'
      cases r with
      | ok nx w' =>
        cases nx <;> simp only [StepIn] at hstep' <;> simp only [Oper.uponIn]
        · exact hK _ _ hstep'
        · exact hK _ _ hstep'
      | halt x w' => simp only [StepIn] at hstep'

/-- The law. -/
theorem region {id : Nat} {w : World} (m : Nat) (G : Bool → World → Prop) (Φ : Nat → Value → World → Prop) (hm : P.follows .mixedOrders = true) (hH : headB ops m = true) (hnc : callB ops m = true) (h0m : 0 < m) (hin : ∀ k d, k < m → dstOf ops k = some d → d < a0.tmps.size) (hG : G false w.drew)
    (hstep : ∀ i o, i < m → ops[i]? = some o → ∀ (b : Bool) (a : Act) (w : World), (i + 1 = m → b = false) → G b w → (∀ d, Operand.tmp d ∈ o.op.operands → TmpOk ops m a0 Φ w d (a.tmps.getD d undef)) →
      StepIn (fun v w' => G (b || (i + 1 == m)) w' ∧ Φ i v w' ∧ ∀ k u, k < m → k ≠ i → reaches ops ops.size k i = false → Φ k u w → Φ k u w') ((execOp a.eval o).run P w))
    (hfin : ∀ (vals : Nat → Value) (w : World), G true w → (∀ k, k < m → Φ k (vals k) w) → wpListIn F n P ops Q (ops.toList.drop m) (puts ops vals (fun _ => true) (List.range m) a0) w) :
    (Code.region id ops true).wpIn F n P Q a0 w := by
  refine wpIn_region_any hm ?_
  have hmn : m ≤ ops.size := by
    simp only [headB, Bool.and_eq_true, decide_eq_true_eq] at hH
    exact hH.1.1.1
  have hz : ∀ k b, k < ops.size → (Array.replicate ops.size false).getD k b = false := fun k b hk => by
    rw [Array.getD_eq_getD_getElem?, Array.getElem?_replicate, if_pos hk]; rfl
  have hl : left m (Array.replicate ops.size false) = m := by
    unfold left
    rw [List.filter_eq_self.2 (fun k hk => by rw [hz k false (by have := List.mem_range.1 hk; omega)]; rfl), List.length_range]
  have := main (F := F) (n := n) (P := P) (Q := Q) (a0 := a0) (G := G) (Φ := Φ) hH hnc h0m hin hstep hfin m (fun _ => undef) (Array.replicate ops.size false) a0 w.drew ⟨by simp, fun i _ hi => hz i true hi, ?_, (by rw [hz (m - 1) false (by omega)]; exact hG), fun k hk h => ?_, fun k o ho h => ?_⟩ hl
  · rw [show m + (ops.size - m) = ops.size by omega] at this
    exact this
  · have : ∀ (ks : List Nat) (a : Act), (∀ k ∈ ks, k < ops.size) → puts ops (fun _ => undef) (fun k => (Array.replicate ops.size false).getD k false) ks a = a := by
      intro ks
      induction ks with
      | nil => intro a _; rfl
      | cons k ks ih =>
        intro a h
        unfold puts
        rw [hz k false (h k (by simp))]
        exact ih a (fun j hj => h j (by simp [hj]))
    exact (this _ _ (fun k hk => by have := List.mem_range.1 hk; omega)).symm
  · rw [hz k false (by omega)] at h; cases h
  · rw [hz k false (Array.getElem?_eq_some_iff.1 ho).1] at h; cases h
/-- The head reads, and its last operation makes one block. -/
theorem made {id : Nat} {w : World} (m : Nat) (tbl : Nat → Value) (ob : Obj) (hm : P.follows .mixedOrders = true) (hH : headB ops m = true) (hnc : callB ops m = true) (h0m : 0 < m) (hin : ∀ k d, k < m → dstOf ops k = some d → d < a0.tmps.size)
    (hpure : ∀ i o, i + 1 < m → ops[i]? = some o → ∀ (a : Act), (∀ d, Operand.tmp d ∈ o.op.operands → a.tmps.getD d undef = (match idxOf ops m d with | some k => tbl k | none => a0.tmps.getD d undef)) → ∀ w', (w' = w.drew ∨ w' = w.drew.alloc ob) → (execOp a.eval o).run P w' = .ok (.value (tbl i)) w')
    (hmake : ∀ o, ops[m - 1]? = some o → ∀ (a : Act), (∀ d, Operand.tmp d ∈ o.op.operands → a.tmps.getD d undef = (match idxOf ops m d with | some k => tbl k | none => a0.tmps.getD d undef)) → (execOp a.eval o).run P w.drew = .ok (.value (tbl (m - 1))) (w.drew.alloc ob))
    (hfin : wpListIn F n P ops Q (ops.toList.drop m) (puts ops tbl (fun _ => true) (List.range m) a0) (w.drew.alloc ob)) :
    (Code.region id ops true).wpIn F n P Q a0 w := by
  have hop' : ∀ (a : Act) (w' : World) (o : Oper), (∀ d, Operand.tmp d ∈ o.op.operands → TmpOk ops m a0 (fun k v _ => v = tbl k) w' d (a.tmps.getD d undef)) → (∀ d, Operand.tmp d ∈ o.op.operands → a.tmps.getD d undef = (match idxOf ops m d with | some k => tbl k | none => a0.tmps.getD d undef)) := by
    intro a w' o hop d hd
    have := hop d hd
    unfold TmpOk at this
    split at this
    · rename_i h; rw [h]; exact this
    · rename_i h; rw [h]; exact this
  refine region m (fun b w' => w' = if b then w.drew.alloc ob else w.drew) (fun k v _ => v = tbl k) hm hH hnc h0m hin rfl ?_ ?_
  · rintro i o hi ho b a w' hb hG hop
    by_cases e : i + 1 = m
    · obtain rfl := hb e
      have e2 : (i + 1 == m) = true := by simpa using e
      have hi' : i = m - 1 := by omega
      subst hi'
      have hw : w' = w.drew := by simpa using hG
      subst hw
      rw [hmake o ho a (hop' _ _ _ hop)]
      exact ⟨by simp [e2], rfl, fun _ _ _ _ _ h => h⟩
    · have e2 : (i + 1 == m) = false := by simpa using e
      rw [hpure i o (by omega) ho a (hop' _ _ _ hop) w' (by cases b <;> simp_all)]
      exact ⟨by rw [e2, Bool.or_false]; exact hG, rfl, fun _ _ _ _ _ h => h⟩
  · rintro vals w' hG hΦ
    have hw : w' = w.drew.alloc ob := by simpa using hG
    subst hw
    rw [puts_congr (vals' := tbl) (L' := fun _ => true) (List.range m) a0 (fun k hk => ⟨rfl, hΦ k (List.mem_range.1 hk)⟩)]
    exact hfin
end
end Reg6I
namespace Reg6P
set_option linter.unusedVariables false
set_option linter.unusedSimpArgs false
open Go.RowKit
open Reg4 (dstOf idxOf waits opB reaches tailB marks headB puts puts_put puts_congr puts_ins put_size puts_size put_other put_same puts_none puts_at StepOk TmpOk left getD_set getD_tf left_set reach_listed)

section
variable {P : Program} {ops : Array Oper} {Q : Exit → Act → World → Prop} {m : Nat} {a0 : Act}

/-- The law. -/
theorem region {id : Nat} {w : World} (m : Nat) (G : Bool → World → Prop) (Φ : Nat → Value → World → Prop) (hm : P.follows .mixedOrders = true) (hH : headB ops m = true) (h0m : 0 < m) (hin : ∀ k d, k < m → dstOf ops k = some d → d < a0.tmps.size) (hG : G false w.drew)
    (hstep : ∀ i o, i < m → ops[i]? = some o → ∀ (b : Bool) (a : Act) (w : World), (i + 1 = m → b = false) → G b w → (∀ d, Operand.tmp d ∈ o.op.operands → TmpOk ops m a0 Φ w d (a.tmps.getD d undef)) →
      StepOk P (fun v w' => G (b || (i + 1 == m)) w' ∧ Φ i v w' ∧ ∀ k u, k < m → k ≠ i → reaches ops ops.size k i = false → Φ k u w → Φ k u w') ((execOp a.eval o).run P w))
    (hfin : ∀ (vals : Nat → Value) (w : World), G true w → (∀ k, k < m → Φ k (vals k) w) → wpList P ops Q (ops.toList.drop m) (puts ops vals (fun _ => true) (List.range m) a0) w) :
    (Code.region id ops true).wp P Q a0 w := by
  refine Reg8.region m (fun L => G (L (m - 1))) (fun _ => Φ) hm hH hin hG ?_ ?_
  · intro i o hi ho L a w hl hg hop
    refine (hstep i o hi ho (L (m - 1)) a w (fun e => by rw [show m - 1 = i by omega]; exact hl) hg hop).mono fun v w' h => ⟨?_, h.2.1, fun k u h1 h2 _ h4 h5 => h.2.2 k u h1 h2 h4 h5⟩
    have h1 := h.1
    by_cases e : m - 1 = i
    · have e2 : (i + 1 == m) = true := by simp; omega
      rw [e2, Bool.or_true] at h1
      simp only [if_pos e]
      exact h1
    · have e2 : (i + 1 == m) = false := by simp; omega
      rw [e2, Bool.or_false] at h1
      simp only [if_neg e]
      exact h1
  · intro L vals w hl hg hp
    rw [hl (m - 1) (by omega)] at hg
    exact hfin vals w hg hp
/-- The head reads, and its last operation makes one block. -/
theorem made {id : Nat} {w : World} (m : Nat) (tbl : Nat → Value) (ob : Obj) (hm : P.follows .mixedOrders = true) (hH : headB ops m = true) (h0m : 0 < m) (hin : ∀ k d, k < m → dstOf ops k = some d → d < a0.tmps.size)
    (hpure : ∀ i o, i + 1 < m → ops[i]? = some o → ∀ (a : Act), (∀ d, Operand.tmp d ∈ o.op.operands → a.tmps.getD d undef = (match idxOf ops m d with | some k => tbl k | none => a0.tmps.getD d undef)) → ∀ w', (w' = w.drew ∨ w' = w.drew.alloc ob) → (execOp a.eval o).run P w' = .ok (.value (tbl i)) w')
    (hmake : ∀ o, ops[m - 1]? = some o → ∀ (a : Act), (∀ d, Operand.tmp d ∈ o.op.operands → a.tmps.getD d undef = (match idxOf ops m d with | some k => tbl k | none => a0.tmps.getD d undef)) → (execOp a.eval o).run P w.drew = .ok (.value (tbl (m - 1))) (w.drew.alloc ob))
    (hfin : wpList P ops Q (ops.toList.drop m) (puts ops tbl (fun _ => true) (List.range m) a0) (w.drew.alloc ob)) :
    (Code.region id ops true).wp P Q a0 w := by
  have hop' : ∀ (a : Act) (w' : World) (o : Oper), (∀ d, Operand.tmp d ∈ o.op.operands → TmpOk ops m a0 (fun k v _ => v = tbl k) w' d (a.tmps.getD d undef)) → (∀ d, Operand.tmp d ∈ o.op.operands → a.tmps.getD d undef = (match idxOf ops m d with | some k => tbl k | none => a0.tmps.getD d undef)) := by
    intro a w' o hop d hd
    have := hop d hd
    unfold TmpOk at this
    split at this
    · rename_i h; rw [h]; exact this
    · rename_i h; rw [h]; exact this
  refine region m (fun b w' => w' = if b then w.drew.alloc ob else w.drew) (fun k v _ => v = tbl k) hm hH h0m hin rfl ?_ ?_
  · rintro i o hi ho b a w' hb hG hop
    by_cases e : i + 1 = m
    · obtain rfl := hb e
      have e2 : (i + 1 == m) = true := by simpa using e
      have hi' : i = m - 1 := by omega
      subst hi'
      have hw : w' = w.drew := by simpa using hG
      subst hw
      rw [hmake o ho a (hop' _ _ _ hop)]
      exact ⟨by simp [e2], rfl, fun _ _ _ _ _ h => h⟩
    · have e2 : (i + 1 == m) = false := by simpa using e
      rw [hpure i o (by omega) ho a (hop' _ _ _ hop) w' (by cases b <;> simp_all)]
      exact ⟨by rw [e2, Bool.or_false]; exact hG, rfl, fun _ _ _ _ _ h => h⟩
  · rintro vals w' hG hΦ
    have hw : w' = w.drew.alloc ob := by simpa using hG
    subst hw
    rw [puts_congr (vals' := tbl) (L' := fun _ => true) (List.range m) a0 (fun k hk => ⟨rfl, hΦ k (List.mem_range.1 hk)⟩)]
    exact hfin
end
end Reg6P
end Go.Proofs.YtpmcdjpfolgpiaaGreatDoor
