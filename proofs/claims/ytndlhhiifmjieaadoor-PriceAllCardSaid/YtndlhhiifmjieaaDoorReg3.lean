/-
  A region that draws its order and whose operations make memory: each operation is shown once, whatever order is drawn. Each yields a value of which a fact holds that later operations keep; the operations of the tail wait for all of the head.
-/
import Derived.StillTail
import Derived.Test.YtndlhhiifmjieaaDoorLib
namespace Go.Proofs.YtndlhhiifmjieaaDoor
namespace Reg3
set_option linter.unusedVariables false
open Go.RowKit

def dstOf (ops : Array Oper) (k : Nat) : Option Tmp := (ops[k]?).bind (·.dst)
def idxOf (ops : Array Oper) (m : Nat) (d : Tmp) : Option Nat := (List.range m).find? (fun k => dstOf ops k == some d)
def waits (o : Oper) (k : Nat) : Bool := o.after.any (fun e => Region.binds .any e && e.on == k)
def opB (ops : Array Oper) (m i : Nat) : Bool := match ops[i]? with
  | some o => o.guard.isNone && o.after.all (fun e => decide (e.on < i)) &&
      o.op.operands.all (fun x => match x with | .tmp d => (List.range m).all (fun k => dstOf ops k != some d || waits o k) | _ => true) &&
      (List.range m).all (fun k => k == i || dstOf ops i == none || dstOf ops k != dstOf ops i)
  | none => false
def reaches (ops : Array Oper) : Nat → Nat → Nat → Bool
  | 0, _, _ => false
  | f + 1, i, k => match ops[i]? with
    | some o => waits o k || o.after.any (fun e => Region.binds .any e && reaches ops f e.on k)
    | none => false
def tailB (ops : Array Oper) (m i : Nat) : Bool := (List.range m).all (fun k => reaches ops ops.size i k)
def marks (m n : Nat) : Array Bool := Array.replicate m true ++ Array.replicate (n - m) false
def headB (ops : Array Oper) (m : Nat) : Bool :=
  decide (m ≤ ops.size) && (List.range m).all (opB ops m) && (List.range ops.size).all (fun i => decide (i < m) || tailB ops m i) && Region.seqB .any ops (ops.size - m) m (marks m ops.size)

def puts (ops : Array Oper) (vals : Nat → Value) (L : Nat → Bool) : List Nat → Act → Act
  | [], a => a
  | k :: ks, a => puts ops vals L ks (if L k then a.put (dstOf ops k) (vals k) else a)

theorem puts_put {ops : Array Oper} {vals : Nat → Value} {L : Nat → Bool} {x : Option Tmp} {v : Value} : ∀ (ks : List Nat) (a : Act), (∀ k ∈ ks, ∀ d, x = some d → dstOf ops k ≠ some d) → puts ops vals L ks (a.put x v) = (puts ops vals L ks a).put x v
  | [], _, _ => rfl
  | k :: ks, a, h => by
    unfold puts
    split
    · rw [Act.put_comm a v (vals k) (h k (by simp))]
      exact puts_put ks _ (fun j hj => h j (by simp [hj]))
    · exact puts_put ks _ (fun j hj => h j (by simp [hj]))
theorem puts_congr {ops : Array Oper} {vals vals' : Nat → Value} {L L' : Nat → Bool} : ∀ (ks : List Nat) (a : Act), (∀ k ∈ ks, L k = L' k ∧ vals k = vals' k) → puts ops vals L ks a = puts ops vals' L' ks a
  | [], _, _ => rfl
  | k :: ks, a, h => by
    unfold puts
    rw [(h k (by simp)).1, (h k (by simp)).2]
    exact puts_congr ks _ (fun j hj => h j (by simp [hj]))
theorem puts_ins {ops : Array Oper} {vals : Nat → Value} {L : Nat → Bool} {i : Nat} {v : Value} : ∀ (ks : List Nat) (a : Act), ks.Nodup → i ∈ ks → L i = false → (∀ k ∈ ks, k ≠ i → ∀ d, dstOf ops i = some d → dstOf ops k ≠ some d) →
    puts ops (fun k => if k = i then v else vals k) (fun k => L k || k == i) ks a = (puts ops vals L ks a).put (dstOf ops i) v
  | [], _, _, h, _, _ => by simp at h
  | k :: ks, a, hn, hm, hL, hd => by
    have hn' := List.nodup_cons.1 hn
    unfold puts
    by_cases e : k = i
    · subst e
      simp only [hL, beq_self_eq_true, Bool.or_true, if_true, Bool.false_eq_true, if_false]
      rw [← puts_put ks a (fun j hj d h1 => hd j (by simp [hj]) (fun e => hn'.1 (e ▸ hj)) d h1)]
      refine puts_congr ks _ (fun j hj => ?_)
      have hne : j ≠ k := fun e => hn'.1 (e ▸ hj)
      simp [hne]
    · have hm' : i ∈ ks := by
        rcases List.mem_cons.1 hm with h | h
        · exact absurd h.symm e
        · exact h
      have he : (k == i) = false := by simpa using e
      simp only [he, Bool.or_false, if_neg e]
      exact puts_ins ks _ hn'.2 hm' hL (fun j hj => hd j (by simp [hj]))
theorem put_size (a : Act) (x : Option Tmp) (v : Value) : (a.put x v).tmps.size = a.tmps.size := by cases x <;> simp [Act.put]
theorem puts_size {ops : Array Oper} {vals : Nat → Value} {L : Nat → Bool} : ∀ (ks : List Nat) (a : Act), (puts ops vals L ks a).tmps.size = a.tmps.size
  | [], _ => rfl
  | k :: ks, a => by
    unfold puts
    rw [puts_size ks]
    split
    · exact put_size _ _ _
    · rfl
theorem put_other (a : Act) (x : Option Tmp) (v : Value) (d : Tmp) (h : x ≠ some d) : (a.put x v).tmps.getD d undef = a.tmps.getD d undef := by
  cases x with
  | none => rfl
  | some c =>
    have : c ≠ d := fun e => h (by rw [e])
    simp [Act.put, Array.getD_eq_getD_getElem?, this]
theorem put_same (a : Act) (v : Value) (d : Tmp) (h : d < a.tmps.size) : (a.put (some d) v).tmps.getD d undef = v := by
  simp [Act.put, Array.getD_eq_getD_getElem?, h]
theorem puts_none {ops : Array Oper} {vals : Nat → Value} {L : Nat → Bool} {d : Tmp} : ∀ (ks : List Nat) (a : Act), (∀ k ∈ ks, dstOf ops k ≠ some d) → (puts ops vals L ks a).tmps.getD d undef = a.tmps.getD d undef
  | [], _, _ => rfl
  | k :: ks, a, h => by
    unfold puts
    rw [puts_none ks _ (fun j hj => h j (by simp [hj]))]
    split
    · exact put_other _ _ _ _ (h k (by simp))
    · rfl
theorem puts_at {ops : Array Oper} {vals : Nat → Value} {L : Nat → Bool} {d : Tmp} {i : Nat} (hi : dstOf ops i = some d) (hL : L i = true) : ∀ (ks : List Nat) (a : Act), ks.Nodup → i ∈ ks → d < a.tmps.size → (∀ k ∈ ks, k ≠ i → dstOf ops k ≠ some d) →
    (puts ops vals L ks a).tmps.getD d undef = vals i
  | [], _, _, h, _, _ => by simp at h
  | k :: ks, a, hn, hm, hs, hd => by
    have hn' := List.nodup_cons.1 hn
    unfold puts
    by_cases e : k = i
    · subst e
      rw [hL, if_pos rfl, puts_none ks _ (fun j hj => hd j (by simp [hj]) (fun e => hn'.1 (e ▸ hj))), hi]
      exact put_same _ _ _ hs
    · have hm' : i ∈ ks := by
        rcases List.mem_cons.1 hm with h | h
        · exact absurd h.symm e
        · exact h
      refine puts_at hi hL ks _ hn'.2 hm' ?_ (fun j hj => hd j (by simp [hj]))
      split
      · rw [put_size]; exact hs
      · exact hs

def StepOk (P : Program) (R : Value → World → Prop) : Result Next → Prop
  | .ok (.value v) w' => R v w'
  | .ok .skip w' => R undef w'
  | .ok (.enter f args) w' => Calls P f args w' fun e w'' => ∃ v, e = .returned v ∧ R v w''
  | _ => False
def TmpOk (ops : Array Oper) (m : Nat) (a0 : Act) (Φ : Nat → Value → World → Prop) (w : World) (d : Tmp) (v : Value) : Prop := match idxOf ops m d with
  | some k => Φ k v w
  | none => v = a0.tmps.getD d undef

section
variable {P : Program} {ops : Array Oper} {Q : Exit → Act → World → Prop} {m : Nat} {a0 : Act} {G : World → Prop} {Φ : Nat → Value → World → Prop}

structure Inv (ops : Array Oper) (m : Nat) (a0 : Act) (G : World → Prop) (Φ : Nat → Value → World → Prop) (vals : Nat → Value) (listed : Array Bool) (a : Act) (w : World) : Prop where
  size : listed.size = ops.size
  tail : ∀ i, m ≤ i → i < ops.size → listed.getD i true = false
  act : a = puts ops vals (fun k => listed.getD k false) (List.range m) a0
  g : G w
  phi : ∀ k, k < m → listed.getD k false = true → Φ k (vals k) w
  down : ∀ (k : Nat) (o : Oper), ops[k]? = some o → listed.getD k false = true → ∀ e ∈ o.after, Region.binds .any e = true → listed.getD e.on false = true

def left (m : Nat) (listed : Array Bool) : Nat := ((List.range m).filter (fun k => !listed.getD k false)).length

theorem getD_set (listed : Array Bool) (i k : Nat) (b : Bool) (hi : i < listed.size) : (listed.setIfInBounds i true).getD k b = (if k = i then true else listed.getD k b) := by
  rw [Array.getD_eq_getD_getElem?, Array.getD_eq_getD_getElem?, Array.getElem?_setIfInBounds]
  by_cases e : k = i
  · subst e; simp [hi]
  · have : i ≠ k := fun h => e h.symm
    simp [e, this]
theorem getD_tf (listed : Array Bool) (i : Nat) (hi : i < listed.size) : listed.getD i true = listed.getD i false := by
  rw [Array.getD_eq_getD_getElem?, Array.getD_eq_getD_getElem?, Array.getElem?_eq_getElem hi]; rfl

theorem left_set {listed : Array Bool} {i : Nat} (hi : i < m) (his : i < listed.size) (hu : listed.getD i false = false) : left m (listed.setIfInBounds i true) + 1 = left m listed := by
  unfold left
  have key : ∀ (ks : List Nat), ks.Nodup → i ∈ ks → (ks.filter (fun k => !(listed.setIfInBounds i true).getD k false)).length + 1 = (ks.filter (fun k => !listed.getD k false)).length := by
    intro ks
    induction ks with
    | nil => intro _ h; simp at h
    | cons k ks ih =>
      intro hn hm
      have hn' := List.nodup_cons.1 hn
      by_cases e : k = i
      · subst e
        have h1 : (!(listed.setIfInBounds k true).getD k false) = false := by rw [getD_set _ _ _ _ his, if_pos rfl]; rfl
        have h2 : (!listed.getD k false) = true := by rw [hu]; rfl
        rw [List.filter_cons_of_neg (by rw [h1]; simp), List.filter_cons_of_pos (by rw [h2])]
        rw [List.length_cons]
        congr 2
        refine List.filter_congr (fun j hj => ?_)
        rw [getD_set _ _ _ _ his, if_neg (fun (e : j = k) => hn'.1 (e ▸ hj))]
      · have hm' : i ∈ ks := by
          rcases List.mem_cons.1 hm with h | h
          · exact absurd h.symm e
          · exact h
        have ih' := ih hn'.2 hm'
        have hk : (listed.setIfInBounds i true).getD k false = listed.getD k false := by rw [getD_set _ _ _ _ his, if_neg e]
        rw [List.filter_cons, List.filter_cons, hk]
        split
        · simp only [List.length_cons]; omega
        · exact ih'
  exact key (List.range m) List.nodup_range (List.mem_range.2 hi)

theorem reach_listed {listed : Array Bool} (down : ∀ (k : Nat) (o : Oper), ops[k]? = some o → listed.getD k false = true → ∀ e ∈ o.after, Region.binds .any e = true → listed.getD e.on false = true) :
    ∀ (f i : Nat) (o : Oper) (k : Nat), ops[i]? = some o → (∀ e ∈ o.after, Region.binds .any e = true → listed.getD e.on false = true) → reaches ops f i k = true → listed.getD k false = true
  | 0, _, _, _, _, _, h => by simp [reaches] at h
  | f + 1, i, o, k, ho, hd, h => by
    unfold reaches at h
    rw [ho] at h
    simp only [Bool.or_eq_true] at h
    rcases h with h | h
    · unfold waits at h
      rw [Array.any_eq_true'] at h
      obtain ⟨e, he, hb⟩ := h
      simp only [Bool.and_eq_true, beq_iff_eq] at hb
      have := hd e he hb.1
      rw [hb.2] at this
      exact this
    · rw [Array.any_eq_true'] at h
      obtain ⟨e, he, hb⟩ := h
      simp only [Bool.and_eq_true] at hb
      have hl := hd e he hb.1
      rcases ho' : ops[e.on]? with _ | o'
      · have := hb.2
        cases f with
        | zero => simp [reaches] at this
        | succ f => unfold reaches at this; rw [ho'] at this; simp at this
      · exact reach_listed down f e.on o' k ho' (down e.on o' ho' hl) hb.2

theorem main (hH : headB ops m = true) (hin : ∀ k d, k < m → dstOf ops k = some d → d < a0.tmps.size)
    (hstep : ∀ i o, i < m → ops[i]? = some o → ∀ (a : Act) (w : World), G w → (∀ d, Operand.tmp d ∈ o.op.operands → TmpOk ops m a0 Φ w d (a.tmps.getD d undef)) →
      StepOk P (fun v w' => G w' ∧ Φ i v w' ∧ ∀ k u, k < m → k ≠ i → reaches ops ops.size k i = false → Φ k u w → Φ k u w') ((execOp a.eval o).run P w))
    (hfin : ∀ (vals : Nat → Value) (w : World), G w → (∀ k, k < m → Φ k (vals k) w) → wpList P ops Q (ops.toList.drop m) (puts ops vals (fun _ => true) (List.range m) a0) w) :
    ∀ (c : Nat) (vals : Nat → Value) (listed : Array Bool) (a : Act) (w : World), Inv ops m a0 G Φ vals listed a w → left m listed = c → wpAny P .any ops Q (c + (ops.size - m)) listed a w := by
  simp only [headB, Bool.and_eq_true, decide_eq_true_eq, List.all_eq_true, List.mem_range, Bool.or_eq_true] at hH
  obtain ⟨⟨⟨hmn, hop⟩, htail⟩, hseq⟩ := hH
  have hopx : ∀ i o, i < m → ops[i]? = some o → o.guard = none ∧ (∀ e ∈ o.after, e.on < i) ∧ (∀ d, Operand.tmp d ∈ o.op.operands → ∀ k, k < m → dstOf ops k = some d → waits o k = true) ∧ (∀ k, k < m → k ≠ i → ∀ d, dstOf ops i = some d → dstOf ops k ≠ some d) := by
    intro i o hi ho
    have h := hop i hi
    unfold opB at h
    rw [ho] at h
    simp only [Bool.and_eq_true, Option.isNone_iff_eq_none, Array.all_eq_true_iff_forall_mem, decide_eq_true_eq, List.all_eq_true, List.mem_range, Bool.or_eq_true, bne_iff_ne, beq_iff_eq] at h
    obtain ⟨⟨⟨h1, h2⟩, h3⟩, h4⟩ := h
    refine ⟨h1, h2, fun d hd k hk hkd => ?_, fun k hk hne d hd hkd => ?_⟩
    · have := h3 _ hd
      simp only [List.all_eq_true, List.mem_range, Bool.or_eq_true, bne_iff_ne] at this
      rcases this k hk with h | h
      · exact absurd hkd h
      · exact h
    · rcases h4 k hk with (h | h) | h
      · exact hne h
      · rw [h] at hd; cases hd
      · rw [hd, hkd] at h; exact h rfl
  intro c
  induction c with
  | zero =>
    intro vals listed a w inv hc
    have hall : ∀ k, k < m → listed.getD k false = true := by
      intro k hk
      unfold left at hc
      have := List.eq_nil_of_length_eq_zero hc
      have h2 := List.filter_eq_nil_iff.1 this k (List.mem_range.2 hk)
      simpa using h2
    have hl : listed = marks m ops.size := by
      refine Array.ext (by simp [marks, inv.size]; omega) (fun k h1 h2 => ?_)
      by_cases hk : k < m
      · have e1 := hall k hk
        rw [Array.getD_eq_getD_getElem?, Array.getElem?_eq_getElem h1] at e1
        have e2 : (marks m ops.size)[k] = true := by simp [marks, hk]
        rw [e2]; simpa using e1
      · have e1 := inv.tail k (by omega) (by rw [← inv.size]; exact h1)
        rw [Array.getD_eq_getD_getElem?, Array.getElem?_eq_getElem h1] at e1
        have e2 : (marks m ops.size)[k] = false := by simp [marks, Array.getElem_append, hk]
        rw [e2]; simpa using e1
    have ha : a = puts ops vals (fun _ => true) (List.range m) a0 := by
      rw [inv.act]
      exact puts_congr _ _ (fun k hk => ⟨hall k (List.mem_range.1 hk), rfl⟩)
    subst ha
    have hlen : (ops.toList.drop m).length = ops.size - m := by simp
    have := wpAny_of_seq (md := .any) (Q' := Q) (P := P) (ops := ops) (ops.toList.drop m) m listed _ w (fun j => by simp) (by rw [hlen, hl]; exact hseq) (hfin vals w inv.g (fun k hk => inv.phi k hk (hall k hk)))
    rw [hlen] at this
    rw [Nat.zero_add]
    exact this
  | succ c ih =>
    intro vals listed a w inv hc
    rw [show c + 1 + (ops.size - m) = (c + (ops.size - m)) + 1 by omega]
    have hex : ∃ i, i < m ∧ listed.getD i false = false := by
      unfold left at hc
      rcases hl : (List.range m).filter (fun k => !listed.getD k false) with _ | ⟨i, l⟩
      · rw [hl] at hc; simp at hc
      · have : i ∈ (List.range m).filter (fun k => !listed.getD k false) := by rw [hl]; simp
        rw [List.mem_filter, List.mem_range] at this
        exact ⟨i, this.1, by simpa using this.2⟩
    refine ⟨fun hr => ?_, fun i hi => ?_⟩
    · -- the least that has not come up may come up
      exfalso
      obtain ⟨i, ⟨hi, hu⟩, hmin⟩ : ∃ i, (i < m ∧ listed.getD i false = false) ∧ ∀ j, j < i → listed.getD j false = true := by
        obtain ⟨i, hi, hu⟩ := hex
        induction i using Nat.strongRecOn with
        | _ i ihs =>
          by_cases hb : ∃ j, j < i ∧ listed.getD j false = false
          · obtain ⟨j, hj, hju⟩ := hb
            exact ihs j hj (by omega) hju
          · exact ⟨i, ⟨hi, hu⟩, fun j hj => by
              cases hv : listed.getD j false with
              | true => rfl
              | false => exact absurd ⟨j, hj, hv⟩ hb⟩
      have ho : ∃ o, ops[i]? = some o := ⟨ops[i]'(by omega), Array.getElem?_eq_getElem _⟩
      obtain ⟨o, ho⟩ := ho
      have : i ∈ Region.ready .any ops listed := mem_ready.2 ⟨by rw [getD_tf _ _ (by rw [inv.size]; omega)]; exact hu, o, ho, fun e he _ => hmin _ ((hopx i o hi ho).2.1 e he)⟩
      rw [hr] at this
      cases this
    · obtain ⟨hu, o, ho, hed⟩ := mem_ready.1 hi
      have hin' : i < ops.size := (Array.getElem?_eq_some_iff.1 ho).1
      have his : i < listed.size := by rw [inv.size]; exact hin'
      have hu' : listed.getD i false = false := by rw [← getD_tf _ _ his]; exact hu
      have him : i < m := by
        rcases Nat.lt_or_ge i m with h | h
        · exact h
        · exfalso
          obtain ⟨k, hk, hku⟩ := hex
          have ht := htail i hin'
          rcases ht with ht | ht
          · omega
          · unfold tailB at ht
            simp only [List.all_eq_true, List.mem_range] at ht
            have := reach_listed inv.down _ i o k ho hed (ht k hk)
            rw [hku] at this
            cases this
      obtain ⟨g1, g2, g3, g4⟩ := hopx i o him ho
      have hstep' := hstep i o him ho a w inv.g (fun d hx => by
        unfold TmpOk
        split
        · rename_i k hk
          unfold idxOf at hk
          have hkm : k < m := List.mem_range.1 (List.mem_of_find?_eq_some hk)
          have hkd : dstOf ops k = some d := by simpa using List.find?_some hk
          have hw := g3 d hx k hkm hkd
          unfold waits at hw
          rw [Array.any_eq_true'] at hw
          obtain ⟨e, he, hb⟩ := hw
          simp only [Bool.and_eq_true, beq_iff_eq] at hb
          have hlk := hed e he hb.1
          rw [hb.2] at hlk
          have : a.tmps.getD d undef = vals k := by
            rw [inv.act]
            refine puts_at hkd hlk (List.range m) a0 List.nodup_range (List.mem_range.2 hkm) (hin k d hkm hkd) (fun j hj hne hjd => ?_)
            have hj' : j < m := List.mem_range.1 hj
            have hoj : ∃ oj, ops[j]? = some oj := ⟨ops[j]'(by omega), Array.getElem?_eq_getElem _⟩
            obtain ⟨oj, hoj⟩ := hoj
            exact (hopx j oj hj' hoj).2.2.2 k hkm (fun e => hne e.symm) d hjd hkd
          rw [this]
          exact inv.phi k hkm hlk
        · rename_i hk
          unfold idxOf at hk
          have hno : ∀ k ∈ List.range m, dstOf ops k ≠ some d := fun k hk' => by
            have := List.find?_eq_none.1 hk k hk'
            simpa using this
          rw [inv.act]
          exact puts_none _ _ hno)
      have hK : ∀ (v : Value) (w' : World), (G w' ∧ Φ i v w' ∧ ∀ k u, k < m → k ≠ i → reaches ops ops.size k i = false → Φ k u w → Φ k u w') → wpAny P .any ops Q (c + (ops.size - m)) (listed.setIfInBounds i true) (a.put o.dst v) w' := by
        rintro v w' ⟨hG, hΦ, hkeep⟩
        refine ih (fun k => if k = i then v else vals k) _ _ _ ⟨by simp [inv.size], fun j hj hjn => ?_, ?_, hG, fun k hk hlk => ?_, fun k ok hok hlk e he hbe => ?_⟩ ?_
        · rw [getD_set _ _ _ _ his, if_neg (by omega)]
          exact inv.tail j hj hjn
        · have hdst : o.dst = dstOf ops i := by unfold dstOf; rw [ho]; rfl
          rw [hdst, inv.act, ← puts_ins (List.range m) a0 List.nodup_range (List.mem_range.2 him) hu' (fun k hk hne d h1 => g4 k (List.mem_range.1 hk) hne d h1)]
          refine puts_congr _ _ (fun k hk => ⟨?_, rfl⟩)
          rw [getD_set _ _ _ _ his]
          by_cases e : k = i
          · simp [e]
          · simp [e]
        · by_cases e : k = i
          · subst e; simpa using hΦ
          · rw [getD_set _ _ _ _ his, if_neg e] at hlk
            simp only [if_neg e]
            refine hkeep k _ hk e ?_ (inv.phi k hk hlk)
            cases hr : reaches ops ops.size k i with
            | false => rfl
            | true =>
              have hok : ∃ ok, ops[k]? = some ok := ⟨ops[k]'(by omega), Array.getElem?_eq_getElem _⟩
              obtain ⟨ok, hok⟩ := hok
              have := reach_listed inv.down _ k ok i hok (fun e he hb => inv.down k ok hok hlk e he hb) hr
              rw [hu'] at this
              cases this
        · have hlo : listed.getD e.on false = true := by
            by_cases ek : k = i
            · subst ek
              rw [ho] at hok
              injection hok with hok
              subst hok
              exact hed e he hbe
            · rw [getD_set _ _ _ _ his, if_neg ek] at hlk
              exact inv.down k ok hok hlk e he hbe
          rw [getD_set _ _ _ _ his]
          split
          · rfl
          · exact hlo
        · have := left_set (m := m) him his hu'
          omega
      unfold wpOp
      rw [ho]
      have hwant : Region.wanted o (yielded ops a.tmps) = true := by simp [Region.wanted, g1]
      simp only [hwant, if_true]
      left
      unfold Oper.wp
      generalize (execOp a.eval o).run P w = r at hstep'
      cases r with
      | ok nx w' =>
        cases nx <;> simp only [StepOk] at hstep' <;> simp only [Oper.upon]
        · exact hK _ _ hstep'
        · exact hK _ _ hstep'
        · exact hstep'.mono fun e w'' ⟨v, he, hR⟩ => by subst he; exact hK v w'' hR
      | halt x w' => simp only [StepOk] at hstep'

theorem in_of {n : Nat} (h : (List.range m).all (fun k => match dstOf ops k with | some d => decide (d < n) | none => true) = true) (hn : a0.tmps.size = n) : ∀ k d, k < m → dstOf ops k = some d → d < a0.tmps.size := by
  intro k d hk hd
  have := List.all_eq_true.1 h k (List.mem_range.2 hk)
  rw [hd] at this
  rw [hn]
  simpa using this
/-- The law. -/
theorem region {id : Nat} {w : World} (m : Nat) (G : World → Prop) (Φ : Nat → Value → World → Prop) (hm : P.follows .mixedOrders = true) (hH : headB ops m = true) (hin : ∀ k d, k < m → dstOf ops k = some d → d < a0.tmps.size) (hG : G w.drew)
    (hstep : ∀ i o, i < m → ops[i]? = some o → ∀ (a : Act) (w : World), G w → (∀ d, Operand.tmp d ∈ o.op.operands → TmpOk ops m a0 Φ w d (a.tmps.getD d undef)) →
      StepOk P (fun v w' => G w' ∧ Φ i v w' ∧ ∀ k u, k < m → k ≠ i → reaches ops ops.size k i = false → Φ k u w → Φ k u w') ((execOp a.eval o).run P w))
    (hfin : ∀ (vals : Nat → Value) (w : World), G w → (∀ k, k < m → Φ k (vals k) w) → wpList P ops Q (ops.toList.drop m) (puts ops vals (fun _ => true) (List.range m) a0) w) :
    (Code.region id ops true).wp P Q a0 w := by
  refine wp_region_any hm ?_
  have hmn : m ≤ ops.size := by
    simp only [headB, Bool.and_eq_true, decide_eq_true_eq] at hH
    exact hH.1.1.1
  have hz : ∀ k b, k < ops.size → (Array.replicate ops.size false).getD k b = false := fun k b hk => by
    rw [Array.getD_eq_getD_getElem?, Array.getElem?_replicate, if_pos hk]; rfl
  have hl : left m (Array.replicate ops.size false) = m := by
    unfold left
    rw [List.filter_eq_self.2 (fun k hk => by rw [hz k false (by have := List.mem_range.1 hk; omega)]; rfl), List.length_range]
  have := main (P := P) (Q := Q) (a0 := a0) (G := G) (Φ := Φ) hH hin hstep hfin m (fun _ => undef) (Array.replicate ops.size false) a0 w.drew ⟨by simp, fun i _ hi => hz i true hi, ?_, hG, fun k hk h => ?_, fun k o ho h => ?_⟩ hl
  · rw [show m + (ops.size - m) = ops.size by omega] at this
    exact this
  · have : ∀ (ks : List Nat) (a : Act), (∀ k ∈ ks, k < ops.size) → puts ops (fun _ => undef) (fun k => (Array.replicate ops.size false).getD k false) ks a = a := by
      intro ks
      induction ks with
      | nil => intro a _; rfl
      | cons k ks ih =>
        intro a h
        unfold puts
        rw [hz k false (h k (by simp))]
        exact ih a (fun j hj => h j (by simp [hj]))
    exact (this _ _ (fun k hk => by have := List.mem_range.1 hk; omega)).symm
  · rw [hz k false (by omega)] at h; cases h
  · rw [hz k false (Array.getElem?_eq_some_iff.1 ho).1] at h; cases h
end
end Reg3
end Go.Proofs.YtndlhhiifmjieaaDoor
