/-
  The walk of station.New.
-/
import Derived.Test.YtfaofobhmmedmaaGreatDoorStnN
import Derived.RegionTactic
import Derived.ChangeAlike
import Derived.BigRegion
import Derived.Deep.Cut
namespace Go.Proofs.YtfaofobhmmedmaaGreatDoor
namespace Stn
set_option linter.unusedSimpArgs false
set_option linter.unusedVariables false
open Go.RowKit Go.Great

def zCn : Cn := ⟨0, false, false, false, 0⟩
def av : Cn := ⟨1, false, false, false, 0⟩
def zMt : Mt := ⟨0, 0, 0, 0⟩
abbrev nilSl : Sl := ⟨.slice none 0 0, .slice none 0 0, .slice none 0 0, .slice none 0 0, .slice none 0 0, .slice none 0 0, .slice none 0 0, .slice none 0 0, .slice none 0 0, .slice none 0 0, .slice none 0 0, .slice none 0 0, .slice none 0 0, .slice none 0 0⟩
abbrev zA : Array Value := #[.string ⟨#[]⟩, i 0, .bool false, i 0, i 0, i 0, .slice none 0 0, .slice none 0 0, .slice none 0 0, .slice none 0 0, i 0, .slice none 0 0, .slice none 0 0, .slice none 0 0, i 0, .slice none 0 0, i 0, i 0, i 0, i 0, .slice none 0 0, .slice none 0 0, i 0, i 0, .slice none 0 0, i 0, i 0, i 0, i 0, i 0, i 0, i 0, i 0, .slice none 0 0, .slice none 0 0, .slice none 0 0]
theorem run_allocSt (w : World) : (Instr.alloc 43 true (.tuple #[])).run Tryz.prog w = .ok (.pointer (some ⟨w.heap.size, 0, none⟩)) (w.alloc (.cells zA 43)) := by kernel_rfl
theorem wpList_allocSt {ops : Array Oper} {rest : List Oper} {o : Oper} {a : Act} {w : World} {Q : Exit → Act → World → Prop} (hg : o.guard = none) (ho : o.op = .alloc 43)
    (h : wpList Tryz.prog ops Q rest (a.put o.dst (.pointer (some ⟨w.heap.size, 0, none⟩))) (w.alloc (.cells zA 43))) : wpList Tryz.prog ops Q (o :: rest) a w :=
  listRun hg _ (by unfold execOp; simp only [ho, Sem.run_bind, run_allocSt, Result.andThen_ok]; rfl) h
theorem st_zero (w : World) : StAt w zSt nilSl := ⟨SliceAt.nil, SliceAt.nil, SliceAt.nil, emp_nil, emp_nil, emp_nil, emp_nil, emp_nil, emp_nil, emp_nil, emp_nil, SliceAt.nil, SliceAt.nil, SliceAt.nil⟩
def newE (name : ByteArray) (conns m : Int) (gs : List Int) : Int :=
  if (IdW.identOk name && decide (name.size ≤ 20)) = false then 4 else if conns < 1 ∨ 8 < conns then 2 else if (gs.length : Int) ≠ conns then 1 else if gs.all (fun g => mtOk ⟨0, m, 0, g⟩) = true then 0 else 1
def newR (name : ByteArray) (conns m : Int) (gs : List Int) : St × Int := if newE name conns m gs = 0 then (fresh name gs m, 0) else (zSt, newE name conns m gs)
def NPost (R : St × Int) (w : World) (e : Ending) (w' : World) : Prop := ∃ l, e = .returned (.tuple #[.agg (stA R.1 l), i R.2]) ∧ StAt w' R.1 l ∧ Below w.heap.size w w'
theorem NPost.no {R : St × Int} {E : Int} {w w' : World} (h : R = (zSt, E)) (hb : Below w.heap.size w w') : NPost R w (.returned (.tuple #[.agg zA, i E])) w' := by
  subst h
  exact ⟨nilSl, rfl, st_zero _, hb⟩
/-- What decides. -/
structure NewC (name : ByteArray) (conns m : Int) (gs : List Int) : Prop where
  qa : (IdW.identOk name && decide (name.size ≤ 20)) = false → newR name conns m gs = (zSt, 4)
  qb : (IdW.identOk name && decide (name.size ≤ 20)) = true → conns < 1 ∨ 8 < conns → newR name conns m gs = (zSt, 2)
  qc : (IdW.identOk name && decide (name.size ≤ 20)) = true → ¬ (conns < 1 ∨ 8 < conns) → (gs.length : Int) ≠ conns → newR name conns m gs = (zSt, 1)
  qd : (IdW.identOk name && decide (name.size ≤ 20)) = true → ¬ (conns < 1 ∨ 8 < conns) → (gs.length : Int) = conns → (∃ x, x ∈ gs ∧ mtE ⟨0, m, 0, x⟩ ≠ 0) → newR name conns m gs = (zSt, 1)
  qe : (IdW.identOk name && decide (name.size ≤ 20)) = true → ¬ (conns < 1 ∨ 8 < conns) → (gs.length : Int) = conns → (∀ x, x ∈ gs → mtE ⟨0, m, 0, x⟩ = 0) → newR name conns m gs = (fresh name gs m, 0)
theorem mtE_01 (x : Mt) : mtE x = 0 ∧ mtOk x = true ∨ mtE x = 1 ∧ mtOk x = false := by
  unfold mtE
  cases mtOk x
  · exact .inr ⟨rfl, rfl⟩
  · exact .inl ⟨rfl, rfl⟩
theorem newC (name : ByteArray) (conns m : Int) (gs : List Int) : NewC name conns m gs := by
  have no : ∀ E : Int, E ≠ 0 → newE name conns m gs = E → newR name conns m gs = (zSt, E) := fun E h0 h => by
    unfold newR
    rw [h, if_neg h0]
  refine ⟨fun h1 => no 4 (by decide) ?_, fun h1 h2 => no 2 (by decide) ?_, fun h1 h2 h3 => no 1 (by decide) ?_, fun h1 h2 h3 h4 => no 1 (by decide) ?_, fun h1 h2 h3 h4 => ?_⟩
  · unfold newE; rw [if_pos h1]
  · unfold newE; rw [if_neg (by rw [h1]; decide), if_pos h2]
  · unfold newE; rw [if_neg (by rw [h1]; decide), if_neg h2, if_pos h3]
  · unfold newE
    rw [if_neg (by rw [h1]; decide), if_neg h2, if_neg (fun h => h h3), if_neg]
    intro ha
    obtain ⟨x, hx, hm⟩ := h4
    have := List.all_eq_true.1 ha x hx
    rcases mtE_01 ⟨0, m, 0, x⟩ with ⟨e, _⟩ | ⟨_, e⟩
    · exact hm e
    · rw [e] at this; cases this
  · have : newE name conns m gs = 0 := by
      unfold newE
      rw [if_neg (by rw [h1]; decide), if_neg h2, if_neg (fun h => h h3), if_pos]
      refine List.all_eq_true.2 (fun x hx => ?_)
      rcases mtE_01 ⟨0, m, 0, x⟩ with ⟨_, e⟩ | ⟨e, _⟩
      · exact e
      · rw [h4 x hx] at e; cases e
    unfold newR
    rw [if_pos this]

theorem infoC : (Tryz.prog.info? 80).map (fun i => (i.zero, i.size, i.bytes)) = some (some (.agg #[i 0, .bool false, .bool false, .bool false, i 0]), 5, 24) := by kernel_rfl
theorem infoM : (Tryz.prog.info? 82).map (fun i => (i.zero, i.size, i.bytes)) = some (some (.agg #[i 0, i 0, i 0, i 0]), 4, 32) := by kernel_rfl
theorem infoT : (Tryz.prog.info? 54).map (fun i => (i.zero, i.size, i.bytes)) = some (some (.agg #[.string ⟨#[]⟩, i 0, .string ⟨#[]⟩, .string ⟨#[]⟩, i 0, i 0, .bool false, i 0, i 0]), 9, 96) := by kernel_rfl
def MadeAt {α : Type} (R : List Value → α → Prop) (e : TypeId) (size base n : Nat) (x : α) (W : World) (v : Value) : Prop := ∃ g, v = .slice (some ⟨g, 0, none⟩) n n ∧ Own R e size base W v (List.replicate n x)
theorem MadeAt.call {α : Type} {R : List Value → α → Prop} {e : TypeId} {size base n : Nat} {x : α} {W W' : World} {v : Value} (h : MadeAt R e size base n x W v) (hb : Below W.heap.size W W') : MadeAt R e size base n x W' v := by
  obtain ⟨g, e, ho⟩ := h
  exact ⟨g, e, ho.call hb⟩
abbrev sl5 (gc gm gt gl gs n : Nat) (OV : Value) : Sl := ⟨.slice (some ⟨gc, 0, none⟩) n n, .slice (some ⟨gm, 0, none⟩) n n, .slice (some ⟨gt, 0, none⟩) n n, .slice none 0 0, .slice none 0 0, .slice none 0 0, .slice none 0 0, .slice none 0 0, .slice none 0 0, .slice none 0 0, .slice none 0 0, OV, .slice (some ⟨gl, 0, none⟩) n n, .slice (some ⟨gs, 0, none⟩) n n⟩
def nm0 (name : ByteArray) : St := { zSt with nm := name }
abbrev nA (name : ByteArray) (gc gm gt gl gs n : Nat) : Array Value := #[.string name, i 0, .bool false, i 0, i 0, i 0, .slice (some ⟨gc, 0, none⟩) n n, .slice (some ⟨gm, 0, none⟩) n n, .slice (some ⟨gt, 0, none⟩) n n, .slice none 0 0, i 0, .slice none 0 0, .slice none 0 0, .slice none 0 0, i 0, .slice none 0 0, i 0, i 0, i 0, i 0, .slice none 0 0, .slice none 0 0, i 0, i 0, .slice none 0 0, i 0, i 0, i 0, i 0, i 0, i 0, i 0, i 0, .slice none 0 0, .slice (some ⟨gl, 0, none⟩) n n, .slice (some ⟨gs, 0, none⟩) n n]
/-- The five slices. -/
def Fives (base n : Nat) (gc gm gt gl gs : Nat) (cs : List Cn) (ms : List Mt) (W : World) : Prop :=
  Own CnR 80 5 base W (.slice (some ⟨gc, 0, none⟩) n n) cs ∧ Own MtR 82 4 base W (.slice (some ⟨gm, 0, none⟩) n n) ms ∧ Own TxR 54 9 base W (.slice (some ⟨gt, 0, none⟩) n n) (List.replicate n zTx) ∧
  Own InR 3 1 base W (.slice (some ⟨gl, 0, none⟩) n n) (List.replicate n 0) ∧ Own InR 3 1 base W (.slice (some ⟨gs, 0, none⟩) n n) (List.replicate n 0)
theorem Fives.call {base n gc gm gt gl gs : Nat} {cs : List Cn} {ms : List Mt} {W W' : World} (h : Fives base n gc gm gt gl gs cs ms W) (hb : Below W.heap.size W W') : Fives base n gc gm gt gl gs cs ms W' :=
  ⟨h.1.call hb, h.2.1.call hb, h.2.2.1.call hb, h.2.2.2.1.call hb, h.2.2.2.2.call hb⟩
def nΦ (base n : Nat) (name : ByteArray) (k : Nat) (v : Value) (W : World) : Prop := match k with
  | 0 => v = .string name
  | 1 => v = i (n : Int)
  | 2 => MadeAt CnR 80 5 base n zCn W v
  | 3 => v = i (n : Int)
  | 4 => MadeAt MtR 82 4 base n zMt W v
  | 5 => v = i (n : Int)
  | 6 => MadeAt TxR 54 9 base n zTx W v
  | 7 => v = i (n : Int)
  | 8 => MadeAt InR 3 1 base n (0 : Int) W v
  | 9 => v = i (n : Int)
  | 10 => MadeAt InR 3 1 base n (0 : Int) W v
  | 11 => ∃ gc gm gt gl gs, v = .agg (nA name gc gm gt gl gs n) ∧ Fives base n gc gm gt gl gs (List.replicate n zCn) (List.replicate n zMt) W
  | 12 => ∃ g, v = .pointer (some ⟨g, 0, none⟩) ∧ base ≤ g ∧ Blk W g 43 zA
  | _ => True
theorem nΦ_keep {base n : Nat} {name : ByteArray} {W W' : World} (hb : Below W.heap.size W W') : ∀ k v, nΦ base n name k v W → nΦ base n name k v W' := by
  intro k v h
  unfold nΦ at *
  split at h
  · exact h
  · exact h
  · exact MadeAt.call h hb
  · exact h
  · exact MadeAt.call h hb
  · exact h
  · exact MadeAt.call h hb
  · exact h
  · exact MadeAt.call h hb
  · exact h
  · exact MadeAt.call h hb
  · obtain ⟨a, b, c, d, e, h1, h2⟩ := h
    exact ⟨a, b, c, d, e, h1, h2.call hb⟩
  · obtain ⟨g, h1, h2, h3⟩ := h
    exact ⟨g, h1, h2, h3.call hb⟩
  · trivial
theorem step_build {P : Program} {R : Value → World → Prop} {o : Oper} {a : Act} {w : World} {t : TypeId} {parts : Array (Nat × Operand)} (ho : o.op = .build t parts) (cells : Array Value) (hf : P.built t (parts.map fun (i, x) => (i, a.eval x)).toList = some cells) (h : R (.agg cells) w) : Reg4.StepOk P R ((execOp a.eval o).run P w) := by
  unfold execOp
  simp only [ho, Sem.run_bind, run_build w t _ cells hf, Result.andThen_ok]
  exact h
theorem step_run {P : Program} {R : Value → World → Prop} {r : Result Next} {v : Value} {w : World} (h : r = .ok (.value v) w) (hR : R v w) : Reg4.StepOk P R r := by
  rw [h]; exact hR
def N7 (base n : Nat) (name : ByteArray) (w1 : World) (v : Value) (W : World) : Prop :=
  ∃ g gc gm gt gl gs, v = .pointer (some ⟨g, 0, none⟩) ∧ base ≤ g ∧ Blk W g 43 (nA name gc gm gt gl gs n) ∧ Fives base n gc gm gt gl gs (List.replicate n zCn) (List.replicate n zMt) W ∧ Below base w1 W
theorem own_key {α : Type} {R : List Value → α → Prop} {e : TypeId} {size gg base n c g : Nat} {xs : List α} {W W' : World} {old : Array Value} (hne : e ≠ 43) (hk : Blk W g 43 old) (hg : W.grownBy W' (some g)) (ho : Own R e size base W (.slice (some ⟨gg, 0, none⟩) n c) xs) : Own R e size base W' (.slice (some ⟨gg, 0, none⟩) n c) xs := by
  obtain ⟨rs, h1, h2⟩ := ho
  refine ⟨rs, h1.kept hg (.inr fun ee => ?_), h2⟩
  rcases h1.2 with ⟨h0, _⟩ | ⟨g', cap, cur, h0, _, hh, _⟩
  · cases h0
  · injection h0 with h0 _ _
    injection h0 with h0
    injection h0 with h0 _ _
    subst h0
    have e1 : gg = g := by simpa [Value.ownBlock] using ee
    subst e1
    rw [show W.heap[gg]? = _ from hk] at hh
    cases hh
    exact hne rfl
theorem Fives.by_ {base n gc gm gt gl gs g : Nat} {cs : List Cn} {ms : List Mt} {W W' : World} {old : Array Value} (h : Fives base n gc gm gt gl gs cs ms W) (hk : Blk W g 43 old) (hg : W.grownBy W' (some g)) : Fives base n gc gm gt gl gs cs ms W' :=
  ⟨own_key (by decide) hk hg h.1, own_key (by decide) hk hg h.2.1, own_key (by decide) hk hg h.2.2.1, own_key (by decide) hk hg h.2.2.2.1, own_key (by decide) hk hg h.2.2.2.2⟩
theorem Fives.row {base n gc gm gt gl gs g : Nat} {cs : List Cn} {ms : List Mt} {W : World} {old : Array Value} (h : Fives base n gc gm gt gl gs cs ms W) (hk : Blk W g 43 old) (us : Array Value) : Fives base n gc gm gt gl gs cs ms (W.setRow g us) := h.by_ hk (row_grown W g us)
theorem putCells5 (w : World) (g p : Nat) (a0 a1 a2 a3 a4 : Value) : putCells w g p [a0, a1, a2, a3, a4] = ((((w.setCell ⟨g, p, none⟩ a0).setCell ⟨g, p + 1, none⟩ a1).setCell ⟨g, p + 2, none⟩ a2).setCell ⟨g, p + 3, none⟩ a3).setCell ⟨g, p + 4, none⟩ a4 := by
  simp only [putCells, Nat.add_assoc, Nat.reduceAdd]
theorem putCells4 (w : World) (g p : Nat) (a0 a1 a2 a3 : Value) : putCells w g p [a0, a1, a2, a3] = (((w.setCell ⟨g, p, none⟩ a0).setCell ⟨g, p + 1, none⟩ a1).setCell ⟨g, p + 2, none⟩ a2).setCell ⟨g, p + 3, none⟩ a3 := by
  simp only [putCells, Nat.add_assoc, Nat.reduceAdd]

theorem below_none' {B : Nat} {w w' : World} (hB : B ≤ w.heap.size) (h : w.grownBy w' none) : Below B w w' := (Below.refl _ _).grown h hB (fun k hk => by cases hk)

theorem own_other {α β : Type} {R : List Value → α → Prop} {R' : List Value → β → Prop} {e e' : TypeId} {size size' base base' a b n c n' c' : Nat} {W W' : World} {xs : List α} {ys : List β} (h : Own R e size base W (.slice (some ⟨a, 0, none⟩) n c) xs) (h' : Own R' e' size' base' W (.slice (some ⟨b, 0, none⟩) n' c') ys) (hne : e ≠ e') (hg : W.grownBy W' (some a)) : Own R' e' size' base' W' (.slice (some ⟨b, 0, none⟩) n' c') ys := by
  obtain ⟨rs, h1, -⟩ := h
  obtain ⟨rs', h2, h3⟩ := h'
  refine ⟨rs', h2.kept hg (.inr fun ee => ?_), h3⟩
  have e1 : b = a := by simpa [Value.ownBlock] using ee
  subst e1
  rcases h1.2 with ⟨h0, _⟩ | ⟨g1, cap, cur, h0, _, hh, _⟩
  · cases h0
  · rcases h2.2 with ⟨k0, _⟩ | ⟨g2, cap2, cur2, k0, _, kh, _⟩
    · cases k0
    · injection h0 with h0 _ _
      injection h0 with h0
      injection h0 with h0 _ _
      injection k0 with k0 _ _
      injection k0 with k0
      injection k0 with k0 _ _
      subst h0
      subst k0
      rw [hh] at kh
      cases kh
      exact hne rfl
theorem blk_other {α : Type} {R : List Value → α → Prop} {e t : TypeId} {size base a g n c : Nat} {W W' : World} {xs : List α} {cs : Array Value} (h : Own R e size base W (.slice (some ⟨a, 0, none⟩) n c) xs) (hk : Blk W g t cs) (hne : e ≠ t) (hg : W.grownBy W' (some a)) : Blk W' g t cs := by
  obtain ⟨rs, h1, -⟩ := h
  refine (hg.block g hk.lt (fun ee => ?_)).trans hk
  have e1 : g = a := by simpa using ee
  subst e1
  rcases h1.2 with ⟨h0, _⟩ | ⟨g1, cap, cur, h0, _, hh, _⟩
  · cases h0
  · injection h0 with h0 _ _
    injection h0 with h0
    injection h0 with h0 _ _
    subst h0
    rw [show W.heap[g]? = _ from hk] at hh
    cases hh
    exact hne rfl
def cTo (n k : Nat) : List Cn := List.replicate k av ++ List.replicate (n - k) zCn
def mTo (m : Int) (gs : List Int) (k : Nat) : List Mt := (gs.take k).map (fun x => ⟨0, m, 0, x⟩) ++ List.replicate (gs.length - k) zMt
theorem cTo_len {n k : Nat} (h : k ≤ n) : (cTo n k).length = n := by unfold cTo; rw [List.length_append, List.length_replicate, List.length_replicate]; omega
theorem mTo_len {m : Int} {gs : List Int} {k : Nat} (h : k ≤ gs.length) : (mTo m gs k).length = gs.length := by unfold mTo; rw [List.length_append, List.length_map, List.length_take, List.length_replicate]; omega
theorem cTo_zero (n : Nat) : cTo n 0 = List.replicate n zCn := by unfold cTo; simp
theorem mTo_zero (m : Int) (gs : List Int) : mTo m gs 0 = List.replicate gs.length zMt := by unfold mTo; simp
theorem cTo_all (n : Nat) : cTo n n = List.replicate n av := by unfold cTo; simp
theorem mTo_all (m : Int) (gs : List Int) : mTo m gs gs.length = gs.map (fun x => ⟨0, m, 0, x⟩) := by unfold mTo; simp
theorem cTo_succ {n k : Nat} (h : k < n) : (cTo n k).set k av = cTo n (k + 1) := by
  unfold cTo
  rw [List.set_append, if_neg (by rw [List.length_replicate]; omega), List.length_replicate, Nat.sub_self, show n - k = (n - (k + 1)) + 1 by omega, List.replicate_succ, List.set_cons_zero, List.replicate_succ', List.append_assoc]
  rfl
theorem mTo_succ {m : Int} {gs : List Int} {k : Nat} (h : k < gs.length) : (mTo m gs k).set k ⟨0, m, 0, gs[k]⟩ = mTo m gs (k + 1) := by
  unfold mTo
  have hl : ((gs.take k).map (fun x => (⟨0, m, 0, x⟩ : Mt))).length = k := by rw [List.length_map, List.length_take]; omega
  rw [List.set_append, if_neg (by omega), hl, Nat.sub_self, show gs.length - k = (gs.length - (k + 1)) + 1 by omega, List.replicate_succ, List.set_cons_zero, List.take_succ_eq_append_getElem h, List.map_append, List.append_assoc]
  rfl
theorem mTo_at {m : Int} {gs : List Int} {k : Nat} (h : k < gs.length) : (mTo m gs (k + 1))[k]'(by rw [mTo_len (by omega)]; exact h) = ⟨0, m, 0, gs[k]⟩ := by
  simp only [← mTo_succ h]
  rw [List.getElem_set_self]
/-- The state of the loop. -/
structure NSt (w : World) (base : Nat) (name : ByteArray) (g gc gm gt gl gsh n : Nat) (cs : List Cn) (ms : List Mt) (W : World) : Prop where
  f : Fives base n gc gm gt gl gsh cs ms W
  kg : Blk W g 43 (nA name gc gm gt gl gsh n)
  k8 : Blk W w.heap.size 43 zA
  hb : Below w.heap.size w W
theorem NSt.putC {w : World} {base : Nat} {name : ByteArray} {g gc gm gt gl gsh n : Nat} {cs : List Cn} {ms : List Mt} {W : World} (h : NSt w base name g gc gm gt gl gsh n cs ms W) (hB : w.heap.size ≤ base) {j : Nat} (hl : cs.length = n) (hj : j < n) : NSt w base name g gc gm gt gl gsh n (cs.set j av) ms (putCells W gc (j * 5) [i 1, .bool false, .bool false, .bool false, i 0]) := by
  obtain ⟨h1, h2⟩ := Own.put (j := j) (x := av) (us := [i 1, .bool false, .bool false, .bool false, i 0]) h.f.1 hl.symm (by omega) rfl rfl
  have hr := h.f.1.row
  refine ⟨⟨h1, own_other h.f.1 h.f.2.1 (by decide) h2, own_other h.f.1 h.f.2.2.1 (by decide) h2, own_other h.f.1 h.f.2.2.2.1 (by decide) h2, own_other h.f.1 h.f.2.2.2.2 (by decide) h2⟩, blk_other h.f.1 h.kg (by decide) h2, blk_other h.f.1 h.k8 (by decide) h2, h.hb.grown h2 h.hb.size (fun k hk => ?_)⟩
  have := (hr k hk).1
  omega
theorem NSt.putM {w : World} {base : Nat} {name : ByteArray} {g gc gm gt gl gsh n : Nat} {cs : List Cn} {ms : List Mt} {W : World} (m x : Int) (h : NSt w base name g gc gm gt gl gsh n cs ms W) (hB : w.heap.size ≤ base) {j : Nat} (hl : ms.length = n) (hj : j < n) : NSt w base name g gc gm gt gl gsh n cs (ms.set j ⟨0, m, 0, x⟩) (putCells W gm (j * 4) [i 0, i m, i 0, i x]) := by
  obtain ⟨h1, h2⟩ := Own.put (j := j) (x := (⟨0, m, 0, x⟩ : Mt)) (us := [i 0, i m, i 0, i x]) h.f.2.1 hl.symm (by omega) rfl rfl
  have hr := h.f.2.1.row
  refine ⟨⟨own_other h.f.2.1 h.f.1 (by decide) h2, h1, own_other h.f.2.1 h.f.2.2.1 (by decide) h2, own_other h.f.2.1 h.f.2.2.2.1 (by decide) h2, own_other h.f.2.1 h.f.2.2.2.2 (by decide) h2⟩, blk_other h.f.2.1 h.kg (by decide) h2, blk_other h.f.2.1 h.k8 (by decide) h2, h.hb.grown h2 h.hb.size (fun k hk => ?_)⟩
  have := (hr k hk).1
  omega
theorem NSt.drew {w : World} {base : Nat} {name : ByteArray} {g gc gm gt gl gsh n : Nat} {cs : List Cn} {ms : List Mt} {W : World} (h : NSt w base name g gc gm gt gl gsh n cs ms W) : NSt w base name g gc gm gt gl gsh n cs ms W.drew :=
  ⟨h.f.call (Below.drew (Below.refl _ _)), h.kg.drew, h.k8.drew, Below.drew h.hb⟩
theorem NSt.call {w : World} {base : Nat} {name : ByteArray} {g gc gm gt gl gsh n : Nat} {cs : List Cn} {ms : List Mt} {W W' : World} (h : NSt w base name g gc gm gt gl gsh n cs ms W) (hb : Below W.heap.size W W') : NSt w base name g gc gm gt gl gsh n cs ms W' :=
  ⟨h.f.call hb, h.kg.call hb, h.k8.call hb, below_call h.hb hb⟩

/-- The state behind the loop. -/
structure TSt (w : World) (base g gc gm gt gl gsh n : Nat) (cl : List Cn) (ms : List Mt) (cs : Array Value) (W : World) : Prop where
  f : Fives base n gc gm gt gl gsh cl ms W
  kg : Blk W g 43 cs
  k8 : Blk W w.heap.size 43 zA
  hb : Below w.heap.size w W
theorem TSt.call {w : World} {base g gc gm gt gl gsh n : Nat} {cl : List Cn} {ms : List Mt} {cs : Array Value} {W W' : World} (h : TSt w base g gc gm gt gl gsh n cl ms cs W) (hb : Below W.heap.size W W') : TSt w base g gc gm gt gl gsh n cl ms cs W' :=
  ⟨h.f.call hb, h.kg.call hb, h.k8.call hb, below_call h.hb hb⟩
theorem cell_grown (W : World) (g p : Nat) (u : Value) : W.grownBy (W.setCell ⟨g, p, none⟩ u) (some g) :=
  ⟨rfl, rfl, rfl, by simp, fun k _ hk => Below.heap_setCell W _ u k (fun e => hk (by rw [e]))⟩
theorem put_grown : ∀ (us : List Value) (W : World) (g p : Nat), W.grownBy (putCells W g p us) (some g)
  | [], W, g, p => World.grownBy.refl W _
  | u :: us, W, g, p => by
    have h1 := cell_grown W g p u
    have h2 := put_grown us (W.setCell ⟨g, p, none⟩ u) g (p + 1)
    exact ⟨h2.os.trans h1.os, h2.tape.trans h1.tape, h2.output.trans h1.output, Nat.le_trans h1.size h2.size, fun k hk hne => (h2.block k (Nat.lt_of_lt_of_le hk h1.size) hne).trans (h1.block k hk hne)⟩
theorem TSt.put {w : World} {base g gc gm gt gl gsh n : Nat} {cl : List Cn} {ms : List Mt} {cs cs' : Array Value} {W : World} (h : TSt w base g gc gm gt gl gsh n cl ms cs W) (hg : w.heap.size < g) (p : Nat) (us : List Value) (hk : Blk (putCells W g p us) g 43 cs') : TSt w base g gc gm gt gl gsh n cl ms cs' (putCells W g p us) := by
  have h2 := put_grown us W g p
  refine ⟨h.f.by_ h.kg h2, hk, (h2.block _ h.k8.lt (fun e => ?_)).trans h.k8, h.hb.grown h2 h.hb.size (fun k hk => ?_)⟩
  · injection e with e; omega
  · injection hk with hk; omega
abbrev nA1 (name : ByteArray) (gc gm gt gl gs n : Nat) : Array Value := #[.string name, i 0, .bool false, i 0, i 0, i 0, .slice (some ⟨gc, 0, none⟩) n n, .slice (some ⟨gm, 0, none⟩) n n, .slice (some ⟨gt, 0, none⟩) n n, .slice none 0 0, i 0, .slice none 0 0, .slice none 0 0, .slice none 0 0, i 64, .slice none 0 0, i 0, i 0, i 0, i 0, .slice none 0 0, .slice none 0 0, i 0, i 0, .slice none 0 0, i 0, i 0, i 0, i 0, i 0, i 0, i 0, i 0, .slice none 0 0, .slice (some ⟨gl, 0, none⟩) n n, .slice (some ⟨gs, 0, none⟩) n n]
abbrev nA2 (name : ByteArray) (gc gm gt gl gs n : Nat) : Array Value := #[.string name, i 0, .bool false, i 0, i 0, i 0, .slice (some ⟨gc, 0, none⟩) n n, .slice (some ⟨gm, 0, none⟩) n n, .slice (some ⟨gt, 0, none⟩) n n, .slice none 0 0, i 0, .slice none 0 0, .slice none 0 0, .slice none 0 0, i 64, .slice none 0 0, i 0, i 1, i 3, i 2, .slice none 0 0, .slice none 0 0, i 0, i 0, .slice none 0 0, i 0, i 0, i 0, i 0, i 0, i 0, i 0, i 0, .slice none 0 0, .slice (some ⟨gl, 0, none⟩) n n, .slice (some ⟨gs, 0, none⟩) n n]
abbrev nA3 (name : ByteArray) (gc gm gt gl gs n q : Nat) : Array Value := #[.string name, i 0, .bool false, i 0, i 0, i 0, .slice (some ⟨gc, 0, none⟩) n n, .slice (some ⟨gm, 0, none⟩) n n, .slice (some ⟨gt, 0, none⟩) n n, .slice none 0 0, i 0, .slice none 0 0, .slice none 0 0, .slice none 0 0, i 64, .slice none 0 0, i 0, i 1, i 3, i 2, .slice none 0 0, .slice none 0 0, i 0, i 0, .slice none 0 0, i 0, i 0, i 0, i 0, i 0, i 0, i 30, i 2000, .slice (some ⟨q, 0, none⟩) n n, .slice (some ⟨gl, 0, none⟩) n n, .slice (some ⟨gs, 0, none⟩) n n]
theorem blkP1 {W : World} {g gc gm gt gl gs n : Nat} {name : ByteArray} (h : Blk W g 43 (nA name gc gm gt gl gs n)) : Blk (putCells W g 14 [i 64, .slice none 0 0, i 0]) g 43 (nA1 name gc gm gt gl gs n) := by
  have h1 := ((h.set_ 14 (i 64)).set_ 15 (.slice none 0 0)).set_ 16 (i 0)
  have e : putCells W g 14 [i 64, .slice none 0 0, i 0] = ((W.setCell ⟨g, 14, none⟩ (i 64)).setCell ⟨g, 15, none⟩ (.slice none 0 0)).setCell ⟨g, 16, none⟩ (i 0) := rfl
  rw [e]
  simpa using h1
theorem blkP2 {W : World} {g gc gm gt gl gs n : Nat} {name : ByteArray} (h : Blk W g 43 (nA1 name gc gm gt gl gs n)) : Blk (putCells W g 17 [i 1, i 3, i 2, .slice none 0 0, .slice none 0 0, i 0, i 0, .slice none 0 0]) g 43 (nA2 name gc gm gt gl gs n) := by
  have h1 := (((((((h.set_ 17 (i 1)).set_ 18 (i 3)).set_ 19 (i 2)).set_ 20 (.slice none 0 0)).set_ 21 (.slice none 0 0)).set_ 22 (i 0)).set_ 23 (i 0)).set_ 24 (.slice none 0 0)
  have e : putCells W g 17 [i 1, i 3, i 2, .slice none 0 0, .slice none 0 0, i 0, i 0, .slice none 0 0] = (((((((W.setCell ⟨g, 17, none⟩ (i 1)).setCell ⟨g, 18, none⟩ (i 3)).setCell ⟨g, 19, none⟩ (i 2)).setCell ⟨g, 20, none⟩ (.slice none 0 0)).setCell ⟨g, 21, none⟩ (.slice none 0 0)).setCell ⟨g, 22, none⟩ (i 0)).setCell ⟨g, 23, none⟩ (i 0)).setCell ⟨g, 24, none⟩ (.slice none 0 0) := rfl
  rw [e]
  simpa using h1
theorem blkP3 {W : World} {g gc gm gt gl gs n q : Nat} {name : ByteArray} (h : Blk W g 43 (nA2 name gc gm gt gl gs n)) : Blk (putCells W g 30 [i 0, i 30, i 2000, .slice (some ⟨q, 0, none⟩) n n]) g 43 (nA3 name gc gm gt gl gs n q) := by
  have h1 := (((h.set_ 30 (i 0)).set_ 31 (i 30)).set_ 32 (i 2000)).set_ 33 (.slice (some ⟨q, 0, none⟩) n n)
  have e : putCells W g 30 [i 0, i 30, i 2000, .slice (some ⟨q, 0, none⟩) n n] = (((W.setCell ⟨g, 30, none⟩ (i 0)).setCell ⟨g, 31, none⟩ (i 30)).setCell ⟨g, 32, none⟩ (i 2000)).setCell ⟨g, 33, none⟩ (.slice (some ⟨q, 0, none⟩) n n) := rfl
  rw [e]
  simpa using h1
/-- The station that is returned. -/
theorem fresh_at {base base' gc gm gt gl gsh q : Nat} {name : ByteArray} {gs : List Int} {m : Int} {W : World} (h : Fives base gs.length gc gm gt gl gsh (List.replicate gs.length av) (gs.map (fun x => ⟨0, m, 0, x⟩)) W) (ho : Own InR 3 1 base' W (.slice (some ⟨q, 0, none⟩) gs.length gs.length) (List.replicate gs.length 0)) :
    StAt W (fresh name gs m) (sl5 gc gm gt gl gsh gs.length (.slice (some ⟨q, 0, none⟩) gs.length gs.length)) :=
  ⟨h.1.at_ (by omega), h.2.1.at_ (by omega), h.2.2.1.at_ (by omega), emp_nil, emp_nil, emp_nil, emp_nil, emp_nil, emp_nil, emp_nil, emp_nil, ho.at_ (by omega), h.2.2.2.1.at_ (by omega), h.2.2.2.2.at_ (by omega)⟩

set_option maxRecDepth 100000 in
set_option maxHeartbeats 4000000 in
theorem stationNew (name : ByteArray) (conns m : Int) (A : Option Addr) (n' k : Nat) (gs : List Int) (w : World) (hg : IntsAt w (.slice A n' k) gs) (hs : name.size ≤ maxLen) :
    Calls Tryz.prog 7 #[.string name, i conns, i m, .slice A n' k] w (NPost (newR name conns m gs) w) := by
  obtain ⟨iC, hCi, hCz, hCs, hCb⟩ := info_parts infoC
  obtain ⟨iM, hMi, hMz, hMs, hMb⟩ := info_parts infoM
  obtain ⟨iT, hTi, hTz, hTs, hTb⟩ := info_parts infoT
  obtain ⟨iI, hIi, hIz, hIs, hIb⟩ := info_parts infoI
  obtain ⟨hn', hnk, hkm⟩ := SliceAt.len hg
  subst hn'
  obtain ⟨Ra, Rb, Rc, Rd, Re⟩ := newC name conns m gs
  have HB := Lib.hid (below_new w (.cells zA 43))
  have HK := Lib.hid (Blk.new w 43 zA)
  obtain ⟨b, hb⟩ : ∃ b, (IdW.identOk name && decide (name.size ≤ 20)) = b := ⟨_, rfl⟩
  have HN := Lib.hid (validName name (w.alloc (.cells zA 43)) hs hb)
  rw [hb] at Ra Rb Rc Rd Re
  have HGC : Hid (∀ W, Below w.heap.size w W → IntsAt W (.slice A gs.length k) gs) := fun W hb => hg.call hb
  clear hb hs hg
  generalize newR name conns m gs = R at *
  have RA := Lib.hid Ra
  have RB := Lib.hid Rb
  have RC := Lib.hid Rc
  have RD := Lib.hid Rd
  have RE := Lib.hid Re
  clear Ra Rb Rc Rd Re
  go_enter Tryz.func7, Tryz.ntmps7
  go_upto_region 1 with (refine wpList_allocSt rfl rfl ?_)
  generalize w.alloc (.cells zA 43) = w0 at *
  go_wp2_with fail
  refine HN.out.mono ?_
  rintro e w1 ⟨rfl, hb⟩
  have HB1 := Lib.hid (below_call HB.out hb)
  have HK1 := Lib.hid (HK.out.call hb)
  clear hb HB HK HN
  cases b
  case false =>
    have HV := Lib.hid (RA.out rfl)
    clear RA RB RC RD RE
    go_wp2_with (first
      | (refine wpList_buildTo rfl 43 #[] rfl (some 17) rfl zA (by kernel_rfl) ?_)
      | (refine wpList_store_rowTo rfl 43 (.tmp 8) (.tmp 17) rfl rfl w.heap.size zA (by kernel_rfl) (by kernel_rfl) 43 zA HK1.out (by kernel_rfl) (by kernel_rfl) (by kernel_rfl) ?_))
    refine bodyPost_ret (results_cell2 rfl _ _ w.heap.size 43 _ (0, 0) _ rfl (row_blk zA HK1.out) Tryz.underlying43 rfl (by kernel_rfl)) rfl ?_
    exact NPost.no HV.out (row_below _ HB1.out (Nat.le_refl _))
  replace RB := Lib.hid (RB.out rfl)
  replace RC := Lib.hid (RC.out rfl)
  replace RD := Lib.hid (RD.out rfl)
  replace RE := Lib.hid (RE.out rfl)
  clear RA
  by_cases c1 : conns < 1
  · have HV := Lib.hid (RB.out (.inl c1))
    clear RB RC RD RE
    go_wp2_with (first
      | (refine wpList_buildTo rfl 43 #[] rfl (some 24) rfl zA (by kernel_rfl) ?_)
      | (refine wpList_store_rowTo rfl 43 (.tmp 8) (.tmp 24) rfl rfl w.heap.size zA (by kernel_rfl) (by kernel_rfl) 43 zA HK1.out (by kernel_rfl) (by kernel_rfl) (by kernel_rfl) ?_))
    refine bodyPost_ret (results_cell2 rfl _ _ w.heap.size 43 _ (0, 0) _ rfl (row_blk zA HK1.out) Tryz.underlying43 rfl (by kernel_rfl)) rfl ?_
    exact NPost.no HV.out (row_below _ HB1.out (Nat.le_refl _))
  by_cases c2 : 8 < conns
  · have HV := Lib.hid (RB.out (.inr c2))
    clear RB RC RD RE
    go_wp2_with (first
      | (refine wpList_buildTo rfl 43 #[] rfl (some 24) rfl zA (by kernel_rfl) ?_)
      | (refine wpList_store_rowTo rfl 43 (.tmp 8) (.tmp 24) rfl rfl w.heap.size zA (by kernel_rfl) (by kernel_rfl) 43 zA HK1.out (by kernel_rfl) (by kernel_rfl) (by kernel_rfl) ?_))
    refine bodyPost_ret (results_cell2 rfl _ _ w.heap.size 43 _ (0, 0) _ rfl (row_blk zA HK1.out) Tryz.underlying43 rfl (by kernel_rfl)) rfl ?_
    exact NPost.no HV.out (row_below _ HB1.out (Nat.le_refl _))
  replace RC := Lib.hid (RC.out (by omega))
  replace RD := Lib.hid (RD.out (by omega))
  replace RE := Lib.hid (RE.out (by omega))
  clear RB
  by_cases c3 : (gs.length : Int) = conns
  case neg =>
    have c3z : ((gs.length : Int) != conns) = true := by simpa using c3
    have HV := Lib.hid (RC.out c3)
    clear RC RD RE
    go_wp2_with (first
      | (refine wpList_buildTo rfl 43 #[] rfl (some 29) rfl zA (by kernel_rfl) ?_)
      | (refine wpList_store_rowTo rfl 43 (.tmp 8) (.tmp 29) rfl rfl w.heap.size zA (by kernel_rfl) (by kernel_rfl) 43 zA HK1.out (by kernel_rfl) (by kernel_rfl) (by kernel_rfl) ?_))
    refine bodyPost_ret (results_cell2 rfl _ _ w.heap.size 43 _ (0, 0) _ rfl (row_blk zA HK1.out) Tryz.underlying43 rfl (by kernel_rfl)) rfl ?_
    exact NPost.no HV.out (row_below _ HB1.out (Nat.le_refl _))
  replace RD := Lib.hid (RD.out c3)
  replace RE := Lib.hid (RE.out c3)
  clear RC
  subst c3
  have hn1 : 1 ≤ gs.length := by omega
  have hn8 : gs.length ≤ 8 := by omega
  generalize hn : gs.length = n at *
  go_upto_region 7 with (fail)
  go_cut [10] (fun s10 wd => Hid (N7 w1.heap.size n name w1 s10 wd))
  case first =>
    refine Reg4.region 13 (fun W => Below w1.heap.size w1 W) (nΦ w1.heap.size n name) (by kernel_rfl) (by kernel_rfl) ?_ (Below.drew (Below.refl _ _)) ?_ ?_
    · exact Reg4.in_of (n := 101) (by kernel_rfl) rfl
    · intro idx o hj0 ho a' w' hG hop
      have hj' : idx = 0 ∨ idx = 1 ∨ idx = 2 ∨ idx = 3 ∨ idx = 4 ∨ idx = 5 ∨ idx = 6 ∨ idx = 7 ∨ idx = 8 ∨ idx = 9 ∨ idx = 10 ∨ idx = 11 ∨ idx = 12 := by omega
      have hsz := hG.size
      rcases hj' with rfl | rfl | rfl | rfl | rfl | rfl | rfl | rfl | rfl | rfl | rfl | rfl | rfl
      all_goals
        obtain rfl := Option.some.inj ho
        clear ho hj0
      · skip
        have h0 : a'.tmps[0]?.getD undef = .string name := (Array.getD_eq_getD_getElem? ..).symm.trans (hop 0 (by simp [Op.operands, Call.operands]))
        refine Reg4.StepOk.mono (R := fun v W => v = .string name ∧ W = w') ?_ (fun v W h => ?_)
        · go_simp
          all_goals (try exact ⟨rfl, rfl⟩)
        · obtain ⟨rfl, rfl⟩ := h
          exact ⟨hG, rfl, fun k u _ _ _ h => h⟩
      · skip
        have h1 : a'.tmps[1]?.getD undef = i (n : Int) := (Array.getD_eq_getD_getElem? ..).symm.trans (hop 1 (by simp [Op.operands, Call.operands]))
        refine Reg4.StepOk.mono (R := fun v W => v = i (n : Int) ∧ W = w') ?_ (fun v W h => ?_)
        · go_simp
          all_goals (try exact ⟨rfl, rfl⟩)
        · obtain ⟨rfl, rfl⟩ := h
          exact ⟨hG, rfl, fun k u _ _ _ h => h⟩
      · skip
        have h31 : a'.tmps[31]?.getD undef = i (n : Int) := (Array.getD_eq_getD_getElem? ..).symm.trans (hop 31 (by simp [Op.operands, Call.operands]))
        obtain ⟨w5, hrun, r1, r2⟩ := run_make_full (P := Tryz.prog) w' w1.heap.size 24 80 iC _ 5 Tryz.underlying24 hCi hCz hCs .i64 .i64 n (by rw [hCb]; omega) (by unfold maxLen; omega) hsz
        refine Reg4.StepOk.mono (R := fun v W => v = .slice (some ⟨w'.heap.size, 0, none⟩) n n ∧ W = w5) ?_ (fun v W h => ?_)
        · go_simp
          all_goals (try exact ⟨rfl, rfl⟩)
        · obtain ⟨rfl, rfl⟩ := h
          exact ⟨hG.trans (below_none' hsz r2), ⟨_, rfl, own_made (z := .agg #[i 0, .bool false, .bool false, .bool false, i 0]) (x := zCn) (by omega) rfl rfl r1⟩, fun k u _ _ _ h => nΦ_keep (below_none r2) k u h⟩
      · skip
        have h1 : a'.tmps[1]?.getD undef = i (n : Int) := (Array.getD_eq_getD_getElem? ..).symm.trans (hop 1 (by simp [Op.operands, Call.operands]))
        refine Reg4.StepOk.mono (R := fun v W => v = i (n : Int) ∧ W = w') ?_ (fun v W h => ?_)
        · go_simp
          all_goals (try exact ⟨rfl, rfl⟩)
        · obtain ⟨rfl, rfl⟩ := h
          exact ⟨hG, rfl, fun k u _ _ _ h => h⟩
      · skip
        have h33 : a'.tmps[33]?.getD undef = i (n : Int) := (Array.getD_eq_getD_getElem? ..).symm.trans (hop 33 (by simp [Op.operands, Call.operands]))
        obtain ⟨w5, hrun, r1, r2⟩ := run_make_full (P := Tryz.prog) w' w1.heap.size 25 82 iM _ 4 Tryz.underlying25 hMi hMz hMs .i64 .i64 n (by rw [hMb]; omega) (by unfold maxLen; omega) hsz
        refine Reg4.StepOk.mono (R := fun v W => v = .slice (some ⟨w'.heap.size, 0, none⟩) n n ∧ W = w5) ?_ (fun v W h => ?_)
        · go_simp
          all_goals (try exact ⟨rfl, rfl⟩)
        · obtain ⟨rfl, rfl⟩ := h
          exact ⟨hG.trans (below_none' hsz r2), ⟨_, rfl, own_made (z := .agg #[i 0, i 0, i 0, i 0]) (x := zMt) (by omega) rfl rfl r1⟩, fun k u _ _ _ h => nΦ_keep (below_none r2) k u h⟩
      · skip
        have h1 : a'.tmps[1]?.getD undef = i (n : Int) := (Array.getD_eq_getD_getElem? ..).symm.trans (hop 1 (by simp [Op.operands, Call.operands]))
        refine Reg4.StepOk.mono (R := fun v W => v = i (n : Int) ∧ W = w') ?_ (fun v W h => ?_)
        · go_simp
          all_goals (try exact ⟨rfl, rfl⟩)
        · obtain ⟨rfl, rfl⟩ := h
          exact ⟨hG, rfl, fun k u _ _ _ h => h⟩
      · skip
        have h35 : a'.tmps[35]?.getD undef = i (n : Int) := (Array.getD_eq_getD_getElem? ..).symm.trans (hop 35 (by simp [Op.operands, Call.operands]))
        obtain ⟨w5, hrun, r1, r2⟩ := run_make_full (P := Tryz.prog) w' w1.heap.size 26 54 iT _ 9 Tryz.underlying26 hTi hTz hTs .i64 .i64 n (by rw [hTb]; omega) (by unfold maxLen; omega) hsz
        refine Reg4.StepOk.mono (R := fun v W => v = .slice (some ⟨w'.heap.size, 0, none⟩) n n ∧ W = w5) ?_ (fun v W h => ?_)
        · go_simp
          all_goals (try exact ⟨rfl, rfl⟩)
        · obtain ⟨rfl, rfl⟩ := h
          exact ⟨hG.trans (below_none' hsz r2), ⟨_, rfl, own_made (z := .agg #[.string ⟨#[]⟩, i 0, .string ⟨#[]⟩, .string ⟨#[]⟩, i 0, i 0, .bool false, i 0, i 0]) (x := zTx) (by omega) rfl rfl r1⟩, fun k u _ _ _ h => nΦ_keep (below_none r2) k u h⟩
      · skip
        have h1 : a'.tmps[1]?.getD undef = i (n : Int) := (Array.getD_eq_getD_getElem? ..).symm.trans (hop 1 (by simp [Op.operands, Call.operands]))
        refine Reg4.StepOk.mono (R := fun v W => v = i (n : Int) ∧ W = w') ?_ (fun v W h => ?_)
        · go_simp
          all_goals (try exact ⟨rfl, rfl⟩)
        · obtain ⟨rfl, rfl⟩ := h
          exact ⟨hG, rfl, fun k u _ _ _ h => h⟩
      · skip
        have h37 : a'.tmps[37]?.getD undef = i (n : Int) := (Array.getD_eq_getD_getElem? ..).symm.trans (hop 37 (by simp [Op.operands, Call.operands]))
        obtain ⟨w5, hrun, r1, r2⟩ := run_make_full (P := Tryz.prog) w' w1.heap.size 22 3 iI _ 1 Tryz.underlying22 hIi hIz hIs .i64 .i64 n (by rw [hIb]; omega) (by unfold maxLen; omega) hsz
        refine Reg4.StepOk.mono (R := fun v W => v = .slice (some ⟨w'.heap.size, 0, none⟩) n n ∧ W = w5) ?_ (fun v W h => ?_)
        · go_simp
          all_goals (try exact ⟨rfl, rfl⟩)
        · obtain ⟨rfl, rfl⟩ := h
          exact ⟨hG.trans (below_none' hsz r2), ⟨_, rfl, own_made (z := .int .i64 0) (x := (0 : Int)) (by omega) rfl rfl r1⟩, fun k u _ _ _ h => nΦ_keep (below_none r2) k u h⟩
      · skip
        have h1 : a'.tmps[1]?.getD undef = i (n : Int) := (Array.getD_eq_getD_getElem? ..).symm.trans (hop 1 (by simp [Op.operands, Call.operands]))
        refine Reg4.StepOk.mono (R := fun v W => v = i (n : Int) ∧ W = w') ?_ (fun v W h => ?_)
        · go_simp
          all_goals (try exact ⟨rfl, rfl⟩)
        · obtain ⟨rfl, rfl⟩ := h
          exact ⟨hG, rfl, fun k u _ _ _ h => h⟩
      · skip
        have h39 : a'.tmps[39]?.getD undef = i (n : Int) := (Array.getD_eq_getD_getElem? ..).symm.trans (hop 39 (by simp [Op.operands, Call.operands]))
        obtain ⟨w5, hrun, r1, r2⟩ := run_make_full (P := Tryz.prog) w' w1.heap.size 22 3 iI _ 1 Tryz.underlying22 hIi hIz hIs .i64 .i64 n (by rw [hIb]; omega) (by unfold maxLen; omega) hsz
        refine Reg4.StepOk.mono (R := fun v W => v = .slice (some ⟨w'.heap.size, 0, none⟩) n n ∧ W = w5) ?_ (fun v W h => ?_)
        · go_simp
          all_goals (try exact ⟨rfl, rfl⟩)
        · obtain ⟨rfl, rfl⟩ := h
          exact ⟨hG.trans (below_none' hsz r2), ⟨_, rfl, own_made (z := .int .i64 0) (x := (0 : Int)) (by omega) rfl rfl r1⟩, fun k u _ _ _ h => nΦ_keep (below_none r2) k u h⟩
      · skip
        have h30 : a'.eval (.tmp 30) = .string name := hop 30 (by simp [Op.operands, Call.operands])
        obtain ⟨g32, h32, o32⟩ : MadeAt CnR 80 5 w1.heap.size n zCn w' (a'.eval (.tmp 32)) := hop 32 (by simp [Op.operands, Call.operands])
        rw [h32] at o32
        obtain ⟨g34, h34, o34⟩ : MadeAt MtR 82 4 w1.heap.size n zMt w' (a'.eval (.tmp 34)) := hop 34 (by simp [Op.operands, Call.operands])
        rw [h34] at o34
        obtain ⟨g36, h36, o36⟩ : MadeAt TxR 54 9 w1.heap.size n zTx w' (a'.eval (.tmp 36)) := hop 36 (by simp [Op.operands, Call.operands])
        rw [h36] at o36
        obtain ⟨g38, h38, o38⟩ : MadeAt InR 3 1 w1.heap.size n (0 : Int) w' (a'.eval (.tmp 38)) := hop 38 (by simp [Op.operands, Call.operands])
        rw [h38] at o38
        obtain ⟨g40, h40, o40⟩ : MadeAt InR 3 1 w1.heap.size n (0 : Int) w' (a'.eval (.tmp 40)) := hop 40 (by simp [Op.operands, Call.operands])
        rw [h40] at o40
        refine step_build rfl (nA name g32 g34 g36 g38 g40 n) (by simp [h30, h32, h34, h36, h38, h40]; kernel_rfl) ⟨hG, ⟨_, _, _, _, _, rfl, o32, o34, o36, o38, o40⟩, fun k u _ _ _ h => h⟩
      · skip
        exact step_run (v := .pointer (some ⟨w'.heap.size, 0, none⟩)) (w := w'.alloc (.cells zA 43)) (by kernel_rfl) ⟨hG.alloc hsz _, ⟨_, rfl, hsz, Blk.new w' _ _⟩, fun k u _ _ _ h => nΦ_keep (below_new w' _) k u h⟩
    · intro vals w' hG hΦ
      obtain ⟨gc, gm, gt, gl, gs', h11, o5⟩ : ∃ gc gm gt gl gs, vals 11 = .agg (nA name gc gm gt gl gs n) ∧ Fives w1.heap.size n gc gm gt gl gs (List.replicate n zCn) (List.replicate n zMt) w' := hΦ 11 (by omega)
      obtain ⟨g, h12, hgg, hkg⟩ : ∃ g, vals 12 = .pointer (some ⟨g, 0, none⟩) ∧ w1.heap.size ≤ g ∧ Blk w' g 43 zA := hΦ 12 (by omega)
      have hN : Hid (N7 w1.heap.size n name w1 (.pointer (some ⟨g, 0, none⟩)) (w'.setRow g (nA name gc gm gt gl gs' n))) := ⟨g, gc, gm, gt, gl, gs', rfl, hgg, row_blk _ hkg, o5.row hkg _, row_below _ hG hgg⟩
      have HKG := Lib.hid hkg
      simp only [Reg4.puts, Reg4.dstOf, List.range, List.range.loop, if_true, List.drop_succ_cons, List.drop_zero, h11, h12]
      clear hΦ hG h11 h12 o5 hkg hgg
      generalize vals 0 = z0, vals 1 = z1, vals 2 = z2, vals 3 = z3, vals 4 = z4, vals 5 = z5, vals 6 = z6, vals 7 = z7, vals 8 = z8, vals 9 = z9, vals 10 = z10
      simp [Act.put]
      refine wpList_store_rowTo rfl 43 (.tmp 10) (.tmp 41) rfl rfl g (nA name gc gm gt gl gs' n) (by kernel_rfl) (by kernel_rfl) 43 zA HKG.out (by kernel_rfl) (by kernel_rfl) (by kernel_rfl) ?_
      go_wp2_with fail
      go_meet
      exact hN.out
  case rest =>
  obtain ⟨g, gc, gm, gt, gl, gsh, rfl, hgg, hkg, h5, hbc⟩ := hcut.out
  have hBB := Nat.le_of_lt HK1.out.lt
  have hBL := HK1.out.lt
  have HN0 : Hid (NSt w w1.heap.size name g gc gm gt gl gsh n (cTo n 0) (mTo m gs 0) wc) := ⟨by rw [cTo_zero, mTo_zero, hn]; exact h5, hkg, HK1.out.call hbc, below_call HB1.out hbc⟩
  clear hcut hkg h5 hbc HB1 HK1
  have HGG := Lib.hid hgg
  have HLT8 := Lib.hid hBL
  have HBB := Lib.hid hBB
  clear hgg hBB hBL
  generalize w1.heap.size = gB at *
  generalize wc = wd at *
  go_wp2_with fail
  go_loopg [43] n (fun gg s43 wr => ∃ kk : Nat, kk ≤ n ∧ n - kk ≤ gg ∧ s43 = i kk ∧ Hid (NSt w gB name g gc gm gt gl gsh n (cTo n kk) (mTo m gs kk) wr) ∧ Hid (∀ x, x ∈ gs.take kk → mtE ⟨0, m, 0, x⟩ = 0))
  case atStart => exact ⟨0, Nat.zero_le _, by omega, rfl, HN0.out, fun x hx => by simp at hx⟩
  case round =>
    obtain ⟨kk, hkk, hg, rfl, HS, HA⟩ := hrel
    by_cases hlt : kk < n
    · have hltz : (kk : Int) < (n : Int) := by omega
      have hk0 : (0 : Int) ≤ (kk : Int) := by omega
      have hltg : kk < gs.length := by omega
      have HCS := Lib.hid (cTo_succ hlt)
      have HMS := Lib.hid (mTo_succ (m := m) hltg)
      have HMA := Lib.hid (mTo_at (m := m) hltg)
      have HTK := Lib.hid (List.take_succ_eq_append_getElem hltg)
      have HIN := Lib.hid (List.getElem_mem hltg)
      have hcl := cTo_len hkk
      have hml : (mTo m gs kk).length = n := by rw [mTo_len (by omega)]; exact hn
      obtain ⟨gb, go, rfl, hgrow⟩ := IntsAt.at_ (HGC.out w (Below.refl _ _)) hltg
      have HGR := Lib.hid (fun W (hb : Below w.heap.size w W) => hgrow W (Kept.of hb))
      clear hgrow
      generalize gs[kk] = y at *
      go_upto_region 11 with (fail)
      go_cut [] (fun wd => Hid (NSt w gB name g gc gm gt gl gsh n (cTo n (kk + 1)) (mTo m gs kk) wd))
      case first =>
        have k6 : wr.cell? ⟨g, 6, none⟩ = some (.slice (some ⟨gc, 0, none⟩) n n) := HS.out.kg.cell 6
        obtain ⟨⟨u0, t0⟩, f0⟩ := HS.out.f.1.there (j := kk) (o := 0) hcl.symm (by omega) (by omega)
        obtain ⟨⟨u1, t1⟩, f1⟩ := HS.out.f.1.there (j := kk) (o := 1) hcl.symm (by omega) (by omega)
        obtain ⟨⟨u2, t2⟩, f2⟩ := HS.out.f.1.there (j := kk) (o := 2) hcl.symm (by omega) (by omega)
        obtain ⟨⟨u3, t3⟩, f3⟩ := HS.out.f.1.there (j := kk) (o := 3) hcl.symm (by omega) (by omega)
        obtain ⟨⟨u4, t4⟩, f4⟩ := HS.out.f.1.there (j := kk) (o := 4) hcl.symm (by omega) (by omega)
        rw [Nat.add_zero] at t0 f0
        have HP := Lib.hid (HS.out.putC HBB.out hcl hlt)
        rw [HCS.out, putCells5] at HP
        go_wp2_with fail
        go_meet
        exact HP.out
      case rest =>
      have HS1 := Lib.hid hcut.out
      clear hcut HS
      generalize wc = we at *
      go_upto_region 12 with (fail)
      go_cut [] (fun wd => Hid (NSt w gB name g gc gm gt gl gsh n (cTo n (kk + 1)) (mTo m gs (kk + 1)) wd))
      case first =>
        have k7 : we.cell? ⟨g, 7, none⟩ = some (.slice (some ⟨gm, 0, none⟩) n n) := HS1.out.kg.cell 7
        have ky := HGR.out we HS1.out.hb
        obtain ⟨⟨u0, t0⟩, f0⟩ := HS1.out.f.2.1.there (j := kk) (o := 0) hml.symm (by omega) (by omega)
        obtain ⟨⟨u1, t1⟩, f1⟩ := HS1.out.f.2.1.there (j := kk) (o := 1) hml.symm (by omega) (by omega)
        obtain ⟨⟨u2, t2⟩, f2⟩ := HS1.out.f.2.1.there (j := kk) (o := 2) hml.symm (by omega) (by omega)
        obtain ⟨⟨u3, t3⟩, f3⟩ := HS1.out.f.2.1.there (j := kk) (o := 3) hml.symm (by omega) (by omega)
        rw [Nat.add_zero] at t0 f0
        have HP := Lib.hid (HS1.out.putM m y HBB.out hml hlt)
        rw [HMS.out, putCells4] at HP
        go_region
        all_goals go_wp2_with fail
        all_goals go_meet
        all_goals exact HP.out.drew
      case rest =>
      have HS2 := Lib.hid hcut.out
      clear hcut HS1
      generalize wc = wf at *
      have k7 : wf.cell? ⟨g, 7, none⟩ = some (.slice (some ⟨gm, 0, none⟩) n n) := HS2.out.kg.cell 7
      have hml1 : (mTo m gs (kk + 1)).length = n := by rw [mTo_len (by omega)]; exact hn
      obtain ⟨mb, mo, he, hmrow⟩ := MtsAt.at_ (xs := mTo m gs (kk + 1)) (HS2.out.f.2.1.at_ (by omega)) (j := kk) (by omega)
      obtain ⟨rfl, rfl⟩ : gm = mb ∧ 0 = mo := by simpa using he
      obtain ⟨l0, l1, l2, l3⟩ := hmrow wf (Kept.refl _)
      rw [HMA.out] at l0 l1 l2 l3
      simp only [Nat.zero_add] at l0 l1 l2 l3
      clear hmrow he
      have HMV := Lib.hid (meterValid ⟨0, m, 0, y⟩ wf)
      go_wp2_with fail
      refine HMV.out.mono ?_
      rintro e wh ⟨rfl, hbw⟩
      have HS3 := Lib.hid (HS2.out.call hbw)
      clear hbw k7 l0 l1 l2 l3 HMV HS2
      rcases mtE_01 ⟨0, m, 0, y⟩ with ⟨he0, -⟩ | ⟨he1, -⟩
      · rw [he0]
        have HE0 := Lib.hid he0
        clear he0
        go_wp2_with fail
        go_roundg (n - (kk + 1))
        case measure => omega
        case rel =>
          refine ⟨kk + 1, by omega, by omega, by go_num, HS3, fun x hx => ?_⟩
          rw [HTK.out] at hx
          rcases List.mem_append.1 hx with hx | hx
          · exact HA.out x hx
          · obtain rfl : x = y := by simpa using hx
            exact HE0.out
      · have HV := Lib.hid (RD.out ⟨y, HIN.out, by rw [he1]; decide⟩)
        have HB8 := Lib.hid HS3.out.hb
        have HK8 := Lib.hid HS3.out.k8
        rw [he1]
        clear he1
        go_wp2_with (first
          | (refine wpList_buildTo rfl 43 #[] rfl (some 69) rfl zA (by kernel_rfl) ?_)
          | (refine wpList_store_rowTo rfl 43 (.tmp 8) (.tmp 69) rfl rfl w.heap.size zA (by kernel_rfl) (by kernel_rfl) 43 zA HK8.out (by kernel_rfl) (by kernel_rfl) (by kernel_rfl) ?_))
        refine bodyPost_ret (results_cell2 rfl _ _ w.heap.size 43 _ (0, 0) _ rfl (row_blk zA HK8.out) Tryz.underlying43 rfl (by kernel_rfl)) rfl ?_
        exact NPost.no HV.out (row_below _ HB8.out (Nat.le_refl _))
    · have hltz : ¬ (kk : Int) < (n : Int) := by omega
      have hke : kk = n := by omega
      subst hke
      have HT0 : Hid (TSt w gB g gc gm gt gl gsh kk (List.replicate kk av) (gs.map (fun x => ⟨0, m, 0, x⟩)) (nA name gc gm gt gl gsh kk) wr) := by
        have hf := HS.out.f
        rw [cTo_all, show mTo m gs kk = gs.map (fun x => ⟨0, m, 0, x⟩) from by rw [← hn]; exact mTo_all m gs] at hf
        exact ⟨hf, HS.out.kg, HS.out.k8, HS.out.hb⟩
      have HRE : Hid (R = (fresh name gs m, 0)) := RE.out (by have := HA.out; rw [← hn, List.take_length] at this; exact this)
      have HLG : Hid (w.heap.size < g) := by
        show _ < _
        have h1 := HLT8.out
        have h2 := HGG.out
        omega
      clear HS HA RD RE HGC HN0
      have HON := Lib.hid (outNew wr)
      go_upto_region 18 with (fail)
      go_cut [13] (fun s13 wd => s13 = i 0 ∧ Hid (TSt w gB g gc gm gt gl gsh kk (List.replicate kk av) (gs.map (fun x => ⟨0, m, 0, x⟩)) (nA1 name gc gm gt gl gsh kk) wd))
      case first =>
        go_wp2_with fail
        refine HON.out.mono ?_
        rintro e wa ⟨rfl, hba⟩
        have HTa := Lib.hid (HT0.out.call hba)
        have kc := HTa.out.kg.cell
        have fz := HTa.out.kg.frozen
        have HP := Lib.hid (HTa.out.put (cs' := nA1 name gc gm gt gl gsh kk) HLG.out 14 [i 64, .slice none 0 0, i 0] (blkP1 HTa.out.kg))
        clear hba HTa
        go_wp2_with fail
        go_meet
        exact ⟨rfl, HP.out⟩
      case rest =>
      obtain ⟨rfl, hT1⟩ := hcut
      have HT1 := Lib.hid hT1.out
      clear hT1 HT0 HON
      generalize wc = wA at *
      have HCN := Lib.hid (callNew wA)
      go_upto_region 21 with (fail)
      go_cut [13] (fun s13 wd => s13 = i 0 ∧ Hid (TSt w gB g gc gm gt gl gsh kk (List.replicate kk av) (gs.map (fun x => ⟨0, m, 0, x⟩)) (nA2 name gc gm gt gl gsh kk) wd))
      case first =>
        go_wp2_with fail
        refine HCN.out.mono ?_
        rintro e wa ⟨rfl, hba⟩
        have HTa := Lib.hid (HT1.out.call hba)
        have kc := HTa.out.kg.cell
        have fz := HTa.out.kg.frozen
        have HP := Lib.hid (HTa.out.put (cs' := nA2 name gc gm gt gl gsh kk) HLG.out 17 [i 1, i 3, i 2, .slice none 0 0, .slice none 0 0, i 0, i 0, .slice none 0 0] (blkP2 HTa.out.kg))
        clear hba HTa
        go_wp2_with fail
        go_meet
        exact ⟨rfl, HP.out⟩
      case rest =>
      obtain ⟨rfl, hT2⟩ := hcut
      have HT2 := Lib.hid hT2.out
      clear hT2 HT1 HCN
      generalize wc = wB at *
      have HSN := Lib.hid (safeNew kk wB hn1 hn8)
      go_upto_region 24 with (fail)
      go_cut [13] (fun s13 wd => s13 = i 0 ∧ Hid (∃ q, TSt w gB g gc gm gt gl gsh kk (List.replicate kk av) (gs.map (fun x => ⟨0, m, 0, x⟩)) (nA3 name gc gm gt gl gsh kk q) wd ∧ Own InR 3 1 wB.heap.size wd (.slice (some ⟨q, 0, none⟩) kk kk) (List.replicate kk 0)))
      case first =>
        go_wp2_with fail
        refine HSN.out.mono ?_
        rintro e wa ⟨q, rfl, hoq, hba⟩
        have HTa := Lib.hid (HT2.out.call hba)
        have kc := HTa.out.kg.cell
        have fz := HTa.out.kg.frozen
        have HP := Lib.hid (HTa.out.put (cs' := nA3 name gc gm gt gl gsh kk q) HLG.out 30 [i 0, i 30, i 2000, .slice (some ⟨q, 0, none⟩) kk kk] (blkP3 HTa.out.kg))
        have HO := Lib.hid (own_key (by decide) HTa.out.kg (put_grown [i 0, i 30, i 2000, .slice (some ⟨q, 0, none⟩) kk kk] wa g 30) hoq)
        clear hba HTa hoq
        go_wp2_with fail
        go_meet
        exact ⟨rfl, q, HP.out, HO.out⟩
      case rest =>
      obtain ⟨rfl, hT3⟩ := hcut
      obtain ⟨q, hT3, hoq⟩ := hT3.out
      have HT3 := Lib.hid hT3
      have HOQ := Lib.hid hoq
      clear hT3 hoq HT2 HSN
      generalize wc = wC at *
      go_upto_region 27 with (fail)
      go_wp2_with (first
        | (refine wpList_load_row rfl 43 (.tmp 10) rfl g rfl 43 (nA3 name gc gm gt gl gsh kk q) (0, 0) _ HT3.out.kg Tryz.underlying43 rfl (by kernel_rfl) ?_)
        | (refine wpList_store_rowTo rfl 43 (.tmp 8) (.tmp 100) rfl rfl w.heap.size (nA3 name gc gm gt gl gsh kk q) (by kernel_rfl) (by kernel_rfl) 43 zA HT3.out.k8 (by kernel_rfl) (by kernel_rfl) (by kernel_rfl) ?_))
      refine bodyPost_ret (results_cell2 rfl _ _ w.heap.size 43 _ (0, 0) _ rfl (row_blk (nA3 name gc gm gt gl gsh kk q) HT3.out.k8) Tryz.underlying43 rfl (by kernel_rfl)) rfl ?_
      have hf := HT3.out.f.row HT3.out.k8 (nA3 name gc gm gt gl gsh kk q)
      have ho := own_key (by decide) HT3.out.k8 (row_grown wC w.heap.size (nA3 name gc gm gt gl gsh kk q)) HOQ.out
      subst hn
      rw [HRE.out]
      exact ⟨sl5 gc gm gt gl gsh gs.length (.slice (some ⟨q, 0, none⟩) gs.length gs.length), rfl, fresh_at hf ho, row_below _ HT3.out.hb (Nat.le_refl _)⟩
end Stn
end Go.Proofs.YtfaofobhmmedmaaGreatDoor
