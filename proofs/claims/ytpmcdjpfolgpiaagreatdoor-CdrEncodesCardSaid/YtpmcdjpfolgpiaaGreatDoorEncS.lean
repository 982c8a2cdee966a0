/-
  The walks of the reference's fields of a record, and of its Encode.
-/
import Derived.Test.YtpmcdjpfolgpiaaGreatDoorEncR
import Derived.Test.YtpmcdjpfolgpiaaGreatDoorCdrT
namespace Go.Proofs.YtpmcdjpfolgpiaaGreatDoor
namespace EncW
set_option linter.unusedSimpArgs false
set_option linter.unusedVariables false
open Go.RowKit MonW Enc Cdr

section
variable {base m i : Nat} {w0 W W' : World} {cl : List Nat} {v0 v : Value} {l0 : List Fld} {K : Nat → Option Value} {F : Nat → List Fld} {nx : Nat → Option Nat} {X : Nat → Option (Value → World → Prop)} {L : Nat → Bool} {ops : Array Oper}
/-- The state of a drawn region that holds a chain of calls, each of which makes the list longer that the one before it returned. -/
def chG (base : Nat) (w0 : World) (cl : List Nat) (v0 : Value) (l0 : List Fld) (L : Nat → Bool) (W : World) : Prop :=
  Below base w0 W ∧ (∀ j ∈ cl, ∀ q ∈ cl, q < j → L j = true → L q = true) ∧ ((∀ j ∈ cl, L j = false) → OwnF base W v0 l0)
def chC (base : Nat) (K : Nat → Option Value) (F : Nat → List Fld) (nx : Nat → Option Nat) (X : Nat → Option (Value → World → Prop)) (L : Nat → Bool) (k : Nat) (v : Value) (W : World) : Prop :=
  match X k with
  | some p => p v W
  | none => match K k with
    | some c => v = c
    | none => IsSl v ∧ ((∀ q, nx k = some q → L q = false) → OwnF base W v (F k))
def chΦ (base : Nat) (K : Nat → Option Value) (F : Nat → List Fld) (nx : Nat → Option Nat) (X : Nat → Option (Value → World → Prop)) (L : Nat → Bool) (k : Nat) (v : Value) (W : World) : Prop := L k = true ∧ chC base K F nx X L k v W
abbrev setL (L : Nat → Bool) (i : Nat) : Nat → Bool := fun k => if k = i then true else L k
theorem setL_le {j : Nat} (h : setL L i j = false) : L j = false := by
  unfold setL at h
  split at h
  · cases h
  · exact h
theorem setL_up {j : Nat} (h : L j = true) : setL L i j = true := by
  unfold setL
  split
  · rfl
  · exact h
theorem chC_weak {k : Nat} (h : chC base K F nx X L k v W) : chC base K F nx X (setL L i) k v W := by
  unfold chC at h ⊢
  cases hX : X k with
  | some p => simp only [hX] at h ⊢; exact h
  | none =>
    simp only [hX] at h ⊢
    cases hK : K k with
    | some c => simp only [hK] at h ⊢; exact h
    | none => simp only [hK] at h ⊢; exact ⟨h.1, fun hq => h.2 (fun q e => setL_le (hq q e))⟩
theorem ch_read (hG : chG base w0 cl v0 l0 L W) (hi : i ∉ cl) (hc : chC base K F nx X (setL L i) i v W) :
    chG base w0 cl v0 l0 (fun k => if k = i then true else L k) W ∧ chΦ base K F nx X (fun k => if k = i then true else L k) i v W ∧ ∀ k u, k < m → k ≠ i → L k = true → Reg4.reaches ops ops.size k i = false → chΦ base K F nx X L k u W → chΦ base K F nx X (fun k => if k = i then true else L k) k u W :=
  ⟨⟨hG.1, fun j hj q hq h1 h2 => setL_up (hG.2.1 j hj q hq h1 (by have : j ≠ i := fun e => hi (e ▸ hj); simpa [this] using h2)), fun h => hG.2.2 (fun j hj => setL_le (h j hj))⟩, ⟨by simp, hc⟩, fun k u _ _ _ _ h => ⟨setL_up h.1, chC_weak h.2⟩⟩
theorem ch_call (hG : chG base w0 cl v0 l0 L W) (hi : i ∈ cl) (hp : ∀ q ∈ cl, q < i → L q = true) (hb : Below base W W') (hc : chC base K F nx X (setL L i) i v W')
    (hall : (List.range m).all (fun k => k == i || ((X k).isNone && (K k).isSome) || ((X k).isNone && (match nx k with | some q => q == i || (cl.contains q && decide (q < i)) | none => false)) || Reg4.reaches ops ops.size k i) = true) :
    chG base w0 cl v0 l0 (fun k => if k = i then true else L k) W' ∧ chΦ base K F nx X (fun k => if k = i then true else L k) i v W' ∧ ∀ k u, k < m → k ≠ i → L k = true → Reg4.reaches ops ops.size k i = false → chΦ base K F nx X L k u W → chΦ base K F nx X (fun k => if k = i then true else L k) k u W' := by
  refine ⟨⟨hG.1.trans hb, ?_, fun h => ?_⟩, ⟨by simp, hc⟩, fun k u hk hne _ hr h => ⟨setL_up h.1, ?_⟩⟩
  · intro j hj q hq hlt h2
    by_cases e : j = i
    · subst e; exact setL_up (hp q hq hlt)
    · exact setL_up (hG.2.1 j hj q hq hlt (by simpa [e] using h2))
  · have := h i hi; simp at this
  · have h1 := List.all_eq_true.1 hall k (List.mem_range.2 hk)
    have hcc := h.2
    unfold chC at hcc ⊢
    cases hX : X k with
    | some p => simp [hX, hne, hr] at h1
    | none =>
      simp only [hX] at hcc ⊢
      cases hK : K k with
      | some c => simp only [hK] at hcc ⊢; exact hcc
      | none =>
        simp only [hK] at hcc ⊢
        refine ⟨hcc.1, fun hq => ?_⟩
        exfalso
        cases hn : nx k with
        | none => simp [hX, hK, hn, hne, hr] at h1
        | some q =>
          have hf := hq q hn
          have h3 : q = i ∨ (q ∈ cl ∧ q < i) := by simpa [hX, hK, hn, hne, hr] using h1
          rcases h3 with rfl | ⟨a, b⟩
          · simp at hf
          · have := setL_up (i := i) (hp q a b)
            rw [show setL L i q = false from hf] at this
            cases this
theorem hp_of {p : Nat} (hG : chG base w0 cl v0 l0 L W) (h1 : L p = true) (h2 : p ∈ cl) (h3 : ∀ q ∈ cl, q < i → q ≤ p) : ∀ q ∈ cl, q < i → L q = true := by
  intro q hq h
  rcases Nat.lt_or_eq_of_le (h3 q hq h) with h | h
  · exact hG.2.1 p h2 q hq h h1
  · subst h; exact h1
theorem ch_none {q1 : Nat} (hG : chG base w0 cl v0 l0 L W) (h1 : L q1 = false) (h2 : q1 ∈ cl) (h3 : ∀ j ∈ cl, q1 ≤ j) : OwnF base W v0 l0 := by
  refine hG.2.2 (fun j hj => ?_)
  cases hL : L j with
  | false => rfl
  | true =>
    rcases Nat.lt_or_eq_of_le (h3 j hj) with h | h
    · rw [hG.2.1 j hj q1 h2 h hL] at h1; cases h1
    · subst h; rw [hL] at h1; cases h1
end

/-- The lists of fields, step by step. -/
structure Stg (c : CDR) (L1 L2 L3 L4 L5 L6 L7 L8 L9 L10 L11 L12 L13 L14 : List Fld) : Prop where
  e1 : addF [] 1 (strB c.id) = L1
  e2 : addF L1 2 (strB c.oper) = L2
  e3 : addF L2 3 (strB c.prov) = L3
  e4 : addF L3 4 (strB c.sess) = L4
  e5 : addN L4 5 c.ver = L5
  e6 : addN L5 6 c.start = L6
  e7 : addN L6 7 c.stop = L7
  e8 : addN L7 8 c.en = L8
  e9 : addF L8 9 (strB c.tar) = L9
  e10 : addF L9 10 (strB c.cur) = L10
  e11 : addI L10 11 c.items = L11
  e12 : addN L11 12 c.total = L12
  e13 : addC L12 c.credit = L13
  e14 : addF L13 14 (strB c.ref) = L14
  t1 : OkT L1 1 1
  t2 : OkT L2 2 2
  t3 : OkT L3 3 3
  t4 : OkT L4 4 4
  t5 : OkT L5 5 5
  t6 : OkT L6 6 6
  t7 : OkT L7 7 7
  t8 : OkT L8 8 8
  t9 : OkT L9 9 9
  t10 : OkT L10 10 10
  t11 : OkT L11 11 11
  t12 : OkT L12 12 12
  t13 : OkT L13 13 13
  t14 : OkT L14 14 14
  all : recF c = L14
theorem stg (c : CDR) (ho : c.ok) (hs : ShortS c) (hn : c.items.length ≤ 32) (hio : ∀ x ∈ c.items, x.ok) : ∃ L1 L2 L3 L4 L5 L6 L7 L8 L9 L10 L11 L12 L13 L14, Stg c L1 L2 L3 L4 L5 L6 L7 L8 L9 L10 L11 L12 L13 L14 := by
  obtain ⟨z1, z2, z3, z4, z5, z6, z7⟩ := hs
  have t0 := OkT.nil
  obtain ⟨L1, e1⟩ : ∃ x, addF [] 1 (strB c.id) = x := ⟨_, rfl⟩
  have t1 : OkT (addF [] 1 (strB c.id)) 1 1 := (t0.add (by omega) (by omega) (by omega) (by omega) (by rw [strB_len]; omega))
  rw [e1] at t1
  obtain ⟨L2, e2⟩ : ∃ x, addF L1 2 (strB c.oper) = x := ⟨_, rfl⟩
  have t2 : OkT (addF L1 2 (strB c.oper)) 2 2 := (t1.add (by omega) (by omega) (by omega) (by omega) (by rw [strB_len]; omega))
  rw [e2] at t2
  obtain ⟨L3, e3⟩ : ∃ x, addF L2 3 (strB c.prov) = x := ⟨_, rfl⟩
  have t3 : OkT (addF L2 3 (strB c.prov)) 3 3 := (t2.add (by omega) (by omega) (by omega) (by omega) (by rw [strB_len]; omega))
  rw [e3] at t3
  obtain ⟨L4, e4⟩ : ∃ x, addF L3 4 (strB c.sess) = x := ⟨_, rfl⟩
  have t4 : OkT (addF L3 4 (strB c.sess)) 4 4 := (t3.add (by omega) (by omega) (by omega) (by omega) (by rw [strB_len]; omega))
  rw [e4] at t4
  obtain ⟨L5, e5⟩ : ∃ x, addN L4 5 c.ver = x := ⟨_, rfl⟩
  have t5 : OkT (addN L4 5 c.ver) 5 5 := (t4.addN (by omega) (by omega) (by omega) (by omega) ho.n1)
  rw [e5] at t5
  obtain ⟨L6, e6⟩ : ∃ x, addN L5 6 c.start = x := ⟨_, rfl⟩
  have t6 : OkT (addN L5 6 c.start) 6 6 := (t5.addN (by omega) (by omega) (by omega) (by omega) ho.n2)
  rw [e6] at t6
  obtain ⟨L7, e7⟩ : ∃ x, addN L6 7 c.stop = x := ⟨_, rfl⟩
  have t7 : OkT (addN L6 7 c.stop) 7 7 := (t6.addN (by omega) (by omega) (by omega) (by omega) ho.n3)
  rw [e7] at t7
  obtain ⟨L8, e8⟩ : ∃ x, addN L7 8 c.en = x := ⟨_, rfl⟩
  have t8 : OkT (addN L7 8 c.en) 8 8 := (t7.addN (by omega) (by omega) (by omega) (by omega) ho.n4)
  rw [e8] at t8
  obtain ⟨L9, e9⟩ : ∃ x, addF L8 9 (strB c.tar) = x := ⟨_, rfl⟩
  have t9 : OkT (addF L8 9 (strB c.tar)) 9 9 := (t8.add (by omega) (by omega) (by omega) (by omega) (by rw [strB_len]; omega))
  rw [e9] at t9
  obtain ⟨L10, e10⟩ : ∃ x, addF L9 10 (strB c.cur) = x := ⟨_, rfl⟩
  have t10 : OkT (addF L9 10 (strB c.cur)) 10 10 := (t9.add (by omega) (by omega) (by omega) (by omega) (by rw [strB_len]; omega))
  rw [e10] at t10
  obtain ⟨L11, e11⟩ : ∃ x, addI L10 11 c.items = x := ⟨_, rfl⟩
  have t11 : OkT (addI L10 11 c.items) 11 11 := (t10.addI (by omega) (by omega) (by omega) (by omega) hio hn)
  rw [e11] at t11
  obtain ⟨L12, e12⟩ : ∃ x, addN L11 12 c.total = x := ⟨_, rfl⟩
  have t12 : OkT (addN L11 12 c.total) 12 12 := (t11.addN (by omega) (by omega) (by omega) (by omega) ho.n5)
  rw [e12] at t12
  obtain ⟨L13, e13⟩ : ∃ x, addC L12 c.credit = x := ⟨_, rfl⟩
  have t13 : OkT (addC L12 c.credit) 13 13 := (t12.addC (by omega))
  rw [e13] at t13
  obtain ⟨L14, e14⟩ : ∃ x, addF L13 14 (strB c.ref) = x := ⟨_, rfl⟩
  have t14 : OkT (addF L13 14 (strB c.ref)) 14 14 := (t13.add (by omega) (by omega) (by omega) (by omega) (by rw [strB_len]; omega))
  rw [e14] at t14
  refine ⟨L1, L2, L3, L4, L5, L6, L7, L8, L9, L10, L11, L12, L13, L14, e1, e2, e3, e4, e5, e6, e7, e8, e9, e10, e11, e12, e13, e14, t1, t2, t3, t4, t5, t6, t7, t8, t9, t10, t11, t12, t13, t14, ?_⟩
  subst e1 e2 e3 e4 e5 e6 e7 e8 e9 e10 e11 e12 e13 e14
  rfl

def FP (base : Nat) (w0 : World) (l : List Fld) (v : Value) (W : World) : Prop := IsSl v ∧ OwnF base W v l ∧ Below base w0 W

abbrev OwnN (base : Nat) (w : World) (v : Value) (xs : List Int) : Prop := Own MonW.IntR 3 1 base w v xs
theorem infoN : (Tryz.prog.info? 3).map (fun i => (i.zero, i.size, i.bytes)) = some (some (.int .i64 0), 1, 8) := by kernel_rfl
theorem rows_n {xs : List Int} (h : ∀ x ∈ xs, I64 x) : RowsOf MonW.IntR 1 (xs.map (fun x => [Value.int .i64 x])) xs := by
  refine ⟨by simp, fun j r x h1 h2 => ?_⟩
  rw [List.getElem?_map, h2] at h1
  obtain rfl : [Value.int .i64 x] = r := by simpa using h1
  exact ⟨rfl, rfl, h x (List.mem_of_getElem? h2)⟩
theorem flat_n : ∀ (xs : List Int), (xs.map (fun x => [Value.int .i64 x])).flatten = xs.map (Value.int .i64)
  | [] => rfl
  | x :: xs => by rw [List.map_cons, List.flatten_cons, flat_n xs]; rfl
/-- 'n = append(n, x, y, ..)'. -/
theorem wpList_nums {P : Program} {ops : Array Oper} {rest : List Oper} {o : Oper} {a : Act} {w : World} {Q : Exit → Act → World → Prop} (hgd : o.guard = none) (s x : Operand) (t : TypeId)
    (ho : o.op = .call { callee := .builtin .append, args := #[s, x], argTypes := #[t, t] })
    (i : TypeInfo) (z : Value) (ht : P.underlying t = some (.slice 3)) (hi : P.info? 3 = some i) (hz : i.zero = some z)
    (hsize : i.size = 1) (hby : i.bytes = 8) (hzs : z.cells.size = 1) {base : Nat} {v : Value} {xs d : List Int} (hs : a.eval s = v) (hown : OwnN base w v xs) (g : Nat) (r : Array Value) (tt : TypeId) (n : Nat) (hx : a.eval x = .slice (some ⟨g, 0, none⟩) n n) (hblk : Blk w g tt r) (hl : d.length = n) (hr : r.toList = d.map (Value.int .i64)) (hd : ∀ x ∈ d, I64 x) (hn : xs.length + d.length ≤ 16777216) (hbase : base ≤ w.heap.size)
    (h : ∀ v' w', OwnN base w' v' (xs ++ d) → Below base w w' → IsSl v' → wpList P ops Q rest (a.put o.dst v') w') : wpList P ops Q (o :: rest) a w := by
  obtain ⟨rs, k1, k2⟩ := hown
  subst hl
  refine wpList_append_own w hgd s x t ho base 3 i z 1 8 ht hi hz hsize hby hzs (by omega) v xs.length rs.flatten hs k1 ⟨g, 0, none⟩ d.length d.length (d.map (Value.int .i64)) hx (by simp) ?_ ?_ (by unfold maxLen; omega) (by omega) hbase ?_
  · intro j u hu
    rw [← hr] at hu
    exact blk_cells hblk j u hu
  · intro u hu
    obtain ⟨y, _, rfl⟩ := List.mem_map.1 hu
    rfl
  · intro v' w' ho hg _
    refine h v' w' ⟨rs ++ d.map (fun x => [Value.int .i64 x]), ?_, rows_append k2 (rows_n hd)⟩ ((Below.refl _ _).grown hg hbase (fun k hk => (k1.lt k hk).1)) ?_
    · rw [List.flatten_append, flat_n]
      simpa using ho
    · rcases ho.2 with ⟨h0, _⟩ | ⟨g', cap, cur, h0, _⟩
      · exact ⟨_, _, _, h0⟩
      · exact ⟨_, _, _, h0⟩
theorem nums_succ {its : List Itm} {k : Nat} (h : k < its.length) : nums (its.take (k + 1)) = nums (its.take k) ++ itN its[k] := by
  unfold nums
  rw [List.take_succ_eq_append_getElem h, List.flatMap_append]
  simp

set_option maxRecDepth 100000 in
set_option maxHeartbeats 4000000 in
theorem rfields (c : CDR) (A : Option Addr) (n k : Nat) (w : World) (ho : c.ok) (hi : ItmsAt w (.slice A n k) c.items) (hs : ShortS c) (hn : c.items.length ≤ 32) (hio : ∀ x ∈ c.items, x.ok) :
    Calls Tryz.prog 42 #[.agg (cdrA c (.slice A n k))] w fun e w' => ∃ u, e = .returned (.tuple #[u, i 0]) ∧ IsSl u ∧ OwnB w.heap.size w' u (putF (recF c)) ∧ Below w.heap.size w w' := by
  obtain ⟨L1, L2, L3, L4, L5, L6, L7, L8, L9, L10, L11, L12, L13, L14, hS⟩ := stg c ho hs hn hio
  rw [hS.all]
  obtain ⟨z1, z2, z3, z4, z5, z6, z7⟩ := hs
  have HB0 := Lib.hid (below_new w (.cells (cdrA c (.slice A n k)) 24))
  have HK0 := Lib.hid (cdr_new w c (.slice A n k))
  have HI0 := Lib.hid (ItmsAt.call hi (below_new w (.cells (cdrA c (.slice A n k)) 24)))
  have HLT : Hid (w.heap.size < (w.alloc (.cells (cdrA c (.slice A n k)) 24)).heap.size) := HK0.out.lt
  have HLE : Hid (w.heap.size ≤ (w.alloc (.cells (cdrA c (.slice A n k)) 24)).heap.size) := Nat.le_of_lt HLT.out
  have hnk : c.items.length = n := by
    obtain ⟨A', c', e, _⟩ := SliceAt.form hi
    injection e with e1 e2 e3
    exact e2.symm
  obtain ⟨gB, hgB⟩ : ∃ g, (w.alloc (.cells (cdrA c (.slice A n k)) 24)).heap.size = g := ⟨_, rfl⟩
  rw [hgB] at HLT HLE
  have HGB := Lib.hid hgB
  clear hgB
  have H1 : Hid (∀ W, gB ≤ W.heap.size → Calls Tryz.prog 61 #[.slice none 0 0, i 1, .string c.id] W (FPost gB L1 W)) := fun W hs => by
    have := rtext gB (.slice none 0 0) [] 1 c.id W Own.nil hs (by simp) (by omega)
    rw [show addF [] 1 (strB c.id) = L1 from hS.e1] at this
    exact this
  have H2 : Hid (∀ W v, gB ≤ W.heap.size → OwnF gB W v L1 → Calls Tryz.prog 61 #[v, i 2, .string c.oper] W (FPost gB L2 W)) := fun W v hs h => by
    have := rtext gB v L1 2 c.oper W h hs (by have := hS.t1.len; omega) (by omega)
    rw [show addF L1 2 (strB c.oper) = L2 from hS.e2] at this
    exact this
  have H3 : Hid (∀ W v, gB ≤ W.heap.size → OwnF gB W v L2 → Calls Tryz.prog 61 #[v, i 3, .string c.prov] W (FPost gB L3 W)) := fun W v hs h => by
    have := rtext gB v L2 3 c.prov W h hs (by have := hS.t2.len; omega) (by omega)
    rw [show addF L2 3 (strB c.prov) = L3 from hS.e3] at this
    exact this
  have H4 : Hid (∀ W v, gB ≤ W.heap.size → OwnF gB W v L3 → Calls Tryz.prog 61 #[v, i 4, .string c.sess] W (FPost gB L4 W)) := fun W v hs h => by
    have := rtext gB v L3 4 c.sess W h hs (by have := hS.t3.len; omega) (by omega)
    rw [show addF L3 4 (strB c.sess) = L4 from hS.e4] at this
    exact this
  have H5 : Hid (∀ W v, gB ≤ W.heap.size → OwnF gB W v L4 → Calls Tryz.prog 62 #[v, i 5, i c.ver] W (FPost gB L5 W)) := fun W v hs h => by
    have := rnum gB v L4 5 c.ver W h hs (by have := hS.t4.len; omega) ho.n1
    rw [show (if c.ver = 0 then L4 else addF L4 5 (encI c.ver)) = L5 from hS.e5] at this
    exact this
  have H6 : Hid (∀ W v, gB ≤ W.heap.size → OwnF gB W v L5 → Calls Tryz.prog 62 #[v, i 6, i c.start] W (FPost gB L6 W)) := fun W v hs h => by
    have := rnum gB v L5 6 c.start W h hs (by have := hS.t5.len; omega) ho.n2
    rw [show (if c.start = 0 then L5 else addF L5 6 (encI c.start)) = L6 from hS.e6] at this
    exact this
  have H7 : Hid (∀ W v, gB ≤ W.heap.size → OwnF gB W v L6 → Calls Tryz.prog 62 #[v, i 7, i c.stop] W (FPost gB L7 W)) := fun W v hs h => by
    have := rnum gB v L6 7 c.stop W h hs (by have := hS.t6.len; omega) ho.n3
    rw [show (if c.stop = 0 then L6 else addF L6 7 (encI c.stop)) = L7 from hS.e7] at this
    exact this
  have H8 : Hid (∀ W v, gB ≤ W.heap.size → OwnF gB W v L7 → Calls Tryz.prog 62 #[v, i 8, i c.en] W (FPost gB L8 W)) := fun W v hs h => by
    have := rnum gB v L7 8 c.en W h hs (by have := hS.t7.len; omega) ho.n4
    rw [show (if c.en = 0 then L7 else addF L7 8 (encI c.en)) = L8 from hS.e8] at this
    exact this
  have H9 : Hid (∀ W v, gB ≤ W.heap.size → OwnF gB W v L8 → Calls Tryz.prog 61 #[v, i 9, .string c.tar] W (FPost gB L9 W)) := fun W v hs h => by
    have := rtext gB v L8 9 c.tar W h hs (by have := hS.t8.len; omega) (by omega)
    rw [show addF L8 9 (strB c.tar) = L9 from hS.e9] at this
    exact this
  have H10 : Hid (∀ W v, gB ≤ W.heap.size → OwnF gB W v L9 → Calls Tryz.prog 61 #[v, i 10, .string c.cur] W (FPost gB L10 W)) := fun W v hs h => by
    have := rtext gB v L9 10 c.cur W h hs (by have := hS.t9.len; omega) (by omega)
    rw [show addF L9 10 (strB c.cur) = L10 from hS.e10] at this
    exact this
  have H12 : Hid (∀ W v, gB ≤ W.heap.size → OwnF gB W v L11 → Calls Tryz.prog 62 #[v, i 12, i c.total] W (FPost gB L12 W)) := fun W v hs h => by
    have := rnum gB v L11 12 c.total W h hs (by have := hS.t11.len; omega) ho.n5
    rw [show (if c.total = 0 then L11 else addF L11 12 (encI c.total)) = L12 from hS.e12] at this
    exact this
  have H13 : Hid (∀ W v, gB ≤ W.heap.size → OwnF gB W v L12 → Calls Tryz.prog 66 #[v, i 13, .bool c.credit] W (FPost gB L13 W)) := fun W v hs h => by
    have := rflag gB v L12 13 c.credit W h hs (by have := hS.t12.len; omega)
    rw [show (if c.credit = true then (if (1 : Int) = 0 then L12 else addF L12 13 (encI 1)) else L12) = L13 from hS.e13] at this
    exact this
  have H14 : Hid (∀ W v, gB ≤ W.heap.size → OwnF gB W v L13 → Calls Tryz.prog 61 #[v, i 14, .string c.ref] W (FPost gB L14 W)) := fun W v hs h => by
    have := rtext gB v L13 14 c.ref W h hs (by have := hS.t13.len; omega) (by omega)
    rw [show addF L13 14 (strB c.ref) = L14 from hS.e14] at this
    exact this
  have H11 : Hid (∀ W v u, gB ≤ W.heap.size → OwnF gB W v L10 → DatsAt W u (dats c.items) → Calls Tryz.prog 63 #[v, i 11, u] W (FPost gB L11 W)) := fun W v u hs h hd => by
    have hdl : (dats c.items).length = 7 * c.items.length := by unfold dats; rw [List.length_map, nums_len]
    have := rlist gB v L10 11 u (dats c.items) W h hs (by have := hS.t10.len; omega) hd (by omega) (fun d hd => by
      unfold dats at hd
      obtain ⟨x, hx, rfl⟩ := List.mem_map.1 hd
      refine ⟨?_, encI_ne x⟩
      have : I64 x := by
        unfold nums at hx
        obtain ⟨y, hy, hx⟩ := List.mem_flatMap.1 hx
        have hk := hio y hy
        unfold Itm.ok at hk
        unfold itN at hx
        simp at hx
        rcases hx with rfl | rfl | rfl | rfl | rfl | rfl | rfl
        · exact hk.1
        · exact hk.2.1
        · exact hk.2.2.1
        · exact hk.2.2.2.1
        · exact hk.2.2.2.2.1
        · exact hk.2.2.2.2.2.1
        · exact hk.2.2.2.2.2.2
      have := encI_len this
      omega)
    have e : (if (dats c.items).length = 0 then L10 else addF L10 11 (putL (dats c.items))) = L11 := by
      rw [← show addI L10 11 c.items = L11 from hS.e11]
      unfold addI
      by_cases h0 : c.items.length = 0
      · rw [if_pos h0, if_pos (by omega)]
      · rw [if_neg h0, if_neg (by omega)]
    rw [e] at this
    exact this
  obtain ⟨xs, hxs⟩ : ∃ xs, putF L14 = xs := ⟨_, rfl⟩
  rw [hxs]
  have HPU : Hid (∀ W v, OwnF gB W v L14 → Calls Tryz.prog 65 #[v] W fun e w' => ∃ u, e = .returned (.tuple #[u, i 0]) ∧ OwnB W.heap.size w' u xs ∧ Below W.heap.size W w') := fun W v h => by
    have := rput v L14 W (h.at_ (by have := hS.t14.len; omega)) hS.t14.ok
    rw [hxs] at this
    exact this
  unfold FPost at H1 H2 H3 H4 H5 H6 H7 H8 H9 H10 H11 H12 H13 H14
  have HIO := Lib.hid hio
  subst hnk
  clear hS hxs hio ho hi z1 z2 z3 z4 z5 z6 z7
  go_enter Tryz.func42, Tryz.ntmps42
  go_upto_region 1 with (fail)
  generalize w.alloc (.cells (cdrA c (.slice A c.items.length k)) 24) = w0 at *
  go_cut [4] (fun s4 wd => Hid (FP gB w0 L4 s4 wd))
  case first =>
    refine Reg8.region 12 (chG gB w0 [2, 5, 8, 11] (.slice none 0 0) []) (chΦ gB (fun k => match k with | 0 => some (.pointer (some ⟨w.heap.size, 0, none⟩)) | 1 => some (.string c.id) | 3 => some (.pointer (some ⟨w.heap.size, 1, none⟩)) | 4 => some (.string c.oper) | 6 => some (.pointer (some ⟨w.heap.size, 2, none⟩)) | 7 => some (.string c.prov) | 9 => some (.pointer (some ⟨w.heap.size, 3, none⟩)) | 10 => some (.string c.sess) | _ => none) (fun k => match k with | 2 => L1 | 5 => L2 | 8 => L3 | _ => L4) (fun k => match k with | 2 => some 5 | 5 => some 8 | 8 => some 11 | _ => none) (fun _ => none)) (by kernel_rfl) (by kernel_rfl) ?_ ?_ ?_ ?_
    · exact Reg4.in_of (n := 86) (by kernel_rfl) rfl
    · exact ⟨Below.drew (Below.refl _ _), fun _ _ _ _ _ h => (by cases h), fun _ => Own.nil⟩
    · intro idx o hj0 ho L a' w' hL hG hop
      have hj' : idx = 0 ∨ idx = 1 ∨ idx = 2 ∨ idx = 3 ∨ idx = 4 ∨ idx = 5 ∨ idx = 6 ∨ idx = 7 ∨ idx = 8 ∨ idx = 9 ∨ idx = 10 ∨ idx = 11 := by omega
      have hcel := (HK0.out.below hG.1 HLT.out).cell
      have hsz : gB ≤ w'.heap.size := Nat.le_trans (Nat.le_of_eq HGB.out.symm) hG.1.size
      rcases hj' with rfl | rfl | rfl | rfl | rfl | rfl | rfl | rfl | rfl | rfl | rfl | rfl
      all_goals
        obtain rfl := Option.some.inj ho
        clear ho hj0
      · skip
        have h1 : a'.tmps[1]?.getD undef = .pointer (some ⟨w.heap.size, 0, none⟩) := (Array.getD_eq_getD_getElem? ..).symm.trans (hop 1 (by simp [Op.operands, Call.operands]))
        refine Reg4.StepOk.mono (R := fun v W => v = .pointer (some ⟨w.heap.size, 0, none⟩) ∧ W = w') ?_ (fun v W h => ?_)
        · go_simp
          all_goals (try exact ⟨rfl, rfl⟩)
        · obtain ⟨rfl, rfl⟩ := h
          exact ch_read hG (by decide) rfl
      · skip
        have h8 : a'.tmps[8]?.getD undef = .pointer (some ⟨w.heap.size, 0, none⟩) := (Array.getD_eq_getD_getElem? ..).symm.trans (show L 0 = true ∧ _ = _ from hop 8 (by simp [Op.operands, Call.operands])).2
        have q : w'.cell? ⟨w.heap.size, 0, none⟩ = some (.string c.id) := hcel 0
        refine Reg4.StepOk.mono (R := fun v W => v = .string c.id ∧ W = w') ?_ (fun v W h => ?_)
        · go_simp
          all_goals (try exact ⟨rfl, rfl⟩)
        · obtain ⟨rfl, rfl⟩ := h
          exact ch_read hG (by decide) rfl
      · skip
        have h9 : a'.tmps[9]?.getD undef = .string c.id := (Array.getD_eq_getD_getElem? ..).symm.trans (show L 1 = true ∧ _ = _ from hop 9 (by simp [Op.operands, Call.operands])).2
        refine Reg4.StepOk.mono (R := fun v W => IsSl v ∧ OwnF gB W v L1 ∧ Below gB w' W) ?_ (fun v W h => ?_)
        · go_simp
          refine (H1.out w' hsz).mono ?_
          rintro e w5 ⟨u5, rfl, hsl5, ho5, hb5⟩
          exact ⟨_, rfl, hsl5, ho5, hb5⟩
        · obtain ⟨hsl5, ho5, hb5⟩ := h
          exact ch_call hG (by decide) (fun q hq h => absurd h (by revert q; decide)) hb5 ⟨hsl5, fun _ => ho5⟩ (by kernel_rfl)
      · skip
        have h1 : a'.tmps[1]?.getD undef = .pointer (some ⟨w.heap.size, 0, none⟩) := (Array.getD_eq_getD_getElem? ..).symm.trans (hop 1 (by simp [Op.operands, Call.operands]))
        refine Reg4.StepOk.mono (R := fun v W => v = .pointer (some ⟨w.heap.size, 1, none⟩) ∧ W = w') ?_ (fun v W h => ?_)
        · go_simp
          all_goals (try exact ⟨rfl, rfl⟩)
        · obtain ⟨rfl, rfl⟩ := h
          exact ch_read hG (by decide) rfl
      · skip
        have h11 : a'.tmps[11]?.getD undef = .pointer (some ⟨w.heap.size, 1, none⟩) := (Array.getD_eq_getD_getElem? ..).symm.trans (show L 3 = true ∧ _ = _ from hop 11 (by simp [Op.operands, Call.operands])).2
        have q : w'.cell? ⟨w.heap.size, 1, none⟩ = some (.string c.oper) := hcel 1
        refine Reg4.StepOk.mono (R := fun v W => v = .string c.oper ∧ W = w') ?_ (fun v W h => ?_)
        · go_simp
          all_goals (try exact ⟨rfl, rfl⟩)
        · obtain ⟨rfl, rfl⟩ := h
          exact ch_read hG (by decide) rfl
      · skip
        obtain ⟨hlp, ⟨pA, pn, pc, hpv⟩, hpo⟩ : L 2 = true ∧ IsSl (a'.tmps.getD 10 undef) ∧ ((∀ q, some 5 = some q → L q = false) → OwnF gB w' (a'.tmps.getD 10 undef) L1) := hop 10 (by simp [Op.operands, Call.operands])
        replace hpo := hpo (fun q hq => by obtain rfl := Option.some.inj hq; exact hL)
        rw [hpv] at hpo
        have h10 : a'.tmps[10]?.getD undef = .slice pA pn pc := (Array.getD_eq_getD_getElem? ..).symm.trans hpv
        have h12 : a'.tmps[12]?.getD undef = .string c.oper := (Array.getD_eq_getD_getElem? ..).symm.trans (show L 4 = true ∧ _ = _ from hop 12 (by simp [Op.operands, Call.operands])).2
        refine Reg4.StepOk.mono (R := fun v W => IsSl v ∧ OwnF gB W v L2 ∧ Below gB w' W) ?_ (fun v W h => ?_)
        · go_simp
          refine (H2.out w' _ hsz hpo).mono ?_
          rintro e w5 ⟨u5, rfl, hsl5, ho5, hb5⟩
          exact ⟨_, rfl, hsl5, ho5, hb5⟩
        · obtain ⟨hsl5, ho5, hb5⟩ := h
          exact ch_call hG (by decide) (hp_of hG hlp (by decide) (by decide)) hb5 ⟨hsl5, fun _ => ho5⟩ (by kernel_rfl)
      · skip
        have h1 : a'.tmps[1]?.getD undef = .pointer (some ⟨w.heap.size, 0, none⟩) := (Array.getD_eq_getD_getElem? ..).symm.trans (hop 1 (by simp [Op.operands, Call.operands]))
        refine Reg4.StepOk.mono (R := fun v W => v = .pointer (some ⟨w.heap.size, 2, none⟩) ∧ W = w') ?_ (fun v W h => ?_)
        · go_simp
          all_goals (try exact ⟨rfl, rfl⟩)
        · obtain ⟨rfl, rfl⟩ := h
          exact ch_read hG (by decide) rfl
      · skip
        have h14 : a'.tmps[14]?.getD undef = .pointer (some ⟨w.heap.size, 2, none⟩) := (Array.getD_eq_getD_getElem? ..).symm.trans (show L 6 = true ∧ _ = _ from hop 14 (by simp [Op.operands, Call.operands])).2
        have q : w'.cell? ⟨w.heap.size, 2, none⟩ = some (.string c.prov) := hcel 2
        refine Reg4.StepOk.mono (R := fun v W => v = .string c.prov ∧ W = w') ?_ (fun v W h => ?_)
        · go_simp
          all_goals (try exact ⟨rfl, rfl⟩)
        · obtain ⟨rfl, rfl⟩ := h
          exact ch_read hG (by decide) rfl
      · skip
        obtain ⟨hlp, ⟨pA, pn, pc, hpv⟩, hpo⟩ : L 5 = true ∧ IsSl (a'.tmps.getD 13 undef) ∧ ((∀ q, some 8 = some q → L q = false) → OwnF gB w' (a'.tmps.getD 13 undef) L2) := hop 13 (by simp [Op.operands, Call.operands])
        replace hpo := hpo (fun q hq => by obtain rfl := Option.some.inj hq; exact hL)
        rw [hpv] at hpo
        have h13 : a'.tmps[13]?.getD undef = .slice pA pn pc := (Array.getD_eq_getD_getElem? ..).symm.trans hpv
        have h15 : a'.tmps[15]?.getD undef = .string c.prov := (Array.getD_eq_getD_getElem? ..).symm.trans (show L 7 = true ∧ _ = _ from hop 15 (by simp [Op.operands, Call.operands])).2
        refine Reg4.StepOk.mono (R := fun v W => IsSl v ∧ OwnF gB W v L3 ∧ Below gB w' W) ?_ (fun v W h => ?_)
        · go_simp
          refine (H3.out w' _ hsz hpo).mono ?_
          rintro e w5 ⟨u5, rfl, hsl5, ho5, hb5⟩
          exact ⟨_, rfl, hsl5, ho5, hb5⟩
        · obtain ⟨hsl5, ho5, hb5⟩ := h
          exact ch_call hG (by decide) (hp_of hG hlp (by decide) (by decide)) hb5 ⟨hsl5, fun _ => ho5⟩ (by kernel_rfl)
      · skip
        have h1 : a'.tmps[1]?.getD undef = .pointer (some ⟨w.heap.size, 0, none⟩) := (Array.getD_eq_getD_getElem? ..).symm.trans (hop 1 (by simp [Op.operands, Call.operands]))
        refine Reg4.StepOk.mono (R := fun v W => v = .pointer (some ⟨w.heap.size, 3, none⟩) ∧ W = w') ?_ (fun v W h => ?_)
        · go_simp
          all_goals (try exact ⟨rfl, rfl⟩)
        · obtain ⟨rfl, rfl⟩ := h
          exact ch_read hG (by decide) rfl
      · skip
        have h17 : a'.tmps[17]?.getD undef = .pointer (some ⟨w.heap.size, 3, none⟩) := (Array.getD_eq_getD_getElem? ..).symm.trans (show L 9 = true ∧ _ = _ from hop 17 (by simp [Op.operands, Call.operands])).2
        have q : w'.cell? ⟨w.heap.size, 3, none⟩ = some (.string c.sess) := hcel 3
        refine Reg4.StepOk.mono (R := fun v W => v = .string c.sess ∧ W = w') ?_ (fun v W h => ?_)
        · go_simp
          all_goals (try exact ⟨rfl, rfl⟩)
        · obtain ⟨rfl, rfl⟩ := h
          exact ch_read hG (by decide) rfl
      · skip
        obtain ⟨hlp, ⟨pA, pn, pc, hpv⟩, hpo⟩ : L 8 = true ∧ IsSl (a'.tmps.getD 16 undef) ∧ ((∀ q, some 11 = some q → L q = false) → OwnF gB w' (a'.tmps.getD 16 undef) L3) := hop 16 (by simp [Op.operands, Call.operands])
        replace hpo := hpo (fun q hq => by obtain rfl := Option.some.inj hq; exact hL)
        rw [hpv] at hpo
        have h16 : a'.tmps[16]?.getD undef = .slice pA pn pc := (Array.getD_eq_getD_getElem? ..).symm.trans hpv
        have h18 : a'.tmps[18]?.getD undef = .string c.sess := (Array.getD_eq_getD_getElem? ..).symm.trans (show L 10 = true ∧ _ = _ from hop 18 (by simp [Op.operands, Call.operands])).2
        refine Reg4.StepOk.mono (R := fun v W => IsSl v ∧ OwnF gB W v L4 ∧ Below gB w' W) ?_ (fun v W h => ?_)
        · go_simp
          refine (H4.out w' _ hsz hpo).mono ?_
          rintro e w5 ⟨u5, rfl, hsl5, ho5, hb5⟩
          exact ⟨_, rfl, hsl5, ho5, hb5⟩
        · obtain ⟨hsl5, ho5, hb5⟩ := h
          exact ch_call hG (by decide) (hp_of hG hlp (by decide) (by decide)) hb5 ⟨hsl5, fun _ => ho5⟩ (by kernel_rfl)
    · intro L vals w' hL hG hΦ
      obtain ⟨-, ⟨A9, n9, c9, hv⟩, ho⟩ : L 11 = true ∧ IsSl (vals 11) ∧ ((∀ q, (none : Option Nat) = some q → L q = false) → OwnF gB w' (vals 11) L4) := hΦ 11 (by omega)
      have hFP : Hid (FP gB w0 L4 (.slice A9 n9 c9) w') := ⟨⟨_, _, _, rfl⟩, by have := ho (fun q h => by cases h); rw [hv] at this; exact this, hG.1⟩
      simp only [Reg4.puts, Reg4.dstOf, List.range, List.range.loop, if_true, List.drop_succ_cons, List.drop_zero, hv]
      clear hΦ hG hL ho hv
      go_wp2_with fail
      go_meet
      exact hFP.out
  case rest =>
  obtain ⟨⟨A4, n4, c4, rfl⟩, ho4, hb4⟩ := hcut.out
  have HO4 := Lib.hid ho4
  have HB4 := Lib.hid hb4
  clear hcut ho4 hb4
  generalize wc = w4 at *
  go_upto_region 2 with (fail)
  go_cut [4] (fun s4 wd => Hid (FP gB w0 L8 s4 wd))
  case first =>
    refine Reg8.region 13 (chG gB w0 [3, 6, 9, 12] (.slice A4 n4 c4) L4) (chΦ gB (fun k => match k with | 1 => some (.pointer (some ⟨w.heap.size, 4, none⟩)) | 2 => some (i c.ver) | 4 => some (.pointer (some ⟨w.heap.size, 5, none⟩)) | 5 => some (i c.start) | 7 => some (.pointer (some ⟨w.heap.size, 6, none⟩)) | 8 => some (i c.stop) | 10 => some (.pointer (some ⟨w.heap.size, 7, none⟩)) | 11 => some (i c.en) | _ => none) (fun k => match k with | 0 => L4 | 3 => L5 | 6 => L6 | 9 => L7 | _ => L8) (fun k => match k with | 0 => some 3 | 3 => some 6 | 6 => some 9 | 9 => some 12 | _ => none) (fun _ => none)) (by kernel_rfl) (by kernel_rfl) ?_ ?_ ?_ ?_
    · exact Reg4.in_of (n := 86) (by kernel_rfl) rfl
    · exact ⟨Below.drew HB4.out, fun _ _ _ _ _ h => (by cases h), fun _ => HO4.out⟩
    · intro idx o hj0 ho L a' w' hL hG hop
      have hj' : idx = 0 ∨ idx = 1 ∨ idx = 2 ∨ idx = 3 ∨ idx = 4 ∨ idx = 5 ∨ idx = 6 ∨ idx = 7 ∨ idx = 8 ∨ idx = 9 ∨ idx = 10 ∨ idx = 11 ∨ idx = 12 := by omega
      have hcel := (HK0.out.below hG.1 HLT.out).cell
      have hsz : gB ≤ w'.heap.size := Nat.le_trans (Nat.le_of_eq HGB.out.symm) hG.1.size
      rcases hj' with rfl | rfl | rfl | rfl | rfl | rfl | rfl | rfl | rfl | rfl | rfl | rfl | rfl
      all_goals
        obtain rfl := Option.some.inj ho
        clear ho hj0
      · skip
        have h4 : a'.tmps[4]?.getD undef = (.slice A4 n4 c4) := (Array.getD_eq_getD_getElem? ..).symm.trans (hop 4 (by simp [Op.operands, Call.operands]))
        refine Reg4.StepOk.mono (R := fun v W => v = (.slice A4 n4 c4) ∧ W = w') ?_ (fun v W h => ?_)
        · go_simp
          all_goals (try exact ⟨rfl, rfl⟩)
        · obtain ⟨rfl, rfl⟩ := h
          exact ch_read hG (by decide) ⟨⟨_, _, _, rfl⟩, fun hq => ch_none hG (setL_le (hq 3 rfl)) (by decide) (by decide)⟩
      · skip
        have h1 : a'.tmps[1]?.getD undef = .pointer (some ⟨w.heap.size, 0, none⟩) := (Array.getD_eq_getD_getElem? ..).symm.trans (hop 1 (by simp [Op.operands, Call.operands]))
        refine Reg4.StepOk.mono (R := fun v W => v = .pointer (some ⟨w.heap.size, 4, none⟩) ∧ W = w') ?_ (fun v W h => ?_)
        · go_simp
          all_goals (try exact ⟨rfl, rfl⟩)
        · obtain ⟨rfl, rfl⟩ := h
          exact ch_read hG (by decide) rfl
      · skip
        have h21 : a'.tmps[21]?.getD undef = .pointer (some ⟨w.heap.size, 4, none⟩) := (Array.getD_eq_getD_getElem? ..).symm.trans (show L 1 = true ∧ _ = _ from hop 21 (by simp [Op.operands, Call.operands])).2
        have q : w'.cell? ⟨w.heap.size, 4, none⟩ = some (i c.ver) := hcel 4
        refine Reg4.StepOk.mono (R := fun v W => v = i c.ver ∧ W = w') ?_ (fun v W h => ?_)
        · go_simp
          all_goals (try exact ⟨rfl, rfl⟩)
        · obtain ⟨rfl, rfl⟩ := h
          exact ch_read hG (by decide) rfl
      · skip
        obtain ⟨hlp, ⟨pA, pn, pc, hpv⟩, hpo⟩ : L 0 = true ∧ IsSl (a'.tmps.getD 20 undef) ∧ ((∀ q, some 3 = some q → L q = false) → OwnF gB w' (a'.tmps.getD 20 undef) L4) := hop 20 (by simp [Op.operands, Call.operands])
        replace hpo := hpo (fun q hq => by obtain rfl := Option.some.inj hq; exact hL)
        rw [hpv] at hpo
        have h20 : a'.tmps[20]?.getD undef = .slice pA pn pc := (Array.getD_eq_getD_getElem? ..).symm.trans hpv
        have h22 : a'.tmps[22]?.getD undef = i c.ver := (Array.getD_eq_getD_getElem? ..).symm.trans (show L 2 = true ∧ _ = _ from hop 22 (by simp [Op.operands, Call.operands])).2
        refine Reg4.StepOk.mono (R := fun v W => IsSl v ∧ OwnF gB W v L5 ∧ Below gB w' W) ?_ (fun v W h => ?_)
        · go_simp
          refine (H5.out w' _ hsz hpo).mono ?_
          rintro e w5 ⟨u5, rfl, hsl5, ho5, hb5⟩
          exact ⟨_, rfl, hsl5, ho5, hb5⟩
        · obtain ⟨hsl5, ho5, hb5⟩ := h
          exact ch_call hG (by decide) (fun q hq h => absurd h (by revert q; decide)) hb5 ⟨hsl5, fun _ => ho5⟩ (by kernel_rfl)
      · skip
        have h1 : a'.tmps[1]?.getD undef = .pointer (some ⟨w.heap.size, 0, none⟩) := (Array.getD_eq_getD_getElem? ..).symm.trans (hop 1 (by simp [Op.operands, Call.operands]))
        refine Reg4.StepOk.mono (R := fun v W => v = .pointer (some ⟨w.heap.size, 5, none⟩) ∧ W = w') ?_ (fun v W h => ?_)
        · go_simp
          all_goals (try exact ⟨rfl, rfl⟩)
        · obtain ⟨rfl, rfl⟩ := h
          exact ch_read hG (by decide) rfl
      · skip
        have h24 : a'.tmps[24]?.getD undef = .pointer (some ⟨w.heap.size, 5, none⟩) := (Array.getD_eq_getD_getElem? ..).symm.trans (show L 4 = true ∧ _ = _ from hop 24 (by simp [Op.operands, Call.operands])).2
        have q : w'.cell? ⟨w.heap.size, 5, none⟩ = some (i c.start) := hcel 5
        refine Reg4.StepOk.mono (R := fun v W => v = i c.start ∧ W = w') ?_ (fun v W h => ?_)
        · go_simp
          all_goals (try exact ⟨rfl, rfl⟩)
        · obtain ⟨rfl, rfl⟩ := h
          exact ch_read hG (by decide) rfl
      · skip
        obtain ⟨hlp, ⟨pA, pn, pc, hpv⟩, hpo⟩ : L 3 = true ∧ IsSl (a'.tmps.getD 23 undef) ∧ ((∀ q, some 6 = some q → L q = false) → OwnF gB w' (a'.tmps.getD 23 undef) L5) := hop 23 (by simp [Op.operands, Call.operands])
        replace hpo := hpo (fun q hq => by obtain rfl := Option.some.inj hq; exact hL)
        rw [hpv] at hpo
        have h23 : a'.tmps[23]?.getD undef = .slice pA pn pc := (Array.getD_eq_getD_getElem? ..).symm.trans hpv
        have h25 : a'.tmps[25]?.getD undef = i c.start := (Array.getD_eq_getD_getElem? ..).symm.trans (show L 5 = true ∧ _ = _ from hop 25 (by simp [Op.operands, Call.operands])).2
        refine Reg4.StepOk.mono (R := fun v W => IsSl v ∧ OwnF gB W v L6 ∧ Below gB w' W) ?_ (fun v W h => ?_)
        · go_simp
          refine (H6.out w' _ hsz hpo).mono ?_
          rintro e w5 ⟨u5, rfl, hsl5, ho5, hb5⟩
          exact ⟨_, rfl, hsl5, ho5, hb5⟩
        · obtain ⟨hsl5, ho5, hb5⟩ := h
          exact ch_call hG (by decide) (hp_of hG hlp (by decide) (by decide)) hb5 ⟨hsl5, fun _ => ho5⟩ (by kernel_rfl)
      · skip
        have h1 : a'.tmps[1]?.getD undef = .pointer (some ⟨w.heap.size, 0, none⟩) := (Array.getD_eq_getD_getElem? ..).symm.trans (hop 1 (by simp [Op.operands, Call.operands]))
        refine Reg4.StepOk.mono (R := fun v W => v = .pointer (some ⟨w.heap.size, 6, none⟩) ∧ W = w') ?_ (fun v W h => ?_)
        · go_simp
          all_goals (try exact ⟨rfl, rfl⟩)
        · obtain ⟨rfl, rfl⟩ := h
          exact ch_read hG (by decide) rfl
      · skip
        have h27 : a'.tmps[27]?.getD undef = .pointer (some ⟨w.heap.size, 6, none⟩) := (Array.getD_eq_getD_getElem? ..).symm.trans (show L 7 = true ∧ _ = _ from hop 27 (by simp [Op.operands, Call.operands])).2
        have q : w'.cell? ⟨w.heap.size, 6, none⟩ = some (i c.stop) := hcel 6
        refine Reg4.StepOk.mono (R := fun v W => v = i c.stop ∧ W = w') ?_ (fun v W h => ?_)
        · go_simp
          all_goals (try exact ⟨rfl, rfl⟩)
        · obtain ⟨rfl, rfl⟩ := h
          exact ch_read hG (by decide) rfl
      · skip
        obtain ⟨hlp, ⟨pA, pn, pc, hpv⟩, hpo⟩ : L 6 = true ∧ IsSl (a'.tmps.getD 26 undef) ∧ ((∀ q, some 9 = some q → L q = false) → OwnF gB w' (a'.tmps.getD 26 undef) L6) := hop 26 (by simp [Op.operands, Call.operands])
        replace hpo := hpo (fun q hq => by obtain rfl := Option.some.inj hq; exact hL)
        rw [hpv] at hpo
        have h26 : a'.tmps[26]?.getD undef = .slice pA pn pc := (Array.getD_eq_getD_getElem? ..).symm.trans hpv
        have h28 : a'.tmps[28]?.getD undef = i c.stop := (Array.getD_eq_getD_getElem? ..).symm.trans (show L 8 = true ∧ _ = _ from hop 28 (by simp [Op.operands, Call.operands])).2
        refine Reg4.StepOk.mono (R := fun v W => IsSl v ∧ OwnF gB W v L7 ∧ Below gB w' W) ?_ (fun v W h => ?_)
        · go_simp
          refine (H7.out w' _ hsz hpo).mono ?_
          rintro e w5 ⟨u5, rfl, hsl5, ho5, hb5⟩
          exact ⟨_, rfl, hsl5, ho5, hb5⟩
        · obtain ⟨hsl5, ho5, hb5⟩ := h
          exact ch_call hG (by decide) (hp_of hG hlp (by decide) (by decide)) hb5 ⟨hsl5, fun _ => ho5⟩ (by kernel_rfl)
      · skip
        have h1 : a'.tmps[1]?.getD undef = .pointer (some ⟨w.heap.size, 0, none⟩) := (Array.getD_eq_getD_getElem? ..).symm.trans (hop 1 (by simp [Op.operands, Call.operands]))
        refine Reg4.StepOk.mono (R := fun v W => v = .pointer (some ⟨w.heap.size, 7, none⟩) ∧ W = w') ?_ (fun v W h => ?_)
        · go_simp
          all_goals (try exact ⟨rfl, rfl⟩)
        · obtain ⟨rfl, rfl⟩ := h
          exact ch_read hG (by decide) rfl
      · skip
        have h30 : a'.tmps[30]?.getD undef = .pointer (some ⟨w.heap.size, 7, none⟩) := (Array.getD_eq_getD_getElem? ..).symm.trans (show L 10 = true ∧ _ = _ from hop 30 (by simp [Op.operands, Call.operands])).2
        have q : w'.cell? ⟨w.heap.size, 7, none⟩ = some (i c.en) := hcel 7
        refine Reg4.StepOk.mono (R := fun v W => v = i c.en ∧ W = w') ?_ (fun v W h => ?_)
        · go_simp
          all_goals (try exact ⟨rfl, rfl⟩)
        · obtain ⟨rfl, rfl⟩ := h
          exact ch_read hG (by decide) rfl
      · skip
        obtain ⟨hlp, ⟨pA, pn, pc, hpv⟩, hpo⟩ : L 9 = true ∧ IsSl (a'.tmps.getD 29 undef) ∧ ((∀ q, some 12 = some q → L q = false) → OwnF gB w' (a'.tmps.getD 29 undef) L7) := hop 29 (by simp [Op.operands, Call.operands])
        replace hpo := hpo (fun q hq => by obtain rfl := Option.some.inj hq; exact hL)
        rw [hpv] at hpo
        have h29 : a'.tmps[29]?.getD undef = .slice pA pn pc := (Array.getD_eq_getD_getElem? ..).symm.trans hpv
        have h31 : a'.tmps[31]?.getD undef = i c.en := (Array.getD_eq_getD_getElem? ..).symm.trans (show L 11 = true ∧ _ = _ from hop 31 (by simp [Op.operands, Call.operands])).2
        refine Reg4.StepOk.mono (R := fun v W => IsSl v ∧ OwnF gB W v L8 ∧ Below gB w' W) ?_ (fun v W h => ?_)
        · go_simp
          refine (H8.out w' _ hsz hpo).mono ?_
          rintro e w5 ⟨u5, rfl, hsl5, ho5, hb5⟩
          exact ⟨_, rfl, hsl5, ho5, hb5⟩
        · obtain ⟨hsl5, ho5, hb5⟩ := h
          exact ch_call hG (by decide) (hp_of hG hlp (by decide) (by decide)) hb5 ⟨hsl5, fun _ => ho5⟩ (by kernel_rfl)
    · intro L vals w' hL hG hΦ
      obtain ⟨-, ⟨A9, n9, c9, hv⟩, ho⟩ : L 12 = true ∧ IsSl (vals 12) ∧ ((∀ q, (none : Option Nat) = some q → L q = false) → OwnF gB w' (vals 12) L8) := hΦ 12 (by omega)
      have hFP : Hid (FP gB w0 L8 (.slice A9 n9 c9) w') := ⟨⟨_, _, _, rfl⟩, by have := ho (fun q h => by cases h); rw [hv] at this; exact this, hG.1⟩
      simp only [Reg4.puts, Reg4.dstOf, List.range, List.range.loop, if_true, List.drop_succ_cons, List.drop_zero, hv]
      clear hΦ hG hL ho hv
      go_wp2_with fail
      go_meet
      exact hFP.out
  case rest =>
  obtain ⟨⟨A8, n8, c8, rfl⟩, ho8, hb8⟩ := hcut.out
  have HO8 := Lib.hid ho8
  have HB8 := Lib.hid hb8
  clear hcut ho8 hb8 HO4 HB4
  generalize wc = w8 at *
  go_upto_region 3 with (fail)
  go_cut [4] (fun s4 wd => Hid (FP gB w0 L10 s4 wd))
  case first =>
    refine Reg8.region 7 (chG gB w0 [3, 6] (.slice A8 n8 c8) L8) (chΦ gB (fun k => match k with | 1 => some (.pointer (some ⟨w.heap.size, 8, none⟩)) | 2 => some (.string c.tar) | 4 => some (.pointer (some ⟨w.heap.size, 9, none⟩)) | 5 => some (.string c.cur) | _ => none) (fun k => match k with | 0 => L8 | 3 => L9 | _ => L10) (fun k => match k with | 0 => some 3 | 3 => some 6 | _ => none) (fun _ => none)) (by kernel_rfl) (by kernel_rfl) ?_ ?_ ?_ ?_
    · exact Reg4.in_of (n := 86) (by kernel_rfl) rfl
    · exact ⟨Below.drew HB8.out, fun _ _ _ _ _ h => (by cases h), fun _ => HO8.out⟩
    · intro idx o hj0 ho L a' w' hL hG hop
      have hj' : idx = 0 ∨ idx = 1 ∨ idx = 2 ∨ idx = 3 ∨ idx = 4 ∨ idx = 5 ∨ idx = 6 := by omega
      have hcel := (HK0.out.below hG.1 HLT.out).cell
      have hsz : gB ≤ w'.heap.size := Nat.le_trans (Nat.le_of_eq HGB.out.symm) hG.1.size
      rcases hj' with rfl | rfl | rfl | rfl | rfl | rfl | rfl
      all_goals
        obtain rfl := Option.some.inj ho
        clear ho hj0
      · skip
        have h4 : a'.tmps[4]?.getD undef = (.slice A8 n8 c8) := (Array.getD_eq_getD_getElem? ..).symm.trans (hop 4 (by simp [Op.operands, Call.operands]))
        refine Reg4.StepOk.mono (R := fun v W => v = (.slice A8 n8 c8) ∧ W = w') ?_ (fun v W h => ?_)
        · go_simp
          all_goals (try exact ⟨rfl, rfl⟩)
        · obtain ⟨rfl, rfl⟩ := h
          exact ch_read hG (by decide) ⟨⟨_, _, _, rfl⟩, fun hq => ch_none hG (setL_le (hq 3 rfl)) (by decide) (by decide)⟩
      · skip
        have h1 : a'.tmps[1]?.getD undef = .pointer (some ⟨w.heap.size, 0, none⟩) := (Array.getD_eq_getD_getElem? ..).symm.trans (hop 1 (by simp [Op.operands, Call.operands]))
        refine Reg4.StepOk.mono (R := fun v W => v = .pointer (some ⟨w.heap.size, 8, none⟩) ∧ W = w') ?_ (fun v W h => ?_)
        · go_simp
          all_goals (try exact ⟨rfl, rfl⟩)
        · obtain ⟨rfl, rfl⟩ := h
          exact ch_read hG (by decide) rfl
      · skip
        have h34 : a'.tmps[34]?.getD undef = .pointer (some ⟨w.heap.size, 8, none⟩) := (Array.getD_eq_getD_getElem? ..).symm.trans (show L 1 = true ∧ _ = _ from hop 34 (by simp [Op.operands, Call.operands])).2
        have q : w'.cell? ⟨w.heap.size, 8, none⟩ = some (.string c.tar) := hcel 8
        refine Reg4.StepOk.mono (R := fun v W => v = .string c.tar ∧ W = w') ?_ (fun v W h => ?_)
        · go_simp
          all_goals (try exact ⟨rfl, rfl⟩)
        · obtain ⟨rfl, rfl⟩ := h
          exact ch_read hG (by decide) rfl
      · skip
        obtain ⟨hlp, ⟨pA, pn, pc, hpv⟩, hpo⟩ : L 0 = true ∧ IsSl (a'.tmps.getD 33 undef) ∧ ((∀ q, some 3 = some q → L q = false) → OwnF gB w' (a'.tmps.getD 33 undef) L8) := hop 33 (by simp [Op.operands, Call.operands])
        replace hpo := hpo (fun q hq => by obtain rfl := Option.some.inj hq; exact hL)
        rw [hpv] at hpo
        have h33 : a'.tmps[33]?.getD undef = .slice pA pn pc := (Array.getD_eq_getD_getElem? ..).symm.trans hpv
        have h35 : a'.tmps[35]?.getD undef = .string c.tar := (Array.getD_eq_getD_getElem? ..).symm.trans (show L 2 = true ∧ _ = _ from hop 35 (by simp [Op.operands, Call.operands])).2
        refine Reg4.StepOk.mono (R := fun v W => IsSl v ∧ OwnF gB W v L9 ∧ Below gB w' W) ?_ (fun v W h => ?_)
        · go_simp
          refine (H9.out w' _ hsz hpo).mono ?_
          rintro e w5 ⟨u5, rfl, hsl5, ho5, hb5⟩
          exact ⟨_, rfl, hsl5, ho5, hb5⟩
        · obtain ⟨hsl5, ho5, hb5⟩ := h
          exact ch_call hG (by decide) (fun q hq h => absurd h (by revert q; decide)) hb5 ⟨hsl5, fun _ => ho5⟩ (by kernel_rfl)
      · skip
        have h1 : a'.tmps[1]?.getD undef = .pointer (some ⟨w.heap.size, 0, none⟩) := (Array.getD_eq_getD_getElem? ..).symm.trans (hop 1 (by simp [Op.operands, Call.operands]))
        refine Reg4.StepOk.mono (R := fun v W => v = .pointer (some ⟨w.heap.size, 9, none⟩) ∧ W = w') ?_ (fun v W h => ?_)
        · go_simp
          all_goals (try exact ⟨rfl, rfl⟩)
        · obtain ⟨rfl, rfl⟩ := h
          exact ch_read hG (by decide) rfl
      · skip
        have h37 : a'.tmps[37]?.getD undef = .pointer (some ⟨w.heap.size, 9, none⟩) := (Array.getD_eq_getD_getElem? ..).symm.trans (show L 4 = true ∧ _ = _ from hop 37 (by simp [Op.operands, Call.operands])).2
        have q : w'.cell? ⟨w.heap.size, 9, none⟩ = some (.string c.cur) := hcel 9
        refine Reg4.StepOk.mono (R := fun v W => v = .string c.cur ∧ W = w') ?_ (fun v W h => ?_)
        · go_simp
          all_goals (try exact ⟨rfl, rfl⟩)
        · obtain ⟨rfl, rfl⟩ := h
          exact ch_read hG (by decide) rfl
      · skip
        obtain ⟨hlp, ⟨pA, pn, pc, hpv⟩, hpo⟩ : L 3 = true ∧ IsSl (a'.tmps.getD 36 undef) ∧ ((∀ q, some 6 = some q → L q = false) → OwnF gB w' (a'.tmps.getD 36 undef) L9) := hop 36 (by simp [Op.operands, Call.operands])
        replace hpo := hpo (fun q hq => by obtain rfl := Option.some.inj hq; exact hL)
        rw [hpv] at hpo
        have h36 : a'.tmps[36]?.getD undef = .slice pA pn pc := (Array.getD_eq_getD_getElem? ..).symm.trans hpv
        have h38 : a'.tmps[38]?.getD undef = .string c.cur := (Array.getD_eq_getD_getElem? ..).symm.trans (show L 5 = true ∧ _ = _ from hop 38 (by simp [Op.operands, Call.operands])).2
        refine Reg4.StepOk.mono (R := fun v W => IsSl v ∧ OwnF gB W v L10 ∧ Below gB w' W) ?_ (fun v W h => ?_)
        · go_simp
          refine (H10.out w' _ hsz hpo).mono ?_
          rintro e w5 ⟨u5, rfl, hsl5, ho5, hb5⟩
          exact ⟨_, rfl, hsl5, ho5, hb5⟩
        · obtain ⟨hsl5, ho5, hb5⟩ := h
          exact ch_call hG (by decide) (hp_of hG hlp (by decide) (by decide)) hb5 ⟨hsl5, fun _ => ho5⟩ (by kernel_rfl)
    · intro L vals w' hL hG hΦ
      obtain ⟨-, ⟨A9, n9, c9, hv⟩, ho⟩ : L 6 = true ∧ IsSl (vals 6) ∧ ((∀ q, (none : Option Nat) = some q → L q = false) → OwnF gB w' (vals 6) L10) := hΦ 6 (by omega)
      have hFP : Hid (FP gB w0 L10 (.slice A9 n9 c9) w') := ⟨⟨_, _, _, rfl⟩, by have := ho (fun q h => by cases h); rw [hv] at this; exact this, hG.1⟩
      simp only [Reg4.puts, Reg4.dstOf, List.range, List.range.loop, if_true, List.drop_succ_cons, List.drop_zero, hv]
      clear hΦ hG hL ho hv
      go_wp2_with fail
      go_meet
      exact hFP.out
  case rest =>
  obtain ⟨⟨A10, n10, c10, rfl⟩, ho10, hb10⟩ := hcut.out
  have HO10 := Lib.hid ho10
  have HB10 := Lib.hid hb10
  clear hcut ho10 hb10 HO8 HB8
  generalize wc = w10 at *
  have HK10 := Lib.hid (HK0.out.below HB10.out HLT.out)
  have HI10 := Lib.hid (ItmsAt.keep HI0.out (Kept.of (by rw [HGB.out]; exact HB10.out)))
  obtain ⟨i0, hi0, hz0, hz1, hz2⟩ := info_parts infoN
  have hc10 : w10.cell? ⟨w.heap.size, 10, none⟩ = some (.slice A c.items.length k) := HK10.out.cell 10
  go_wp2_with fail
  go_loopg [5, 6] c.items.length (fun gg s5 s6 wr => ∃ (kk : Nat) (A1 : Option Addr) (n1 c1 : Nat), kk ≤ c.items.length ∧ c.items.length - kk ≤ gg ∧ s5 = .slice A1 n1 c1 ∧ s6 = i kk ∧ Hid (OwnN w10.heap.size wr (.slice A1 n1 c1) (nums (c.items.take kk))) ∧ Hid (Below w10.heap.size w10 wr))
  case atStart => exact ⟨0, _, _, _, Nat.zero_le _, by omega, rfl, rfl, Own.nil, Below.refl _ _⟩
  case round =>
    obtain ⟨kk, A2, n2, c2, hkk, hg, rfl, rfl, HON, BW⟩ := hrel
    clear hc10
    have hc10 : wr.cell? ⟨w.heap.size, 10, none⟩ = some (.slice A c.items.length k) := (HK10.out.call BW.out).cell 10
    by_cases hlt : kk < c.items.length
    · have hltz : (kk : Int) < (c.items.length : Int) := by omega
      have hk0 : (0 : Int) ≤ (kk : Int) := by omega
      obtain ⟨b, off, rfl, _, hok, hrow⟩ := ItmsAt.at_ HI10.out hlt
      obtain ⟨l1, l2, l3, l4, l5, l6, l7⟩ := hrow wr (Kept.of BW.out)
      clear hrow
      have HNS := Lib.hid (nums_succ hlt)
      have HNL : Hid ((nums (c.items.take kk)).length ≤ 224) := by show _ ≤ _; rw [nums_len, List.length_take]; omega
      generalize c.items[kk] = y at *
      obtain ⟨y1, y2, y3, y4, y5, y6, y7⟩ := y
      have HOK := Lib.hid hok
      simp only at l1 l2 l3 l4 l5 l6 l7
      clear hok
      have HO1 : Hid (OwnN w10.heap.size ((wr.alloc (.cells #[i y1, i y2, i y3, i y4, i y5, i y6, i y7] 52)).alloc (.cells #[i y1, i y2, i y3, i y4, i y5, i y6, i y7] 3)) (.slice A2 n2 c2) (nums (c.items.take kk))) := Own.call (Own.call HON.out (below_new _ _)) (below_new _ _)
      have HB1 : Hid (Below w10.heap.size w10 ((wr.alloc (.cells #[i y1, i y2, i y3, i y4, i y5, i y6, i y7] 52)).alloc (.cells #[i y1, i y2, i y3, i y4, i y5, i y6, i y7] 3))) := below_alloc (below_alloc BW.out _) _
      have HBK : Hid (Blk ((wr.alloc (.cells #[i y1, i y2, i y3, i y4, i y5, i y6, i y7] 52)).alloc (.cells #[i y1, i y2, i y3, i y4, i y5, i y6, i y7] 3)) (wr.heap.size + 1) 3 #[i y1, i y2, i y3, i y4, i y5, i y6, i y7]) := by
        have := Blk.new (wr.alloc (.cells #[i y1, i y2, i y3, i y4, i y5, i y6, i y7] 52)) 3 #[i y1, i y2, i y3, i y4, i y5, i y6, i y7]
        rw [World.size_alloc] at this
        exact this
      have HD7 : Hid (∀ x ∈ itN ⟨y1, y2, y3, y4, y5, y6, y7⟩, I64 x) := by
        have hk := HOK.out
        unfold Itm.ok at hk
        intro x hx
        unfold itN at hx
        simp at hx
        rcases hx with rfl | rfl | rfl | rfl | rfl | rfl | rfl
        · exact hk.1
        · exact hk.2.1
        · exact hk.2.2.1
        · exact hk.2.2.2.1
        · exact hk.2.2.2.2.1
        · exact hk.2.2.2.2.2.1
        · exact hk.2.2.2.2.2.2
      have HN7 : Hid ((nums (c.items.take kk)).length + (itN ⟨y1, y2, y3, y4, y5, y6, y7⟩).length ≤ 16777216) := by
        have := HNL.out
        show _ + 7 ≤ _
        omega
      go_wp2_with (at_builtin; refine wpList_nums rfl (.tmp 52) (.tmp 67) 90 rfl i0 _ Tryz.underlying90 hi0 hz0 hz1 hz2 rfl rfl HO1.out (wr.heap.size + 1) _ 3 7 rfl HBK.out rfl (d := itN ⟨y1, y2, y3, y4, y5, y6, y7⟩) rfl HD7.out HN7.out HB1.out.size ?_)
      rintro v' w5 hown hbel ⟨A5, n5, c5, rfl⟩
      have HO5 : Hid (OwnN w10.heap.size w5 (.slice A5 n5 c5) (nums (c.items.take (kk + 1)))) := by
        show OwnN _ _ _ _
        rw [HNS.out]; exact hown
      have BW5 := Lib.hid (HB1.out.trans hbel)
      clear hown hbel HO1 HB1 HBK
      go_wp2_with fail
      go_roundg (c.items.length - (kk + 1))
      case measure => omega
      case rel => exact ⟨kk + 1, _, _, _, by omega, by omega, rfl, by go_num, HO5, BW5⟩
    · have hltz : ¬ (kk : Int) < (c.items.length : Int) := by omega
      have hke : kk = c.items.length := by omega
      subst hke
      rw [List.take_length] at HON
      have HOF := Lib.hid (OwnF.call HO10.out BW.out)
      have HBF : Hid (Below gB w0 wr) := HB10.out.trans (BW.out.mono (Nat.le_trans (Nat.le_of_eq HGB.out.symm) HB10.out.size))
      have HIN := Lib.hid (rints _ (nums c.items) wr (HON.out.at_ (by omega)) (by rw [nums_len]; omega))
      go_wp2_with fail
      refine HIN.out.mono ?_
      rintro e w11 ⟨u, rfl, hu, hb⟩
      obtain ⟨A11, n11, c11, rfl⟩ : IsSl u := by
        obtain ⟨rs, h1, h2⟩ := hu
        rcases h1.2 with ⟨rfl, _⟩ | ⟨g, cap, cur, rfl, _⟩
        · exact ⟨_, _, _, rfl⟩
        · exact ⟨_, _, _, rfl⟩
      have HOG := Lib.hid (OwnF.call HOF.out hb)
      have HBG : Hid (Below gB w0 w11) := HBF.out.trans (hb.mono (Nat.le_trans (Nat.le_of_eq HGB.out.symm) HBF.out.size))
      have HDA : Hid (DatsAt w11 (.slice A11 n11 c11) (dats c.items)) := hu.at_ (by omega)
      have HGS : Hid (gB ≤ w11.heap.size) := Nat.le_trans (Nat.le_of_eq HGB.out.symm) HBG.out.size
      clear hu hb HOF HBF
      go_wp2_with fail
      refine (H11.out _ _ _ HGS.out HOG.out HDA.out).mono ?_
      rintro e w12 ⟨u, rfl, ⟨AF, nF, cF, rfl⟩, ho12, hb12⟩
      have HOH := Lib.hid ho12
      have HBH := Lib.hid (HBG.out.trans hb12)
      clear ho12 hb12 HOG HBG HDA HGS
      go_upto_region 11 with (fail)
      refine Reg8.region 14 (chG gB w0 [3, 6, 9, 10] (.slice AF nF cF) L11) (chΦ gB (fun k => match k with | 1 => some (.pointer (some ⟨w.heap.size, 11, none⟩)) | 2 => some (i c.total) | 4 => some (.pointer (some ⟨w.heap.size, 12, none⟩)) | 5 => some (.bool c.credit) | 7 => some (.pointer (some ⟨w.heap.size, 13, none⟩)) | 8 => some (.string c.ref) | 12 => some (i 0) | _ => none) (fun k => match k with | 0 => L11 | 3 => L12 | 6 => L13 | _ => L14) (fun k => match k with | 0 => some 3 | 3 => some 6 | 6 => some 9 | 9 => some 10 | _ => none) (fun k => match k with | 10 => some (fun v W => ∃ u, v = .tuple #[u, i 0] ∧ IsSl u ∧ OwnB gB W u xs) | 11 => some (fun v W => IsSl v ∧ OwnB gB W v xs) | 13 => some (fun v W => IsSl v ∧ OwnB gB W v xs) | _ => none)) (by kernel_rfl) (by kernel_rfl) ?_ ?_ ?_ ?_
      · exact Reg4.in_of (n := 86) (by kernel_rfl) rfl
      · exact ⟨Below.drew HBH.out, fun _ _ _ _ _ h => (by cases h), fun _ => HOH.out⟩
      · intro idx o hj0 ho L a' w' hL hG hop
        have hj' : idx = 0 ∨ idx = 1 ∨ idx = 2 ∨ idx = 3 ∨ idx = 4 ∨ idx = 5 ∨ idx = 6 ∨ idx = 7 ∨ idx = 8 ∨ idx = 9 ∨ idx = 10 ∨ idx = 11 ∨ idx = 12 ∨ idx = 13 := by omega
        have hcel := (HK0.out.below hG.1 HLT.out).cell
        have hsz : gB ≤ w'.heap.size := Nat.le_trans (Nat.le_of_eq HGB.out.symm) hG.1.size
        rcases hj' with rfl | rfl | rfl | rfl | rfl | rfl | rfl | rfl | rfl | rfl | rfl | rfl | rfl | rfl
        all_goals
          obtain rfl := Option.some.inj ho
          clear ho hj0
        · skip
          have h4 : a'.tmps[4]?.getD undef = (.slice AF nF cF) := (Array.getD_eq_getD_getElem? ..).symm.trans (hop 4 (by simp [Op.operands, Call.operands]))
          refine Reg4.StepOk.mono (R := fun v W => v = (.slice AF nF cF) ∧ W = w') ?_ (fun v W h => ?_)
          · go_simp
            all_goals (try exact ⟨rfl, rfl⟩)
          · obtain ⟨rfl, rfl⟩ := h
            exact ch_read hG (by decide) ⟨⟨_, _, _, rfl⟩, fun hq => ch_none hG (setL_le (hq 3 rfl)) (by decide) (by decide)⟩
        · skip
          have h1 : a'.tmps[1]?.getD undef = .pointer (some ⟨w.heap.size, 0, none⟩) := (Array.getD_eq_getD_getElem? ..).symm.trans (hop 1 (by simp [Op.operands, Call.operands]))
          refine Reg4.StepOk.mono (R := fun v W => v = .pointer (some ⟨w.heap.size, 11, none⟩) ∧ W = w') ?_ (fun v W h => ?_)
          · go_simp
            all_goals (try exact ⟨rfl, rfl⟩)
          · obtain ⟨rfl, rfl⟩ := h
            exact ch_read hG (by decide) rfl
        · skip
          have h74 : a'.tmps[74]?.getD undef = .pointer (some ⟨w.heap.size, 11, none⟩) := (Array.getD_eq_getD_getElem? ..).symm.trans (show L 1 = true ∧ _ = _ from hop 74 (by simp [Op.operands, Call.operands])).2
          have q : w'.cell? ⟨w.heap.size, 11, none⟩ = some (i c.total) := hcel 11
          refine Reg4.StepOk.mono (R := fun v W => v = i c.total ∧ W = w') ?_ (fun v W h => ?_)
          · go_simp
            all_goals (try exact ⟨rfl, rfl⟩)
          · obtain ⟨rfl, rfl⟩ := h
            exact ch_read hG (by decide) rfl
        · skip
          obtain ⟨hlp, ⟨pA, pn, pc, hpv⟩, hpo⟩ : L 0 = true ∧ IsSl (a'.tmps.getD 73 undef) ∧ ((∀ q, some 3 = some q → L q = false) → OwnF gB w' (a'.tmps.getD 73 undef) L11) := hop 73 (by simp [Op.operands, Call.operands])
          replace hpo := hpo (fun q hq => by obtain rfl := Option.some.inj hq; exact hL)
          rw [hpv] at hpo
          have h73 : a'.tmps[73]?.getD undef = .slice pA pn pc := (Array.getD_eq_getD_getElem? ..).symm.trans hpv
          have h75 : a'.tmps[75]?.getD undef = i c.total := (Array.getD_eq_getD_getElem? ..).symm.trans (show L 2 = true ∧ _ = _ from hop 75 (by simp [Op.operands, Call.operands])).2
          refine Reg4.StepOk.mono (R := fun v W => IsSl v ∧ OwnF gB W v L12 ∧ Below gB w' W) ?_ (fun v W h => ?_)
          · go_simp
            refine (H12.out w' _ hsz hpo).mono ?_
            rintro e w5 ⟨u5, rfl, hsl5, ho5, hb5⟩
            exact ⟨_, rfl, hsl5, ho5, hb5⟩
          · obtain ⟨hsl5, ho5, hb5⟩ := h
            exact ch_call hG (by decide) (fun q hq h => absurd h (by revert q; decide)) hb5 ⟨hsl5, fun _ => ho5⟩ (by kernel_rfl)
        · skip
          have h1 : a'.tmps[1]?.getD undef = .pointer (some ⟨w.heap.size, 0, none⟩) := (Array.getD_eq_getD_getElem? ..).symm.trans (hop 1 (by simp [Op.operands, Call.operands]))
          refine Reg4.StepOk.mono (R := fun v W => v = .pointer (some ⟨w.heap.size, 12, none⟩) ∧ W = w') ?_ (fun v W h => ?_)
          · go_simp
            all_goals (try exact ⟨rfl, rfl⟩)
          · obtain ⟨rfl, rfl⟩ := h
            exact ch_read hG (by decide) rfl
        · skip
          have h77 : a'.tmps[77]?.getD undef = .pointer (some ⟨w.heap.size, 12, none⟩) := (Array.getD_eq_getD_getElem? ..).symm.trans (show L 4 = true ∧ _ = _ from hop 77 (by simp [Op.operands, Call.operands])).2
          have q : w'.cell? ⟨w.heap.size, 12, none⟩ = some (.bool c.credit) := hcel 12
          refine Reg4.StepOk.mono (R := fun v W => v = .bool c.credit ∧ W = w') ?_ (fun v W h => ?_)
          · go_simp
            all_goals (try exact ⟨rfl, rfl⟩)
          · obtain ⟨rfl, rfl⟩ := h
            exact ch_read hG (by decide) rfl
        · skip
          obtain ⟨hlp, ⟨pA, pn, pc, hpv⟩, hpo⟩ : L 3 = true ∧ IsSl (a'.tmps.getD 76 undef) ∧ ((∀ q, some 6 = some q → L q = false) → OwnF gB w' (a'.tmps.getD 76 undef) L12) := hop 76 (by simp [Op.operands, Call.operands])
          replace hpo := hpo (fun q hq => by obtain rfl := Option.some.inj hq; exact hL)
          rw [hpv] at hpo
          have h76 : a'.tmps[76]?.getD undef = .slice pA pn pc := (Array.getD_eq_getD_getElem? ..).symm.trans hpv
          have h78 : a'.tmps[78]?.getD undef = .bool c.credit := (Array.getD_eq_getD_getElem? ..).symm.trans (show L 5 = true ∧ _ = _ from hop 78 (by simp [Op.operands, Call.operands])).2
          refine Reg4.StepOk.mono (R := fun v W => IsSl v ∧ OwnF gB W v L13 ∧ Below gB w' W) ?_ (fun v W h => ?_)
          · go_simp
            refine (H13.out w' _ hsz hpo).mono ?_
            rintro e w5 ⟨u5, rfl, hsl5, ho5, hb5⟩
            exact ⟨_, rfl, hsl5, ho5, hb5⟩
          · obtain ⟨hsl5, ho5, hb5⟩ := h
            exact ch_call hG (by decide) (hp_of hG hlp (by decide) (by decide)) hb5 ⟨hsl5, fun _ => ho5⟩ (by kernel_rfl)
        · skip
          have h1 : a'.tmps[1]?.getD undef = .pointer (some ⟨w.heap.size, 0, none⟩) := (Array.getD_eq_getD_getElem? ..).symm.trans (hop 1 (by simp [Op.operands, Call.operands]))
          refine Reg4.StepOk.mono (R := fun v W => v = .pointer (some ⟨w.heap.size, 13, none⟩) ∧ W = w') ?_ (fun v W h => ?_)
          · go_simp
            all_goals (try exact ⟨rfl, rfl⟩)
          · obtain ⟨rfl, rfl⟩ := h
            exact ch_read hG (by decide) rfl
        · skip
          have h80 : a'.tmps[80]?.getD undef = .pointer (some ⟨w.heap.size, 13, none⟩) := (Array.getD_eq_getD_getElem? ..).symm.trans (show L 7 = true ∧ _ = _ from hop 80 (by simp [Op.operands, Call.operands])).2
          have q : w'.cell? ⟨w.heap.size, 13, none⟩ = some (.string c.ref) := hcel 13
          refine Reg4.StepOk.mono (R := fun v W => v = .string c.ref ∧ W = w') ?_ (fun v W h => ?_)
          · go_simp
            all_goals (try exact ⟨rfl, rfl⟩)
          · obtain ⟨rfl, rfl⟩ := h
            exact ch_read hG (by decide) rfl
        · skip
          obtain ⟨hlp, ⟨pA, pn, pc, hpv⟩, hpo⟩ : L 6 = true ∧ IsSl (a'.tmps.getD 79 undef) ∧ ((∀ q, some 9 = some q → L q = false) → OwnF gB w' (a'.tmps.getD 79 undef) L13) := hop 79 (by simp [Op.operands, Call.operands])
          replace hpo := hpo (fun q hq => by obtain rfl := Option.some.inj hq; exact hL)
          rw [hpv] at hpo
          have h79 : a'.tmps[79]?.getD undef = .slice pA pn pc := (Array.getD_eq_getD_getElem? ..).symm.trans hpv
          have h81 : a'.tmps[81]?.getD undef = .string c.ref := (Array.getD_eq_getD_getElem? ..).symm.trans (show L 8 = true ∧ _ = _ from hop 81 (by simp [Op.operands, Call.operands])).2
          refine Reg4.StepOk.mono (R := fun v W => IsSl v ∧ OwnF gB W v L14 ∧ Below gB w' W) ?_ (fun v W h => ?_)
          · go_simp
            refine (H14.out w' _ hsz hpo).mono ?_
            rintro e w5 ⟨u5, rfl, hsl5, ho5, hb5⟩
            exact ⟨_, rfl, hsl5, ho5, hb5⟩
          · obtain ⟨hsl5, ho5, hb5⟩ := h
            exact ch_call hG (by decide) (hp_of hG hlp (by decide) (by decide)) hb5 ⟨hsl5, fun _ => ho5⟩ (by kernel_rfl)
        · skip
          obtain ⟨hlp, ⟨pA, pn, pc, hpv⟩, hpo⟩ : L 9 = true ∧ IsSl (a'.tmps.getD 82 undef) ∧ ((∀ q, some 10 = some q → L q = false) → OwnF gB w' (a'.tmps.getD 82 undef) L14) := hop 82 (by simp [Op.operands, Call.operands])
          replace hpo := hpo (fun q hq => by obtain rfl := Option.some.inj hq; exact hL)
          rw [hpv] at hpo
          have h82 : a'.tmps[82]?.getD undef = .slice pA pn pc := (Array.getD_eq_getD_getElem? ..).symm.trans hpv
          refine Reg4.StepOk.mono (R := fun v W => (∃ u, v = .tuple #[u, i 0] ∧ IsSl u ∧ OwnB gB W u xs) ∧ Below gB w' W) ?_ (fun v W h => ?_)
          · go_simp
            refine (HPU.out w' _ hpo).mono ?_
            rintro e w5 ⟨u5, rfl, ho5, hb5⟩
            exact ⟨_, rfl, ⟨_, rfl, OwnB.isSl ho5, ho5.lower hsz⟩, hb5.mono hsz⟩
          · obtain ⟨hu5, hb5⟩ := h
            exact ch_call hG (by decide) (hp_of hG hlp (by decide) (by decide)) hb5 hu5 (by kernel_rfl)
        · skip
          obtain ⟨-, u, hu, hus, huo⟩ : L 10 = true ∧ ∃ u, a'.tmps.getD 83 undef = .tuple #[u, i 0] ∧ IsSl u ∧ OwnB gB w' u xs := hop 83 (by simp [Op.operands, Call.operands])
          have h83 : a'.tmps[83]?.getD undef = .tuple #[u, i 0] := (Array.getD_eq_getD_getElem? ..).symm.trans hu
          refine Reg4.StepOk.mono (R := fun v W => v = u ∧ W = w') ?_ (fun v W h => ?_)
          · go_simp
            all_goals (try exact ⟨rfl, rfl⟩)
          · obtain ⟨rfl, rfl⟩ := h
            exact ch_read hG (by decide) ⟨hus, huo⟩
        · skip
          obtain ⟨-, u, hu, hus, huo⟩ : L 10 = true ∧ ∃ u, a'.tmps.getD 83 undef = .tuple #[u, i 0] ∧ IsSl u ∧ OwnB gB w' u xs := hop 83 (by simp [Op.operands, Call.operands])
          have h83 : a'.tmps[83]?.getD undef = .tuple #[u, i 0] := (Array.getD_eq_getD_getElem? ..).symm.trans hu
          refine Reg4.StepOk.mono (R := fun v W => v = i 0 ∧ W = w') ?_ (fun v W h => ?_)
          · go_simp
            all_goals (try exact ⟨rfl, rfl⟩)
          · obtain ⟨rfl, rfl⟩ := h
            exact ch_read hG (by decide) rfl
        · skip
          obtain ⟨-, ⟨uA, un, uc, hu⟩, huo⟩ : L 11 = true ∧ IsSl (a'.tmps.getD 84 undef) ∧ OwnB gB w' (a'.tmps.getD 84 undef) xs := hop 84 (by simp [Op.operands, Call.operands])
          rw [hu] at huo
          have h84 : a'.tmps[84]?.getD undef = .slice uA un uc := (Array.getD_eq_getD_getElem? ..).symm.trans hu
          refine Reg4.StepOk.mono (R := fun v W => v = .slice uA un uc ∧ W = w') ?_ (fun v W h => ?_)
          · go_simp
            all_goals (try exact ⟨rfl, rfl⟩)
          · obtain ⟨rfl, rfl⟩ := h
            exact ch_read hG (by decide) ⟨⟨_, _, _, rfl⟩, huo⟩
      · intro L vals w' hL hG hΦ
        obtain ⟨-, ⟨A9, n9, c9, hv⟩, huo⟩ : L 13 = true ∧ IsSl (vals 13) ∧ OwnB gB w' (vals 13) xs := hΦ 13 (by omega)
        obtain ⟨-, hv1⟩ : L 12 = true ∧ vals 12 = i 0 := hΦ 12 (by omega)
        rw [hv] at huo
        have HU := Lib.hid huo
        have HBW := Lib.hid hG.1
        simp only [Reg4.puts, Reg4.dstOf, List.range, List.range.loop, if_true, List.drop_succ_cons, List.drop_zero, hv, hv1]
        clear hΦ hG hL huo hv hv1
        go_wp2_with fail
        go_ret2
        exact ⟨_, rfl, ⟨_, _, _, rfl⟩, HU.out.lower HLE.out, HB0.out.trans (HBW.out.mono HLE.out)⟩

set_option maxRecDepth 100000 in
set_option maxHeartbeats 4000000 in
theorem rencode (c : CDR) (A : Option Addr) (n k : Nat) (w : World) (ho : c.ok) (hi : ItmsAt w (.slice A n k) c.items) (hs : cdrE c = 0 → ShortS c ∧ c.items.length ≤ 32) :
    Calls Tryz.prog 19 #[.agg (cdrA c (.slice A n k))] w (EncPost c w) := by
  have HB0 := Lib.hid (below_new w (.cells (cdrA c (.slice A n k)) 24))
  have HV := Lib.hid (rvalid c A n k (w.alloc (.cells (cdrA c (.slice A n k)) 24)) ho (ItmsAt.call hi (below_new w _)) rfl)
  have HK0 := Lib.hid (cdr_new w c (.slice A n k))
  by_cases hE : cdrE c = 0
  · have HF : Hid (∀ W, Below w.heap.size w W → Calls Tryz.prog 42 #[.agg (cdrA c (.slice A n k))] W fun e w' => ∃ u, e = .returned (.tuple #[u, i 0]) ∧ IsSl u ∧ OwnB W.heap.size w' u (putF (recF c)) ∧ Below W.heap.size W w') := fun W hb => rfields c A n k W ho (ItmsAt.call hi hb) (hs hE).1 (hs hE).2 (itms_ok hi)
    have HR : Hid (encR c = (putF (recF c), 0)) := by show _ = _; unfold encR; rw [if_neg (fun e => e hE)]
    rw [hE] at HV
    clear ho hi hs hE
    have kc := HK0.out.cell
    go_enter Tryz.func19, Tryz.ntmps19
    go_wp2_with fail
    refine HV.out.mono ?_
    rintro e w1 ⟨rfl, hb⟩
    have HB1 := Lib.hid (below_call HB0.out hb)
    have HK1 := Lib.hid (HK0.out.call hb)
    clear kc hb
    have kc := HK1.out.cell
    go_wp2_with fail
    refine (HF.out _ HB1.out).mono ?_
    rintro e w2 ⟨u, rfl, ⟨UA, un, uk, rfl⟩, hu, hb⟩
    have HU := Lib.hid (hu.lower HB1.out.size)
    have HB2 := Lib.hid (below_call HB1.out hb)
    clear hu hb kc
    go_wp2_with fail
    go_ret2
    exact ⟨_, by rw [HR.out]; rfl, by rw [HR.out]; exact HU.out, HB2.out⟩
  · have HR : Hid (encR c = ([], cdrE c)) := by show _ = _; unfold encR; rw [if_pos hE]
    have hz : (cdrE c != 0) = true := by simpa using hE
    generalize cdrE c = E at *
    clear ho hi hs hE
    have kc := HK0.out.cell
    go_enter Tryz.func19, Tryz.ntmps19
    go_wp2_with fail
    refine HV.out.mono ?_
    rintro e w1 ⟨rfl, hb⟩
    have HB1 := Lib.hid (below_call HB0.out hb)
    clear hb kc
    go_wp2_with fail
    go_ret2
    exact ⟨_, by rw [HR.out]; rfl, by rw [HR.out]; exact Own.nil, HB1.out⟩
end EncW
end Go.Proofs.YtpmcdjpfolgpiaaGreatDoor
