/-
  A map whose keys are structs of two integers and whose elements are integers: it reads as a function; looked up, an entry made, an entry written. Over any program.
-/
import Derived.Maps.Keyed
import Derived.WideKeyEntry
import Derived.DeepKeys4
import Derived.Below
namespace Go.Proofs.YtndlhhiifmjieaaDoor
namespace Map2
set_option linter.unusedVariables false
open Go.ChangeMaps Go.WideElems Go.RowKit

abbrev I64 (n : Int) : Prop := -9223372036854775808 ≤ n ∧ n ≤ 9223372036854775807
def key2 (a b : Int) : Value := .agg #[.int .i64 a, .int .i64 b]
theorem key2_inj {a b c d : Int} (h : key2 a b = key2 c d) : a = c ∧ b = d := by
  unfold key2 at h
  injection h with h
  simpa using h

structure Keyd (P : Program) (k : TypeId) : Prop where
  K : Maps.Keyed P k
  lit : ∀ a b : Int, I64 a → I64 b → ∃ l, keyOf P k (key2 a b) = some l

def Ent (q : Int → Int → Int) (e : MapEntry) : Prop := ∃ a b, I64 a ∧ I64 b ∧ e.key = key2 a b ∧ e.val = .int .i64 (q a b)
structure Fits (es : Array MapEntry) (clock : Nat) (q : Int → Int → Int) : Prop where
  ent : ∀ e ∈ es.toList, Ent q e
  keys : ∀ (i j : Nat) (e e' : MapEntry), es.toList[i]? = some e → es.toList[j]? = some e' → e.key = e'.key → i = j
  born : (es.toList.map (·.born)).Nodup
  lt : ∀ e ∈ es.toList, e.born < clock
  rest : ∀ a b : Int, (∀ e ∈ es.toList, e.key ≠ key2 a b) → q a b = 0
def MapAt (w : World) (M : Nat) (q : Int → Int → Int) : Prop := ∃ es clock, w.heap[M]? = some (.map es clock) ∧ Fits es clock q

def setQ (q : Int → Int → Int) (a b n : Int) : Int → Int → Int := fun x y => if x = a ∧ y = b then n else q x y

theorem fits_empty : Fits #[] 0 (fun _ _ => 0) := ⟨fun e h => by simp at h, fun i j e e' h => by simp at h, by simp, fun e h => by simp at h, fun _ _ _ => rfl⟩

section
variable {P : Program} {w : World} {t k e : TypeId} {M : Nat} {q : Int → Int → Int} {es : Array MapEntry} {clock : Nat}
theorem MapAt.lt (h : MapAt w M q) : M < w.heap.size := by
  obtain ⟨es, c, h, _⟩ := h
  exact (Array.getElem?_eq_some_iff.1 h).1

theorem MapAt.kept {w' : World} (h : MapAt w M q) (hb : Below w.heap.size w w') : MapAt w' M q := by
  have := h.lt
  obtain ⟨es, c, h, F⟩ := h
  exact ⟨es, c, (hb.block M this).trans h, F⟩
theorem MapAt.same {w' : World} (h : MapAt w M q) (hb : w'.heap[M]? = w.heap[M]?) : MapAt w' M q := by
  obtain ⟨es, c, h, F⟩ := h
  exact ⟨es, c, hb.trans h, F⟩

theorem Fits.lits (F : Fits es clock q) (K : Keyd P k) : ∀ x ∈ es.toList, ∃ l, keyOf P k x.key = some l := by
  intro x hx
  obtain ⟨a, b, ha, hb, hk, _⟩ := F.ent x hx
  rw [hk]
  exact K.lit a b ha hb

theorem look (K : Keyd P k) (ht : P.underlying t = some (.map k e)) (hz : (zeroValue e).run P w = .ok (.int .i64 0) w) (h : MapAt w M q) {a b : Int} (ha : I64 a) (hb : I64 b) :
    (Instr.lookup t (.map (some M)) (key2 a b) false).run P w = .ok (.int .i64 (q a b)) w := by
  obtain ⟨es, clock, hh, F⟩ := h
  obtain ⟨l, hkey⟩ := K.lit a b ha hb
  rcases K.K.find w hkey es.toList (F.lits K) with ⟨h1, h2⟩ | ⟨j, e0, h1, h2, h3⟩
  · rw [F.rest a b h2]
    simp [Instr.lookup, run_underlying ht, MapKept.run_getObj_map hh, K.K.check w _ hkey, h1, hz, Result.andThen]
  · obtain ⟨a', b', _, _, hk, hv⟩ := F.ent e0 (List.mem_of_getElem? h2)
    rw [h3] at hk
    obtain ⟨rfl, rfl⟩ := key2_inj hk
    simp [Instr.lookup, run_underlying ht, MapKept.run_getObj_map hh, K.K.check w _ hkey, h1, hv, Result.andThen]

theorem fits_push (F : Fits es clock q) {a b n : Int} (ha : I64 a) (hb : I64 b) (h : ∀ x ∈ es.toList, x.key ≠ key2 a b) : Fits (es.push ⟨key2 a b, .int .i64 n, clock⟩) (clock + 1) (setQ q a b n) := by
  refine ⟨fun x hx => ?_, fun i j x x' hi hj he => ?_, ?_, fun x hx => ?_, fun c d hcd => ?_⟩
  · simp only [Array.toList_push, List.mem_append, List.mem_singleton] at hx
    rcases hx with hx | rfl
    · obtain ⟨c, d, hc, hd, hk, hv⟩ := F.ent x hx
      refine ⟨c, d, hc, hd, hk, ?_⟩
      have : ¬ (c = a ∧ d = b) := fun hcd => h x hx (by rw [hk, hcd.1, hcd.2])
      unfold setQ
      rw [if_neg this, hv]
    · refine ⟨a, b, ha, hb, rfl, ?_⟩
      unfold setQ
      rw [if_pos ⟨rfl, rfl⟩]
  · simp only [Array.toList_push] at hi hj
    rcases Nat.lt_or_ge i es.toList.length with h1 | h1
    · rw [List.getElem?_append_left h1] at hi
      rcases Nat.lt_or_ge j es.toList.length with h2 | h2
      · rw [List.getElem?_append_left h2] at hj
        exact F.keys i j x x' hi hj he
      · rw [List.getElem?_append_right h2] at hj
        have e1 := List.mem_of_getElem? hj
        simp only [List.mem_singleton] at e1
        subst e1
        exact absurd he (h x (List.mem_of_getElem? hi))
    · rw [List.getElem?_append_right h1] at hi
      have e0 := List.mem_of_getElem? hi
      simp only [List.mem_singleton] at e0
      subst e0
      rcases Nat.lt_or_ge j es.toList.length with h2 | h2
      · rw [List.getElem?_append_left h2] at hj
        exact absurd he.symm (h x' (List.mem_of_getElem? hj))
      · rw [List.getElem?_append_right h2] at hj
        have l1 := (List.getElem?_eq_some_iff.1 hi).1
        have l2 := (List.getElem?_eq_some_iff.1 hj).1
        simp at l1 l2
        simp at h1 h2
        omega
  · simp only [Array.toList_push, List.map_append, List.map_cons, List.map_nil]
    refine List.nodup_append.2 ⟨F.born, by simp, fun a ha c hc e1 => ?_⟩
    simp only [List.mem_singleton] at hc
    obtain ⟨x, hx, rfl⟩ := List.mem_map.1 ha
    have := F.lt x hx
    omega
  · simp only [Array.toList_push, List.mem_append, List.mem_singleton] at hx
    rcases hx with hx | rfl
    · have := F.lt x hx; omega
    · simp
  · have h1 : ¬ (c = a ∧ d = b) := fun x => hcd ⟨key2 a b, .int .i64 n, clock⟩ (by simp) (by rw [x.1, x.2])
    unfold setQ
    rw [if_neg h1]
    exact F.rest c d (fun x hx => hcd x (by simp [hx]))

theorem fits_set (F : Fits es clock q) {a b n : Int} {j : Nat} {e0 : MapEntry} (hj : es.toList[j]? = some e0) (hk : e0.key = key2 a b) : Fits (es.modify j (fun x => { x with val := .int .i64 n })) clock (setQ q a b n) := by
  have hl : (es.modify j (fun x => { x with val := .int .i64 n })).toList = es.toList.set j { e0 with val := .int .i64 n } := by
    rw [Array.toList_modify, modify_eq_set _ _ _ _ hj]
  have hjl : j < es.toList.length := (List.getElem?_eq_some_iff.1 hj).1
  obtain ⟨a', b', ha, hb, hk', hv⟩ := F.ent e0 (List.mem_of_getElem? hj)
  rw [hk] at hk'
  obtain ⟨rfl, rfl⟩ := key2_inj hk'
  have hget : ∀ i x, (es.toList.set j { e0 with val := .int .i64 n })[i]? = some x → ∃ y, es.toList[i]? = some y ∧ x.key = y.key ∧ x.born = y.born ∧ ((i = j ∧ x.val = .int .i64 n) ∨ (i ≠ j ∧ x = y)) := by
    intro i x hx
    rw [List.getElem?_set] at hx
    split at hx
    · rename_i e1
      subst e1
      injection hx with hx
      subst hx
      exact ⟨e0, hj, rfl, rfl, .inl ⟨rfl, rfl⟩⟩
    · rename_i e1
      exact ⟨x, hx, rfl, rfl, .inr ⟨fun h => e1 h.symm, rfl⟩⟩
  refine ⟨fun x hx => ?_, fun i i' x x' hi hi' he => ?_, ?_, fun x hx => ?_, fun c d hcd => ?_⟩
  · rw [hl] at hx
    obtain ⟨i, hi⟩ := List.getElem?_of_mem hx
    obtain ⟨y, hy, h1, h2, h3⟩ := hget i x hi
    obtain ⟨c, d, hc, hd, hkk, hvv⟩ := F.ent y (List.mem_of_getElem? hy)
    refine ⟨c, d, hc, hd, h1.trans hkk, ?_⟩
    rcases h3 with ⟨rfl, h3⟩ | ⟨h3, rfl⟩
    · rw [hj] at hy
      injection hy with hy
      subst hy
      rw [hk] at hkk
      obtain ⟨rfl, rfl⟩ := key2_inj hkk
      unfold setQ
      rw [if_pos ⟨rfl, rfl⟩, h3]
    · have : ¬ (c = a ∧ d = b) := fun hcd => h3 (F.keys i j x e0 hy hj (by rw [hkk, hk, hcd.1, hcd.2]))
      unfold setQ
      rw [if_neg this, hvv]
  · rw [hl] at hi hi'
    obtain ⟨y, hy, h1, _⟩ := hget i x hi
    obtain ⟨y', hy', h1', _⟩ := hget i' x' hi'
    exact F.keys i i' y y' hy hy' (by rw [← h1, ← h1', he])
  · rw [hl]
    have : (es.toList.set j { e0 with val := .int .i64 n }).map (·.born) = es.toList.map (·.born) := by
      apply List.ext_getElem?
      intro i
      rw [List.getElem?_map, List.getElem?_map]
      cases hx : (es.toList.set j { e0 with val := .int .i64 n })[i]? with
      | none =>
        rw [List.getElem?_eq_none_iff, List.length_set] at hx
        rw [List.getElem?_eq_none hx]
      | some x =>
        obtain ⟨y, hy, _, h2, _⟩ := hget i x hx
        rw [hy]
        simp [h2]
    rw [this]
    exact F.born
  · rw [hl] at hx
    obtain ⟨i, hi⟩ := List.getElem?_of_mem hx
    obtain ⟨y, hy, _, h2, _⟩ := hget i x hi
    rw [h2]
    exact F.lt y (List.mem_of_getElem? hy)
  · have hno : ∀ y ∈ es.toList, y.key ≠ key2 c d := by
      intro y hy hyk
      obtain ⟨i, hi⟩ := List.getElem?_of_mem hy
      have hil : i < es.toList.length := (List.getElem?_eq_some_iff.1 hi).1
      have hx : (es.toList.set j { e0 with val := .int .i64 n })[i]? = some ((es.toList.set j { e0 with val := .int .i64 n })[i]'(by rw [List.length_set]; exact hil)) := List.getElem?_eq_getElem _
      obtain ⟨y', hy', h1, _⟩ := hget i _ hx
      rw [hi] at hy'
      injection hy' with hy'
      subst hy'
      exact hcd _ (by rw [hl]; exact List.mem_of_getElem? hx) (h1.trans hyk)
    have h1 : ¬ (c = a ∧ d = b) := fun x => hno e0 (List.mem_of_getElem? hj) (by rw [hk, x.1, x.2])
    unfold setQ
    rw [if_neg h1]
    exact F.rest c d hno

theorem setQ_self (q : Int → Int → Int) (a b : Int) : setQ q a b (q a b) = q := by
  funext x y
  unfold setQ
  split
  · rename_i h; rw [h.1, h.2]
  · rfl
theorem setQ_twice (q : Int → Int → Int) (a b m n : Int) : setQ (setQ q a b m) a b n = setQ q a b n := by
  funext x y
  unfold setQ
  split <;> rfl

theorem heap_setBlock {w : World} {M : Nat} {o : Obj} (h : M < w.heap.size) : (setBlock w M o).heap[M]? = some o := by
  unfold setBlock
  simp [h]

/-- 'm[k] op= n': the entry, and its element. -/
theorem entry (K : Keyd P k) (ht : P.underlying t = some (.map k e)) (hz : ∀ u : World, (zeroValue e).run P u = .ok (.int .i64 0) u) (h : MapAt w M q) {a b : Int} (ha : I64 a) (hb : I64 b) :
    ∃ (st : Nat) (o : Obj), (Instr.mapEntry t (.map (some M)) (key2 a b)).run P w = .ok (.tuple #[.int .i64 (q a b), goInt st]) (setBlock w M o) ∧ MapAt (setBlock w M o) M q ∧
      ∀ (w2 : World) (n : Int), w2.heap[M]? = some o → ∃ o', (Instr.entryStore t (.map (some M)) (goInt st) (.int .i64 n)).run P w2 = .ok () (setBlock w2 M o') ∧ MapAt (setBlock w2 M o') M (setQ q a b n) := by
  have hM := h.lt
  obtain ⟨es, clock, hh, F⟩ := h
  obtain ⟨l, hkey⟩ := K.lit a b ha hb
  rcases K.K.find w hkey es.toList (F.lits K) with ⟨h1, h2⟩ | ⟨j, e0, h1, h2, h3⟩
  · have h0 := F.rest a b h2
    have F1 := fits_push F (n := 0) ha hb h2
    have eq : setQ q a b 0 = q := by rw [← h0]; exact setQ_self q a b
    rw [eq] at F1
    refine ⟨clock, .map (es.push ⟨key2 a b, .int .i64 0, clock⟩) (clock + 1), ?_, ⟨_, _, heap_setBlock hM, F1⟩, fun w2 n hw2 => ?_⟩
    · rw [h0]
      simp [Instr.mapEntry, run_underlying ht, MapKept.run_getObj_map hh, K.K.check w false hkey, h1, hz, MapKept.run_setObj_map _ hh, Result.andThen, setBlock]
    · have hlast : (es.push ⟨key2 a b, .int .i64 0, clock⟩).toList[es.size]? = some ⟨key2 a b, .int .i64 0, clock⟩ := by simp
      have hidx : (es.push ⟨key2 a b, .int .i64 0, clock⟩).findIdx? (fun e => ((e.born : Nat) : Int) == ((clock : Nat) : Int)) = some es.size := by
        rw [findIdx_arr]
        exact findIdx_born F1.born hlast
      refine ⟨.map ((es.push ⟨key2 a b, .int .i64 0, clock⟩).modify es.size (fun x => { x with val := .int .i64 n })) (clock + 1), ?_, ⟨_, _, heap_setBlock (Array.getElem?_eq_some_iff.1 hw2).1, fits_set F1 hlast rfl⟩⟩
      simp [Instr.entryStore, MapKept.run_getObj_map hw2, asInt, asIntOf, goInt, hidx, MapKept.run_setObj_map _ hw2, Result.andThen, setBlock]
  · have hj : es[j]? = some e0 := by simpa using h2
    obtain ⟨a', b', _, _, hk, hv⟩ := F.ent e0 (List.mem_of_getElem? h2)
    rw [h3] at hk
    obtain ⟨rfl, rfl⟩ := key2_inj hk
    have hsame : es.modify j (fun e => { e with key := key2 a b }) = es := by
      apply Array.ext'
      rw [Array.toList_modify, modify_eq_set _ _ _ _ h2]
      have : ({ e0 with key := key2 a b } : MapEntry) = e0 := by rw [← h3]
      rw [this]
      exact set_self _ _ _ h2
    refine ⟨e0.born, .map es clock, ?_, ⟨_, _, heap_setBlock hM, F⟩, fun w2 n hw2 => ?_⟩
    · simp [Instr.mapEntry, run_underlying ht, MapKept.run_getObj_map hh, K.K.check w false hkey, h1, hj, h3, hv, K.K.stays w hkey, hsame, MapKept.run_setObj_map _ hh, Result.andThen, setBlock]
    · have hidx : es.findIdx? (fun e => ((e.born : Nat) : Int) == ((e0.born : Nat) : Int)) = some j := by
        rw [findIdx_arr]
        exact findIdx_born F.born h2
      refine ⟨.map (es.modify j (fun x => { x with val := .int .i64 n })) clock, ?_, ⟨_, _, heap_setBlock (Array.getElem?_eq_some_iff.1 hw2).1, fits_set F h2 h3⟩⟩
      simp [Instr.entryStore, MapKept.run_getObj_map hw2, asInt, asIntOf, goInt, hidx, MapKept.run_setObj_map _ hw2, Result.andThen, setBlock]
end
end Map2
end Go.Proofs.YtndlhhiifmjieaaDoor
