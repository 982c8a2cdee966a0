/-
  The walk of the session's add.
  The walk of the session's add where a component is in force.
  The session's add, whole; the walk of the session's count.
  The walk of the session's round.
  The walk of the session's charges.
-/
import Derived.Test.YtpmcdjpfolgpiaaGreatDoorPriA
import Derived.Test.YtpmcdjpfolgpiaaGreatDoorBase
import Derived.Deep.QuietTactic
import Derived.BigQuiet
namespace Go.Proofs.YtpmcdjpfolgpiaaGreatDoor
namespace PriW
set_option linter.unusedSimpArgs false
set_option linter.unusedVariables false
open Go.RowKit CalW TarW Prc

theorem laidOut : laidOutB Tryz.prog = true := by kernel_rfl
theorem plCells : Tryz.prog.cellsOf 160 = 2 := by kernel_rfl
theorem intCells : Tryz.prog.cellsOf 3 = 1 := by kernel_rfl
theorem plLits (n : Nat) (a b : Int) (h1 : (Lit.int .i64 a).wf = true) (h2 : (Lit.int .i64 b).wf = true) : Tryz.prog.keyLits (n + 1 + 1) 160 [.int .i64 a, .int .i64 b] = some [.int .i64 a, .int .i64 b] := by
  simp [Program.keyLits, Tryz.underlying160, Tryz.underlying3, plCells, intCells, h1, h2]
theorem plFuel : ∃ n, Tryz.prog.types.size + 1 = n + 1 + 1 := by
  have h : decide (1 ≤ Tryz.prog.types.size) = true := by kernel_rfl
  have h := of_decide_eq_true h
  exact ⟨Tryz.prog.types.size - 1, by omega⟩
theorem plType : Tryz.prog.keyType 160 = true := by kernel_rfl
theorem plFormed (a b : Int) : Value.formed Tryz.prog 160 (Map2.key2 a b) = true := by
  unfold Map2.key2 Value.formed
  rw [Tryz.underlying160, plCells]
  rfl
theorem plLit (a b : Int) (ha : Map2.I64 a) (hb : Map2.I64 b) : ∃ l, keyOf Tryz.prog 160 (Map2.key2 a b) = some l := by
  obtain ⟨n, hn⟩ := plFuel
  have hl := plLits n a b (WalkArith.wf_i64 ha) (WalkArith.wf_i64 hb)
  rw [← hn] at hl
  have hf := plFormed a b
  have hk := plType
  refine ⟨.string (keyBytes [.int .i64 a, .int .i64 b]), ?_⟩
  unfold keyOf
  rw [Tryz.underlying160]
  simp only [hf, hk, Bool.and_self, if_true]
  have hc : (Map2.key2 a b).cells.toList = [.int .i64 a, .int .i64 b] := rfl
  rw [hc, hl]
  rfl
theorem plKey : Map2.Keyd Tryz.prog 160 := ⟨Maps.Keyed.of_law (deep_law_laid laidOut (m := 3) (by decide) (of_decide_eq_true (by kernel_rfl)) (by kernel_rfl) (by kernel_rfl)), plLit⟩
theorem zeroInt (w : World) : (zeroValue 3).run Tryz.prog w = .ok (.int .i64 0) w := by kernel_rfl

def AddPost (B M : Nat) (t : Trf) (u : Value) (c : Cx) (st : St) (w : World) (e : Ending) (w' : World) : Prop := e = .returned (.tuple #[]) ∧ SessAt w' B M t u c st ∧ Kp (two B M) w w'

set_option maxRecDepth 100000 in
set_option maxHeartbeats 4000000 in
theorem add_neg (B M : Nat) (t : Trf) (u : Value) (c : Cx) (st : St) (k m en po n : Int) (w : World) (hS : SessAt w B M t u c st) (hn : n ≤ 0) (P : Tar.Wh → Bool) :
    Calls Tryz.prog 124 #[.pointer (some ⟨B, 0, none⟩), i k, i m, i en, i po, i n] w (AddPost B M t u c (addS t.els P k n st) w) := by
  have HF : Hid (addS t.els P k n st = st) := by show _ = _; unfold addS; rw [if_pos hn]
  have HS := Lib.hid hS
  clear hS
  go_enter Tryz.func124, Tryz.ntmps124
  go_wp2_with fail
  go_end0
  exact ⟨rfl, by rw [HF.out]; exact HS.out, Kp.refl⟩

theorem addS_pos {es : List Elem} {P : Tar.Wh → Bool} {k n : Int} {st : St} (hn : ¬ n ≤ 0) : (place P k es 0 = none → addS es P k n st = st) ∧ (∀ j x, place P k es 0 = some (j, x) → addS es P k n st = ⟨bump st.q j k n, fun b => if b = k then some (j, x.step) else st.last b⟩) := by
  unfold addS
  rw [if_neg hn]
  exact ⟨fun h => by rw [h], fun j x h => by rw [h]⟩

set_option maxRecDepth 100000 in
set_option maxHeartbeats 4000000 in
theorem add_none (B M : Nat) (t : Trf) (u : Value) (c : Cx) (st : St) (k m en po n : Int) (w : World) (hS : SessAt w B M t u c st) (ht : Tab w) (h : ElemsAt w u t.els) (hst : 0 ≤ c.start) (hst' : c.start ≤ 268435456) (hm : 0 ≤ m) (hm' : m ≤ 1000000)
    (hn : ¬ n ≤ 0) (hp : place (c.P m en po) k t.els 0 = none) :
    Calls Tryz.prog 124 #[.pointer (some ⟨B, 0, none⟩), i k, i m, i en, i po, i n] w (AddPost B M t u c (addS t.els (c.P m en po) k n st) w) := by
  have HF := Lib.hid ((addS_pos (st := st) hn).1 hp)
  have HFI := Lib.hid (find B M t u c st.last k m en po w hS.1 ht h hst hst' hm hm')
  rw [hp] at HFI
  unfold FPost at HFI
  simp only [Option.map_none, compO, idxO, Option.isSome_none] at HFI
  have HS := Lib.hid hS
  clear hS hp h
  go_enter Tryz.func124, Tryz.ntmps124
  go_wp2_with fail
  refine HFI.out.mono ?_
  rintro e w1 ⟨rfl, hb1⟩
  go_wp2_with fail
  go_end0
  have hk : Kp (two B M) w (w1.alloc (.cells #[i 0, i 0, i 0, i 0] 82)) := (Kp.of hb1).call (below_new _ _)
  refine ⟨rfl, ?_, hk⟩
  rw [HF.out]
  exact ⟨(HS.out.1.call hb1).alloc _, HS.out.2.kept (below_alloc hb1 _)⟩
end PriW
end Go.Proofs.YtpmcdjpfolgpiaaGreatDoor

namespace Go.Proofs.YtpmcdjpfolgpiaaGreatDoor
namespace PriW
set_option linter.unusedSimpArgs false
set_option linter.unusedVariables false
open Go.RowKit CalW TarW Prc

def Law (M : Nat) (q : Int → Int → Int) (a b : Int) (st : Nat) (o : Obj) : Prop :=
  ∀ (w2 : World) (n : Int), w2.heap[M]? = some o → ∃ o', (Instr.entryStore 158 (.map (some M)) (goInt st) (.int .i64 n)).run Tryz.prog w2 = .ok () (ChangeMaps.setBlock w2 M o') ∧ Map2.MapAt (ChangeMaps.setBlock w2 M o') M (Map2.setQ q a b n)
def aG (W : World) (M : Nat) (q : Int → Int → Int) (w : World) : Prop := Map2.MapAt w M q ∧ Kp (fun k => k = M) W w
def aΦ (B M : Nat) (q : Int → Int → Int) (a b n : Int) (k : Nat) (y : Value) (w : World) : Prop := match k with
  | 0 => y = .pointer (some ⟨B, 0, none⟩)
  | 1 => y = .pointer (some ⟨B, 0, none⟩)
  | 2 => y = .pointer (some ⟨B, 11, none⟩)
  | 3 => y = .map (some M)
  | 4 => y = Map2.key2 a b
  | 5 => y = i (q a b)
  | 6 => y = i n
  | 7 => y = i (q a b + n)
  | 8 => ∃ (st : Nat) (o : Obj), y = .tuple #[i (q a b), goInt st] ∧ w.heap[M]? = some o ∧ Law M q a b st o
  | 9 => ∃ (st : Nat) (o : Obj), y = goInt st ∧ w.heap[M]? = some o ∧ Law M q a b st o
  | _ => True
theorem aΦ_any {B M : Nat} {q : Int → Int → Int} {a b n : Int} {k : Nat} {y : Value} {w w' : World} (h8 : k ≠ 8) (h9 : k ≠ 9) (h : aΦ B M q a b n k y w) : aΦ B M q a b n k y w' := by
  unfold aΦ at *
  split at h <;> first | exact h | (exact absurd rfl h8) | (exact absurd rfl h9) | trivial
theorem entryL {w : World} {M : Nat} {q : Int → Int → Int} {a b : Int} (h : Map2.MapAt w M q) (ha : Map2.I64 a) (hb : Map2.I64 b) :
    ∃ (st : Nat) (o : Obj), (Instr.mapEntry 158 (.map (some M)) (Map2.key2 a b)).run Tryz.prog w = .ok (.tuple #[.int .i64 (q a b), goInt st]) (ChangeMaps.setBlock w M o) ∧ Map2.MapAt (ChangeMaps.setBlock w M o) M q ∧ Law M q a b st o :=
  Map2.entry plKey Tryz.underlying158 zeroInt h ha hb
theorem lookL {w : World} {M : Nat} {q : Int → Int → Int} {a b : Int} (h : Map2.MapAt w M q) (ha : Map2.I64 a) (hb : Map2.I64 b) :
    (Instr.lookup 158 (.map (some M)) (Map2.key2 a b) false).run Tryz.prog w = .ok (.int .i64 (q a b)) w :=
  Map2.look plKey Tryz.underlying158 (zeroInt w) h ha hb

theorem Kp.drew {S : Nat → Prop} {w : World} : Kp S w w.drew := ⟨rfl, rfl, rfl, Nat.le_refl _, fun _ _ _ => rfl⟩
theorem Kp.alloc {S : Nat → Prop} {w : World} {o : Obj} : Kp S w (w.alloc o) := Kp.of (below_new w o)
theorem Kp.mono {S S' : Nat → Prop} {w w' : World} (h : Kp S w w') (hs : ∀ k, S k → S' k) : Kp S' w w' := ⟨h.os, h.tape, h.output, h.size, fun k hk hn => h.block k hk (fun x => hn (hs k x))⟩
theorem heap4 (w : World) (B M : Nat) (o1 o2 o3 o4 : Nat) (u1 u2 u3 u4 : Value) (h : M ≠ B) : (((((w.setCell ⟨B, o1, none⟩ u1).setCell ⟨B, o2, none⟩ u2).setCell ⟨B, o3, none⟩ u3).setCell ⟨B, o4, none⟩ u4).drew).heap[M]? = w.heap[M]? := by
  show ((((w.setCell ⟨B, o1, none⟩ u1).setCell ⟨B, o2, none⟩ u2).setCell ⟨B, o3, none⟩ u3).setCell ⟨B, o4, none⟩ u4).heap[M]? = _
  rw [Below.heap_setCell _ _ _ _ h, Below.heap_setCell _ _ _ _ h, Below.heap_setCell _ _ _ _ h, Below.heap_setCell _ _ _ _ h]
theorem two_l (B M : Nat) : two B M B := .inl rfl
theorem sess1 (t : Trf) (u : Value) (c : Cx) (M : Nat) (l : La) (j : Nat) (s : Int) : ((((sessA t u c M l).setIfInBounds 16 (i j)).setIfInBounds 17 (i 1)).setIfInBounds 18 (i s)).setIfInBounds 19 (.bool true) = sessA t u c M (fun b => if b = 1 then some (j, s) else l b) := rfl
theorem sess2 (t : Trf) (u : Value) (c : Cx) (M : Nat) (l : La) (j : Nat) (s : Int) : ((((sessA t u c M l).setIfInBounds 20 (i j)).setIfInBounds 21 (i 2)).setIfInBounds 22 (i s)).setIfInBounds 23 (.bool true) = sessA t u c M (fun b => if b = 2 then some (j, s) else l b) := rfl
theorem sess3 (t : Trf) (u : Value) (c : Cx) (M : Nat) (l : La) (j : Nat) (s : Int) : ((((sessA t u c M l).setIfInBounds 24 (i j)).setIfInBounds 25 (i 3)).setIfInBounds 26 (i s)).setIfInBounds 27 (.bool true) = sessA t u c M (fun b => if b = 3 then some (j, s) else l b) := rfl
theorem sess4 (t : Trf) (u : Value) (c : Cx) (M : Nat) (l : La) (j : Nat) (s : Int) : ((((sessA t u c M l).setIfInBounds 28 (i j)).setIfInBounds 29 (i 4)).setIfInBounds 30 (i s)).setIfInBounds 31 (.bool true) = sessA t u c M (fun b => if b = 4 then some (j, s) else l b) := rfl
theorem kp4 {S : Nat → Prop} {w : World} {B : Nat} (o1 o2 o3 o4 : Nat) (u1 u2 u3 u4 : Value) (h : S B) : Kp S w (((((w.setCell ⟨B, o1, none⟩ u1).setCell ⟨B, o2, none⟩ u2).setCell ⟨B, o3, none⟩ u3).setCell ⟨B, o4, none⟩ u4).drew) := ((((Kp.set h).trans (Kp.set h)).trans (Kp.set h)).trans (Kp.set h)).trans Kp.drew
theorem sessB1 {w : World} {B M : Nat} {t : Trf} {u : Value} {c : Cx} {l : La} (j : Nat) (s : Int) (h : Blk w B 165 (sessA t u c M l)) : Blk (((((w.setCell ⟨B, 16, none⟩ (i j)).setCell ⟨B, 17, none⟩ (i 1)).setCell ⟨B, 18, none⟩ (i s)).setCell ⟨B, 19, none⟩ (.bool true)).drew) B 165 (sessA t u c M (fun b => if b = 1 then some (j, s) else l b)) := by
  have := ((((h.set_ 16 (i j)).set_ 17 (i 1)).set_ 18 (i s)).set_ 19 (.bool true)).drew
  rwa [sess1] at this
theorem sessB2 {w : World} {B M : Nat} {t : Trf} {u : Value} {c : Cx} {l : La} (j : Nat) (s : Int) (h : Blk w B 165 (sessA t u c M l)) : Blk (((((w.setCell ⟨B, 20, none⟩ (i j)).setCell ⟨B, 21, none⟩ (i 2)).setCell ⟨B, 22, none⟩ (i s)).setCell ⟨B, 23, none⟩ (.bool true)).drew) B 165 (sessA t u c M (fun b => if b = 2 then some (j, s) else l b)) := by
  have := ((((h.set_ 20 (i j)).set_ 21 (i 2)).set_ 22 (i s)).set_ 23 (.bool true)).drew
  rwa [sess2] at this
theorem sessB3 {w : World} {B M : Nat} {t : Trf} {u : Value} {c : Cx} {l : La} (j : Nat) (s : Int) (h : Blk w B 165 (sessA t u c M l)) : Blk (((((w.setCell ⟨B, 24, none⟩ (i j)).setCell ⟨B, 25, none⟩ (i 3)).setCell ⟨B, 26, none⟩ (i s)).setCell ⟨B, 27, none⟩ (.bool true)).drew) B 165 (sessA t u c M (fun b => if b = 3 then some (j, s) else l b)) := by
  have := ((((h.set_ 24 (i j)).set_ 25 (i 3)).set_ 26 (i s)).set_ 27 (.bool true)).drew
  rwa [sess3] at this
theorem sessB4 {w : World} {B M : Nat} {t : Trf} {u : Value} {c : Cx} {l : La} (j : Nat) (s : Int) (h : Blk w B 165 (sessA t u c M l)) : Blk (((((w.setCell ⟨B, 28, none⟩ (i j)).setCell ⟨B, 29, none⟩ (i 4)).setCell ⟨B, 30, none⟩ (i s)).setCell ⟨B, 31, none⟩ (.bool true)).drew) B 165 (sessA t u c M (fun b => if b = 4 then some (j, s) else l b)) := by
  have := ((((h.set_ 28 (i j)).set_ 29 (i 4)).set_ 30 (i s)).set_ 31 (.bool true)).drew
  rwa [sess4] at this
/-- Behind 's.sums[at] += n'. -/
def SumR (M : Nat) (W : World) (q : Int → Int → Int) (w : World) : Prop := Map2.MapAt w M q ∧ Kp (fun k => k = M) W w
theorem setQ_bump (q : Int → Int → Int) (j k n : Int) : Map2.setQ q j k (q j k + n) = bump q j k n := by
  funext a b
  unfold Map2.setQ bump
  split
  · rename_i h; rw [h.1, h.2]
  · rfl

set_option maxRecDepth 100000 in
set_option maxHeartbeats 4000000 in
theorem add_some (B M : Nat) (t : Trf) (u : Value) (c : Cx) (st : St) (k m en po n : Int) (w : World) (hS : SessAt w B M t u c st) (hBM : B ≠ M) (ht : Tab w) (h : ElemsAt w u t.els) (hst : 0 ≤ c.start) (hst' : c.start ≤ 268435456) (hm : 0 ≤ m) (hm' : m ≤ 1000000)
    (hn : ¬ n ≤ 0) (j : Nat) (x : Comp) (hj : j ≤ 1000) (hp : place (c.P m en po) k t.els 0 = some (j, x)) (hk : k = 1 ∨ k = 2 ∨ k = 3 ∨ k = 4) (hq : 0 ≤ st.q j k) (hq' : st.q j k + n ≤ 4611686018427387904) :
    Calls Tryz.prog 124 #[.pointer (some ⟨B, 0, none⟩), i k, i m, i en, i po, i n] w (AddPost B M t u c (addS t.els (c.P m en po) k n st) w) := by
  have HF := Lib.hid ((addS_pos (st := st) hn).2 j x hp)
  have HFI := Lib.hid (find B M t u c st.last k m en po w hS.1 ht h hst hst' hm hm')
  rw [hp] at HFI
  unfold FPost at HFI
  simp only [Option.map_some, compO, idxO, Option.isSome_some] at HFI
  have HS := Lib.hid hS
  clear hS hp h
  obtain ⟨x0, x1, x2, x3⟩ := x
  have hkb : 1 ≤ k ∧ k ≤ 4 := by omega
  go_enter Tryz.func124, Tryz.ntmps124
  go_wp2_with fail
  refine HFI.out.mono ?_
  rintro e w1 ⟨rfl, hb1⟩
  have HB1 := Lib.hid hb1
  have b1 := HS.out.1.call hb1
  have m1 := HS.out.2.kept hb1
  have hBl := b1.lt
  have hMl := m1.lt
  clear hb1
  go_upto_region 4 with (fail)
  have b2 := (b1.alloc (.cells #[i x0, i x1, i x2, i x3] 82)).alloc (.cells #[i j, i k] 160)
  have m2 := (m1.kept (below_new w1 (.cells #[i x0, i x1, i x2, i x3] 82))).kept (below_new _ (.cells #[i j, i k] 160))
  have c2 := (Blk.new w1 82 #[i x0, i x1, i x2, i x3]).alloc (.cells #[i j, i k] 160)
  have p2 := Blk.new' (w := w1.alloc (.cells #[i x0, i x1, i x2, i x3] 82)) (g := w1.heap.size + 1) (by simp) 160 #[i j, i k]
  have HB2 := Lib.hid (below_alloc (below_alloc HB1.out (.cells #[i x0, i x1, i x2, i x3] 82)) (.cells #[i j, i k] 160))
  have hM0 : w1.heap.size ≠ M := by omega
  have hM1 : w1.heap.size + 1 ≠ M := by omega
  clear b1 m1 HB1
  generalize w1.heap.size + 1 = g1 at *
  generalize w1.heap.size = g0 at *
  generalize (w1.alloc (.cells #[i x0, i x1, i x2, i x3] 82)).alloc (.cells #[i j, i k] 160) = w2 at *
  have hji : Map2.I64 j := by unfold Map2.I64; omega
  have hki : Map2.I64 k := by unfold Map2.I64; omega
  have hwr : IntKind.i64.wrap (st.q j k + n) = st.q j k + n := IntWalk.i64_in _ (by omega)
  go_cut [] (fun wc => SumR M w2 (bump st.q j k n) wc)
  case first =>
    refine Reg4.region 10 (aG w2 M st.q) (aΦ B M st.q j k n) (by kernel_rfl) (by kernel_rfl) ?_ ⟨m2, Kp.drew⟩ ?_ ?_
    · exact Reg4.in_of (n := 52) (by kernel_rfl) rfl
    · intro idx o hj0 ho a' w' hG hop
      have hj' : idx = 0 ∨ idx = 1 ∨ idx = 2 ∨ idx = 3 ∨ idx = 4 ∨ idx = 5 ∨ idx = 6 ∨ idx = 7 ∨ idx = 8 ∨ idx = 9 := by omega
      have bc := (hG.2.blk b2 hBM).cell
      have pc := (hG.2.blk p2 hM1).cell
      rcases hj' with rfl | rfl | rfl | rfl | rfl | rfl | rfl | rfl | rfl | rfl
      all_goals
        obtain rfl := Option.some.inj ho
        clear ho hj0
      · have h0 : a'.tmps[0]?.getD undef = .pointer (some ⟨B, 0, none⟩) := (Array.getD_eq_getD_getElem? ..).symm.trans (hop 0 (by simp [Op.operands]))
        go_simp
        exact ⟨hG, rfl, fun _ _ _ _ _ h => h⟩
      · have h33 : a'.tmps[33]?.getD undef = .pointer (some ⟨B, 0, none⟩) := (Array.getD_eq_getD_getElem? ..).symm.trans (hop 33 (by simp [Op.operands]))
        go_simp
        exact ⟨hG, rfl, fun _ _ _ _ _ h => h⟩
      · have h34 : a'.tmps[34]?.getD undef = .pointer (some ⟨B, 0, none⟩) := (Array.getD_eq_getD_getElem? ..).symm.trans (hop 34 (by simp [Op.operands]))
        go_simp
        exact ⟨hG, rfl, fun _ _ _ _ _ h => h⟩
      · have h35 : a'.tmps[35]?.getD undef = .pointer (some ⟨B, 11, none⟩) := (Array.getD_eq_getD_getElem? ..).symm.trans (hop 35 (by simp [Op.operands]))
        go_simp
        exact ⟨hG, rfl, fun _ _ _ _ _ h => h⟩
      · have h15 : a'.tmps[15]?.getD undef = .pointer (some ⟨g1, 0, none⟩) := (Array.getD_eq_getD_getElem? ..).symm.trans (hop 15 (by simp [Op.operands]))
        go_simp
        exact ⟨hG, rfl, fun _ _ _ _ _ h => h⟩
      · have h36 : a'.tmps[36]?.getD undef = .map (some M) := (Array.getD_eq_getD_getElem? ..).symm.trans (hop 36 (by simp [Op.operands]))
        have h37 : a'.tmps[37]?.getD undef = Map2.key2 j k := (Array.getD_eq_getD_getElem? ..).symm.trans (hop 37 (by simp [Op.operands]))
        have hlk := lookL hG.1 hji hki
        go_simp
        exact ⟨hG, rfl, fun _ _ _ _ _ h => h⟩
      · have h5 : a'.tmps[5]?.getD undef = i n := (Array.getD_eq_getD_getElem? ..).symm.trans (hop 5 (by simp [Op.operands]))
        go_simp
        exact ⟨hG, rfl, fun _ _ _ _ _ h => h⟩
      · have h38 : a'.tmps[38]?.getD undef = i (st.q j k) := (Array.getD_eq_getD_getElem? ..).symm.trans (hop 38 (by simp [Op.operands]))
        have h39 : a'.tmps[39]?.getD undef = i n := (Array.getD_eq_getD_getElem? ..).symm.trans (hop 39 (by simp [Op.operands]))
        go_simp
        exact ⟨hG, rfl, fun _ _ _ _ _ h => h⟩
      · have h36 : a'.tmps[36]?.getD undef = .map (some M) := (Array.getD_eq_getD_getElem? ..).symm.trans (hop 36 (by simp [Op.operands]))
        have h37 : a'.tmps[37]?.getD undef = Map2.key2 j k := (Array.getD_eq_getD_getElem? ..).symm.trans (hop 37 (by simp [Op.operands]))
        obtain ⟨sn, ob, hrun, hM2, hlaw⟩ := entryL hG.1 hji hki
        go_simp
        refine ⟨⟨hM2, hG.2.trans (Kp.setB rfl)⟩, ⟨sn, ob, rfl, Map2.heap_setBlock hG.1.lt, hlaw⟩, fun k' u' hk' hne hr h => ?_⟩
        have h9 : k' ≠ 9 := fun e => by
          subst e
          exact Bool.noConfusion (hr.symm.trans (show _ = true by kernel_rfl))
        exact aΦ_any hne h9 h
      · have h41 : ∃ (sn : Nat) (o : Obj), a'.tmps[41]?.getD undef = .tuple #[i (st.q j k), goInt sn] ∧ w'.heap[M]? = some o ∧ Law M st.q j k sn o := by
          rw [← Array.getD_eq_getD_getElem?]; exact hop 41 (by simp [Op.operands])
        obtain ⟨sn, ob, h41, hMo, hlaw⟩ := h41
        go_simp
        exact ⟨hG, ⟨sn, ob, rfl, hMo, hlaw⟩, fun _ _ _ _ _ h => h⟩
    · intro vals w' hG hΦ
      have hv3 : vals 3 = .map (some M) := hΦ 3 (by omega)
      have hv7 : vals 7 = i (st.q j k + n) := hΦ 7 (by omega)
      obtain ⟨sn, ob, hv9, hMo, hlaw⟩ := hΦ 9 (by omega)
      obtain ⟨o', hrun, hM2⟩ := hlaw w' (st.q j k + n) hMo
      rw [setQ_bump] at hM2
      have hrun' : (Instr.entryStore 158 (.map (some M)) (.int .i64 (sn : Int)) (i (st.q j k + n))).run Tryz.prog w' = .ok () (ChangeMaps.setBlock w' M o') := hrun
      clear hrun
      have HR : Hid (SumR M w2 (bump st.q j k n) (ChangeMaps.setBlock w' M o')) := ⟨hM2, hG.2.trans (Kp.setB rfl)⟩
      simp only [Reg4.puts, Reg4.dstOf, List.range, List.range.loop, if_true, List.drop_succ_cons, List.drop_zero]
      clear hG hΦ hM2 hlaw hMo
      go_wp2_with fail
      go_meet
      exact HR.out
  case rest =>
    obtain ⟨w3, rfl⟩ : ∃ w3 : World, w3 = wc := ⟨_, rfl⟩
    have b3 := hcut.2.blk b2 hBM
    have c3 := hcut.2.blk c2 hM0
    have p3 := hcut.2.blk p2 hM1
    have bc := b3.cell
    have bf := b3.frozen
    have cc := c3.cell
    have pc := p3.cell
    have HM3 := Lib.hid hcut.1
    have HK3 := Lib.hid hcut.2
    clear hcut b2 m2 c2 p2 hji hki hwr
    rcases hk with rfl | rfl | rfl | rfl
    all_goals
      go_upto_region 5 with (fail)
      go_region
    all_goals
      go_end0
      refine ⟨rfl, ?_, ?_⟩
      · rw [HF.out]
        refine ⟨?_, HM3.out.same (heap4 _ _ _ _ _ _ _ _ _ _ _ (Ne.symm hBM))⟩
        with_reducible first | exact sessB1 j x2 b3 | exact sessB2 j x2 b3 | exact sessB3 j x2 b3 | exact sessB4 j x2 b3
      · exact ((Kp.of HB2.out).trans (HK3.out.mono (fun k hk => .inr hk))).trans (kp4 _ _ _ _ _ _ _ _ (two_l B M))
end PriW
end Go.Proofs.YtpmcdjpfolgpiaaGreatDoor

namespace Go.Proofs.YtpmcdjpfolgpiaaGreatDoor
namespace PriW
set_option linter.unusedSimpArgs false
set_option linter.unusedVariables false
open Go.RowKit CalW TarW Prc

theorem add (B M : Nat) (t : Trf) (u : Value) (c : Cx) (st : St) (T : Int) (k m en po n : Int) (w : World) (hS : SessAt w B M t u c st) (hBM : B ≠ M) (ht : Tab w) (h : ElemsAt w u t.els) (hst : 0 ≤ c.start) (hst' : c.start ≤ 268435456) (hm : 0 ≤ m) (hm' : m ≤ 1000000)
    (hI : Inv t.els T st) (hT : T + n ≤ 4611686018427387904) (hl : t.els.length ≤ 1000) (hk : k = 1 ∨ k = 2 ∨ k = 3 ∨ k = 4) :
    Calls Tryz.prog 124 #[.pointer (some ⟨B, 0, none⟩), i k, i m, i en, i po, i n] w (AddPost B M t u c (addS t.els (c.P m en po) k n st) w) := by
  by_cases hn : n ≤ 0
  · exact add_neg B M t u c st k m en po n w hS hn _
  · cases hp : place (c.P m en po) k t.els 0 with
    | none => exact add_none B M t u c st k m en po n w hS ht h hst hst' hm hm' hn hp
    | some jx =>
      obtain ⟨j, x⟩ := jx
      obtain ⟨q, hq, e1, _⟩ := place_spec t.els 0 hp
      have h1 := hI.low j k
      have h2 := hI.high j k
      exact add_some B M t u c st k m en po n w hS hBM ht h hst hst' hm hm' hn j x (by omega) hp hk h1 (by omega)

theorem enTo_bd {us : List Prc.Use} (hu : ∀ u ∈ us, 0 ≤ u.en ∧ u.en ≤ 1099511627776) : ∀ k, k ≤ us.length → 0 ≤ enTo us k ∧ enTo us k ≤ k * 1099511627776
  | 0, _ => by unfold enTo; simp
  | k + 1, hk => by
    have h1 := enTo_bd hu k (by omega)
    have h2 := hu us[k] (List.getElem_mem (by omega))
    rw [enTo_succ (by omega)]
    omega
def CntPost (B M : Nat) (t : Trf) (u : Value) (c : Cx) (st : St) (w : World) (e : Ending) (w' : World) : Prop := e = .returned (.tuple #[]) ∧ SessAt w' B M t u c st ∧ Kp (two B M) w w'

theorem pow0_pos {us : List Prc.Use} (h : 0 < us.length) : pow0 us = us[0].en := by
  cases us with
  | nil => simp at h
  | cons a l => rfl
theorem SessAt.alloc {w : World} {B M : Nat} {t : Trf} {u : Value} {c : Cx} {st : St} (h : SessAt w B M t u c st) (o : Obj) : SessAt (w.alloc o) B M t u c st := ⟨h.1.alloc o, h.2.kept (below_new w o)⟩

set_option maxRecDepth 100000 in
set_option maxHeartbeats 300000 in
theorem count (B M : Nat) (t : Trf) (u : Value) (c : Cx) (us : List Prc.Use) (v : Value) (w0 w : World) (hS : SessAt w B M t u c st0) (hBM : B ≠ M) (ht : Tab w0) (hb : Below w0.heap.size w0 w) (hlB : w0.heap.size ≤ B) (hlM : w0.heap.size ≤ M) (hE : ElemsAt w0 u t.els) (hU : UsesAt w0 v us)
    (hst : 0 ≤ c.start) (hst' : c.start ≤ 268435456) (hlen : us.length ≤ 20160) (hu : ∀ u ∈ us, 0 ≤ u.en ∧ u.en ≤ 1099511627776) (hl : t.els.length ≤ 1000) :
    Calls Tryz.prog 94 #[.pointer (some ⟨B, 0, none⟩), v] w (CntPost B M t u c (runTo t.els c us us.length) w) := by
  obtain ⟨A, cp, rfl, h1, h2⟩ := SliceAt.form hU
  unfold maxLen at h2
  have hkb : ∀ W, Kp (two B M) w W → Below w0.heap.size w0 W := fun W hk => hk.below hb hb.size (fun k hk => by rcases hk with rfl | rfl <;> assumption)
  have HADD := Lib.hid (fun (W : World) (st : St) (T k m en po n : Int) (hSt : SessAt W B M t u c st) (hk : Kp (two B M) w W) (hm : 0 ≤ m) (hm' : m ≤ 1000000) (hI : Inv t.els T st) (hT : T + n ≤ 4611686018427387904) (hkk : k = 1 ∨ k = 2 ∨ k = 3 ∨ k = 4) =>
    add B M t u c st T k m en po n W hSt hBM (ht.below (hkb W hk) ht.lt) (hE.call (hkb W hk)) hst hst' hm hm' hI hT hl hkk)
  have HINV := Lib.hid (runTo_inv t.els c us hu)
  have HEN := Lib.hid (enTo_bd hu)
  have HKB := Lib.hid hkb
  have HU := Lib.hid hU
  have HR0 : Hid (runTo t.els c us 0 = addS t.els (c.P 0 0 (pow0 us)) 1 1 st0) := rfl
  have HS := Lib.hid hS
  have HRS := Lib.hid (fun k => @runTo_succ t.els c us k)
  have HES := Lib.hid (fun k => @enTo_succ us k)
  clear hkb ht hE hU hS
  have HCUT : Hid (Calls Tryz.prog 124 #[.pointer (some ⟨B, 0, none⟩), i 1, i 0, i 0, i (pow0 us), i 1] w (AddPost B M t u c (runTo t.els c us 0) w)) := HADD.out w st0 0 1 0 0 (pow0 us) 1 HS.out Kp.refl (by omega) (by omega) (inv0 _) (by omega) (.inl rfl)
  clear HR0
  have HBB := Lib.hid hb
  clear hb
  go_enter Tryz.func94, Tryz.ntmps94
  go_upto_if 10 with (fail)
  go_cut [4] (fun s4 wc => s4 = i (pow0 us) ∧ wc = w)
  case first =>
    rcases Nat.eq_zero_or_pos us.length with hz | hz
    · have hnil : us = [] := List.eq_nil_of_length_eq_zero hz
      subst hnil
      go_wp2_with fail
      go_meet
      exact ⟨rfl, rfl⟩
    · have HP := Lib.hid (pow0_pos hz)
      obtain ⟨b, off, rfl, _, _, hrow⟩ := UsesAt.at_ HU.out hz
      obtain ⟨l0, l1⟩ := hrow w (Kept.of HBB.out)
      simp only [Nat.zero_mul, Nat.add_zero] at l0 l1
      clear hrow
      have hzz : (0 : Int) < (us.length : Int) := by omega
      go_wp2_with fail
      go_meet
      exact ⟨congrArg i HP.out.symm, rfl⟩
  case rest =>
    obtain ⟨rfl, rfl⟩ := hcut
    go_wp2_with fail
    refine HCUT.out.mono ?_
    rintro e w1 ⟨rfl, hS1, hK1⟩
    have HS1 := Lib.hid hS1
    have HK1 := Lib.hid hK1
    clear hS1 hK1 HCUT
    go_wp2_with fail
    go_loopg [5, 20] us.length (fun gg s5 s20 wr => ∃ kk : Nat, kk ≤ us.length ∧ us.length - kk ≤ gg ∧ s5 = i (enTo us kk) ∧ s20 = i kk ∧ Hid (SessAt wr B M t u c (runTo t.els c us kk)) ∧ Hid (Kp (two B M) wc wr))
    case atStart => exact ⟨0, Nat.zero_le _, by omega, rfl, rfl, HS1, HK1⟩
    case round =>
      obtain ⟨kk, hkk, hg, rfl, rfl, HSR, HKR⟩ := hrel
      clear HS1 HK1
      by_cases hlt : kk < us.length
      · have hltz : (kk : Int) < (us.length : Int) := by omega
        obtain ⟨b, off, rfl, _, _, hrow⟩ := UsesAt.at_ HU.out hlt
        obtain ⟨l0, l1⟩ := hrow wr (Kept.of (HKB.out wr HKR.out))
        clear hrow
        have HR2 := Lib.hid (HRS.out kk hlt)
        have HE2 := Lib.hid (HES.out kk hlt)
        have hen := HEN.out kk (by omega)
        have HIN := Lib.hid (HINV.out kk (by omega))
        obtain ⟨y1, y2⟩ := hu us[kk] (List.getElem_mem hlt)
        unfold minuteS at HR2
        generalize us[kk] = y at *
        obtain ⟨y, id⟩ := y
        simp only at *
        generalize runTo t.els c us kk = st at *
        generalize enTo us kk = en at *
        obtain ⟨stn, HSN⟩ : ∃ s, Hid (runTo t.els c us (kk + 1) = s) := ⟨_, rfl⟩
        obtain ⟨enn, HNN⟩ : ∃ s, Hid (enTo us (kk + 1) = s) := ⟨_, rfl⟩
        rw [HSN.out] at HR2
        rw [HNN.out] at HE2
        have HSA := Lib.hid (HSR.out.alloc (.cells #[i y, .bool id] 133))
        have HKA := Lib.hid (HKR.out.trans (Kp.alloc (S := two B M) (w := wr) (o := .cells #[i y, .bool id] 133)))
        have HC1 := Lib.hid (HADD.out _ st _ 2 kk en y y HSA.out HKA.out (by omega) (by omega) HIN.out (by omega) (.inr (.inl rfl)))
        have hu0 := Blk.new wr 133 #[i y, .bool id]
        have hn0 : wr.heap.size ≠ B ∧ wr.heap.size ≠ M := ⟨fun e => absurd HSR.out.1.lt (by omega), fun e => absurd HSR.out.2.lt (by omega)⟩
        have HUB := Lib.hid hu0
        have HNO := Lib.hid hn0
        clear hu0 hn0
        go_wp2_with fail
        refine HC1.out.mono ?_
        rintro e w2 ⟨rfl, hS2, hK2⟩
        have hu2 := hK2.blk HUB.out (fun h : _ = B ∨ _ = M => h.elim HNO.out.1 HNO.out.2)
        have uc := hu2.cell
        have HS2 := Lib.hid hS2
        have HK2 := Lib.hid (HKA.out.trans hK2)
        have HI2 := Lib.hid (HIN.out.add (P := c.P kk en y) (k := 2) y1)
        have HUB2 := Lib.hid hu2
        clear hS2 hK2 hu2 l0 l1 HC1 HUB HIN
        cases id with
        | true =>
          have HC2 := Lib.hid (HADD.out _ _ _ 4 kk en y 1 HS2.out HK2.out (by omega) (by omega) HI2.out (by omega) (.inr (.inr (.inr rfl))))
          have HR3 : Hid (stn = addS t.els (c.P kk en y) 4 1 (addS t.els (c.P kk en y) 2 y st)) := HR2.out
          clear HI2 HS2 HR2
          generalize addS t.els (c.P kk en y) 4 1 (addS t.els (c.P kk en y) 2 y st) = st3 at *
          go_wp2_with fail
          refine HC2.out.mono ?_
          rintro e w3 ⟨rfl, hS3, hK3⟩
          have hu3 := hK3.blk HUB2.out (fun h : _ = B ∨ _ = M => h.elim HNO.out.1 HNO.out.2)
          have ud := hu3.cell
          have HS3 : Hid (SessAt w3 B M t u c stn) := by show SessAt w3 B M t u c stn; rw [HR3.out]; exact hS3
          have HK3 := Lib.hid (HK2.out.trans hK3)
          clear hS3 hK3 hu3 uc HC2 HUB2 HR3
          go_wp2_with fail
          go_roundg (us.length - (kk + 1))
          case measure => omega
          case rel => exact ⟨kk + 1, by omega, by omega, congrArg i (HE2.out.symm.trans HNN.out.symm), by go_num, by rw [HSN.out]; exact HS3, HK3⟩
        | false =>
          have HC2 := Lib.hid (HADD.out _ _ _ 3 kk en y 1 HS2.out HK2.out (by omega) (by omega) HI2.out (by omega) (.inr (.inr (.inl rfl))))
          have HR3 : Hid (stn = addS t.els (c.P kk en y) 3 1 (addS t.els (c.P kk en y) 2 y st)) := HR2.out
          clear HI2 HS2 HR2
          generalize addS t.els (c.P kk en y) 3 1 (addS t.els (c.P kk en y) 2 y st) = st3 at *
          go_wp2_with fail
          refine HC2.out.mono ?_
          rintro e w3 ⟨rfl, hS3, hK3⟩
          have hu3 := hK3.blk HUB2.out (fun h : _ = B ∨ _ = M => h.elim HNO.out.1 HNO.out.2)
          have ud := hu3.cell
          have HS3 : Hid (SessAt w3 B M t u c stn) := by show SessAt w3 B M t u c stn; rw [HR3.out]; exact hS3
          have HK3 := Lib.hid (HK2.out.trans hK3)
          clear hS3 hK3 hu3 uc HC2 HUB2 HR3
          go_wp2_with fail
          go_roundg (us.length - (kk + 1))
          case measure => omega
          case rel => exact ⟨kk + 1, by omega, by omega, congrArg i (HE2.out.symm.trans HNN.out.symm), by go_num, by rw [HSN.out]; exact HS3, HK3⟩
      · have hltz : ¬ (kk : Int) < (us.length : Int) := by omega
        have hke : kk = us.length := by omega
        subst hke
        go_wp2_with fail
        go_end0
        exact ⟨rfl, HSR.out, HKR.out⟩
end PriW
end Go.Proofs.YtpmcdjpfolgpiaaGreatDoor

namespace Go.Proofs.YtpmcdjpfolgpiaaGreatDoor
namespace PriW
set_option linter.unusedSimpArgs false
set_option linter.unusedVariables false
open Go.RowKit CalW TarW Prc

def RndPost (B M : Nat) (t : Trf) (u : Value) (c : Cx) (st : St) (w : World) (e : Ending) (w' : World) : Prop := e = .returned (.tuple #[]) ∧ SessAt w' B M t u c st ∧ Kp (two B M) w w'
def rndTo (st : St) (K : Nat) : St := match K with
  | 2 => st
  | 3 => roundK 2 st
  | 4 => roundK 3 (roundK 2 st)
  | 5 => roundS st
  | _ => st
theorem rndTo_last (st : St) (K : Nat) : (rndTo st K).last = st.last := by
  unfold rndTo
  split <;> first | rfl | (unfold roundS; simp only [roundK_last]) | simp only [roundK_last]
theorem rndTo_q (st : St) (K : Nat) (h1 : 2 ≤ K) (h2 : K ≤ 4) (a : Int) : (rndTo st K).q a K = st.q a K := by
  unfold rndTo
  have : K = 2 ∨ K = 3 ∨ K = 4 := by omega
  rcases this with rfl | rfl | rfl
  · rfl
  · exact roundK_other 2 a 3 st (by decide)
  · show (roundK 3 (roundK 2 st)).q a 4 = _
    rw [roundK_other 3 a 4 _ (by decide), roundK_other 2 a 4 _ (by decide)]; rfl
theorem rndTo_succ (st : St) (K : Nat) (h1 : 2 ≤ K) (h2 : K ≤ 4) : rndTo st (K + 1) = roundK K (rndTo st K) := by
  have : K = 2 ∨ K = 3 ∨ K = 4 := by omega
  rcases this with rfl | rfl | rfl <;> rfl
theorem roundK_none {K : Int} {s : St} (h : s.last K = none) : roundK K s = s := by unfold roundK; rw [h]
theorem roundK_low {K : Int} {s : St} {j : Nat} {step : Int} (h : s.last K = some (j, step)) (h1 : step < 1) : roundK K s = s := by unfold roundK; rw [h]; simp only [if_pos h1]
theorem roundK_zero {K : Int} {s : St} {j : Nat} {step : Int} (h : s.last K = some (j, step)) (h1 : ¬ step < 1) (h0 : s.q j K % step = 0) : roundK K s = s := by
  unfold roundK
  rw [h]
  simp only [if_neg h1]
  have : (fun a b => if a = (j : Int) ∧ b = K then up (s.q a b) step else s.q a b) = s.q := by
    funext a b
    split
    · rename_i hh
      rw [hh.1, hh.2]
      unfold up
      rw [if_pos h0]
    · rfl
  rw [this]
theorem roundK_up {K : Int} {s : St} {j : Nat} {step : Int} (h : s.last K = some (j, step)) (h1 : ¬ step < 1) (h0 : ¬ s.q j K % step = 0) : roundK K s = ⟨bump s.q j K (step - s.q j K % step), s.last⟩ := by
  unfold roundK
  rw [h]
  simp only [if_neg h1]
  congr 1
  funext a b
  unfold bump
  split
  · rename_i hh
    rw [hh.1, hh.2]
    unfold up
    rw [if_neg h0]
  · rfl

theorem sess_last {w : World} {B M : Nat} {t : Trf} {u : Value} {c : Cx} {l : La} (h : Blk w B 165 (sessA t u c M l)) (K : Nat) (hK : K ≤ 4) :
    w.cell? ⟨B, 12 + K * 4, none⟩ = some (i (lE l K)) ∧ w.cell? ⟨B, 12 + K * 4 + 1, none⟩ = some (i (lK l K)) ∧ w.cell? ⟨B, 12 + K * 4 + 2, none⟩ = some (i (lS l K)) ∧ w.cell? ⟨B, 12 + K * 4 + 3, none⟩ = some (.bool (lB l K)) := by
  have : K = 0 ∨ K = 1 ∨ K = 2 ∨ K = 3 ∨ K = 4 := by omega
  rcases this with rfl | rfl | rfl | rfl | rfl <;> exact ⟨h.cell _, h.cell _, h.cell _, h.cell _⟩

def rΦ (B M g : Nat) (q : Int → Int → Int) (a b qq step r : Int) (k : Nat) (y : Value) (w : World) : Prop := match k with
  | 0 => y = .pointer (some ⟨B, 0, none⟩)
  | 1 => y = .pointer (some ⟨B, 0, none⟩)
  | 2 => y = .pointer (some ⟨B, 11, none⟩)
  | 3 => y = .map (some M)
  | 4 => y = .pointer (some ⟨g, 0, none⟩)
  | 5 => y = Map2.key2 a b
  | 6 => y = i qq
  | 7 => y = .pointer (some ⟨g, 2, none⟩)
  | 8 => y = i step
  | 9 => y = i r
  | 10 => y = i (step - r)
  | 11 => y = i (qq + (step - r))
  | 12 => ∃ (st : Nat) (o : Obj), y = .tuple #[i qq, goInt st] ∧ w.heap[M]? = some o ∧ Law M q a b st o
  | 13 => ∃ (st : Nat) (o : Obj), y = goInt st ∧ w.heap[M]? = some o ∧ Law M q a b st o
  | _ => True
theorem rΦ_any {B M g : Nat} {q : Int → Int → Int} {a b qq step r : Int} {k : Nat} {y : Value} {w w' : World} (h8 : k ≠ 12) (h9 : k ≠ 13) (h : rΦ B M g q a b qq step r k y w) : rΦ B M g q a b qq step r k y w' := by
  unfold rΦ at *
  split at h <;> first | exact h | (exact absurd rfl h8) | (exact absurd rfl h9) | trivial

set_option maxRecDepth 100000 in
set_option maxHeartbeats 400000 in
theorem round (B M : Nat) (t : Trf) (u : Value) (c : Cx) (st : St) (w : World) (hS : SessAt w B M t u c st) (hBM : B ≠ M) (hq : ∀ a b, 0 ≤ st.q a b ∧ st.q a b ≤ 2305843009213693952) (hl : ∀ (k : Int) (j : Nat) (s : Int), st.last k = some (j, s) → j ≤ 1000 ∧ s ≤ 1099511627776) :
    Calls Tryz.prog 95 #[.pointer (some ⟨B, 0, none⟩)] w (RndPost B M t u c (roundS st) w) := by
  have HS := Lib.hid hS
  have HQ := Lib.hid hq
  have HL := Lib.hid hl
  clear hS hq hl
  go_enter Tryz.func95, Tryz.ntmps95
  go_wp2_with fail
  go_loopg [2] 3 (fun gg s2 wr => ∃ K : Nat, 2 ≤ K ∧ K ≤ 5 ∧ 5 - K ≤ gg ∧ s2 = i K ∧ Hid (SessAt wr B M t u c (rndTo st K)) ∧ Hid (Kp (two B M) w wr))
  case atStart => exact ⟨2, by omega, by omega, by omega, rfl, HS, Kp.refl⟩
  case round =>
    obtain ⟨K, hK2, hK5, hg, rfl, HSR, HKR⟩ := hrel
    clear HS
    by_cases hlt : K ≤ 4
    · have hltz : (K : Int) ≤ 4 := by omega
      have hk0 : (0 : Int) ≤ (K : Int) := by omega
      have hk5 : (K : Int) < 5 := by omega
      obtain ⟨l0, l1, l2, l3⟩ := sess_last HSR.out.1 K hlt
      rw [rndTo_last] at l0 l1 l2 l3
      have HRS := Lib.hid (rndTo_succ st K hK2 hlt)
      have hll := rndTo_last st K
      cases hlast : st.last K with
      | none =>
        have HF : Hid (rndTo st (K + 1) = rndTo st K) := HRS.out.trans (roundK_none (by rw [hll]; exact hlast))
        simp only [lE, lK, lS, lB, hlast, Option.isSome] at l0 l1 l2 l3
        clear hll hlast HRS
        go_wp2_with fail
        go_roundg (5 - (K + 1))
        case measure => omega
        case rel => exact ⟨K + 1, by omega, by omega, by omega, by go_num, by rw [HF.out]; exact HSR.out.alloc _, HKR.out.trans Kp.alloc⟩
      | some js =>
        obtain ⟨j, step⟩ := js
        have hls : (rndTo st K).last K = some (j, step) := by rw [hll]; exact hlast
        obtain ⟨hj, hstep⟩ := HL.out K j step hlast
        obtain ⟨hq0, hq1⟩ := HQ.out j K
        have hqe := rndTo_q st K hK2 hlt j
        simp only [lE, lK, lS, lB, hlast, Option.isSome] at l0 l1 l2 l3
        clear hll hlast
        by_cases h1 : step < 1
        · have HF : Hid (rndTo st (K + 1) = rndTo st K) := HRS.out.trans (roundK_low hls h1)
          clear hls HRS hqe
          go_wp2_with fail
          go_roundg (5 - (K + 1))
          case measure => omega
          case rel => exact ⟨K + 1, by omega, by omega, by omega, by go_num, by rw [HF.out]; exact HSR.out.alloc _, HKR.out.trans Kp.alloc⟩
        · have HZ := Lib.hid (roundK_zero hls h1)
          have HU := Lib.hid (roundK_up hls h1)
          have hs1 := HSR.out.alloc (.cells #[i j, i K, i step, .bool true] 162)
          have hlb := Blk.new wr 162 #[i j, i K, i step, .bool true]
          have hk1 : Kp (two B M) w (wr.alloc (.cells #[i j, i K, i step, .bool true] 162)) := HKR.out.trans Kp.alloc
          have hgM : wr.heap.size ≠ M := fun e => absurd HSR.out.2.lt (by omega)
          have hji : Map2.I64 j := by unfold Map2.I64; omega
          have hki : Map2.I64 K := by unfold Map2.I64; omega
          have hlk := fun n => lookL (w := (wr.alloc (.cells #[i j, i K, i step, .bool true] 162)).drewN n) (hs1.2.same rfl) hji hki
          rw [hqe] at hlk HZ HU
          unfold Map2.key2 at hlk
          have r0 := Int.emod_nonneg (st.q j K) (show step ≠ 0 by omega)
          have r1 := Int.emod_lt_of_pos (st.q j K) (show 0 < step by omega)
          have htm : (st.q j K).tmod step = st.q j K % step := Int.tmod_eq_emod_of_nonneg hq0
          have HQE := Lib.hid hqe
          clear hls hqe
          generalize rndTo st K = sK at *
          generalize st.q j K % step = r at *
          go_upto_region 5 with (fail)
          have HS1 := Lib.hid hs1
          have HK1 := Lib.hid hk1
          have HLB := Lib.hid hlb
          have bc := hs1.1.cell
          have kc := hlb.cell
          clear hs1 hk1 hlb
          generalize wr.heap.size = g at *
          generalize wr.alloc (.cells #[i j, i K, i step, .bool true] 162) = w1 at *
          go_quiet (fail)
          by_cases hr0 : r = 0
          · have HF : Hid (rndTo st (K + 1) = sK) := HRS.out.trans (HZ.out hr0)
            subst hr0
            clear hlk htm HZ HU HRS HQE
            go_wp2_with fail
            go_roundg (5 - (K + 1))
            case measure => omega
            case rel => exact ⟨K + 1, by omega, by omega, by omega, by go_num, by rw [HF.out]; exact ⟨HS1.out.1.drewN _, HS1.out.2.same rfl⟩, HK1.out.trans ⟨rfl, rfl, rfl, Nat.le_refl _, fun _ _ _ => rfl⟩⟩
          · have hr2 : 0 < r := by omega
            have HF : Hid (rndTo st (K + 1) = ⟨bump sK.q j K (step - r), sK.last⟩) := HRS.out.trans (HU.out hr0)
            have hw1 : IntKind.i64.wrap (step - r) = step - r := IntWalk.i64_in _ (by omega)
            have hw2 : IntKind.i64.wrap (st.q j K + (step - r)) = st.q j K + (step - r) := IntWalk.i64_in _ (by omega)
            clear hlk htm HZ HU HRS
            go_upto_region 7 with (fail)
            have HS2 : Hid (SessAt (w1.drewN nq) B M t u c sK) := ⟨HS1.out.1.drewN _, HS1.out.2.same rfl⟩
            have HK2 : Hid (Kp (two B M) w (w1.drewN nq)) := HK1.out.trans ⟨rfl, rfl, rfl, Nat.le_refl _, fun _ _ _ => rfl⟩
            have HL2 : Hid (Blk (w1.drewN nq) g 162 #[i j, i K, i step, .bool true]) := HLB.out.drewN _
            clear HS1 HK1 HLB bc kc
            generalize w1.drewN nq = w2 at *
            refine Reg4.region 14 (aG w2 M sK.q) (rΦ B M g sK.q j K (st.q j K) step r) (by kernel_rfl) (by kernel_rfl) ?_ ⟨HS2.out.2, Kp.drew⟩ ?_ ?_
            · exact Reg4.in_of (n := 49) (by kernel_rfl) rfl
            · intro idx o hj0 ho a' w' hG hop
              have hj' : idx = 0 ∨ idx = 1 ∨ idx = 2 ∨ idx = 3 ∨ idx = 4 ∨ idx = 5 ∨ idx = 6 ∨ idx = 7 ∨ idx = 8 ∨ idx = 9 ∨ idx = 10 ∨ idx = 11 ∨ idx = 12 ∨ idx = 13 := by omega
              have bc := (hG.2.blk HS2.out.1 hBM).cell
              have kc := (hG.2.blk HL2.out hgM).cell
              rcases hj' with rfl | rfl | rfl | rfl | rfl | rfl | rfl | rfl | rfl | rfl | rfl | rfl | rfl | rfl
              all_goals
                obtain rfl := Option.some.inj ho
                clear ho hj0
              · have h0 : a'.tmps[0]?.getD undef = .pointer (some ⟨B, 0, none⟩) := (Array.getD_eq_getD_getElem? ..).symm.trans (hop 0 (by simp [Op.operands]))
                go_simp
                exact ⟨hG, rfl, fun _ _ _ _ _ h => h⟩
              · have h35 : a'.tmps[35]?.getD undef = .pointer (some ⟨B, 0, none⟩) := (Array.getD_eq_getD_getElem? ..).symm.trans (hop 35 (by simp [Op.operands]))
                go_simp
                exact ⟨hG, rfl, fun _ _ _ _ _ h => h⟩
              · have h36 : a'.tmps[36]?.getD undef = .pointer (some ⟨B, 0, none⟩) := (Array.getD_eq_getD_getElem? ..).symm.trans (hop 36 (by simp [Op.operands]))
                go_simp
                exact ⟨hG, rfl, fun _ _ _ _ _ h => h⟩
              · have h37 : a'.tmps[37]?.getD undef = .pointer (some ⟨B, 11, none⟩) := (Array.getD_eq_getD_getElem? ..).symm.trans (hop 37 (by simp [Op.operands]))
                go_simp
                exact ⟨hG, rfl, fun _ _ _ _ _ h => h⟩
              · have h3 : a'.tmps[3]?.getD undef = .pointer (some ⟨g, 0, none⟩) := (Array.getD_eq_getD_getElem? ..).symm.trans (hop 3 (by simp [Op.operands]))
                go_simp
                exact ⟨hG, rfl, fun _ _ _ _ _ h => h⟩
              · have h39 : a'.tmps[39]?.getD undef = .pointer (some ⟨g, 0, none⟩) := (Array.getD_eq_getD_getElem? ..).symm.trans (hop 39 (by simp [Op.operands]))
                go_simp
                exact ⟨hG, rfl, fun _ _ _ _ _ h => h⟩
              · have h38 : a'.tmps[38]?.getD undef = .map (some M) := (Array.getD_eq_getD_getElem? ..).symm.trans (hop 38 (by simp [Op.operands]))
                have h40 : a'.tmps[40]?.getD undef = Map2.key2 j K := (Array.getD_eq_getD_getElem? ..).symm.trans (hop 40 (by simp [Op.operands]))
                have hlk := lookL hG.1 hji hki
                rw [HQE.out] at hlk
                go_simp
                exact ⟨hG, rfl, fun _ _ _ _ _ h => h⟩
              · have h3 : a'.tmps[3]?.getD undef = .pointer (some ⟨g, 0, none⟩) := (Array.getD_eq_getD_getElem? ..).symm.trans (hop 3 (by simp [Op.operands]))
                go_simp
                exact ⟨hG, rfl, fun _ _ _ _ _ h => h⟩
              · have h42 : a'.tmps[42]?.getD undef = .pointer (some ⟨g, 2, none⟩) := (Array.getD_eq_getD_getElem? ..).symm.trans (hop 42 (by simp [Op.operands]))
                go_simp
                exact ⟨hG, rfl, fun _ _ _ _ _ h => h⟩
              · have h4 : a'.tmps[4]?.getD undef = i r := (Array.getD_eq_getD_getElem? ..).symm.trans (hop 4 (by simp [Op.operands]))
                go_simp
                exact ⟨hG, rfl, fun _ _ _ _ _ h => h⟩
              · have h43 : a'.tmps[43]?.getD undef = i step := (Array.getD_eq_getD_getElem? ..).symm.trans (hop 43 (by simp [Op.operands]))
                have h44 : a'.tmps[44]?.getD undef = i r := (Array.getD_eq_getD_getElem? ..).symm.trans (hop 44 (by simp [Op.operands]))
                go_simp
                exact ⟨hG, rfl, fun _ _ _ _ _ h => h⟩
              · have h41 : a'.tmps[41]?.getD undef = i (st.q j K) := (Array.getD_eq_getD_getElem? ..).symm.trans (hop 41 (by simp [Op.operands]))
                have h45 : a'.tmps[45]?.getD undef = i (step - r) := (Array.getD_eq_getD_getElem? ..).symm.trans (hop 45 (by simp [Op.operands]))
                go_simp
                exact ⟨hG, rfl, fun _ _ _ _ _ h => h⟩
              · have h38 : a'.tmps[38]?.getD undef = .map (some M) := (Array.getD_eq_getD_getElem? ..).symm.trans (hop 38 (by simp [Op.operands]))
                have h40 : a'.tmps[40]?.getD undef = Map2.key2 j K := (Array.getD_eq_getD_getElem? ..).symm.trans (hop 40 (by simp [Op.operands]))
                obtain ⟨sn, ob, hrun, hM2, hlaw⟩ := entryL hG.1 hji hki
                rw [HQE.out] at hrun
                go_simp
                refine ⟨⟨hM2, hG.2.trans (Kp.setB rfl)⟩, ⟨sn, ob, rfl, Map2.heap_setBlock hG.1.lt, hlaw⟩, fun k' u' hk' hne hr h => ?_⟩
                have h9 : k' ≠ 13 := fun e => by
                  subst e
                  exact Bool.noConfusion (hr.symm.trans (show _ = true by kernel_rfl))
                exact rΦ_any hne h9 h
              · have h47 : ∃ (sn : Nat) (o : Obj), a'.tmps[47]?.getD undef = .tuple #[i (st.q j K), goInt sn] ∧ w'.heap[M]? = some o ∧ Law M sK.q j K sn o := by
                  rw [← Array.getD_eq_getD_getElem?]; exact hop 47 (by simp [Op.operands])
                obtain ⟨sn, ob, h47, hMo, hlaw⟩ := h47
                go_simp
                exact ⟨hG, ⟨sn, ob, rfl, hMo, hlaw⟩, fun _ _ _ _ _ h => h⟩
            · intro vals w' hG hΦ
              have hv3 : vals 3 = .map (some M) := hΦ 3 (by omega)
              have hv11 : vals 11 = i (st.q j K + (step - r)) := hΦ 11 (by omega)
              obtain ⟨sn, ob, hv13, hMo, hlaw⟩ := hΦ 13 (by omega)
              obtain ⟨o', hrun, hM2⟩ := hlaw w' (st.q j K + (step - r)) hMo
              have hsb := setQ_bump sK.q j K (step - r)
              rw [HQE.out] at hsb
              rw [hsb] at hM2
              have hrun' : (Instr.entryStore 158 (.map (some M)) (.int .i64 (sn : Int)) (i (st.q j K + (step - r)))).run Tryz.prog w' = .ok () (ChangeMaps.setBlock w' M o') := hrun
              clear hrun hsb
              have HR : Hid (SumR M w2 (bump sK.q j K (step - r)) (ChangeMaps.setBlock w' M o')) := ⟨hM2, hG.2.trans (Kp.setB rfl)⟩
              simp only [Reg4.puts, Reg4.dstOf, List.range, List.range.loop, if_true, List.drop_succ_cons, List.drop_zero]
              clear hG hΦ hM2 hlaw hMo
              have HS3 : Hid (SessAt (ChangeMaps.setBlock w' M o') B M t u c (rndTo st (K + 1))) := by
                show SessAt _ _ _ _ _ _ _
                rw [HF.out]
                exact ⟨HR.out.2.blk HS2.out.1 hBM, HR.out.1⟩
              have HK3 := Lib.hid (HK2.out.trans (HR.out.2.mono (S' := two B M) (fun k hk => .inr hk)))
              clear HR
              go_wp2_with fail
              go_roundg (5 - (K + 1))
              case measure => omega
              case rel => exact ⟨K + 1, by omega, by omega, by omega, by go_num, HS3, HK3⟩
    · have hltz : ¬ (K : Int) ≤ 4 := by omega
      have hke : K = 5 := by omega
      subst hke
      go_wp2_with fail
      go_end0
      exact ⟨rfl, HSR.out, HKR.out⟩
end PriW
end Go.Proofs.YtpmcdjpfolgpiaaGreatDoor

namespace Go.Proofs.YtpmcdjpfolgpiaaGreatDoor
namespace PriW
set_option linter.unusedSimpArgs false
set_option linter.unusedVariables false
open Go.RowKit CalW TarW Prc

def ChgR0 (r : List Value) (x : Chg0) : Prop := r = MonW.chgL x
def Chgs0At (w : World) (v : Value) (xs : List Chg0) : Prop := SliceAt ChgR0 4 w v xs
theorem one_chg0 (x : Chg0) : ∀ u ∈ (#[i x.kind, i x.price, i x.tax, i x.qty] : Array Value).toList, u.oneCell' = true := by
  intro u hu
  simp at hu
  rcases hu with rfl | rfl | rfl | rfl <;> rfl
abbrev OwnC (base : Nat) (w : World) (v : Value) (xs : List Chg0) : Prop := Own ChgR0 145 4 base w v xs
theorem infoChg : (Tryz.prog.info? 145).map (fun i => (i.zero, i.size, i.bytes)) = some (some (.agg #[.int .i64 0, .int .i64 0, .int .i64 0, .int .i64 0]), 4, 32) := by kernel_rfl

theorem chgs_append (q : Int → Int → Int) : ∀ (l m : List Elem) (o : Nat), chgs q (l ++ m) o = chgs q l o ++ chgs q m (o + l.length)
  | [], m, o => by simp [chgs]
  | e :: l, m, o => by
    rw [List.cons_append, chgs, chgs, chgs_append q l m (o + 1), List.append_assoc, List.length_cons]
    congr 3
    omega
/-- What has been collected behind the first k elements; and of element k, behind the kinds below K. -/
def cTo (q : Int → Int → Int) (es : List Elem) (k : Nat) : List Chg0 := chgs q (es.take k) 0
def cK (e : Elem) (x : Int) (q : Int → Int → Int) : Nat → List Chg0
  | 2 => chgOf e x q 1
  | 3 => chgOf e x q 1 ++ chgOf e x q 2
  | 4 => (chgOf e x q 1 ++ chgOf e x q 2) ++ chgOf e x q 3
  | 5 => chgsE e x q
  | _ => []
theorem cK_succ (e : Elem) (x : Int) (q : Int → Int → Int) {K : Nat} (h1 : 1 ≤ K) (h2 : K ≤ 4) : cK e x q (K + 1) = cK e x q K ++ chgOf e x q K := by
  have : K = 1 ∨ K = 2 ∨ K = 3 ∨ K = 4 := by omega
  rcases this with rfl | rfl | rfl | rfl
  · rfl
  · rfl
  · rfl
  · show chgsE e x q = ((chgOf e x q 1 ++ chgOf e x q 2) ++ chgOf e x q 3) ++ chgOf e x q 4
    unfold chgsE
    simp only [List.append_assoc]
theorem cTo_succ (q : Int → Int → Int) {es : List Elem} {k : Nat} (hk : k < es.length) : cTo q es (k + 1) = cTo q es k ++ cK es[k] k q 5 := by
  unfold cTo
  rw [List.take_succ_eq_append_getElem hk, chgs_append, chgs, chgs, List.append_nil, List.length_take, Nat.min_eq_left (by omega), Nat.zero_add]
  rfl
theorem cTo_all (q : Int → Int → Int) (es : List Elem) : cTo q es es.length = chgs q es 0 := by unfold cTo; rw [List.take_length]
theorem chgOf_len (e : Elem) (x : Int) (q : Int → Int → Int) (K : Int) : (chgOf e x q K).length ≤ 1 := by
  unfold chgOf
  split
  · simp
  · split <;> simp
theorem cK_len (e : Elem) (x : Int) (q : Int → Int → Int) (K : Nat) : (cK e x q K).length ≤ 4 := by
  have h1 := chgOf_len e x q 1
  have h2 := chgOf_len e x q 2
  have h3 := chgOf_len e x q 3
  have h4 := chgOf_len e x q 4
  unfold cK
  split <;> (try simp only [chgsE, List.length_append, List.length_nil]) <;> omega
theorem cTo_len (q : Int → Int → Int) (es : List Elem) : ∀ k, k ≤ es.length → (cTo q es k).length ≤ 4 * k
  | 0, _ => by unfold cTo; rw [List.take_zero, chgs]; exact Nat.zero_le _
  | k + 1, hk => by
    rw [cTo_succ q (show k < es.length by omega), List.length_append]
    have h1 := cTo_len q es k (by omega)
    have h2 := cK_len (es[k]'(by omega)) k q 5
    omega
theorem chgOf_low {e : Elem} {x : Int} {q : Int → Int → Int} {K : Int} (h : q x K ≤ 0) : chgOf e x q K = [] := by unfold chgOf; rw [if_pos h]
theorem chgOf_none {e : Elem} {x : Int} {q : Int → Int → Int} {K : Int} (h : e.cs.find? (isK K) = none) : chgOf e x q K = [] := by unfold chgOf; rw [h]; split <;> rfl
theorem chgOf_some {e : Elem} {x : Int} {q : Int → Int → Int} {K : Int} {c : Comp} (h0 : ¬ q x K ≤ 0) (h : e.cs.find? (isK K) = some c) : chgOf e x q K = [⟨K, c.price, c.tax, q x K⟩] := by unfold chgOf; rw [if_neg h0, h]
theorem find_no {cs : List Comp} {p : Comp → Bool} {k : Nat} (hk : k < cs.length) (h : cs.find? p = (cs.drop k).find? p) (hp : p cs[k] = false) : cs.find? p = (cs.drop (k + 1)).find? p := by
  rw [h, List.drop_eq_getElem_cons hk, List.find?_cons, hp]
theorem find_yes {cs : List Comp} {p : Comp → Bool} {k : Nat} (hk : k < cs.length) (h : cs.find? p = (cs.drop k).find? p) (hp : p cs[k] = true) : cs.find? p = some cs[k] := by
  rw [h, List.drop_eq_getElem_cons hk, List.find?_cons, hp]
theorem find_end {cs : List Comp} {p : Comp → Bool} {k : Nat} (hk : cs.length ≤ k) (h : cs.find? p = (cs.drop k).find? p) : cs.find? p = none := by
  rw [h, List.drop_eq_nil_of_le hk]; rfl

def ChgPost (xs : List Chg0) (w : World) (e : Ending) (w' : World) : Prop := ∃ v, e = .returned v ∧ Chgs0At w' v xs ∧ Below w.heap.size w w'

set_option maxRecDepth 100000 in
set_option maxHeartbeats 400000 in
theorem charges (B M : Nat) (t : Trf) (u : Value) (c : Cx) (st : St) (w : World) (hS : SessAt w B M t u c st) (hE : ElemsAt w u t.els) (hn : t.els.length ≤ 1000) :
    Calls Tryz.prog 96 #[.pointer (some ⟨B, 0, none⟩)] w (ChgPost (chgs st.q t.els 0) w) := by
  obtain ⟨A, cp, rfl, h1, h2⟩ := SliceAt.form hE
  unfold maxLen at h2
  obtain ⟨es, hes⟩ : ∃ es : List Elem, t.els = es := ⟨_, rfl⟩
  rw [hes] at hE h1 hS hn ⊢
  clear hes
  obtain ⟨i0, hi0, hz0, hz1, hz2⟩ := info_parts infoChg
  have HS := Lib.hid hS
  have HE := Lib.hid hE
  have bc := hS.1.cell
  have HALL := Lib.hid (cTo_all st.q es)
  clear hS hE
  go_enter Tryz.func96, Tryz.ntmps96
  go_wp2_with fail
  clear bc
  go_loopg [3, 16] es.length (fun gg s3 s16 wr => ∃ (kk : Nat) (A1 : Option Addr) (n1 c1 : Nat), kk ≤ es.length ∧ es.length - kk ≤ gg ∧ s3 = .slice A1 n1 c1 ∧ s16 = i kk ∧ Hid (OwnC w.heap.size wr (.slice A1 n1 c1) (cTo st.q es kk)) ∧ Hid (Below w.heap.size w wr))
  case atStart => exact ⟨0, none, 0, 0, Nat.zero_le _, by omega, rfl, rfl, Own.nil, Below.refl _ _⟩
  case round =>
    obtain ⟨kk, A1, n1, c1, hkk, hg, rfl, rfl, HO, BW⟩ := hrel
    by_cases hlt : kk < es.length
    · have hltz : (kk : Int) < (es.length : Int) := by omega
      obtain ⟨b, off, u1, rfl, _, hu, hrow⟩ := ElemsAt.at_ HE.out hlt
      obtain ⟨l0, l1, l2, l3, l4, l5, l6, l7, l8, l9, l10, l11⟩ := hrow wr (Kept.of BW.out)
      have HCT := Lib.hid (cTo_succ st.q hlt)
      have HLN := Lib.hid (cTo_len st.q es kk hkk)
      clear hrow
      obtain ⟨A2, c2, rfl, h3, h4⟩ := SliceAt.form hu
      have HU := Lib.hid hu
      clear hu
      generalize es[kk] = e at *
      unfold maxLen at h4
      go_wp2_with fail
      have HB1 := Lib.hid (below_alloc BW.out (.cells #[.slice A2 e.cs.length c2, i e.wh.s, i e.wh.e, i e.wh.d, i e.wh.f, i e.wh.t, i e.wh.e0, i e.wh.e1, i e.wh.p0, i e.wh.p1, i e.wh.t0, i e.wh.t1] 65))
      have HEB := Lib.hid (Blk.new wr 65 #[.slice A2 e.cs.length c2, i e.wh.s, i e.wh.e, i e.wh.d, i e.wh.f, i e.wh.t, i e.wh.e0, i e.wh.e1, i e.wh.p0, i e.wh.p1, i e.wh.t0, i e.wh.t1])
      have HO1 := Lib.hid (Own.call HO.out (below_new wr (.cells #[.slice A2 e.cs.length c2, i e.wh.s, i e.wh.e, i e.wh.d, i e.wh.f, i e.wh.t, i e.wh.e0, i e.wh.e1, i e.wh.p0, i e.wh.p1, i e.wh.t0, i e.wh.t1] 65)))
      have HOX := HO
      clear HO l0 l1 l2 l3 l4 l5 l6 l7 l8 l9 l10 l11
      obtain ⟨wo, rfl⟩ : ∃ wo : World, wo = wr := ⟨_, rfl⟩
      have HAP0 : Hid (∀ k, (Value.slice A1 n1 c1).ownBlock = some k → k ≠ wo.heap.size) := fun k hk e => by have := (HOX.out.row k hk).2; omega
      generalize wo.heap.size = g5 at *
      generalize wo.alloc (.cells #[.slice A2 e.cs.length c2, i e.wh.s, i e.wh.e, i e.wh.d, i e.wh.f, i e.wh.t, i e.wh.e0, i e.wh.e1, i e.wh.p0, i e.wh.p1, i e.wh.t0, i e.wh.t1] 65) = w1 at *
      clear HOX
      go_loopg [3, 6] 5 (fun gk t3 s6 wm => ∃ (K : Nat) (A3 : Option Addr) (n3 c3 : Nat), 1 ≤ K ∧ K ≤ 5 ∧ 5 - K ≤ gk ∧ t3 = .slice A3 n3 c3 ∧ s6 = i K ∧ Hid (OwnC w.heap.size wm (.slice A3 n3 c3) (cTo st.q es kk ++ cK e kk st.q K)) ∧ Hid (Below w.heap.size w wm) ∧ Hid (Blk wm g5 65 #[.slice A2 e.cs.length c2, i e.wh.s, i e.wh.e, i e.wh.d, i e.wh.f, i e.wh.t, i e.wh.e0, i e.wh.e1, i e.wh.p0, i e.wh.p1, i e.wh.t0, i e.wh.t1]) ∧ Hid (∀ k, (Value.slice A3 n3 c3).ownBlock = some k → k ≠ g5))
      case atStart => exact ⟨1, A1, n1, c1, by omega, by omega, by omega, rfl, rfl, by show OwnC _ _ _ _; rw [show cK e kk st.q 1 = [] from rfl, List.append_nil]; exact HO1.out, HB1, HEB, HAP0⟩
      case round =>
        obtain ⟨K, A3, n3, c3, hK1, hK5, hgk, rfl, rfl, HOM, BM, HEM, HAP⟩ := hrel
        clear HO1 HB1 HEB BW
        by_cases hK : K ≤ 4
        · have hKz : (K : Int) ≤ 4 := by omega
          have hSB := HS.out.1.call BM.out
          have bc := hSB.cell
          have ec := HEM.out.cell
          have hji : Map2.I64 kk := by unfold Map2.I64; omega
          have hki : Map2.I64 K := by unfold Map2.I64; omega
          have hlk := lookL (HS.out.2.kept BM.out) hji hki
          unfold Map2.key2 at hlk
          have HCK := Lib.hid (cK_succ e kk st.q hK1 hK)
          have HLOW := Lib.hid (@chgOf_low e kk st.q K)
          have HNONE := Lib.hid (@chgOf_none e kk st.q K)
          have HSOME := Lib.hid (fun c => @chgOf_some e kk st.q K c)
          have HLK := Lib.hid (cK_len e kk st.q K)
          clear hSB
          generalize hqv : st.q kk K = qv at *
          have HQV := Lib.hid hqv
          clear hqv
          by_cases hq : qv ≤ 0
          · have HF : Hid (cK e kk st.q (K + 1) = cK e kk st.q K) := by
              show _ = _
              rw [HCK.out, HLOW.out hq, List.append_nil]
            clear HCK HLOW HNONE HSOME
            go_wp2_with fail
            go_roundg (5 - (K + 1))
            case measure => omega
            case rel => exact ⟨K + 1, A3, n3, c3, by omega, by omega, by omega, rfl, by go_num, by rw [HF.out]; exact HOM, BM, HEM, HAP⟩
          · have HNOT := Lib.hid hq
            go_wp2_with fail
            obtain ⟨wm, rfl⟩ : ∃ wm : World, wm = wr := ⟨_, rfl⟩
            clear hlk bc ec
            go_loopg [3, 38] e.cs.length (fun gc r3 s38 wz => ∃ m : Nat, m ≤ e.cs.length ∧ e.cs.length - m ≤ gc ∧ r3 = .slice A3 n3 c3 ∧ s38 = i m ∧ Hid (Below wm.heap.size wm wz) ∧ Hid (e.cs.find? (isK K) = (e.cs.drop m).find? (isK K)))
            case atStart => exact ⟨0, Nat.zero_le _, by omega, rfl, rfl, Below.refl _ _, rfl⟩
            case round =>
              obtain ⟨m, hm, hgc, rfl, rfl, BZ, HA⟩ := hrel
              have BWZ := Lib.hid (below_call BM.out BZ.out)
              by_cases hml : m < e.cs.length
              · have hmz : (m : Int) < (e.cs.length : Int) := by omega
                obtain ⟨bb, of, rfl, _, hrow⟩ := CompsAt.at_ HU.out hml
                obtain ⟨l0, l1, l2, l3⟩ := hrow wr (Kept.of BWZ.out)
                clear hrow
                have HFN := Lib.hid (find_no hml HA.out)
                have HFY := Lib.hid (find_yes hml HA.out)
                unfold isK at HFN HFY
                generalize e.cs[m] = y at *
                cases hy : (y.kind == (K : Int)) with
                | true =>
                  have HF : Hid (cK e kk st.q (K + 1) = cK e kk st.q K ++ [⟨K, y.price, y.tax, qv⟩]) := by
                    show _ = _
                    rw [HCK.out, HSOME.out y HNOT.out (HFY.out hy)]
                  clear HFN HFY HSOME HCK HLOW HNONE
                  have HB2 : Hid (Below w.heap.size w ((wr.alloc (.cells #[i y.kind, i y.price, i y.step, i y.tax] 82)).alloc (.cells #[i K, i y.price, i y.tax, i qv] 145))) := below_alloc (below_alloc BWZ.out _) _
                  have HO2 : Hid (OwnC w.heap.size ((wr.alloc (.cells #[i y.kind, i y.price, i y.step, i y.tax] 82)).alloc (.cells #[i K, i y.price, i y.tax, i qv] 145)) (.slice A3 n3 c3) (cTo st.q es kk ++ cK e kk st.q K)) := Own.call HOM.out (below_alloc (below_alloc BZ.out _) _)
                  have HE2 : Hid (Blk ((wr.alloc (.cells #[i y.kind, i y.price, i y.step, i y.tax] 82)).alloc (.cells #[i K, i y.price, i y.tax, i qv] 145)) g5 65 #[.slice (some ⟨bb, of, none⟩) e.cs.length c2, i e.wh.s, i e.wh.e, i e.wh.d, i e.wh.f, i e.wh.t, i e.wh.e0, i e.wh.e1, i e.wh.p0, i e.wh.p1, i e.wh.t0, i e.wh.t1]) := ((HEM.out.call BZ.out).alloc _).alloc _
                  have HLEN : Hid ((cTo st.q es kk ++ cK e kk st.q K).length ≤ 16777216) := by
                    show _ ≤ _
                    rw [List.length_append]
                    have := HLN.out
                    have := HLK.out
                    omega
                  go_wp2_with (at_builtin; refine wpList_growAt rfl (.tmp 46) (.tmp 54) 97 rfl i0 _ 32 Tryz.underlying97 hi0 hz0 hz1 hz2 rfl (by omega) rfl HO2.out (wr.heap.size + 1) ⟨K, y.price, y.tax, qv⟩ _ 145 rfl (by simpa using Blk.new (wr.alloc _) _ _) rfl rfl (one_chg0 ⟨K, y.price, y.tax, qv⟩) HLEN.out (by omega) HB2.out.size ?_)
                  rintro v' w2 hown2 hgr2 hbel2 ⟨A4, n4, c4, rfl⟩ hat
                  have HO3 : Hid (OwnC w.heap.size w2 (.slice A4 n4 c4) (cTo st.q es kk ++ cK e kk st.q (K + 1))) := by
                    show OwnC _ _ _ _
                    rw [HF.out]
                    exact hown2
                  have HB3 : Hid (Below w.heap.size w w2) := HB2.out.trans hbel2
                  have HE3 : Hid (Blk w2 g5 65 #[.slice (some ⟨bb, of, none⟩) e.cs.length c2, i e.wh.s, i e.wh.e, i e.wh.d, i e.wh.f, i e.wh.t, i e.wh.e0, i e.wh.e1, i e.wh.p0, i e.wh.p1, i e.wh.t0, i e.wh.t1]) := (hgr2.block g5 HE2.out.lt (fun ex => HAP.out g5 ex.symm rfl)).trans HE2.out
                  have HAP3 : Hid (∀ k, (Value.slice A4 n4 c4).ownBlock = some k → k ≠ g5) := by
                    intro k hk e
                    rcases hat with h | h
                    · exact HAP.out k (h ▸ hk) e
                    · have hl2 := HE2.out.lt
                      have hk2 := Option.some.inj (h.symm.trans hk)
                      exact absurd hl2 (by rw [← e, ← hk2]; simp)
                  clear hown2 hbel2 hgr2 hat
                  go_wp2_with fail
                  go_roundg (5 - (K + 1))
                  case measure => omega
                  case rel => exact ⟨K + 1, A4, n4, c4, by omega, by omega, by omega, rfl, by go_num, HO3, HB3, HE3, HAP3⟩
                | false =>
                  have HF := Lib.hid (HFN.out hy)
                  clear HFN HFY
                  go_wp2_with fail
                  go_roundg (e.cs.length - (m + 1))
                  case measure => omega
                  case rel => exact ⟨m + 1, by omega, by omega, rfl, by go_num, below_alloc BZ.out _, HF⟩
              · have hmz : ¬ (m : Int) < (e.cs.length : Int) := by omega
                have HF : Hid (cK e kk st.q (K + 1) = cK e kk st.q K) := by
                  show _ = _
                  rw [HCK.out, HNONE.out (find_end (by omega) HA.out), List.append_nil]
                clear HCK HLOW HNONE HSOME
                have HO2 := Lib.hid (Own.call HOM.out BZ.out)
                have HE2 := Lib.hid (HEM.out.call BZ.out)
                go_wp2_with fail
                go_roundg (5 - (K + 1))
                case measure => omega
                case rel => exact ⟨K + 1, A3, n3, c3, by omega, by omega, by omega, rfl, by go_num, by rw [HF.out]; exact HO2, BWZ, HE2, HAP⟩
        · have hKz : ¬ (K : Int) ≤ 4 := by omega
          have hke : K = 5 := by omega
          subst hke
          have HF : Hid (cTo st.q es kk ++ cK e kk st.q 5 = cTo st.q es (kk + 1)) := HCT.out.symm
          rw [HF.out] at HOM
          go_wp2_with fail
          go_roundg (es.length - (kk + 1))
          case measure => omega
          case rel => exact ⟨kk + 1, A3, n3, c3, by omega, by omega, rfl, by go_num, HOM, BM⟩
    · have hltz : ¬ (kk : Int) < (es.length : Int) := by omega
      have hke : kk = es.length := by omega
      subst hke
      rw [HALL.out] at HO
      go_wp2_with fail
      go_ret
      exact ⟨_, rfl, HO.out.at_ (by omega), BW.out⟩
end PriW
end Go.Proofs.YtpmcdjpfolgpiaaGreatDoor
