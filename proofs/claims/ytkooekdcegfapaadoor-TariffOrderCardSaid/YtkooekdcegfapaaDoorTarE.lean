/-
  The examples of the chapter hold (chargenetlaw41.exampleHolds).
-/
import Derived.Test.YtkooekdcegfapaaDoorTarZ
import Derived.Test.YtkooekdcegfapaaDoorTarP
import Derived.Test.YtkooekdcegfapaaDoorTarS
import Derived.Deep.RegionWith
import Derived.BigRegion
import Derived.Test.YtkooekdcegfapaaDoorReg
namespace Go.Proofs.YtkooekdcegfapaaDoor
namespace TarW
set_option linter.unusedSimpArgs false
set_option linter.unusedVariables false
open Go.RowKit CalW

abbrev freeA : Array Value := #[i 0, i 0, i 0, i (-1), i (-1), i (-1), i (-1), i (-1), i (-1), i (-1), i (-1)]
theorem free_ (w : World) : Calls Tryd.prog 18 #[] w fun e w' => e = .returned (.agg freeA) ∧ w' = w.alloc (.cells freeA 32) := by
  go_enter Tryd.func18, Tryd.ntmps18
  go_wp2_with fail
  refine bodyPost_ret (v := .agg freeA) (by simp [results, Tryd.results18, go_sem]) rfl ⟨rfl, rfl⟩
theorem energy_ (p : Int) (w : World) : Calls Tryd.prog 26 #[i p] w fun e w' => e = .returned (.agg #[i 2, i p, i 1, i 0]) ∧ w' = w.alloc (.cells #[i 2, i p, i 1, i 0] 40) := by
  go_enter Tryd.func26, Tryd.ntmps26
  go_wp2_with fail
  refine bodyPost_ret (v := .agg #[i 2, i p, i 1, i 0]) (by simp [results, Tryd.results26, go_sem]) rfl ⟨rfl, rfl⟩


abbrev nightA : Array Value := #[.int .i64 1320, .int .i64 360, .int .i64 32, .int .i64 (-1), .int .i64 (-1), .int .i64 (-1), .int .i64 (-1), .int .i64 (-1), .int .i64 (-1), .int .i64 (-1), .int .i64 (-1)]
abbrev partA : Array Value := #[.int .i64 0, .int .i64 0, .int .i64 0, .int .i64 (-1), .int .i64 (-1), .int .i64 (-1), .int .i64 600, .int .i64 (-1), .int .i64 (-1), .int .i64 (-1), .int .i64 (-1)]
def freeW : Tar.Wh := ⟨0, 0, 0, -1, -1, -1, -1, -1, -1, -1, -1⟩
def nightW : Tar.Wh := ⟨1320, 360, 32, -1, -1, -1, -1, -1, -1, -1, -1⟩
def partW : Tar.Wh := ⟨0, 0, 0, -1, -1, -1, 600, -1, -1, -1, -1⟩
def exEls : List Elem := [⟨[⟨2, 1, 1, 0⟩], partW⟩, ⟨[⟨2, 2, 1, 0⟩, ⟨4, 3, 1, 0⟩], freeW⟩]
def exT : Trf := ⟨⟨#[84]⟩, ⟨#[69, 85, 82]⟩, 1, 0, -1, exEls, 500, 500⟩

/-- A block read as a slice. -/
theorem SliceAt.of_blk {α : Type} {R : List Value → α → Prop} {size n g : Nat} {w : World} {t : TypeId} {cs : Array Value} {rs : List (List Value)} {xs : List α} (hs : 0 < size) (h : Blk w g t cs) (hc : cs.toList = rs.flatten) (hr : RowsOf R size rs xs) (hn : n = xs.length) (hm : n ≤ maxLen) :
    SliceAt R size w (.slice (some ⟨g, 0, none⟩) n n) xs := by
  have hl := flat_len rs hr.each
  have hsz : cs.size = n * size := by rw [← Array.length_toList, hc, hl, hr.1, hn]
  refine SliceAt.of_own (base := 0) (e := t) (rs := rs) hs ⟨by rw [hl, hr.1, hn], .inr ⟨g, n, cs, rfl, Nat.zero_le _, h, Nat.le_refl _, hm, hsz, ?_⟩⟩ hr hn
  rw [← hc, List.take_of_length_le (by rw [Array.length_toList, hsz]; exact Nat.le_refl _)]
theorem rows1 {α : Type} {R : List Value → α → Prop} {size : Nat} {r : List Value} {x : α} (hl : r.length = size) (h : R r x) : RowsOf R size [r] [x] := by
  refine ⟨rfl, fun j r' x' hr hx => ?_⟩
  match j, hr, hx with
  | 0, hr, hx =>
    have e1 : r = r' := by simpa using hr
    have e2 : x = x' := by simpa using hx
    subst e1; subst e2
    exact ⟨hl, h⟩
  | j + 1, hr, _ => simp at hr
theorem rowsC {α : Type} {R : List Value → α → Prop} {size : Nat} {r : List Value} {x : α} {rs : List (List Value)} {xs : List α} (hl : r.length = size) (h : R r x) (hr : RowsOf R size rs xs) : RowsOf R size (r :: rs) (x :: xs) := by
  refine ⟨by simp [hr.1], fun j r' x' h1 h2 => ?_⟩
  match j, h1, h2 with
  | 0, h1, h2 =>
    have e1 : r = r' := by simpa using h1
    have e2 : x = x' := by simpa using h2
    subst e1; subst e2
    exact ⟨hl, h⟩
  | j + 1, h1, h2 => exact hr.2 j r' x' (by simpa using h1) (by simpa using h2)
theorem exEls_at {w : World} {ge g1 g2 : Nat} (h1 : Blk w g1 40 #[i 2, i 1, i 1, i 0]) (h2 : Blk w g2 40 #[i 2, i 2, i 1, i 0, i 4, i 3, i 1, i 0])
    (he : Blk w ge 49 #[.slice (some ⟨g1, 0, none⟩) 1 1, i 0, i 0, i 0, i (-1), i (-1), i (-1), i 600, i (-1), i (-1), i (-1), i (-1), .slice (some ⟨g2, 0, none⟩) 2 2, i 0, i 0, i 0, i (-1), i (-1), i (-1), i (-1), i (-1), i (-1), i (-1), i (-1)]) :
    ElemsAt w (.slice (some ⟨ge, 0, none⟩) 2 2) exEls := by
  have c1 : CompsAt w (.slice (some ⟨g1, 0, none⟩) 1 1) [⟨2, 1, 1, 0⟩] := SliceAt.of_blk (rs := [compL ⟨2, 1, 1, 0⟩]) (by omega) h1 rfl (rows1 rfl rfl) rfl (by unfold maxLen; omega)
  have c2 : CompsAt w (.slice (some ⟨g2, 0, none⟩) 2 2) [⟨2, 2, 1, 0⟩, ⟨4, 3, 1, 0⟩] := SliceAt.of_blk (rs := [compL ⟨2, 2, 1, 0⟩, compL ⟨4, 3, 1, 0⟩]) (by omega) h2 rfl (rowsC rfl rfl (rows1 rfl rfl)) rfl (by unfold maxLen; omega)
  exact SliceAt.of_blk (rs := [.slice (some ⟨g1, 0, none⟩) 1 1 :: whL partW, .slice (some ⟨g2, 0, none⟩) 2 2 :: whL freeW]) (by omega) he rfl (rowsC rfl ⟨_, rfl, c1⟩ (rows1 rfl ⟨_, rfl, c2⟩)) rfl (by unfold maxLen; omega)

theorem all11 {w' : World} {n2 : Nat} {t : TypeId} (h : Blk w' n2 t partA) : w'.cell? ⟨n2, 0, none⟩ = partA[0]? ∧ w'.cell? ⟨n2, 1, none⟩ = partA[1]? ∧ w'.cell? ⟨n2, 2, none⟩ = partA[2]? ∧ w'.cell? ⟨n2, 3, none⟩ = partA[3]? ∧ w'.cell? ⟨n2, 4, none⟩ = partA[4]? ∧ w'.cell? ⟨n2, 5, none⟩ = partA[5]? ∧ w'.cell? ⟨n2, 6, none⟩ = partA[6]? ∧ w'.cell? ⟨n2, 7, none⟩ = partA[7]? ∧ w'.cell? ⟨n2, 8, none⟩ = partA[8]? ∧ w'.cell? ⟨n2, 9, none⟩ = partA[9]? ∧ w'.cell? ⟨n2, 10, none⟩ = partA[10]? :=
  ⟨h.cell 0, h.cell 1, h.cell 2, h.cell 3, h.cell 4, h.cell 5, h.cell 6, h.cell 7, h.cell 8, h.cell 9, h.cell 10⟩
abbrev c1A : Array Value := #[i 2, i 1, i 1, i 0]
abbrev c2A : Array Value := #[i 2, i 2, i 1, i 0, i 4, i 3, i 1, i 0]
abbrev eA (g1 g2 : Nat) : Array Value := #[.slice (some ⟨g1, 0, none⟩) 1 1, i 0, i 0, i 0, i (-1), i (-1), i (-1), i 600, i (-1), i (-1), i (-1), i (-1), .slice (some ⟨g2, 0, none⟩) 2 2, i 0, i 0, i 0, i (-1), i (-1), i (-1), i (-1), i (-1), i (-1), i (-1), i (-1)]
abbrev zeroT : Array Value := #[.string ⟨#[]⟩, .string ⟨#[]⟩, .int .i64 0, .int .i64 0, .int .i64 0, .slice none 0 0, .int .i64 0, .int .i64 0]
def exΦ (B : Nat) (k : Nat) (v : Value) (w : World) : Prop := match k with
  | 0 => v = .agg #[i 0, i (-1)]
  | 1 => v = .agg c1A
  | 2 => ∃ g, v = .slice (some ⟨g, 0, none⟩) 1 1 ∧ Blk w g 40 c1A
  | 3 => v = .agg partA
  | 4 => ∃ g, v = .agg #[.slice (some ⟨g, 0, none⟩) 1 1, i 0, i 0, i 0, i (-1), i (-1), i (-1), i 600, i (-1), i (-1), i (-1), i (-1)] ∧ Blk w g 40 c1A
  | 5 => v = .agg #[i 2, i 2, i 1, i 0]
  | 6 => v = .agg #[i 4, i 3, i 1, i 0]
  | 7 => ∃ g, v = .slice (some ⟨g, 0, none⟩) 2 2 ∧ Blk w g 40 c2A
  | 8 => v = .agg freeA
  | 9 => ∃ g, v = .agg #[.slice (some ⟨g, 0, none⟩) 2 2, i 0, i 0, i 0, i (-1), i (-1), i (-1), i (-1), i (-1), i (-1), i (-1), i (-1)] ∧ Blk w g 40 c2A
  | 10 => ∃ ge g1 g2, v = .slice (some ⟨ge, 0, none⟩) 2 2 ∧ Blk w ge 49 (eA g1 g2) ∧ Blk w g1 40 c1A ∧ Blk w g2 40 c2A
  | 11 => ∃ ge g1 g2, v = trfV exT (.slice (some ⟨ge, 0, none⟩) 2 2) ∧ Blk w ge 49 (eA g1 g2) ∧ Blk w g1 40 c1A ∧ Blk w g2 40 c2A
  | 12 => ∃ g, v = .pointer (some ⟨g, 0, none⟩) ∧ B ≤ g ∧ Blk w g 26 zeroT
  | _ => True
theorem exΦ_keep {B : Nat} {w w' : World} (h : Below w.heap.size w w') : ∀ k u, exΦ B k u w → exΦ B k u w' := by
  intro k u hk
  unfold exΦ at *
  split at hk
  · exact hk
  · exact hk
  · obtain ⟨g, a, b⟩ := hk; exact ⟨g, a, b.call h⟩
  · exact hk
  · obtain ⟨g, a, b⟩ := hk; exact ⟨g, a, b.call h⟩
  · exact hk
  · exact hk
  · obtain ⟨g, a, b⟩ := hk; exact ⟨g, a, b.call h⟩
  · exact hk
  · obtain ⟨g, a, b⟩ := hk; exact ⟨g, a, b.call h⟩
  · obtain ⟨ge, g1, g2, a, b, c, d⟩ := hk; exact ⟨ge, g1, g2, a, b.call h, c.call h, d.call h⟩
  · obtain ⟨ge, g1, g2, a, b, c, d⟩ := hk; exact ⟨ge, g1, g2, a, b.call h, c.call h, d.call h⟩
  · obtain ⟨g, a, c, b⟩ := hk; exact ⟨g, a, c, b.call h⟩
  · trivial
def ExRel (W : World) (s4 : Value) (wc : World) : Prop := ∃ g4 u, s4 = .pointer (some ⟨g4, 0, none⟩) ∧ W.heap.size ≤ g4 ∧ Blk wc g4 26 (trfA exT u) ∧ ElemsAt wc u exEls ∧ Below W.heap.size W wc

def dblT : Trf := ⟨⟨#[84]⟩, ⟨#[69, 85, 82]⟩, 1, 0, -1, [⟨[⟨2, 1, 1, 0⟩, ⟨2, 2, 1, 0⟩], freeW⟩], 500, 500⟩
def secT : Trf := ⟨⟨#[84]⟩, ⟨#[69, 85, 82]⟩, 2, 100, -1, exEls, 500, 500⟩
theorem fnd1 : findC (fun x => Tar.holds x 0 false 0 0 599 0) 2 exEls = some ⟨2, 1, 1, 0⟩ := by kernel_rfl
theorem fnd2 : findC (fun x => Tar.holds x 0 false 0 0 600 0) 2 exEls = some ⟨2, 2, 1, 0⟩ := by kernel_rfl
theorem fnd3 : findC (fun x => Tar.holds x 0 false 0 0 0 0) 4 exEls = some ⟨4, 3, 1, 0⟩ := by kernel_rfl
theorem ex_find1 (u : Value) (w : World) (ht : Tab w) (h : ElemsAt w u exEls) : Calls Tryd.prog 27 #[.agg (trfA exT u), zone 0 false, i 2, i 0, i 0, i 599, i 0] w fun e w' => e = .returned (.tuple #[.agg #[i 2, i 1, i 1, i 0], .bool true]) ∧ Below w.heap.size w w' := by
  refine (find_ exT u 0 false 2 0 0 599 0 w ht h).mono fun e w' hp => ?_
  rw [show exT.els = exEls from rfl, fnd1] at hp
  exact hp
theorem ex_find2 (u : Value) (w : World) (ht : Tab w) (h : ElemsAt w u exEls) : Calls Tryd.prog 27 #[.agg (trfA exT u), zone 0 false, i 2, i 0, i 0, i 600, i 0] w fun e w' => e = .returned (.tuple #[.agg #[i 2, i 2, i 1, i 0], .bool true]) ∧ Below w.heap.size w w' := by
  refine (find_ exT u 0 false 2 0 0 600 0 w ht h).mono fun e w' hp => ?_
  rw [show exT.els = exEls from rfl, fnd2] at hp
  exact hp
theorem ex_find3 (u : Value) (w : World) (ht : Tab w) (h : ElemsAt w u exEls) : Calls Tryd.prog 27 #[.agg (trfA exT u), zone 0 false, i 4, i 0, i 0, i 0, i 0] w fun e w' => e = .returned (.tuple #[.agg #[i 4, i 3, i 1, i 0], .bool true]) ∧ Below w.heap.size w w' := by
  refine (find_ exT u 0 false 4 0 0 0 0 w ht h).mono fun e w' hp => ?_
  rw [show exT.els = exEls from rfl, fnd3] at hp
  exact hp
theorem hol1 : Tar.holds nightW 0 false 1320 0 0 0 = true := by kernel_rfl
theorem hol2 : Tar.holds nightW 0 false 1799 0 0 0 = true := by kernel_rfl
theorem hol3 : Tar.holds nightW 0 false 0 0 0 0 = false := by kernel_rfl
theorem hol4 : Tar.holds nightW 0 false 1800 0 0 0 = false := by kernel_rfl
theorem ex_hold (a : Int) (w : World) (ht : Tab w) {b : Bool} (hb : Tar.holds nightW 0 false a 0 0 0 = b) : Calls Tryd.prog 28 #[.agg nightA, zone 0 false, i a, i 0, i 0, i 0] w fun e w' => e = .returned (.bool b) ∧ Below w.heap.size w w' := by
  subst hb
  exact holds_ nightW 0 false a 0 0 0 w ht
theorem val1 : validT exT = 0 := by kernel_rfl
theorem val2 : validT dblT = 9 := by kernel_rfl
theorem ex_valid1 (u : Value) (w : World) (h : ElemsAt w u exEls) : Calls Tryd.prog 12 #[.agg (trfA exT u)] w fun e w' => e = .returned (i 0) ∧ Below w.heap.size w w' := by
  have := valid_ exT u w h (by unfold maxLen; decide) (by unfold maxLen; decide)
  rw [val1] at this
  exact this
theorem ex_valid2 (u : Value) (w : World) (h : ElemsAt w u dblT.els) : Calls Tryd.prog 12 #[.agg (trfA dblT u)] w fun e w' => e = .returned (i 9) ∧ Below w.heap.size w w' := by
  have := valid_ dblT u w h (by unfold maxLen; decide) (by unfold maxLen; decide)
  rw [val2] at this
  exact this
theorem pck1 : pickT ⟨#[84]⟩ 99 [exT, secT] = (exT, 0) := by kernel_rfl
theorem pck2 : pickT ⟨#[84]⟩ 100 [exT, secT] = (secT, 0) := by kernel_rfl
theorem pck3 : pickT ⟨#[84]⟩ 0 [] = (trf0, 8) := by kernel_rfl
theorem small2 : ∀ t ∈ [exT, secT], t.els.length ≤ 65536 ∧ ∀ e ∈ t.els, e.cs.length ≤ 65536 := by
  intro t ht
  have : t.els = exEls := by
    simp at ht
    rcases ht with rfl | rfl <;> rfl
  rw [this]
  refine ⟨by simp [exEls], fun e he => ?_⟩
  simp [exEls] at he
  rcases he with rfl | rfl <;> simp
def ExPick (t : Trf) (n : Int) (w : World) (r : Ending) (w' : World) : Prop := ∃ A c, r = .returned (.tuple #[trfV t (.slice A t.els.length c), i n]) ∧ Below w.heap.size w w'
theorem trfs2 {w : World} {g : Nat} {u : Value} (h : ElemsAt w u exEls) (hb : Blk w g 26 #[.string exT.id, .string exT.cur, i exT.ver, i exT.fr, i exT.to, u, i exT.least, i exT.most, .string secT.id, .string secT.cur, i secT.ver, i secT.fr, i secT.to, u, i secT.least, i secT.most]) :
    TrfsAt w (.slice (some ⟨g, 0, none⟩) 2 2) [exT, secT] :=
  SliceAt.of_blk (rs := [[.string exT.id, .string exT.cur, i exT.ver, i exT.fr, i exT.to, u, i exT.least, i exT.most], [.string secT.id, .string secT.cur, i secT.ver, i secT.fr, i secT.to, u, i secT.least, i secT.most]]) (by omega) hb rfl
    (rowsC rfl ⟨u, rfl, h, by unfold maxLen; decide, by unfold maxLen; decide⟩ (rows1 rfl ⟨u, rfl, h, by unfold maxLen; decide, by unfold maxLen; decide⟩)) rfl (by unfold maxLen; omega)
theorem ex_pick {a : Int} {ts : List Trf} {t : Trf} {n : Int} (hp : pickT ⟨#[84]⟩ a ts = (t, n)) (v : Value) (w : World) (h : TrfsAt w v ts) (hn : ts.length ≤ 65536) (hes : ∀ t ∈ ts, t.els.length ≤ 65536 ∧ ∀ e ∈ t.els, e.cs.length ≤ 65536) :
    Calls Tryd.prog 23 #[v, .string ⟨#[84]⟩, i a] w (ExPick t n w) := by
  refine (pick_ ts v ⟨#[84]⟩ a w h hn hes).mono fun e w' hh => ?_
  obtain ⟨u, h1, h2, h3⟩ := hh
  rw [hp] at h1 h2
  obtain ⟨A, c, rfl, _, _⟩ := SliceAt.form h2
  exact ⟨A, c, h1, h3⟩
theorem dbl_at {w : World} {ge g1 : Nat} (h1 : Blk w g1 40 #[i 2, i 1, i 1, i 0, i 2, i 2, i 1, i 0]) (he : Blk w ge 49 #[.slice (some ⟨g1, 0, none⟩) 2 2, i 0, i 0, i 0, i (-1), i (-1), i (-1), i (-1), i (-1), i (-1), i (-1), i (-1)]) :
    ElemsAt w (.slice (some ⟨ge, 0, none⟩) 1 1) dblT.els := by
  have c1 : CompsAt w (.slice (some ⟨g1, 0, none⟩) 2 2) [⟨2, 1, 1, 0⟩, ⟨2, 2, 1, 0⟩] := SliceAt.of_blk (rs := [compL ⟨2, 1, 1, 0⟩, compL ⟨2, 2, 1, 0⟩]) (by omega) h1 rfl (rowsC rfl rfl (rows1 rfl rfl)) rfl (by unfold maxLen; omega)
  exact SliceAt.of_blk (rs := [.slice (some ⟨g1, 0, none⟩) 2 2 :: whL freeW]) (by omega) he rfl (rows1 rfl ⟨_, rfl, c1⟩) rfl (by unfold maxLen; omega)

structure Ctx (w0 : World) (n1 n3 g4 : Nat) (A : Option Addr) (c : Nat) (w : World) : Prop where
  night : Blk w n1 32 nightA
  zone : Blk w n3 34 #[.int .i64 0, .bool false]
  tar : Blk w g4 26 (trfA exT (.slice A 2 c))
  els : ElemsAt w (.slice A 2 c) exEls
  tab : Tab w
  bel : Below w0.heap.size w0 w
theorem Ctx.call {w0 w w' : World} {n1 n3 g4 c : Nat} {A : Option Addr} (h : Ctx w0 n1 n3 g4 A c w) (hb : Below w.heap.size w w') : Ctx w0 n1 n3 g4 A c w' :=
  ⟨h.night.call hb, h.zone.call hb, h.tar.call hb, h.els.call hb, h.tab.below hb h.tab.lt, below_call h.bel hb⟩

structure Ctx2 (w0 : World) (n1 n3 g4 : Nat) (A : Option Addr) (c p1 p2 p3 q0 q5 q1 : Nat) (w : World) : Prop where
  X : Ctx w0 n1 n3 g4 A c w
  r1 : Blk w p1 40 #[i 2, i 1, i 1, i 0]
  r2 : Blk w p2 40 #[i 2, i 2, i 1, i 0]
  r3 : Blk w p3 40 #[i 4, i 3, i 1, i 0]
  d : Blk w q0 26 (trfA dblT (.slice (some ⟨q5, 0, none⟩) 1 1))
  dE : ElemsAt w (.slice (some ⟨q5, 0, none⟩) 1 1) dblT.els
  s : Blk w q1 26 (trfA secT (.slice A 2 c))
theorem Ctx2.call {w0 w w' : World} {n1 n3 g4 c p1 p2 p3 q0 q5 q1 : Nat} {A : Option Addr} (h : Ctx2 w0 n1 n3 g4 A c p1 p2 p3 q0 q5 q1 w) (hb : Below w.heap.size w w') : Ctx2 w0 n1 n3 g4 A c p1 p2 p3 q0 q5 q1 w' :=
  ⟨h.X.call hb, h.r1.call hb, h.r2.call hb, h.r3.call hb, h.d.call hb, h.dE.call hb, h.s.call hb⟩

set_option maxRecDepth 100000 in
set_option maxHeartbeats 16000000 in
theorem example_holds (w : World) (ht : Tab w) : Calls Tryd.prog 11 #[] w fun e w' => e = .returned (.bool true) ∧ Below w.heap.size w w' := by
  go_enter Tryd.func11, Tryd.ntmps11
  go_upto_region 4 with (go_at_call 18; refine (free_ _).mono ?_; rintro e w' ⟨rfl, rfl⟩)
  have hB := below_alloc (below_alloc (below_alloc (below_alloc (below_new w (.cells freeA 32)) (.cells freeA 32)) (.cells nightA 32)) (.cells partA 32)) (.cells #[.int .i64 0, .bool false] 34)
  have k1 := ((Blk.newG (w := (w.alloc (.cells freeA 32)).alloc (.cells freeA 32)) (g := w.heap.size + 1 + 1) (by simp) 32 nightA).alloc (.cells partA 32)).alloc (.cells #[.int .i64 0, .bool false] 34)
  have k2 := (Blk.newG (w := ((w.alloc (.cells freeA 32)).alloc (.cells freeA 32)).alloc (.cells nightA 32)) (g := w.heap.size + 1 + 1 + 1) (by simp) 32 partA).alloc (.cells #[.int .i64 0, .bool false] 34)
  have k3 := Blk.newG (w := (((w.alloc (.cells freeA 32)).alloc (.cells freeA 32)).alloc (.cells nightA 32)).alloc (.cells partA 32)) (g := w.heap.size + 1 + 1 + 1 + 1) (by simp) 34 #[.int .i64 0, .bool false]
  generalize ((((w.alloc (.cells freeA 32)).alloc (.cells freeA 32)).alloc (.cells nightA 32)).alloc (.cells partA 32)).alloc (.cells #[.int .i64 0, .bool false] 34) = W at *
  generalize w.heap.size + 1 + 1 + 1 + 1 = n3 at *
  generalize w.heap.size + 1 + 1 + 1 = n2 at *
  generalize w.heap.size + 1 + 1 = n1 at *
  go_cut [4] (fun s4 wc => ExRel W s4 wc)
  case first =>
    have k2c := k2
    refine Reg.region 13 (fun w' => Below W.heap.size W w') (exΦ W.heap.size) (by kernel_rfl) (by kernel_rfl) ?_ (Below.drew (Below.refl _ _)) ?_ ?_
    · exact Reg.in_of (n := 150) (by kernel_rfl) rfl
    · intro j o hj ho a' w' hG hop
      have hj' : j = 0 ∨ j = 1 ∨ j = 2 ∨ j = 3 ∨ j = 4 ∨ j = 5 ∨ j = 6 ∨ j = 7 ∨ j = 8 ∨ j = 9 ∨ j = 10 ∨ j = 11 ∨ j = 12 := by omega
      have bc := (k2c.call hG).cell
      rcases hj' with rfl | rfl | rfl | rfl | rfl | rfl | rfl | rfl | rfl | rfl | rfl | rfl | rfl
      all_goals
        obtain rfl := Option.some.inj ho
        clear ho hj
      · go_simp
        exact ⟨hG, rfl, fun _ _ _ h => h⟩
      · go_simp
        refine (energy_ 1 w').mono ?_
        rintro e w'' ⟨rfl, rfl⟩
        exact ⟨_, rfl, below_alloc hG _, rfl, fun k u _ h => exΦ_keep (below_new _ _) k u h⟩
      · skip
        have h28 : a'.tmps[28]?.getD undef = .agg c1A := (Array.getD_eq_getD_getElem? ..).symm.trans (hop 28 (by simp [Op.operands]))
        go_simp
        exact ⟨below_alloc hG _, ⟨_, rfl, Blk.new _ _ _⟩, fun k u _ h => exΦ_keep (below_new _ _) k u h⟩
      · skip
        have h2 : a'.tmps[2]?.getD undef = .pointer (some ⟨n2, 0, none⟩) := (Array.getD_eq_getD_getElem? ..).symm.trans (hop 2 (by simp [Op.operands]))
        go_simp
        exact ⟨hG, rfl, fun _ _ _ h => h⟩
      · skip
        obtain ⟨g, h29, b29⟩ := hop 29 (by simp [Op.operands])
        rw [Array.getD_eq_getD_getElem?] at h29
        have h30 : a'.tmps[30]?.getD undef = .agg partA := (Array.getD_eq_getD_getElem? ..).symm.trans (hop 30 (by simp [Op.operands]))
        go_simp
        exact ⟨hG, ⟨g, rfl, b29⟩, fun _ _ _ h => h⟩
      · go_simp
        refine (energy_ 2 w').mono ?_
        rintro e w'' ⟨rfl, rfl⟩
        exact ⟨_, rfl, below_alloc hG _, rfl, fun k u _ h => exΦ_keep (below_new _ _) k u h⟩
      · go_simp
        exact ⟨hG, rfl, fun _ _ _ h => h⟩
      · skip
        have h32 : a'.tmps[32]?.getD undef = .agg #[i 2, i 2, i 1, i 0] := (Array.getD_eq_getD_getElem? ..).symm.trans (hop 32 (by simp [Op.operands]))
        have h33 : a'.tmps[33]?.getD undef = .agg #[i 4, i 3, i 1, i 0] := (Array.getD_eq_getD_getElem? ..).symm.trans (hop 33 (by simp [Op.operands]))
        go_simp
        exact ⟨below_alloc hG _, ⟨_, rfl, Blk.new _ _ _⟩, fun k u _ h => exΦ_keep (below_new _ _) k u h⟩
      · go_simp
        refine (free_ w').mono ?_
        rintro e w'' ⟨rfl, rfl⟩
        exact ⟨_, rfl, below_alloc hG _, rfl, fun k u _ h => exΦ_keep (below_new _ _) k u h⟩
      · skip
        obtain ⟨g, h34, b34⟩ := hop 34 (by simp [Op.operands])
        rw [Array.getD_eq_getD_getElem?] at h34
        have h35 : a'.tmps[35]?.getD undef = .agg freeA := (Array.getD_eq_getD_getElem? ..).symm.trans (hop 35 (by simp [Op.operands]))
        go_simp
        exact ⟨hG, ⟨g, rfl, b34⟩, fun _ _ _ h => h⟩
      · skip
        obtain ⟨g1, h31, b31⟩ := hop 31 (by simp [Op.operands])
        rw [Array.getD_eq_getD_getElem?] at h31
        obtain ⟨g2, h36, b36⟩ := hop 36 (by simp [Op.operands])
        rw [Array.getD_eq_getD_getElem?] at h36
        go_simp
        exact ⟨below_alloc hG _, ⟨_, g1, g2, rfl, Blk.new _ _ _, b31.alloc _, b36.alloc _⟩, fun k u _ h => exΦ_keep (below_new _ _) k u h⟩
      · skip
        obtain ⟨ge, g1, g2, h37, b37, b1, b2⟩ := hop 37 (by simp [Op.operands])
        rw [Array.getD_eq_getD_getElem?] at h37
        have h27 : a'.tmps[27]?.getD undef = .agg #[i 0, i (-1)] := (Array.getD_eq_getD_getElem? ..).symm.trans (hop 27 (by simp [Op.operands]))
        go_simp
        exact ⟨hG, ⟨ge, g1, g2, rfl, b37, b1, b2⟩, fun _ _ _ h => h⟩
      · go_simp
        exact ⟨below_alloc hG _, ⟨_, rfl, hG.size, Blk.new _ _ _⟩, fun k u _ h => exΦ_keep (below_new _ _) k u h⟩
    · intro vals w' hG hΦ
      obtain ⟨g4, h12, hg4, b4⟩ := hΦ 12 (by omega)
      obtain ⟨ge, g1, g2, h11, be, b1, b2⟩ := hΦ 11 (by omega)
      have cc := b4.cell
      have fz := b4.frozen
      have bel := below8 hG hg4 (.string exT.id) (.string exT.cur) (.int .i64 exT.ver) (.int .i64 exT.fr) (.int .i64 exT.to) (.slice (some ⟨ge, 0, none⟩) 2 2) (.int .i64 exT.least) (.int .i64 exT.most)
      have kC := keeps8 (t := 40) b4 (by decide) (.string exT.id) (.string exT.cur) (.int .i64 exT.ver) (.int .i64 exT.fr) (.int .i64 exT.to) (.slice (some ⟨ge, 0, none⟩) 2 2) (.int .i64 exT.least) (.int .i64 exT.most)
      have kE := keeps8 (t := 49) b4 (by decide) (.string exT.id) (.string exT.cur) (.int .i64 exT.ver) (.int .i64 exT.fr) (.int .i64 exT.to) (.slice (some ⟨ge, 0, none⟩) 2 2) (.int .i64 exT.least) (.int .i64 exT.most)
      have bT := (((((((b4.set_ 0 (.string exT.id)).set_ 1 (.string exT.cur)).set_ 2 (.int .i64 exT.ver)).set_ 3 (.int .i64 exT.fr)).set_ 4 (.int .i64 exT.to)).set_ 5 (.slice (some ⟨ge, 0, none⟩) 2 2)).set_ 6 (.int .i64 exT.least)).set_ 7 (.int .i64 exT.most)
      have HR : Hid (ExRel W (.pointer (some ⟨g4, 0, none⟩)) _) := ⟨g4, _, rfl, hg4, bT, exEls_at (kC _ _ b1) (kC _ _ b2) (kE _ _ be), bel⟩
      clear bel kC kE bT
      simp only [Reg.puts, Reg.dstOf, List.range, List.range.loop, h12, h11, if_true, List.drop_succ_cons, List.drop_zero]
      go_wp2_with fail
      go_meet
      exact HR.out
  case rest =>
    obtain ⟨g4, u, rfl, hg4, bT, hE, hb⟩ := hcut
    obtain ⟨A, c, rfl, _, _⟩ := SliceAt.form hE
    have X : Ctx w n1 n3 g4 A c wc := ⟨k1.call hb, k3.call hb, bT, hE, (ht.below hB ht.lt).below hb (ht.below hB ht.lt).lt, below_call hB hb⟩
    clear bT hE hb k1 k2 k3 hB hg4 ht
    have tc := X.tar.cell
    have zc := X.zone.cell
    go_wp2_with fail
    refine (ex_find1 _ _ X.tab X.els).mono ?_
    rintro e w1 ⟨rfl, hb1⟩
    clear tc zc
    have X1 := (X.call hb1).call (below_new w1 (.cells #[i 2, i 1, i 1, i 0] 40))
    have a1 := Blk.new w1 40 #[i 2, i 1, i 1, i 0]
    clear X hb1
    have tc := X1.tar.cell
    have zc := X1.zone.cell
    go_wp2_with fail
    generalize w1.alloc (.cells #[i 2, i 1, i 1, i 0] 40) = W1 at *
    generalize w1.heap.size = p1 at *
    refine (ex_find2 _ _ X1.tab X1.els).mono ?_
    rintro e w2 ⟨rfl, hb2⟩
    clear tc zc
    have X2 := (X1.call hb2).call (below_new w2 (.cells #[i 2, i 2, i 1, i 0] 40))
    have a1' := (a1.call hb2).alloc (.cells #[i 2, i 2, i 1, i 0] 40)
    have a2 := Blk.new w2 40 #[i 2, i 2, i 1, i 0]
    clear X1 hb2 a1
    have tc := X2.tar.cell
    have zc := X2.zone.cell
    go_wp2_with fail
    generalize w2.alloc (.cells #[i 2, i 2, i 1, i 0] 40) = W2 at *
    generalize w2.heap.size = p2 at *
    refine (ex_find3 _ _ X2.tab X2.els).mono ?_
    rintro e w3 ⟨rfl, hb3⟩
    clear tc zc
    have X3 := (X2.call hb3).call (below_new w3 (.cells #[i 4, i 3, i 1, i 0] 40))
    have a1'' := (a1'.call hb3).alloc (.cells #[i 4, i 3, i 1, i 0] 40)
    have a2' := (a2.call hb3).alloc (.cells #[i 4, i 3, i 1, i 0] 40)
    have a3 := Blk.new w3 40 #[i 4, i 3, i 1, i 0]
    clear X2 hb3 a1' a2
    go_upto_region 8 with (fail)
    generalize w3.alloc (.cells #[i 4, i 3, i 1, i 0] 40) = W3 at *
    generalize w3.heap.size = p3 at *
    have tc := X3.tar.cell
    go_upto_region 10 with (first | (go_at_call 18; refine (free_ _).mono ?_; rintro e w' ⟨rfl, rfl⟩) | (go_at_call 26; refine (energy_ _ _).mono ?_; rintro e w' ⟨rfl, rfl⟩))
    clear tc
    have hb4 := below_alloc (below_alloc (below_alloc (below_alloc (below_alloc (below_new W3 (.cells #[.string exT.id, .string exT.cur, .int .i64 exT.ver, .int .i64 exT.fr, .int .i64 exT.to, .slice (some ⟨W3.heap.size + 1 + 1 + 1 + 1 + 1, 0, none⟩) 1 1, .int .i64 exT.least, .int .i64 exT.most] 26)) (.cells #[i 2, i 1, i 1, i 0] 40)) (.cells #[i 2, i 2, i 1, i 0] 40)) (.cells #[i 2, i 1, i 1, i 0, i 2, i 2, i 1, i 0] 40)) (.cells freeA 32)) (.cells #[.slice (some ⟨W3.heap.size + 1 + 1 + 1, 0, none⟩) 2 2, i 0, i 0, i 0, i (-1), i (-1), i (-1), i (-1), i (-1), i (-1), i (-1), i (-1)] 49)
    have d4 := ((((((Blk.newG (w := W3) (g := W3.heap.size) (by simp) 26 #[.string exT.id, .string exT.cur, .int .i64 exT.ver, .int .i64 exT.fr, .int .i64 exT.to, .slice (some ⟨W3.heap.size + 1 + 1 + 1 + 1 + 1, 0, none⟩) 1 1, .int .i64 exT.least, .int .i64 exT.most]).alloc (.cells #[i 2, i 1, i 1, i 0] 40)).alloc (.cells #[i 2, i 2, i 1, i 0] 40)).alloc (.cells #[i 2, i 1, i 1, i 0, i 2, i 2, i 1, i 0] 40)).alloc (.cells freeA 32)).alloc (.cells #[.slice (some ⟨W3.heap.size + 1 + 1 + 1, 0, none⟩) 2 2, i 0, i 0, i 0, i (-1), i (-1), i (-1), i (-1), i (-1), i (-1), i (-1), i (-1)] 49))
    have dC := (((Blk.newG (w := (((W3.alloc (.cells #[.string exT.id, .string exT.cur, .int .i64 exT.ver, .int .i64 exT.fr, .int .i64 exT.to, .slice (some ⟨W3.heap.size + 1 + 1 + 1 + 1 + 1, 0, none⟩) 1 1, .int .i64 exT.least, .int .i64 exT.most] 26)).alloc (.cells #[i 2, i 1, i 1, i 0] 40)).alloc (.cells #[i 2, i 2, i 1, i 0] 40))) (g := W3.heap.size + 1 + 1 + 1) (by simp) 40 #[i 2, i 1, i 1, i 0, i 2, i 2, i 1, i 0]).alloc (.cells freeA 32)).alloc (.cells #[.slice (some ⟨W3.heap.size + 1 + 1 + 1, 0, none⟩) 2 2, i 0, i 0, i 0, i (-1), i (-1), i (-1), i (-1), i (-1), i (-1), i (-1), i (-1)] 49))
    have dE := (Blk.newG (w := (((((W3.alloc (.cells #[.string exT.id, .string exT.cur, .int .i64 exT.ver, .int .i64 exT.fr, .int .i64 exT.to, .slice (some ⟨W3.heap.size + 1 + 1 + 1 + 1 + 1, 0, none⟩) 1 1, .int .i64 exT.least, .int .i64 exT.most] 26)).alloc (.cells #[i 2, i 1, i 1, i 0] 40)).alloc (.cells #[i 2, i 2, i 1, i 0] 40)).alloc (.cells #[i 2, i 1, i 1, i 0, i 2, i 2, i 1, i 0] 40)).alloc (.cells freeA 32))) (g := W3.heap.size + 1 + 1 + 1 + 1 + 1) (by simp) 49 #[.slice (some ⟨W3.heap.size + 1 + 1 + 1, 0, none⟩) 2 2, i 0, i 0, i 0, i (-1), i (-1), i (-1), i (-1), i (-1), i (-1), i (-1), i (-1)])
    have X4 := X3.call hb4
    have r1 := a1''.call hb4
    have r2 := a2'.call hb4
    have r3 := a3.call hb4
    have dA := Lib.hid (dbl_at dC dE)
    clear X3 a1'' a2' a3 hb4 dC dE
    generalize ((((((W3.alloc (.cells #[.string exT.id, .string exT.cur, .int .i64 exT.ver, .int .i64 exT.fr, .int .i64 exT.to, .slice (some ⟨W3.heap.size + 1 + 1 + 1 + 1 + 1, 0, none⟩) 1 1, .int .i64 exT.least, .int .i64 exT.most] 26)).alloc (.cells #[i 2, i 1, i 1, i 0] 40)).alloc (.cells #[i 2, i 2, i 1, i 0] 40)).alloc (.cells #[i 2, i 1, i 1, i 0, i 2, i 2, i 1, i 0] 40)).alloc (.cells freeA 32)).alloc (.cells #[.slice (some ⟨W3.heap.size + 1 + 1 + 1, 0, none⟩) 2 2, i 0, i 0, i 0, i (-1), i (-1), i (-1), i (-1), i (-1), i (-1), i (-1), i (-1)] 49)) = W4 at *
    generalize W3.heap.size + 1 + 1 + 1 + 1 + 1 = q5 at *
    generalize W3.heap.size = q0 at *
    have tc := X4.tar.cell
    go_upto_region 12 with (fail)
    clear tc
    have Y5 : Ctx2 w n1 n3 g4 A c p1 p2 p3 q0 q5 W4.heap.size (W4.alloc (.cells #[.string exT.id, .string exT.cur, .int .i64 2, .int .i64 100, .int .i64 exT.to, .slice A 2 c, .int .i64 exT.least, .int .i64 exT.most] 26)) :=
      ⟨X4.call (below_new _ _), r1.alloc _, r2.alloc _, r3.alloc _, d4.alloc _, dA.out.call (below_new _ _), Blk.new _ _ _⟩
    clear X4 r1 r2 r3 d4 dA
    generalize W4.alloc (.cells #[.string exT.id, .string exT.cur, .int .i64 2, .int .i64 100, .int .i64 exT.to, .slice A 2 c, .int .i64 exT.least, .int .i64 exT.most] 26) = W5 at *
    generalize W4.heap.size = q1 at *
    have tc := Y5.X.tar.cell
    have sc := Y5.s.cell
    go_wp2_with fail
    refine (ex_pick pck1 _ _ (trfs2 (Y5.X.els.call (below_new W5 (.cells #[.string exT.id, .string exT.cur, i exT.ver, i exT.fr, i exT.to, .slice A 2 c, i exT.least, i exT.most, .string secT.id, .string secT.cur, i secT.ver, i secT.fr, i secT.to, .slice A 2 c, i secT.least, i secT.most] 26))) (Blk.new W5 _ _)) (by simp) small2).mono ?_
    rintro e v6 ⟨A6, c6, rfl, hb6⟩
    clear tc sc
    have Y6 := ((Y5.call (below_new W5 (.cells #[.string exT.id, .string exT.cur, i exT.ver, i exT.fr, i exT.to, .slice A 2 c, i exT.least, i exT.most, .string secT.id, .string secT.cur, i secT.ver, i secT.fr, i secT.to, .slice A 2 c, i secT.least, i secT.most] 26))).call hb6).call (below_new v6 (.cells #[.string exT.id, .string exT.cur, i exT.ver, i exT.fr, i exT.to, .slice A6 exT.els.length c6, i exT.least, i exT.most] 26))
    have t6x := Blk.new v6 26 #[.string exT.id, .string exT.cur, i exT.ver, i exT.fr, i exT.to, .slice A6 exT.els.length c6, i exT.least, i exT.most]
    go_upto_region 13 with (fail)
    generalize v6.alloc (.cells #[.string exT.id, .string exT.cur, i exT.ver, i exT.fr, i exT.to, .slice A6 exT.els.length c6, i exT.least, i exT.most] 26) = W6 at *
    generalize v6.heap.size = t6 at *
    have tc := Y6.X.tar.cell
    have sc := Y6.s.cell
    go_wp2_with fail
    refine (ex_pick pck2 _ _ (trfs2 (Y6.X.els.call (below_new W6 (.cells #[.string exT.id, .string exT.cur, i exT.ver, i exT.fr, i exT.to, .slice A 2 c, i exT.least, i exT.most, .string secT.id, .string secT.cur, i secT.ver, i secT.fr, i secT.to, .slice A 2 c, i secT.least, i secT.most] 26))) (Blk.new W6 _ _)) (by simp) small2).mono ?_
    rintro e v7 ⟨A7, c7, rfl, hb7⟩
    clear tc sc
    have Y7 := ((Y6.call (below_new W6 (.cells #[.string exT.id, .string exT.cur, i exT.ver, i exT.fr, i exT.to, .slice A 2 c, i exT.least, i exT.most, .string secT.id, .string secT.cur, i secT.ver, i secT.fr, i secT.to, .slice A 2 c, i secT.least, i secT.most] 26))).call hb7).call (below_new v7 (.cells #[.string secT.id, .string secT.cur, i secT.ver, i secT.fr, i secT.to, .slice A7 secT.els.length c7, i secT.least, i secT.most] 26))
    have t7x := Blk.new v7 26 #[.string secT.id, .string secT.cur, i secT.ver, i secT.fr, i secT.to, .slice A7 secT.els.length c7, i secT.least, i secT.most]
    have t6y := ((t6x.call (below_new W6 (.cells #[.string exT.id, .string exT.cur, i exT.ver, i exT.fr, i exT.to, .slice A 2 c, i exT.least, i exT.most, .string secT.id, .string secT.cur, i secT.ver, i secT.fr, i secT.to, .slice A 2 c, i secT.least, i secT.most] 26))).call hb7).alloc (.cells #[.string secT.id, .string secT.cur, i secT.ver, i secT.fr, i secT.to, .slice A7 secT.els.length c7, i secT.least, i secT.most] 26)
    go_upto_region 14 with (fail)
    generalize v7.alloc (.cells #[.string secT.id, .string secT.cur, i secT.ver, i secT.fr, i secT.to, .slice A7 secT.els.length c7, i secT.least, i secT.most] 26) = W7 at *
    generalize v7.heap.size = t7 at *
    go_wp2_with fail
    refine (ex_pick pck3 _ _ SliceAt.nil (by simp) (fun t ht => by simp at ht)).mono ?_
    rintro e v8 ⟨A8, c8, rfl, hb8⟩
    have Y8 := (Y7.call hb8).call (below_new v8 (.cells #[.string trf0.id, .string trf0.cur, i trf0.ver, i trf0.fr, i trf0.to, .slice A8 trf0.els.length c8, i trf0.least, i trf0.most] 26))
    have z6 := (t6y.call hb8).alloc (.cells #[.string trf0.id, .string trf0.cur, i trf0.ver, i trf0.fr, i trf0.to, .slice A8 trf0.els.length c8, i trf0.least, i trf0.most] 26)
    have z7 := (t7x.call hb8).alloc (.cells #[.string trf0.id, .string trf0.cur, i trf0.ver, i trf0.fr, i trf0.to, .slice A8 trf0.els.length c8, i trf0.least, i trf0.most] 26)
    clear Y5 Y6 Y7 t6x t6y t7x hb6 hb7 hb8
    go_upto_region 15 with (fail)
    generalize v8.alloc (.cells #[.string trf0.id, .string trf0.cur, i trf0.ver, i trf0.fr, i trf0.to, .slice A8 trf0.els.length c8, i trf0.least, i trf0.most] 26) = W8 at *
    generalize v8.heap.size = t8 at *
    have nc := Y8.X.night.cell
    have zc := Y8.X.zone.cell
    go_wp2_with fail
    refine (ex_hold 1320 _ Y8.X.tab hol1).mono ?_
    rintro e w9 ⟨rfl, hb9⟩
    have Y9 := Y8.call hb9
    clear nc zc
    have nc := Y9.X.night.cell
    have zc := Y9.X.zone.cell
    go_wp2_with fail
    refine (ex_hold 1799 _ Y9.X.tab hol2).mono ?_
    rintro e w10 ⟨rfl, hb10⟩
    have Y10 := Y9.call hb10
    clear nc zc
    have nc := Y10.X.night.cell
    have zc := Y10.X.zone.cell
    go_wp2_with fail
    refine (ex_hold 0 _ Y10.X.tab hol3).mono ?_
    rintro e w11 ⟨rfl, hb11⟩
    have Y11 := Y10.call hb11
    clear nc zc
    have nc := Y11.X.night.cell
    have zc := Y11.X.zone.cell
    go_wp2_with fail
    refine (ex_hold 1800 _ Y11.X.tab hol4).mono ?_
    rintro e w12 ⟨rfl, hb12⟩
    have Y12 := Y11.call hb12
    have y6 := (((z6.call hb9).call hb10).call hb11).call hb12
    have y7 := (((z7.call hb9).call hb10).call hb11).call hb12
    clear nc zc Y8 Y9 Y10 Y11 z6 z7 hb9 hb10 hb11 hb12
    have e1 := Y12.r1.cell
    have e2 := Y12.r2.cell
    have e3 := Y12.r3.cell
    have tc := Y12.X.tar.cell
    go_wp2_with fail
    refine (ex_valid1 _ _ Y12.X.els).mono ?_
    rintro e w13 ⟨rfl, hb13⟩
    have Y13 := Y12.call hb13
    clear e1 e2 e3 tc
    have dc := Y13.d.cell
    go_wp2_with fail
    refine (ex_valid2 _ _ Y13.dE).mono ?_
    rintro e w14 ⟨rfl, hb14⟩
    have Y14 := Y13.call hb14
    have f6 := ((y6.call hb13).call hb14).cell
    have f7 := ((y7.call hb13).call hb14).cell
    have v6 : w14.cell? ⟨t6, 2, none⟩ = some (i 1) := f6 2
    have v7 : w14.cell? ⟨t7, 2, none⟩ = some (i 2) := f7 2
    clear f6 f7 dc
    go_wp2_with fail
    go_ret
    exact ⟨rfl, Y14.X.bel⟩
end TarW
end Go.Proofs.YtkooekdcegfapaaDoor
