/-
  Stations as data: connectors, meters, transactions, the cells of a station; no walk.
-/
import Derived.Test.YtfaofobhmmedmaaGreatDoorBase
namespace Go.Proofs.YtfaofobhmmedmaaGreatDoor
namespace Stn
set_option linter.unusedSimpArgs false
set_option linter.unusedVariables false
open Go.RowKit

abbrev i (n : Int) : Value := .int .i64 n
def I64 (n : Int) : Prop := -9223372036854775808 ≤ n ∧ n ≤ 9223372036854775807

structure Cn where
  (st : Int) (pl rs ds : Bool) (ft : Int)
structure Mt where
  (rg mo re gn : Int)
structure Tx where
  (id : ByteArray) (conn : Int) (tok grp : ByteArray) (start seq : Int) (sto : Bool) (la lr : Int)
abbrev cnA (x : Cn) : Array Value := #[i x.st, .bool x.pl, .bool x.rs, .bool x.ds, i x.ft]
abbrev mtA (x : Mt) : Array Value := #[i x.rg, i x.mo, i x.re, i x.gn]
abbrev txA (x : Tx) : Array Value := #[.string x.id, i x.conn, .string x.tok, .string x.grp, i x.start, i x.seq, .bool x.sto, i x.la, i x.lr]
def CnR (r : List Value) (x : Cn) : Prop := r = (cnA x).toList
def MtR (r : List Value) (x : Mt) : Prop := r = (mtA x).toList
def TxR (r : List Value) (x : Tx) : Prop := r = (txA x).toList
def InR (r : List Value) (x : Int) : Prop := r = [i x]
def CnsAt (w : World) (v : Value) (xs : List Cn) : Prop := SliceAt CnR 5 w v xs
def MtsAt (w : World) (v : Value) (xs : List Mt) : Prop := SliceAt MtR 4 w v xs
def TxsAt (w : World) (v : Value) (xs : List Tx) : Prop := SliceAt TxR 9 w v xs
def IntsAt (w : World) (v : Value) (xs : List Int) : Prop := SliceAt InR 1 w v xs
/-- An empty slice: nil. -/
def EmpS (v : Value) : Prop := v = .slice none 0 0
theorem EmpS.form {v : Value} (h : EmpS v) : ∃ A c, v = .slice A 0 c ∧ c ≤ maxLen ∧ (A = none → c = 0) := ⟨none, 0, h, by unfold maxLen; omega, fun _ => rfl⟩
theorem CnsAt.call {w w' : World} {v : Value} {xs : List Cn} (h : CnsAt w v xs) (hb : Below w.heap.size w w') : CnsAt w' v xs := SliceAt.keep h (Kept.of hb) (fun _ _ h => h)
theorem MtsAt.call {w w' : World} {v : Value} {xs : List Mt} (h : MtsAt w v xs) (hb : Below w.heap.size w w') : MtsAt w' v xs := SliceAt.keep h (Kept.of hb) (fun _ _ h => h)
theorem TxsAt.call {w w' : World} {v : Value} {xs : List Tx} (h : TxsAt w v xs) (hb : Below w.heap.size w w') : TxsAt w' v xs := SliceAt.keep h (Kept.of hb) (fun _ _ h => h)
theorem IntsAt.call {w w' : World} {v : Value} {xs : List Int} (h : IntsAt w v xs) (hb : Below w.heap.size w w') : IntsAt w' v xs := SliceAt.keep h (Kept.of hb) (fun _ _ h => h)
theorem CnsAt.at_ {w : World} {A : Option Addr} {n c j : Nat} {xs : List Cn} (h : CnsAt w (.slice A n c) xs) (hj : j < xs.length) :
    ∃ b off : Nat, A = some ⟨b, off, none⟩ ∧ ∀ W, Kept w W → W.cell? ⟨b, off + j * 5, none⟩ = some (i xs[j].st) ∧ W.cell? ⟨b, off + j * 5 + 1, none⟩ = some (.bool xs[j].pl) ∧ W.cell? ⟨b, off + j * 5 + 2, none⟩ = some (.bool xs[j].rs) ∧ W.cell? ⟨b, off + j * 5 + 3, none⟩ = some (.bool xs[j].ds) ∧ W.cell? ⟨b, off + j * 5 + 4, none⟩ = some (i xs[j].ft) := by
  obtain ⟨b, off, r, hA, _, hr, hc⟩ := SliceAt.at_ h hj
  have e : r = (cnA xs[j]).toList := hr
  subst e
  exact ⟨b, off, hA, fun W hk => ⟨hk _ _ (hc 0 _ rfl), hk _ _ (hc 1 _ rfl), hk _ _ (hc 2 _ rfl), hk _ _ (hc 3 _ rfl), hk _ _ (hc 4 _ rfl)⟩⟩
theorem MtsAt.at_ {w : World} {A : Option Addr} {n c j : Nat} {xs : List Mt} (h : MtsAt w (.slice A n c) xs) (hj : j < xs.length) :
    ∃ b off : Nat, A = some ⟨b, off, none⟩ ∧ ∀ W, Kept w W → W.cell? ⟨b, off + j * 4, none⟩ = some (i xs[j].rg) ∧ W.cell? ⟨b, off + j * 4 + 1, none⟩ = some (i xs[j].mo) ∧ W.cell? ⟨b, off + j * 4 + 2, none⟩ = some (i xs[j].re) ∧ W.cell? ⟨b, off + j * 4 + 3, none⟩ = some (i xs[j].gn) := by
  obtain ⟨b, off, r, hA, _, hr, hc⟩ := SliceAt.at_ h hj
  have e : r = (mtA xs[j]).toList := hr
  subst e
  exact ⟨b, off, hA, fun W hk => ⟨hk _ _ (hc 0 _ rfl), hk _ _ (hc 1 _ rfl), hk _ _ (hc 2 _ rfl), hk _ _ (hc 3 _ rfl)⟩⟩
theorem TxsAt.at_ {w : World} {A : Option Addr} {n c j : Nat} {xs : List Tx} (h : TxsAt w (.slice A n c) xs) (hj : j < xs.length) :
    ∃ b off : Nat, A = some ⟨b, off, none⟩ ∧ ∀ W, Kept w W → W.cell? ⟨b, off + j * 9, none⟩ = some (.string xs[j].id) ∧ W.cell? ⟨b, off + j * 9 + 1, none⟩ = some (i xs[j].conn) ∧ W.cell? ⟨b, off + j * 9 + 2, none⟩ = some (.string xs[j].tok) ∧ W.cell? ⟨b, off + j * 9 + 3, none⟩ = some (.string xs[j].grp) ∧ W.cell? ⟨b, off + j * 9 + 4, none⟩ = some (i xs[j].start) ∧ W.cell? ⟨b, off + j * 9 + 5, none⟩ = some (i xs[j].seq) ∧ W.cell? ⟨b, off + j * 9 + 6, none⟩ = some (.bool xs[j].sto) ∧ W.cell? ⟨b, off + j * 9 + 7, none⟩ = some (i xs[j].la) ∧ W.cell? ⟨b, off + j * 9 + 8, none⟩ = some (i xs[j].lr) := by
  obtain ⟨b, off, r, hA, _, hr, hc⟩ := SliceAt.at_ h hj
  have e : r = (txA xs[j]).toList := hr
  subst e
  exact ⟨b, off, hA, fun W hk => ⟨hk _ _ (hc 0 _ rfl), hk _ _ (hc 1 _ rfl), hk _ _ (hc 2 _ rfl), hk _ _ (hc 3 _ rfl), hk _ _ (hc 4 _ rfl), hk _ _ (hc 5 _ rfl), hk _ _ (hc 6 _ rfl), hk _ _ (hc 7 _ rfl), hk _ _ (hc 8 _ rfl)⟩⟩
theorem IntsAt.at_ {w : World} {A : Option Addr} {n c j : Nat} {xs : List Int} (h : IntsAt w (.slice A n c) xs) (hj : j < xs.length) :
    ∃ b off : Nat, A = some ⟨b, off, none⟩ ∧ ∀ W, Kept w W → W.cell? ⟨b, off + j, none⟩ = some (i xs[j]) := by
  obtain ⟨b, off, r, hA, _, hr, hc⟩ := SliceAt.at_ h hj
  have e : r = [i xs[j]] := hr
  subst e
  exact ⟨b, off, hA, fun W hk => by simpa using hk _ _ (hc 0 _ rfl)⟩

/-- The slices of a station. -/
structure Sl where
  (C M T P LT CA RE IT Q O S OV LM SH : Value)
/-- A station; its lists of profiles, tokens, reservations, events and messages are empty. -/
structure St where
  (nm : ByteArray) (nw : Int) (ac : Bool) (iv bt sr : Int) (cs : List Cn) (ms : List Mt) (ts : List Tx) (lv room lost nx tmo rt due tr f1 f2 f3 f4 f5 ct sto fb : Int) (ov lm sh : List Int)
abbrev stA (s : St) (l : Sl) : Array Value := #[.string s.nm, i s.nw, .bool s.ac, i s.iv, i s.bt, i s.sr, l.C, l.M, l.T, l.P, i s.lv, l.LT, l.CA, l.RE, i s.room, l.IT, i s.lost, i s.nx, i s.tmo, i s.rt, l.Q, l.O, i s.due, i s.tr, l.S, i s.f1, i s.f2, i s.f3, i s.f4, i s.f5, i s.ct, i s.sto, i s.fb, l.OV, l.LM, l.SH]
structure StAt (w : World) (s : St) (l : Sl) : Prop where
  C : CnsAt w l.C s.cs
  M : MtsAt w l.M s.ms
  T : TxsAt w l.T s.ts
  P : EmpS l.P
  LT : EmpS l.LT
  CA : EmpS l.CA
  RE : EmpS l.RE
  IT : EmpS l.IT
  Q : EmpS l.Q
  O : EmpS l.O
  S : EmpS l.S
  OV : IntsAt w l.OV s.ov
  LM : IntsAt w l.LM s.lm
  SH : IntsAt w l.SH s.sh
theorem StAt.call {w w' : World} {s : St} {l : Sl} (h : StAt w s l) (hb : Below w.heap.size w w') : StAt w' s l :=
  ⟨h.C.call hb, h.M.call hb, h.T.call hb, h.P, h.LT, h.CA, h.RE, h.IT, h.Q, h.O, h.S, h.OV.call hb, h.LM.call hb, h.SH.call hb⟩
def nilS : Value := .slice none 0 0
theorem emp_nil : EmpS (.slice none 0 0) := rfl

/-- The error of a meter. -/
def mtOk (x : Mt) : Bool := decide (1000 ≤ x.mo ∧ x.mo ≤ 1099511627776 ∧ 0 ≤ x.rg ∧ x.rg < x.mo ∧ 0 ≤ x.re ∧ x.re < 1000000 ∧ -100000 ≤ x.gn ∧ x.gn ≤ 100000)
def mtE (x : Mt) : Int := if mtOk x then 0 else 1
def zTx : Tx := ⟨⟨#[]⟩, 0, ⟨#[]⟩, ⟨#[]⟩, 0, 0, false, 0, 0⟩
/-- A station that has been switched on. -/
def fresh (name : ByteArray) (gs : List Int) (m : Int) : St :=
  ⟨name, 0, false, 0, 0, 0, List.replicate gs.length ⟨1, false, false, false, 0⟩, gs.map (fun g => ⟨0, m, 0, g⟩), List.replicate gs.length zTx, 0, 64, 0, 1, 3, 2, 0, 0, 0, 0, 0, 0, 0, 0, 30, 2000, List.replicate gs.length 0, List.replicate gs.length 0, List.replicate gs.length 0⟩
def zSt : St := ⟨⟨#[]⟩, 0, false, 0, 0, 0, [], [], [], 0, 0, 0, 0, 0, 0, 0, 0, 0, 0, 0, 0, 0, 0, 0, 0, [], [], []⟩
end Stn
end Go.Proofs.YtfaofobhmmedmaaGreatDoor
