/-
  Charge detail records in plain words; no program in sight.
-/
import Derived.Test.YtpmcdjpfolgpiaaGreatDoorUsg
import Derived.Test.YtpmcdjpfolgpiaaGreatDoorTaxF
import Derived.Test.YtpmcdjpfolgpiaaGreatDoorPriI
import Derived.Test.YtpmcdjpfolgpiaaGreatDoorCdrW
namespace Go.Proofs.YtpmcdjpfolgpiaaGreatDoor
namespace Cdr
set_option linter.unusedSimpArgs false
set_option linter.unusedVariables false
open Go.RowKit MonW TarW Usg CdrW

structure Rec where
  (sta txn : ByteArray)
  (conn : Int)
  (tok : ByteArray)
  (start stop : Int)
  (rds : List Rdg)
  (en reason : Int)
  (off den : Bool)
structure CDR where
  (id oper prov sess : ByteArray)
  (ver start stop en : Int)
  (tar cur : ByteArray)
  (items : List Itm)
  (total : Int)
  (credit : Bool)
  (ref : ByteArray)

/-! ### What each minute uses -/
def useOf (n : Int) : Prc.Use := ⟨n, n == 0⟩
def useV (l : List Rdg) (m : Int) : List Prc.Use := (minV l m).map useOf

/-! ### Records of sessions -/
/-- The error of reading k in a record: 0 exactly where it is in range and behind the one before. -/
def ascF (l : List Rdg) : Nat → Int := rdgE l 1099511627777
def headAt (l : List Rdg) : Int := match l[0]? with | some a => a.at_ | none => -1
def lastAt (l : List Rdg) : Int := match l[l.length - 1]? with | some a => a.at_ | none => -1
def recHead (r : Rec) : Bool := decide (1 ≤ r.conn ∧ r.start ≤ r.stop ∧ 1 ≤ r.rds.length ∧ r.rds.length ≤ 1024 ∧ 0 ≤ r.en ∧ r.en ≤ 1099511627776 ∧ 1 ≤ r.reason ∧ r.reason ≤ 6)
def recE (r : Rec) : Int :=
  if (IdW.identOk r.sta && IdW.identOk r.txn && IdW.identOk r.tok) = false then 4
  else if recHead r && decide (headAt r.rds = r.start) && decide (lastAt r.rds = r.stop) && decide (scan (ascF r.rds) r.rds.length 0 = 0) then 0 else 1

/-! ### Charge detail records -/
def grossTo (l : List Itm) (k : Nat) : Int := ((l.take k).map (·.gross)).foldr (· + ·) 0
def itemsE (c : CDR) : Int := if 32 < c.items.length then 3 else if c.items.all itemOk = false then 1 else if c.total ≠ grossTo c.items c.items.length then 1 else 0
def refE (c : CDR) : Int := if c.credit then (if IdW.identOk c.ref = false then 4 else if c.ref = c.id then 1 else 0) else if c.ref.size = 0 then 0 else 1
def namesOk (c : CDR) : Bool := IdW.identOk c.id && IdW.identOk c.oper && IdW.identOk c.prov && IdW.identOk c.sess && IdW.identOk c.tar
def cdrE (c : CDR) : Int :=
  if namesOk c = false then 4 else if c.oper = c.prov then 1
  else if ¬ (1 ≤ c.ver ∧ c.ver ≤ 2147483647 ∧ 0 ≤ c.start ∧ c.start ≤ c.stop ∧ c.stop ≤ 268435456 ∧ 0 ≤ c.en ∧ c.en ≤ 36028797018963968) then 2
  else if curOk c.cur = false then 21 else if itemsE c ≠ 0 then itemsE c else refE c

/-! ### What is made of a session -/
def chgsOf (r : Rec) (t : Trf) (z : Int) (s : Bool) (m : Int) : List Chg := PriW.runV t ⟨z, s, r.start⟩ (useV r.rds m)
end Cdr
end Go.Proofs.YtpmcdjpfolgpiaaGreatDoor
