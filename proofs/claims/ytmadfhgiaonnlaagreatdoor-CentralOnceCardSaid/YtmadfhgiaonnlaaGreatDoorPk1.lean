import Derived.KernelRfl
import Derived.Below
import Derived.Laws.OwnMore
import Derived.Deep.Draws
import Derived.Laws.Rows
import Derived.ChangeSame
import Derived.Lib.Hide
import Derived.Carry
import Derived.ProofKit
import Derived.OpenShut
import Derived.Lib.SmallJoins
import Derived.Laws.Cells
import Derived.Deep.Slices
import Derived.Deep.Fields
import Derived.OwnWalk
import Derived.WalkKit
import Derived.Maps.AppendAt
import Derived.StillTail
import Derived.Test.YtmadfhgiaonnlaaGreatDoorProg
import Derived.Deep.LoopGhost
import Derived.Deep.QuietTactic
import Derived.BigQuiet
import Derived.Outline
import Derived.Deep.DeepCutAuto
import Derived.Laws.StructEq
import Derived.Laws.RangeString
import Derived.Laws.RangeAny
import Derived.Deep.MidRow
open Array renaming getD_eq_getD_getElem?->au,getElem?_eq_none->dq,replicate->fy,getElem?_eq_getElem->ak,any_eq_true'->oo,getElem?_eq_some_iff->cl,getElem?_replicate->vy
open Bool renaming or_eq_true->cj,and_eq_true->ag,false_eq_true->da
open ByteArray.toList renaming loop->zb
open Go.Act renaming put->ez
open Go.DataW renaming Whole->adl,TrodAll->uc
open Go.Instr renaming next->aej
open Go.Lib renaming hid->aa
open Go.Proofs.Tryz renaming prog->ab,func69->xr,ntmps69->wg,func29->adm,ntmps29->aci
open Go.Region renaming binds->dy,seqB->tr,wanted->ee
open Go.RowKit.Below renaming refl->aj
open Go.Utf8 renaming decode->adn
open Int renaming mul_le_mul_of_nonneg_left->mj,mul_le_mul_of_nonpos_left->tj,mul_nonneg->re,le_of_lt->pg
open List renaming any_eq_true->gn,concat_eq_append->yo,mem_singleton->gz,mem_cons->cu,mem_append->bo,append_nil->sj,all_eq_true->ao,range->ay,nodup_cons->xp,length_cons->gp,filter_cons->rr,nodup_range->pn,mem_range->bj,mem_of_find?_eq_some->ij,mem_of_getElem?->cm,all_cons->og
open Nat renaming lt_or_ge->dw,le_refl->af,zero_add->bu,le_trans->cy,add_assoc->gi
open Option renaming bind_some->ic,isNone_iff_eq_none->vr
open Option.some renaming inj->ti,injEq->bc
open Prod.mk renaming injEq->qa
open Bool renaming false->ns,true->nr
open Go renaming FuncId->mb,Program->ma,TypeId->nz,Value->ny,World->nu,maxLen->mf,undef->mc
open Go.Ending renaming returned->np
open Go.IntKind renaming i64->O
open Go.Value renaming bool->ni,int->U,pointer->nj,slice->ng,string->nh
open Option renaming none->V,some->I
set_option maxRecDepth 100000
set_option maxHeartbeats 1600000
namespace Go.Proofs.YtmadfhgiaonnlaaGreatDoor
variable {p:Prop}
theorem kg(h:p:=by omega):p:=h
theorem ki(h:p:=by kernel_rfl):p:=h
theorem kj(h:p:=by decide):p:=h
theorem ko(h:p:=by decide +kernel):p:=h
theorem kq(h:p:=by simp):p:=h
theorem na(h:p:=by assumption):p:=h
theorem nc(h:p:=by simp;omega):p:=h
theorem nd(h:p:=by simp[Op.operands,Call.operands]):p:=h
theorem nf(h:p:=by simp[Op.operands]):p:=h
theorem gdq{a:Array Go.Value}{i:Nat}{d v:Go.Value}(h:a.getD i d=v):a[i]?.getD d=v:=(au ..).symm.trans h
abbrev zI:Go.Value:=U O 0
abbrev zL:Go.Value:=ng V 0 0
abbrev zS:Go.Value:=nh ⟨#[]⟩
abbrev zA:Array Go.Value:=#[zI,zI,zI,zI,zI,zI,zI,zI,zS,zS,zS,ni ns,zL,zI,zI,zI,zI,zI,zS,zI,zI,zI,zI,zL,zL]
abbrev zB:Array Go.Value:=#[zI,zI,zI,zL,zL,zI,zI,zL]
abbrev zC:Array Go.Value:=#[zI,zL,zL,zL,zL,zI,zL,zL,zL,zL,zL,zI,zI]
abbrev zD:Array Go.Value:=#[zI,zI,zS,zS,zS,zS,zS,zI,zI,zI,zI,zI,zI,zI,zI,zI,zI,zI,zS,zS,zS,ni ns,zL,zI,zI,zI,zI,zI,zS,zI,zI,zI,zI,zL,zL]
abbrev zE:Array Go.Value:=#[zS,ni ns,zI,zL,zI,zI,zI,zI,zL,zL,zI,zI,zL]
abbrev zF:Array Go.Value:=#[zS,zS,zI,zS,zI,zI,zL,zI,zI,ni ns,ni ns]
abbrev zG:Array Go.Value:=#[zS,zS,zS,zI,zI,zI]
abbrev zH:Array Go.Value:=#[zS,zS,zI,zI,zI,zI,zS,ni ns,zI,zL]
abbrev zJ:Array Go.Value:=#[zI,zL,zL,zL,zL,zI,zL,zL,zL,zL,zL,zI,zI,zI]
abbrev zK:Array Go.Value:=#[zI,zI,zS]
abbrev zM:Array Go.Value:=#[zI,zI,zI,zI,zI,zS,zI,zI,zI,zI,zL]
theorem oi.{u}{α:Type u}{a b:α}(h:I a=I b):a=b:=ti h
end Go.Proofs.YtmadfhgiaonnlaaGreatDoor
set_option linter.unusedVariables false
set_option linter.unusedSimpArgs false
namespace Go.Proofs.YtmadfhgiaonnlaaGreatDoor
namespace Sy
structure qf where
 c:Int
 ts:List (Int×Nat)
abbrev yu:=Nat->ny
def meas:ny->Int
 | .int _ n=>n
 | .slice _ n _=>n
 | .string s=>s.size
 | .bool b=>bif b then 1 else 0
 | _=>0
def jk(Z:yu):List (Int×Nat)->Int
 | []=>0
 | (a,x)::r=>a*meas (Z x)+jk Z r
def qf.eval(Z:yu)(l:qf):Int:=l.c+jk Z l.ts
def qf.k(n:Int):qf:=⟨n,[]⟩
def qf.at(x:Nat):qf:=⟨0,[(1,x)]⟩
def qbo(a:Int)(x:Nat):List (Int×Nat)->List (Int×Nat)
 | []=>if a=0 then [] else [(a,x)]
 | (b,y)::r=>if x=y then(if a+b=0 then r else(a+b,y)::r) else if x<y then(if a=0 then(b,y)::r else(a,x)::(b,y)::r) else(b,y)::qbo a x r
def qrs:List (Int×Nat)->List (Int×Nat)->List (Int×Nat)
 | [],m=>m
 | (a,x)::r,m=>qbo a x (qrs r m)
def qf.add(l m:qf):qf:=⟨l.c+m.c,qrs l.ts m.ts⟩
def q4k(k:Int):List (Int×Nat)->List (Int×Nat)
 | []=>[]
 | (a,x)::r=>(k*a,x)::q4k k r
def qf.sc(k:Int)(l:qf):qf:=if k=0 then⟨0,[]⟩ else⟨k*l.c,q4k k l.ts⟩
def qf.sub(l m:qf):qf:=l.add (m.sc (-1))
def qf.pl(l:qf)(n:Int):qf:=⟨l.c+n,l.ts⟩
theorem qmx(Z:yu)(a:Int)(x:Nat):∀l,jk Z (qbo a x l)=a*meas (Z x)+jk Z l
 | []=>by
   by_cases h:a=0
   .subst h;simp[qbo,jk]
   .simp[qbo,h,jk]
 | (b,y)::r=>by
   have ih:=qmx Z a x r;by_cases h:x=y
   .subst h;by_cases h0:a+b=0
    .have:b=-a:=kg;subst this;simp[qbo,jk,h0,Int.neg_mul];omega
    .simp[qbo,jk,h0,Int.add_mul];omega
   .by_cases h1:x<y
    .by_cases h0:a=0
     .subst h0;simp[qbo,jk,h,h1]
     .simp[qbo,jk,h,h1,h0]
    .simp[qbo,jk,h,h1,ih];omega
theorem ql1(Z:yu):∀l m,jk Z (qrs l m)=jk Z l+jk Z m
 | [],m=>by simp[qrs,jk]
 | (a,x)::r,m=>by simp[qrs,jk,qmx,ql1 Z r m];omega
theorem qnr(Z:yu)(k:Int):∀l,jk Z (q4k k l)=k*jk Z l
 | []=>by simp[q4k,jk]
 | (a,x)::r=>by simp[q4k,jk,qnr Z k r,Int.mul_add,Int.mul_assoc]
theorem qf.add_eval(Z:yu)(l m:qf):(l.add m).eval Z=l.eval Z+m.eval Z:=by simp[qf.add,qf.eval,ql1];omega
theorem qf.vg(Z:yu)(k:Int)(l:qf):(l.sc k).eval Z=k*l.eval Z:=by
 unfold qf.sc;split
 .rename_i h;subst h;simp[qf.eval,jk]
 .simp[qf.eval,qnr,Int.mul_add]
theorem qf.sub_eval(Z:yu)(l m:qf):(l.sub m).eval Z=l.eval Z-m.eval Z:=by simp[qf.sub,qf.add_eval,qf.vg];omega
theorem qf.xh(Z:yu)(l:qf)(n:Int):(l.pl n).eval Z=l.eval Z+n:=by simp[qf.pl,qf.eval];omega
theorem qf.ja(Z:yu)(n:Int):(qf.k n).eval Z=n:=by simp[qf.k,qf.eval,jk]
theorem qf.yl(Z:yu)(x:Nat):(qf.at x).eval Z=meas (Z x):=by simp[qf.at,qf.eval,jk]
abbrev qks:=Nat->Option (Int×Int)
def qks.ok(g:qks)(Z:yu):Prop:=∀x lo hi,g x=I (lo,hi)->lo<=meas (Z x)/\meas (Z x)<=hi
def qhq(g:qks):List (Int×Nat)->Option Int
 | []=>I 0
 | (a,x)::r=>match g x,qhq g r with
   | some (lo,hi),I s=>I ((if 0<=a then a*lo else a*hi)+s)
   | _,_=>V
theorem qsd(g:qks)(Z:yu)(hg:g.ok Z):∀l s,qhq g l=I s->s<=jk Z l
 | [],s,h=>by simp[qhq] at h;subst h;simp[jk]
 | (a,x)::r,s,h=>by
   unfold qhq at h;split at h
   .rename_i lo hi s' h1 h2;have ih:=qsd g Z hg r s' h2;obtain⟨q1,q2⟩:=hg x lo hi h1;have e:=oi h;subst e;unfold jk;split
    .rename_i ha;have:=mj q1 ha;omega
    .rename_i ha;have:=tj (a:=a) (b:=hi) (c:=meas (Z x)) kg q2;omega
   .cases h
def qm1(x:Nat):List (Int×Nat)->Int
 | []=>0
 | (a,y)::r=>if x=y then a else qm1 x r
def bears(fs:List qf)(p:Int×Nat):Bool:=fs.any λf=>
 let b:=qm1 p.2 f.ts
 if b=0 then ns else
 let q:=p.1/b
 decide (0<q/\q*b=p.1)
def ent(g:qks)(fs:List qf):Nat->qf->Bool
 | 0,L=>match qhq g L.ts with
   | some s=>decide (0<=L.c+s)
   | none=>ns
 | n+1,L=>(match qhq g L.ts with
   | some s=>decide (0<=L.c+s)
   | none=>ns) || match L.ts.find? (bears fs) with
   | none=>ns
   | some (a,x)=>fs.any λf=>
     let b:=qm1 x f.ts
     if b=0 then ns else
     let q:=a/b
     if 0<q/\q*b=a then ent g fs n (L.sub (f.sc q)) else ns
theorem qrq(g:qks)(Z:yu)(hg:g.ok Z)(L:qf) (h:(match qhq g L.ts with
  | some s=>decide (0<=L.c+s)
  | none=>ns)=nr):0<=L.eval Z:=by
 split at h
 .rename_i s hs;have:=qsd g Z hg _ _ hs;have:=of_decide_eq_true h;unfold qf.eval;omega
 .cases h
theorem qqn(g:qks)(Z:yu)(hg:g.ok Z)(fs:List qf)(hf:∀f∈fs,0<=f.eval Z):∀n L,ent g fs n L=nr->0<=L.eval Z
 | 0,L,h=>qrq g Z hg L h
 | n+1,L,h=>by
   unfold ent at h;rcases(cj _ _).mp h with h|h
   .exact qrq g Z hg L h
   .split at h
    .cases h
    .rename_i a x hL;obtain⟨f,hfm,h⟩:=gn.1 h;have h0:=hf f hfm;simp only at h;split at h
     .cases h
     .split at h
      .rename_i hq;have ih:=qqn g Z hg fs hf n _ h;rw[qf.sub_eval,qf.vg] at ih;have:=re (pg hq.1) h0;omega
      .cases h
def qhz(g:qks)(fs:List qf):Nat->Nat->qf->Bool
 | 0,_,_=>ns
 | n+1,k,L=>match L.ts.getLast? with
   | none=>decide (0<=L.c)
   | some (a,x)=>(fs.any λf=>match f.ts.getLast? with
      | none=>ns
      | some (_,y)=>if y=x\/0<k then(let b:=qm1 x f.ts;if b=0 then ns else let q:=a/b;if 0<q/\q*b=a then qhz g fs n (if y=x then k else k-1) (L.sub (f.sc q)) else ns) else ns) ||
     match g x with
     | some (lo,hi)=>qhz g fs n k ⟨L.c+(if 0<=a then a*lo else a*hi),L.ts.dropLast⟩
     | none=>ns
theorem qf6(Z:yu):∀l m,jk Z (l++m)=jk Z l+jk Z m
 | [],m=>by simp[jk]
 | (a,x)::r,m=>by simp[jk,qf6 Z r m];omega
theorem qkh(g:qks)(Z:yu)(hg:g.ok Z)(fs:List qf)(hf:∀f∈fs,0<=f.eval Z):∀n k L,qhz g fs n k L=nr->0<=L.eval Z
 | 0,k,L,h=>by cases h
 | n+1,k,L,h=>by
   unfold qhz at h;split at h
   .rename_i hL;have hn:L.ts=[]:=by simpa using hL
    have:=of_decide_eq_true h;unfold qf.eval;rw[hn];simp only[jk];omega
   .rename_i a x hL;rcases(cj _ _).mp h with h|h
    .obtain⟨f,hfm,h⟩:=gn.1 h;have h0:=hf f hfm;split at h
     .cases h
     .split at h
      .simp only at h;split at h
       .cases h
       split at h
       .rename_i hq;have ih:=qkh g Z hg fs hf n _ _ h;rw[qf.sub_eval,qf.vg] at ih;have:=re (pg hq.1) h0;omega
       .cases h
      .cases h
    .split at h
     .rename_i lo hi hgx;have ih:=qkh g Z hg fs hf n _ _ h;obtain⟨q1,q2⟩:=hg x lo hi hgx
      obtain⟨r,hr⟩:∃r,L.ts=r++[(a,x)]:=by
       rcases List.eq_nil_or_concat L.ts with e|⟨r,b,e⟩
       .rw[e] at hL;cases hL
       .rw[e] at hL;rw[yo,List.getLast?_concat] at hL;cases hL;exact⟨r,by rw[e,yo]⟩
      unfold qf.eval at ih ⊢;rw[hr] at ih ⊢;rw[List.dropLast_concat] at ih;rw[qf6];simp only[jk];simp only at ih;split at ih
      .rename_i ha;have:=mj q1 ha;omega
      .rename_i ha;have:=tj (a:=a) (b:=hi) (c:=meas (Z x)) kg q2;omega
     .cases h
def qbn(g:qks)(fs:List qf)(L:qf):Bool:=match L.ts.getLast? with
 | none=>ns
 | some (a,x)=>fs.any λf=>match f.ts.getLast? with
   | none=>ns
   | some (b,y)=>if y=x then(let q:=b/a;if 1<q/\q*a=b then qhz g fs 10 0 ((((L.pl 1).sc q).sub f).pl (-1)) else ns) else ns
theorem qw2(g:qks)(Z:yu)(hg:g.ok Z)(fs:List qf)(hf:∀f∈fs,0<=f.eval Z)(L:qf)(h:qbn g fs L=nr):0<=L.eval Z:=by
 unfold qbn at h;split at h
 .cases h
 .rename_i a x _;obtain⟨f,hfm,h⟩:=gn.1 h;have h0:=hf f hfm;split at h
  .cases h
  .rename_i b y _;split at h
   .simp only at h;split at h
    .rename_i hq;have ih:=qkh g Z hg fs hf _ _ _ h;rw[qf.xh,qf.sub_eval,qf.vg,qf.xh] at ih;by_cases hn:L.eval Z<0
     .have:=re (a:=b/a) (b:=-(L.eval Z+1)) kg kg;rw[Int.mul_neg] at this;omega
     .omega
    .cases h
   .cases h
def eqF(fs:List qf)(x:Nat):Option (Int×qf):=fs.findSome? λf=>match f.ts.getLast? with
 | some (b,y)=>if y=x/\(b=1\/b=-1)/\(fs.any λg=>decide (g.c=-f.c) && decide (g.ts=(f.sc (-1)).ts))=nr then I (b,f) else V
 | none=>V
def qnq(fs:List qf):Nat->qf->qf
 | 0,L=>L
 | n+1,L=>match L.ts.getLast? with
   | none=>L
   | some (a,x)=>match eqF fs x with
     | some (b,f)=>qnq fs n (L.sub (f.sc (a*b)))
     | none=>L
theorem eqF_ok{Z:yu}{fs:List qf}(hf:∀f∈fs,0<=f.eval Z){x:Nat}{b:Int}{f:qf}(h:eqF fs x=I (b,f)):f.eval Z=0:=by
 obtain⟨f',hm,h⟩:=List.exists_of_findSome?_eq_some h;split at h
 .split at h
  .rename_i hc;cases h;obtain⟨-,-,hg⟩:=hc;obtain⟨g,hgm,hg⟩:=gn.1 hg;simp only[ag,decide_eq_true_eq] at hg;have h1:=hf f hm;have h2:=hf g hgm;have h3:=qf.vg Z (-1) f;have h4:(f.sc (-1)).c=-f.c:=by simp[qf.sc]
   have h5:g.eval Z=(f.sc (-1)).eval Z:=by unfold qf.eval;rw[hg.1,hg.2,h4]
   omega
  .cases h
 .cases h
theorem qhn{Z:yu}{fs:List qf}(hf:∀f∈fs,0<=f.eval Z):∀n L,(qnq fs n L).eval Z=L.eval Z
 | 0,L=>rfl
 | n+1,L=>by
   unfold qnq;split
   .rfl
   .split
    .rename_i h;rw[qhn hf n,qf.sub_eval,qf.vg,eqF_ok hf h];omega
    .rfl
inductive BE where
 | tt (b:Bool)
 | ge (l:qf)
 | eq (l:qf)
 | var (n:Nat)
 | not (a:BE)
 | and (a b:BE)
 | or (a b:BE)
def qky:ny->Bool
 | .bool b=>b
 | _=>ns
def BE.den(Z:yu):BE->Bool
 | .tt b=>b
 | .ge l=>decide (0<=l.eval Z)
 | .eq l=>decide (l.eval Z=0)
 | .var n=>qky (Z n)
 | .not a=>!a.den Z
 | .and a b=>a.den Z && b.den Z
 | .or a b=>a.den Z || b.den Z
inductive SV where
 | con (v:ny)
 | var (n:Nat)
 | lin (k:IntKind) (l:qf)
 | be (b:BE)
 | ptr (n off:Nat)
def qqx:ny->Addr
 | .pointer (I a)=>a
 | _=>⟨0,0,V⟩
def SV.den(Z:yu):SV->ny
 | .con v=>v
 | .var n=>Z n
 | .lin k l=>.int k (l.eval Z)
 | .be b=>.bool (b.den Z)
 | .ptr n off=>.pointer (I ⟨(qqx (Z n)).block,(qqx (Z n)).off+off,V⟩)
inductive TV where
 | one (s:SV)
 | agg (l:List SV)
inductive XV where
 | v (t:TV)
 | tup (l:List TV)
def qw(Z:yu)(l:List SV):List ny:=l.map (SV.den Z)
def TV.den(Z:yu):TV->ny
 | .one s=>s.den Z
 | .agg l=>.agg (qw Z l).toArray
def XV.den(Z:yu):XV->ny
 | .v t=>t.den Z
 | .tup l=>.tuple (l.map (TV.den Z)).toArray
def TV.cells:TV->List SV
 | .one s=>[s]
 | .agg l=>l
def SV.meas:SV->Option qf
 | .con v=>I (qf.k (Sy.meas v))
 | .var n=>I (qf.at n)
 | .lin _ l=>I l
 | .be _=>V
 | .ptr _ _=>I (qf.k 0)
theorem SV.qv2(Z:yu){s:SV}{l:qf}(h:s.meas=I l):l.eval Z=Sy.meas (s.den Z):=by
 cases s<;>simp only[SV.meas,bc,reduceCtorEq] at h<;>subst h<;>simp[SV.den,qf.ja,qf.yl,Sy.meas]
def qq8(g:qks)(fs:List qf):Bool->BE->List qf
 | true,.ge l=>[l]
 | false,.ge l=>[(l.sc (-1)).pl (-1)]
 | true,.eq l=>[l,l.sc (-1)]
 | false,.eq l=>if ent g fs 4 l then [l.pl (-1)] else if ent g fs 4 (l.sc (-1)) then [(l.sc (-1)).pl (-1)] else []
 | true,.var n=>[(qf.at n).pl (-1)]
 | t,.not a=>qq8 g fs (!t) a
 | true,.and a b=>qq8 g fs nr a++qq8 g fs nr b
 | false,.or a b=>qq8 g fs ns a++qq8 g fs ns b
 | true,.tt false=>[qf.k (-1)]
 | false,.tt true=>[qf.k (-1)]
 | _,_=>[]
theorem qz6(g:qks)(Z:yu)(hg:g.ok Z)(fs:List qf)(hf:∀f∈fs,0<=f.eval Z):∀(e:BE) (t:Bool),e.den Z=t->∀f∈qq8 g fs t e,0<=f.eval Z
 | .tt b,t,h,f,hm=>by
   have hb:b=t:=h;subst hb;cases b<;>simp[qq8] at hm
 | .ge l,nr,h,f,hm=>by
   simp only[qq8,gz] at hm;subst hm;exact of_decide_eq_true h
 | .ge l,ns,h,f,hm=>by
   simp only[qq8,gz] at hm;subst hm;have:=of_decide_eq_false h;rw[qf.xh,qf.vg];omega
 | .eq l,nr,h,f,hm=>by
   have:=of_decide_eq_true h;simp only[qq8,cu,List.not_mem_nil,or_false] at hm;rcases hm with rfl|rfl
   .omega
   .rw[qf.vg];omega
 | .eq l,ns,h,f,hm=>by
   have:=of_decide_eq_false h;simp only[qq8] at hm;split at hm
   .rename_i he;have:=qqn g Z hg fs hf _ _ he;simp only[gz] at hm;subst hm;rw[qf.xh];omega
   .split at hm
    .rename_i he;have:=qqn g Z hg fs hf _ _ he;rw[qf.vg] at this;simp only[gz] at hm;subst hm;rw[qf.xh,qf.vg];omega
    .cases hm
 | .var n,ns,h,f,hm=>by simp[qq8] at hm
 | .var n,nr,h,f,hm=>by
   simp only[qq8,gz] at hm;subst hm;have h:qky (Z n)=nr:=h;rw[qf.xh,qf.yl];cases hq:Z n<;>rw[hq] at h<;>first|(cases h;done)|skip
   rename_i b;have h:b=nr:=h;subst h;decide
 | .not a,t,h,f,hm=>by
   have h':a.den Z=!t:=by simp only[BE.den] at h;rw[<-h,Bool.not_not]
   exact qz6 g Z hg fs hf a (!t) h' f (by cases t<;>simpa[qq8] using hm)
 | .and a b,nr,h,f,hm=>by
   simp only[BE.den,ag] at h;simp only[qq8,bo] at hm;rcases hm with hm|hm
   .exact qz6 g Z hg fs hf a nr h.1 f hm
   .exact qz6 g Z hg fs hf b nr h.2 f hm
 | .and a b,ns,h,f,hm=>by simp[qq8] at hm
 | .or a b,ns,h,f,hm=>by
   simp only[BE.den,Bool.or_eq_false_iff] at h;simp only[qq8,bo] at hm;rcases hm with hm|hm
   .exact qz6 g Z hg fs hf a ns h.1 f hm
   .exact qz6 g Z hg fs hf b ns h.2 f hm
 | .or a b,nr,h,f,hm=>by simp[qq8] at hm
end Sy
open Go.RowKit Go.WideShapes Go.ChangeShapes
def Blk(w:nu)(g:Nat)(t:nz)(cs:Array ny):Prop:=w.heap[g]? = I (.cells cs t (0,0))
section
variable {w w':nu}{g:Nat}{t:nz}{cs:Array ny}
theorem Blk.lt(h:Blk w g t cs):g<w.heap.size:=by
 rcases dw g w.heap.size with hlt|hge
 .exact hlt
 .unfold Blk at h;rw[dq hge] at h;cases h
theorem Blk.cell(h:Blk w g t cs)(i:Nat):w.cell? ⟨g,i,V⟩=cs[i]?:=cell_of_row w g i cs t (0,0) h
theorem Blk.frozen(h:Blk w g t cs)(i:Nat):w.frozen? ⟨g,i,V⟩=ns:=by
 unfold Blk at h;simp[World.frozen?,h]
theorem Blk.new(w:nu)(t:nz)(cs:Array ny):Blk (w.alloc (.cells cs t)) w.heap.size t cs:=heap_alloc_new w _
theorem Blk.drewN(h:Blk w g t cs)(n:Nat):Blk (w.drewN n) g t cs:=h
theorem Blk.alloc(h:Blk w g t cs)(o:Obj):Blk (w.alloc o) g t cs:=(Below.heap_alloc w o g h.lt).trans h
theorem Blk.set_(h:Blk w g t cs)(i:Nat)(u:ny):Blk (w.setCell ⟨g,i,V⟩ u) g t (cs.setIfInBounds i u):=by
 unfold Blk at h ⊢;simp[World.setCell,Array.getElem?_modify,h]
theorem Blk.far(h:Blk w g t cs){p:Addr}(hp:g≠p.block)(u:ny):Blk (w.setCell p u) g t cs:=(Below.heap_setCell w p u g hp).trans h
theorem Blk.below{B:Nat}(h:Blk w g t cs)(hb:Below B w w')(hg:g<B):Blk w' g t cs:=(hb.block g hg).trans h
theorem Blk.call(h:Blk w g t cs)(hb:Below w.heap.size w w'):Blk w' g t cs:=h.below hb h.lt
end
theorem yf{B:Nat}{a w:nu}(h:Below B a w)(n:Nat):Below B a (w.drewN n):=⟨h.os,h.tape,h.output,h.size,h.block⟩
theorem zy(w:nu)(o:Obj):Below w.heap.size w (w.alloc o):=(aj _ _).alloc (af _) _
theorem qp{a w:nu}(h:Below a.heap.size a w)(o:Obj):Below a.heap.size a (w.alloc o):=h.alloc h.size _
theorem qg{a w w':nu}(h:Below a.heap.size a w)(hb:Below w.heap.size w w'):Below a.heap.size a w':=h.trans (hb.mono h.size)
section
variable {H:Type}{enc:nz×ny->H}{P:ma}
theorem qms{f:Func}{s:ChangeSpec}{apart fresh handsOn again:Bool}{W W':nu}{args:Array ny}{v:ny}{ds gs:List (DataW H)}{before pa pv:List MemPlace}
  (hW:adl enc P f.params.toList s.vars apart W args.toList ds gs before)
  (hres:∀(b:Nat) (sp:Nat->Bool) (hd:Bool),uc enc P W' b sp hd f.resultTypes.toList (v.resultList f.resultTypes.size) (s.fn H (ds++gs)).results [])
  (hargs:∀sp:Nat->Bool,(∀p∈before,sp p.block=nr)->uc enc P W' 0 sp nr f.params.toList args.toList (s.fn H (ds++gs)).args pa)
  (hvars:∀sp:Nat->Bool,(∀p∈before,sp p.block=nr)->DataW.TrodVars enc P W' sp s.vars (s.fn H (ds++gs)).vars pv)
  (hps:before=pa++pv) (hb:Below W.heap.size W W')
  (hok:∀(j:Nat) (t:nz) (r:ny),f.resultTypes[j]? = I t->(v.resultList f.resultTypes.size)[j]? = I r->Value.okWide P W' .any 0 t r) :
  s.post enc P f apart fresh handsOn again W args v W':=by
 have hlt:∀p∈before,p.block<W.heap.size:=λp hp=>hW.lt p hp
 have hold:∀p∈before,(λb=>decide (b<W.heap.size)) p.block=nr:=λp hp=>by simpa using hlt p hp
 refine⟨ds,gs,before,[],pa,pv,hW,hres _ _ _,hargs _ hold,hvars _ hold,World.keptBut_mono (λp hp=>⟨hp,?_⟩) (hb.frame (·∈before)),λ_=>?_⟩
 .rw[hps,bo] at hp;exact Or.inr hp
 .obtain⟨_,_,_,_,_,hz,hn⟩:=hW;refine⟨hok,_,_,([]++pa)++pv,⟨[]++pa,pv,trodAll_append (hargs _ (λ_ _=>rfl)) (hres _ _ _),hvars _ (λ_ _=>rfl),rfl,?_,?_⟩,?_⟩
  .intro b off hp;have hin:MemPlace.cell b off∈before:=by rw[hps];simpa using hp
   rw[hb.frozen (hlt _ hin)];exact hz b off hin
  .intro ha;have:=hn ha;rw[hps] at this;simpa using this
  .intro p hp _;rw[hps];simpa using hp
end
open Go.RowKit Go.WideShapes Go.ChangeShapes
section
variable {H:Type}{enc:nz×ny->H}{P:ma}
theorem qd2(hl:laidOutB P=nr){W W':nu}(hb:Below W.heap.size W W'){sp:Nat->Bool} :
  ∀{ts:List nz} {vs:List ny} {ds:List (DataW H)} {p:List MemPlace},(∀t∈ts,P.readableRec t=nr/\t<P.types.size)->uc enc P W 0 (λ_=>nr) nr ts vs ds p ->
   (∀x∈p,x.block<W.heap.size)->(∀x∈p,sp x.block=nr)->uc enc P W' 0 sp nr ts vs ds p
 | [],_,_,_,_,h,_,_=>by
   obtain⟨rfl,rfl,rfl⟩:=trodAll_nil h;exact h
 | t::ts,_,_,_,hr,h,hlt,hsp=>by
   obtain⟨v,vs1,d,ds1,a,b,rfl,rfl,rfl,h1,h2⟩:=trodAll_cons h;have ht:=hr t kq
   exact⟨a,b,WideElems.Trod_stays hl ht.1 ht.2 h1 (λx hx=>hb.same (hlt x (by simp[hx]))) (λx hx=>hsp x (by simp[hx])),
    qd2 hl hb (λt ht=>hr t (by simp[ht])) h2 (λx hx=>hlt x (by simp[hx])) (λx hx=>hsp x (by simp[hx])),rfl⟩
theorem law_post{f:Func}{s:ChangeSpec}{apart fresh handsOn again:Bool}{W W':nu}{args:Array ny}{ds gs:List (DataW H)}{before:List MemPlace}{tb:nz}
  (hl:laidOutB P=nr) (hr:f.params.toList.all (λt=>P.readableRec t && decide (t<P.types.size))=nr) (hv:s.vars=[]) (hfn:s.fn H ds={ results:=[.lit (.bool nr)],args:=ds })
  (hrt:f.resultTypes=#[tb]) (htb:P.underlying tb=I .bool)
  (hW:adl enc P f.params.toList s.vars apart W args.toList ds gs before) (hb:Below W.heap.size W W') :
  s.post enc P f apart fresh handsOn again W args (ni nr) W':=by
 have hW':=hW;have hlt:∀p∈before,p.block<W.heap.size:=λp hp=>hW.lt p hp
 obtain⟨p,q,hA,hV,rfl,hfz,hnd⟩:=hW;rw[hv] at hV;obtain⟨rfl,rfl⟩:=trodVars_none hV;simp only[sj] at hlt
 have hr':∀t∈f.params.toList,P.readableRec t=nr/\t<P.types.size:=by
  intro t ht;have:=ao.1 hr t ht;simpa using this
 refine qms (pa:=p) (pv:=[]) hW' (λ_ _ _=>?_) (λsp hsp=>?_) (λ_ _=>?_) rfl hb ?_
 .rw[sj,hfn,hrt];exact trodAll_cons_mk (shut_bool htb _) trodAll_mk0
 .rw[sj,hfn];exact qd2 hl hb hr' hA hlt (λx hx=>hsp x (by simp[hx]))
 .rw[hv,sj,hfn];rfl
 .exact ok_one hrt rfl (okWide_bool_mk htb _)
end
open Go.Joins Go.ChangeShapes Go.WideShapes Go.RowKit Go.Deep
section
variable {H:Type}{enc:nz×ny->H}{P:ma}{w:nu}{base:Nat}{spare:Nat->Bool}{held:Bool}
end
open Go.RowKit Go.ChangeShapes Go.WideShapes Go.Deep
section
variable {α:Type}{R R':List ny->α->Prop}{size:Nat}{w w':nu}{v:ny}{xs:List α}
end
section
variable {α:Type}{R:List ny->α->Prop}{size:Nat}{w:nu}{v:ny}{xs:List α}
end
section
variable {H:Type}{enc:nz×ny->H}{P:ma}{w:nu}{base:Nat}{spare:Nat->Bool}{held:Bool}
end
open Go.RowKit Go.ChangeShapes Go.WideShapes Go.Deep
section
variable {α:Type}{R:List ny->α->Prop}{e:nz}{size base:Nat}{w w':nu}{v:ny}{xs:List α}
end
open Go.RowKit Go.ChangeShapes Go.WideShapes Go.Deep
section
variable {base:Nat}{e:nz}{size g n cap:Nat}
variable {α:Type}{R:List ny->α->Prop}
end
namespace qx
open Go.RowKit
variable {a:Array ny}{i:Nat}{d v:ny}
def zi(ops:Array Oper)(k:Nat):Option Tmp:=(ops[k]?).bind (·.dst)
def idxOf(ops:Array Oper)(m:Nat)(d:Tmp):Option Nat:=(ay m).find? (λk=>zi ops k == I d)
def waits(o:Oper)(k:Nat):Bool:=o.after.any (λe=>dy .any e && e.on == k)
def opB(ops:Array Oper)(m i:Nat):Bool:=match ops[i]? with
 | some o=>o.guard.isNone && o.after.all (λe=>!Region.binds .any e || decide (e.on<i)) &&
    o.op.operands.all (λx=>match x with|.tmp d=>(ay m).all (λk=>zi ops k != I d || waits o k)|_=>nr) &&
    (ay m).all (λk=>k == i || zi ops i == V || zi ops k != zi ops i)
 | none=>ns
def reaches(ops:Array Oper):Nat->Nat->Nat->Bool
 | 0,_,_=>ns
 | f+1,i,k=>match ops[i]? with
   | some o=>waits o k || o.after.any (λe=>dy .any e && reaches ops f e.on k)
   | none=>ns
def qm3(ops:Array Oper)(m i:Nat):Bool:=(ay m).all (λk=>reaches ops ops.size i k)
def qxp(m n:Nat):Array Bool:=fy m nr++fy (n-m) ns
def qyf(ops:Array Oper)(m:Nat):Bool:=
 decide (m<=ops.size) && (ay m).all (opB ops m) && (ay ops.size).all (λi=>decide (i<m) || qm3 ops m i) && tr .any ops (ops.size-m) m (qxp m ops.size)
def puts(ops:Array Oper)(vals:Nat->ny)(L:Nat->Bool):List Nat->Act->Act
 | [],a=>a
 | k::ks,a=>puts ops vals L ks (if L k then a.put (zi ops k) (vals k) else a)
theorem qg1{ops:Array Oper}{vals:Nat->ny}{L:Nat->Bool}{x:Option Tmp}{v:ny}:∀(ks:List Nat) (a:Act),(∀k∈ks,∀d,x=I d->zi ops k≠I d)->puts ops vals L ks (a.put x v)=(puts ops vals L ks a).put x v
 | [],_,_=>rfl
 | k::ks,a,h=>by
   unfold puts;split
   .rw[Act.put_comm a v (vals k) (h k kq)];exact qg1 ks _ (λj hj=>h j (by simp[hj]))
   .exact qg1 ks _ (λj hj=>h j (by simp[hj]))
theorem qxz{ops:Array Oper}{vals vals':Nat->ny}{L L':Nat->Bool}:∀(ks:List Nat) (a:Act),(∀k∈ks,L k=L' k/\vals k=vals' k)->puts ops vals L ks a=puts ops vals' L' ks a
 | [],_,_=>rfl
 | k::ks,a,h=>by
   unfold puts;rw[(h k kq).1,(h k kq).2];exact qxz ks _ (λj hj=>h j (by simp[hj]))
theorem qgf{ops:Array Oper}{vals:Nat->ny}{L:Nat->Bool}{i:Nat}{v:ny}:∀(ks:List Nat) (a:Act),ks.Nodup->i∈ks->L i=ns->(∀k∈ks,k≠i->∀d,zi ops i=I d->zi ops k≠I d) ->
  puts ops (λk=>if k=i then v else vals k) (λk=>L k || k == i) ks a=(puts ops vals L ks a).put (zi ops i) v
 | [],_,_,h,_,_=>by simp at h
 | k::ks,a,hn,hm,hL,hd=>by
   have hn':=xp.1 hn;unfold puts;by_cases e:k=i
   .subst e;simp only[hL,beq_self_eq_true,Bool.or_true,if_true,da,if_false];rw[<-qg1 ks a (λj hj d h1=>hd j (by simp[hj]) (λe=>hn'.1 (e ▸ hj)) d h1)];refine qxz ks _ (λj hj=>?_);have hne:j≠k:=λe=>hn'.1 (e ▸ hj)
    simp[hne]
   .have hm':i∈ks:=by
     rcases cu.1 hm with h|h
     .exact absurd h.symm e
     .exact h
    have he:(k == i)=ns:=by simpa using e
    simp only[he,Bool.or_false,if_neg e];exact qgf ks _ hn'.2 hm' hL (λj hj=>hd j (by simp[hj]))
theorem qcs(a:Act)(x:Option Tmp)(v:ny):(a.put x v).tmps.size=a.tmps.size:=by cases x<;>simp[ez]
theorem q2e(a:Act)(x:Option Tmp)(v:ny)(d:Tmp)(h:x≠I d):(a.put x v).tmps.getD d mc=a.tmps.getD d mc:=by
 cases x with
 | none=>rfl
 | some c=>
   have:c≠d:=λe=>h (by rw[e])
   simp[ez,au,this]
theorem q4d(a:Act)(v:ny)(d:Tmp)(h:d<a.tmps.size):(a.put (I d) v).tmps.getD d mc=v:=by
 simp[ez,au,h]
theorem qy6{ops:Array Oper}{vals:Nat->ny}{L:Nat->Bool}{d:Tmp}:∀(ks:List Nat) (a:Act),(∀k∈ks,zi ops k≠I d)->(puts ops vals L ks a).tmps.getD d mc=a.tmps.getD d mc
 | [],_,_=>rfl
 | k::ks,a,h=>by
   unfold puts;rw[qy6 ks _ (λj hj=>h j (by simp[hj]))];split
   .exact q2e _ _ _ _ (h k kq)
   .rfl
theorem qk3{ops:Array Oper}{vals:Nat->ny}{L:Nat->Bool}{d:Tmp}{i:Nat}(hi:zi ops i=I d)(hL:L i=nr):∀(ks:List Nat) (a:Act),ks.Nodup->i∈ks->d<a.tmps.size->(∀k∈ks,k≠i->zi ops k≠I d) ->
  (puts ops vals L ks a).tmps.getD d mc=vals i
 | [],_,_,h,_,_=>by simp at h
 | k::ks,a,hn,hm,hs,hd=>by
   have hn':=xp.1 hn;unfold puts;by_cases e:k=i
   .subst e;rw[hL,if_pos rfl,qy6 ks _ (λj hj=>hd j (by simp[hj]) (λe=>hn'.1 (e ▸ hj))),hi];exact q4d _ _ _ hs
   .have hm':i∈ks:=by
     rcases cu.1 hm with h|h
     .exact absurd h.symm e
     .exact h
    refine qk3 hi hL ks _ hn'.2 hm' ?_ (λj hj=>hd j (by simp[hj]));split
    .rw[qcs];exact hs
    .exact hs
def qc(P:ma)(R:ny->nu->Prop):Result Next->Prop
 | .ok (.value v) w'=>R v w'
 | .ok .skip w'=>R mc w'
 | .ok (.enter f args) w'=>Calls P f args w' λe w''=>∃v,e=.returned v/\R v w''
 | _=>False
def qkd(ops:Array Oper)(m:Nat)(a0:Act)(Φ:Nat->ny->nu->Prop)(w:nu)(d:Tmp)(v:ny):Prop:=match idxOf ops m d with
 | some k=>Φ k v w
 | none=>v=a0.tmps.getD d mc
section
variable {P:ma}{ops:Array Oper}{Q:Exit->Act->nu->Prop}{m:Nat}{a0:Act}{G:nu->Prop}{Φ:Nat->ny->nu->Prop}
def left(m:Nat)(listed:Array Bool):Nat:=((ay m).filter (λk=>!listed.getD k ns)).length
theorem qza(listed:Array Bool)(i k:Nat)(b:Bool)(hi:i<listed.size):(listed.setIfInBounds i nr).getD k b=(if k=i then nr else listed.getD k b):=by
 rw[au,au,Array.getElem?_setIfInBounds];by_cases e:k=i
 .subst e;simp[hi]
 .have:i≠k:=λh=>e h.symm
  simp[e,this]
theorem qfu(listed:Array Bool)(i:Nat)(hi:i<listed.size):listed.getD i nr=listed.getD i ns:=by
 rw[au,au,ak hi];rfl
theorem qn2{listed:Array Bool}(hi:i<m)(his:i<listed.size)(hu:listed.getD i ns=ns):left m (listed.setIfInBounds i nr)+1=left m listed:=by
 unfold left
 have key:∀(ks:List Nat),ks.Nodup->i∈ks->(ks.filter (λk=>!(listed.setIfInBounds i nr).getD k ns)).length+1=(ks.filter (λk=>!listed.getD k ns)).length:=by
  intro ks
  induction ks with
  | nil=>intro _ h;simp at h
  | cons k ks ih=>
    intro hn hm;have hn':=xp.1 hn;by_cases e:k=i
    .subst e;have h1:(!(listed.setIfInBounds k nr).getD k ns)=ns:=by rw[qza _ _ _ _ his,if_pos rfl];rfl
     have h2:(!listed.getD k ns)=nr:=by rw[hu];rfl
     rw[List.filter_cons_of_neg (by rw[h1];simp),List.filter_cons_of_pos (by rw[h2])];rw[gp];congr 2;refine List.filter_congr (λj hj=>?_);rw[qza _ _ _ _ his,if_neg (λ(e:j=k)=>hn'.1 (e ▸ hj))]
    .have hm':i∈ks:=by
      rcases cu.1 hm with h|h
      .exact absurd h.symm e
      .exact h
     have ih':=ih hn'.2 hm';have hk:(listed.setIfInBounds i nr).getD k ns=listed.getD k ns:=by rw[qza _ _ _ _ his,if_neg e]
     rw[rr,rr,hk];split
     .simp only[gp];omega
     .exact ih'
 exact key (ay m) pn (bj.2 hi)
theorem qxw{listed:Array Bool}(down:∀(k:Nat) (o:Oper),ops[k]? = I o->listed.getD k ns=nr->∀e∈o.after,dy .any e=nr->listed.getD e.on ns=nr) :
  ∀(f i:Nat) (o:Oper) (k:Nat),ops[i]? = I o->(∀e∈o.after,dy .any e=nr->listed.getD e.on ns=nr)->reaches ops f i k=nr->listed.getD k ns=nr
 | 0,_,_,_,_,_,h=>by simp[reaches] at h
 | f+1,i,o,k,ho,hd,h=>by
   unfold reaches at h;rw[ho] at h;simp only[cj] at h;rcases h with h|h
   .unfold waits at h;rw[oo] at h;obtain⟨e,he,hb⟩:=h;simp only[ag,beq_iff_eq] at hb;have:=hd e he hb.1;rw[hb.2] at this;exact this
   .rw[oo] at h;obtain⟨e,he,hb⟩:=h;simp only[ag] at hb;have hl:=hd e he hb.1;rcases ho':ops[e.on]? with _|o'
    .have:=hb.2;cases f with
     | zero=>simp[reaches] at this
     | succ f=>unfold reaches at this;rw[ho'] at this;simp at this
    .exact qxw down f e.on o' k ho' (down e.on o' ho' hl) hb.2
theorem qqq{n:Nat}(h:(ay m).all (λk=>match zi ops k with|some d=>decide (d<n)|none=>nr)=nr)(hn:a0.tmps.size=n):∀k d,k<m->zi ops k=I d->d<a0.tmps.size:=by
 intro k d hk hd;have:=ao.1 h k (bj.2 hk);rw[hd] at this;rw[hn];simpa using this
theorem qc.mono{R R':ny->nu->Prop}:∀{r:Result Next},qc P R r->(∀v w,R v w->R' v w)->qc P R' r:=by
 intro r h hR;cases r with
 | ok nx w=>
   cases nx
   all_goals simp only[qc] at h ⊢
   all_goals first|exact hR _ _ h|exact Calls.mono h λe w' ⟨v,he,hv⟩=>⟨v,he,hR _ _ hv⟩
 | halt x w=>simp only[qc] at h
theorem gdt(h:a.getD i d=v):a[i]?.getD d=v:=gdq h
theorem gpk{p:Prop}{u:ny}(h:p/\a.getD i d=v)(k:p->v=u):a[i]?.getD d=u:=(gdt h.2).trans (k h.1)
theorem qc.eq{W:nu}{R:ny->nu->Prop}{r:Result Next}(h:qc P (λx W'=>x=v/\W'=W) r)(hR:R v W):qc P R r:=h.mono (λx W' ⟨a,b⟩=>by subst a;subst b;exact hR)
end
end qx
namespace Reg9g
open Go.RowKit qx
def qqw(o:Oper)(vals:Nat->ny):Bool:=match o.guard with
 | none=>nr
 | some (j,want)=>match vals j with
   | .bool b=>b == want
   | _=>ns
def opG(ops:Array Oper)(m i:Nat):Bool:=match ops[i]? with
 | some o=>(match o.guard with
    | none=>nr
    | some (j,_)=>waits o j && decide (j<m) && (zi ops j).isSome) && o.after.all (λe=>!Region.binds .any e || decide (e.on<i)) &&
    o.op.operands.all (λx=>match x with|.tmp d=>(ay m).all (λk=>zi ops k != I d || waits o k)|_=>nr) &&
    (ay m).all (λk=>k == i || zi ops i == V || zi ops k != zi ops i)
 | none=>ns
def qqt(ops:Array Oper)(m:Nat):Bool:=
 decide (m<=ops.size) && (ay m).all (opG ops m) && (ay ops.size).all (λi=>decide (i<m) || qm3 ops m i) && tr .any ops (ops.size-m) m (qxp m ops.size)
theorem qli{ops:Array Oper}{vals:Nat->ny}{L:Nat->Bool}:∀(ks:List Nat) (a:Act),(puts ops vals L ks a).tmps.size=a.tmps.size
 | [],a=>rfl
 | k::ks,a=>by
   unfold puts;rw[qli ks];split
   .cases zi ops k<;>simp[ez]
   .rfl
section
variable {P:ma}{ops:Array Oper}{Q:Exit->Act->nu->Prop}{m:Nat}{a0:Act}{S:(Nat->Bool)->(Nat->ny)->nu->Prop}
structure Inv(ops:Array Oper)(m:Nat)(a0:Act)(S:(Nat->Bool)->(Nat->Value)->World->Prop)(vals:Nat->Value)(listed:Array Bool)(a:Act)(w:World):Prop where
 size:listed.size=ops.size
 tail:∀i,m<=i->i<ops.size->listed.getD i nr=ns
 act:a=puts ops vals (λk=>listed.getD k ns) (ay m) a0
 s:S (λk=>listed.getD k ns) vals w
 down:∀(k:Nat) (o:Oper),ops[k]? = I o->listed.getD k ns=nr->∀e∈o.after,dy .any e=nr->listed.getD e.on ns=nr
theorem main(hH:qqt ops m=nr)(hin:∀k d,k<m->zi ops k=I d->d<a0.tmps.size)
  (hstep:∀i o,i<m->ops[i]? = I o->∀(L:Nat->Bool) (vals:Nat->ny) (a:Act) (w:nu),L i=ns->S L vals w->(∀e∈o.after,dy .any e=nr->L e.on=nr)->(∀d,Operand.tmp d∈o.op.operands->match idxOf ops m d with|some k=>L k=nr/\a.tmps.getD d mc=vals k|none=>a.tmps.getD d mc=a0.tmps.getD d mc)->(∀k j o',ops[k]? = I o'->L k=nr->reaches ops ops.size k j=nr->L j=nr)->(∀j b,o.guard=I (j,b)->j<m/\L j=nr) ->
    (qqw o vals=nr->qc P (λv w'=>S (λk=>if k=i then nr else L k) (λk=>if k=i then v else vals k) w') ((execOp a.eval o).run P w))/\(qqw o vals=ns->S (λk=>if k=i then nr else L k) (λk=>if k=i then mc else vals k) w))
  (hfin:∀(L:Nat->Bool) (vals:Nat->ny) (w:nu),(∀k,k<m->L k=nr)->S L vals w->wpList P ops Q (ops.toList.drop m) (puts ops vals (λ_=>nr) (ay m) a0) w) :
  ∀(c:Nat) (vals:Nat->ny) (listed:Array Bool) (a:Act) (w:nu),Inv ops m a0 S vals listed a w->left m listed=c->wpAny P .any ops Q (c+(ops.size-m)) listed a w:=by
 simp only[qqt,ag,decide_eq_true_eq,ao,bj,cj] at hH;obtain⟨⟨⟨hmn,qh⟩,htail⟩,hseq⟩:=hH
 have qg2:∀i o,i<m->ops[i]? = I o->(∀j want,o.guard=I (j,want)->waits o j=nr/\j<m/\∃d,zi ops j=I d)/\(∀e∈o.after,dy .any e=nr->e.on<i)/\(∀d,Operand.tmp d∈o.op.operands->∀k,k<m->zi ops k=I d->waits o k=nr)/\(∀k,k<m->k≠i->∀d,zi ops i=I d->zi ops k≠I d):=by
  intro i o hi ho;have h:=qh i hi;unfold opG at h;rw[ho] at h;simp only[ag,Array.all_eq_true_iff_forall_mem,decide_eq_true_eq,ao,bj,cj,bne_iff_ne,beq_iff_eq] at h;obtain⟨⟨⟨h1,h2⟩,h3⟩,h4⟩:=h;refine⟨λj want hg=>(by rw[hg] at h1;simp only[ag,decide_eq_true_eq,Option.isSome_iff_exists] at h1;exact⟨h1.1.1,h1.1.2,h1.2⟩),λe he hb=>(h2 e he).resolve_left (by rw[hb];decide),λd hd k hk hkd=>?_,λk hk hne d hd hkd=>?_⟩
  .have:=h3 _ hd;simp only[ao,bj,cj,bne_iff_ne] at this;rcases this k hk with h|h
   .exact absurd hkd h
   .exact h
  .rcases h4 k hk with(h|h)|h
   .exact hne h
   .rw[h] at hd;cases hd
   .rw[hd,hkd] at h;exact h rfl
 intro c
 induction c with
 | zero=>
   intro vals listed a w inv hc
   have hall:∀k,k<m->listed.getD k ns=nr:=by
    intro k hk;unfold left at hc;have:=List.eq_nil_of_length_eq_zero hc;have h2:=List.filter_eq_nil_iff.1 this k (bj.2 hk);simpa using h2
   have hl:listed=qxp m ops.size:=by
    refine Array.ext (by simp[qxp,inv.size];omega) (λk h1 h2=>?_);by_cases hk:k<m
    .have e1:=hall k hk;rw[au,ak h1] at e1;have e2:(qxp m ops.size)[k]=nr:=by simp[qxp,hk]
     rw[e2];simpa using e1
    .have e1:=inv.tail k kg (by rw[<-inv.size];exact h1);rw[au,ak h1] at e1;have e2:(qxp m ops.size)[k]=ns:=by simp[qxp,Array.getElem_append,hk]
     rw[e2];simpa using e1
   have ha:a=puts ops vals (λ_=>nr) (ay m) a0:=by
    rw[inv.act];exact qxz _ _ (λk hk=>⟨hall k (bj.1 hk),rfl⟩)
   subst ha;have hlen:(ops.toList.drop m).length=ops.size-m:=kq;have:=wpAny_of_seq (md:=.any) (Q':=Q) (P:=P) (ops:=ops) (ops.toList.drop m) m listed _ w (λj=>kq) (by rw[hlen,hl];exact hseq) (hfin _ vals w hall inv.s);rw[hlen] at this;rw[bu];exact this
 | succ c ih=>
   intro vals listed a w inv hc;rw[show c+1+(ops.size-m)=(c+(ops.size-m))+1 by omega]
   have hex:∃i,i<m/\listed.getD i ns=ns:=by
    unfold left at hc;rcases hl:(ay m).filter (λk=>!listed.getD k ns) with _|⟨i,l⟩
    .rw[hl] at hc;simp at hc
    .have:i∈(ay m).filter (λk=>!listed.getD k ns):=by rw[hl];simp
     rw[List.mem_filter,bj] at this;exact⟨i,this.1,by simpa using this.2⟩
   refine⟨λhr=>?_,λi hi=>?_⟩
   ·
    exfalso
    obtain⟨i,⟨hi,hu⟩,hmin⟩:∃i,(i<m/\listed.getD i ns=ns)/\∀j,j<i->listed.getD j ns=nr:=by
     obtain⟨i,hi,hu⟩:=hex
     induction i using Nat.strongRecOn with
     | _ i ihs=>
       by_cases hb:∃j,j<i/\listed.getD j ns=ns
       .obtain⟨j,hj,hju⟩:=hb;exact ihs j hj kg hju
       .exact⟨i,⟨hi,hu⟩,λj hj=>by
         cases hv:listed.getD j ns with
         | true=>rfl
         | false=>exact absurd ⟨j,hj,hv⟩ hb⟩
    have ho:∃o,ops[i]? = I o:=⟨ops[i]' kg,ak _⟩;obtain⟨o,ho⟩:=ho;have:i∈Region.ready .any ops listed:=mem_ready.2 ⟨by rw[qfu _ _ (by rw[inv.size];omega)];exact hu,o,ho,λe he hb=>hmin _ ((qg2 i o hi ho).2.1 e he hb)⟩;rw[hr] at this;cases this
   .obtain⟨hu,o,ho,hed⟩:=mem_ready.1 hi;have hin':i<ops.size:=(cl.1 ho).1;have his:i<listed.size:=by rw[inv.size];exact hin'
    have hu':listed.getD i ns=ns:=by rw[<-qfu _ _ his];exact hu
    have him:i<m:=by
     rcases dw i m with h|h
     .exact h
     .exfalso;obtain⟨k,hk,hku⟩:=hex;have ht:=htail i hin';rcases ht with ht|ht
      .omega
      .unfold qm3 at ht;simp only[ao,bj] at ht;have:=qxw inv.down _ i o k ho hed (ht k hk);rw[hku] at this;cases this
    obtain⟨g1,g2,g3,g4⟩:=qg2 i o him ho
    have hval:∀k d,k<m->zi ops k=I d->waits o k=nr->listed.getD k ns=nr/\a.tmps.getD d mc=vals k:=by
     intro k d hkm hkd hw;unfold waits at hw;rw[oo] at hw;obtain⟨e,he,hb⟩:=hw;simp only[ag,beq_iff_eq] at hb;have hlk:=hed e he hb.1;rw[hb.2] at hlk;refine⟨hlk,?_⟩;rw[inv.act];refine qk3 hkd hlk (ay m) a0 pn (bj.2 hkm) (hin k d hkm hkd) (λj hj hne hjd=>?_);have hj':j<m:=bj.1 hj;have hoj:∃oj,ops[j]? = I oj:=⟨ops[j]' kg,ak _⟩;obtain⟨oj,hoj⟩:=hoj;exact(qg2 j oj hj' hoj).2.2.2 k hkm (λe=>hne e.symm) d hjd hkd
    have qv3:=hstep i o him ho _ vals a w hu' inv.s hed (λd hx=>by
     split
     .rename_i k hk;unfold idxOf at hk;have hkm:k<m:=bj.1 (ij hk);have hkd:zi ops k=I d:=by simpa using List.find?_some hk
      exact hval k d hkm hkd (g3 d hx k hkm hkd)
     .rename_i hk;unfold idxOf at hk
      have hno:∀k∈ay m,zi ops k≠I d:=λk hk'=>by
       have:=List.find?_eq_none.1 hk k hk';simpa using this
      rw[inv.act]
      exact qy6 _ _ hno) (λk j ok hok hk hr=>qxw inv.down _ k ok j hok (inv.down k ok hok hk) hr) (λj b hg=>by obtain⟨q1,q2,d,q3⟩:=g1 j b hg;exact⟨q2,(hval j d q2 q3 q1).1⟩)
    have hGe:(λk=>(listed.setIfInBounds i nr).getD k ns)=(λk=>if k=i then nr else listed.getD k ns):=funext λk=>qza _ _ _ _ his
    have hK:∀(v:ny) (w':nu),S (λk=>if k=i then nr else listed.getD k ns) (λk=>if k=i then v else vals k) w'->wpAny P .any ops Q (c+(ops.size-m)) (listed.setIfInBounds i nr) (a.put o.dst v) w':=by
     intro v w' hG;refine ih (λk=>if k=i then v else vals k) _ _ _ ⟨by simp[inv.size],λj hj hjn=>?_,?_,by rw[hGe];exact hG,λk ok hok hlk e he hbe=>?_⟩ ?_
     .rw[qza _ _ _ _ his,if_neg kg];exact inv.tail j hj hjn
     .have hdst:o.dst=zi ops i:=by unfold zi;rw[ho];rfl
      rw[hdst,inv.act,<-qgf (ay m) a0 pn (bj.2 him) hu' (λk hk hne d h1=>g4 k (bj.1 hk) hne d h1)];refine qxz _ _ (λk hk=>⟨?_,rfl⟩);rw[qza _ _ _ _ his];by_cases e:k=i
      .simp[e]
      .simp[e]
     .have hlo:listed.getD e.on ns=nr:=by
       by_cases ek:k=i
       .subst ek;rw[ho] at hok;injection hok with hok;subst hok;exact hed e he hbe
       .rw[qza _ _ _ _ his,if_neg ek] at hlk;exact inv.down k ok hok hlk e he hbe
      rw[qza _ _ _ _ his];split
      .rfl
      .exact hlo
     .have:=qn2 (m:=m) him his hu';omega
    have hwv:ee o (yielded ops a.tmps)=qqw o vals:=by
     unfold ee qqw;cases hg:o.guard with
     | none=>rfl
     | some p=>
       obtain⟨j,want⟩:=p;obtain⟨q1,q2,d,q3⟩:=g1 j want hg;have hv:=(hval j d q2 q3 q1).2;have hsz:d<a.tmps.size:=by rw[inv.act,qli];exact hin j d q2 q3
       have hv2:a.tmps[d]? = I (vals j):=by
        rw[au] at hv;rw[ak hsz] at hv ⊢;simpa using hv
       have:yielded ops a.tmps j=match vals j with|ni b=>I b|_=>V:=by
        unfold yielded;unfold zi at q3;rw[q3,ic,hv2];generalize vals j=vj;cases vj<;>rfl
       simp only[this];generalize vals j=vj;cases vj<;>try rfl
    unfold wpOp;rw[ho];simp only[hwv];cases hW:qqw o vals with
    | false=>
      simp only[da,if_false];exact hK mc w (qv3.2 hW)
    | true=>
      have qax:=qv3.1 hW;simp only[if_true];left;unfold Oper.wp;generalize (execOp a.eval o).run P w=r at qax;cases r with
      | ok nx w'=>
        cases nx<;>simp only[qc] at qax<;>simp only[Oper.upon]
        .exact hK _ _ qax
        .exact hK _ _ qax
        .exact qax.mono λe w'' ⟨v,he,hR⟩=>by subst he;exact hK v w'' hR
      | halt x w'=>simp only[qc] at qax
theorem region{id:Nat}{w:nu}(m:Nat)(S:(Nat->Bool)->(Nat->ny)->nu->Prop)(hm:P.follows .mixedOrders=nr)(hH:qqt ops m=nr)(hin:∀k d,k<m->zi ops k=I d->d<a0.tmps.size)(hG:S (λ_=>ns) (λ_=>mc) w.drew)
  (hstep:∀i o,i<m->ops[i]? = I o->∀(L:Nat->Bool) (vals:Nat->ny) (a:Act) (w:nu),L i=ns->S L vals w->(∀e∈o.after,dy .any e=nr->L e.on=nr)->(∀d,Operand.tmp d∈o.op.operands->match idxOf ops m d with|some k=>L k=nr/\a.tmps.getD d mc=vals k|none=>a.tmps.getD d mc=a0.tmps.getD d mc)->(∀k j o',ops[k]? = I o'->L k=nr->reaches ops ops.size k j=nr->L j=nr)->(∀j b,o.guard=I (j,b)->j<m/\L j=nr) ->
    (qqw o vals=nr->qc P (λv w'=>S (λk=>if k=i then nr else L k) (λk=>if k=i then v else vals k) w') ((execOp a.eval o).run P w))/\(qqw o vals=ns->S (λk=>if k=i then nr else L k) (λk=>if k=i then mc else vals k) w))
  (hfin:∀(L:Nat->Bool) (vals:Nat->ny) (w:nu),(∀k,k<m->L k=nr)->S L vals w->wpList P ops Q (ops.toList.drop m) (puts ops vals (λ_=>nr) (ay m) a0) w) :
  (Code.region id ops nr).wp P Q a0 w:=by
 refine wp_region_any hm ?_
 have hmn:m<=ops.size:=by
  simp only[qqt,ag,decide_eq_true_eq] at hH;exact hH.1.1.1
 have hz:∀k b,k<ops.size->(fy ops.size ns).getD k b=ns:=λk b hk=>by
  rw[au,vy,if_pos hk];rfl
 have hl:left m (fy ops.size ns)=m:=by
  unfold left;rw[List.filter_eq_self.2 (λk hk=>by rw[hz k ns (by have:=bj.1 hk;omega)];rfl),List.length_range]
 have hGz:S (λ_=>ns) (λ_=>mc) w.drew->S (λk=>(fy ops.size ns).getD k ns) (λ_=>mc) w.drew:=λh=>by
  have e:(λk=>(fy ops.size ns).getD k ns)=(λ_=>ns):=funext λk=>by
   rw[au,vy];split<;>rfl
  rw[e];exact h
 have:=main (P:=P) (Q:=Q) (a0:=a0) (S:=S) hH hin hstep hfin m (λ_=>mc) (fy ops.size ns) a0 w.drew ⟨kq,λi _ hi=>hz i nr hi,?_,hGz hG,λk o ho h=>?_⟩ hl
 .rw[show m+(ops.size-m)=ops.size by omega] at this;exact this
 .have:∀(ks:List Nat) (a:Act),(∀k∈ks,k<ops.size)->puts ops (λ_=>mc) (λk=>(fy ops.size ns).getD k ns) ks a=a:=by
   intro ks
   induction ks with
   | nil=>intro a _;rfl
   | cons k ks ih=>
     intro a h;unfold puts;rw[hz k ns (h k kq)];exact ih a (λj hj=>h j (by simp[hj]))
  exact(this _ _ (λk hk=>by have:=bj.1 hk;omega)).symm
 .rw[hz k ns (cl.1 ho).1] at h;cases h
end
end Reg9g
namespace Reg9D
open Go.RowKit qx
section
variable {P:ma}{ops:Array Oper}{Q:Exit->Act->nu->Prop}{m:Nat}{a0:Act}
theorem q4c(h:qyf ops m=nr):Reg9g.qqt ops m=nr/\∀i o,i<m->ops[i]? = I o->o.guard=V:=by
 simp only[qyf,ag,decide_eq_true_eq,ao,bj] at h;obtain⟨⟨⟨h1,h2⟩,h3⟩,h4⟩:=h
 have hg:∀i o,i<m->ops[i]? = I o->o.guard=V:=λi o hi ho=>by
  have:=h2 i hi;unfold opB at this;rw[ho] at this;simp only[ag,vr] at this;exact this.1.1.1
 refine⟨?_,hg⟩;simp only[Reg9g.qqt,ag,decide_eq_true_eq,ao,bj];refine⟨⟨⟨h1,λi hi=>?_⟩,h3⟩,h4⟩;have:=h2 i hi;unfold opB at this;unfold Reg9g.opG;cases ho:ops[i]? with
 | none=>rw[ho] at this;cases this
 | some o=>
   rw[ho] at this;simp only[ag,vr] at this;simp only[ag];exact⟨⟨⟨by rw[this.1.1.1],this.1.1.2⟩,this.1.2⟩,this.2⟩
theorem region{id:Nat}{w:nu}(m:Nat)(S:(Nat->Bool)->(Nat->ny)->nu->Prop)(hm:P.follows .mixedOrders=nr)(hH:qyf ops m=nr)(hin:∀k d,k<m->zi ops k=I d->d<a0.tmps.size)(hG:S (λ_=>ns) (λ_=>mc) w.drew)
  (hstep:∀i o,i<m->ops[i]? = I o->∀(L:Nat->Bool) (vals:Nat->ny) (a:Act) (w:nu),L i=ns->S L vals w->(∀e∈o.after,dy .any e=nr->L e.on=nr)->(∀d,Operand.tmp d∈o.op.operands->match idxOf ops m d with|some k=>L k=nr/\a.tmps.getD d mc=vals k|none=>a.tmps.getD d mc=a0.tmps.getD d mc)->(∀k j o',ops[k]? = I o'->L k=nr->reaches ops ops.size k j=nr->L j=nr) ->
    qc P (λv w'=>S (λk=>if k=i then nr else L k) (λk=>if k=i then v else vals k) w') ((execOp a.eval o).run P w))
  (hfin:∀(L:Nat->Bool) (vals:Nat->ny) (w:nu),(∀k,k<m->L k=nr)->S L vals w->wpList P ops Q (ops.toList.drop m) (puts ops vals (λ_=>nr) (ay m) a0) w) :
  (Code.region id ops nr).wp P Q a0 w:=by
 obtain⟨h1,h2⟩:=q4c hH;refine Reg9g.region m S hm h1 hin hG (λi o hi ho L vals a w hL hS hed qh hdn _=>⟨λ_=>hstep i o hi ho L vals a w hL hS hed qh hdn,λh=>?_⟩) hfin;rw[Reg9g.qqw,h2 i o hi ho] at h;cases h
end
end Reg9D
namespace Reg9
open Go.RowKit qx
theorem region{P:ma}{ops:Array Oper}{Q:Exit->Act->nu->Prop}{a0:Act}{id:Nat}{w:nu}(m:Nat)(S:(Nat->Bool)->(Nat->ny)->nu->Prop)(hm:P.follows .mixedOrders=nr)(hH:qyf ops m=nr)(hin:∀k d,k<m->zi ops k=I d->d<a0.tmps.size)(hG:S (λ_=>ns) (λ_=>mc) w.drew)
  (hstep:∀i o,i<m->ops[i]? = I o->∀(L:Nat->Bool) (vals:Nat->ny) (a:Act) (w:nu),L i=ns->S L vals w->(∀e∈o.after,dy .any e=nr->L e.on=nr)->(∀d,Operand.tmp d∈o.op.operands->match idxOf ops m d with|some k=>L k=nr/\a.tmps.getD d mc=vals k|none=>a.tmps.getD d mc=a0.tmps.getD d mc) ->
    qc P (λv w'=>S (λk=>if k=i then nr else L k) (λk=>if k=i then v else vals k) w') ((execOp a.eval o).run P w))
  (hfin:∀(L:Nat->Bool) (vals:Nat->ny) (w:nu),(∀k,k<m->L k=nr)->S L vals w->wpList P ops Q (ops.toList.drop m) (puts ops vals (λ_=>nr) (ay m) a0) w) :
  (Code.region id ops nr).wp P Q a0 w:=
 Reg9D.region m S hm hH hin hG (λi o hi ho L vals a w hL hS hed qh _=>hstep i o hi ho L vals a w hL hS hed qh) hfin
end Reg9
namespace Reg8
open Go.RowKit qx
section
variable {P:ma}{ops:Array Oper}{Q:Exit->Act->nu->Prop}{a0:Act}
theorem region{id:Nat}{w:nu}(m:Nat)(G:(Nat->Bool)->nu->Prop)(Φ:(Nat->Bool)->Nat->ny->nu->Prop)(hm:P.follows .mixedOrders=nr)(hH:qyf ops m=nr)(hin:∀k d,k<m->zi ops k=I d->d<a0.tmps.size)(hG:G (λ_=>ns) w.drew)
  (hstep:∀i o,i<m->ops[i]? = I o->∀(L:Nat->Bool) (a:Act) (w:nu),L i=ns->G L w->(∀d,Operand.tmp d∈o.op.operands->qkd ops m a0 (Φ L) w d (a.tmps.getD d mc)) ->
    qc P (λv w'=>G (λk=>if k=i then nr else L k) w'/\Φ (λk=>if k=i then nr else L k) i v w'/\∀k u,k<m->k≠i->L k=nr->reaches ops ops.size k i=ns->Φ L k u w->Φ (λk=>if k=i then nr else L k) k u w') ((execOp a.eval o).run P w))
  (hfin:∀(L:Nat->Bool) (vals:Nat->ny) (w:nu),(∀k,k<m->L k=nr)->G L w->(∀k,k<m->Φ L k (vals k) w)->wpList P ops Q (ops.toList.drop m) (puts ops vals (λ_=>nr) (ay m) a0) w) :
  (Code.region id ops nr).wp P Q a0 w:=by
 have hmn:m<=ops.size:=by
  simp only[qyf,ag,decide_eq_true_eq] at hH;exact hH.1.1.1
 refine Reg9D.region m (λL vals w=>G L w/\∀k,k<m->L k=nr->Φ L k (vals k) w) hm hH hin ⟨hG,λk _ h=>by cases h⟩ (λi o hi ho L vals a w hL hS hed qh hdn=>(hstep i o hi ho L a w hL hS.1 (λd hd=>?_)).mono (λv w' h=>⟨h.1,λk hk hLk=>?_⟩)) (λL vals w zl hS=>hfin L vals w zl hS.1 (λk hk=>hS.2 k hk (zl k hk)))
 .have:=qh d hd;unfold qkd;cases hx:idxOf ops m d with
  | none=>rw[hx] at this;exact this
  | some k=>
    rw[hx] at this;simp only at this ⊢;rw[this.2];exact hS.2 k (bj.1 (ij hx)) this.1
 .by_cases hki:k=i
  .subst hki;simp only[if_true];exact h.2.1
  .simp only[hki,if_false] at hLk ⊢;refine h.2.2 k (vals k) hk hki hLk ?_ (hS.2 k hk hLk);cases hr:reaches ops ops.size k i
   .rfl
   .exact absurd (hdn k i ops[k] (ak _) hLk hr) (by rw[hL];decide)
end
end Reg8
namespace qx
open Go.RowKit
section
variable {P:ma}{ops:Array Oper}{Q:Exit->Act->nu->Prop}{a0:Act}
theorem region{id:Nat}{w:nu}(m:Nat)(G:nu->Prop)(Φ:Nat->ny->nu->Prop)(hm:P.follows .mixedOrders=nr)(hH:qyf ops m=nr)(hin:∀k d,k<m->zi ops k=I d->d<a0.tmps.size)(hG:G w.drew)
  (hstep:∀i o,i<m->ops[i]? = I o->∀(a:Act) (w:nu),G w->(∀d,Operand.tmp d∈o.op.operands->qkd ops m a0 Φ w d (a.tmps.getD d mc)) ->
    qc P (λv w'=>G w'/\Φ i v w'/\∀k u,k<m->k≠i->reaches ops ops.size k i=ns->Φ k u w->Φ k u w') ((execOp a.eval o).run P w))
  (hfin:∀(vals:Nat->ny) (w:nu),G w->(∀k,k<m->Φ k (vals k) w)->wpList P ops Q (ops.toList.drop m) (puts ops vals (λ_=>nr) (ay m) a0) w) :
  (Code.region id ops nr).wp P Q a0 w:=
 Reg8.region m (λ_=>G) (λ_=>Φ) hm hH hin hG
  (λi o hi ho L a w _ hg qh=>(hstep i o hi ho a w hg qh).mono λv w' h=>⟨h.1,h.2.1,λk u h1 h2 _ h4 h5=>h.2.2 k u h1 h2 h4 h5⟩)
  (λL vals w _ hg hp=>hfin vals w hg hp)
end
end qx
namespace Reg7
open Go.RowKit qx
section
variable {P:ma}{ops:Array Oper}{Q:Exit->Act->nu->Prop}{a0:Act}
end
end Reg7
namespace Stn
open Go.RowKit
abbrev i (n:Int):ny:=U O n
end Stn
namespace Stn
open Go.RowKit
theorem info_parts{x:Option TypeInfo}{z:ny}{s b:Nat}(h:x.map (λi=>(i.zero,i.size,i.bytes))=I (I z,s,b)):∃i,x=I i/\i.zero=I z/\i.size=s/\i.bytes=b:=by
 cases x with
 | none=>cases h
 | some i=>
   simp at h;exact⟨i,rfl,h.1,h.2.1,h.2.2⟩
end Stn
namespace IdW
open Go.RowKit Stn
variable {s:ByteArray}{r:Int}
theorem qln{a c:Int}(h1:a=c):Ending.returned (U O a)=np (i c):=by rw[h1]
theorem retB{a c:Bool}(h1:a=c):Ending.returned (ni a)=np (ni c):=by rw[h1]
def qjt(c:Int):Int:=if 48<=c/\c<=57 then c-48 else if 65<=c/\c<=90 then c-55 else if 97<=c/\c<=122 then c-87 else -1
def qdt(c:Int):Bool:=c == 45 || c == 95 || c == 46 || c == 58 || c == 42
def qq3(c:Int):Bool:=qdt c || decide (0<=qjt c)
def xy(s:ByteArray):Bool:=decide (1<=s.size/\s.size<=36) && s.data.toList.all (λc=>qq3 (c.toNat:Int))
theorem qsn(c:Int)(h:128<=c):qjt c=-1:=by unfold qjt;rw[if_neg kg,if_neg kg,if_neg kg]
theorem q6b(c:Int)(h:128<=c):qdt c=ns:=by unfold qdt;simp;omega
theorem q4r(c:Int)(h:128<=c):qq3 c=ns:=by unfold qq3;rw[q6b c h,qsn c h];rfl
theorem good1(h:(r == 45)=nr):qq3 r=nr:=by unfold qq3 qdt;rw[h];rfl
theorem good2(h:(r == 95)=nr):qq3 r=nr:=by unfold qq3 qdt;rw[h];simp
theorem good3(h:(r == 46)=nr):qq3 r=nr:=by unfold qq3 qdt;rw[h];simp
theorem good4(h:(r == 58)=nr):qq3 r=nr:=by unfold qq3 qdt;rw[h];simp
theorem good5(h:(r == 42)=nr):qq3 r=nr:=by unfold qq3 qdt;rw[h];simp
theorem good6(h:0<=qjt r):qq3 r=nr:=by unfold qq3;rw[decide_eq_true h];simp
theorem bad_of(h1:(r == 45)=ns)(h2:(r == 95)=ns)(h3:(r == 46)=ns)(h4:(r == 58)=ns)(h5:(r == 42)=ns)(h6:qjt r<0):qq3 r=ns:=by
 unfold qq3 qdt;rw[h1,h2,h3,h4,h5,decide_eq_false kg];rfl
theorem qsf{k:Nat}(hk:k<s.size)(h:qq3 (s[k].toNat:Int)=ns):xy s=ns:=by
 unfold xy
 have:s.data.toList.all (λc=>qq3 (c.toNat:Int))=ns:=by
  rw[List.all_eq_false];exact⟨s[k],by simp[ByteArray.getElem_eq_getElem_data],by simpa using h⟩
 rw[this,Bool.and_false]
theorem q48(h1:1<=s.size)(h2:s.size<=36)(h:∀k (hk:k<s.size),qq3 (s[k].toNat:Int)=nr):xy s=nr:=by
 unfold xy;rw[decide_eq_true ⟨h1,h2⟩,Bool.true_and,ao];intro c hc;obtain⟨k,hk,rfl⟩:=List.getElem_of_mem hc;exact h k (by simpa using hk)
theorem q3a(h:¬(1<=s.size/\s.size<=36)):xy s=ns:=by
 unfold xy;rw[decide_eq_false h,Bool.false_and]
theorem value(r:Int)(w:nu)(h0:0<=r)(h1:r<=2147483647) :
  Calls ab 69 #[.int .i32 r] w λe w'=>e=np (i (qjt r))/\w=w':=by
 obtain⟨v,hv⟩:∃v,qjt r=v:=⟨_,rfl⟩;rw[hv];have HV:=aa hv;clear hv;by_cases d1:48<=r/\r<=57
 .obtain⟨d1,d2⟩:=d1;go_enter xr,wg;go_wp2;go_ret;refine⟨qln ?_,rfl⟩;rw[<-HV.out];unfold qjt;rw[if_pos kg]
 .by_cases d2:65<=r/\r<=90
  .obtain⟨d2,d3⟩:=d2;have e1:57<r:=kg;clear d1;go_enter xr,wg;go_wp2;go_ret;refine⟨qln ?_,rfl⟩;rw[<-HV.out];unfold qjt;rw[if_neg kg,if_pos kg];omega
  .by_cases d3:97<=r/\r<=122
   .obtain⟨d3,d4⟩:=d3;have e1:90<r:=kg;clear d1 d2;go_enter xr,wg;go_wp2;go_ret;refine⟨qln ?_,rfl⟩;rw[<-HV.out];unfold qjt;rw[if_neg kg,if_neg kg,if_pos kg];omega
   .have e:v=-1:=by rw[<-HV.out];unfold qjt;rw[if_neg d1,if_neg d2,if_neg d3]
    subst e;go_enter xr,wg;go_wp2
    all_goals first|(exfalso;omega)|(go_ret;exact⟨rfl,rfl⟩)
theorem qdf(w:nu)(s:ByteArray)(p:Nat):Below w.heap.size w (w.iter s p):=zy w (.stringIter s p)
theorem uj(s:ByteArray)(w:nu)(hs:s.size<=mf) :
  Calls ab 29 #[nh s] w λe w'=>e=np (ni (xy s))/\Below w.heap.size w w':=by
 unfold mf at hs;by_cases hz:1<=s.size/\s.size<=36
 .obtain⟨z1,z2⟩:=hz;go_enter adm,aci;go_wp2
  go_loopw [4] (λn w'=>∃pos:Nat,pos<=s.size/\w'=w.iter s pos/\Hid (∀k (hk:k<s.size),k<pos->qq3 (s[k].toNat:Int)=nr)) (λ_ w'=>s.size-w'.iterPos w.heap.size)
  case atStart=>exact⟨0,kg,rfl,λk hk h=>kg⟩
  case round=>
   obtain⟨pos,hpl,rfl,HA⟩:=hrel;by_cases hp:pos<s.size
   .have hnx:∀ty,(aej (nj (I ⟨w.heap.size,0,V⟩)) nr ty).run ab (w.iter s pos)=_:=λty=>run_next_any w s pos ty hp
    by_cases ha:s[pos].toNat<128
    .rw[decode_ascii s pos hp ha] at hnx;have HB:=aa (@qsf s pos hp)
     have HG:Hid (qq3 (s[pos].toNat:Int)=nr->∀k (hk:k<s.size),k<pos+1->qq3 (s[k].toNat:Int)=nr):=by
      intro hg k hk hlt;by_cases e:k=pos
      .subst e;exact hg
      .exact HA.out k hk kg
     generalize s[pos].toNat=r at *;have hr:(r:Int)<=127:=kg;have hr0:(0:Int)<=(r:Int):=kg;go_wp2_with (go_at_call 69;refine(value _ _ hr0 kg).mono ?_;rintro e w' ⟨rfl,rfl⟩)
     all_goals first
      | (go_ret;exact⟨retB (HB.out (bad_of ‹_› ‹_› ‹_› ‹_› ‹_› ‹_›)).symm,qdf _ _ _⟩)
      | (refine⟨⟨pos+1,kg,rfl,HG.out ?_⟩,nc⟩
         first|exact good1 ‹_› | exact good2 ‹_› | exact good3 ‹_› | exact good4 ‹_› | exact good5 ‹_› | exact good6 ‹_›)
    .have hh:=decode_high s pos hp kg;have hle:=decode_le s pos;have HB:=aa (@qsf s pos hp (q4r _ kg));generalize (adn s pos).1=r at *;generalize (adn s pos).2=wd at *;have hr0:(128:Int)<=(r:Int):=kg;have hr1:(r:Int)<=2147483647:=kg;have q1:((r:Int) == 45)=ns:=nc;have q2:((r:Int) == 95)=ns:=nc;have q3:((r:Int) == 46)=ns:=nc;have q4:((r:Int) == 58)=ns:=nc;have q5:((r:Int) == 42)=ns:=nc;have hv:=aa (qsn r hr0);go_wp2_with fail;refine(value _ _ kg kg).mono ?_;rintro e w' ⟨rfl,rfl⟩;rw[hv.out];go_wp2_with fail;go_ret;exact⟨retB HB.out.symm,qdf _ _ _⟩
   .have hnx:∀ty,(aej (nj (I ⟨w.heap.size,0,V⟩)) nr ty).run ab (w.iter s pos)=_:=λty=>run_next_end w s pos ty hp
    go_wp2;go_ret;exact⟨retB (q48 z1 z2 (λk hk=>HA.out k hk kg)).symm,qdf _ _ _⟩
 .have e:=q3a hz;rw[e];clear e;go_enter adm,aci;go_wp2
  all_goals first|(exfalso;omega)|(go_ret;exact⟨rfl,aj _ _⟩)
end IdW
namespace Sy
variable {cs:Array ny}{b g i k lb m n off:Nat}{fr:Nat×Nat}{x:Operand}{s:SV}{e t:nz}{v:ny}
def qum(e:nz):Bool:=decide (e=34)
def TokQ(cs:List ny):Prop:=∀j,6*j<cs.length->∃(s:ByteArray) (n:Int),cs[6*j+1]? = I (nh s)/\(s.toList=[]\/IdW.xy s=nr)/\cs[6*j+4]? = I (U O n)/\1<=n/\n<=3
def qti(e:nz):Option (Nat×List Nat):=if e=84 then I (13,[0,2,5,6,7,8,9,10,11,12]) else if e=80 then I (14,[0,1,13]) else V
def kbL:List nz:=[31]
def qia(e:nz):Bool:=kbL.contains e
def qig(e:nz)(i:Nat):Bool:=qia e || match qti e with
 | some (p,l)=>l.contains (i%p)
 | none=>ns
def Sq(s:ByteArray):Prop:=s.toList=[]\/IdW.xy s=nr
theorem Sq.nil{s:ByteArray}(h:s.size=0):Sq s:=.inl (by obtain⟨⟨l⟩⟩:=s;cases l with|nil=>simp[ByteArray.toList,zb,ByteArray.size]|cons=>cases h)
def Qs:Nat->List ny->Prop
 | 0,_=>True
 | 1,cs=>TokQ cs
 | _+2,_=>True
open Go.RowKit
inductive BT where
 | int (k:IntKind)
 | str
 deriving DecidableEq
inductive KT where
 | int (k:IntKind) (lo hi:Int)
 | str
 | sl (e:nz) (lb:Nat)
 deriving DecidableEq
inductive Lv where
 | no
 | kp
 | pure
 deriving DecidableEq
instance :Coe Bool Lv:=⟨λb=>bif b then .pure else .no⟩
def Lv.le:Lv->Lv->Bool
 | .no,_=>nr
 | .kp,.no=>ns
 | .kp,_=>nr
 | .pure,.pure=>nr
 | .pure,_=>ns
inductive CT where
 | int (k:IntKind) (lo hi:Int)
 | bool
 | str (lb:Nat)
 | sl (m:Nat) (e:nz) (lb:Nat)
 | pt (m:Nat) (t:nz)
 | fn (fs:List mb) (a b:List (Nat×nz))
 | idx (d:Nat)
 | fz (b:BT)
 | cs (q:Nat) (e:nz) (lb:Nat)
 | mp (k v:nz)
 | tf (b:Bool)
 | sq
 | kp (b:KT)
 | any
 deriving DecidableEq
def CT.frozen:CT->Bool
 | .idx _=>nr
 | .fz _=>nr
 | .sl _ _ lb=>decide (lb=63)
 | _=>ns
def CT.kept:CT->Bool
 | .kp _=>nr
 | .idx _=>nr
 | .sl _ _ lb=>decide (lb=63)
 | _=>ns
def CT.isFz:CT->Bool
 | .fz _=>nr
 | _=>ns
def qwe(tb:List (nz×List CT)):Bool:=tb.all λp=>match qti p.1 with
 | some (n,l)=>decide (p.2.length=n) && l.all λi=>(p.2.getD i .any).kept
 | none=>nr
def quz(w w':nu)(b:Nat):Prop:=∀cs e fr,w.heap[b]? = I (.cells cs e fr)->∃cs' fr',w'.heap[b]? = I (.cells cs' e fr')/\∀i,qig e i=nr->cs'[i]? = cs[i]?
theorem quz.same{w w':nu}(h:w'.heap[b]? = w.heap[b]?):quz w w' b:=λcs e fr hc=>⟨cs,fr,h.trans hc,λ_ _=>rfl⟩
theorem quz.trans{w w1 w2:nu}{b:Nat}(h:quz w w1 b)(k:quz w1 w2 b):quz w w2 b:=λcs e fr hc=>by
 obtain⟨c1,f1,g1,g2⟩:=h cs e fr hc;obtain⟨c2,f2,k1,k2⟩:=k c1 e f1 g1;exact⟨c2,f2,k1,λi hi=>(k2 i hi).trans (g2 i hi)⟩
theorem Lv.nb{b:Bool}(h:(b:Lv)=.kp):False:=by cases b<;>cases h
def qwj(tb:List (nz×List CT)):Bool:=tb.all λp=>!qum p.1 || p.2.all CT.isFz
def CT.isIdx:CT->Bool
 | .idx _=>nr
 | _=>ns
def qvf(l:List CT):Bool:=l.all λct=>!ct.isIdx
def Ix(l:List CT)(cs:Array ny):Prop:=∀(i d:Nat),i<cs.size->l[i%l.length]? = I (.idx d)->d<=i/\(∃ct:CT,l[(i-d)%l.length]? = I ct/\ct.frozen=nr) /\
 ∃n A m c,cs[i]? = I (U O n)/\0<=n/\cs[i-d]? = I (ng A m c)/\n<(m:Int)
theorem qdp{l:List CT}(h:qvf l=nr)(cs:Array ny):Ix l cs:=by
 intro i d _ hi;have:=ao.1 h _ (cm hi);simp[CT.isIdx] at this
abbrev yg:=List (nz×List CT)
def yg.flat:yg->nz->Option (List CT)
 | [],_=>V
 | (u,l)::r,t=>if u=t then I l else yg.flat r t
def yg.sz(tb:yg)(t:nz):Nat:=((tb.flat t).map List.length).getD 0
def yg.qym(tb:yg)(t:nz)(i:Nat):Option CT:=(tb.flat t).bind λl=>l[i%l.length]?
section
variable (tb:yg)(W0:nu)
inductive AV:CT->Value->Prop
 | int {k:IntKind} {lo hi n:Int} (h1:lo<=n) (h2:n<=hi):AV (.int k lo hi) (.int k n)
 | bool {b:Bool}:AV .bool (.bool b)
 | str {lb:Nat} {s:ByteArray} (h:s.size<=lb):AV (.str lb) (.string s)
 | nil {e:nz} {lb:Nat}:AV (.sl 0 e lb) (.slice V 0 0)
 | emp {e:nz} {lb:Nat} (a:Addr):AV (.sl 0 e lb) (.slice (I a) 0 0)
 | sl {e:nz} {lb b off n c:Nat} (f:Nat->Nat->ny) (hb:b<W0.heap.size) (hn:n<=c) (hl:n<=lb) (hc:c<=mf) (hs:0<tb.sz e)
    (hf:∀j k,j<n->k<tb.sz e->W0.cell? ⟨b,off+j*tb.sz e+k,V⟩=I (f j k)) (ht:∀j k ct,j<n->((tb.flat e).getD [])[k]? = I ct->AV ct (f j k)) :
    AV (.sl 0 e lb) (ng (I ⟨b,off,V⟩) n c)
 | any {v:ny} (h:v.oneCell'=nr):AV .any v
 | kint {k:IntKind} {lo hi n:Int} (h1:lo<=n) (h2:n<=hi):AV (.kp (.int k lo hi)) (.int k n)
 | fzi {k:IntKind} {n:Int} (h1:k.min<=n) (h2:n<=k.max):AV (.fz (.int k)) (.int k n)
 | fzs {s:ByteArray} (h:s.size<=mf):AV (.fz .str) (.string s)
def Fz(cs:Array ny)(fr:Nat×Nat):Prop:=fr=(0,0)\/cs.size<=fr.1
def qbf(w:nu)(b:Nat)(e:nz)(n:Nat):Prop:=∃cs fr,w.heap[b]? = I (.cells cs e fr)/\n<=cs.size
def PV(T:Nat->Prop)(w:nu)(base m:Nat)(t:nz)(v:ny):Prop:=∃b off,v=nj (I ⟨b,off,V⟩) /\
   ((m=0/\b<W0.heap.size/\∀k ct,((tb.flat t).getD [])[k]? = I ct->∃u,W0.cell? ⟨b,off+k,V⟩=I u/\AV tb W0 ct u) \/
    (T b/\(2<=m->base<=b)/\∃te,qbf w b te (off+tb.sz t)/\∀k ct,((tb.flat t).getD [])[k]? = I ct->tb.qym te (off+k)=I ct))
def CsV(T:Nat->Prop)(w:nu)(q:Nat)(e:nz)(lb:Nat)(v:ny):Prop:=v=ng V 0 0\/∃b off n c cs fr,v=ng (I ⟨b,off,V⟩) n c/\n<=c/\n<=lb/\c<=mf/\T b/\0<tb.sz e/\off%tb.sz e=0/\qum e=nr /\
   w.heap[b]? = I (.cells cs e fr)/\off+c*tb.sz e<=cs.size/\Qs q ((cs.toList.drop off).take (n*tb.sz e))
def VT(T:Nat->Prop)(w:nu):CT->ny->Prop
 | .int k lo hi,v=>∃n,v=.int k n/\lo<=n/\n<=hi
 | .bool,v=>∃b,v=.bool b
 | .str lb,v=>∃s,v=.string s/\s.size<=lb
 | .sl m e lb,v=>m<=1/\(v=.slice V 0 0\/(m=0/\AV tb W0 (.sl 0 e lb) v) \/
    ∃b off n c,v=ng (I ⟨b,off,V⟩) n c/\n<=c/\n<=lb/\c<=mf/\T b/\0<tb.sz e/\off%tb.sz e=0/\qbf w b e (off+c*tb.sz e))
 | .cs q e lb,v=>CsV tb T w q e lb v
 | _,_=>False
def BV(T:Nat->Prop)(w:nu)(base m:Nat)(t:nz)(u:ny):Prop:=if m=9 then ∃cs:Array ny,u=.agg cs/\cs.size=tb.sz t /\
  ∀(k:Nat) (ct:CT),((tb.flat t).getD [])[k]? = I ct->∃x,cs[k]? = I x/\VT tb W0 T w ct x else PV tb W0 T w base m t u
def qqf(T:Nat->Prop)(w:nu)(t:nz)(u:ny):Prop:=
 (∃cs:Array ny,u=.agg cs/\cs.size=tb.sz t/\∀(k:Nat) (ct:CT),((tb.flat t).getD [])[k]? = I ct->∃x,cs[k]? = I x/\VT tb W0 T w ct x)\/∃ct,tb.flat t=I [ct]/\VT tb W0 T w ct u
def qku(T:Nat->Prop)(w:nu)(k v:nz)(es:Array MapEntry):Prop:=∀e∈es.toList,qqf tb W0 T w k e.key/\qqf tb W0 T w v e.val
def qd7(T:Nat->Prop)(w:nu)(base:Nat)(l:List (Nat×nz))(vs:Array ny):Prop:=vs.size=l.length/\∀(i m:Nat) (t:nz),l[i]? = I (m,t)->∃u,vs[i]? = I u/\BV tb W0 T w base m t u
def quv(T:Nat->Prop)(w:nu)(base m:Nat)(e:nz)(lb:Nat)(v:ny):Prop:=v=ng V 0 0\/(m=0/\AV tb W0 (.sl 0 e lb) v) \/
   ∃b off n c,v=ng (I ⟨b,off,V⟩) n c/\n<=c/\n<=lb/\c<=mf/\T b/\(2<=m->base<=b)/\0<tb.sz e/\off%tb.sz e=0/\qbf w b e (off+c*tb.sz e)
def CV(T:Nat->Prop)(w:nu)(base:Nat):CT->ny->Prop
 | .int k lo hi,v=>∃n,v=.int k n/\lo<=n/\n<=hi
 | .bool,v=>∃b,v=.bool b
 | .str lb,v=>∃s,v=.string s/\s.size<=lb
 | .sl m e lb,v=>quv tb W0 T w base m e lb v
 | .pt m t,v=>PV tb W0 T w base m t v
 | .fn fs l m,v=>∃f x y,v=.func (.func f) x y/\f∈fs/\qd7 tb W0 T w base l x/\qd7 tb W0 T w base m y
 | .idx _,v=>∃n:Int,v=.int O n/\0<=n
 | .fz (.int k),v=>∃n,v=.int k n/\k.min<=n/\n<=k.max
 | .fz .str,v=>∃s,v=.string s/\s.size<=mf
 | .cs q e lb,v=>CsV tb T w q e lb v
 | .mp k t,v=>v=.map V\/∃b es c,v=.map (I b)/\w.heap[b]? = I (.map es c)/\qku tb W0 T w k t es
 | .tf b,v=>v=.bool b
 | .sq,v=>∃s,v=.string s/\s.size<=mf/\Sq s
 | .kp (.int k lo hi),v=>∃n,v=.int k n/\lo<=n/\n<=hi
 | .kp .str,v=>∃s,v=.string s/\s.size<=mf
 | .kp (.sl e lb),v=>quv tb W0 T w base 1 e lb v
 | .any,v=>v.oneCell'=nr
structure WT(T:Nat->Prop)(w:World):Prop where
 size:W0.heap.size<=w.heap.size
 alien:∀b,b<W0.heap.size->w.heap[b]? = W0.heap[b]?
 home:∀b,T b->W0.heap.size<=b
 typed:∀b,T b->∃cs e fr l,w.heap[b]? = I (.cells cs e fr)/\Fz cs fr/\tb.flat e=I l/\0<l.length/\∀i v,cs[i]? = I v->∃ct,l[i%l.length]? = I ct/\CV tb W0 T w 0 ct v
 ix:∀b,T b->∀cs e fr l,w.heap[b]? = I (.cells cs e fr)->tb.flat e=I l->Ix l cs
end
section
variable {tb:yg}{W0:nu}{T T':Nat->Prop}{w w':nu}{base base':Nat}
structure xq(T:Nat->Prop)(w:World)(T':Nat->Prop)(w':World):Prop where
 sub:∀b,T b->T' b
 row:∀b e n,T b->qbf w b e n->qbf w' b e n
 fz:∀b cs e fr,T b->qum e=nr->w.heap[b]? = I (.cells cs e fr)->w'.heap[b]? = I (.cells cs e fr)
 mp:∀(b:Nat) es c,w.heap[b]? = I (.map es c)->w'.heap[b]? = I (.map es c)
theorem xq.refl(T:Nat->Prop)(w:nu):xq T w T w:=⟨λ_ h=>h,λ_ _ _ _ h=>h,λ_ _ _ _ _ _ h=>h,λ_ _ _ h=>h⟩
theorem xq.trans{T'':Nat->Prop}{w'':nu}(h:xq T w T' w')(k:xq T' w' T'' w''):xq T w T'' w'':=
 ⟨λb hb=>k.sub b (h.sub b hb),λb e n hb hr=>k.row b e n (h.sub b hb) (h.row b e n hb hr),λb cs e fr hb he hc=>k.fz b cs e fr (h.sub b hb) he (h.fz b cs e fr hb he hc),λb es c hb=>k.mp b es c (h.mp b es c hb)⟩
theorem PV.mono(h:PV tb W0 T w base m t v)(x:xq T w T' w')(hb:base'<=base):PV tb W0 T' w' base' m t v:=by
 obtain⟨b,off,h1,h|⟨h2,h3,te,h4,h5⟩⟩:=h
 .exact⟨b,off,h1,.inl h⟩
 .exact⟨b,off,h1,.inr ⟨x.sub b h2,λho=>cy hb (h3 ho),te,x.row b te _ h2 h4,h5⟩⟩
theorem VT.mono{ct:CT}(h:VT tb W0 T w ct v)(x:xq T w T' w'):VT tb W0 T' w' ct v:=by
 cases ct with
 | sl m e lb=>
   obtain⟨h0,h⟩:=h;refine⟨h0,?_⟩;rcases h with h|h|⟨b,off,n,c,h1,h2,h3,h4,h5,h7,h8,h9⟩
   .exact .inl h
   .exact .inr (.inl h)
   .exact .inr (.inr ⟨b,off,n,c,h1,h2,h3,h4,x.sub b h5,h7,h8,x.row b e _ h5 h9⟩)
 | cs q e lb=>
   rcases h with h|⟨b,off,n,c,cs,fr,h1,h2,h3,h4,h5,h6,h7,h8,h9,h10⟩
   .exact .inl h
   .exact .inr ⟨b,off,n,c,cs,fr,h1,h2,h3,h4,x.sub b h5,h6,h7,h8,x.fz b cs e fr h5 h8 h9,h10⟩
 | _=>exact h
theorem qqf.mono{t:nz}{u:ny}(h:qqf tb W0 T w t u)(x:xq T w T' w'):qqf tb W0 T' w' t u:=by
 rcases h with⟨cs,h1,h2,h3⟩|⟨ct,h1,h2⟩
 .exact .inl ⟨cs,h1,h2,λk ct hk=>by obtain⟨y,q1,q2⟩:=h3 k ct hk;exact⟨y,q1,q2.mono x⟩⟩
 .exact .inr ⟨ct,h1,h2.mono x⟩
theorem qku.mono{k v:nz}{es:Array MapEntry}(h:qku tb W0 T w k v es)(x:xq T w T' w'):qku tb W0 T' w' k v es:=λe he=>⟨(h e he).1.mono x,(h e he).2.mono x⟩
theorem BV.mono{m:Nat}{t:nz}{v:ny}(h:BV tb W0 T w base m t v)(x:xq T w T' w')(hb:base'<=base):BV tb W0 T' w' base' m t v:=by
 unfold BV at h ⊢;split at h
 .rename_i hm;rw[if_pos hm];obtain⟨cs,h1,h2,h3⟩:=h;exact⟨cs,h1,h2,λk ct hk=>by obtain⟨y,q1,q2⟩:=h3 k ct hk;exact⟨y,q1,q2.mono x⟩⟩
 .rename_i hm;rw[if_neg hm];exact h.mono x hb
theorem qd7.mono{l:List (Nat×nz)}{vs:Array ny}(h:qd7 tb W0 T w base l vs)(x:xq T w T' w')(hb:base'<=base):qd7 tb W0 T' w' base' l vs:=
 ⟨h.1,λi m t hi=>by obtain⟨u,h1,h2⟩:=h.2 i m t hi;exact⟨u,h1,h2.mono x hb⟩⟩
theorem quv.mono(h:quv tb W0 T w base m e lb v)(x:xq T w T' w')(hb:base'<=base):quv tb W0 T' w' base' m e lb v:=by
 rcases h with h|h|⟨b,off,n,c,h1,h2,h3,h4,h5,h6,h7,h8,h9⟩
 .exact .inl h
 .exact .inr (.inl h)
 .exact .inr (.inr ⟨b,off,n,c,h1,h2,h3,h4,x.sub b h5,λho=>cy hb (h6 ho),h7,h8,x.row b e _ h5 h9⟩)
theorem quv.qzg(h:quv tb W0 T w base m e lb v)(hm:m<=1)(base':Nat):quv tb W0 T w base' m e lb v:=by
 rcases h with h|h|⟨b,off,n,c,h1,h2,h3,h4,h5,h6,h7⟩
 .exact .inl h
 .exact .inr (.inl h)
 .exact .inr (.inr ⟨b,off,n,c,h1,h2,h3,h4,h5,λhx=>kg,h7⟩)
theorem CV.mono{ct:CT}{v:ny}(h:CV tb W0 T w base ct v)(x:xq T w T' w')(hb:base'<=base):CV tb W0 T' w' base' ct v:=by
 cases ct with
 | int k lo hi=>exact h
 | bool=>exact h
 | str lb=>exact h
 | any=>exact h
 | idx d=>exact h
 | tf b=>exact h
 | sq=>exact h
 | fz b=>cases b<;>exact h
 | mp k t=>
   rcases h with h|⟨b,es,c,h1,h2,h3⟩
   .exact .inl h
   .exact .inr ⟨b,es,c,h1,x.mp b es c h2,h3.mono x⟩
 | cs q e lb=>
   rcases h with h|⟨b,off,n,c,cs,fr,h1,h2,h3,h4,h5,h6,h7,h8,h9,h10⟩
   .exact .inl h
   .exact .inr ⟨b,off,n,c,cs,fr,h1,h2,h3,h4,x.sub b h5,h6,h7,h8,x.fz b cs e fr h5 h8 h9,h10⟩
 | sl m e lb=>exact quv.mono h x hb
 | kp k=>cases k with
   | sl e lb=>exact quv.mono h x hb
   | int k lo hi=>exact h
   | str=>exact h
 | pt m t=>exact PV.mono h x hb
 | fn fs l m=>obtain⟨f,y,z,h1,h2,h3,h4⟩:=h;exact⟨f,y,z,h1,h2,h3.mono x hb,h4.mono x hb⟩
theorem AV.cv{ct:CT}(h:AV tb W0 ct v):CV tb W0 T w base ct v:=by
 cases h with
 | int h1 h2=>exact⟨_,rfl,h1,h2⟩
 | bool=>exact⟨_,rfl⟩
 | str h=>exact⟨_,rfl,h⟩
 | nil=>exact .inl rfl
 | emp a=>exact .inr (.inl ⟨rfl,.emp a⟩)
 | sl f hb hn hl hc hs hf ht=>exact .inr (.inl ⟨rfl,.sl f hb hn hl hc hs hf ht⟩)
 | any h=>exact h
 | kint h1 h2=>exact⟨_,rfl,h1,h2⟩
 | fzi h1 h2=>exact⟨_,rfl,h1,h2⟩
 | fzs h=>exact⟨_,rfl,h⟩
theorem CV.one{ct:CT}(h:CV tb W0 T w base ct v):v.oneCell'=nr:=by
 cases ct with
 | int k lo hi=>obtain⟨n,rfl,-⟩:=h;rfl
 | bool=>obtain⟨n,rfl⟩:=h;rfl
 | str lb=>obtain⟨n,rfl,-⟩:=h;rfl
 | any=>exact h
 | sl m e lb=>
   rcases h with rfl|⟨-,h⟩|⟨b,off,n,c,rfl,-⟩
   .rfl
   .cases h<;>rfl
   .rfl
 | pt m t=>obtain⟨b,off,rfl,-⟩:=h;rfl
 | fn fs l m=>obtain⟨f,y,z,rfl,-⟩:=h;rfl
 | idx d=>obtain⟨n,rfl,-⟩:=h;rfl
 | fz b=>cases b<;>(obtain⟨n,rfl,-⟩:=h;rfl)
 | cs q e lb=>rcases h with rfl|⟨b,off,n,c,cs,fr,rfl,-⟩<;>rfl
 | mp k t=>rcases h with rfl|⟨b,es,c,rfl,-⟩<;>rfl
 | tf b=>cases h;rfl
 | sq=>obtain⟨s,rfl,-⟩:=h;rfl
 | kp k=>cases k with
   | int k lo hi=>obtain⟨n,rfl,-⟩:=h;rfl
   | str=>obtain⟨s,rfl,-⟩:=h;rfl
   | sl e lb=>
     rcases h with rfl|⟨h0,-⟩|⟨b,off,n,c,rfl,-⟩
     .rfl
     .omega
     .rfl
def CT.le:CT->CT->Bool
 | .int k lo hi,.int k' lo' hi'=>decide (k=k'/\lo'<=lo/\hi<=hi')
 | .bool,.bool=>nr
 | .str a,.str b=>decide (a<=b)
 | .sl m e a,.sl m' e' b=>decide (m'<=m/\e=e'/\a<=b)
 | .pt m t,.pt m' t'=>decide (m'<=m/\t=t')
 | .fn fs l m,.fn fs' l' m'=>fs.all (λf=>decide (f∈fs')) && decide (l=l'/\m=m')
 | .idx d,.idx d'=>decide (d=d')
 | .fz b,.fz b'=>decide (b=b')
 | .cs q e a,.cs q' e' b=>decide (q=q'/\e=e'/\a<=b)
 | .mp k t,.mp k' t'=>decide (k=k'/\t=t')
 | .tf b,.tf b'=>decide (b=b')
 | .sq,.sq=>nr
 | .kp b,.kp b'=>decide (b=b')
 | _,.any=>nr
 | _,_=>ns
theorem AV.widen{a:Nat}(h:AV tb W0 (.sl 0 e a) v)(hab:a<=b):AV tb W0 (.sl 0 e b) v:=by
 cases h with
 | nil=>exact .nil
 | emp a=>exact .emp a
 | sl f hb hn hl hc hs hf ht=>exact .sl f hb hn (cy hl hab) hc hs hf ht
theorem CV.le{a b:CT}{v:ny}(h:CV tb W0 T w base a v)(hl:a.le b=nr):CV tb W0 T w base b v:=by
 cases b with
 | any=>exact h.one
 | int k lo hi=>
   cases a<;>simp only[CT.le,decide_eq_true_eq,da] at hl;obtain⟨rfl,h1,h2⟩:=hl;obtain⟨n,rfl,h3,h4⟩:=h;exact⟨n,rfl,kg,kg⟩
 | bool=>cases a<;>simp only[CT.le,da] at hl;exact h
 | str lb=>
   cases a<;>simp only[CT.le,decide_eq_true_eq,da] at hl;obtain⟨s,rfl,h3⟩:=h;exact⟨s,rfl,kg⟩
 | sl m e lb=>
   cases a<;>simp only[CT.le,decide_eq_true_eq,da] at hl;rename_i m' e' lb';obtain⟨ho,rfl,hlb⟩:=hl;rcases h with h|⟨h0,h⟩|⟨b,off,n,c,h1,h2,h3,h4,h5,h6,h7,h8,h9⟩
   .exact .inl h
   .exact .inr (.inl ⟨kg,h.widen hlb⟩)
   .exact .inr (.inr ⟨b,off,n,c,h1,h2,kg,h4,h5,λhx=>h6 kg,h7,h8,h9⟩)
 | pt m t=>
   cases a<;>simp only[CT.le,decide_eq_true_eq,da] at hl;rename_i m' t';obtain⟨ho,rfl⟩:=hl;obtain⟨b,off,h1,⟨h0,h⟩|⟨h2,h3,te,h4,h5⟩⟩:=h
   .exact⟨b,off,h1,.inl ⟨kg,h⟩⟩
   .exact⟨b,off,h1,.inr ⟨h2,λhx=>h3 kg,te,h4,h5⟩⟩
 | fn fs l m=>
   cases a<;>simp only[CT.le,ag,decide_eq_true_eq,ao,da] at hl;obtain⟨h0,rfl,rfl⟩:=hl;obtain⟨f,y,z,h1,h2,h3,h4⟩:=h;exact⟨f,y,z,h1,h0 f h2,h3,h4⟩
 | idx d=>cases a<;>simp only[CT.le,da] at hl;exact h
 | fz b'=>
   cases a<;>simp only[CT.le,decide_eq_true_eq,da] at hl;subst hl;cases ‹BT›<;>exact h
 | cs q e lb=>
   cases a<;>simp only[CT.le,decide_eq_true_eq,da] at hl;obtain⟨rfl,rfl,hlb⟩:=hl;rcases h with h|⟨b,off,n,c,cs,fr,h1,h2,h3,h4,h5,h6⟩
   .exact .inl h
   .exact .inr ⟨b,off,n,c,cs,fr,h1,h2,kg,h4,h5,h6⟩
 | mp k t=>
   cases a<;>simp only[CT.le,decide_eq_true_eq,da] at hl;obtain⟨rfl,rfl⟩:=hl;exact h
 | tf b=>
   cases a<;>simp only[CT.le,decide_eq_true_eq,da] at hl;subst hl;exact h
 | sq=>cases a<;>simp only[CT.le,da] at hl;exact h
 | kp b=>
   cases a<;>simp only[CT.le,decide_eq_true_eq,da] at hl;subst hl;exact h
theorem VT.cv{ct:CT}(h:VT tb W0 T w ct v):CV tb W0 T w base ct v:=by
 cases ct with
 | sl m e lb=>
   obtain⟨h0,h⟩:=h;rcases h with h|h|⟨b,off,n,c,h1,h2,h3,h4,h5,h7,h8,h9⟩
   .exact .inl h
   .exact .inr (.inl h)
   .exact .inr (.inr ⟨b,off,n,c,h1,h2,h3,h4,h5,λhm=>kg,h7,h8,h9⟩)
 | int k lo hi=>exact h
 | bool=>exact h
 | str lb=>exact h
 | pt m t=>exact h.elim
 | fn fs l m=>exact h.elim
 | idx d=>exact h.elim
 | fz b=>exact h.elim
 | cs q e lb=>exact h
 | mp k t=>exact h.elim
 | tf b=>exact h.elim
 | sq=>exact h.elim
 | kp b=>exact h.elim
 | any=>exact h.elim
def CT.plain:CT->Bool
 | .int _ _ _=>nr
 | .bool=>nr
 | .str _=>nr
 | .sl m _ _=>decide (m<=1)
 | .cs _ _ _=>nr
 | _=>ns
theorem CV.vt{ct:CT}(h:CV tb W0 T w base ct v)(hp:ct.plain=nr):VT tb W0 T w ct v:=by
 cases ct<;>simp only[CT.plain,da,decide_eq_true_eq] at hp
 .exact h
 .exact h
 .exact h
 .refine⟨hp,?_⟩;rcases h with h|h|⟨b,off,n,c,h1,h2,h3,h4,h5,h6,h7,h8,h9⟩
  .exact .inl h
  .exact .inr (.inl h)
  .exact .inr (.inr ⟨b,off,n,c,h1,h2,h3,h4,h5,h7,h8,h9⟩)
 .exact h
def CT.thaw:CT->CT
 | .fz (.int k)=>.int k k.min k.max
 | .fz .str=>.str mf
 | .kp (.int k lo hi)=>.int k lo hi
 | .kp .str=>.str mf
 | .kp (.sl e lb)=>.sl 1 e lb
 | ct=>ct
theorem CV.thaw{ct:CT}(h:CV tb W0 T w base ct v):CV tb W0 T w base ct.thaw v:=by
 cases ct with
 | fz b=>cases b<;>exact h
 | kp b=>cases b<;>exact h
 | _=>exact h
theorem CV.qxy{q:Nat}(h:CV tb W0 T w base (.cs q e lb) v):CV tb W0 T w base (.sl 0 e lb) v:=by
 rcases h with h|⟨b,off,n,c,cs,fr,h1,h2,h3,h4,h5,h6,h7,h8,h9,h10,h11⟩
 .exact .inl h
 .exact .inr (.inr ⟨b,off,n,c,h1,h2,h3,h4,h5,λh=>kg,h6,h7,cs,fr,h9,h10⟩)
theorem WT.old(hw:WT tb W0 T w)(hb:b<W0.heap.size)(k:Nat):w.cell? ⟨b,k,V⟩=W0.cell? ⟨b,k,V⟩:=World.cell?_of_block (hw.alien b hb)
theorem qfl{ct:CT}(hk:((tb.flat t).getD [])[k]? = I ct):k<tb.sz t:=by
 unfold yg.sz;cases hq:tb.flat t with
 | none=>rw[hq] at hk;simp at hk
 | some l'=>rw[hq] at hk;simp at hk ⊢;exact(List.getElem?_eq_some_iff.1 hk).1
theorem WT.load(hw:WT tb W0 T w)(h:CV tb W0 T w base (.pt m t) (nj (I ⟨b,off,V⟩))){ct:CT}(hk:((tb.flat t).getD [])[k]? = I ct) :
  ∃v,w.cell? ⟨b,off+k,V⟩=I v/\CV tb W0 T w 0 ct v:=by
 obtain⟨b',off',e,h⟩:=h;injection e with e;injection e with e;injection e with e1 e2 e3;subst e1;subst e2;rcases h with⟨-,hb,h⟩|⟨h2,h3,te,⟨cs,fr,hr,hsz⟩,h5⟩
 .obtain⟨u,hu,hv⟩:=h k ct hk;exact⟨u,by rw[hw.old hb];exact hu,hv.cv⟩
 .obtain⟨cs',e',fr',l,hc,hfz,hfl,hl,ht⟩:=hw.typed b h2;rw[hc] at hr;injection hr with hr;injection hr with r1 r2 r3;subst r1;subst r2;subst r3;have hks:=qfl hk;have hlt:off+k<cs'.size:=kg;have hct:=h5 k ct hk;unfold yg.qym at hct;rw[hfl] at hct;obtain⟨ct',hct',hv⟩:=ht (off+k) cs'[off+k] (ak hlt);simp only[ic] at hct;rw[hct'] at hct;cases hct;exact⟨cs'[off+k],by rw[cell_of_row w b (off+k) cs' e' fr' hc];exact ak hlt,hv⟩
theorem CV.elem{e c:Nat}(h:CV tb W0 T w base (.sl m e lb) (ng (I ⟨b,off,V⟩) n c))(hi:i<n) :
  CV tb W0 T w base (.pt m e) (nj (I ⟨b,off+i*tb.sz e,V⟩)):=by
 rcases h with h|⟨h0,h⟩|⟨b',off',n',c',h1,h2,h3,h4,h5,h6,h7,h8,h9⟩
 .cases h
 .refine⟨b,_,rfl,.inl ⟨h0,?_⟩⟩;cases h with
  | emp=>omega
  | sl f hb hn hl hc hs hf ht=>
    refine⟨hb,λk ct hk=>⟨_,hf i k hi (qfl hk),ht i k ct hi hk⟩⟩
 .injection h1 with e1 e2 e3;injection e1 with e1;injection e1 with e1 e4;subst e1;subst e2;subst e3;subst e4;refine⟨b,_,rfl,.inr ⟨h5,h6,e,?_,λk ct hk=>?_⟩⟩
  .obtain⟨cs,fr,hr,hsz⟩:=h9;refine⟨cs,fr,hr,?_⟩;have:=Nat.mul_le_mul_right (tb.sz e) (show i+1<=c by omega);rw[Nat.add_mul,Nat.one_mul] at this;omega
  .have hks:=qfl hk;unfold yg.qym;cases hq:tb.flat e with
   | none=>rw[hq] at hk;simp at hk
   | some l=>
     rw[hq] at hk;have hsz:tb.sz e=l.length:=by simp[yg.sz,hq]
     rw[hsz] at hks h8 ⊢;simp only[ic]
     have:(off+i*l.length+k)%l.length=k:=by
      rw[gi,Nat.add_mod,h8,bu,Nat.mod_mod,Nat.add_mod,Nat.mul_mod_left,bu,Nat.mod_mod];exact Nat.mod_eq_of_lt hks
     rw[this];simpa using hk
theorem WT.frame(hw:WT tb W0 T w)(hs:w.heap.size<=w'.heap.size)(ha:∀b,b<W0.heap.size->w'.heap[b]? = w.heap[b]?)(ht:∀b,T b->w'.heap[b]? = w.heap[b]?)(hm:∀(b:Nat) es c,w.heap[b]? = I (.map es c)->w'.heap[b]? = I (.map es c)):WT tb W0 T w'/\xq T w T w':=by
 have hx:xq T w T w':=⟨λ_ h=>h,λb e n hb ⟨cs,fr,h1,h2⟩=>⟨cs,fr,by rw[ht b hb];exact h1,h2⟩,λb cs e fr hb _ hc=>by rw[ht b hb];exact hc,hm⟩;refine⟨⟨cy hw.size hs,λb hb=>(ha b hb).trans (hw.alien b hb),hw.home,λb hb=>?_,λb hb cs e fr l h1 h2=>hw.ix b hb cs e fr l (by rw[<-ht b hb];exact h1) h2⟩,hx⟩;obtain⟨cs,e,fr,l,h1,h0,h2,h3,h4⟩:=hw.typed b hb;exact⟨cs,e,fr,l,by rw[ht b hb];exact h1,h0,h2,h3,λi v hv=>by obtain⟨ct,q1,q2⟩:=h4 i v hv;exact⟨ct,q1,q2.mono hx (af _)⟩⟩
theorem WT.lt(hw:WT tb W0 T w)(hb:T b):b<w.heap.size:=by
 obtain⟨cs,e,fr,l,h1,-⟩:=hw.typed b hb;rcases dw b w.heap.size with h|h
 .exact h
 .rw[dq h] at h1;cases h1
def add(T:Nat->Prop)(g:Nat):Nat->Prop:=λb=>T b\/b=g
theorem WT.join(hw:WT tb W0 T w){l:List CT}(hg:W0.heap.size<=g)(hc:w.heap[g]? = I (.cells cs e fr))(hz:Fz cs fr)(hf:tb.flat e=I l)(hl:0<l.length)
  (ht:∀i v,cs[i]? = I v->∃ct,l[i%l.length]? = I ct/\CV tb W0 T w 0 ct v) (hix:Ix l cs):WT tb W0 (add T g) w/\xq T w (add T g) w:=by
 have hx:xq T w (add T g) w:=⟨λ_ h=>.inl h,λ_ _ _ _ h=>h,λ_ _ _ _ _ _ h=>h,λ_ _ _ h=>h⟩;refine⟨⟨hw.size,hw.alien,λb hb=>?_,λb hb=>?_,λb hb cs2 e2 fr2 l2 h1 h2=>?_⟩,hx⟩
 .rcases hb with hb|rfl
  .exact hw.home b hb
  .exact hg
 .rcases hb with hb|rfl
  .obtain⟨cs,e,fr,l,h1,h0,h2,h3,h4⟩:=hw.typed b hb;exact⟨cs,e,fr,l,h1,h0,h2,h3,λi v hv=>by obtain⟨ct,q1,q2⟩:=h4 i v hv;exact⟨ct,q1,q2.mono hx (af _)⟩⟩
  .exact⟨cs,e,fr,l,hc,hz,hf,hl,λi v hv=>by obtain⟨ct,q1,q2⟩:=ht i v hv;exact⟨ct,q1,q2.mono hx (af _)⟩⟩
 .rcases hb with hb|rfl
  .exact hw.ix b hb cs2 e2 fr2 l2 h1 h2
  .rw[hc] at h1;injection h1 with h1;injection h1 with r1 r2 r3;subst r1;subst r2;rw[hf] at h2;cases h2;exact hix
theorem WT.write(hw:WT tb W0 T w){cs':Array ny}{fr':Nat×Nat}{l:List CT}(hne:qum e=ns)(hg:T g)(hc:w.heap[g]? = I (.cells cs e fr))(hf:tb.flat e=I l)(hs:cs'.size=cs.size)
  (hh:w'.heap[g]? = I (.cells cs' e fr')) (hfz:Fz cs' fr') (ho:∀b,b≠g->w'.heap[b]? = w.heap[b]?) (hz:w'.heap.size=w.heap.size)
  (ht:∀i v,cs'[i]? = I v->cs[i]? = I v\/∃ct,l[i%l.length]? = I ct/\CV tb W0 T w 0 ct v) (hnf:qvf l=nr\/∀i v,cs'[i]? = I v->cs[i]? = I v\/∃ct:CT,l[i%l.length]? = I ct/\ct.frozen=ns):WT tb W0 T w'/\xq T w T w':=by
 have hx:xq T w T w':=⟨λ_ h=>h,λb e' n hb ⟨cs2,fr2,h1,h2⟩=>by
  by_cases hbg:b=g
  .subst hbg;rw[hc] at h1;injection h1 with h1;injection h1 with r1 r2 r3;subst r1;subst r2;exact⟨cs',fr',hh,kg⟩
  .exact⟨cs2,fr2,by rw[ho b hbg];exact h1,h2⟩,λb cs2 e2 fr2 hb he2 hc2=>by
  by_cases hbg:b=g
  .subst hbg;rw[hc] at hc2;injection hc2 with hc2;injection hc2 with r1 r2 r3;subst r2;rw[hne] at he2;cases he2
  .rw[ho b hbg];exact hc2,λb es c hb=>by rw[ho b (λe=>by rw[e,hc] at hb;cases hb)];exact hb⟩
 have hgB:=hw.home g hg;refine⟨⟨by rw[hz];exact hw.size,λb hb=>(ho b kg).trans (hw.alien b hb),hw.home,λb hb=>?_,λb hb cs2 e2 fr2 l2 h1 h2=>?_⟩,hx⟩
 rotate_left
 .by_cases hbg:b=g
  .subst hbg;rw[hh] at h1;injection h1 with h1;injection h1 with r1 r2 r3;subst r1;subst r2;rw[hf] at h2;cases h2;rcases hnf with hnf|hnf
   .exact qdp hnf _
   .have hsame:∀i ct,i<cs.size->l[i%l.length]? = I ct->ct.frozen=nr->cs'[i]? = cs[i]?:=by
     intro i ct hi hct hfr;obtain⟨v,hv⟩:∃v,cs'[i]? = I v:=⟨cs'[i]' kg,ak _⟩;rcases hnf i v hv with h|⟨ct',q1,q2⟩
     .rw[hv,h]
     .rw[hct] at q1;cases q1;rw[hfr] at q2;cases q2
    intro i d hi hid;rw[hs] at hi;obtain⟨k1,⟨ct,k2,k3⟩,n,A,m,c,k4,k5,k6,k7⟩:=hw.ix b hb cs e fr l hc hf i d hi hid;refine⟨k1,⟨ct,k2,k3⟩,n,A,m,c,?_,k5,?_,k7⟩
    .rw[hsame i _ hi hid rfl];exact k4
    .rw[hsame (i-d) ct kg k2 k3];exact k6
  .exact hw.ix b hb cs2 e2 fr2 l2 (by rw[<-ho b hbg];exact h1) h2
 obtain⟨cs2,e2,fr2,l2,h1,h0,h2,h3,h4⟩:=hw.typed b hb;by_cases hbg:b=g
 .subst hbg;rw[hc] at h1;injection h1 with h1;injection h1 with r1 r2 r3;subst r1;subst r2;rw[hf] at h2;cases h2;refine⟨cs',e,fr',l,hh,hfz,hf,h3,λi v hv=>?_⟩;rcases ht i v hv with h|⟨ct,q1,q2⟩
  .obtain⟨ct,q1,q2⟩:=h4 i v h;exact⟨ct,q1,q2.mono hx (af _)⟩
  .exact⟨ct,q1,q2.mono hx (af _)⟩
 .exact⟨cs2,e2,fr2,l2,by rw[ho b hbg];exact h1,h0,h2,h3,λi v hv=>by obtain⟨ct,q1,q2⟩:=h4 i v hv;exact⟨ct,q1,q2.mono hx (af _)⟩⟩
end
open Go.RowKit
inductive KD where
 | int (k:IntKind)
 | bool
 | str
 | sl (e:nz)
 | pt (e:nz)
 | st (fs:List (nz×Nat))
 | ar (n:Nat) (e:nz)
 | mp (k e:nz)
 | oth
def KD.of:TypeDesc->KD
 | .int k=>.int k
 | .bool=>.bool
 | .string=>.str
 | .slice e=>.sl e
 | .pointer e=>.pt e
 | .struct fs=>.st (fs.toList.map λf=>(f.type,f.offset))
 | .array n e=>.ar n e
 | .map k e=>.mp k e
 | _=>.oth
structure TD where
 k:KD
 size:Nat
 bytes:Nat
 zero:List ny
 eq:Bool
def qzu(P:ma)(t:nz)(d:TD):Prop:=
 (P.underlying t).map KD.of=I d.k/\(P.info? t).map (λi=>(i.size,i.bytes,i.zero.map λz=>z.cells.toList))=I (d.size,d.bytes,I d.zero) /\
   (d.eq=nr->P.stoodInHeld t=ns/\P.eqGuardType P.depth t=ns)
def KD.agg:KD->Bool
 | .st _=>nr
 | .ar _ _=>nr
 | _=>ns
def look{α:Type}:List (Nat×α)->Nat->Option α
 | [],_=>V
 | (m,x)::r,n=>if m=n then I x else look r n
theorem ji{α:Type}:∀{l:List (Nat×α)} {n:Nat} {x:α},look l n=I x->(n,x)∈l
 | [],_,_,h=>by cases h
 | (m,y)::r,n,x,h=>by
   unfold look at h;split at h
   .rename_i e;subst e;cases h;simp
   .exact List.mem_cons_of_mem _ (ji h)
structure qug where
 n:Nat
 t:nz
 cs:List (Option SV)
structure St where
 nv:Nat
 env:List (Nat×XV)
 ty:List (Nat×CT)
 fs:List qf
 bx:List qug
structure Cx where
 tb:yg
 td:List (Nat×TD)
structure yj(P:Program)(cx:Cx):Prop where
 td:∀t d,look cx.td t=I d->qzu P t d
 fz:qwj cx.tb=nr
 kp:qwe cx.tb=nr
instance {P:ma} {cx:Cx}:CoeFun (yj P cx) (λ_=>∀t d,look cx.td t=I d->qzu P t d):=⟨yj.td⟩
theorem yj.kept{P:ma}{cx:Cx}(h:yj P cx){e:nz}{l:List CT}(hf:cx.tb.flat e=I l){i:Nat}{ct:CT}(hi:qig e i=nr)(hb:qia e=ns)(hc:l[i%l.length]? = I ct):ct.kept=nr:=by
 have key:∀tb:yg,qwe tb=nr->tb.flat e=I l->(match qti e with|some (n,m)=>decide (l.length=n) && m.all λi=>(l.getD i .any).kept|none=>nr)=nr:=by
  intro tb
  induction tb with
  | nil=>intro _ hf;cases hf
  | cons p r ih=>
    intro hk hf;obtain⟨u,m⟩:=p;simp only[qwe,og,ag] at hk;simp only[yg.flat] at hf;split at hf
    .rename_i hu;have hm:=oi hf;rw[<-hu,<-hm];exact hk.1
    .exact ih hk.2 hf
 have h1:=key cx.tb h.kp hf;unfold qig at hi;rw[hb,Bool.false_or] at hi;cases hq:qti e with
 | none=>rw[hq] at hi;cases hi
 | some p=>
   obtain⟨n,m⟩:=p;rw[hq] at hi h1;simp only[ag,decide_eq_true_eq] at h1;obtain⟨rfl,h1⟩:=h1;have h2:=ao.1 h1 (i%l.length) (by simpa using hi);rw[List.getD_eq_getElem?_getD,hc] at h2;exact h2
theorem yj.no{P:ma}{cx:Cx}(h:yj P cx){l:List CT}(hf:cx.tb.flat e=I l){ct:CT}(hi:l[i]? = I ct)(hn:ct.isFz=ns):qum e=ns:=by
 cases hq:qum e with
 | false=>rfl
 | true=>
   have:∀tb:yg,qwj tb=nr->tb.flat e=I l->l.all CT.isFz=nr:=by
    intro tb
    induction tb with
    | nil=>intro _ h;cases h
    | cons p r ih=>
      intro h1 h2;simp only[qwj,og,ag] at h1;obtain⟨u,m⟩:=p;unfold yg.flat at h2;split at h2
      .rename_i hu;subst hu;cases h2;simpa[hq] using h1.1
      .exact ih h1.2 h2
   have h1:=ao.1 (this _ h.fz hf) ct (cm hi);rw[hn] at h1;cases h1
section
variable (tb:yg)(W0:nu)
def BoxOk(T:Nat->Prop)(w:nu)(base:Nat)(Z:yu)(b:qug):Prop:=∃g cs,Z b.n=nj (I ⟨g,0,V⟩)/\¬T g/\base<=g/\w.heap[g]? = I (.cells cs b.t (0,0)) /\
 cs.size=b.cs.length/\∀(i:Nat) (s:SV),b.cs[i]? = I (I s)->cs[i]? = I (s.den Z)
structure xg(S:St)(base:Nat)(Z:yu)(T:Nat->Prop)(w:World):Prop where
 wt:WT tb W0 T w
 lo:W0.heap.size<=base
 bs:base<=w.heap.size
 ty:∀n ct,(n,ct)∈S.ty->CV tb W0 T w base ct (Z n)
 fs:∀f∈S.fs,0<=f.eval Z
 bx:∀b∈S.bx,BoxOk T w base Z b
 ap:∀b∈S.bx,∀c∈S.bx,b.n≠c.n->Z b.n≠Z c.n
def qqz(S:St)(Z:yu)(a:Act):Prop:=∀t x,look S.env t=I x->a.tmps.getD t mc=x.den Z
end
def CT.rng:CT->Option (Int×Int)
 | .int _ lo hi=>I (lo,hi)
 | .str lb=>I (0,lb)
 | .sl _ _ lb=>I (0,lb)
 | .cs _ _ lb=>I (0,lb)
 | .sq=>I (0,mf)
 | _=>V
def St.rng(S:St):qks:=λx=>(look S.ty x).bind CT.rng
def St.ent(S:St)(l:qf):Bool:=qhz S.rng S.fs 10 0 l || qbn S.rng S.fs l || Sy.ent S.rng S.fs 5 l || (S.fs.length != 0 && qhz S.rng S.fs 6 0 (qnq S.fs 64 l))
section
variable {P:ma}{cx:Cx}{W0:nu}{S:St}{base:Nat}{Z:yu}{T:Nat->Prop}{w:nu}{a:Act}
theorem CV.rng{tb:yg}{ct:CT}{v:ny}{lo hi:Int}(h:CV tb W0 T w base ct v)(hr:ct.rng=I (lo,hi)):lo<=meas v/\meas v<=hi:=by
 cases ct<;>simp only[CT.rng,bc,qa,reduceCtorEq] at hr
 .obtain⟨rfl,rfl⟩:=hr;obtain⟨n,rfl,h1,h2⟩:=h;exact⟨h1,h2⟩
 .obtain⟨rfl,rfl⟩:=hr;obtain⟨s,rfl,h1⟩:=h;exact⟨by simp[meas],by simp only[meas];omega⟩
 .obtain⟨rfl,rfl⟩:=hr;rcases h with rfl|⟨-,h⟩|⟨b,off,n,c,rfl,h2,h3,-⟩
  .exact⟨by simp[meas],by simp[meas]⟩
  .cases h
   .exact⟨by simp[meas],by simp[meas]⟩
   .exact⟨by simp[meas],by simp[meas]⟩
   .exact⟨by simp[meas],by simp only[meas];omega⟩
  .exact⟨by simp[meas],by simp only[meas];omega⟩
 .obtain⟨rfl,rfl⟩:=hr;rcases h with rfl|⟨b,off,n,c,cs,fr,rfl,h2,h3,-⟩
  .exact⟨by simp[meas],by simp[meas]⟩
  .exact⟨by simp[meas],by simp only[meas];omega⟩
 .obtain⟨rfl,rfl⟩:=hr;obtain⟨s,rfl,h1,-⟩:=h;exact⟨by simp[meas],by simp only[meas];omega⟩
theorem xg.rng(h:xg cx.tb W0 S base Z T w):S.rng.ok Z:=by
 intro x lo hi hx;unfold St.rng at hx;cases hq:look S.ty x with
 | none=>rw[hq] at hx;cases hx
 | some ct=>
   rw[hq] at hx;exact(h.ty x ct (ji hq)).rng hx
theorem xg.ent(h:xg cx.tb W0 S base Z T w){l:qf}(he:S.ent l=nr):0<=l.eval Z:=by
 rcases(cj _ _).mp he with he|he
 rotate_left
 .have:=qkh _ Z h.rng _ h.fs _ _ _ ((ag _ _).mp he).2
  rwa [qhn h.fs] at this
 rcases(cj _ _).mp he with he|he
 .rcases(cj _ _).mp he with he|he
  .exact qkh _ Z h.rng _ h.fs _ _ _ he
  .exact qw2 _ Z h.rng _ h.fs _ he
 .exact qqn _ Z h.rng _ h.fs _ _ he
def St.op(S:St):Operand->Option XV
 | .tmp t=>look S.env t
 | .const (.agg cs)=>I (.v (.agg (cs.toList.map .con)))
 | .const (.tuple _)=>V
 | .const v=>I (.v (.one (.con v)))
 | .global _=>V
 | .func f=>I (.v (.one (.con (.func (.func f) #[] #[]))))
theorem qyz{v:XV}(h:qqz S Z a)(hx:S.op x=I v):a.eval x=v.den Z:=by
 cases x with
 | tmp t=>exact h t v hx
 | global g=>cases hx
 | func f=>cases hx;rfl
 | const c=>
   cases c<;>simp only[St.op,bc,reduceCtorEq] at hx<;>subst hx<;>try rfl
   rename_i cs
   have:qw Z (cs.toList.map .con)=cs.toList:=by
    unfold qw;rw[List.map_map];exact List.map_id cs.toList
   show Value.agg cs=Value.agg (qw Z (cs.toList.map .con)).toArray;rw[this]
def St.one(S:St)(x:Operand):Option SV:=match S.op x with
 | some (.v (.one s))=>I s
 | _=>V
theorem xu(h:qqz S Z a)(hx:S.one x=I s):a.eval x=s.den Z:=by
 unfold St.one at hx;split at hx
 .rename_i h1;cases hx;exact qyz h h1
 .cases hx
def St.lin(S:St):SV->Option (IntKind×qf)
 | .con (.int k n)=>I (k,qf.k n)
 | .lin k l=>I (k,l)
 | .var n=>match look S.ty n with
   | some (.int k _ _)=>I (k,qf.at n)
   | _=>V
 | _=>V
theorem uo{k:IntKind}{l:qf}(h:xg cx.tb W0 S base Z T w)(hs:S.lin s=I (k,l)):s.den Z=.int k (l.eval Z):=by
 cases s with
 | con v=>cases v<;>simp only[St.lin,bc,qa,reduceCtorEq] at hs;obtain⟨rfl,rfl⟩:=hs;simp[SV.den,qf.ja]
 | lin k' l'=>cases hs;rfl
 | be b=>cases hs
 | ptr n o=>cases hs
 | var n=>
   simp only[St.lin] at hs;split at hs
   .rename_i k' lo hi hq;cases hs;obtain⟨m,hm,-⟩:=h.ty n _ (ji hq);rw[qf.yl];show Z n=_;rw[hm];rfl
   .cases hs
def St.be(S:St):SV->Option BE
 | .con (.bool b)=>I (.tt b)
 | .be b=>I b
 | .var n=>match look S.ty n with
   | some .bool=>I (.var n)
   | _=>V
 | _=>V
theorem qq1{b:BE}(h:xg cx.tb W0 S base Z T w)(hs:S.be s=I b):s.den Z=ni (b.den Z):=by
 cases s with
 | con v=>cases v<;>simp only[St.be,bc,reduceCtorEq] at hs;subst hs;rfl
 | be b'=>cases hs;rfl
 | lin k' l'=>cases hs
 | ptr n o=>cases hs
 | var n=>
   simp only[St.be] at hs;split at hs
   .rename_i hq;cases hs;obtain⟨m,hm⟩:=h.ty n _ (ji hq);show Z n=ni (qky (Z n));rw[hm];rfl
   .cases hs
def St.len(S:St):SV->Option qf
 | .con (.string s)=>I (qf.k s.size)
 | .con (.slice V 0 0)=>I (qf.k 0)
 | .var n=>match look S.ty n with
   | some (.str _)=>I (qf.at n)
   | some (.sl _ _ _)=>I (qf.at n)
   | some (.cs _ _ _)=>I (qf.at n)
   | _=>V
 | _=>V
def St.ptr(S:St):SV->Option (Nat×Nat)
 | .ptr n off=>I (n,off)
 | .var n=>if S.bx.any (λb=>b.n=n) then I (n,0) else match look S.ty n with
   | some (.pt _ _)=>I (n,0)
   | _=>V
 | _=>V
theorem qyw(h:xg cx.tb W0 S base Z T w)(hs:S.ptr s=I (n,off)):s.den Z=nj (I ⟨(qqx (Z n)).block,(qqx (Z n)).off+off,V⟩):=by
 cases s with
 | con v=>cases hs
 | be b'=>cases hs
 | lin k' l'=>cases hs
 | ptr m o=>cases hs;rfl
 | var m=>
   simp only[St.ptr] at hs;split at hs
   .rename_i hb;cases hs;obtain⟨b,hb1,hb2⟩:=gn.1 hb;obtain⟨g,cs,hg,-⟩:=h.bx b hb1;have hbn:b.n=n:=of_decide_eq_true hb2;rw[hbn] at hg;show Z n=_;rw[hg];rfl
   .split at hs
    .rename_i mm t hq;cases hs;obtain⟨b,o,hg,-⟩:=h.ty n _ (ji hq);show Z n=_;rw[hg];rfl
    .cases hs
def qm8:ny->CT->Bool
 | .int k n,.int k' lo hi=>decide (k=k'/\lo<=n/\n<=hi)
 | .bool _,.bool=>nr
 | .bool b,.tf b'=>decide (b=b')
 | .string s,.sq=>decide (s.size=0)
 | .int k n,.kp (.int k' lo hi)=>decide (k=k'/\lo<=n/\n<=hi)
 | .string s,.kp .str=>decide (s.size<=mf)
 | .slice V 0 0,.kp (.sl _ _)=>nr
 | .string s,.str lb=>decide (s.size<=lb)
 | .slice V 0 0,.sl _ _ _=>nr
 | .slice V 0 0,.cs _ _ _=>nr
 | .map V,.mp _ _=>nr
 | .int k n,.fz (.int k')=>decide (k=k'/\k.min<=n/\n<=k.max)
 | .string s,.fz .str=>decide (s.size<=mf)
 | .int k n,.idx _=>decide (k=O/\0<=n)
 | .func (.func f) x y,.fn fs [] []=>decide (f∈fs/\x.size=0/\y.size=0)
 | v,.any=>v.oneCell'
 | _,_=>ns
def sub(l m:List CT)(off:Nat):Bool:=decide (off+l.length<=m.length/\(m.drop off).take l.length=l)
def qm6(S:St)(tb:yg)(n:Nat)(off:Nat):CT->CT->Bool
 | .int k' _ _,.int k lo hi=>decide (off=0/\k'=k) && S.ent ((qf.at n).pl (-lo)) && S.ent ((qf.k hi).sub (qf.at n))
 | .sl m' e' _,.sl m e lb=>decide (off=0/\m<=m'/\e'=e) && S.ent ((qf.k lb).sub (qf.at n))
 | .cs _ e' _,.sl m e lb=>decide (off=0/\m<=1/\e'=e) && S.ent ((qf.k lb).sub (qf.at n))
 | .str _,.str lb=>decide (off=0) && S.ent ((qf.k lb).sub (qf.at n))
 | .bool,.bool=>decide (off=0)
 | .tf b,.tf b'=>decide (off=0/\b=b')
 | .tf _,.bool=>decide (off=0)
 | .sq,.sq=>decide (off=0)
 | .int k' _ _,.kp (.int k lo hi)=>decide (off=0/\k'=k) && S.ent ((qf.at n).pl (-lo)) && S.ent ((qf.k hi).sub (qf.at n))
 | .str _,.kp .str=>decide (off=0) && S.ent ((qf.k mf).sub (qf.at n))
 | .sl m' e' _,.kp (.sl e lb)=>decide (off=0/\1<=m'/\e'=e) && S.ent ((qf.k lb).sub (qf.at n))
 | .sq,.str lb=>decide (off=0) && S.ent ((qf.k lb).sub (qf.at n))
 | .pt m' u,.pt m t=>decide (m<=m') && sub ((tb.flat t).getD []) ((tb.flat u).getD []) off && (tb.flat t).isSome
 | .int k' _ _,.idx _=>decide (off=0/\k'=O) && S.ent (qf.at n)
 | .fn fs l m,.fn fs' l' m'=>decide (off=0) && CT.le (.fn fs l m) (.fn fs' l' m')
 | .cs q e lb,.cs q' e' lb'=>decide (off=0/\q=q'/\e=e') && S.ent ((qf.k lb').sub (qf.at n))
 | .int k' _ _,.fz (.int k)=>decide (off=0/\k'=k) && S.ent ((qf.at n).pl (-k.min)) && S.ent ((qf.k k.max).sub (qf.at n))
 | .str _,.fz .str=>decide (off=0) && S.ent ((qf.k mf).sub (qf.at n))
 | .mp k t,.mp k' t'=>decide (off=0/\k=k'/\t=t')
 | ct,.any=>decide (off=0)
 | _,_=>ns
def St.has(S:St)(tb:yg):SV->CT->Bool
 | .con v,ct=>qm8 v ct
 | .lin k l,.int k' lo hi=>decide (k=k') && S.ent (l.pl (-lo)) && S.ent ((qf.k hi).sub l)
 | .lin k l,.idx _=>decide (k=O) && S.ent l
 | .lin k l,.fz (.int k')=>decide (k=k') && S.ent (l.pl (-k.min)) && S.ent ((qf.k k.max).sub l)
 | .lin k l,.kp (.int k' lo hi)=>decide (k=k') && S.ent (l.pl (-lo)) && S.ent ((qf.k hi).sub l)
 | .lin _ _,.any=>nr
 | .be _,.bool=>nr
 | .be _,.any=>nr
 | .var n,ct=>match look S.ty n with
   | some ct'=>qm6 S tb n 0 ct' ct
   | none=>ns
 | .ptr n off,ct=>match look S.ty n with
   | some ct'=>match ct' with
     | .pt m u=>qm6 S tb n off (.pt m u) ct
     | _=>ns
   | none=>ns
 | _,_=>ns
theorem qob{tb:yg}{ct:CT}(h:qm8 v ct=nr):CV tb W0 T w base ct v:=by
 unfold qm8 at h;split at h
 .obtain⟨rfl,h1,h2⟩:=of_decide_eq_true h;exact⟨_,rfl,h1,h2⟩
 .exact⟨_,rfl⟩
 .cases of_decide_eq_true h;rfl
 .have hz:=of_decide_eq_true h;exact⟨_,rfl,by rw[hz];exact Nat.zero_le _,Sq.nil hz⟩
 .obtain⟨rfl,h1,h2⟩:=of_decide_eq_true h;exact⟨_,rfl,h1,h2⟩
 .exact⟨_,rfl,of_decide_eq_true h⟩
 .exact .inl rfl
 .exact⟨_,rfl,of_decide_eq_true h⟩
 .exact .inl rfl
 .exact .inl rfl
 .exact .inl rfl
 .obtain⟨rfl,h1,h2⟩:=of_decide_eq_true h;exact⟨_,rfl,h1,h2⟩
 .exact⟨_,rfl,of_decide_eq_true h⟩
 .obtain⟨rfl,h1⟩:=of_decide_eq_true h;exact⟨_,rfl,h1⟩
 .obtain⟨h1,h2,h3⟩:=of_decide_eq_true h;exact⟨_,_,_,rfl,h1,⟨h2,λi m t hi=>by simp at hi⟩,⟨h3,λi m t hi=>by simp at hi⟩⟩
 .exact h
 .cases h
theorem AV.tight{tb:yg}{a:Nat}(h:AV tb W0 (.sl 0 e a) v)(hb:meas v<=b):AV tb W0 (.sl 0 e b) v:=by
 cases h with
 | nil=>exact .nil
 | emp a=>exact .emp a
 | sl f h1 hn hl hc hs hf ht=>exact .sl f h1 hn (by simp only[meas] at hb;omega) hc hs hf ht
theorem q06{tb:yg}{m':Nat}{u:nz}{o:Nat}(h:CV tb W0 T w base (.pt m' u) (nj (I ⟨b,o,V⟩)))(hm:m<=m')(hs:sub ((tb.flat t).getD []) ((tb.flat u).getD []) off=nr)(ht:(tb.flat t).isSome=nr) :
  CV tb W0 T w base (.pt m t) (nj (I ⟨b,o+off,V⟩)):=by
 obtain⟨b',o',e,h⟩:=h;injection e with e;injection e with e;injection e with e1 e2 e3;subst e1;subst e2;obtain⟨hlen,hsub⟩:=of_decide_eq_true hs
 have hk:∀k ct,((tb.flat t).getD [])[k]? = I ct->((tb.flat u).getD [])[off+k]? = I ct:=by
  intro k ct hk;rw[<-hsub] at hk
  have hl:k<((tb.flat t).getD []).length:=by
   rcases dw k ((tb.flat t).getD []).length with h|h
   .exact h
   .rw[List.getElem?_eq_none (by rw[List.length_take];omega)] at hk;cases hk
  rw[List.getElem?_take,if_pos hl,List.getElem?_drop] at hk;exact hk
 refine⟨b,o+off,rfl,?_⟩;rcases h with⟨h0,h1,h2⟩|⟨h1,h2,te,⟨cs,fr,h3,h4⟩,h5⟩
 .exact .inl ⟨kg,h1,λk ct hkk=>by rw[gi];exact h2 _ _ (hk k ct hkk)⟩
 .refine .inr ⟨h1,λhx=>h2 kg,te,⟨cs,fr,h3,?_⟩,λk ct hkk=>by rw[gi];exact h5 _ _ (hk k ct hkk)⟩;have e1:∀x,tb.sz x=((tb.flat x).getD []).length:=λx=>by unfold yg.sz;cases tb.flat x<;>simp
  rw[e1] at h4 ⊢;omega
theorem qor{ct' ct:CT}(h:xg cx.tb W0 S base Z T w)(hq:look S.ty n=I ct')(hv:qm6 S cx.tb n off ct' ct=nr)(s:SV)(hs:s=.var n/\off=0\/s=.ptr n off/\∃m u,ct'=.pt m u):CV cx.tb W0 T w base ct (s.den Z):=by
 have hcv:=h.ty n _ (ji hq)
 have hpt:∀m u,ct'=.pt m u->∃b o,Z n=nj (I ⟨b,o,V⟩)/\s.den Z=nj (I ⟨b,o+off,V⟩):=by
  rintro m u rfl;obtain⟨b,o,hg,-⟩:=hcv;refine⟨b,o,hg,?_⟩;rcases hs with⟨rfl,rfl⟩|⟨rfl,-⟩
  .exact hg
  .simp[SV.den,hg,qqx]
 have hvar:(∀m u,ct'≠.pt m u)->s=.var n:=by
  intro hne;rcases hs with⟨rfl,-⟩|⟨-,m,u,e⟩
  .rfl
  .exact absurd e (hne m u)
 unfold qm6 at hv;split at hv
 .rw[hvar kq];simp only[ag,decide_eq_true_eq] at hv;obtain⟨⟨⟨-,rfl⟩,h1⟩,h2⟩:=hv;have q1:=h.ent h1;have q2:=h.ent h2;rw[qf.xh,qf.yl] at q1;rw[qf.sub_eval,qf.ja,qf.yl] at q2;obtain⟨m,hm,-⟩:=hcv;have hm':(SV.var n).den Z=.int _ m:=hm;rw[hm] at q1 q2;simp only[meas] at q1 q2;exact⟨m,hm',kg,kg⟩
 .rw[hvar kq];simp only[ag,decide_eq_true_eq] at hv;obtain⟨⟨-,h0,rfl⟩,h2⟩:=hv;have q2:=h.ent h2;rw[qf.sub_eval,qf.ja,qf.yl] at q2;rcases hcv with h1|⟨h3,h1⟩|⟨b,o,m,c,h1,h3,h4,h5,h6,h7,h8,h9,h10⟩
  .exact .inl h1
  .exact .inr (.inl ⟨kg,h1.tight kg⟩)
  .rw[h1] at q2;simp only[meas] at q2;exact .inr (.inr ⟨b,o,m,c,h1,h3,kg,h5,h6,λhx=>h7 kg,h8,h9,h10⟩)
 .rw[hvar kq];simp only[ag,decide_eq_true_eq] at hv;obtain⟨⟨-,h0,rfl⟩,h2⟩:=hv;have q2:=h.ent h2;rw[qf.sub_eval,qf.ja,qf.yl] at q2;rcases hcv with h1|⟨b,o,m,c,cs,fr,h1,h3,h4,h5,h6,h7,h8,h9,h10,h11,qd8⟩
  .exact .inl h1
  .rw[h1] at q2;simp only[meas] at q2;exact .inr (.inr ⟨b,o,m,c,h1,h3,kg,h5,h6,λhx=>kg,h7,h8,cs,fr,h10,h11⟩)
 .rw[hvar kq];simp only[ag,decide_eq_true_eq] at hv;have q2:=h.ent hv.2;rw[qf.sub_eval,qf.ja,qf.yl] at q2;obtain⟨m,hm,-⟩:=hcv;rw[hm] at q2;simp only[meas] at q2;exact⟨m,hm,kg⟩
 .rw[hvar kq];exact hcv
 .rw[hvar kq];obtain⟨-,rfl⟩:=of_decide_eq_true hv;exact hcv
 .rw[hvar kq];exact⟨_,hcv⟩
 .rw[hvar kq];exact hcv
 .rw[hvar kq];simp only[ag,decide_eq_true_eq] at hv;obtain⟨⟨⟨-,rfl⟩,h1⟩,h2⟩:=hv;have q1:=h.ent h1;have q2:=h.ent h2;rw[qf.xh,qf.yl] at q1;rw[qf.sub_eval,qf.ja,qf.yl] at q2;obtain⟨m,hm,-⟩:=hcv;have hm':(SV.var n).den Z=.int _ m:=hm;rw[hm] at q1 q2;simp only[meas] at q1 q2;exact⟨m,hm',kg,kg⟩
 .rw[hvar kq];simp only[ag,decide_eq_true_eq] at hv;have q2:=h.ent hv.2;rw[qf.sub_eval,qf.ja,qf.yl] at q2;obtain⟨m,hm,-⟩:=hcv;rw[hm] at q2;simp only[meas] at q2;exact⟨m,hm,kg⟩
 .rw[hvar kq];simp only[ag,decide_eq_true_eq] at hv;obtain⟨⟨-,h0,rfl⟩,h2⟩:=hv;have q2:=h.ent h2;rw[qf.sub_eval,qf.ja,qf.yl] at q2;rcases hcv with h1|⟨h3,h1⟩|⟨b,o,m,c,h1,h3,h4,h5,h6,h7,h8,h9,h10⟩
  .exact .inl h1
  .omega
  .rw[h1] at q2;simp only[meas] at q2;exact .inr (.inr ⟨b,o,m,c,h1,h3,kg,h5,h6,λhx=>kg,h8,h9,h10⟩)
 .rw[hvar kq];simp only[ag,decide_eq_true_eq] at hv;have q2:=h.ent hv.2;rw[qf.sub_eval,qf.ja,qf.yl] at q2;obtain⟨m,hm,-⟩:=hcv;rw[hm] at q2;simp only[meas] at q2;exact⟨m,hm,kg⟩
 .rename_i m' u m t;simp only[ag,decide_eq_true_eq] at hv;obtain⟨b,o,hg,hd⟩:=hpt _ _ rfl;rw[hg] at hcv;rw[hd];exact q06 hcv hv.1.1 hv.1.2 hv.2
 .rw[hvar kq];simp only[ag,decide_eq_true_eq] at hv;obtain⟨⟨-,rfl⟩,h1⟩:=hv;have q1:=h.ent h1;rw[qf.yl] at q1;obtain⟨m,hm,-⟩:=hcv;have hm':(SV.var n).den Z=.int _ m:=hm;rw[hm] at q1;simp only[meas] at q1;exact⟨m,hm',q1⟩
 .rw[hvar kq];simp only[ag,decide_eq_true_eq] at hv;exact CV.le hcv hv.2
 .rw[hvar kq];simp only[ag,decide_eq_true_eq] at hv;obtain⟨⟨-,rfl,rfl⟩,h2⟩:=hv;have q2:=h.ent h2;rw[qf.sub_eval,qf.ja,qf.yl] at q2;rcases hcv with h1|⟨b,o,m,c,cs,fr,h1,h3,h4,h5⟩
  .exact .inl h1
  .rw[h1] at q2;simp only[meas] at q2;exact .inr ⟨b,o,m,c,cs,fr,h1,h3,kg,h5⟩
 .rw[hvar kq];simp only[ag,decide_eq_true_eq] at hv;obtain⟨⟨⟨-,rfl⟩,h1⟩,h2⟩:=hv;have q1:=h.ent h1;have q2:=h.ent h2;rw[qf.xh,qf.yl] at q1;rw[qf.sub_eval,qf.ja,qf.yl] at q2;obtain⟨m,hm,-⟩:=hcv;have hm':(SV.var n).den Z=.int _ m:=hm;rw[hm] at q1 q2;simp only[meas] at q1 q2;exact⟨m,hm',kg,kg⟩
 .rw[hvar kq];simp only[ag,decide_eq_true_eq] at hv;have q2:=h.ent hv.2;rw[qf.sub_eval,qf.ja,qf.yl] at q2;obtain⟨m,hm,-⟩:=hcv;rw[hm] at q2;simp only[meas] at q2;exact⟨m,hm,kg⟩
 .rw[hvar kq];obtain⟨-,rfl,rfl⟩:=of_decide_eq_true hv;exact hcv
 .rcases hs with⟨rfl,rfl⟩|⟨rfl,m,u,rfl⟩
  .exact hcv.one
  .rfl
 .cases hv
theorem qx0{ct:CT}(h:xg cx.tb W0 S base Z T w)(hs:S.has cx.tb s ct=nr):CV cx.tb W0 T w base ct (s.den Z):=by
 unfold St.has at hs;split at hs
 .exact qob hs
 .simp only[ag,decide_eq_true_eq] at hs;obtain⟨⟨rfl,h1⟩,h2⟩:=hs;have q1:=h.ent h1;have q2:=h.ent h2;rw[qf.xh] at q1;rw[qf.sub_eval,qf.ja] at q2;exact⟨_,rfl,kg,kg⟩
 .simp only[ag,decide_eq_true_eq] at hs;obtain⟨rfl,h1⟩:=hs;exact⟨_,rfl,h.ent h1⟩
 .simp only[ag,decide_eq_true_eq] at hs;obtain⟨⟨rfl,h1⟩,h2⟩:=hs;have q1:=h.ent h1;have q2:=h.ent h2;rw[qf.xh] at q1;rw[qf.sub_eval,qf.ja] at q2;exact⟨_,rfl,kg,kg⟩
 .simp only[ag,decide_eq_true_eq] at hs;obtain⟨⟨rfl,h1⟩,h2⟩:=hs;have q1:=h.ent h1;have q2:=h.ent h2;rw[qf.xh] at q1;rw[qf.sub_eval,qf.ja] at q2;exact⟨_,rfl,kg,kg⟩
 .rfl
 .exact⟨_,rfl⟩
 .rfl
 .split at hs
  .rename_i ct' hq;exact qor h hq hs _ (.inl ⟨rfl,rfl⟩)
  .cases hs
 .split at hs
  .rename_i n off _ ct' hq;split at hs
   .exact qor h hq hs _ (.inr ⟨rfl,_,_,rfl⟩)
   .cases hs
  .cases hs
 .cases hs
end
abbrev l9(i j:Nat):qf:=⟨0,[(1,i),(-1,j)]⟩
abbrev o0(i j:Nat):qf:=⟨0,[(-1,i),(1,j)]⟩
abbrev o7(i:Nat):qf:=⟨0,[(1,i)]⟩
end Sy
end Go.Proofs.YtmadfhgiaonnlaaGreatDoor
