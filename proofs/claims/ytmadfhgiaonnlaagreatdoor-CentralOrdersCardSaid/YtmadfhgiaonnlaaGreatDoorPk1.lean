import Derived.Below
namespace Go.Proofs.YtmadfhgiaonnlaaGreatDoor
theorem gdt{a:Array Go.Value}{i:Nat}{d v:Go.Value}(h:a.getD i d=v):a[i]?.getD d=v:=(Array.getD_eq_getD_getElem? ..).symm.trans h
theorem oi.{u}{α:Type u}{a b:α}(h:some a=some b):a=b:=Option.some.inj h
end Go.Proofs.YtmadfhgiaonnlaaGreatDoor
set_option linter.unusedVariables false
set_option linter.unusedSimpArgs false
namespace Go.Proofs.YtmadfhgiaonnlaaGreatDoor
namespace Sy
structure Lin where
 c:Int
 ts:List (Int×Nat)
abbrev Val:=Nat→Value
def meas:Value→Int
 | .int _ n=>n
 | .slice _ n _=>n
 | .string s=>s.size
 | _=>0
def tsum(ρ:Val):List (Int×Nat)→Int
 | []=>0
 | (a,x)::r=>a*meas (ρ x)+tsum ρ r
def Lin.eval(ρ:Val)(l:Lin):Int:=l.c+tsum ρ l.ts
def Lin.k(n:Int):Lin:=⟨n,[]⟩
def Lin.at(x:Nat):Lin:=⟨0,[(1,x)]⟩
def insT(a:Int)(x:Nat):List (Int×Nat)→List (Int×Nat)
 | []=>if a=0 then [] else [(a,x)]
 | (b,y)::r=>if x=y then(if a+b=0 then r else(a+b,y)::r) else if x<y then(if a=0 then(b,y)::r else(a,x)::(b,y)::r) else(b,y)::insT a x r
def addT:List (Int×Nat)→List (Int×Nat)→List (Int×Nat)
 | [],m=>m
 | (a,x)::r,m=>insT a x (addT r m)
def Lin.add(l m:Lin):Lin:=⟨l.c+m.c,addT l.ts m.ts⟩
def scT(k:Int):List (Int×Nat)→List (Int×Nat)
 | []=>[]
 | (a,x)::r=>(k*a,x)::scT k r
def Lin.sc(k:Int)(l:Lin):Lin:=if k=0 then⟨0,[]⟩ else⟨k*l.c,scT k l.ts⟩
def Lin.sub(l m:Lin):Lin:=l.add (m.sc (-1))
def Lin.pl(l:Lin)(n:Int):Lin:=⟨l.c+n,l.ts⟩
theorem insT_eval(ρ:Val)(a:Int)(x:Nat):∀l,tsum ρ (insT a x l)=a*meas (ρ x)+tsum ρ l
 | []=>by
   by_cases h:a=0
   ·subst h;simp[insT,tsum]
   ·simp[insT,h,tsum]
 | (b,y)::r=>by
   have ih:=insT_eval ρ a x r
   by_cases h:x=y
   ·subst h
    by_cases h0:a+b=0
    ·have:b=-a:=by omega
     subst this
     simp[insT,tsum,h0,Int.neg_mul];omega
    ·simp[insT,tsum,h0,Int.add_mul];omega
   ·by_cases h1:x<y
    ·by_cases h0:a=0
     ·subst h0;simp[insT,tsum,h,h1]
     ·simp[insT,tsum,h,h1,h0]
    ·simp[insT,tsum,h,h1,ih];omega
theorem addT_eval(ρ:Val):∀l m,tsum ρ (addT l m)=tsum ρ l+tsum ρ m
 | [],m=>by simp[addT,tsum]
 | (a,x)::r,m=>by simp[addT,tsum,insT_eval,addT_eval ρ r m];omega
theorem scT_eval(ρ:Val)(k:Int):∀l,tsum ρ (scT k l)=k*tsum ρ l
 | []=>by simp[scT,tsum]
 | (a,x)::r=>by simp[scT,tsum,scT_eval ρ k r,Int.mul_add,Int.mul_assoc]
theorem Lin.jg(ρ:Val)(l m:Lin):(l.add m).eval ρ=l.eval ρ+m.eval ρ:=by simp[Lin.add,Lin.eval,addT_eval];omega
theorem Lin.yu(ρ:Val)(k:Int)(l:Lin):(l.sc k).eval ρ=k*l.eval ρ:=by
 unfold Lin.sc
 split
 ·rename_i h;subst h;simp[Lin.eval,tsum]
 ·simp[Lin.eval,scT_eval,Int.mul_add]
theorem Lin.qc(ρ:Val)(l m:Lin):(l.sub m).eval ρ=l.eval ρ-m.eval ρ:=by simp[Lin.sub,Lin.jg,Lin.yu];omega
theorem Lin.qp(ρ:Val)(l:Lin)(n:Int):(l.pl n).eval ρ=l.eval ρ+n:=by simp[Lin.pl,Lin.eval];omega
theorem Lin.zh(ρ:Val)(n:Int):(Lin.k n).eval ρ=n:=by simp[Lin.k,Lin.eval,tsum]
theorem Lin.qg(ρ:Val)(x:Nat):(Lin.at x).eval ρ=meas (ρ x):=by simp[Lin.at,Lin.eval,tsum]
abbrev Rng:=Nat→Option (Int×Int)
def Rng.ok(g:Rng)(ρ:Val):Prop:=∀x lo hi,g x=some (lo,hi)→lo≤meas (ρ x)∧meas (ρ x)≤hi
def lowT(g:Rng):List (Int×Nat)→Option Int
 | []=>some 0
 | (a,x)::r=>match g x,lowT g r with
   | some (lo,hi),some s=>some ((if 0≤a then a*lo else a*hi)+s)
   | _,_=>none
theorem lowT_le(g:Rng)(ρ:Val)(hg:g.ok ρ):∀l s,lowT g l=some s→s≤tsum ρ l
 | [],s,h=>by simp[lowT] at h;subst h;simp[tsum]
 | (a,x)::r,s,h=>by
   unfold lowT at h
   split at h
   ·rename_i lo hi s' h1 h2
    have ih:=lowT_le g ρ hg r s' h2
    obtain⟨q1,q2⟩:=hg x lo hi h1
    have e:=oi h
    subst e
    unfold tsum
    split
    ·rename_i ha
     have:=Int.mul_le_mul_of_nonneg_left q1 ha
     omega
    ·rename_i ha
     have:=Int.mul_le_mul_of_nonpos_left (a:=a) (b:=hi) (c:=meas (ρ x)) (by omega) q2
     omega
   ·cases h
def coefT(x:Nat):List (Int×Nat)→Int
 | []=>0
 | (a,y)::r=>if x=y then a else coefT x r
def bears(fs:List Lin)(p:Int×Nat):Bool:=fs.any fun f=>
 let b:=coefT p.2 f.ts
 if b=0 then false else
 let q:=p.1/b
 decide (0<q∧q*b=p.1)
def ent(g:Rng)(fs:List Lin):Nat→Lin→Bool
 | 0,L=>match lowT g L.ts with
   | some s=>decide (0≤L.c+s)
   | none=>false
 | n+1,L=>(match lowT g L.ts with
   | some s=>decide (0≤L.c+s)
   | none=>false) || match L.ts.find? (bears fs) with
   | none=>false
   | some (a,x)=>fs.any fun f=>
     let b:=coefT x f.ts
     if b=0 then false else
     let q:=a/b
     if 0<q∧q*b=a then ent g fs n (L.sub (f.sc q)) else false
theorem ent_leaf(g:Rng)(ρ:Val)(hg:g.ok ρ)(L:Lin) (h:(match lowT g L.ts with
  | some s=>decide (0≤L.c+s)
  | none=>false)=true):0≤L.eval ρ:=by
 split at h
 ·rename_i s hs
  have:=lowT_le g ρ hg _ _ hs
  have:=of_decide_eq_true h
  unfold Lin.eval;omega
 ·cases h
theorem xx(g:Rng)(ρ:Val)(hg:g.ok ρ)(fs:List Lin)(hf:∀f∈fs,0≤f.eval ρ):∀n L,ent g fs n L=true→0≤L.eval ρ
 | 0,L,h=>ent_leaf g ρ hg L h
 | n+1,L,h=>by
   unfold ent at h
   rcases(Bool.or_eq_true _ _).mp h with h|h
   ·exact ent_leaf g ρ hg L h
   ·split at h
    ·cases h
    ·rename_i a x hL
     obtain⟨f,hfm,h⟩:=List.any_eq_true.1 h
     have h0:=hf f hfm
     simp only at h
     split at h
     ·cases h
     ·split at h
      ·rename_i hq
       have ih:=xx g ρ hg fs hf n _ h
       rw[Lin.qc,Lin.yu] at ih
       have:=Int.mul_nonneg (Int.le_of_lt hq.1) h0
       omega
      ·cases h
def entD(g:Rng)(fs:List Lin):Nat→Nat→Lin→Bool
 | 0,_,_=>false
 | n+1,k,L=>match L.ts.getLast? with
   | none=>decide (0≤L.c)
   | some (a,x)=>(fs.any fun f=>match f.ts.getLast? with
      | none=>false
      | some (_,y)=>if y=x∨0<k then(let b:=coefT x f.ts;if b=0 then false else let q:=a/b;if 0<q∧q*b=a then entD g fs n (if y=x then k else k-1) (L.sub (f.sc q)) else false) else false) ||
     match g x with
     | some (lo,hi)=>entD g fs n k ⟨L.c+(if 0≤a then a*lo else a*hi),L.ts.dropLast⟩
     | none=>false
theorem tsum_append(ρ:Val):∀l m,tsum ρ (l++m)=tsum ρ l+tsum ρ m
 | [],m=>by simp[tsum]
 | (a,x)::r,m=>by simp[tsum,tsum_append ρ r m];omega
theorem entD_sound(g:Rng)(ρ:Val)(hg:g.ok ρ)(fs:List Lin)(hf:∀f∈fs,0≤f.eval ρ):∀n k L,entD g fs n k L=true→0≤L.eval ρ
 | 0,k,L,h=>by cases h
 | n+1,k,L,h=>by
   unfold entD at h
   split at h
   ·rename_i hL
    have hn:L.ts=[]:=by simpa using hL
    have:=of_decide_eq_true h
    unfold Lin.eval
    rw[hn];simp only[tsum];omega
   ·rename_i a x hL
    rcases(Bool.or_eq_true _ _).mp h with h|h
    ·obtain⟨f,hfm,h⟩:=List.any_eq_true.1 h
     have h0:=hf f hfm
     split at h
     ·cases h
     ·split at h
      ·simp only at h
       split at h
       ·cases h
       split at h
       ·rename_i hq
        have ih:=entD_sound g ρ hg fs hf n _ _ h
        rw[Lin.qc,Lin.yu] at ih
        have:=Int.mul_nonneg (Int.le_of_lt hq.1) h0
        omega
       ·cases h
      ·cases h
    ·split at h
     ·rename_i lo hi hgx
      have ih:=entD_sound g ρ hg fs hf n _ _ h
      obtain⟨q1,q2⟩:=hg x lo hi hgx
      obtain⟨r,hr⟩:∃r,L.ts=r++[(a,x)]:=by
       rcases List.eq_nil_or_concat L.ts with e|⟨r,b,e⟩
       ·rw[e] at hL;cases hL
       ·rw[e] at hL
        rw[List.concat_eq_append,List.getLast?_concat] at hL
        cases hL
        exact⟨r,by rw[e,List.concat_eq_append]⟩
      unfold Lin.eval at ih ⊢
      rw[hr] at ih ⊢
      rw[List.dropLast_concat] at ih
      rw[tsum_append]
      simp only[tsum]
      simp only at ih
      split at ih
      ·rename_i ha
       have:=Int.mul_le_mul_of_nonneg_left q1 ha
       omega
      ·rename_i ha
       have:=Int.mul_le_mul_of_nonpos_left (a:=a) (b:=hi) (c:=meas (ρ x)) (by omega) q2
       omega
     ·cases h
def entQ(g:Rng)(fs:List Lin)(L:Lin):Bool:=match L.ts.getLast? with
 | none=>false
 | some (a,x)=>fs.any fun f=>match f.ts.getLast? with
   | none=>false
   | some (b,y)=>if y=x then(let q:=b/a;if 1<q∧q*a=b then entD g fs 10 0 ((((L.pl 1).sc q).sub f).pl (-1)) else false) else false
theorem entQ_sound(g:Rng)(ρ:Val)(hg:g.ok ρ)(fs:List Lin)(hf:∀f∈fs,0≤f.eval ρ)(L:Lin)(h:entQ g fs L=true):0≤L.eval ρ:=by
 unfold entQ at h
 split at h
 ·cases h
 ·rename_i a x _
  obtain⟨f,hfm,h⟩:=List.any_eq_true.1 h
  have h0:=hf f hfm
  split at h
  ·cases h
  ·rename_i b y _
   split at h
   ·simp only at h
    split at h
    ·rename_i hq
     have ih:=entD_sound g ρ hg fs hf _ _ _ h
     rw[Lin.qp,Lin.qc,Lin.yu,Lin.qp] at ih
     by_cases hn:L.eval ρ<0
     ·have:=Int.mul_nonneg (a:=b/a) (b:=-(L.eval ρ+1)) (by omega) (by omega)
      rw[Int.mul_neg] at this
      omega
     ·omega
    ·cases h
   ·cases h
inductive BE where
 | tt (b:Bool)
 | ge (l:Lin)
 | eq (l:Lin)
 | var (n:Nat)
 | not (a:BE)
 | and (a b:BE)
 | or (a b:BE)
def boolOf:Value→Bool
 | .bool b=>b
 | _=>false
def BE.den(ρ:Val):BE→Bool
 | .tt b=>b
 | .ge l=>decide (0≤l.eval ρ)
 | .eq l=>decide (l.eval ρ=0)
 | .var n=>boolOf (ρ n)
 | .not a=>!a.den ρ
 | .and a b=>a.den ρ && b.den ρ
 | .or a b=>a.den ρ || b.den ρ
inductive SV where
 | con (v:Value)
 | var (n:Nat)
 | lin (k:IntKind) (l:Lin)
 | be (b:BE)
 | ptr (n off:Nat)
def addrOf:Value→Addr
 | .pointer (some a)=>a
 | _=>⟨0,0,none⟩
def SV.den(ρ:Val):SV→Value
 | .con v=>v
 | .var n=>ρ n
 | .lin k l=>.int k (l.eval ρ)
 | .be b=>.bool (b.den ρ)
 | .ptr n off=>.pointer (some ⟨(addrOf (ρ n)).block,(addrOf (ρ n)).off+off,none⟩)
inductive TV where
 | one (s:SV)
 | agg (l:List SV)
inductive XV where
 | v (t:TV)
 | tup (l:List TV)
def dens(ρ:Val)(l:List SV):List Value:=l.map (SV.den ρ)
def TV.den(ρ:Val):TV→Value
 | .one s=>s.den ρ
 | .agg l=>.agg (dens ρ l).toArray
def XV.den(ρ:Val):XV→Value
 | .v t=>t.den ρ
 | .tup l=>.tuple (l.map (TV.den ρ)).toArray
def TV.cells:TV→List SV
 | .one s=>[s]
 | .agg l=>l
def SV.meas:SV→Lin
 | .con v=>Lin.k (Sy.meas v)
 | .var n=>Lin.at n
 | .lin _ l=>l
 | .be _=>Lin.k 0
 | .ptr _ _=>Lin.k 0
theorem SV.meas_eval(ρ:Val)(s:SV):s.meas.eval ρ=Sy.meas (s.den ρ):=by
 cases s<;>simp[SV.meas,SV.den,Lin.zh,Lin.qg,Sy.meas]
def facts(g:Rng)(fs:List Lin):Bool→BE→List Lin
 | true,.ge l=>[l]
 | false,.ge l=>[(l.sc (-1)).pl (-1)]
 | true,.eq l=>[l,l.sc (-1)]
 | false,.eq l=>if ent g fs 4 l then [l.pl (-1)] else if ent g fs 4 (l.sc (-1)) then [(l.sc (-1)).pl (-1)] else []
 | t,.not a=>facts g fs (!t) a
 | true,.and a b=>facts g fs true a++facts g fs true b
 | false,.or a b=>facts g fs false a++facts g fs false b
 | true,.tt false=>[Lin.k (-1)]
 | false,.tt true=>[Lin.k (-1)]
 | _,_=>[]
theorem jy(g:Rng)(ρ:Val)(hg:g.ok ρ)(fs:List Lin)(hf:∀f∈fs,0≤f.eval ρ):∀(e:BE) (t:Bool),e.den ρ=t→∀f∈facts g fs t e,0≤f.eval ρ
 | .tt b,t,h,f,hm=>by
   have hb:b=t:=h
   subst hb
   cases b<;>simp[facts] at hm
 | .ge l,true,h,f,hm=>by
   simp only[facts,List.mem_singleton] at hm;subst hm
   exact of_decide_eq_true h
 | .ge l,false,h,f,hm=>by
   simp only[facts,List.mem_singleton] at hm;subst hm
   have:=of_decide_eq_false h
   rw[Lin.qp,Lin.yu];omega
 | .eq l,true,h,f,hm=>by
   have:=of_decide_eq_true h
   simp only[facts,List.mem_cons,List.not_mem_nil,or_false] at hm
   rcases hm with rfl|rfl
   ·omega
   ·rw[Lin.yu];omega
 | .eq l,false,h,f,hm=>by
   have:=of_decide_eq_false h
   simp only[facts] at hm
   split at hm
   ·rename_i he
    have:=xx g ρ hg fs hf _ _ he
    simp only[List.mem_singleton] at hm;subst hm
    rw[Lin.qp];omega
   ·split at hm
    ·rename_i he
     have:=xx g ρ hg fs hf _ _ he
     rw[Lin.yu] at this
     simp only[List.mem_singleton] at hm;subst hm
     rw[Lin.qp,Lin.yu];omega
    ·cases hm
 | .var n,t,h,f,hm=>by cases t<;>simp[facts] at hm
 | .not a,t,h,f,hm=>by
   have h':a.den ρ=!t:=by simp only[BE.den] at h;rw[←h,Bool.not_not]
   exact jy g ρ hg fs hf a (!t) h' f (by cases t<;>simpa[facts] using hm)
 | .and a b,true,h,f,hm=>by
   simp only[BE.den,Bool.and_eq_true] at h
   simp only[facts,List.mem_append] at hm
   rcases hm with hm|hm
   ·exact jy g ρ hg fs hf a true h.1 f hm
   ·exact jy g ρ hg fs hf b true h.2 f hm
 | .and a b,false,h,f,hm=>by simp[facts] at hm
 | .or a b,false,h,f,hm=>by
   simp only[BE.den,Bool.or_eq_false_iff] at h
   simp only[facts,List.mem_append] at hm
   rcases hm with hm|hm
   ·exact jy g ρ hg fs hf a false h.1 f hm
   ·exact jy g ρ hg fs hf b false h.2 f hm
 | .or a b,true,h,f,hm=>by simp[facts] at hm
end Sy
end Go.Proofs.YtmadfhgiaonnlaaGreatDoor
