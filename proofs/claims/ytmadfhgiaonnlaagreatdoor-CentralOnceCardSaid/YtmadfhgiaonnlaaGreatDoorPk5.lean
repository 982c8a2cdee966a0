import Derived.Deep.WholeRow
import Derived.Test.YtmadfhgiaonnlaaGreatDoorPk4
open Array renaming any_eq_true'->oo,getElem?_eq_getElem->ak,getElem?_eq_none->dq
open Bool renaming or_eq_true->cj,and_eq_true->ag,true_and->zm
open Go renaming heap_alloc_new->gy
open Go.Act renaming put->ez
open Go.Instr renaming makeMap->rq,mapUpdate->lu
open Go.Lib renaming hid->aa
open Go.Op renaming operands->jn
open Go.Proofs.Tryz renaming prog->ab,func152->acq
open Go.Region renaming binds->dy,wanted->ee
open Go.RowKit.Below renaming refl->aj
open Go.World renaming cell?->lg
open List renaming getD_eq_getElem?_getD->bn,range->ay,mem_flatMap->wu,mem_range->bj,mem_map->fi,mem_append->bo,mem_of_find?_eq_some->ij,mem_singleton->gz,find?_some->ta,getElem?_eq_getElem->ah,find?_eq_none->aag,all_eq_true->ao,any_eq_true->gn,mem_filterMap->aah,size_toArray->ei,getElem?_toArray->ga
open List.range renaming loop->dc
open Nat renaming testBit_or->abu,le_refl->af,zero_add->bu,lt_or_ge->dw,lt_of_lt_of_le->bf,zero_le->cr
open Option renaming map_some->dv
open Option.some renaming injEq->bc
open Bool renaming false->ns,true->nr
open Go renaming FuncId->mb,Program->ma,TypeId->nz,Value->ny,World->nu,maxLen->mf,undef->mc
open Go.Ending renaming returned->np
open Go.IntKind renaming i64->O
open Go.Value renaming bool->ni,int->U,pointer->nj,slice->ng,string->nh
open Option renaming none->V,some->I
open Go.Proofs.YtmadfhgiaonnlaaGreatDoor renaming Blk->mg
set_option maxRecDepth 100000
set_option maxHeartbeats 4000000
set_option linter.unusedVariables false
set_option linter.unusedSimpArgs false
namespace Go.Proofs.YtmadfhgiaonnlaaGreatDoor
namespace Sy
open Go.RowKit
variable {a:Act}{ops:Array Oper}{ct:CT}{Q:Exit->Act->nu->Prop}{fn:Func}{f:mb}{ms:List Nat}{rest:List Oper}{c i j k n:Nat}{L:Nat->Bool}{o:Oper}{A:Option Addr}{S:St}{α:Type}{t:nz}
def qha(acc:List Nat):List Edge->Nat
 | []=>0
 | e::r=>(if dy .any e then 2^e.on ||| acc.getD e.on 0 else 0) ||| qha acc r
def ui:List Oper->List Nat->List Nat
 | [],acc=>acc
 | o::r,acc=>ui r (acc++[qha acc o.after.toList])
def qjk(ops:Array Oper)(L:Nat->Bool):Prop:=∀(k:Nat) (o:Oper),ops[k]? = I o->L k=nr->∀e∈o.after,dy .any e=nr->L e.on=nr
theorem qoy{L:Nat->Bool}{acc:List Nat}(ha:∀j i,(acc.getD j 0).testBit i=nr->L j=nr->L i=nr):∀{es:List Edge},(∀e∈es,dy .any e=nr->L e.on=nr)->∀i,(qha acc es).testBit i=nr->L i=nr
 | [],_,i,h=>by simp[qha] at h
 | e::r,he,i,h=>by
   simp only[qha,abu,cj] at h;rcases h with h|h
   .split at h
    .rename_i hb;have hl:=he e kq hb;simp only[abu,cj] at h;rcases h with h|h
     .rw[Nat.testBit_two_pow] at h;have:=of_decide_eq_true h;rw[<-this];exact hl
     .exact ha _ _ h hl
    .simp at h
   .exact qoy ha (λe' he'=>he e' (by simp[he'])) i h
theorem qrv{ops:Array Oper}{L:Nat->Bool}(hd:qjk ops L):∀(l:List Oper) (acc:List Nat),(∀j,l[j]? = ops[acc.length+j]?)->(∀j i,(acc.getD j 0).testBit i=nr->L j=nr->L i=nr) ->
  ∀j i,((ui l acc).getD j 0).testBit i=nr->L j=nr->L i=nr
 | [],acc,_,ha=>ha
 | o::r,acc,hl,ha=>by
   unfold ui;refine qrv hd r _ (λj=>by have:=hl (j+1);simpa[Nat.add_assoc,Nat.add_comm 1 j] using this) ?_;intro j i h hj;rw[bn] at h;by_cases hlt:j<acc.length
   .rw[List.getElem?_append_left hlt,<-bn] at h;exact ha j i h hj
   .by_cases heq:j=acc.length
    .subst heq;rw[List.getElem?_append_right (af _),Nat.sub_self] at h;have ho:=hl 0;simp only[List.getElem?_cons_zero,Nat.add_zero] at ho;exact qoy (es:=o.after.toList) ha (λe he hb=>hd _ o ho.symm hj e (Array.mem_toList_iff.1 he) hb) i (by simpa using h)
    .rw[List.getElem?_eq_none (by rw[List.length_append,List.length_singleton];omega)] at h;simp at h
def bit(ms:List Nat)(i k:Nat):Bool:=(ms.getD i 0).testBit k
theorem qy4(hd:qjk ops L)(i k:Nat)(h:bit (ui ops.toList []) i k=nr)(hi:L i=nr):L k=nr:=
 qrv hd ops.toList [] (λj=>kq) (λj i h=>by simp at h) i k h hi
theorem qyn(hd:qjk ops L)(ho:ops[i]? = I o)(he:∀e∈o.after,dy .any e=nr->L e.on=nr)(k:Nat)(h:bit (ui ops.toList []) i k=nr)(hself:i≠k):L k=nr:=by
 have hd':qjk ops (λx=>if x=i then nr else L x):=by
  intro k' o' ho' hk' e' he' hb';simp only;by_cases hk:k'=i
  .subst hk;rw[ho] at ho';cases ho';split
   .rfl
   .exact he e' he' hb'
  .simp only[if_neg hk] at hk';split
   .rfl
   .exact hd k' o' ho' hk' e' he' hb'
 have:=qy4 hd' i k h kq;simpa[Ne.symm hself] using this
structure Pt where
 j:Nat
 n:Nat
 off:Nat
 vs:List SV
def qa6(n idx:Nat)(p:Pt):Bool:=decide (p.n=n/\p.off<=idx/\idx<p.off+p.vs.length)
def ptOf(j:Nat)(r:qqa):List Pt:=match r.ef with
 | .put n off vs=>[⟨j,n,off,vs⟩]
 | _=>[]
structure ku where
 S0:St
 rs:List (Nat×qqa)
def ku.v(p:ku)(k:Nat):Nat:=(p.rs.getD k (0,⟨quq (.tup []),.no,.pure⟩)).1
def ku.r(p:ku)(k:Nat):qqa:=(p.rs.getD k (0,⟨quq (.tup []),.no,.pure⟩)).2
def ku.pts(p:ku):List Pt:=(ay p.rs.length).flatMap λk=>ptOf k (p.r k)
def qvn(pts:List Pt)(L:Nat->Option Bool)(n idx:Nat)(c:Option SV):Option SV:=match pts.find? (qa6 n idx) with
 | none=>c
 | some p=>match L p.j with
   | some true=>p.vs[idx-p.off]?
   | some false=>c
   | none=>V
def ug(pts:List Pt)(L:Nat->Option Bool)(n:Nat):Nat->List (Option SV)->List (Option SV)
 | _,[]=>[]
 | i,c::r=>qvn pts L n i c::ug pts L n (i+1) r
theorem qzf(pts:List Pt)(L:Nat->Option Bool)(n:Nat):∀(l:List (Option SV)) (i:Nat),(ug pts L n i l).length=l.length
 | [],_=>rfl
 | c::r,i=>by simp[ug,qzf pts L n r]
theorem qu5(pts:List Pt)(L:Nat->Option Bool)(n:Nat):∀(l:List (Option SV)) (i j:Nat),(ug pts L n i l)[j]? = (l[j]?).map (qvn pts L n (i+j))
 | [],i,j=>by simp[ug]
 | c::r,i,0=>by simp[ug]
 | c::r,i,j+1=>by
   simp only[ug,List.getElem?_cons_succ];rw[qu5 pts L n r (i+1) j,show i+1+j=i+(j+1) by omega]
def qxr(p:ku)(k:Nat):List qug:=match(p.r k).ef with
 | .box t cs=>[⟨p.v k,t,cs.map I⟩]
 | _=>[]
def qkx(p:ku)(L:Nat->Bool)(f:Nat->List α):List α:=(ay p.rs.length).flatMap λk=>if L k then f k else []
def ku.st(p:ku)(nv:Nat)(env:List (Nat×XV))(L:Nat->Bool)(L3:Nat->Option Bool):St:=
 { nv:=nv,env:=env,ty:=p.S0.ty++qkx p L (λk=>qa4 (p.v k) (p.r k).out.tys),fs:=p.S0.fs++qkx p L (λk=>(p.r k).out.fs),
   bx:=(p.S0.bx++qkx p L (qxr p)).map λb=>{ b with cs:=ug p.pts L3 b.n 0 b.cs } }
theorem qqm{p:ku}{f:Nat->List α}{x:α}:x∈qkx p L f↔∃k,k<p.rs.length/\L k=nr/\x∈f k:=by
 unfold qkx;simp only[wu,bj];constructor
 .rintro⟨k,h1,h2⟩;split at h2
  .rename_i hL;exact⟨k,h1,hL,h2⟩
  .cases h2
 .rintro⟨k,h1,h2,h3⟩;exact⟨k,h1,by rw[if_pos h2];exact h3⟩
section
variable {P:ma}{cx:Cx}{W0:nu}{base:Nat}{Z:yu}{T T':Nat->Prop}{w w':nu}
theorem qdo{p:ku}{nv nv':Nat}{env env':List (Nat×XV)}{M:Nat->Bool}{L3 M3:Nat->Option Bool}(h:xg cx.tb W0 (p.st nv env L L3) base Z T w)(hLM:∀k,M k=nr->L k=nr)(h3:∀q∈p.pts,∀b,M3 q.j=I b->L3 q.j=I b) :
  xg cx.tb W0 (p.st nv' env' M M3) base Z T w:=by
 obtain⟨g1,g2,g3,g4,g5,g6,g7⟩:=h
 have hbx:∀b∈(p.st nv' env' M M3).bx,∃b0∈p.S0.bx++qkx p L (qxr p),b={ b0 with cs:=ug p.pts M3 b0.n 0 b0.cs }:=by
  intro b hb;obtain⟨b0,hb0,rfl⟩:=fi.1 hb;refine⟨b0,?_,rfl⟩;rcases bo.1 hb0 with h|h
  .exact bo.2 (.inl h)
  .obtain⟨k,q1,q2,q3⟩:=qqm.1 h;exact bo.2 (.inr (qqm.2 ⟨k,q1,hLM k q2,q3⟩))
 refine⟨g1,g2,g3,λn ct hm=>g4 n ct ?_,λf hf=>g5 f ?_,λb hb=>?_,λb hb c hc=>?_⟩
 .rcases bo.1 hm with h|h
  .exact bo.2 (.inl h)
  .obtain⟨k,q1,q2,q3⟩:=qqm.1 h;exact bo.2 (.inr (qqm.2 ⟨k,q1,hLM k q2,q3⟩))
 .rcases bo.1 hf with h|h
  .exact bo.2 (.inl h)
  .obtain⟨k,q1,q2,q3⟩:=qqm.1 h;exact bo.2 (.inr (qqm.2 ⟨k,q1,hLM k q2,q3⟩))
 .obtain⟨b0,hb0,rfl⟩:=hbx b hb;obtain⟨g,cs,c1,c2,c3,c4,c5,c6⟩:=g6 { b0 with cs:=ug p.pts L3 b0.n 0 b0.cs } (fi.2 ⟨b0,hb0,rfl⟩);refine⟨g,cs,c1,c2,c3,c4,by rw[c5];simp[qzf],λi s hs=>c6 i s ?_⟩;simp only[qu5,bu] at hs ⊢;cases hq:b0.cs[i]? with
  | none=>rw[hq] at hs;cases hs
  | some c=>
    rw[hq] at hs;simp only[dv,bc] at hs ⊢;unfold qvn at hs ⊢;split at hs
    .exact hs
    .rename_i q hfind;have hqm:=ij hfind;split at hs
     .rename_i hM;rw[h3 q hqm _ hM];exact hs
     .rename_i hM;rw[h3 q hqm _ hM];exact hs
     .cases hs
 .obtain⟨b0,hb0,rfl⟩:=hbx b hb;obtain⟨c0,hc0,rfl⟩:=hbx c hc;exact g7 { b0 with cs:=ug p.pts L3 b0.n 0 b0.cs } (fi.2 ⟨b0,hb0,rfl⟩) { c0 with cs:=ug p.pts L3 c0.n 0 c0.cs } (fi.2 ⟨c0,hc0,rfl⟩)
end
open Go.RowKit
def qh8:List qf->List qf->Bool
 | [],[]=>nr
 | a::r,b::s=>qrt a b && qh8 r s
 | _,_=>ns
theorem ql5:∀{a b:List qf},qh8 a b=nr->a=b
 | [],[],_=>rfl
 | a::r,b::s,h=>by
   simp only[qh8,ag] at h;rw[qca h.1,ql5 h.2]
 | [],_::_,h=>by cases h
 | _::_,[],h=>by cases h
def eqEf:Ef->Ef->Bool
 | .no,.no=>nr
 | .box t cs,.box t' cs'=>decide (t=t') && qi7 cs cs'
 | .put n o vs,.put n' o' vs'=>decide (n=n'/\o=o') && qi7 vs vs'
 | _,_=>ns
theorem q6j{a b:Ef}(h:eqEf a b=nr):a=b:=by
 unfold eqEf at h;split at h
 .rfl
 .simp only[ag,decide_eq_true_eq] at h;rw[h.1,qfk h.2]
 .simp only[ag,decide_eq_true_eq] at h;rw[h.1.1,h.1.2,qfk h.2]
 .cases h
def eqR(a b:qqa):Bool:=eqX a.out.v b.out.v && decide (a.out.tys=b.out.tys) && qh8 a.out.fs b.out.fs && eqEf a.ef b.ef && decide (a.pu=b.pu)
theorem eqR_ok{a b:qqa}(h:eqR a b=nr):a=b:=by
 simp only[eqR,ag,decide_eq_true_eq] at h;obtain⟨⟨⟨⟨h1,h2⟩,h3⟩,h4⟩,h5⟩:=h;obtain⟨⟨v,tys,fs⟩,ef,pu⟩:=a;obtain⟨⟨v',tys',fs'⟩,ef',pu'⟩:=b;simp only at h1 h2 h3 h4 h5;rw[q3u h1,h2,ql5 h3,q6j h4,h5]
def qbr(ms:List Nat)(i k:Nat):Bool:=bit ms i k && decide (k≠i)
def qde(ms:List Nat)(i j:Nat):Option Bool:=if qbr ms i j then I nr else if bit ms j i then I ns else V
def qq0(ops:Array Oper)(k:Nat):Option (Nat×Bool):=(ops[k]?).bind (·.guard)
def qd5(ops:Array Oper)(ms:List Nat)(i:Nat)(g:Option (Nat×Bool))(k:Nat):Bool:=qbr ms i k && match qq0 ops k with
 | none=>nr
 | some g'=>decide (g=I g')
def qtg(ops:Array Oper)(ms:List Nat)(i k:Nat):Bool:=qd5 ops ms i (qq0 ops i) k
def envI(ops:Array Oper)(p:ku)(Li:Nat->Bool)(xs:List Operand):List (Nat×XV):=xs.filterMap λx=>match x with
 | .tmp d=>match qx.idxOf ops ops.size d with
   | some k=>if Li k then I (d,(p.r k).out.v) else V
   | none=>(look p.S0.env d).map λx=>(d,x)
 | _=>V
def qer(S:St)(x:XV):Option BE:=match x with
 | .v (.one s)=>S.be s
 | _=>V
def qil(ops:Array Oper)(ms:List Nat)(p:ku)(i:Nat)(S:St):St:=match qq0 ops i with
 | none=>S
 | some (j,want)=>if qtg ops ms i j then match qer S (p.r j).out.v with
    | some b=>{ S with fs:=S.fs++qq8 S.rng S.fs want b }
    | none=>S
   else S
def ku.sti0(ops:Array Oper)(ms:List Nat)(p:ku)(nv i:Nat)(o:Oper):St:=p.st nv (envI ops p (qtg ops ms i) o.op.operands.toList) (qtg ops ms i) (qde ms i)
def ku.sti(ops:Array Oper)(ms:List Nat)(p:ku)(nv i:Nat)(o:Oper):St:=qil ops ms p i (p.sti0 ops ms nv i o)
def q0b(ops:Array Oper)(ms:List Nat)(p:ku)(nv i:Nat)(o:Oper):Option qqa:=match o.op with
 | .pick (.tmp c) (.tmp x) (.const (.bool ns))=>match qx.idxOf ops ops.size c,qx.idxOf ops ops.size x with
   | some j,I k=>if qbr ms i j && qbr ms i k && decide (qq0 ops j=V/\qq0 ops k=I (j,nr)) then
      match qer (p.st nv [] (qd5 ops ms i V) (qde ms i)) (p.r j).out.v,qer (p.st nv [] (qd5 ops ms i (I (j,nr))) (qde ms i)) (p.r k).out.v with
      | some b,I q=>I ⟨qyg (.be (.and b q)),.no,.pure⟩
      | _,_=>V
     else V
   | _,_=>V
 | .pick (.tmp c) (.const (.bool nr)) (.tmp x)=>match qx.idxOf ops ops.size c,qx.idxOf ops ops.size x with
   | some j,I k=>if qbr ms i j && qbr ms i k && decide (qq0 ops j=V/\qq0 ops k=I (j,ns)) then
      match qer (p.st nv [] (qd5 ops ms i V) (qde ms i)) (p.r j).out.v,qer (p.st nv [] (qd5 ops ms i (I (j,ns))) (qde ms i)) (p.r k).out.v with
      | some b,I q=>I ⟨qyg (.be (.or b q)),.no,.pure⟩
      | _,_=>V
     else V
   | _,_=>V
 | _=>V
def qmw(step:qz1)(ops:Array Oper)(ms:List Nat)(p:ku)(nv i:Nat)(o:Oper):Option qqa:=match q0b ops ms p nv i o with
 | some r=>I r
 | none=>step (ku.sti ops ms p nv i o) o
def plan1(step:qz1)(ops:Array Oper)(ms:List Nat)(S:St):List Oper->Nat->Nat->List (Nat×qqa)->Option (List (Nat×qqa))
 | [],_,_,rs=>I rs
 | o::r,i,nv,rs=>match qmw step ops ms ⟨S,rs⟩ nv i o with
   | some res=>plan1 step ops ms S r (i+1) (nv+res.out.tys.length) (rs++[(nv,res)])
   | none=>V
def opOk(step:qz1)(N:Nat)(PU:Lv)(ops:Array Oper)(ms:List Nat)(p:ku)(nvE i:Nat):Bool:=match ops[i]? with
 | some o=>(match qmw step ops ms p (p.v i) i o with|some r=>eqR r (p.r i)|none=>ns) && fits N o.dst && PU.le (p.r i).pu &&
    decide (p.S0.nv<=p.v i/\p.v i+(p.r i).out.tys.length<=nvE) && (ay i).all (λj=>decide (p.v j+(p.r j).out.tys.length<=p.v i)) &&
    (match(p.r i).ef with
      | .no=>nr
      | .box _ _=>decide (qq0 ops i=V) && decide ((p.r i).out.tys.length=1) && p.pts.all (λq=>decide (q.n≠p.v i) || bit ms q.j i)
      | .put n off vs=>decide (qq0 ops i=V) && p.pts.all (λq=>decide (q.j=i) || decide (q.n≠n) || decide (q.off+q.vs.length<=off) || decide (off+vs.length<=q.off)) &&
         (p.S0.bx++qkx p (λ_=>nr) (qxr p)).all (λb=>decide (b.n=n->off+vs.length<=b.cs.length)) && (p.sti0 ops ms (p.v i) i o).bx.any (λb=>decide (b.n=n)))
 | none=>ns
def envE(ops:Array Oper)(p:ku):List (Nat×XV):=((ay ops.size).filterMap λk=>if qq0 ops k=V then(qx.zi ops k).map λd=>(d,(p.r k).out.v) else V)++p.S0.env.filter λe=>(qx.idxOf ops ops.size e.1).isNone
def q3i(step:qz1)(N:Nat)(PU:Lv)(ops:Array Oper)(ms:List Nat)(p:ku)(nvE:Nat):Bool:=decide (p.rs.length=ops.size) && decide (p.S0.nv<=nvE) && (ay ops.size).all (opOk step N PU ops ms p nvE)
def endSt(ops:Array Oper)(p:ku)(nvE:Nat):St:=p.st nvE (envE ops p) (λk=>decide (k<ops.size/\qq0 ops k=V)) (λ_=>I nr)
def qla(step:qz1)(N:Nat)(PU:Lv)(ops:Array Oper)(S:St):Option (List St):=if Reg9g.qqt ops ops.size then match plan1 step ops (ui ops.toList []) S ops.toList 0 S.nv [] with
  | some rs=>if q3i step N PU ops (ui ops.toList []) ⟨S,rs⟩ (rs.foldl (λn x=>n+x.2.out.tys.length) S.nv) then I [endSt ops ⟨S,rs⟩ (rs.foldl (λn x=>n+x.2.out.tys.length) S.nv)] else V
  | none=>V
 else V
section
variable {P:ma}{cx:Cx}{W0:nu}{base:Nat}{Z:yu}{T T':Nat->Prop}{w w':nu}
theorem qo2{tb:yg}{S':St}(h:xg tb W0 S base Z T w)(h1:∀x∈S'.ty,x∈S.ty)(h2:∀f∈S'.fs,f∈S.fs)
  (h3:∀b∈S'.bx,∃c∈S.bx,c.n=b.n/\c.t=b.t/\c.cs.length=b.cs.length/\∀(i:Nat) (s:SV),b.cs[i]? = I (I s)->c.cs[i]? = I (I s)):xg tb W0 S' base Z T w:=by
 obtain⟨g1,g2,g3,g4,g5,g6,g7⟩:=h;refine⟨g1,g2,g3,λn ct hm=>g4 n ct (h1 _ hm),λf hf=>g5 f (h2 f hf),λb hb=>?_,λb hb c hc=>?_⟩
 .obtain⟨c,q1,q2,q3,q4,q5⟩:=h3 b hb;obtain⟨g,cs,c1,c2,c3,c4,c5,c6⟩:=g6 c q1;exact⟨g,cs,by rw[<-q2];exact c1,c2,c3,by rw[<-q3];exact c4,by rw[c5,q4],λi s hs=>c6 i s (q5 i s hs)⟩
 .obtain⟨b',b1,b2,-⟩:=h3 b hb;obtain⟨c',c1,c2,-⟩:=h3 c hc;rw[<-b2,<-c2];exact g7 b' b1 c' c1
theorem ptOf_j{r:qqa}{q:Pt}(h:q∈ptOf j r):q.j=j/\r.ef=.put q.n q.off q.vs:=by
 unfold ptOf at h;split at h
 .rename_i n off vs he;simp only[gz] at h;subst h;exact⟨rfl,he⟩
 .cases h
theorem qay{p:ku}{q:Pt}(h:q∈p.pts):q.j<p.rs.length/\(p.r q.j).ef=.put q.n q.off q.vs:=by
 unfold ku.pts at h;simp only[wu,bj] at h;obtain⟨k,h1,h2⟩:=h;obtain⟨h3,h4⟩:=ptOf_j h2;rw[h3];exact⟨h1,h4⟩
theorem qsz{pts:List Pt}{L L':Nat->Option Bool}{idx:Nat}{c:Option SV}(h:∀q∈pts,qa6 n idx q=nr->L q.j=L' q.j):qvn pts L n idx c=qvn pts L' n idx c:=by
 unfold qvn;cases hf:pts.find? (qa6 n idx) with
 | none=>rfl
 | some q=>simp only[h q (ij hf) (ta hf)]
def L'(L:Nat->Bool)(i:Nat):Nat->Bool:=λk=>if k=i then nr else L k
theorem q5d{p:ku}{b:qug}(h:b∈qxr p k):∃t cs,(p.r k).ef=.box t cs/\b=⟨p.v k,t,cs.map I⟩:=by
 unfold qxr at h;split at h
 .rename_i t cs he;simp only[gz] at h;exact⟨t,cs,he,h⟩
 .cases h
theorem q07{p:ku}(hi:L i=ns)
  (hbox:∀t cs,(p.r i).ef=.box t cs->∀q∈p.pts,q.n=p.v i->L q.j=ns)
  (hput:∀n off vs,(p.r i).ef=.put n off vs->(∀q∈p.pts,q.j=i\/q.n≠n\/q.off+q.vs.length<=off\/off+vs.length<=q.off)/\i<p.rs.length/\∀b∈p.S0.bx++qkx p L (qxr p),b.n=n->off+vs.length<=b.cs.length)
  (h:xg cx.tb W0 (qjh (p.st (p.v i) [] L (λj=>I (L j))) V (p.r i)) base Z T w):xg cx.tb W0 (p.st 0 [] (L' L i) (λj=>I (L' L i j))) base Z T w:=by
 have hsel:∀{α:Type} {f:Nat->List α} {x:α},x∈qkx p (L' L i) f->x∈f i\/x∈qkx p L f:=by
  intro α f x hx;obtain⟨k,h1,h2,h3⟩:=qqm.1 hx;by_cases hk:k=i
  .subst hk;exact .inl h3
  .simp only[L',if_neg hk] at h2;exact .inr (qqm.2 ⟨k,h1,h2,h3⟩)
 refine qo2 h (λx hx=>?_) (λf hf=>?_) (λb hb=>?_)
 .simp only[qjh,ku.st] at hx ⊢;rcases bo.1 hx with hx|hx
  .simp[hx]
  .rcases hsel hx with hx|hx<;>simp[hx]
 .simp only[qjh,ku.st] at hf ⊢;rcases bo.1 hf with hx|hx
  .simp[hx]
  .rcases hsel hx with hx|hx<;>simp[hx]
 .simp only[ku.st] at hb;obtain⟨b0,hb0,rfl⟩:=fi.1 hb
  have hb1:b0∈qxr p i\/b0∈p.S0.bx++qkx p L (qxr p):=by
   rcases bo.1 hb0 with h|h
   .exact .inr (bo.2 (.inl h))
   .rcases hsel h with h|h
    .exact .inl h
    .exact .inr (bo.2 (.inr h))
  have hget:∀(M:Nat->Option Bool) (n:Nat) (l:List (Option SV)) (idx:Nat),(ug p.pts M n 0 l)[idx]? = (l[idx]?).map (qvn p.pts M n idx):=λM n l idx=>by rw[qu5,bu]
  rcases hb1 with hn|ho
  .obtain⟨t,cs,he,rfl⟩:=q5d hn;refine⟨⟨p.v i,t,cs.map I⟩,?_,rfl,rfl,by simp[qzf],λidx s hs=>?_⟩
   .simp only[qjh,he,qud];exact List.mem_cons_self
   .simp only[hget] at hs;cases hq:(cs.map I)[idx]? with
    | none=>rw[hq] at hs;cases hs
    | some c=>
      rw[hq] at hs;simp only[dv,bc] at hs;rw[<-hs];congr 1
      symm
      unfold qvn;cases hf:p.pts.find? (qa6 (p.v i) idx) with
      | none=>rfl
      | some q=>
        have hqm:=ij hf;have hqc:=ta hf;have hqn:=(of_decide_eq_true hqc).1;have h1:=hbox t cs he q hqm hqn
        have h2:q.j≠i:=λe=>by
         have:=(qay hqm).2;rw[e,he] at this;cases this
        simp only[L',if_neg h2,h1]
  .have hmem:{ b0 with cs:=ug p.pts (λj=>I (L j)) b0.n 0 b0.cs }∈(p.st (p.v i) [] L (λj=>I (L j))).bx:=fi.2 ⟨b0,ho,rfl⟩
   have hsame:∀idx,(∀q∈p.pts,qa6 b0.n idx q=nr->q.j≠i)->∀s,(ug p.pts (λj=>I (L' L i j)) b0.n 0 b0.cs)[idx]? = I (I s)->(ug p.pts (λj=>I (L j)) b0.n 0 b0.cs)[idx]? = I (I s):=by
    intro idx hq s hs;rw[hget] at hs ⊢;rw[<-hs];cases b0.cs[idx]? with
    | none=>rfl
    | some c=>
      simp only[dv,bc];exact qsz (λq h1 h2=>by simp only[L',if_neg (hq q h1 h2)])
   cases he:(p.r i).ef with
   | no=>
     refine⟨{ b0 with cs:=ug p.pts (λj=>I (L j)) b0.n 0 b0.cs },?_,rfl,rfl,by simp[qzf],λidx s hs=>hsame idx (λq h1 h2 e=>?_) s hs⟩
     .simp only[qjh,he,qud];exact hmem
     .have:=(qay h1).2;rw[e,he] at this;cases this
   | box t cs=>
     refine⟨{ b0 with cs:=ug p.pts (λj=>I (L j)) b0.n 0 b0.cs },?_,rfl,rfl,by simp[qzf],λidx s hs=>hsame idx (λq h1 h2 e=>?_) s hs⟩
     .simp only[qjh,he,qud];exact List.mem_cons_of_mem _ hmem
     .have:=(qay h1).2;rw[e,he] at this;cases this
   | put n off vs=>
     obtain⟨hd,hil,hle⟩:=hput n off vs he
     have hpi:∀q∈p.pts,q.j=i->q.n=n/\q.off=off/\q.vs=vs:=λq h1 h2=>by
      have:=(qay h1).2;rw[h2,he] at this;injection this with e1 e2 e3;exact⟨e1.symm,e2.symm,e3.symm⟩
     by_cases hn:b0.n=n
     .have hle':=hle b0 ho hn;have hcl:off+vs.length<=(ug p.pts (λj=>I (L j)) b0.n 0 b0.cs).length:=by rw[qzf];exact hle'
      refine⟨{ b0 with cs:=qfz (ug p.pts (λj=>I (L j)) b0.n 0 b0.cs) off vs },?_,rfl,rfl,by simp only[qsp hcl,qzf],λidx s hs=>?_⟩
      .simp only[qjh,he,qud];exact fi.2 ⟨_,hmem,by rw[if_pos hn]⟩
      .rw[show({ b0 with cs:=qfz (ug p.pts (λj=>I (L j)) b0.n 0 b0.cs) off vs }:qug).cs=qfz (ug p.pts (λj=>I (L j)) b0.n 0 b0.cs) off vs from rfl,qtk hcl];by_cases hr:off<=idx/\idx<off+vs.length
       .rw[if_pos hr];have hs':(ug p.pts (λj=>I (L' L i j)) b0.n 0 b0.cs)[idx]? = I (I s):=hs;rw[hget] at hs';obtain⟨c,hc⟩:∃c,b0.cs[idx]? = I c:=⟨b0.cs[idx]' kg,ah _⟩;rw[hc] at hs';simp only[dv,bc] at hs'
        have hex:∃q0,p.pts.find? (qa6 b0.n idx)=I q0:=by
         cases hf:p.pts.find? (qa6 b0.n idx) with
         | some q0=>exact⟨q0,rfl⟩
         | none=>
           have:=aag.1 hf ⟨i,n,off,vs⟩ (by
            unfold ku.pts;simp only[wu,bj]
            exact⟨i,hil,by simp[ptOf,he]⟩)
           exact absurd (decide_eq_true (by exact⟨hn.symm,hr.1,hr.2⟩)) this
        obtain⟨q0,hf⟩:=hex;have hqm:=ij hf;have hqc0:=ta hf;have hqc:=of_decide_eq_true hqc0
        have hj:q0.j=i:=by
         rcases hd q0 hqm with h|h|h|h
         .exact h
         .exact absurd (hqc.1.trans hn) h
         .omega
         .omega
        obtain⟨e1,e2,e3⟩:=hpi q0 hqm hj;unfold qvn at hs';rw[hf] at hs';simp only[L',if_pos hj,e2,e3] at hs';rw[hs'];rfl
       .rw[if_neg hr];refine hsame idx (λq h1 h2 e=>?_) s hs;obtain⟨e1,e2,e3⟩:=hpi q h1 e;have:=of_decide_eq_true h2;rw[e2,e3] at this;exact hr this.2
     .refine⟨{ b0 with cs:=ug p.pts (λj=>I (L j)) b0.n 0 b0.cs },?_,rfl,rfl,by simp[qzf],λidx s hs=>hsame idx (λq h1 h2 e=>?_) s hs⟩
      .simp only[qjh,he,qud];exact fi.2 ⟨_,hmem,by rw[if_neg hn]⟩
      .obtain⟨e1,e2,e3⟩:=hpi q h1 e;exact hn ((of_decide_eq_true h2).1.symm.trans e1)
end
open Go.RowKit
theorem qv5{ops:Array Oper}{vals:Nat->ny}{L:Nat->Bool}:∀(ks:List Nat) (a:Act),(qx.puts ops vals L ks a).tmps.size=a.tmps.size/\(qx.puts ops vals L ks a).defers=a.defers
 | [],a=>⟨rfl,rfl⟩
 | k::ks,a=>by
   unfold qx.puts;obtain⟨h1,h2⟩:=qv5 (ops:=ops) (vals:=vals) (L:=L) ks (if L k then a.put (qx.zi ops k) (vals k) else a);rw[h1,h2];split
   .cases qx.zi ops k<;>simp[ez]
   .exact⟨rfl,rfl⟩
theorem qbu{α:Type}{f:Nat->Bool}:∀{l:List (Nat×α)} {t:Nat} {x:α},look (l.filter λe=>f e.1) t=I x->f t=nr/\look l t=I x
 | [],t,x,h=>by cases h
 | (m,y)::r,t,x,h=>by
   rw[List.filter_cons] at h;by_cases hm:m=t
   .subst hm;by_cases hf:f m=nr
    .rw[if_pos hf] at h;exact⟨hf,by simpa[look] using h⟩
    .rw[if_neg hf] at h;exact absurd (qbu h).1 hf
   .by_cases hf:f m=nr
    .rw[if_pos hf] at h;simp only[look,if_neg hm] at h ⊢;exact qbu h
    .rw[if_neg hf] at h;obtain⟨h1,h2⟩:=qbu h;exact⟨h1,by simp only[look,if_neg hm];exact h2⟩
def qmf(p:ku)(m:Nat)(L:Nat->Bool)(n:Nat):Prop:=n<p.S0.nv\/∃k,k<m/\L k=nr/\p.v k<=n/\n<p.v k+(p.r k).out.tys.length
section
variable {P:ma}{cx:Cx}{W0:nu}{base:Nat}{Z:yu}{T T':Nat->Prop}{w w':nu}{T0:Nat->Prop}{w0:nu}{PU:Lv}{N:Nat}
def Xv(ops:Array Oper)(vals:Nat->ny)(k:Nat):Bool:=match ops[k]? with
 | some o=>Reg9g.qqw o vals
 | none=>nr
def lx(ops:Array Oper)(L:Nat->Bool)(vals:Nat->ny):Nat->Bool:=λk=>L k && Xv ops vals k
def SemL(cx:Cx)(W0:nu)(T0:Nat->Prop)(w0:nu)(PU:Lv)(ops:Array Oper)(p:ku)(ρ0:yu)(Te:Nat->Prop)(we:nu)(L:Nat->Bool)(vals:Nat->ny)(w:nu):Prop:=
 qjk ops L/\∃(Z:yu) (T:Nat->Prop),(∀n,n<p.S0.nv->Z n=ρ0 n)/\zg T0 w0 PU T w/\xq Te we T w/\∀Z':yu,(∀n,qmf p ops.size (lx ops L vals) n->Z' n=Z n) ->
  xg cx.tb W0 (p.st 0 [] (lx ops L vals) (λj=>I (lx ops L vals j))) w0.heap.size Z' T w/\∀k,k<ops.size->lx ops L vals k=nr->vals k=(p.r k).out.v.den Z'
theorem q53(ho:ops[k]? = I o):qq0 ops k=o.guard:=by unfold qq0;rw[ho];rfl
theorem qyh{ops:Array Oper}{vals:Nat->ny}{k:Nat}:Xv ops vals k=match qq0 ops k with
  | none=>nr
  | some (j,want)=>match vals j with
    | .bool b=>b == want
    | _=>ns:=by
 unfold Xv qq0 Reg9g.qqw;cases ops[k]?<;>rfl
def GdOk(ops:Array Oper):Prop:=∀(k:Nat) (o:Oper) (j:Nat) (want:Bool),ops[k]? = I o->o.guard=I (j,want)->qx.waits o j=nr
theorem q7l(hg:GdOk ops)(hd:qjk ops L){want:Bool}(hk:qq0 ops k=I (j,want))(hL:L k=nr):L j=nr:=by
 unfold qq0 at hk;cases ho:ops[k]? with
 | none=>rw[ho] at hk;cases hk
 | some o=>
   rw[ho] at hk;have hw:=hg k o j want ho hk;unfold qx.waits at hw;rw[oo] at hw;obtain⟨e,he,hb⟩:=hw;simp only[ag,beq_iff_eq] at hb;rw[<-hb.2];exact hd k o ho hL e he hb.1
theorem qs9{vals:Nat->ny}{v:ny}(hg:GdOk ops)(hd:qjk ops L)(ho:ops[i]? = I o)(hi:L i=ns)(hed:∀e∈o.after,dy .any e=nr->L e.on=nr) :
  lx ops (λk=>if k=i then nr else L k) (λk=>if k=i then v else vals k)=λk=>if k=i then Reg9g.qqw o vals else lx ops L vals k:=by
 funext k
 have hne:∀{j want},qq0 ops k=I (j,want)->k=i\/L k=nr->j≠i:=by
  intro j want hk hor e;subst e;rcases hor with e|h
  .subst e;rw[q53 ho] at hk;have hw:=hg _ o _ want ho hk;unfold qx.waits at hw;rw[oo] at hw;obtain⟨e,he,hb⟩:=hw;simp only[ag,beq_iff_eq] at hb;have:=hed e he hb.1;rw[hb.2,hi] at this;cases this
  .have:=q7l hg hd hk h;rw[hi] at this;cases this
 unfold lx;by_cases hki:k=i
 .subst hki;simp only[if_pos,zm];have hx:Xv ops vals k=Reg9g.qqw o vals:=by unfold Xv;rw[ho]
  rw[<-hx,qyh,qyh];split
  .rfl
  .rename_i j want hk;simp only[if_neg (hne hk (.inl rfl))]
 .simp only[if_neg hki];cases hL:L k with
  | false=>rfl
  | true=>
    simp only[zm];rw[qyh,qyh];split
    .rfl
    .rename_i j want hk;simp only[if_neg (hne hk (.inr hL))]
theorem qtd{p:ku}:(qil ops ms p i S).nv=S.nv/\(qil ops ms p i S).env=S.env:=by
 unfold qil;split
 .exact⟨rfl,rfl⟩
 .split
  .split<;>exact⟨rfl,rfl⟩
  .exact⟨rfl,rfl⟩
theorem q7r{p:ku}(h:xg cx.tb W0 S base Z T w)
  (hv:∀j want,qq0 ops i=I (j,want)->qtg ops ms i j=nr->Value.bool want=(p.r j).out.v.den Z):xg cx.tb W0 (qil ops ms p i S) base Z T w:=by
 unfold qil;split
 .exact h
 .rename_i j want hg;split
  .rename_i hl;split
   .rename_i b hb;obtain⟨g1,g2,g3,g4,g5,g6,g7⟩:=id h;refine⟨g1,g2,g3,g4,λf hf=>?_,g6,g7⟩;rcases bo.1 hf with hf|hf
    .exact g5 f hf
    .have e:=hv j want hg hl;unfold qer at hb;split at hb
     .rename_i s hs;rw[hs] at e;have e2:Value.bool want=s.den Z:=e;rw[qq1 h hb] at e2;injection e2 with e2;exact qz6 _ Z h.rng _ g5 b want e2.symm f hf
     .cases hb
   .exact h
  .exact h
end
section
variable {P:ma}{cx:Cx}{W0:nu}{base:Nat}{Z:yu}{T T':Nat->Prop}{w w':nu}{T0:Nat->Prop}{w0:nu}{PU:Lv}{N:Nat}
theorem qk8{step:qz1}{ops:Array Oper}{ms:List Nat}{p:ku}{nvE i:Nat}{o:Oper}(h:opOk step N PU ops ms p nvE i=nr)(ho:ops[i]? = I o) :
  qmw step ops ms p (p.v i) i o=I (p.r i)/\fits N o.dst=nr/\PU.le (p.r i).pu=nr/\p.S0.nv<=p.v i/\p.v i+(p.r i).out.tys.length<=nvE/\(∀j,j<i->p.v j+(p.r j).out.tys.length<=p.v i) /\
   match(p.r i).ef with
    | .no=>True
    | .box _ _=>qq0 ops i=V/\(p.r i).out.tys.length=1/\∀q∈p.pts,q.n=p.v i->bit ms q.j i=nr
    | .put n off vs=>qq0 ops i=V/\(∀q∈p.pts,q.j=i\/q.n≠n\/q.off+q.vs.length<=off\/off+vs.length<=q.off)/\(∀b∈p.S0.bx++qkx p (λ_=>nr) (qxr p),b.n=n->off+vs.length<=b.cs.length)/\∃b∈(p.sti0 ops ms (p.v i) i o).bx,b.n=n:=by
 unfold opOk at h;rw[ho] at h;simp only[ag,decide_eq_true_eq,ao,bj,cj] at h;obtain⟨⟨⟨⟨⟨h1,h2⟩,h3⟩,h4⟩,h5⟩,h6⟩:=h;refine⟨?_,h2,h3,h4.1,h4.2,h5,?_⟩
 .split at h1
  .rename_i r hr;rw[hr,eqR_ok h1]
  .cases h1
 .generalize (p.r i).ef=ef at h6 ⊢;cases ef with
  | no=>trivial
  | box t cs=>
    simp only[ag,decide_eq_true_eq,ao,cj] at h6;refine⟨h6.1.1,h6.1.2,λq hq hn=>?_⟩;rcases h6.2 q hq with h|h
    .exact absurd hn h
    .exact h
  | put n off vs=>
    simp only[ag,decide_eq_true_eq,ao,cj,gn] at h6;obtain⟨⟨⟨qml,h7⟩,h8⟩,b,hb,hbn⟩:=h6;refine⟨qml,λq hq=>?_,h8,b,hb,hbn⟩;rcases h7 q hq with((h|h)|h)|h
    .exact .inl h
    .exact .inr (.inl h)
    .exact .inr (.inr (.inl h))
    .exact .inr (.inr (.inr h))
theorem qas{d:Nat}(h:qx.idxOf ops ops.size d=I k):k<ops.size/\qx.zi ops k=I d:=by
 unfold qx.idxOf at h;exact⟨bj.1 (ij h),by simpa using ta h⟩
theorem q5f{ops:Array Oper}{ms:List Nat}{p:ku}{nv i:Nat}{o:Oper}{r:qqa}{Ω:yu->Prop}{vals:Nat->ny}{a:Act}{M:Nat->Bool}{M3:Nat->Option Bool}
  (h:q0b ops ms p nv i o=I r) (hex:∃Z,Ω Z) (qjx:∀Z,Ω Z->xg cx.tb W0 (p.st 0 [] M M3) base Z T w/\∀k,k<ops.size->M k=nr->vals k=(p.r k).out.v.den Z)
  (hli:∀k,qbr ms i k=nr->(match qq0 ops k with|none=>nr|some (j,want)=>match vals j with|ni b=>b == want|_=>ns)=nr->M k=nr)
  (h3:∀q∈p.pts,∀b,qde ms i q.j=I b->M3 q.j=I b)
  (htm:∀d,Operand.tmp d∈o.op.operands->∀k,qx.idxOf ops ops.size d=I k->a.tmps.getD d mc=vals k) :
  ∃v,(execOp a.eval o).run P w=.ok (.value v) w/\r.ef=.no/\r.pu=nr/\∀Z,Ω Z->∀S:St,uy cx.tb W0 S r.out base Z T w v:=by
 obtain⟨ρ0,h0⟩:=hex
 have hsel:∀{Z g k b},Ω Z->(∀k',qd5 ops ms i g k'=nr->M k'=nr)->M k=nr->k<ops.size->qer (p.st nv [] (qd5 ops ms i g) (qde ms i)) (p.r k).out.v=I b->vals k=ni (b.den Z):=by
  intro Z g k b hρ hg hk hks hb;have h1:=qdo (nv':=nv) (env':=[]) (qjx Z hρ).1 hg h3;have h2:=(qjx Z hρ).2 k hks hk;unfold qer at hb;split at hb
  .rename_i s hs;rw[hs] at h2;rw[h2];exact qq1 h1 hb
  .cases hb
 have hnone:∀k',qd5 ops ms i V k'=nr->M k'=nr:=by
  intro k' hk';simp only[qd5,ag] at hk';refine hli k' hk'.1 ?_;obtain⟨-,h2⟩:=hk';split at h2
  .rename_i hg;rw[hg]
  .simp at h2
 have hsome:∀{j want},vals j=ni want->∀k',qd5 ops ms i (I (j,want)) k'=nr->M k'=nr:=by
  intro j want hv k' hk';simp only[qd5,ag] at hk';refine hli k' hk'.1 ?_;obtain⟨-,h2⟩:=hk';split at h2
  .rename_i hg;rw[hg]
  .rename_i g' hg;have:=of_decide_eq_true h2;injection this with this;rw[hg,<-this];simp[hv]
 unfold q0b at h;split at h
 .rename_i c x ho;split at h
  .rename_i j k hj hk;split at h
   .rename_i hc;simp only[ag,decide_eq_true_eq] at hc;obtain⟨⟨hlj,hlk⟩,hgj,hgk⟩:=hc;split at h
    .rename_i b q hb hq;cases h;have hjM:M j=nr:=hli j hlj (by rw[hgj]);have hvj:∀Z,Ω Z->vals j=ni (b.den Z):=λZ hρ=>hsel hρ hnone hjM (qas hj).1 hb
     have hc1:=htm c (by rw[ho];simp[jn]) j hj;have hx1:=htm x (by rw[ho];simp[jn]) k hk;refine⟨if b.den ρ0 then vals k else ni ns,?_,rfl,rfl,λZ hρ S=>qqi ?_⟩
     .have e1:a.eval (.tmp c)=ni (b.den ρ0):=hc1.trans (hvj ρ0 h0);have e2:a.eval (.tmp x)=vals k:=hx1;simp[execOp,ho,e1,e2,asBool];rfl
     .have e0:b.den Z=b.den ρ0:=by
       have:=(hvj Z hρ).symm.trans (hvj ρ0 h0);injection this
      show _=Value.bool (b.den Z && q.den Z);rw[e0];cases hb0:b.den ρ0 with
      | false=>rfl
      | true=>
        have hv1:vals j=ni nr:=by rw[hvj ρ0 h0,hb0]
        have hkM:M k=nr:=hli k hlk (by rw[hgk];simp[hv1]);simp only[if_true,zm];exact hsel hρ (hsome hv1) hkM (qas hk).1 hq
    .cases h
   .cases h
  .cases h
 .rename_i c x ho;split at h
  .rename_i j k hj hk;split at h
   .rename_i hc;simp only[ag,decide_eq_true_eq] at hc;obtain⟨⟨hlj,hlk⟩,hgj,hgk⟩:=hc;split at h
    .rename_i b q hb hq;cases h;have hjM:M j=nr:=hli j hlj (by rw[hgj]);have hvj:∀Z,Ω Z->vals j=ni (b.den Z):=λZ hρ=>hsel hρ hnone hjM (qas hj).1 hb
     have hc1:=htm c (by rw[ho];simp[jn]) j hj;have hx1:=htm x (by rw[ho];simp[jn]) k hk;refine⟨if b.den ρ0 then ni nr else vals k,?_,rfl,rfl,λZ hρ S=>qqi ?_⟩
     .have e1:a.eval (.tmp c)=ni (b.den ρ0):=hc1.trans (hvj ρ0 h0);have e2:a.eval (.tmp x)=vals k:=hx1;simp[execOp,ho,e1,e2,asBool];rfl
     .have e0:b.den Z=b.den ρ0:=by
       have:=(hvj Z hρ).symm.trans (hvj ρ0 h0);injection this
      show _=Value.bool (b.den Z || q.den Z);rw[e0];cases hb0:b.den ρ0 with
      | true=>rfl
      | false=>
        have hv1:vals j=ni ns:=by rw[hvj ρ0 h0,hb0]
        have hkM:M k=nr:=hli k hlk (by rw[hgk];simp[hv1]);simp only[Bool.false_eq_true,if_false,Bool.false_or];exact hsel hρ (hsome hv1) hkM (qas hk).1 hq
    .cases h
   .cases h
  .cases h
 .cases h
theorem q4e{step:qz1}(ht:qbb P cx W0 step){ops:Array Oper}{p:ku}{nvE:Nat}(hgd:GdOk ops)(hrs:p.rs.length=ops.size)(hall:∀i,i<ops.size->opOk step N PU ops (ui ops.toList []) p nvE i=nr){ρ0:yu}{Te:Nat->Prop}{we:nu}{a0:Act}
  (henv:∀Z':yu,(∀n,n<p.S0.nv->Z' n=ρ0 n)->qqz p.S0 Z' a0)
  {i:Nat} {o:Oper} (hgs:∀j want,qq0 ops i=I (j,want)->j<ops.size) (hi:i<ops.size) (ho:ops[i]? = I o) {L:Nat->Bool} {vals:Nat->ny} {a:Act} {w:nu} (hLi:L i=ns) (hS:SemL cx W0 T0 w0 PU ops p ρ0 Te we L vals w) (hed:∀e∈o.after,dy .any e=nr->L e.on=nr)
  (htm:∀d,Operand.tmp d∈o.op.operands->match qx.idxOf ops ops.size d with|some k=>L k=nr/\a.tmps.getD d mc=vals k|none=>a.tmps.getD d mc=a0.tmps.getD d mc) :
  (Reg9g.qqw o vals=nr->qx.qc P (λv w'=>SemL cx W0 T0 w0 PU ops p ρ0 Te we (λk=>if k=i then nr else L k) (λk=>if k=i then v else vals k) w') ((execOp a.eval o).run P w)) /\
  (Reg9g.qqw o vals=ns->SemL cx W0 T0 w0 PU ops p ρ0 Te we (λk=>if k=i then nr else L k) (λk=>if k=i then mc else vals k) w):=by
 obtain⟨hdn,Z,T,hρ,hist,qbw,qjx⟩:=hS
 have hdn':qjk ops (λk=>if k=i then nr else L k):=by
  intro k ok hok hk e he hb;by_cases hki:k=i
  .subst hki;rw[ho] at hok;cases hok;simp only;split
   .rfl
   .exact hed e he hb
  .simp only[if_neg hki] at hk;simp only;split
   .rfl
   .exact hdn k ok hok hk e he hb
 have hxi:Xv ops vals i=Reg9g.qqw o vals:=by unfold Xv;rw[ho]
 have hlxi:lx ops L vals i=ns:=by simp[lx,hLi]
 refine⟨λhW=>?_,λhW=>?_⟩
 rotate_left
 ·
  have hl:lx ops (λk=>if k=i then nr else L k) (λk=>if k=i then mc else vals k)=lx ops L vals:=by
   rw[qs9 hgd hdn ho hLi hed];funext k;by_cases hki:k=i
   .subst hki;rw[if_pos rfl,hW,hlxi]
   .rw[if_neg hki]
  refine⟨hdn',Z,T,hρ,hist,qbw,λZ' hρ'=>?_⟩;rw[hl] at hρ' ⊢;obtain⟨g1,g2⟩:=qjx Z' hρ';refine⟨g1,λk hk hLk=>?_⟩;have hki:k≠i:=λe=>by rw[e,hlxi] at hLk;cases hLk
  simp only[if_neg hki];exact g2 k hk hLk
 obtain⟨c1,c2,c3,c4,c5,c6,c7⟩:=qk8 (hall i hi) ho
 have hli0:∀k,qbr (ui ops.toList []) i k=nr->L k=nr:=λk hk=>by
  simp only[qbr,ag,decide_eq_true_eq] at hk;exact qyn hdn ho hed k hk.1 (Ne.symm hk.2)
 have hliX:∀k,qbr (ui ops.toList []) i k=nr->(match qq0 ops k with|none=>nr|some (j,want)=>match vals j with|ni b=>b == want|_=>ns)=nr->lx ops L vals k=nr:=λk hk hx=>by
  unfold lx;rw[hli0 k hk,qyh,hx];rfl
 have hli:∀k,qtg ops (ui ops.toList []) i k=nr->lx ops L vals k=nr:=λk hk=>by
  simp only[qtg,qd5,ag] at hk;refine hliX k hk.1 ?_;obtain⟨-,h2⟩:=hk;have hXi:=hxi.trans hW;rw[qyh] at hXi;split at h2
  .rename_i hg;rw[hg]
  .rename_i g' hg;have:=of_decide_eq_true h2;rw[this] at hXi;rw[hg];exact hXi
 have hnot:∀j,bit (ui ops.toList []) j i=nr->L j=ns:=λj hj=>by
  cases hq:L j with
  | false=>rfl
  | true=>rw[qy4 hdn j i hj hq] at hLi;cases hLi
 have hptg:∀q∈p.pts,lx ops L vals q.j=L q.j:=λq hq=>by
  obtain⟨h1,h2⟩:=qay hq;obtain⟨oj,hoj⟩:∃oj,ops[q.j]? = I oj:=⟨ops[q.j]' kg,ak _⟩;have h3:=(qk8 (hall q.j kg) hoj).2.2.2.2.2.2;rw[h2] at h3;unfold lx;rw[qyh,h3.1,Bool.and_true]
 have hl3:∀q∈p.pts,∀b,qde (ui ops.toList []) i q.j=I b->(λj=>I (lx ops L vals j)) q.j=I b:=by
  intro q hq b hb;show I (lx ops L vals q.j)=_;rw[hptg q hq];unfold qde at hb;split at hb
  .rename_i h1;cases hb;rw[hli0 _ h1]
  .split at hb
   .rename_i h1;cases hb;rw[hnot _ h1]
   .cases hb
 have hS0:∀Z':yu,(∀n,qmf p ops.size (lx ops L vals) n->Z' n=Z n)->∀n,n<p.S0.nv->Z' n=ρ0 n:=λZ' h n hn=>(h n (.inl hn)).trans (hρ n hn)
 have hyp:qqu cx W0 (p.sti ops (ui ops.toList []) (p.v i) i o) w0.heap.size (λZ'=>∀n,qmf p ops.size (lx ops L vals) n->Z' n=Z n) T w a:=by
  refine⟨⟨Z,λ_ _=>rfl⟩,λZ' hρ'=>q7r (qdo (qjx Z' hρ').1 hli hl3) (λj want hg hl=>?_),λZ' hρ' t x hx=>?_⟩
  .have h1:=(qjx Z' hρ').2 j (hgs j want hg) (hli j hl);have hXi:=hxi.trans hW;rw[qyh,hg] at hXi;simp only at hXi;split at hXi
   .rename_i b hvb;have:b=want:=by simpa using hXi
    rw[<-h1,hvb,this]
   .cases hXi
  .have hx:look (p.sti0 ops (ui ops.toList []) (p.v i) i o).env t=I x:=by rw[<-qtd.2];exact hx
   have hm:=ji hx;simp only[ku.sti0,ku.st,envI,aah] at hm;obtain⟨y,hy,hq⟩:=hm;split at hq
   .rename_i d;have hd:=htm d (by simpa using hy);split at hq
    .rename_i k hk;rw[hk] at hd;split at hq
     .rename_i hlk;injection hq with hq;injection hq with e1 e2;subst e1;subst e2;rw[hd.2];exact(qjx Z' hρ').2 k (qas hk).1 (hli k hlk)
     .cases hq
    .rename_i hk;rw[hk] at hd;cases hz:look p.S0.env d with
     | none=>rw[hz] at hq;cases hq
     | some z=>
       rw[hz] at hq;injection hq with hq;injection hq with e1 e2;subst e1;subst e2;rw[hd];exact henv Z' (hS0 Z' hρ') _ _ hz
   .cases hq
 have hstep:qx.qc P (λv w'=>∃T' ex,qyv cx.tb W0 T w T' w' w0.heap.size (p.r i).pu ex/\∀Z',(∀n,qmf p ops.size (lx ops L vals) n->Z' n=Z n)->Blk Z' (p.v i) (p.r i).out.tys.length (qzs v) ->
  uy cx.tb W0 (p.st (p.v i) [] (lx ops L vals) (λj=>I (lx ops L vals j))) (p.r i).out w0.heap.size Z' T' w' v/\EfOk (p.r i).ef w0.heap.size Z' T w T' w' v ex) ((execOp a.eval o).run P w):=by
  unfold qmw at c1;split at c1
  .rename_i r hr;cases c1
   obtain⟨v,h1,h2,h3,h4⟩:=q5f (P:=P) (T:=T) (w:=w) (base:=w0.heap.size) (a:=a) hr ⟨Z,λ_ _=>rfl⟩ qjx hliX hl3 (λd hd k hk=>by
    have:=htm d hd;rw[hk] at this
    exact this.2)
   rw[h1];refine⟨T,V,?_,λZ' hρ' _=>⟨h4 Z' hρ' _,by rw[h2];rfl⟩⟩;have hwt:=(qjx Z (λ_ _=>rfl)).1.wt;exact qyv.refl hwt _ _
  .have h1:=ht _ o _ c1 _ _ T w a hyp;refine qx.qc.mono h1 ?_;rintro v w' ⟨T',ex,hst,hpost⟩;refine⟨T',ex,hst,λZ' hρ' hb=>?_⟩;have hnv:(p.sti ops (ui ops.toList []) (p.v i) i o).nv=p.v i:=qtd.1;rw[hnv] at hpost;obtain⟨hn,he⟩:=hpost Z' hρ' hb;refine⟨λhb'=>?_,he⟩;have:=hn (by rw[hnv];exact hb');rw[hnv] at this;exact this
 refine qx.qc.mono hstep ?_;rintro v w' ⟨T',ex,hst,hpost⟩
 have hdis:∀j,j<ops.size->j≠i->p.v j+(p.r j).out.tys.length<=p.v i\/p.v i+(p.r i).out.tys.length<=p.v j:=by
  intro j hj hne;rcases dw j i with h|h
  .exact .inl (c6 j h)
  .obtain⟨oj,hoj⟩:∃oj,ops[j]? = I oj:=⟨ops[j],ak hj⟩;exact .inr ((qk8 (hall j hj) hoj).2.2.2.2.2.1 i kg)
 have hout:∀n,qmf p ops.size (lx ops L vals) n->¬(p.v i<=n/\n<p.v i+(p.r i).out.tys.length):=by
  rintro n (hn|⟨k,hk,hLk,h1,h2⟩) ⟨h3,h4⟩
  .omega
  .have hne:k≠i:=λe=>by rw[e,hlxi] at hLk;cases hLk
   rcases hdis k hk hne with h|h<;>omega
 have hl:lx ops (λk=>if k=i then nr else L k) (λk=>if k=i then v else vals k)=L' (lx ops L vals) i:=by
  rw[qs9 hgd hdn ho hLi hed];funext k;unfold L';by_cases hki:k=i
  .rw[if_pos hki,if_pos hki,hW]
  .rw[if_neg hki,if_neg hki]
 refine⟨hdn',λn=>if p.v i<=n/\n<p.v i+(p.r i).out.tys.length then(qzs v).getD (n-p.v i) mc else Z n,T',λn hn=>?_,hist.step hst c3,qbw.trans hst.ext,λZ' hρ'=>?_⟩
 .exact(if_neg kg).trans (hρ n hn)
 .rw[hl] at hρ' ⊢
  have hΩ:∀n,qmf p ops.size (lx ops L vals) n->Z' n=Z n:=λn hn=>by
   rw[hρ' n (by
    rcases hn with hn|⟨k,h1,h2,h3⟩
    .exact .inl hn
    .exact .inr ⟨k,h1,by simp only[L',h2];split<;>rfl,h3⟩)]
   exact if_neg (hout n hn)
  have hblk:Blk Z' (p.v i) (p.r i).out.tys.length (qzs v):=λj hj=>by
   rw[hρ' (p.v i+j) (.inr ⟨i,hi,if_pos rfl,kg,kg⟩)];refine(if_pos ⟨kg,kg⟩).trans ?_;rw[Nat.add_sub_cancel_left]
  obtain⟨hn,he⟩:=hpost Z' hΩ hblk;have hfull:xg cx.tb W0 (p.st (p.v i) [] (lx ops L vals) (λj=>I (lx ops L vals j))) w0.heap.size Z' T w:=qdo (qjx Z' hΩ).1 (λ_ h=>h) (λ_ _ _ h=>h)
  have hlen:∀b∈p.S0.bx++qkx p (lx ops L vals) (qxr p),b∈p.S0.bx++qkx p (λ_=>nr) (qxr p):=λb hb=>by
   rcases bo.1 hb with h|h
   .exact bo.2 (.inl h)
   .obtain⟨k,q1,q2,q3⟩:=qqm.1 h;exact bo.2 (.inr (qqm.2 ⟨k,q1,rfl,q3⟩))
  have hres:qu2 (p.st (p.v i) [] (lx ops L vals) (λj=>I (lx ops L vals j))) (p.r i)=nr:=by
   unfold qu2;generalize (p.r i).ef=ef at c7 ⊢;cases ef with
   | no=>rfl
   | box t cs=>exact decide_eq_true c7.2.1
   | put n off vs=>
     obtain⟨-,d1,d2,b,hb,hbn⟩:=c7;simp only[ag,ao,gn,decide_eq_true_eq];refine⟨λb1 hb1 hbn1=>?_,?_⟩
     .obtain⟨b0,hb0,rfl⟩:=fi.1 hb1;simp only[qzf];exact d2 b0 (hlen b0 hb0) hbn1
     .obtain⟨b0,hb0,rfl⟩:=fi.1 hb;refine⟨{ b0 with cs:=ug p.pts (λj=>I (lx ops L vals j)) b0.n 0 b0.cs },fi.2 ⟨b0,?_,rfl⟩,hbn⟩;rcases bo.1 hb0 with h|h
      .exact bo.2 (.inl h)
      .obtain⟨k,q1,q2,q3⟩:=qqm.1 h;exact bo.2 (.inr (qqm.2 ⟨k,q1,hli k q2,q3⟩))
  have hu:=qoz (S:=p.st (p.v i) [] (lx ops L vals) (λj=>I (lx ops L vals j))) hfull hst hn he hblk hres V;refine⟨q07 hlxi (λt cs hef q hq hqn=>?_) (λn off vs hef=>?_) hu,λk hk hLk=>?_⟩
  .rw[hef] at c7;have:=hnot _ (c7.2.2 q hq hqn);rw[hptg q hq];exact this
  .rw[hef] at c7;exact⟨c7.2.1,kg,λb hb=>c7.2.2.1 b (hlen b hb)⟩
  .by_cases hki:k=i
   .subst hki;exact(if_pos rfl).trans (hn hblk).1
   .simp only[L',if_neg hki] at hLk ⊢;exact(qjx Z' hΩ).2 k hk hLk
theorem qhr{step:qz1}(ht:qbb P cx W0 step)(hmix:P.follows .mixedOrders=nr):qab P cx W0 T0 w0 PU N (qla step N PU):=by
 intro id ops S outs h Z T a w Q hm hQ;unfold qla at h;split at h
 .rename_i hB;split at h
  .rename_i rs hrs;split at h
   .rename_i hp;cases h;generalize hnvE:rs.foldl (λn x=>n+x.2.out.tys.length) S.nv=nvE at *;simp only[q3i,ag,decide_eq_true_eq,ao,bj] at hp;obtain⟨⟨hlen,hnv⟩,hall⟩:=hp;have hmd:Mod cx W0 T0 w0 PU N S Z T a w.drew:=hm.drew
    have hdt:∀k d,k<ops.size->qx.zi ops k=I d->d<N:=λk d hk hd=>by
     obtain⟨o,ho⟩:∃o,ops[k]? = I o:=⟨ops[k],ak hk⟩;have:=(qk8 (hall k hk) ho).2.1;simp only[qx.zi,ho,Option.bind_some] at hd;rw[hd] at this;exact of_decide_eq_true this
    have hG:∀i o,ops[i]? = I o->Reg9g.opG ops ops.size i=nr:=λi o ho=>by
     have h1:=hB;simp only[Reg9g.qqt,ag,decide_eq_true_eq,ao,bj,cj] at h1;exact h1.1.1.2 i (Array.getElem?_eq_some_iff.1 ho).1
    have hgd:GdOk ops:=λk o j want ho hg=>by
     have h2:=hG k o ho;unfold Reg9g.opG at h2;rw[ho] at h2;simp only[hg,ag] at h2;exact h2.1.1.1.1.1
    have hgs:∀i j want,qq0 ops i=I (j,want)->j<ops.size:=λi j want hg=>by
     unfold qq0 at hg;cases ho:ops[i]? with
     | none=>rw[ho] at hg;cases hg
     | some o=>
       rw[ho] at hg;have hg':o.guard=I (j,want):=hg;have h2:=hG i o ho;unfold Reg9g.opG at h2;rw[ho] at h2;simp only[hg',ag,decide_eq_true_eq] at h2;exact h2.1.1.1.1.2
    have qh:∀i k,i<ops.size->k<ops.size->k≠i->∀d,qx.zi ops i=I d->qx.zi ops k≠I d:=by
     intro i k hi hk hne d hd hkd;have h2:=hG i ops[i] (ak hi);unfold Reg9g.opG at h2;rw[ak hi] at h2;simp only[ag,ao,bj,cj,bne_iff_ne,beq_iff_eq] at h2;rcases h2.2 k hk with(h|h)|h
     .exact hne h
     .rw[h] at hd;cases hd
     .rw[hd,hkd] at h;exact h rfl
    refine Reg9g.region (a0:=a) (Q:=Q) ops.size (SemL cx W0 T0 w0 PU ops ⟨S,rs⟩ Z T w.drew) hmix hB (λk d hk hd=>by rw[hm.size];exact hdt k d hk hd) ?_ (λi o hi ho L vals a' w' hL hS hed htm _ _=>q4e ht hgd hlen hall (λZ' h=>hmd.env Z' h) (hgs i) hi ho hL hS hed htm) (λL vals w' hL hS=>?_)
    .refine⟨λk o _ hk=>by simp at hk,Z,T,λ_ _=>rfl,hmd.hist,xq.refl T w.drew,λZ' hρ'=>⟨qo2 (hmd.sat Z' (λn hn=>hρ' n (.inl hn))) (λx hx=>?_) (λf hf=>?_) (λb hb=>?_),λk _ hk=>by simp[lx] at hk⟩⟩
     .simp only[ku.st] at hx;rcases bo.1 hx with h|h
      .exact h
      .obtain⟨k,q1,q2,q3⟩:=qqm.1 h;cases q2
     .simp only[ku.st] at hf;rcases bo.1 hf with h|h
      .exact h
      .obtain⟨k,q1,q2,q3⟩:=qqm.1 h;cases q2
     .simp only[ku.st] at hb;obtain⟨b0,hb0,rfl⟩:=fi.1 hb;rcases bo.1 hb0 with h|h
      .refine⟨b0,h,rfl,rfl,by simp[qzf],λi s hs=>?_⟩;simp only[qu5] at hs;cases hq:b0.cs[i]? with
       | none=>rw[hq] at hs;cases hs
       | some c=>
         rw[hq] at hs;simp only[dv,bc] at hs;rw[<-hs];congr 1;unfold qvn;split<;>rfl
      .obtain⟨k,q1,q2,q3⟩:=qqm.1 h;cases q2
    .rw[show ops.toList.drop ops.size=[] by simp];obtain⟨hdn,ρ1,T1,hρ1,hist,qbw,qjx⟩:=hS;unfold wpList;refine hQ (endSt ops ⟨S,rs⟩ nvE) _ _ kq ⟨ρ1,T1,hρ1,hnv,⟨qbw.sub,qbw.row,qbw.fz,qbw.mp⟩,?_,?_,hist,λZ' hρ'=>?_,λZ' hρ'=>?_⟩
     .rw[(qv5 _ _).1];exact hm.size
     .rw[(qv5 _ _).2];exact hm.defers
     .have hus:∀n,qmf ⟨S,rs⟩ ops.size (lx ops L vals) n->Z' n=ρ1 n:=by
       rintro n (hn|⟨k,hk,-,h1,h2⟩)
       .exact hρ' n (bf hn hnv)
       .obtain⟨o,ho⟩:∃o,ops[k]? = I o:=⟨ops[k],ak hk⟩;have:=(qk8 (hall k hk) ho).2.2.2.2.1;exact hρ' n (bf h2 this)
      have hun:∀k,k<ops.size->qq0 ops k=V->lx ops L vals k=nr:=λk hk hg=>by
       unfold lx;rw[hL k hk,qyh,hg];rfl
      refine qdo (qjx Z' hus).1 (λk hk=>(hun k (of_decide_eq_true hk).1 (of_decide_eq_true hk).2)) (λq hq b hb=>?_);cases hb;obtain⟨q1,q2⟩:=qay hq;have q1:q.j<ops.size:=by simp only at q1;omega
      have q3:=(qk8 (hall q.j q1) (ak q1)).2.2.2.2.2.2;rw[q2] at q3;simp only[hun q.j q1 q3.1]
     .have hus:∀n,qmf ⟨S,rs⟩ ops.size (lx ops L vals) n->Z' n=ρ1 n:=by
       rintro n (hn|⟨k,hk,-,h1,h2⟩)
       .exact hρ' n (bf hn hnv)
       .obtain⟨o,ho⟩:∃o,ops[k]? = I o:=⟨ops[k],ak hk⟩;have:=(qk8 (hall k hk) ho).2.2.2.2.1;exact hρ' n (bf h2 this)
      intro t x hx;have hx':look (envE ops ⟨S,rs⟩) t=I x:=hx;unfold envE at hx';rw[qb3] at hx';split at hx'
      .rename_i y hy;cases hx';have hmem:=ji hy;simp only[aah,bj] at hmem;obtain⟨k,hk,hq⟩:=hmem
       have hgk:qq0 ops k=V:=by
        by_cases hgk:qq0 ops k=V
        .exact hgk
        .rw[if_neg hgk] at hq;cases hq
       rw[if_pos hgk] at hq
       have hlk:lx ops L vals k=nr:=by
        unfold lx;rw[hL k hk,qyh,hgk];rfl
       cases hd:qx.zi ops k with
       | none=>rw[hd] at hq;cases hq
       | some d=>
         rw[hd] at hq;simp only[dv,bc,Prod.mk.injEq] at hq;obtain⟨rfl,rfl⟩:=hq;rw[qx.qk3 hd rfl (ay ops.size) a List.nodup_range (bj.2 hk) (by rw[hm.size];exact hdt k d hk hd) (λj hj hne=>qh k j hk (bj.1 hj) hne d hd)];exact(qjx Z' hus).2 k hk hlk
      .obtain⟨h1,h2⟩:=qbu (f:=λe=>(qx.idxOf ops ops.size e).isNone) hx'
       rw[qx.qy6 (ay ops.size) a (λk hk hd=>by
        have h3:=Option.isNone_iff_eq_none.1 h1;unfold qx.idxOf at h3;have:=aag.1 h3 k hk
        simp[hd] at this)]
       exact hmd.env Z' (λn hn=>(hρ' n (bf hn hnv)).trans (hρ1 n hn)) t x h2
   .cases h
  .cases h
 .cases h
def qrj(f g:Array Oper->St->Option (List St))(ops:Array Oper)(S:St):Option (List St):=match f ops S with
 | some l=>I l
 | none=>g ops S
theorem qmv{f g:Array Oper->St->Option (List St)}(hf:qab P cx W0 T0 w0 PU N f)(hg:qab P cx W0 T0 w0 PU N g):qab P cx W0 T0 w0 PU N (qrj f g):=by
 intro id ops S outs h;unfold qrj at h;split at h
 .rename_i l hl;cases h;exact hf id ops S _ hl
 .exact hg id ops S outs h
end
open Go.RowKit
section
variable {P:ma}{cx:Cx}{W0:nu}
def qho(cx:Cx)(G:qul)(N:Nat)(PU:Lv):Array Oper->St->Option (List St):=qrj (qem cx N PU) (qla (stepG cx G) N PU)
def qse(cx:Cx)(G:qul)(fn:Func)(heads:List qb6)(C:zu):Bool:=match fn.body with
 | some code=>(fn.name != "runtime.NumGoroutine") && fnOk { cx:=cx,step:=stepG cx G,N:=fn.ntmps,PU:=C.pu,heads:=heads,drawn:=qho cx G fn.ntmps C.pu } C code fn.results.toList
 | none=>ns
def qss(cx:Cx)(G:qul)(fn:Func)(heads:List qb6)(C:zu):Bool:=match fn.body with
 | some code=>(fn.name != "runtime.NumGoroutine") && fnOk { cx:=cx,step:=stepG cx G,N:=fn.ntmps,PU:=C.pu,heads:=heads,drawn:=qho cx G fn.ntmps C.pu,sp:=nr } C code fn.results.toList
 | none=>ns
theorem qou{G:qul}(hcx:yj P cx)(hG:qc9 P cx W0 G)(hmix:P.follows .mixedOrders=nr)(heads:List qb6){C:zu}(hf:P.funcs[f]? = I fn)(h:qss cx G fn heads C=nr):qm P cx W0 f C:=by
 unfold qss at h;split at h
 .rename_i code hb;simp only[ag,bne_iff_ne,ne_eq] at h;exact holds_of (c:={ cx:=cx,step:=stepG cx G,N:=fn.ntmps,PU:=C.pu,heads:=heads,drawn:=qho cx G fn.ntmps C.pu,sp:=nr }) hf hb (by simpa using h.1) rfl hcx (qdk hcx hG) (λT0 w0=>qmv (qeq hcx hmix) (qhr (qdk hcx hG) hmix)) rfl h.2
 .cases h
theorem ql{G:qul}(hcx:yj P cx)(hG:qc9 P cx W0 G)(hmix:P.follows .mixedOrders=nr)(heads:List qb6){C:zu}(hf:P.funcs[f]? = I fn)(h:qse cx G fn heads C=nr):qm P cx W0 f C:=by
 unfold qse at h;split at h
 .rename_i code hb;simp only[ag,bne_iff_ne,ne_eq] at h;exact holds_of (c:={ cx:=cx,step:=stepG cx G,N:=fn.ntmps,PU:=C.pu,heads:=heads,drawn:=qho cx G fn.ntmps C.pu }) hf hb (by simpa using h.1) rfl hcx (qdk hcx hG) (λT0 w0=>qmv (qeq hcx hmix) (qhr (qdk hcx hG) hmix)) rfl h.2
 .cases h
end
def qfd:TD:=⟨.st [(9,0),(9,1)],2,32,[zS,zS],nr⟩
def td250:TD:=⟨.st [(9,0),(9,1),(3,2)],3,40,[zS,zS,zI],nr⟩
noncomputable def q34(P:ma)(q:Bool)(t:nz):Option TD:=match P.underlying t,P.info? t with
 | some u,I i=>match i.zero with
   | some z=>I ⟨KD.of u,i.size,i.bytes,z.cells.toList,q && (!P.stoodInHeld t && !P.eqGuardType P.depth t)⟩
   | none=>V
 | _,_=>V
theorem tdB_ok{P:ma}{q:Bool}{d:TD}(h:q34 P q t=I d):qzu P t d:=by
 unfold q34 at h;split at h
 .rename_i u i hu hi;split at h
  .rename_i z hz;cases h;refine⟨by rw[hu];rfl,by rw[hi];simp[hz],λh=>?_⟩;simp only[ag,Bool.not_eq_true'] at h;exact h.2
  .cases h
 .cases h
def agl:List Nat:=[7,8,13,14,18,19,24,25,27,28,30,31,33,34,35,36,41,42,48,49,50,51,68,69,79,80,81,82,83,84,94,95,97,98,122,123,132,133,137,138,140,141,155,156,161,166,171,172,173,174,176,177,180,181,187,188,199,200,204,205,210,218,219,229,230,235,237,249,250,261,262,280,281,292,293,304,305]
def ptl:List (Nat×Nat):=[(15,293),(16,296),(17,305),(85,84),(143,80),(258,230),(301,5)]
def tdl:List Nat:=[2,3,4,5,6,7,8,9,10,11,12,13,14,15,16,17,18,19,21,22,23,24,25,26,27,28,29,30,31,33,34,35,36,38,39,40,41,42,43,44,45,46,47,48,49,50,51,52,55,58,67,68,69,79,80,81,82,83,84,85,94,95,97,98,122,123,131,132,133,136,137,138,140,141,143,155,156,161,166,170,171,172,173,174,176,177,180,181,183,187,188,189,199,200,202,204,205,210,218,219,221,222,228,229,230,235,236,237,241,247,249,250,258,261,262,280,281,292,293,298,299,301,302,303,304,305]
def tde:List Nat:=[7,8,9,10,11,24,25,33,34,68,69,122,123,140,141,155,156,171,172,176,177,180,181,199,200,204,205,229,230,249,250,261,262]
noncomputable def tds:List (Nat×TD):=tdl.map λt=>(t,(q34 ab (tde.contains t) t).getD ⟨.oth,0,0,[],ns⟩)
def tbs:yg:=[(2,[qy O]),
 (3,[qy O]),
 (4,[.bool]),
 (5,[qy .u8]),
 (6,[qy .u8]),
 (7,[qy O,qy O,.bool,qy .u8]),
 (8,[qy O,qy O,.bool,qy .u8]),
 (9,[.str mf]),
 (10,[.str mf]),
 (11,[.str mf]),
 (12,[qy .u64]),
 (13,[.str mf,qy .u64]),
 (14,[.str mf,qy .u64]),
 (15,[.any]),
 (16,[.any]),
 (17,[.any]),
 (18,[.any]),
 (19,[.any]),
 (21,[qy .i32]),
 (22,[.sl 0 36 128]),
 (23,[.sl 0 156 1024]),
 (24,[qy O,qy O]),
 (25,[qy O,qy O]),
 (26,[.sl 0 181 64]),
 (27,[qy O,qy O,qy O,qy O,qy O,.str mf,qy O,qy O,qy O,qy O,.sl 0 181 64]),
 (28,[qy O,qy O,qy O,qy O,qy O,.str mf,qy O,qy O,qy O,qy O,.sl 0 181 64]),
 (29,[.sl 0 34 128]),
 (30,[qy O,qy O,qy O,qy O,qy O,qy O,qy O,qy O,.str mf,.str mf,.str mf,.bool,.sl 0 156 1024,qy O,qy O,qy O,qy O,qy O,.str mf,qy O,qy O,qy O,qy O,.sl 0 181 64,.sl 0 34 128]),
 (31,[vw,vw,vw,vw,vw,vw,vw,vw,.str mf,.str mf,.str mf,.bool,.sl 0 156 1024,vw,vw,vw,vw,vw,.str mf,vw,vw,vw,vw,.sl 0 181 64,.sl 0 34 128]),
 (33,[.str mf,.str mf,.str mf,qy O,qy O,qy O]),
 (34,[.fz .str,.fz .str,.fz .str,.fz (.int O),.fz (.int O),.fz (.int O)]),
 (35,[qy O,qy O,.str mf,.str mf,.fz .str,.fz .str,.fz .str,.fz (.int O),.fz (.int O),.fz (.int O),vw,vw,vw,vw,vw,vw,vw,vw,.str mf,.str mf,.str mf,.bool,.sl 0 156 1024,vw,vw,vw,vw,vw,.str mf,vw,vw,vw,vw,.sl 0 181 64,.sl 0 34 128]),
 (36,[qy O,qy O,.str mf,.str mf,.fz .str,.fz .str,.fz .str,.fz (.int O),.fz (.int O),.fz (.int O),vw,vw,vw,vw,vw,vw,vw,vw,.str mf,.str mf,.str mf,.bool,.sl 0 156 1024,vw,vw,vw,vw,vw,.str mf,vw,vw,vw,vw,.sl 0 181 64,.sl 0 34 128]),
 (38,[.sl 0 84 63]),
 (39,[.sl 0 123 1048576]),
 (40,[.sl 0 3 1048576]),
 (41,[.sl 0 123 1048576,.sl 0 3 1048576]),
 (42,[.sl 0 123 0,.sl 0 3 0]),
 (43,[.sl 0 95 8192]),
 (44,[.sl 0 98 1024]),
 (45,[.sl 0 69 8192]),
 (46,[.sl 0 133 1048576]),
 (47,[.sl 0 138 1048576]),
 (48,[.sl 0 138 1048576]),
 (49,[.sl 0 138 0]),
 (50,[qy O,.sl 0 84 63,.sl 0 34 128,.sl 0 123 0,.sl 0 3 0,qy O,.sl 0 95 8192,.sl 0 98 1024,.sl 0 69 8192,.sl 0 133 1048576,.sl 0 138 0,qy O,qy O]),
 (51,[.int O 0 268435456,.sl 1 84 63,.cs 1 34 128,.sl 0 123 0,.sl 0 3 0,qy O,.sl 1 95 8192,.sl 1 98 1024,.sl 1 69 8192,.sl 1 133 0,.sl 0 138 0,qy O,.int O 0 60]),
 (52,[qy O]),
 (55,[.sl 0 58 64]),
 (58,[.sl 0 31 1024]),
 (67,[qy .u64]),
 (68,[qy O,qy O,.str mf,.str mf,.str mf,qy .u64]),
 (69,[qy O,qy O,.str mf,.str mf,.str mf,qy .u64]),
 (79,[.int O 0 268435456,.sl 1 84 63,.cs 1 34 128,.sl 0 123 0,.sl 0 3 0,qy O,.sl 1 95 8192,.sl 1 98 1024,.sl 1 69 8192,.sl 1 133 0,.sl 0 138 0,qy O,.int O 0 60,qy O]),
 (80,[.kp (.int O 0 268435456),.sl 1 84 63,.cs 1 34 128,.sl 0 123 0,.sl 0 3 0,qy O,.sl 1 95 8192,.sl 1 98 1024,.sl 1 69 8192,.sl 1 133 0,.sl 0 138 0,qy O,.int O 0 60,.idx 12]),
 (81,[qy O,qy O,qy O,.sl 0 31 1024,.sl 0 31 1024,qy O,qy O,.sl 0 31 1024]),
 (82,[qy O,qy O,qy O,.sl 1 31 1024,.sl 1 31 1024,qy O,qy O,.sl 1 31 1024]),
 (83,[.str mf,.bool,qy O,.sl 0 3 1048576,qy O,qy O,qy O,qy O,.sl 1 31 1024,.sl 1 31 1024,qy O,qy O,.sl 1 31 1024]),
 (84,[.kp .str,.bool,vw,.sl 1 3 1048576,qy O,vw,vw,vw,.kp (.sl 31 1024),.kp (.sl 31 1024),vw,vw,.kp (.sl 31 1024)]),
 (85,[.any]),
 (94,[.str mf,.str mf,qy O,qy O,qy O,qy O,.str mf,.bool,qy O,.sl 0 156 1024]),
 (95,[.str mf,.str mf,qy O,qy O,qy O,qy O,.str mf,.bool,qy O,.sl 0 156 1024]),
 (97,[.str mf,.str mf,qy O,.str mf,qy O,qy O,.sl 0 156 1024,qy O,qy O,.bool,.bool]),
 (98,[.str mf,.str mf,qy O,.str mf,qy O,qy O,.sl 0 156 1024,qy O,qy O,.bool,.bool]),
 (122,[qy O,.str mf,.str mf,qy O,qy O,.bool,qy .u64,qy .u64]),
 (123,[qy O,.str mf,.str mf,qy O,qy O,.bool,qy .u64,qy .u64]),
 (131,[.sl 0 174 1048576]),
 (132,[.str mf,.str mf,qy O,qy O,qy O,.sl 0 174 1048576,qy O,qy O]),
 (133,[.str mf,.str mf,qy O,qy O,qy O,.sl 0 174 1048576,qy O,qy O]),
 (136,[.sl 0 141 1048576]),
 (137,[qy O,.str mf,.str mf,qy O,.sl 0 141 1048576,qy O,qy O,qy O,qy O]),
 (138,[qy O,.str mf,.str mf,qy O,.sl 0 141 1048576,qy O,qy O,qy O,qy O]),
 (140,[qy O,qy O,qy O,qy O,qy O,qy O,qy O]),
 (141,[qy O,qy O,qy O,qy O,qy O,qy O,qy O]),
 (143,[.any]),
 (155,[qy O,qy O]),
 (156,[qy O,qy O]),
 (161,[.sl 0 31 1024,.sl 0 31 1024]),
 (166,[.bool,.bool,.bool,.bool,.bool,.bool,.bool,.bool,.bool,.bool,.bool,.bool]),
 (170,[.sl 0 177 1048576]),
 (171,[qy O,qy O,qy O,qy O,qy O,qy O,qy O,qy O,qy O,qy O,qy O]),
 (172,[qy O,qy O,qy O,qy O,qy O,qy O,qy O,qy O,qy O,qy O,qy O]),
 (173,[.sl 0 177 1048576,qy O,qy O,qy O,qy O,qy O,qy O,qy O,qy O,qy O,qy O,qy O]),
 (174,[.sl 0 177 1048576,qy O,qy O,qy O,qy O,qy O,qy O,qy O,qy O,qy O,qy O,qy O]),
 (176,[qy O,qy O,qy O,qy O]),
 (177,[qy O,qy O,qy O,qy O]),
 (180,[qy O,qy O]),
 (181,[qy O,qy O]),
 (183,[.sl 0 5 4294967296]),
 (187,[qy O,.sl 0 5 4294967296]),
 (188,[qy O,.sl 0 5 1000]),
 (189,[.sl 0 188 256]),
 (199,[qy O,qy O,.str mf]),
 (200,[qy O,qy O,.str mf]),
 (202,[.sl 0 9 1048576]),
 (204,[.str mf,.str mf]),
 (205,[.str mf,.str mf]),
 (210,[qy .u8,qy .u8,qy .u8,qy .u8,qy .u8,qy .u8,qy .u8,qy .u8,qy .u8,qy .u8,qy .u8,qy .u8,qy .u8,qy .u8,qy .u8,qy .u8,qy .u8,qy .u8,qy .u8,qy .u8,qy .u8,qy .u8,qy .u8,qy .u8]),
 (218,[.sl 0 34 128,.sl 0 34 128,.sl 0 34 128,.sl 0 9 1048576,.str mf,qy O]),
 (219,[.cs 1 34 128,.cs 1 34 128,.cs 1 34 128,.sl 0 9 1048576,.str mf,qy O]),
 (221,[.fn [130,131] [(9,219)] []]),
 (222,[.mp 205 4]),
 (228,[qy .u64]),
 (229,[qy .u64,qy .u64,qy .u64,qy .u64]),
 (230,[qy .u64,qy .u64,qy .u64,qy .u64]),
 (235,[qy .u64,qy .u64,qy .u64,qy .u64,qy .u64,qy .u64,qy .u64,qy .u64,qy .u64,qy .u64,qy .u64,qy .u64,qy .u64,qy .u64,qy .u64,qy .u64,qy .u64,qy .u64,qy .u64,qy .u64]),
 (236,[qy .u32]),
 (237,[qy .u8,qy .u8,qy .u8,qy .u8,qy .u8,qy .u8,qy .u8,qy .u8,qy .u8,qy .u8,qy .u8,qy .u8,qy .u8,qy .u8,qy .u8,qy .u8,qy .u8,qy .u8,qy .u8,qy .u8,qy .u8,qy .u8,qy .u8,qy .u8,qy .u8,qy .u8,qy .u8,qy .u8,qy .u8,qy .u8,qy .u8,qy .u8,qy .u8,qy .u8,qy .u8,qy .u8,qy .u8,qy .u8,qy .u8,qy .u8,qy .u8,qy .u8,qy .u8,qy .u8,qy .u8,qy .u8,qy .u8,qy .u8,qy .u8,qy .u8,qy .u8,qy .u8,qy .u8,qy .u8,qy .u8,qy .u8,qy .u8,qy .u8,qy .u8,qy .u8,qy .u8,qy .u8,qy .u8,qy .u8,qy .u8]),
 (241,[.sl 0 221 1048576]),
 (247,[.mp 250 95]),
 (249,[.str mf,.str mf,qy O]),
 (250,[.str mf,.str mf,qy O]),
 (258,[.any]),
 (261,[qy .u64,qy .u64,qy .u64,qy .u64]),
 (262,[qy .u64,qy .u64,qy .u64,qy .u64]),
 (280,[qy .u8,qy .u8,qy .u8,qy .u8,qy .u8,qy .u8,qy .u8,qy .u8,qy .u8,qy .u8,qy .u8,qy .u8,qy .u8,qy .u8,qy .u8,qy .u8,qy .u8,qy .u8,qy .u8,qy .u8,qy .u8,qy .u8,qy .u8,qy .u8,qy .u8,qy .u8,qy .u8,qy .u8,qy .u8,qy .u8,qy .u8,qy .u8]),
 (281,[qy .u8,qy .u8,qy .u8,qy .u8,qy .u8,qy .u8,qy .u8,qy .u8,qy .u8,qy .u8,qy .u8,qy .u8,qy .u8,qy .u8,qy .u8,qy .u8,qy .u8,qy .u8,qy .u8,qy .u8,qy .u8,qy .u8,qy .u8,qy .u8,qy .u8,qy .u8,qy .u8,qy .u8,qy .u8,qy .u8,qy .u8,qy .u8,qy .u8,qy .u8,qy .u8,qy .u8,qy .u8,qy .u8,qy .u8,qy .u8,qy .u8,qy .u8,qy .u8,qy .u8,qy .u8,qy .u8,qy .u8,qy .u8,qy .u8,qy .u8,qy .u8,qy .u8,qy .u8,qy .u8,qy .u8,qy .u8,qy .u8,qy .u8,qy .u8,qy .u8,qy .u8,qy .u8,qy .u8,qy .u8]),
 (292,[.any,.any,.any,.str mf]),
 (293,[.any,.any,.any,.str mf]),
 (298,[qy .u8]),
 (299,[qy .u8]),
 (301,[.any]),
 (302,[qy .i32]),
 (303,[qy .i32]),
 (304,[qy .u64,qy .u64,qy .u32,qy .u8,qy .u8,qy .u8,qy .u8,.any,.any,qy .i32,qy .i32]),
 (305,[qy .u64,qy .u64,qy .u32,qy .u8,qy .u8,qy .u8,qy .u8,.any,.any,qy .i32,qy .i32])]
noncomputable def cx:Cx:=⟨tbs,tds⟩
theorem allTd:tdl.all (λt=>(q34 ab (tde.contains t) t).isSome)=nr:=ki
theorem cxOk:yj ab cx:=⟨λt d h=>by
 have h:=ji h;obtain⟨x,hx,e⟩:=fi.1 (show(t,d)∈tds from h);obtain⟨rfl,rfl⟩:=Prod.mk.inj e;have:=ao.1 allTd _ hx;cases hd:q34 ab (tde.contains x) x with
 | none=>rw[hd] at this;cases this
 | some d=>rw[Option.getD_some];exact tdB_ok hd,ki,ki⟩
theorem mixed:ab.follows .mixedOrders=nr:=ki
abbrev CVc:=CV cx.tb
abbrev WTc:=WT cx.tb
abbrev TyValc:=zq cx.tb
open Go.RowKit Go.Great
section
variable {W0:nu}{T:Nat->Prop}{w:nu}
abbrev quh:List CT:=[qy O,qy O,.str mf,.str mf,.fz .str,.fz .str,.fz .str,.fz (.int O),.fz (.int O),.fz (.int O),vw,vw,vw,vw,vw,vw,vw,vw,.str mf,.str mf,.str mf,.bool,.sl 0 156 1024,vw,vw,vw,vw,vw,.str mf,vw,vw,vw,vw,.sl 0 181 64,.sl 0 34 128]
theorem rd_ops:rdB cx 9 22=nr:=ki
theorem lRun{P:ma}{w w':nu}(hg:o.guard=V)(v:ny)
  (hrun:(execOp a.eval o).run P w=.ok (.value v) w') (h:wpList P ops Q rest (a.put o.dst v) w'):wpList P ops Q (o::rest) a w:=by
 have hw:ee o (yielded ops a.tmps)=nr:=by simp[ee,hg]
 unfold wpList;rw[if_pos hw];unfold Oper.wp;rw[hrun];exact .inl h
structure OpC(r:List Value):Prop where
 len:r.length=35
 one:∀u∈r,u.oneCell'=nr
 sl:∀k,k=22\/k=33\/k=34->∃A m c,r[k]? = I (ng A m c)
 st:∀k,k=2\/k=3\/k=18\/k=19\/k=20->∃s,r[k]? = I (nh s)
theorem RV.one{tb:yg}{W:nu}{v:ny}(h:RV tb W ct v):v.oneCell'=nr:=by cases h<;>rfl
structure qet(r:List Value):Prop where
 sl:∀k A m c,r[k]? = I (ng A m c)->(k=22->m<=16)/\(k=34->m<=40)/\(k=33->m<=30)
theorem q3j{r:List ny}(hl:r.length=35)(h:∀(k:Nat) (ct:CT) (u:ny),quh[k]? = I ct->r[k]? = I u->RV cx.tb w ct u):OpC r:=by
 refine⟨hl,λu hu=>?_,λk hk=>?_,λk hk=>?_⟩
 .obtain⟨k,hk⟩:=List.getElem?_of_mem hu;have hkl:=(List.getElem?_eq_some_iff.1 hk).1;exact(h k _ u (ah (show k<quh.length by rw[hl] at hkl;exact hkl)) hk).one
 .obtain⟨u,hu⟩:∃u,r[k]? = I u:=⟨_,ah (show k<r.length by omega)⟩;rw[hu];rcases hk with rfl|rfl|rfl
  all_goals
   have:=h _ _ _ rfl hu;cases this<;>exact⟨_,_,_,rfl⟩
 .obtain⟨u,hu⟩:∃u,r[k]? = I u:=⟨_,ah (show k<r.length by omega)⟩;rw[hu];rcases hk with rfl|rfl|rfl|rfl|rfl
  all_goals
   have:=h _ _ _ rfl hu;cases this<;>exact⟨_,rfl⟩
def OpsAt(w:nu)(A:Option Addr)(n:Nat)(F:Nat->List ny):Prop:=∀j,j<n->∃b off,A=I ⟨b,off,V⟩/\OpC (F j)/\∀W,Below w.heap.size w W->W.rangeAt b (off+j*35) (F j)
def SmPost(w:nu)(n:Nat)(F:Nat->List ny)(e:Ending)(w':nu):Prop:=∃q:Bool,e=np (ni q)/\Hid (Below w.heap.size w w')/\(q=nr->n<=80/\∀j,j<n->qet (F j))
theorem qh4(A:Option Addr)(n c:Nat)(F:Nat->List ny)(w:nu)(hn:n<=9223372036854775807)(hR:OpsAt w A n F) :
  Calls ab 5 #[ng A n c] w (SmPost w n F):=by
 have HR:=aa hR;clear hR;go_enter Tryz.func5,Tryz.ntmps5;go_wp2_with fail;go_loopg [7] n (λgg s7 wr=>∃j:Nat,j+gg=n/\s7=U O j/\Hid (Below w.heap.size w wr)/\Hid (∀i,i<j->qet (F i)))
 case atStart=>exact⟨0,kg,rfl,aa (aj _ _),λi h=>kg⟩
 case round=>
  obtain⟨j,hj,rfl,HB,HS⟩:=hrel;by_cases hjn:j<n
  .obtain⟨b,off,rfl,hoc,hcl⟩:=HR.out j hjn;have HCL:=aa (hcl wr HB.out);have hlen:=hoc.len;obtain⟨A22,m22,c22,e22⟩:=hoc.sl 22 kg;obtain⟨A34,m34,c34,e34⟩:=hoc.sl 34 kg;obtain⟨A33,m33,c33,e33⟩:=hoc.sl 33 kg;obtain⟨s2,e2⟩:=hoc.st 2 kg;obtain⟨s3,e3⟩:=hoc.st 3 kg;obtain⟨s20,e20⟩:=hoc.st 20 kg;obtain⟨s19,e19⟩:=hoc.st 19 kg;obtain⟨s18,e18⟩:=hoc.st 18 kg;have hone:=hoc.one;clear hcl hoc;have HF:Hid (qet (F j)\/True):=.inr trivial;have hltz:(j:Int)<(n:Int):=kg;have hj0:(0:Int)<=(j:Int):=kg;have e4:IntKind.i64.wrap ((j:Int)+1)=((j+1:Nat):Int):=by simp[IntKind.wrap,IntKind.bits,IntKind.signed];omega
   have HE:Hid ((F j)[22]? = I (ng A22 m22 c22)/\(F j)[34]? = I (ng A34 m34 c34)/\(F j)[33]? = I (ng A33 m33 c33)):=⟨e22,e34,e33⟩;go_upto_region 3 with(fail);refine wp_region_lit ?_;refine lRun (w':=wr) rfl (nj (I ⟨b,off+j*35,V⟩)) (by go_simp) ?_;refine wpList_load_mid rfl 36 (.tmp 9) rfl b (off+j*35) rfl (F j) _ HCL.out Tryz.underlying36 rfl (by rw[hlen];kernel_rfl) ?_;refine lRun (w':=wr.alloc (.cells zD 36)) rfl (nj (I ⟨wr.heap.size,0,V⟩)) ki ?_;refine wpList_store_rowTo rfl 36 (.tmp 4) (.tmp 10) rfl rfl wr.heap.size (F j).toArray rfl rfl 36 zD (heap_alloc_last _ _) (by simp only[ei,hlen];kernel_rfl) (by simp only[ei,hlen];rfl) (all_oneCell_toArray hone) ?_;rw[World.setRow_alloc_new];have kb:=(mg.new wr 36 (F j).toArray);have k22:(wr.alloc (.cells (F j).toArray 36)).cell? ⟨wr.heap.size,22,V⟩=I (ng A22 m22 c22):=(kb.cell 22).trans (by rw[ga];exact e22);have k34:(wr.alloc (.cells (F j).toArray 36)).cell? ⟨wr.heap.size,34,V⟩=I (ng A34 m34 c34):=(kb.cell 34).trans (by rw[ga];exact e34);have k33:(wr.alloc (.cells (F j).toArray 36)).cell? ⟨wr.heap.size,33,V⟩=I (ng A33 m33 c33):=(kb.cell 33).trans (by rw[ga];exact e33);have k2:(wr.alloc (.cells (F j).toArray 36)).cell? ⟨wr.heap.size,2,V⟩=I (nh s2):=(kb.cell 2).trans (by rw[ga];exact e2);have k3:(wr.alloc (.cells (F j).toArray 36)).cell? ⟨wr.heap.size,3,V⟩=I (nh s3):=(kb.cell 3).trans (by rw[ga];exact e3);have k20:(wr.alloc (.cells (F j).toArray 36)).cell? ⟨wr.heap.size,20,V⟩=I (nh s20):=(kb.cell 20).trans (by rw[ga];exact e20);have k19:(wr.alloc (.cells (F j).toArray 36)).cell? ⟨wr.heap.size,19,V⟩=I (nh s19):=(kb.cell 19).trans (by rw[ga];exact e19);have k18:(wr.alloc (.cells (F j).toArray 36)).cell? ⟨wr.heap.size,18,V⟩=I (nh s18):=(kb.cell 18).trans (by rw[ga];exact e18);have HBn:Hid (Below w.heap.size w (wr.alloc (.cells (F j).toArray 36))):=qp HB.out _;simp[ez];clear kb e22 e34 e33 e2 e3 e20 e19 e18;generalize wr.alloc (.cells (F j).toArray 36)=w3 at *;generalize wr.heap.size=g3 at *;by_cases y22:16<m22
   .have y22z:(16:Int)<(m22:Int):=kg;have y22d:decide ((16:Int)<(m22:Int))=nr:=by rw[decide_eq_true_eq];omega
    have y22e:decide (16<m22)=nr:=by rw[decide_eq_true_eq];omega
    go_wp2_with fail;go_ret;exact⟨ns,rfl,HBn,λh=>by cases h⟩
   have y22z:¬(16:Int)<(m22:Int):=kg;have y22d:decide ((16:Int)<(m22:Int))=ns:=by rw[decide_eq_false_iff_not];omega
   have y22e:decide (16<m22)=ns:=by rw[decide_eq_false_iff_not];omega
   by_cases y34:40<m34
   .have y34z:(40:Int)<(m34:Int):=kg;have y34d:decide ((40:Int)<(m34:Int))=nr:=by rw[decide_eq_true_eq];omega
    have y34e:decide (40<m34)=nr:=by rw[decide_eq_true_eq];omega
    go_wp2_with fail;go_ret;exact⟨ns,rfl,HBn,λh=>by cases h⟩
   have y34z:¬(40:Int)<(m34:Int):=kg;have y34d:decide ((40:Int)<(m34:Int))=ns:=by rw[decide_eq_false_iff_not];omega
   have y34e:decide (40<m34)=ns:=by rw[decide_eq_false_iff_not];omega
   by_cases y33:30<m33
   .have y33z:(30:Int)<(m33:Int):=kg;have y33d:decide ((30:Int)<(m33:Int))=nr:=by rw[decide_eq_true_eq];omega
    have y33e:decide (30<m33)=nr:=by rw[decide_eq_true_eq];omega
    go_wp2_with fail;go_ret;exact⟨ns,rfl,HBn,λh=>by cases h⟩
   have y33z:¬(30:Int)<(m33:Int):=kg;have y33d:decide ((30:Int)<(m33:Int))=ns:=by rw[decide_eq_false_iff_not];omega
   have y33e:decide (30<m33)=ns:=by rw[decide_eq_false_iff_not];omega
   by_cases y2:60<s2.size
   .have y2z:(60:Int)<(s2.size:Int):=kg;have y2d:decide ((60:Int)<(s2.size:Int))=nr:=by rw[decide_eq_true_eq];omega
    have y2e:decide (60<s2.size)=nr:=by rw[decide_eq_true_eq];omega
    go_wp2_with fail;go_ret;exact⟨ns,rfl,HBn,λh=>by cases h⟩
   have y2z:¬(60:Int)<(s2.size:Int):=kg;have y2d:decide ((60:Int)<(s2.size:Int))=ns:=by rw[decide_eq_false_iff_not];omega
   have y2e:decide (60<s2.size)=ns:=by rw[decide_eq_false_iff_not];omega
   by_cases y3:60<s3.size
   .have y3z:(60:Int)<(s3.size:Int):=kg;have y3d:decide ((60:Int)<(s3.size:Int))=nr:=by rw[decide_eq_true_eq];omega
    have y3e:decide (60<s3.size)=nr:=by rw[decide_eq_true_eq];omega
    go_wp2_with fail;go_ret;exact⟨ns,rfl,HBn,λh=>by cases h⟩
   have y3z:¬(60:Int)<(s3.size:Int):=kg;have y3d:decide ((60:Int)<(s3.size:Int))=ns:=by rw[decide_eq_false_iff_not];omega
   have y3e:decide (60<s3.size)=ns:=by rw[decide_eq_false_iff_not];omega
   by_cases y20:60<s20.size
   .have y20z:(60:Int)<(s20.size:Int):=kg;have y20d:decide ((60:Int)<(s20.size:Int))=nr:=by rw[decide_eq_true_eq];omega
    have y20e:decide (60<s20.size)=nr:=by rw[decide_eq_true_eq];omega
    go_wp2_with fail;go_ret;exact⟨ns,rfl,HBn,λh=>by cases h⟩
   have y20z:¬(60:Int)<(s20.size:Int):=kg;have y20d:decide ((60:Int)<(s20.size:Int))=ns:=by rw[decide_eq_false_iff_not];omega
   have y20e:decide (60<s20.size)=ns:=by rw[decide_eq_false_iff_not];omega
   by_cases y19:60<s19.size
   .have y19z:(60:Int)<(s19.size:Int):=kg;have y19d:decide ((60:Int)<(s19.size:Int))=nr:=by rw[decide_eq_true_eq];omega
    have y19e:decide (60<s19.size)=nr:=by rw[decide_eq_true_eq];omega
    go_wp2_with fail;go_ret;exact⟨ns,rfl,HBn,λh=>by cases h⟩
   have y19z:¬(60:Int)<(s19.size:Int):=kg;have y19d:decide ((60:Int)<(s19.size:Int))=ns:=by rw[decide_eq_false_iff_not];omega
   have y19e:decide (60<s19.size)=ns:=by rw[decide_eq_false_iff_not];omega
   by_cases y18:60<s18.size
   .have y18z:(60:Int)<(s18.size:Int):=kg;have y18d:decide ((60:Int)<(s18.size:Int))=nr:=by rw[decide_eq_true_eq];omega
    have y18e:decide (60<s18.size)=nr:=by rw[decide_eq_true_eq];omega
    go_wp2_with fail;go_ret;exact⟨ns,rfl,HBn,λh=>by cases h⟩
   have y18z:¬(60:Int)<(s18.size:Int):=kg;have y18d:decide ((60:Int)<(s18.size:Int))=ns:=by rw[decide_eq_false_iff_not];omega
   have y18e:decide (60<s18.size)=ns:=by rw[decide_eq_false_iff_not];omega
   go_wp2_with fail;go_roundg (n-(j+1))
   case measure=>omega
   case rel=>
    refine⟨j+1,kg,kq,HBn,λi hi=>?_⟩;by_cases hij:i<j
    .exact HS.out i hij
    .obtain rfl:i=j:=kg;obtain⟨h1,h2,h3⟩:=HE.out;refine⟨λk A m c hk=>⟨λe=>?_,λe=>?_,λe=>?_⟩⟩
     .subst e;rw[h1] at hk;cases hk;omega
     .subst e;rw[h2] at hk;cases hk;omega
     .subst e;rw[h3] at hk;cases hk;omega
  .have xm:n=j:=kg;subst xm;by_cases y:n<=80
   .have yz:(n:Int)<=80:=kg;have yd:decide ((n:Int)<=80)=nr:=by rw[decide_eq_true_eq];omega
    have ye:decide (n<=80)=nr:=by rw[decide_eq_true_eq];omega
    go_wp2_with fail;go_ret;exact⟨nr,rfl,HB,λ_=>⟨y,HS.out⟩⟩
   .have yz:¬(n:Int)<=80:=kg;have yd:decide ((n:Int)<=80)=ns:=by rw[decide_eq_false_iff_not];omega
    have ye:decide (n<=80)=ns:=by rw[decide_eq_false_iff_not];omega
    go_wp2_with fail;go_ret;exact⟨ns,rfl,HB,λh=>by cases h⟩
end
open Go.RowKit
section
variable {P:ma}{cx:Cx}{W0:nu}{T:Nat->Prop}{w w':nu}
theorem zh{tb:yg}(hw:WT tb W0 T w)(hb:Below w.heap.size w w'):WT tb W0 T w'/\xq T w T w':=
 hw.frame hb.size (λb h=>hb.block b (bf h hw.size)) (λb h=>hb.block b (hw.lt h)) (λb es c h=>by rw[hb.block b (by rcases dw b w.heap.size with h1|h1;exact h1;rw[dq h1] at h;cases h)];exact h)
theorem zk{tb:yg}{PU:Lv}(hw:WT tb W0 T w)(hb:Below w.heap.size w w'):zg T w PU T w':=
 ⟨(zh hw hb).2,λ_ h=>.inl h,hb.size,hb.os,hb.tape,hb.output,λb h _=>hb.block b h,λ_ b h _=>.same (hb.block b h)⟩
theorem holds_one{C:zu}(hE:q8x P f)(hrs:C.rs=[.one ct])(hpost:C.post=[])(hbe:C.be=V)
  (h:∀(T:Nat->Prop) (w:nu) (args:List ny),WT cx.tb W0 T w->qqk cx.tb W0 T w w.heap.size C.ps args->(∀l∈C.pre,0<=l.eval (valOf (zt C.ps args))) ->
    Calls P f args.toArray w λe w'=>∃v,e=np v/\CV cx.tb W0 T w' w.heap.size ct v/\Below w.heap.size w w'):qm P cx W0 f C:=by
 refine⟨hE,λT w args hw hty hpre=>?_⟩;have h1:=h T w args.toList hw hty hpre;rw[Array.toArray_toList] at h1;refine h1.mono ?_;rintro e w' ⟨v,rfl,hv,hb⟩;refine⟨v,[v],T,rfl,by rw[hrs];rfl,by rw[hrs];exact⟨hv,trivial⟩,(λl hl=>by rw[hpost] at hl;cases hl),(λe he=>by rw[hbe] at he;cases he),zk hw hb,(zh hw hb).1⟩
theorem Below.of_eq{w w':nu}(h:w=w'):Below w.heap.size w w':=h ▸ aj _ _
end
open Go.RowKit
def qqc(s0 s1:ByteArray)(n2 n3 n4 n5:Int)(s6:ByteArray)(b7:Bool)(n8:Int)(v9:ny):Array ny:=#[nh s0,nh s1,U O n2,U O n3,U O n4,U O n5,nh s6,ni b7,U O n8,v9]
theorem qgv{P:ma}{k e:nz}{q:IntKind}{n:Int}(g:P.underlying t=I (.map k e))(W:nu):(rq t (I (.int q n))).run P W=.ok (.map (I W.heap.size)) (W.alloc (.map #[] 0)):=by
 have h:(rq t (I (.int q n))).run P W=(rq t V).run P W:=by
  unfold rq;simp[Sem.run_bind,run_underlying g,asInt,asIntOf]
 rw[h];exact run_makeMap t W
theorem qd3{P:ma}{w w2:nu}
  (hg:o.guard=V) (m x v:Operand) (t:nz) (qh:o.op=Op.mapUpdate t m x v) (hrun:(lu t (a.eval m) (a.eval x) (a.eval v)).run P w=.ok () w2) (hK:wpList P ops Q rest (a.put o.dst mc) w2):wpList P ops Q (o::rest) a w:=by
 refine wpList_plain hg λK' hK'=>?_
 unfold Oper.wp;simp[execOp,qh,hrun,Result.andThen];exact hK' _ _ hK
section
variable {W0:nu}{T:Nat->Prop}{w:nu}
theorem qch(s0 s1:ByteArray)(n2 n3 n4 n5:Int)(s6:ByteArray)(b7:Bool)(n8:Int)(A:Option Addr)(m c:Nat)(w:nu) :
  Calls ab 153 #[.agg (qqc s0 s1 n2 n3 n4 n5 s6 b7 n8 (ng A m c))] w λe w'=>e=np (.agg #[nh s0,nh s1,U O n3])/\Hid (Below w.heap.size w w'):=by
 unfold qqc;go_enter Tryz.func153,Tryz.ntmps153;go_wp2_with fail;refine bodyPost_ret (results_cell_row rfl _ _ (w.heap.size+1) 250 #[nh s0,nh s1,U O n3] (0,0) _ rfl (by simpa using gy (w.alloc _) _) Tryz.underlying250 rfl ki) rfl ?_;exact⟨rfl,aa (qp (qp (aj _ _) _) _)⟩
def EvAt(b off j:Nat)(W:nu)(s0 s1:ByteArray)(n2 n3 n4 n5:Int)(s6:ByteArray)(b7:Bool)(n8:Int)(B:Option Addr)(m c:Nat):Prop:=W.cell? ⟨b,off+j*10,V⟩=I (nh s0)/\W.cell? ⟨b,off+j*10+1,V⟩=I (nh s1)/\W.cell? ⟨b,off+j*10+2,V⟩=I (U O n2)/\W.cell? ⟨b,off+j*10+3,V⟩=I (U O n3)/\W.cell? ⟨b,off+j*10+4,V⟩=I (U O n4)/\W.cell? ⟨b,off+j*10+5,V⟩=I (U O n5)/\W.cell? ⟨b,off+j*10+6,V⟩=I (nh s6)/\W.cell? ⟨b,off+j*10+7,V⟩=I (ni b7)/\W.cell? ⟨b,off+j*10+8,V⟩=I (U O n8)/\W.cell? ⟨b,off+j*10+9,V⟩=I (ng B m c)
def qye(W0:nu)(T:Nat->Prop)(w:nu)(A:Option Addr)(n:Nat):Prop:=∀j,j<n->∃b off,A=I ⟨b,off,V⟩/\∃s0 s1 n2 n3 n4 n5 s6 b7 n8 B m c,qqf cx.tb W0 T w 95 (.agg (qqc s0 s1 n2 n3 n4 n5 s6 b7 n8 (ng B m c)))/\qqf cx.tb W0 T w 250 (.agg #[nh s0,nh s1,U O n3]) /\
 ∀W,Below w.heap.size w W->EvAt b off j W s0 s1 n2 n3 n4 n5 s6 b7 n8 B m c
theorem qo9(hw:WTc W0 T w)(h:CVc W0 T w w.heap.size (.sl 0 95 8192) (ng A n c)):qye W0 T w A n:=by
 intro j hj
 obtain⟨b,off,rfl⟩:∃b off,A=I ⟨b,off,V⟩:=by
  rcases h with h|⟨-,h⟩|⟨b,off,_,_,h,-⟩
  .injection h with h1 h2 h3;omega
  .cases h with
   | nil=>omega
   | emp=>omega
   | sl=>exact⟨_,_,rfl⟩
  .injection h with h1 h2 h3;exact⟨b,off,h1⟩
 have hel:=h.elem (i:=j) hj;have hsz:cx.tb.sz 95=10:=rfl;have hfl:cx.tb.flat 95=I [.str mf,.str mf,qy O,qy O,qy O,qy O,.str mf,.bool,qy O,.sl 0 156 1024]:=rfl;have hfk:cx.tb.flat 250=I [.str mf,.str mf,qy O]:=rfl;rw[hsz] at hel;refine⟨b,off,rfl,?_⟩;have ld:∀(k:Nat) (ct:CT),([.str mf,.str mf,qy O,qy O,qy O,qy O,.str mf,.bool,qy O,.sl 0 156 1024]:List CT)[k]? = I ct->∃v,w.cell? ⟨b,off+j*10+k,V⟩=I v/\CVc W0 T w 0 ct v:=λk ct hk=>hw.load hel (by rw[hfl];exact hk)
 have keep:∀(W:nu) (k:Nat) (v:ny),Below w.heap.size w W->w.cell? ⟨b,off+j*10+k,V⟩=I v->W.cell? ⟨b,off+j*10+k,V⟩=I v:=λW k v hb hc=>by
  have hlt:b<w.heap.size:=by
   rcases dw b w.heap.size with h1|h1
   .exact h1
   .simp[lg,dq h1] at hc
  unfold lg at hc ⊢;rw[hb.block b hlt];exact hc
 obtain⟨v0,c0,s0,rfl,t0⟩:=ld 0 _ rfl;obtain⟨v1,c1,s1,rfl,t1⟩:=ld 1 _ rfl;obtain⟨v2,c2,n2,rfl,t2⟩:=ld 2 _ rfl;obtain⟨v3,c3,n3,rfl,t3⟩:=ld 3 _ rfl;obtain⟨v4,c4,n4,rfl,t4⟩:=ld 4 _ rfl;obtain⟨v5,c5,n5,rfl,t5⟩:=ld 5 _ rfl;obtain⟨v6,c6,s6,rfl,t6⟩:=ld 6 _ rfl;obtain⟨v7,c7,b7,rfl⟩:=ld 7 _ rfl;obtain⟨v8,c8,n8,rfl,t8⟩:=ld 8 _ rfl;obtain⟨v9,c9,t9⟩:=ld 9 _ rfl;have t9':=CV.vt t9 rfl
 obtain⟨B,m,c',rfl⟩:∃B m c',v9=ng B m c':=by
  rcases t9'.2 with h|⟨-,h⟩|⟨_,_,_,_,h,-⟩
  .exact⟨_,_,_,h⟩
  .cases h<;>exact⟨_,_,_,rfl⟩
  .exact⟨_,_,_,h⟩
 refine⟨s0,s1,n2,n3,n4,n5,s6,b7,n8,B,m,c',.inl ⟨_,rfl,rfl,λk ct hk=>?_⟩,.inl ⟨_,rfl,rfl,λk ct hk=>?_⟩,λW hb=>⟨keep W 0 _ hb c0,keep W 1 _ hb c1,keep W 2 _ hb c2,keep W 3 _ hb c3,keep W 4 _ hb c4,keep W 5 _ hb c5,keep W 6 _ hb c6,keep W 7 _ hb c7,keep W 8 _ hb c8,keep W 9 _ hb c9⟩⟩
 .rw[hfl] at hk;have hk:([.str mf,.str mf,qy O,qy O,qy O,qy O,.str mf,.bool,qy O,.sl 0 156 1024]:List CT)[k]? = I ct:=hk
  match k,hk with
  | 0,hk=>cases hk;exact⟨_,rfl,s0,rfl,t0⟩
  | 1,hk=>cases hk;exact⟨_,rfl,s1,rfl,t1⟩
  | 2,hk=>cases hk;exact⟨_,rfl,n2,rfl,t2⟩
  | 3,hk=>cases hk;exact⟨_,rfl,n3,rfl,t3⟩
  | 4,hk=>cases hk;exact⟨_,rfl,n4,rfl,t4⟩
  | 5,hk=>cases hk;exact⟨_,rfl,n5,rfl,t5⟩
  | 6,hk=>cases hk;exact⟨_,rfl,s6,rfl,t6⟩
  | 7,hk=>cases hk;exact⟨_,rfl,b7,rfl⟩
  | 8,hk=>cases hk;exact⟨_,rfl,n8,rfl,t8⟩
  | 9,hk=>cases hk;exact⟨_,rfl,t9'⟩
  | k+10,hk=>simp at hk
 .rw[hfk] at hk;have hk:([.str mf,.str mf,qy O]:List CT)[k]? = I ct:=hk
  match k,hk with
  | 0,hk=>cases hk;exact⟨_,rfl,s0,rfl,t0⟩
  | 1,hk=>cases hk;exact⟨_,rfl,s1,rfl,t1⟩
  | 2,hk=>cases hk;exact⟨_,rfl,n3,rfl,t3⟩
  | k+3,hk=>simp at hk
theorem updEv(r:Nat){es:Array MapEntry}{w w1:nu}{key val:ny}(hk:qqf cx.tb W0 T w1 250 key)(hv:qqf cx.tb W0 T w1 95 val)(hb:w.heap[r]? = I (.map es c))(hes:qku cx.tb W0 T w1 250 95 es) :
  ∃k es' c',(lu 247 (.map (I r)) key val).run ab w=.ok () (qqg (w.drewN k) r (.map es' c'))/\qku cx.tb W0 T w1 250 95 es':=
 qn8 (ks:=[.str,.str,.int O]) (d:=td250) (fk:=[.str mf,.str mf,qy O]) cxOk ki ki ki rfl rfl kj ki hk hv hb hes
theorem qwr(hn:n<=8192)(hE:qye W0 T w A n) :
  Calls ab 152 #[ng A n c] w λe w'=>∃r es c',e=np (.map (I r))/\Hid (w'.heap[r]? = I (.map es c')/\qku cx.tb W0 T w 250 95 es)/\Hid (Below w.heap.size w w'):=by
 have HE:=aa hE;clear hE;go_enter acq,Tryz.ntmps152;have hmk:∀W:nu,(rq 247 (I (U O (n:Int)))).run ab W=.ok (.map (I W.heap.size)) (W.alloc (.map #[] 0)):=λW=>qgv (k:=250) (e:=95) ki W
 go_wp2_with fail;clear hmk;go_loopg [11] n (λgg s11 wr=>∃j:Nat,j+gg=n/\s11=U O j/\Hid (∃es c',wr.heap[w.heap.size]? = I (.map es c')/\qku cx.tb W0 T w 250 95 es)/\Hid (Below w.heap.size w wr)/\Hid (w.heap.size<wr.heap.size))
 case atStart=>exact⟨0,kg,rfl,⟨#[],0,gy w _,λe he=>by simp at he⟩,qp (aj _ _) _,by show _<_;simp⟩
 case round=>
  obtain⟨j,hj,rfl,HM,HB,HS⟩:=hrel;by_cases hjn:j<n
  .obtain⟨b,off,rfl,s0,s1,n2,n3,n4,n5,s6,b7,n8,B,m,c9,hpe,hpk,hat⟩:=HE.out j hjn;obtain⟨h0,h1,h2,h3,h4,h5,h6,h7,h8,h9⟩:=hat wr HB.out;have HPE:=aa hpe;have HPK:=aa hpk;clear hpe hpk hat;have HKB:=aa (mg.new wr 95 #[nh s0,nh s1,U O n2,U O n3,U O n4,U O n5,nh s6,ni b7,U O n8,ng B m c9]);go_wp2_with fail;refine RegC.region 4 (λkz=>match kz with|0=>I (.map (I w.heap.size))|1=>I (.agg (qqc s0 s1 n2 n3 n4 n5 s6 b7 n8 (ng B m c9)))|2=>I (.agg #[nh s0,nh s1,U O n3])|3=>I (.agg (qqc s0 s1 n2 n3 n4 n5 s6 b7 n8 (ng B m c9)))|_=>V) ki ki (qx.qqq (n:=21) ki rfl) ?_ ?_
   .intro idx o hj ho a' w' hG qh;have hj':idx=0\/idx=1\/idx=2\/idx=3:=kg;clear hj;rcases hj' with rfl|rfl|rfl|rfl
    .cases oi ho;have h3:=qx.gdt (qh 3 nd);refine qx.qc.mono (R:=λv W=>v=.map (I w.heap.size)/\W=w') ?_ (λv W h=>?_)
     .go_simp
      all_goals(try exact⟨rfl,rfl⟩)
     .obtain⟨rfl,rfl⟩:=h;exact⟨λx hx=>oi hx,aj _ _⟩
    .cases oi ho;have h5:=qx.gdt (qh 5 nd);have kc:=(HKB.out.call hG).cell;unfold qqc;refine qx.qc.mono (R:=λv W=>v=.agg (qqc s0 s1 n2 n3 n4 n5 s6 b7 n8 (ng B m c9))/\W=w') ?_ (λv W h=>?_)
     .go_simp
      all_goals(try exact⟨rfl,rfl⟩)
     .obtain⟨rfl,rfl⟩:=h;exact⟨λx hx=>oi hx,aj _ _⟩
    .cases oi ho;have qr5:a'.tmps[16]?.getD mc=.agg (qqc s0 s1 n2 n3 n4 n5 s6 b7 n8 (ng B m c9)):=gdq (qh 16 nd _ rfl);refine qx.qc.mono (R:=λv W=>v=.agg #[nh s0,nh s1,U O n3]/\Hid (Below w'.heap.size w' W)) ?_ (λv W h=>?_)
     .go_simp;refine(qch _ _ _ _ _ _ _ _ _ _ _ _ _).mono ?_;rintro e w5 ⟨rfl,hb⟩;exact⟨_,rfl,rfl,hb⟩
     .obtain⟨rfl,hb⟩:=h;exact⟨λx hx=>oi hx,hb.out⟩
    .cases oi ho;have h5:=qx.gdt (qh 5 nd);have kc:=(HKB.out.call hG).cell;unfold qqc;refine qx.qc.mono (R:=λv W=>v=.agg (qqc s0 s1 n2 n3 n4 n5 s6 b7 n8 (ng B m c9))/\W=w') ?_ (λv W h=>?_)
     .go_simp
      all_goals(try exact⟨rfl,rfl⟩)
     .obtain⟨rfl,rfl⟩:=h;exact⟨λx hx=>oi hx,aj _ _⟩
   .intro vals w' hG hv;have hv0:vals 0=.map (I w.heap.size):=hv 0 _ kg rfl;have hv1:vals 1=.agg (qqc s0 s1 n2 n3 n4 n5 s6 b7 n8 (ng B m c9)):=hv 1 _ kg rfl;have hv2:vals 2=.agg #[nh s0,nh s1,U O n3]:=hv 2 _ kg rfl;have hv3:vals 3=.agg (qqc s0 s1 n2 n3 n4 n5 s6 b7 n8 (ng B m c9)):=hv 3 _ kg rfl;simp only[qx.puts,qx.zi,ay,dc,if_true,List.drop_succ_cons,List.drop_zero,hv0,hv1,hv2,hv3];clear hv hv0 hv1 hv2 hv3;simp[ez];obtain⟨es,c',hM,hT⟩:=HM.out;have hlt:w.heap.size<wr.heap.size:=HS.out
    have hM':w'.heap[w.heap.size]? = I (.map es c'):=by
     rw[hG.block _ nc];exact(Below.heap_alloc wr _ _ hlt).trans hM
    obtain⟨kd,es2,c2,hrun,hT2⟩:=updEv w.heap.size HPK.out HPE.out hM' hT;have HB2:=aa (qd9 (o:=.map es2 c2) (r:=w.heap.size) ((qg (qp HB.out _) hG).trans (yf (aj _ _) kd)) (af _))
    have HS2:Hid (w.heap.size<(qqg (w'.drewN kd) w.heap.size (.map es2 c2)).heap.size):=by
     show _<_;have:=hG.size;simp[qqg] at this ⊢;omega
    have HM2:Hid (∃es c',(qqg (w'.drewN kd) w.heap.size (.map es2 c2)).heap[w.heap.size]? = I (.map es c')/\qku cx.tb W0 T w 250 95 es):=⟨es2,c2,ql3 (by have:=hG.size;simp at this ⊢;omega),hT2⟩;refine qd3 rfl (.tmp 15) (.tmp 17) (.tmp 18) 247 rfl hrun ?_;generalize qqg (w'.drewN kd) w.heap.size (.map es2 c2)=w3 at *;clear hrun hM' hM hT hT2;go_wp2_with fail;go_roundg (n-(j+1))
    case measure=>omega
    case rel=>exact⟨j+1,kg,kq,HM2,HB2,HS2⟩
  .have xm:n=j:=kg;subst xm;go_wp2_with fail;go_ret;obtain⟨es,c',hM,hT⟩:=HM.out;exact⟨w.heap.size,es,c',rfl,⟨hM,hT⟩,HB⟩
def qw7:zu:=⟨[.one (.sl 0 95 8192)],[],[.one (.mp 250 95)],[],.pure,V⟩
theorem qr8:qm ab cx W0 152 qw7:=by
 refine holds_one (ct:=.mp 250 95) ⟨_,acq,ki,ki⟩ rfl rfl rfl λT w args hw hty _=>?_
 obtain⟨v,rfl⟩:∃v,args=[v]:=by
  have:=uk hty;rcases args with _|⟨v,_|⟨u,l⟩⟩
  .cases this
  .exact⟨v,rfl⟩
  .simp[qw7] at this
 have hv:CVc W0 T w w.heap.size (.sl 0 95 8192) v:=hty.1
 obtain⟨A,n,c,rfl,hn⟩:∃A n c,v=ng A n c/\n<=8192:=by
  rcases hv with h|⟨-,h⟩|⟨b,off,n,c,h,h1,h2,-⟩
  .exact⟨_,_,_,h,cr _⟩
  .cases h with
   | nil=>exact⟨_,_,_,rfl,cr _⟩
   | emp a=>exact⟨_,_,_,rfl,cr _⟩
   | sl f hb hn hl=>exact⟨_,_,_,rfl,hl⟩
  .exact⟨_,n,_,h,h2⟩
 refine(qwr hn (qo9 hw hv)).mono ?_;rintro e w' ⟨r,es,c',rfl,hM,hB⟩;exact⟨_,rfl,.inr ⟨r,es,c',rfl,hM.out.1,qku.mono hM.out.2 (zh hw hB.out).2⟩,hB.out⟩
end
def P(t:Nat):PT:=match look ptl t with
 | some e=>.one (.pt 1 e)
 | none=>if agl.contains t then .agg (((tbs.flat t).getD []).map CT.thaw) else .one (((tbs.flat t).getD []).getD 0 .any)
def Rm(t:Nat):PT:=match P t with
 | .one (.sl _ e lb)=>.one (.sl 1 e lb)
 | p=>p
def z0:CT:=.int O 0 0
def qkt(k0 k1:Int):PT:=.agg [.int O k0 k1,qy O,qy O,z0,.int O 0 100,z0,.int O 0 268435456,.int O 0 2147483647,.str 0,.str 0,.sq,.tf ns,.sl 0 156 0,z0,z0,z0,z0,z0,.str 0,z0,z0,z0,z0,.sl 0 181 0,.sl 0 34 0]
def qre:PT:=.agg [.int O 0 6,qy O,.sq]
def c176:zu:=⟨[(P 95),(P 95)],[],[(Rm 3)],[],.kp,V⟩
def c193:zu:=⟨[(.one (.sl 1 95 8192)),(P 3),(P 3),(P 3),(.one (.fn [176] [] []))],[o7 1,o7 2,o7 3,⟨0,[(1,0),(-1,1),(-1,3)]⟩,⟨0,[(1,0),(-1,2),(-1,3)]⟩],[],[],.kp,V⟩
def c192:zu:=⟨[(.one (.sl 1 95 8192)),(P 3),(P 3),(P 3),(.one (.fn [176] [] []))],[o7 1,⟨-1,[(-1,1),(1,2)]⟩,⟨-1,[(-1,2),(1,3)]⟩,l9 0 3],[],[],.kp,V⟩
def qp6:zu:=⟨[(.one (.sl 1 95 8192)),(P 3),(P 3),(P 3),(.one (.fn [176] [] []))],[o7 1,⟨-1,[(-1,1),(1,2)]⟩,⟨-1,[(-1,2),(1,3)]⟩,l9 0 3,⟨3,[(1,1),(-1,3)]⟩,l9 0 2],[],[],.kp,V⟩
def qpl:zu:=⟨[(.one (.sl 1 95 8192)),(P 3),(P 3),(P 3),(.one (.fn [176] [] []))],[o7 1,⟨-1,[(-1,1),(1,2)]⟩,⟨-1,[(-1,2),(1,3)]⟩,l9 0 3,⟨6,[(1,1),(-1,3)]⟩,l9 0 2],[],[],.kp,V⟩
def qov:zu:=⟨[(.one (.sl 1 95 8192)),(P 3),(P 3),(P 3),(.one (.fn [176] [] []))],[o7 1,⟨-1,[(-1,1),(1,2)]⟩,⟨-1,[(-1,2),(1,3)]⟩,l9 0 3,⟨12,[(1,1),(-1,3)]⟩,l9 0 2],[],[],.kp,V⟩
def qpn:zu:=⟨[(.one (.sl 1 95 8192)),(P 3),(P 3),(P 3),(.one (.fn [176] [] []))],[o7 1,⟨-1,[(-1,1),(1,2)]⟩,⟨-1,[(-1,2),(1,3)]⟩,l9 0 3,⟨24,[(1,1),(-1,3)]⟩,l9 0 2],[],[],.kp,V⟩
def qo7:zu:=⟨[(.one (.sl 1 95 8192)),(P 3),(P 3),(P 3),(.one (.fn [176] [] []))],[o7 1,⟨-1,[(-1,1),(1,2)]⟩,⟨-1,[(-1,2),(1,3)]⟩,l9 0 3,⟨48,[(1,1),(-1,3)]⟩,l9 0 2],[],[],.kp,V⟩
def qp0:zu:=⟨[(.one (.sl 1 95 8192)),(P 3),(P 3),(P 3),(.one (.fn [176] [] []))],[o7 1,⟨-1,[(-1,1),(1,2)]⟩,⟨-1,[(-1,2),(1,3)]⟩,l9 0 3,⟨96,[(1,1),(-1,3)]⟩,l9 0 2],[],[],.kp,V⟩
def qon:zu:=⟨[(.one (.sl 1 95 8192)),(P 3),(P 3),(P 3),(.one (.fn [176] [] []))],[o7 1,⟨-1,[(-1,1),(1,2)]⟩,⟨-1,[(-1,2),(1,3)]⟩,l9 0 3,⟨192,[(1,1),(-1,3)]⟩,l9 0 2],[],[],.kp,V⟩
def qnt:zu:=⟨[(.one (.sl 1 95 8192)),(P 3),(P 3),(P 3),(.one (.fn [176] [] []))],[o7 1,⟨-1,[(-1,1),(1,2)]⟩,⟨-1,[(-1,2),(1,3)]⟩,l9 0 3,⟨384,[(1,1),(-1,3)]⟩,l9 0 2],[],[],.kp,V⟩
def qrk:zu:=⟨[(.one (.sl 1 95 8192)),(P 3),(P 3),(P 3),(.one (.fn [176] [] []))],[o7 1,⟨-1,[(-1,1),(1,2)]⟩,⟨-1,[(-1,2),(1,3)]⟩,l9 0 3,⟨768,[(1,1),(-1,3)]⟩,l9 0 2],[],[],.kp,V⟩
def qoc:zu:=⟨[(.one (.sl 1 95 8192)),(P 3),(P 3),(P 3),(.one (.fn [176] [] []))],[o7 1,⟨-1,[(-1,1),(1,2)]⟩,⟨-1,[(-1,2),(1,3)]⟩,l9 0 3,⟨1536,[(1,1),(-1,3)]⟩,l9 0 2],[],[],.kp,V⟩
def qlm:zu:=⟨[(.one (.sl 1 95 8192)),(P 3),(P 3),(P 3),(.one (.fn [176] [] []))],[o7 1,⟨-1,[(-1,1),(1,2)]⟩,⟨-1,[(-1,2),(1,3)]⟩,l9 0 3,⟨3072,[(1,1),(-1,3)]⟩,l9 0 2],[],[],.kp,V⟩
def qlc:zu:=⟨[(.one (.sl 1 95 8192)),(P 3),(P 3),(P 3),(.one (.fn [176] [] []))],[o7 1,⟨-1,[(-1,1),(1,2)]⟩,⟨-1,[(-1,2),(1,3)]⟩,l9 0 3,⟨6144,[(1,1),(-1,3)]⟩,l9 0 2],[],[],.kp,V⟩
def qs2:zu:=⟨[(.one (.sl 1 95 8192)),(P 3),(P 3),(P 3),(.one (.fn [176] [] []))],[o7 1,⟨-1,[(-1,1),(1,2)]⟩,⟨-1,[(-1,2),(1,3)]⟩,l9 0 3,⟨12288,[(1,1),(-1,3)]⟩,l9 0 2],[],[],.kp,V⟩
def c190:zu:=⟨[(.one (.sl 1 95 8192)),(P 3),(P 3),(P 3),(.one (.fn [176] [] []))],[o7 1,⟨-1,[(-1,1),(1,2)]⟩,⟨-1,[(-1,2),(1,3)]⟩,l9 0 3,⟨12288,[(1,1),(-1,3)]⟩,l9 0 2],[],[],.kp,V⟩
def c7:zu:=⟨[(P 3),(P 3)],[],[(Rm 51),(Rm 52)],[],.no,V⟩
def c18:zu:=⟨[(P 51),(P 9)],[],[(Rm 3)],[⟨1,[(1,14)]⟩,⟨-1,[(1,1),(-1,14)]⟩],.no,V⟩
def c78:zu:=⟨[(P 3)],[],[(Rm 3),(Rm 4)],[],.no,V⟩
def c38:zu:=⟨[(P 3),(P 3)],[],[(Rm 3),(Rm 4)],[],.no,V⟩
def c39:zu:=⟨[(P 31)],[],[(Rm 3)],[],.no,V⟩
def c40:zu:=⟨[(P 31),(P 3)],[],[(Rm 4)],[],.no,V⟩
def c29:zu:=⟨[(P 9)],[],[(Rm 4)],[⟨9223372036854775843,[(-1,0),(-9223372036854775807,1)]⟩],.pure,V⟩
def c41:zu:=⟨[(P 31),(P 3)],[],[(Rm 4)],[],.no,V⟩
def c105:zu:=⟨[(P 28)],[],[(Rm 4)],[],.no,V⟩
def c106:zu:=⟨[(P 28)],[],[(Rm 4)],[],.no,V⟩
def c127:zu:=⟨[(P 3)],[],[(Rm 3)],[],.no,V⟩
def c107:zu:=⟨[(P 28)],[],[(Rm 52)],[],.no,V⟩
def c79:zu:=⟨[(P 28)],[],[(Rm 52)],[],.no,V⟩
def c75:zu:=⟨[(P 34)],[],[(Rm 52)],[],.no,V⟩
def c80:zu:=⟨[(P 34)],[],[(Rm 52)],[],.no,V⟩
def c42:zu:=⟨[(P 31),(P 3)],[],[(Rm 52)],[],.no,V⟩
def c19:zu:=⟨[(P 31)],[],[(Rm 52)],[],.no,V⟩
def c47:zu:=⟨[(P 40)],[],[(Rm 40)],[o0 0 1,l9 0 1],.no,V⟩
def c45:zu:=⟨[(P 29)],[],[(Rm 29)],[],.no,V⟩
def c45t:zu:=⟨[(.one (.cs 1 34 128))],[],[(.one (.cs 1 34 128))],[o0 0 1,l9 0 1],.no,V⟩
def c82:zu:=⟨[(P 23)],[],[(Rm 23)],[],.no,V⟩
def c146:zu:=⟨[(P 26)],[],[(Rm 26)],[],.no,V⟩
def c128:zu:=⟨[(P 28)],[],[(Rm 28)],[],.no,V⟩
def c109:zu:=⟨[(P 31)],[],[(Rm 31)],[],.no,V⟩
def c108:zu:=⟨[(P 58),(.one (.fn [109] [] []))],[],[(Rm 58)],[o0 0 2,l9 0 2],.no,V⟩
def c81:zu:=⟨[(P 82)],[],[(Rm 82)],[],.no,V⟩
def c44:zu:=⟨[(P 84)],[],[(Rm 84)],[],.no,V⟩
def c43:zu:=⟨[(P 38),(.one (.fn [44] [] []))],[],[(Rm 38)],[o0 0 2,l9 0 2],.no,V⟩
def c46:zu:=⟨[(P 39)],[],[(Rm 39)],[o0 0 1,l9 0 1],.no,V⟩
def c49:zu:=⟨[(P 95)],[],[(Rm 95)],[],.no,V⟩
def c48:zu:=⟨[(P 43),(.one (.fn [49] [] []))],[],[(Rm 43)],[o0 0 2,l9 0 2],.no,V⟩
def c51:zu:=⟨[(P 98)],[],[(Rm 98)],[],.no,V⟩
def c50:zu:=⟨[(P 44),(.one (.fn [51] [] []))],[],[(Rm 44)],[o0 0 2,l9 0 2],.no,V⟩
def c52:zu:=⟨[(.one (.sl 1 69 8192))],[],[(.one (.sl 1 69 8192))],[o0 0 1,l9 0 1],.no,V⟩
def c85:zu:=⟨[(P 170)],[],[(Rm 170)],[],.no,V⟩
def c84:zu:=⟨[(P 174)],[],[(Rm 174)],[],.no,V⟩
def c83:zu:=⟨[(P 131),(.one (.fn [84] [] []))],[],[(Rm 131)],[o0 0 2,l9 0 2],.no,V⟩
def c54:zu:=⟨[(P 133)],[],[(Rm 133)],[],.no,V⟩
def c53:zu:=⟨[(P 46),(.one (.fn [54] [] []))],[],[(Rm 46)],[o0 0 2,l9 0 2],.no,V⟩
def c57:zu:=⟨[(P 136)],[],[(Rm 136)],[],.no,V⟩
def c56:zu:=⟨[(P 138)],[],[(Rm 138)],[],.no,V⟩
def c55:zu:=⟨[(P 47),(.one (.fn [56] [] []))],[],[(Rm 47)],[o0 0 2,l9 0 2],.no,V⟩
def c20:zu:=⟨[(P 51)],[],[(Rm 51)],[o0 1 14,l9 1 14],.no,V⟩
def c21:zu:=⟨[(P 143)],[],[(Rm 85)],[],.pure,V⟩
def c58:zu:=⟨[(P 31)],[],[(Rm 4)],[],.no,V⟩
def c86:zu:=⟨[(P 23)],[],[(Rm 23)],[],.kp,V⟩
def c87:zu:=⟨[(P 26)],[],[(Rm 26)],[],.no,V⟩
def c88:zu:=⟨[(P 29)],[],[(Rm 29)],[],.no,V⟩
def c60:zu:=⟨[(P 58)],[],[(Rm 58)],[o0 0 1,l9 0 1],.no,V⟩
def c59:zu:=⟨[(P 82)],[],[(Rm 82)],[o0 3 11,l9 3 11,o0 4 12,l9 4 12,o0 7 15,l9 7 15],.no,V⟩
def c90:zu:=⟨[(P 31),(.one (.pt 1 31))],[],[(Rm 4)],[],.no,V⟩
def c110:zu:=⟨[(P 58),(.one (.fn [90] [] [(1,31)]))],[],[(Rm 3)],[],.no,V⟩
def c89:zu:=⟨[(P 58),(.one (.fn [90] [] [(1,31)]))],[],[(Rm 4)],[],.no,V⟩
def c61:zu:=⟨[(P 31),(P 58)],[],[(Rm 4)],[],.no,V⟩
def c22:zu:=⟨[(P 82),(P 31)],[],[(Rm 82),(Rm 58),(Rm 58),(Rm 58)],[],.no,V⟩
def q4v:zu:=⟨[(P 143),(P 31),(P 31)],[],[],[],.no,V⟩
def quf:zu:=⟨[(P 31),(.one (.int O 1 25))],[],[(qkt 3 3)],[o0 1 27,l9 1 27,o0 2 28,l9 2 28,o0 25 30,l9 25 30,⟨0,[(-1,32)]⟩,⟨0,[(-1,33)]⟩,⟨0,[(-1,36)]⟩],.pure,V⟩
def c111:zu:=⟨[(P 31),(.one (.int O 0 100))],[],[(qkt 2 2)],[o0 1 27,l9 1 27,o0 2 28,l9 2 28,o0 25 30,l9 25 30,⟨0,[(-1,32)]⟩,⟨0,[(-1,33)]⟩,⟨0,[(-1,36)]⟩],.pure,V⟩
def quk:zu:=⟨[(.one (.pt 1 80)),(P 31)],[],[(qkt 2 3)],[o0 2 27,l9 2 27,o0 3 28,l9 3 28,⟨250,[(-75,26),(-1,30)]⟩,⟨2,[(-1,26),(1,30)]⟩,⟨805306368,[(-268435456,26),(-1,32)]⟩,⟨6442450941,[(-2147483647,26),(-1,33)]⟩,⟨27670116110564327421,[(-9223372036854775807,26),(-1,36)]⟩],.kp,V⟩
def c92:zu:=⟨[(.one (.pt 1 80)),(P 31)],[],[(qkt 2 3)],[o0 2 27,l9 2 27,o0 3 28,l9 3 28,⟨250,[(-75,26),(-1,30)]⟩,⟨2,[(-1,26),(1,30)]⟩,⟨805306368,[(-268435456,26),(-1,32)]⟩,⟨6442450941,[(-2147483647,26),(-1,33)]⟩,⟨27670116110564327421,[(-9223372036854775807,26),(-1,36)]⟩],.kp,V⟩
def c112:zu:=⟨[(P 3),(P 3),(P 3)],[],[(Rm 4)],[],.pure,I (.and (.ge ⟨0,[(1,0),(-1,1)]⟩) (.ge ⟨0,[(-1,0),(1,2)]⟩))⟩
def c93:zu:=⟨[(.one (.pt 1 80)),(P 31)],[],[(qkt 2 3)],[o0 2 27,l9 2 27,o0 3 28,l9 3 28,⟨250,[(-75,26),(-1,30)]⟩,⟨2,[(-1,26),(1,30)]⟩,⟨805306368,[(-268435456,26),(-1,32)]⟩,⟨6442450941,[(-2147483647,26),(-1,33)]⟩,⟨27670116110564327421,[(-9223372036854775807,26),(-1,36)]⟩],.kp,V⟩
def c126:zu:=⟨[(P 5)],[],[(Rm 5)],[],.pure,V⟩
def c104:zu:=⟨[(P 9),(P 9)],[],[(Rm 4)],[],.pure,V⟩
def qto:zu:=⟨[(P 29),(P 9)],[],[(Rm 3)],[⟨1,[(1,2)]⟩,⟨-1,[(1,0),(-1,2)]⟩],.pure,V⟩
def c147:zu:=⟨[(P 219),(.one (.cs 1 34 128)),(P 3)],[],[qre,(P 4)],[],.pure,V⟩
def c169:zu:=⟨[(P 9),(.one (.pt 1 219))],[],[(Rm 4)],[],.pure,V⟩
def c182:zu:=⟨[(P 202),(.one (.fn [169] [] [(1,219)]))],[],[(Rm 3)],[],.pure,V⟩
def c168:zu:=⟨[(P 202),(.one (.fn [169] [] [(1,219)]))],[],[(Rm 4)],[],.pure,V⟩
def c148:zu:=⟨[(P 219)],[],[(Rm 4)],[],.pure,V⟩
def c130:zu:=⟨[(P 219)],[],[qre,(P 4)],[],.pure,V⟩
def c131:zu:=⟨[(P 219)],[],[qre,(P 4)],[],.pure,V⟩
def c129:zu:=⟨[(P 241)],[],[qre],[],.pure,V⟩
def c113:zu:=⟨[(.one (.cs 1 34 128)),(P 9),(P 202),(P 3)],[],[qre],[],.pure,V⟩
def c114:zu:=⟨[(P 143),(P 205)],[],[(Rm 202)],[],.pure,V⟩
def c94:zu:=⟨[(.one (.pt 1 80)),(P 31)],[],[(qkt 2 3)],[o0 2 27,l9 2 27,o0 3 28,l9 3 28,⟨250,[(-75,26),(-1,30)]⟩,⟨2,[(-1,26),(1,30)]⟩,⟨805306368,[(-268435456,26),(-1,32)]⟩,⟨6442450941,[(-2147483647,26),(-1,33)]⟩,⟨27670116110564327421,[(-9223372036854775807,26),(-1,36)]⟩],.kp,V⟩
def c132:zu:=⟨[(P 28)],[],[(Rm 4)],[],.pure,V⟩
def c149:zu:=⟨[(P 95)],[],[(.one (.int O 0 25))],[],.pure,V⟩
def c150:zu:=⟨[(P 95)],[],[(.one (.int O 0 25))],[],.pure,V⟩
def c133:zu:=⟨[(P 95)],[],[(.one (.int O 0 25))],[],.pure,V⟩
def c115:zu:=⟨[(P 9),(P 31)],[],[(P 95),(.one (.int O 0 25))],[],.kp,V⟩
def c183:zu:=⟨[(P 40)],[],[(Rm 3)],[],.pure,V⟩
def c184:zu:=⟨[(P 9),(P 9)],[],[(.one (.int O (-1) 1))],[],.pure,V⟩
def c172:zu:=⟨[(P 250),(P 250)],[],[(Rm 3)],[],.pure,V⟩
def c151:zu:=⟨[(P 43),(P 9),(P 9)],[],[(Rm 3),(Rm 3)],[o7 3,o0 3 4,l9 0 4],.pure,V⟩
def c152:zu:=⟨[(P 43)],[],[(.one (.mp 250 95))],[],.pure,V⟩
def c153:zu:=⟨[(P 95)],[],[(Rm 250)],[],.pure,V⟩
def c173:zu:=⟨[(P 23),(P 23)],[],[(Rm 4)],[],.kp,V⟩
def c154:zu:=⟨[(P 95),(P 95)],[],[(Rm 4)],[],.kp,V⟩
def c155:zu:=⟨[(P 95),(P 95)],[],[(Rm 4)],[],.pure,V⟩
def c156:zu:=⟨[(.one (.sl 1 95 8192)),(.one (.sl 0 95 8192))],[⟨8192,[(-1,0),(-1,1)]⟩],[(.one (.sl 1 95 8192))],[⟨0,[(1,0),(1,1),(-1,2)]⟩,⟨0,[(-1,0),(-1,1),(1,2)]⟩],.kp,V⟩
def qly:zu:=⟨[(.one (.sl 1 95 8192)),(P 95)],[],[(.one (.sl 1 95 8192)),(.one (.int O 0 25))],[],.kp,V⟩
def c174:zu:=⟨[(P 43)],[],[(Rm 43)],[l9 0 1,o0 0 1],.kp,V⟩
def c189:zu:=⟨[(.one (.sl 1 95 8192)),(P 3),(P 3),(.one (.fn [176] [] []))],[o7 1,o0 1 2,l9 0 2],[],[],.kp,V⟩
def c185:zu:=⟨[(.one (.sl 1 95 8192)),(P 3),(.one (.fn [176] [] []))],[o7 1,l9 0 1],[],[],.kp,V⟩
def c175:zu:=⟨[(.one (.sl 1 95 8192)),(.one (.fn [176] [] []))],[],[],[],.kp,V⟩
def c157:zu:=⟨[(.one (.sl 0 95 8192))],[⟨-1,[(1,0)]⟩],[(.one (.sl 1 95 8192)),(P 52)],[l9 0 1,⟨-1,[(1,1),(1,2)]⟩],.kp,V⟩
def c158:zu:=⟨[(P 43)],[],[(Rm 4)],[],.kp,V⟩
def c186:zu:=⟨[(P 23)],[],[(Rm 4)],[],.pure,V⟩
def c177:zu:=⟨[(P 23),(P 23)],[],[(.one (.sl 1 156 1024)),(P 52)],[],.kp,V⟩
def c159:zu:=⟨[(P 43)],[],[(.one (.sl 1 156 1024)),(P 52)],[],.kp,V⟩
def c178:zu:=⟨[(P 23),(P 3)],[],[(Rm 52)],[],.pure,V⟩
def c180:zu:=⟨[(P 3),(P 3),(P 3)],[],[(Rm 3),(Rm 52)],[],.pure,V⟩
def c160:zu:=⟨[(P 23),(P 3)],[],[(Rm 3),(Rm 52)],[],.pure,V⟩
def qlq:zu:=⟨[(P 43),(P 3)],[],[(Rm 98),(Rm 52)],[],.kp,V⟩
def qri:zu:=⟨[(P 43),(P 9),(P 9)],[],[(Rm 43)],[],.kp,V⟩
def c116:zu:=⟨[(P 143),(P 95)],[],[(.one (.int O 0 25))],[],.kp,V⟩
def c95:zu:=⟨[(.one (.pt 1 80)),(P 31)],[],[(qkt 2 3)],[o0 2 27,l9 2 27,o0 3 28,l9 3 28,⟨250,[(-75,26),(-1,30)]⟩,⟨2,[(-1,26),(1,30)]⟩,⟨805306368,[(-268435456,26),(-1,32)]⟩,⟨6442450941,[(-2147483647,26),(-1,33)]⟩,⟨27670116110564327421,[(-9223372036854775807,26),(-1,36)]⟩],.kp,V⟩
def c117:zu:=⟨[(Rm 183),(P 3)],[⟨2147483648,[(-1,0)]⟩],[(Rm 183)],[⟨10,[(1,0),(-1,2)]⟩],.kp,V⟩
def c98:zu:=⟨[(P 189)],[],[(Rm 183),(Rm 52)],[⟨262144,[(-1,1)]⟩],.kp,V⟩
def c99:zu:=⟨[(P 3)],[],[(Rm 183)],[⟨10,[(-1,1)]⟩],.kp,V⟩
def c161:zu:=⟨[(P 67),(P 3)],[],[(Rm 67)],[],.kp,V⟩
def c139:zu:=⟨[(P 258),(P 3)],[],[],[],.kp,V⟩
def c137:zu:=⟨[(P 258),(P 67)],[],[],[],.kp,V⟩
def c138:zu:=⟨[(P 183)],[],[(Rm 67)],[],.kp,V⟩
def c118:zu:=⟨[(P 67),(P 183)],[],[(Rm 67)],[],.kp,V⟩
def c100:zu:=⟨[(P 67),(P 183)],[],[(Rm 67)],[],.kp,V⟩
def c70:zu:=⟨[(P 67),(P 69)],[⟨1000,[(-1,3)]⟩,⟨1000,[(-1,4)]⟩,⟨1000,[(-1,5)]⟩],[(Rm 67)],[],.kp,V⟩
def c71:zu:=⟨[(P 45)],[],[(Rm 67)],[],.kp,V⟩
def c31:zu:=⟨[(.one (.sl 1 69 8192)),(P 3),(P 9),(P 9),(P 9)],[],[(.one (.sl 1 69 8192)),(P 52)],[],.kp,V⟩
def c32:zu:=⟨[(P 3)],[],[(.one (.str 21))],[],.pure,V⟩
def c96:zu:=⟨[(.one (.pt 1 80)),(P 31)],[],[(qkt 2 3)],[o0 2 27,l9 2 27,o0 3 28,l9 3 28,⟨250,[(-75,26),(-1,30)]⟩,⟨2,[(-1,26),(1,30)]⟩,⟨805306368,[(-268435456,26),(-1,32)]⟩,⟨6442450941,[(-2147483647,26),(-1,33)]⟩,⟨27670116110564327421,[(-9223372036854775807,26),(-1,36)]⟩],.kp,V⟩
def c97:zu:=⟨[(.one (.pt 1 80)),(P 31)],[],[(qkt 2 3)],[o0 2 27,l9 2 27,o0 3 28,l9 3 28,⟨250,[(-75,26),(-1,30)]⟩,⟨2,[(-1,26),(1,30)]⟩,⟨805306368,[(-268435456,26),(-1,32)]⟩,⟨6442450941,[(-2147483647,26),(-1,33)]⟩,⟨27670116110564327421,[(-9223372036854775807,26),(-1,36)]⟩],.kp,V⟩
def c63:zu:=⟨[(P 143),(P 3)],[],[(.one (.fn [91,92,93,94,95,96,97] [(1,80)] []))],[],.pure,V⟩
def c64:zu:=⟨[(P 82),(P 31)],[],[(Rm 82),(Rm 52)],[],.no,V⟩
def q3w:zu:=⟨[(P 143),(P 31)],[],[(Rm 31)],[],.no,V⟩
def c9:zu:=⟨[(P 51),(P 9),(P 31)],[],[(Rm 51),(Rm 58)],[],.no,V⟩
def c74:zu:=⟨[(P 3),(P 3)],[],[(Rm 4)],[],.no,V⟩
def c34:zu:=⟨[(P 3),(P 3),(P 3)],[],[(Rm 82),(Rm 52)],[],.no,V⟩
def c14:zu:=⟨[(P 51),(P 9),(P 3)],[],[(Rm 51),(Rm 52)],[],.no,V⟩
def c30:zu:=⟨[(P 82),(P 31)],[],[(Rm 82),(Rm 3),(Rm 52)],[],.no,V⟩
def qcc:zu:=⟨[(P 51),(P 9),(P 9),(P 31)],[],[(Rm 51),(Rm 52)],[],.no,V⟩
def c35:zu:=⟨[(P 82),(P 3)],[],[(Rm 4)],[],.no,V⟩
def c36:zu:=⟨[(P 82),(P 3)],[],[(Rm 82),(Rm 58),(Rm 58)],[],.no,V⟩
def c15:zu:=⟨[(P 51),(P 3)],[],[(Rm 51),(Rm 55)],[],.no,V⟩
def c77:zu:=⟨[(P 9)],[],[(Rm 9)],[],.pure,V⟩
def c37:zu:=⟨[(.one (.cs 1 34 128)),(P 34)],[],[(.one (.cs 1 34 128)),(P 52)],[],.pure,V⟩
def c16:zu:=⟨[(P 51),(P 34)],[],[(Rm 51),(Rm 52)],[],.no,V⟩
def c17:zu:=⟨[(P 51),(P 36)],[],[(Rm 31)],[],.no,V⟩
def c8:zu:=⟨[(P 51),(P 36)],[],[(Rm 51),(Rm 55),(Rm 52)],[],.no,V⟩
end Sy
end Go.Proofs.YtmadfhgiaonnlaaGreatDoor
