import Derived.Test.YtmadfhgiaonnlaaGreatDoorPk14
open Array renaming range->la,length_toList->aw,toList_map->ig,getElem?_eq_getElem->ak,mem_append->sd,mem_toList_iff->pz,toList_inj->gq,eq_empty_of_size_eq_zero->ec,toList->adi,getD_eq_getD_getElem?->au,getElem?_setIfInBounds->bt
open Bool renaming or_true->fj,and_eq_true->ag,or_eq_true->cj
open Go renaming run_underlying->bg,cell_of_row->dx,grownCap_ge->mq,grownCap_le_maxLen->ib,growslice_fits->rh,run_append_grow->oy,run_equal_slice_nil->qe
open Go.Builtin renaming zeroCells->gw
open Go.Call renaming operands->acg
open Go.Instr renaming buildSlice->po,fill->iv,sliceAt->lh,index->fm,indexAt->oh,sureAddr->mo
open Go.Op renaming operands->jn
open Go.Region renaming wanted->ee,binds->dy
open Go.Result renaming andThen_ok->aq
open Go.Sem renaming run_bind->ai,run_pure->eb
open List renaming range->ay,ext_getElem?->ju,getElem?_eq_some_iff->al,getD_eq_getElem?_getD->bn,length_take->fb,length_drop->oc,getElem?_take->fc,getElem?_drop->ia,size_toArray->ei,getElem?_eq_getElem->ah,getElem?_eq_none->dn,eq_nil_of_length_eq_zero->pd,mem_map->fi,all_eq_true->ao,length_append->gk,map_cons->fg,mem_toArray->abh,map_append->ow,getElem?_cons_zero->db,getElem?_cons_succ->fq,mem_range->bj
open Nat renaming add_mul->eh,mul_le_mul_right->dd,zero_mul->qv,zero_add->bu,le_refl->af,le_trans->cy,zero_testBit->xl,testBit_and->abr,lt_or_ge->dw,testBit_lt_two_pow->yn,lt_of_lt_of_le->bf,pow_le_pow_right->zj,le_zero->aaz
open Option renaming map_some->dv
open Option.some renaming injEq->bc
open Bool renaming false->ns,true->nr
open Go renaming FuncId->mb,Program->ma,TypeId->nz,Value->ny,World->nu,maxLen->mf,undef->mc
open Go.Ending renaming returned->np
open Go.IntKind renaming i64->O
open Go.Value renaming bool->ni,slice->ng
open Option renaming none->V,some->I
set_option linter.unusedVariables false
set_option linter.unusedSimpArgs false
namespace Go.Proofs.YtmadfhgiaonnlaaGreatDoor
namespace Ev
open Go.RowKit
open Sy (Cx TD qzu yj KD kd yx xe vk qx2 jg qya uz jh xk ve qjc qqd)
variable {l:List SV}{n:Nat}{s:SV}{S1:St}{d:TD}{e t:nz}{v z:ny}{x:XV}
section
variable {P:ma}{cx:Cx}{M:Nat->Prop}{σ:Nat->Nat}{S S':St}{env:jy}{a:Act}{w w':nu}{o:Op}
def cycX(d:TD)(n:Nat):List SV:=(ay n).map λi=>.con (d.zero.getD (i%d.zero.length) mc)
theorem qtv(hz:z.cells.toList=d.zero)(hn:n=0\/0<d.zero.length)(J:Nat->Nat):((la n).map (λx=>z.cells[x%z.cells.size]!)).toList=qw J (cycX d n):=by
 have hzs:z.cells.size=d.zero.length:=by rw[<-aw,hz]
 refine ju (λj=>?_);rw[qyl];simp only[ig,Array.toList_range,cycX,List.getElem?_map];cases hj:(ay n)[j]? with
 | none=>rfl
 | some m=>
   have hjn:j<n:=by have:=(al.1 hj).1;simpa using this
   simp only[dv,SV.den];congr 1;have hlt:m%z.cells.size<z.cells.size:=Nat.mod_lt _ kg;rw[getElem!_pos z.cells _ hlt,<-hz,aw,bn,Array.getElem?_toList,ak hlt];rfl
theorem qut(hcx:yj P cx)(h:kd cx t=.sl e):P.underlying t=I (.slice e):=by
 obtain⟨u',g1,g2⟩:=xe hcx h kq;obtain⟨e',rfl⟩:∃e',u'=.slice e':=by cases u'<;>simp_all [KD.of]
 simp only[KD.of,KD.sl.injEq] at g2;subst g2;exact g1
def qiq(cx:Cx)(S:St)(t:nz)(n c:ny):Option (XV×St):=match kd cx t,n,c with
 | .sl e,.int _ n,.int _ c=>match yx cx e with
   | some d=>if 0<=n/\n<=c/\d.bytes*c<=16777216/\c<=16777216/\0<d.zero.length then I (.v (.one (.sl S.nx 0 n.toNat V c.toNat)),qy2 S ⟨e,cycX d (c.toNat*d.size),V⟩ V) else V
   | none=>V
 | _,_,_=>V
theorem q49(hcx:yj P cx)(H:qqu M σ S w){n c:ny}(h:qiq cx S t n c=I (x,S')):∃v w',(Instr.makeSlice t n c).run P w=.ok v w'/\qxb M σ S w x S' v w':=by
 unfold qiq at h;split at h
 .rename_i e k1 n' k2 c' hk;split at h
  .rename_i d hd;split at h
   .rename_i hc;cases h;obtain⟨i,hi1,hi2,hi3,z,hz1,hz2⟩:=jg (hcx _ d hd);have hrun:=run_make (P:=P) w t e i z (qut hcx hk) hi1 hz1 k1 k2 n' c' hc.1 hc.2.1 (by rw[hi3];omega) kg;refine⟨_,_,hrun,qa7 H (λJ hτ=>?_) (λJ _ h2=>by simp[XV.den,TV.den,SV.den,h2])⟩;rw[hi2];exact qtv hz2 (.inr hc.2.2.2.2) J
   .cases h
  .cases h
 .cases h
def qck(cx:Cx)(S:St)(env:jy)(t:nz)(n:Nat)(parts:List (Nat×Operand)):Option (XV×St):=match kd cx t,qec env parts with
 | .sl e,I ps=>match yx cx e with
   | some d=>if n*d.size<=16777216/\0<d.zero.length then match qa9 (λi=>I (i*d.size,d.size)) (cycX d (n*d.size)) ps with
      | some ss=>I (.v (.one (.sl S.nx 0 n V n)),qy2 S ⟨e,ss,V⟩ V)
      | none=>V
     else V
   | none=>V
 | _,_=>V
theorem qww(hcx:yj P cx)(H:qqu M σ S w){parts:Array (Nat×Operand)}(h:qck cx S env t n parts.toList=I (x,S'))
  (he:∀J,yw S.nx σ J->∀p∈parts.toList,∀y,qkp env p.2=I y->a.eval p.2=y.den J):∃v w',(po t n (parts.map λ(i,x)=>(i,a.eval x))).run P w=.ok v w'/\qxb M σ S w x S' v w':=by
 unfold qck at h;split at h
 .rename_i e ps hk hps;split at h
  .rename_i d hd;split at h
   .rename_i hcc;obtain⟨hlim,z3⟩:=hcc;split at h
    .rename_i ss hss;cases h;have g1:=qut hcx hk;obtain⟨i,hi1,hi2,hi3,z,hz1,hz2⟩:=jg (hcx _ d hd)
     have hq:∀J,yw S.nx σ J->∃q,iv (λi=>I (i*d.size,d.size)) ((la (n*d.size)).map (λx=>z.cells[x%z.cells.size]!)) (parts.map λ(i,x)=>(i,a.eval x)).toList=I q/\q.toList=qw J ss:=λJ hτ=>by
      obtain⟨p1,p2⟩:=qbz (a:=a) (σ:=J) _ _ (he J hτ) hps;obtain⟨q,hq1,hq2⟩:=qg5 J ps _ _ ss p2 hss (qtv hz2 (.inr z3) J);refine⟨q,?_,hq2⟩;rw[ig];have:(parts.toList.map λ(i,x)=>(i,a.eval x))=parts.toList.map λp=>(p.1,a.eval p.2):=rfl
      rw[this,p1];exact hq1
     obtain⟨q,qfw,hq2⟩:=hq σ (yw.refl _ _)
     have hrun:(po t n (parts.map λ(i,x)=>(i,a.eval x))).run P w=.ok (ng (I ⟨w.heap.size,0,V⟩) n n) (w.alloc (.cells q e)):=by
      have qw8:¬n*d.size > 2^24:=kg;unfold po;rw[ai,bg g1 w];simp only[aq];rw[ai,vk (hcx _ d hd) w];simp only[aq,qw8,if_false]
      have qev:∀c,c=(la (n*d.size)).map (λx=>z.cells[x%z.cells.size]!)->iv (λi=>I (i*d.size,d.size)) c (List.map (λx=>(x.fst,a.eval x.snd)) parts.toList)=I q:=by
       intro c hc;rw[hc];rw[ig] at qfw;exact qfw
      by_cases h00:n*d.size=0
      .have hc0:(Array.map (λx=>(default:ny)) (la 0))=(la (n*d.size)).map (λx=>z.cells[x%z.cells.size]!):=by
        rw[h00];simp[Array.range_zero']
       simp[h00,qev _ hc0,newRow]
      .simp[h00,zeroValue,typeInfo,hi1,hz1,qev _ rfl,newRow]
     refine⟨_,_,hrun,qa7 H (λJ hτ=>?_) (λJ _ h2=>by simp[XV.den,TV.den,SV.den,h2])⟩;obtain⟨q',h1,h2⟩:=hq J hτ;rw[qfw] at h1;cases h1;exact h2
    .cases h
   .cases h
  .cases h
 .cases h
def srcX(S:St)(sz:Nat):SV->Option (Nat×List SV×St)
 | .con (.slice V 0 0)=>I (0,[],S)
 | .sl g off n _ _=>match S.get g with
   | some B=>if off+n*sz<=B.cs.length then I (n,(B.cs.drop off).take (n*sz),S.touch g) else V
   | none=>V
 | _=>V
theorem qs1{sz:Nat}(h:srcX S sz s=I (n,l,S1)):qqv S S1/\S1.nx=S.nx/\(∀g,S1.get g=S.get g)/\l.length=n*sz /\
  ∀(J:Nat->Nat) (w:nu),(∀g,S1.ac.testBit g=nr->M g)->qfq M J S w->(n=0->s.den J=s.den J)/\(n=0/\s.den J=ng V 0 0\/∃b m,s.den J=ng (I b) n m/\b.spot=V/\∀j v,(qw J l)[j]? = I v->w.cell? (b.add j)=I v):=by
 unfold srcX at h;split at h
 .cases h;exact⟨qqv.refl _,rfl,λ_=>rfl,kq,λJ w _ _=>⟨λ_=>rfl,.inl ⟨rfl,rfl⟩⟩⟩
 .rename_i g off n' k c;split at h
  .rename_i B hB;split at h
   .rename_i hle;cases h;refine⟨qvo S g,rfl,λ_=>rfl,by rw[fb,oc];omega,λJ w hm hs=>⟨λ_=>rfl,.inr ⟨⟨J g,off,V⟩,(match k with|none=>c|some k=>J k-c),by cases k<;>rfl,rfl,λj v hj=>?_⟩⟩⟩;obtain⟨cs,h1,-,-,h4⟩:=hs.blk g B (hm g (by show(S.ac ||| 2^g).testBit g=nr;rw[jm,qq9,fj])) hB;rw[uz,dx w (J g) (off+j) cs B.t (0,0) h1];rw[qyl,fc] at hj;split at hj
    .rw[ia] at hj;cases hq:B.cs[off+j]? with
     | none=>rw[hq] at hj;cases hj
     | some s'=>rw[hq] at hj;cases hj;exact h4 _ _ hq
    .cases hj
   .cases h
  .cases h
 .cases h
def qr1(cx:Cx)(S:St)(t:nz)(s x:SV):Option (XV×St):=match kd cx t with
 | .sl e=>match yx cx e with
   | some d=>match srcX S d.size x with
     | some (n2,src,S1)=>if d.bytes<=32768/\0<d.size/\d.zero.length=d.size/\n2<=1048576/\src.all qjl=nr then match s with
       | .con (.slice V 0 0)=>if n2=0 then I (.v (.one (.con (.slice V 0 0))),S1) else
          I (.v (.one (.sl S1.nx 0 n2 (I (S1.nx+1)) 0)),qy2 S1 ⟨e,src,I (S1.nx+1,d.size)⟩ V)
       | .sl g off n V c=>match S1.get g with
         | some B=>if n+n2<=c then(if off+n*d.size+src.length<=B.cs.length then I (.v (.one (.sl g off (n+n2) V c)),S1.set g { B with cs:=quu B.cs (off+n*d.size) src }) else V)
           else if off+n*d.size<=B.cs.length/\n<=1048576/\0<n2 then I (.v (.one (.sl S1.nx 0 (n+n2) (I (S1.nx+1)) 0)),qy2 (S1.touch g) ⟨e,(B.cs.drop off).take (n*d.size)++src,I (S1.nx+1,d.size)⟩ V) else V
         | none=>V
       | .sl g 0 n (I k) 0=>match S1.get g with
         | some B=>match B.cap with
           | some (k',sz')=>if k'=k/\sz'=d.size/\B.t=e/\n*d.size<=B.cs.length/\n<=1048576/\0<n2 then I (.v (.one (.sl S1.nx 0 (n+n2) (I (S1.nx+1)) 0)),qy2 S1 ⟨e,B.cs.take (n*d.size)++src,I (S1.nx+1,d.size)⟩ (I g)) else V
           | none=>V
         | none=>V
       | _=>V
     else V
     | none=>V
   | none=>V
 | _=>V
theorem qxb.touch(hn:S1.nx=S.nx)(hg:∀g,S1.get g=S.get g)(h:qxb M σ S1 w x S' v w'):qxb M σ S w x S' v w':=by
 obtain⟨σ1,h1,h2,h3,h4⟩:=h;refine⟨σ1,by rw[<-hn];exact h1,h2,h3,⟨h4.size,h4.os,h4.tape,h4.output,λb hb hk=>h4.keep b hb (λg B q1 q2 q3=>hk g B (by rw[<-hn];exact q1) q2 (by rw[<-hg];exact q3)),λg B hg1 hB=>?_⟩⟩;rcases h4.new g B (by rw[hn];exact hg1) hB with h|⟨g0,B0,q1,q2,q3,q4⟩
 .exact .inl h
 .exact .inr ⟨g0,B0,by rw[<-hn];exact q1,by rw[<-hg];exact q2,q3,q4⟩
theorem qqu.touch(hn:S1.nx=S.nx)(hg:∀g,S1.get g=S.get g)(h:qqu M σ S w):qqu M σ S1 w:=
 ⟨λJ hτ=>(h.sat J (by rw[<-hn];exact hτ)).congr hg,λg B hB=>by rw[hn];exact h.lt g B (by rw[<-hg];exact hB),λg hg'=>h.new g (by rw[<-hn];exact hg')⟩
theorem qee(hz:z.cells.toList=d.zero)(hsz:d.zero.length=d.size)(hl:l.length=n*d.size){vs:List ny}{c:Nat}(hc:n<=c)(hcm:c<=mf){J:Nat->Nat}(hv:vs=qw J l){k:Nat}(hk:J k=c) :
  qyj J ⟨e,l,I (k,d.size)⟩ w.heap.size (w.drew.alloc (.cells (vs.toArray++gw z.cells (c-n)) e)):=by
 have hzs:z.cells.size=d.size:=by rw[<-aw,hz,hsz]
 have hs:(vs.toArray++gw z.cells (c-n)).size=c*d.size:=by
  rw[Array.size_append,size_zeroCells,hzs,ei,hv,xw,hl,<-eh];congr 1;omega
 refine⟨_,heap_alloc_new w.drew _,?_,⟨by rw[hs,hk],by rw[hk];exact hcm⟩,λi s hi=>?_⟩
 .show l.length<=_;rw[hs,hl];exact dd _ hc
 .have hlt:i<l.length:=(al.1 hi).1;rw[Array.getElem?_append_left (by rw[ei,hv,xw];exact hlt)];simp only[List.getElem?_toArray,hv,qyl];rw[show l[i]? = I s from hi];rfl
theorem q7h(hcx:yj P cx)(H:qqu M σ S w){ty:nz}{x:SV}{y:XV}(h:qr1 cx S t s x=I (y,S'))(hm:∀g,S'.ac.testBit g=nr->M g){u:ny}(hu:∀J,yw S.nx σ J->u=s.den J)(hv:∀J,yw S.nx σ J->v=x.den J) :
  ∃r w',(Builtin.append_ #[t,t] ty #[u,v]).run P w=.ok r w'/\qxb M σ S w y S' r w':=by
 unfold qr1 at h;split at h
 .rename_i e hk;split at h
  .rename_i d hd;split at h
   .rename_i n2 src S1 hsrc;split at h
    .rename_i hc;obtain⟨hby,hsz0,hz0,hn2,hone⟩:=hc;have g1:=qut hcx hk;obtain⟨i,hi1,hi2,hi3,z,hz1,hz2⟩:=jg (hcx _ d hd);obtain⟨q1,q2,q3,q4,q5⟩:=qs1 (M:=M) hsrc;have hs0:=H.sat σ (yw.refl _ _);have H1:qqu M σ S1 w:=H.touch q2 q3;have hml:mf=9223372036854775807:=kj
     have hbytes:∀m,m<=2097152->m*i.bytes<=140737488355328:=λm hm=>by
      have:=Nat.mul_le_mul hm (show i.bytes<=32768 by omega);omega
     obtain⟨news,hnews0⟩:∃news,news=qw σ src:=⟨_,rfl⟩;have hnl:news.length=n2*i.size:=by rw[hnews0,xw,q4,hi2]
     have hmS1:(∀g,S1.ac.testBit g=nr->S'.ac.testBit g=nr)->∀g,S1.ac.testBit g=nr->M g:=λk g hg=>hm g (k g hg)
     have qhh:(∀g,S1.ac.testBit g=nr->M g)->(n2=0/\v=ng V 0 0\/∃b m,v=ng (I b) n2 m/\b.spot=V/\(∀J,yw S.nx σ J->qw J src=news)/\∀j u,news[j]? = I u->w.cell? (b.add j)=I u):=λhM=>by
      rcases(q5 σ w hM hs0).2 with⟨h1,h2⟩|⟨b,m,h1,h2,h3⟩
      .exact .inl ⟨h1,by rw[hv σ (yw.refl _ _),h2]⟩
      .refine .inr ⟨b,m,by rw[hv σ (yw.refl _ _),h1],h2,λJ hτ=>?_,by rw[hnews0];exact h3⟩;rcases(q5 J w hM (H.sat J hτ)).2 with⟨k1,k2⟩|⟨b',m',k1,k2,k3⟩
       .rw[<-hv J hτ,hv σ (yw.refl _ _),h1] at k2;cases k2
       .rw[<-hv J hτ,hv σ (yw.refl _ _),h1] at k1;injection k1 with k1 _ _;injection k1 with k1;subst k1;rw[hnews0];refine ju (λj=>?_);by_cases hj:j<src.length
        .have e1:=h3 j _ (ah (by rw[xw];exact hj));have e2:=k3 j _ (ah (by rw[xw];exact hj));rw[ah (by rw[xw];exact hj),ah (by rw[xw];exact hj)];exact e2.symm.trans e1
        .rw[dn (by rw[xw];omega),dn (by rw[xw];omega)]
     have hsame:(∀g,S1.ac.testBit g=nr->M g)->∀J,yw S.nx σ J->qw J src=news:=λhM J hτ=>by
      rcases qhh hM with⟨h1,-⟩|⟨b,m,-,-,h3,-⟩
      .have:src=[]:=by have:=q4;rw[h1,qv] at this;exact pd this
       rw[hnews0,this];rfl
      .exact h3 J hτ
     have hnone:∀u∈news,u.oneCell'=nr:=λu hu'=>by
      rw[hnews0,qzb,fi] at hu';obtain⟨s',h1,rfl⟩:=hu';exact qy9 (ao.1 hone s' h1) σ
     have hlen:(∀g,S1.ac.testBit g=nr->M g)->(Builtin.lenOf v).run P w=.ok n2 w/\(Builtin.firstCells i.size n2 v).run P w=.ok news.toArray w:=λhM=>by
      rcases qhh hM with⟨h1,h2⟩|⟨b,m,h1,h2,h3,h4⟩
      .have:news=[]:=by apply pd;rw[hnl,h1,qv]
       subst h1;rw[h2,this];exact⟨rfl,run_firstCells_none w _ _ _ _⟩
      .rw[h1];exact⟨rfl,run_firstCells_some (P:=P) w i.size n2 b n2 m news hnl h4⟩
     have hheap:∀(q:Array ny),(w.drew.alloc (.cells q e)).heap.size=w.heap.size+1:=λq=>kq
     have hkeep:∀(q:Array ny) (b:Nat),b<w.heap.size->(w.drew.alloc (.cells q e)).heap[b]? = w.heap[b]?:=λq b hb=>Sy.qu9 w.drew _ b (by show b≠w.heap.size;omega)
     split at h
     ·
      have hu0:u=ng V 0 0:=hu σ (yw.refl _ _);split at h
      .rename_i hn0;cases h;have hM:=hmS1 (λ_ h=>h);obtain⟨l1,l2⟩:=hlen hM;subst hn0;have hnil:news=[]:=by apply pd;rw[hnl,qv]
       rw[hnil] at l2;exact⟨_,w,by rw[hu0];exact qqd g1 hi1 l1 l2,qdr H q2 q3 (λ_ _=>rfl)⟩
      .rename_i hn0;cases h;have hM:=hmS1 (λg hg=>(qy3 S1 _ V).ac g hg);rcases qhh hM with⟨h1,-⟩|⟨b,m,h1,h2,h3,h4⟩
       .exact absurd h1 hn0
       .have hrun:=run_append_nil (P:=P) w t ty e i z g1 hi1 hz1 b n2 m news hnl h4 kg kg (by have:=hbytes n2 kg;omega);have hcapge:n2<=grownCap w n2 0 e:=mq w _ _ _;have hcaple:grownCap w n2 0 e<=mf:=ib w _ _ _ kg;refine⟨_,_,by rw[hu0,h1];exact hrun,qxb.touch q2 q3 (qfm H1 (grownCap w n2 0 e) (hheap _) rfl rfl rfl (hkeep _) (λJ hτ hτ2=>?_) (λJ h1 h2 h3=>?_))⟩
        .exact qee hz2 hz0 q4 hcapge hcaple (hsame hM J (by rw[q2] at hτ;exact hτ)).symm hτ2
        .simp[XV.den,TV.den,SV.den,h2,h3]
     ·
      rename_i g off n c;have hu0:u=ng (I ⟨σ g,off,V⟩) n c:=hu σ (yw.refl _ _);split at h
      .rename_i B hB;split at h
       .rename_i hroom;split at h
        .rename_i hfit;cases h;have hM:=hmS1 (λg' hg=>(qle (B:={ B with cs:=quu B.cs (off+n*d.size) src }) hB).ac g' hg);have hmg:M g:=hm g (by show(S1.ac ||| 2^g).testBit g=nr;rw[jm,qq9,fj]);obtain⟨l1,l2⟩:=hlen hM;have hbk:=hs0.blk g B hmg (by rw[<-q3];exact hB);obtain⟨cs,b1,b2,b3,b4⟩:=id hbk;have hrun:=qjc (P:=P) (ty:=ty) (sLen:=n) (sCap:=c) (off:=off) g1 hi1 b1 (.inl rfl) l1 l2 hnone hroom (by rw[hnl,hi2];rw[q4] at hfit;omega);obtain⟨r1,r2,r3,r4⟩:=ve (σ g) news (off+n*i.size) w;refine⟨_,_,by rw[hu0];exact hrun,qxb.touch q2 q3 (qtz H1 hmg hB r1 r2 r3 r4 (λb hb=>xk (σ g) news (off+n*i.size) w b hb) (λJ hτ=>?_) (λJ hτ=>?_))⟩
         .have h5:=(H1.sat J hτ).blk g B hmg hB;rw[hτ g (H1.lt g B hB)] at h5;rw[<-hsame hM J (by rw[q2] at hτ;exact hτ),hi2];exact qmy h5 hfit
         .have:=hτ g (H1.lt g B hB);simp[XV.den,TV.den,SV.den,this]
        .cases h
       .rename_i hroom;split at h
        .rename_i hcc;cases h;have hM:=hmS1 (λg' hg=>(qy3 (S1.touch g) _ V).ac g' ((qvo S1 g).ac g' hg));have hmg:M g:=hm g ((qy3 (S1.touch g) _ V).ac g (by show(S1.ac ||| 2^g).testBit g=nr;rw[jm,qq9,fj]));obtain⟨h01,h02,h03⟩:=hcc
         have hols:∀J,yw S.nx σ J->(qw J ((B.cs.drop off).take (n*d.size)))=qw σ ((B.cs.drop off).take (n*d.size))/\∀j u,(qw σ ((B.cs.drop off).take (n*d.size)))[j]? = I u->w.cell? ((⟨σ g,off,V⟩:Addr).add j)=I u:=λJ hτ=>by
          have key:∀J,yw S.nx σ J->∀j u,(qw J ((B.cs.drop off).take (n*d.size)))[j]? = I u->w.cell? ((⟨σ g,off,V⟩:Addr).add j)=I u:=λJ hτ j u hj=>by
           obtain⟨cs,b1,b2,b3,b4⟩:=(H.sat J hτ).blk g B hmg (by rw[<-q3];exact hB);rw[hτ g (H.lt g B (by rw[<-q3];exact hB))] at b1;rw[uz,dx w (σ g) (off+j) cs B.t (0,0) b1];rw[qyl,fc] at hj;split at hj
           .rw[ia] at hj;cases hq:B.cs[off+j]? with
            | none=>rw[hq] at hj;cases hj
            | some s'=>rw[hq] at hj;cases hj;exact b4 _ _ hq
           .cases hj
          refine⟨ju (λj=>?_),key σ (yw.refl _ _)⟩;by_cases hj:j<((B.cs.drop off).take (n*d.size)).length
          .have e1:=key σ (yw.refl _ _) j _ (ah (by rw[xw];exact hj));have e2:=key J hτ j _ (ah (by rw[xw];exact hj));rw[ah (by rw[xw];exact hj),ah (by rw[xw];exact hj)];exact e2.symm.trans e1
          .rw[dn (by rw[xw];omega),dn (by rw[xw];omega)]
         rcases qhh hM with⟨h1,-⟩|⟨b,m,h1,h2,h3,h4⟩
         .omega
         .have hol:(qw σ ((B.cs.drop off).take (n*d.size))).length=n*i.size:=by rw[xw,hi2,fb,oc];omega
          have hnx:=rh (need:=n+n2) (old:=c) (bytes:=i.bytes) kg (hbytes _ kg);have hrun:=oy (P:=P) w t ty e i z g1 hi1 hz1 ⟨σ g,off,V⟩ n c _ hol (hols σ (yw.refl _ _)).2 b n2 m news hnl h4 kg kg hnx;have hcapge:n+n2<=grownCap w (n+n2) c e:=mq w _ _ _;have hcaple:grownCap w (n+n2) c e<=mf:=ib w _ _ _ kg;have q2':(S1.touch g).nx=S.nx:=q2;have q3':∀h,(S1.touch g).get h=S.get h:=q3;refine⟨_,_,by rw[hu0,h1];exact hrun,qxb.touch q2' q3' (qfm (H.touch q2' q3') (grownCap w (n+n2) c e) (hheap _) rfl rfl rfl (hkeep _) (λJ hτ hτ2=>?_) (λJ h1 h2 h3=>?_))⟩
          .rw[q2'] at hτ;rw[show(qw σ ((B.cs.drop off).take (n*d.size))).toArray++news.toArray=(qw σ ((B.cs.drop off).take (n*d.size))++news).toArray by simp];refine qee hz2 hz0 (n:=n+n2) ?_ hcapge hcaple ?_ hτ2
           .rw[gk,q4,fb,oc,eh];omega
           .rw[qp9,(hols J hτ).1,hsame hM J hτ]
          .have e1:J S1.nx=w.heap.size:=h2;have e2:J (S1.nx+1)=grownCap w (n+n2) c e:=h3;simp[XV.den,TV.den,SV.den,e1,e2]
        .cases h
      .cases h
     ·
      rename_i g n k;split at h
      .rename_i B hB;split at h
       .rename_i k' sz' hcap;split at h
        .rename_i hcc;cases h;obtain⟨rfl,rfl,hBt,h01,h02,h03⟩:=hcc;have hM:=hmS1 (λg' hg=>(qy3 S1 _ (I g)).ac g' hg);have hmg:M g:=hm g (by show(S1.ac ||| 2^S1.nx ||| qj9 (I g)).testBit g=nr;rw[jm,qj9,qq9,fj]);have hu0:u=ng (I ⟨σ g,0,V⟩) n (σ k'-0):=hu σ (yw.refl _ _);rw[Nat.sub_zero] at hu0;have hgl:=H.lt g B (by rw[<-q3];exact hB)
         have hols:∀J,yw S.nx σ J->(qw J (B.cs.take (n*d.size)))=qw σ (B.cs.take (n*d.size))/\∀j u,(qw σ (B.cs.take (n*d.size)))[j]? = I u->w.cell? ((⟨σ g,0,V⟩:Addr).add j)=I u:=λJ hτ=>by
          have key:∀J,yw S.nx σ J->∀j u,(qw J (B.cs.take (n*d.size)))[j]? = I u->w.cell? ((⟨σ g,0,V⟩:Addr).add j)=I u:=λJ hτ j u hj=>by
           obtain⟨cs,b1,b2,b3,b4⟩:=(H.sat J hτ).blk g B hmg (by rw[<-q3];exact hB);rw[hτ g hgl] at b1;rw[uz,dx w (σ g) (0+j) cs B.t (0,0) b1];rw[qyl,fc] at hj;split at hj
           .rw[bu];cases hq:B.cs[j]? with
            | none=>rw[hq] at hj;cases hj
            | some s'=>rw[hq] at hj;cases hj;exact b4 _ _ hq
           .cases hj
          refine⟨ju (λj=>?_),key σ (yw.refl _ _)⟩;by_cases hj:j<(B.cs.take (n*d.size)).length
          .have e1:=key σ (yw.refl _ _) j _ (ah (by rw[xw];exact hj));have e2:=key J hτ j _ (ah (by rw[xw];exact hj));rw[ah (by rw[xw];exact hj),ah (by rw[xw];exact hj)];exact e2.symm.trans e1
          .rw[dn (by rw[xw];omega),dn (by rw[xw];omega)]
         obtain⟨cs,b1,b2,b3,b4⟩:=id (hs0.blk g B hmg (by rw[<-q3];exact hB));rw[hcap] at b3;obtain⟨b3,b5⟩:=b3;have hol:(qw σ (B.cs.take (n*d.size))).length=n*i.size:=by rw[xw,hi2,fb];omega
         rcases qhh hM with⟨h1,-⟩|⟨b,m,h1,h2,h3,h4⟩
         .omega
         by_cases hroom:n+n2<=σ k'
         .obtain⟨l1,l2⟩:=hlen hM;have hmul:(n+n2)*d.size<=σ k'*d.size:=dd _ hroom;rw[eh] at hmul;have hrun:=qjc (P:=P) (ty:=ty) (sLen:=n) (sCap:=σ k') (off:=0) g1 hi1 b1 (.inl rfl) l1 l2 hnone hroom (by rw[hnl,hi2];omega);obtain⟨r1,r2,r3,r4⟩:=ve (σ g) news (0+n*i.size) w;refine⟨_,_,by rw[hu0];exact hrun,qxb.touch q2 q3 (q5c H1 (σ k') hmg hB r1 r2 r3 r4 (λb hb=>xk (σ g) news (0+n*i.size) w b hb) (λJ hτ hτ2=>?_) (λJ h1 h2 h3=>?_))⟩
          .rw[q2] at hτ;have h5:=(H.sat J hτ).blk g B hmg (by rw[<-q3];exact hB);rw[hτ g hgl] at h5;obtain⟨cs',c1,c2,c3,c4⟩:=h5;rw[b1] at c1;injection c1 with c1;injection c1 with c1;subst c1;obtain⟨cs2,d1,d2,d3⟩:=jh (σ g) B.t (0,0) news (0+n*i.size) w cs b1;refine⟨cs2,by rw[hBt] at d1;exact d1,?_,⟨by rw[d2,b3,hτ2],by rw[hτ2];exact b5⟩,λj s' hj=>?_⟩
           .show(B.cs.take (n*d.size)++src).length<=_;rw[gk,q4,fb,d2,b3];omega
           .rw[d3 j,hnl];have hj':(B.cs.take (n*d.size)++src)[j]? = I s':=hj;have htl:(B.cs.take (n*d.size)).length=n*d.size:=by rw[fb];omega
            by_cases hjn:j<n*d.size
            .rw[List.getElem?_append_left (by rw[htl];exact hjn),fc,if_pos hjn] at hj';rw[if_neg (by rw[hi2];omega)];exact c4 j s' hj'
            .rw[List.getElem?_append_right (by rw[htl];omega),htl] at hj';have hjs:j-n*d.size<src.length:=(al.1 hj').1;rw[q4] at hjs;rw[if_pos (by rw[hi2];omega),<-hsame hM J hτ,qyl,hi2,bu,hj'];rfl
          .simp[XV.den,TV.den,SV.den,h2,h3]
         .have hnx:=rh (need:=n+n2) (old:=σ k') (bytes:=i.bytes) kg (hbytes _ kg);have hrun:=oy (P:=P) w t ty e i z g1 hi1 hz1 ⟨σ g,0,V⟩ n (σ k') _ hol (hols σ (yw.refl _ _)).2 b n2 m news hnl h4 kg kg hnx;have hcapge:n+n2<=grownCap w (n+n2) (σ k') e:=mq w _ _ _;have hcaple:grownCap w (n+n2) (σ k') e<=mf:=ib w _ _ _ kg;refine⟨_,_,by rw[hu0,h1];exact hrun,qxb.touch q2 q3 (qfm H1 (grownCap w (n+n2) (σ k') e) (hheap _) rfl rfl rfl (hkeep _) (λJ hτ hτ2=>?_) (λJ h1 h2 h3=>?_))⟩
          .rw[q2] at hτ;rw[show(qw σ (B.cs.take (n*d.size))).toArray++news.toArray=(qw σ (B.cs.take (n*d.size))++news).toArray by simp];refine qee hz2 hz0 (n:=n+n2) ?_ hcapge hcaple ?_ hτ2
           .rw[gk,q4,fb,eh];omega
           .rw[qp9,(hols J hτ).1,hsame hM J hτ]
          .simp[XV.den,TV.den,SV.den,h2,h3]
        .cases h
       .cases h
      .cases h
     .cases h
    .cases h
   .cases h
  .cases h
 .cases h
end
end Ev
namespace Ev
open Go.RowKit
open Sy (Cx TD qzu yj KD kd yx xe vk qx2 jg qya uz qxe qyd qqy q8x qv7 qzl)
variable {t:nz}
abbrev qqe:=mb->List XV->St->Option (XV×St)
def qxu(P:ma)(r:qqe):Prop:=∀f args S x S',r f args S=I (x,S')->qqv S S'/\q8x P f/\∀(M:Nat->Prop) (σ:Nat->Nat) (w:nu),qqu M σ S w->(∀g,S'.ac.testBit g=nr->M g) ->
 ∀vs:List ny,(∀J,yw S.nx σ J->vs=args.map (XV.den J))->Calls P f vs.toArray w (λe w'=>∃v,e=np v/\qxb M σ S w x S' v w')
def qag:XV:=.v (.one (.con mc))
def qii{α β:Type}(f:α->Option β):List α->Option (List β)
 | []=>I []
 | x::r=>match f x,qii f r with
   | some y,I l=>I (y::l)
   | _,_=>V
theorem qfa{α β γ:Type}{f:α->Option β}{g:α->γ}{h:β->γ}:∀{l:List α} {m:List β},qii f l=I m->(∀x∈l,∀y,f x=I y->g x=h y)->l.map g=m.map h
 | [],m,hm,_=>by cases hm;rfl
 | x::r,m,hm,he=>by
   unfold qii at hm;split at hm
   .rename_i y l h1 h2;cases hm;rw[fg,fg,he x kq y h1,qfa h2 (λz hz=>he z (by simp[hz]))]
   .cases hm
def binX(P:ma)(cx:Cx)(env:jy)(op:BinOp)(t:nz)(x y:Operand):Option XV:=match cX env x,cX env y with
 | some u,I v=>(qkm P (do eqGuard op t x y u v;binOp op t u v)).map qmo
 | _,_=>match one env x,one env y with
   | some (.sl _ _ _ _ _),I (.con (.slice V 0 0))=>match op,kd cx t with
     | .eql,.sl _=>I (.v (.one (.con (.bool ns))))
     | .neq,.sl _=>I (.v (.one (.con (.bool nr))))
     | _,_=>V
   | _,_=>V
def qrl(env:jy):Option Operand->Option (Option ny)
 | none=>I V
 | some x=>match cX env x with
   | some v=>I (I v)
   | none=>V
theorem qio{env:jy}{a:Act}{z:Option Operand}{v:Option ny}(h:qrl env z=I v)(he:∀x,z=I x->∀v,cX env x=I v->a.eval x=v):z.map a.eval=v:=by
 unfold qrl at h;split at h
 .cases h;rfl
 .rename_i x;split at h
  .rename_i u hu;cases h;rw[dv,he x rfl u hu]
  .cases h
def qhv(P:ma)(cx:Cx)(S:St)(env:jy)(t:nz)(x:Operand)(lo hi mx:Option Operand):Option (XV×St):=match cX env x with
 | some u=>match qrl env lo,qrl env hi,qrl env mx with
   | some l,I h,I m=>(qkm P (lh t u l h m)).map λv=>(qmo v,S)
   | _,_,_=>V
 | none=>match one env x with
   | some (.sl g off n k c)=>match qb8 env lo,qb8 env hi,qb8 env mx with
     | some l,I h,I m=>(cutX cx t g off n k c l h m).map λs=>(.v (.one s),S)
     | _,_,_=>V
   | _=>V
def qn3(cx:Cx)(env:jy)(t:nz)(x i:Operand):Option XV:=match one env x,qjj env i with
 | some (.sl g off n _ _),I (.int _ j)=>match kd cx t with
   | .sl e=>match yx cx e with
     | some d=>if 0<=j/\j<n then I (.v (.one (.ptr g (off+j.toNat*d.size)))) else V
     | none=>V
   | _=>V
 | some (.ptr g off),I (.int _ j)=>match kd cx t with
   | .ar n e=>match yx cx e with
     | some d=>if 0<=j/\j<n/\1<n then I (.v (.one (.ptr g (off+j.toNat*d.size)))) else V
     | none=>V
   | _=>V
 | _,_=>V
def qnm(P:ma)(cx:Cx)(env:jy)(t:nz)(x i:Operand):Option XV:=match cX env x,qjj env i with
 | some u,I v=>(qkm P (fm t u v)).map qmo
 | none,I (.int _ j)=>match qkp env x,kd cx t with
   | some (.v (.agg l)),.ar n e=>match yx cx e with
     | some d=>if 0<=j/\j<n then qnu cx e l (j.toNat*d.size) else V
     | none=>V
   | _,_=>V
 | _,_=>V
def lenX(cx:Cx)(env:jy)(t:nz)(x:Operand):Option XV:=match one env x,kd cx t with
 | some (.sl _ _ n _ _),.sl _=>I (.v (.one (.con (.int O n))))
 | _,_=>V
def capX(cx:Cx)(env:jy)(t:nz)(x:Operand):Option XV:=match one env x,kd cx t with
 | some (.sl _ _ _ V c),.sl _=>I (.v (.one (.con (.int O c))))
 | _,_=>V
def qw0(env:jy)(l:List Operand):Option (List SV):=qii (one env) l
def qwz(P:ma)(cx:Cx)(env:jy)(o:Oper):Option XV:=match o.op with
 | .move x=>qkp env x
 | .assign x=>qkp env x
 | .pick c a b=>match qjj env c with
   | some (.bool nr)=>qkp env a
   | some (.bool ns)=>qkp env b
   | _=>V
 | .build t parts=>qpb cx env t parts.toList
 | .nilCheck x=>match one env x with
   | some (.ptr g off)=>I (.v (.one (.ptr g off)))
   | _=>V
 | .binOp op t x y _=>binX P cx env op t x y
 | .unOp op _ x=>match cX env x with
   | some u=>(qkm P (Op.unary op u)).map qmo
   | none=>V
 | .convert s d x=>match cX env x with
   | some u=>(qkm P (convert s d u)).map qmo
   | none=>V
 | .fieldAddr t x f=>match one env x,qxe cx t f with
   | some (.ptr g off),I (ft,fo)=>match yx cx ft with
     | some d=>if d.size=0 then V else I (.v (.one (.ptr g (off+fo))))
     | none=>V
   | _,_=>V
 | .field t x f=>match qkp env x,qxe cx t f with
   | some (.v (.agg l)),I (ft,fo)=>qnu cx ft l fo
   | _,_=>V
 | .indexAddr t x i=>qn3 cx env t x i
 | .index t x i=>qnm P cx env t x i
 | .extract x i=>match qkp env x with
   | some (.tup l)=>(l[i]?).map XV.v
   | _=>V
 | .makeFunc fn first cap=>match qw0 env first.toList,qw0 env cap.toList with
   | some a,I b=>I (.v (.one (.fn fn a b)))
   | _,_=>V
 | .call { callee:=.builtin b,args,argTypes }=>match qii (cX env) args.toList with
   | some vs=>match qkm P (builtin b argTypes o.type (args.map fun|.const _=>nr|_=>ns) vs.toArray) with
     | some (.value v)=>I (qmo v)
     | _=>V
   | none=>match b,args.toList,argTypes.toList with
     | .len,[x],[t]=>lenX cx env t x
     | .cap,[x],[t]=>capX cx env t x
     | _,_,_=>V
 | _=>V
section
variable {P:ma}{cx:Cx}{M:Nat->Prop}{σ:Nat->Nat}{S S':St}{env:jy}{a:Act}{w w':nu}{o:Oper}
theorem qus{α β:Type}{x:Option α}{f:α->β}{y:β}(h:x.map f=I y):∃z,x=I z/\y=f z:=by
 cases x with
 | none=>cases h
 | some z=>exact⟨z,rfl,(oi h).symm⟩
theorem q6h(hcx:yj P cx){op:BinOp}{x y:Operand}{r:XV}(h:binX P cx env op t x y=I r)(h1:∀v,cX env x=I v->a.eval x=v)(h2:∀v,cX env y=I v->a.eval y=v)(h3:∀s,one env x=I s->a.eval x=s.den σ)(h4:∀s,one env y=I s->a.eval y=s.den σ) :
  (do eqGuard op t x y (a.eval x) (a.eval y);binOp op t (a.eval x) (a.eval y):Sem ny).run P w=.ok (r.den σ) w:=by
 unfold binX at h;split at h
 .rename_i u v hu hv;obtain⟨z,hz,rfl⟩:=qus h;rw[h1 u hu,h2 v hv,qk4];exact qy5 hz w
 .split at h
  .rename_i g off n k c hx hy;obtain⟨ad,c',e1⟩:∃ad c',(SV.sl g off n k c).den σ=ng (I ad) n c':=by cases k<;>exact⟨_,_,rfl⟩
   rw[h3 _ hx,h4 _ hy,e1];have hg:=Sy.qjb (P:=P) (w:=w) op t x y (u:=ng (I ad) n c') (v:=ng V 0 0) rfl kq;rw[ai,show(SV.con (ng V 0 0)).den σ=.slice V 0 0 from rfl,hg];simp only[aq];split at h
   .rename_i e hk;cases h;show(do pure (ni (<-Op.equal t _ _)):Sem ny).run P w=_;rw[ai,qe w t _ _ n c' (qut hcx hk)];rfl
   .rename_i e hk;cases h;show(do pure (ni (!(<-Op.equal t _ _))):Sem ny).run P w=_;rw[ai,qe w t _ _ n c' (qut hcx hk)];rfl
   .cases h
  .cases h
theorem qc8{lo:Option Operand}{l:Option Nat}(h:qb8 env lo=I l)(he:∀x,lo=I x->∀v,qjj env x=I v->a.eval x=v):lo.map a.eval=V/\l=V\/∃k n,lo.map a.eval=I (.int k ((n:Nat):Int))/\l=I n:=by
 rcases q2j h he with⟨h1,h2⟩|h1
 .exact .inl ⟨by rw[h1];rfl,h2⟩
 .exact .inr h1
theorem q7s(hcx:yj P cx){g off n c:Nat}{k:Option Nat}{lo hi mx:Option Nat}{s:SV}(h:cutX cx t g off n k c lo hi mx=I s){vl vh vm:Option ny}
  (h1:vl=V/\lo=V\/∃k n,vl=I (.int k ((n:Nat):Int))/\lo=I n) (h2:vh=V/\hi=V\/∃k n,vh=I (.int k ((n:Nat):Int))/\hi=I n) (h3:vm=V/\mx=V\/∃k n,vm=I (.int k ((n:Nat):Int))/\mx=I n) :
  (lh t ((SV.sl g off n k c).den σ) vl vh vm).run P w=.ok (s.den σ) w:=by
 unfold cutX at h;split at h
 .rename_i e hk;split at h
  .rename_i d hd;have g1:=qut hcx hk;have hsz:=vk (hcx _ d hd) w;simp only at h
   have run:∀(c':Nat) (l h' m:Nat),l<=h'->h'<=m->m<=n->n<=c'->(vl=V/\l=0\/∃k,vl=I (.int k (l:Int)))->(vh=V/\(h':Int)=n/\vm=V\/∃k,vh=I (.int k (h':Int)))->(vm=V/\m=n\/∃k,vm=I (.int k (m:Int))) ->
    (lh t (ng (I ⟨σ g,off,V⟩) n c') vl vh vm).run P w=.ok (ng (if(if vm=V then c' else m)=l then I ⟨σ g,off,V⟩ else I ⟨σ g,off+l*d.size,V⟩) (h'-l) ((if vm=V then c' else m)-l)) w:=by
    intro c' l h' m q1 q2 q3 q4 q5 q6 q7
    have hb:=qv7 (P:=P) (w:=w) nr (len:=n) (cap:=c') (lo:=vl) (hi:=vh) (mx:=vm) (l:=l) (h:=h') (m:=m) q4 kg kg kg kg
     (by rcases q5 with⟨a1,a2⟩|a1;exact .inl ⟨a1,kg⟩;exact .inr a1) (by rcases q6 with a1|a1;exact .inl a1;exact .inr a1) (by rcases q7 with⟨a1,a2⟩|a1;exact .inl ⟨a1,kg⟩;exact .inr a1)
    unfold lh;rw[ai,bg g1 w];simp only[aq];unfold Instr.slice;rw[ai,bg g1 w];simp only[aq];rw[ai,hb];simp only[aq,Int.toNat_natCast];rw[ai,hsz];simp only[aq,eb];congr 2;split<;>simp[uz]
   split at h
   .rename_i hmn;have hvm:vm=V:=by rcases h3 with⟨a1,-⟩|⟨_,_,-,a2⟩;exact a1;cases a2
    split at h
    .rename_i hc;obtain⟨c1,c2⟩:=hc
     have p5:vl=V/\lo.getD 0=0\/∃k,vl=I (.int k ((lo.getD 0:Nat):Int)):=by
      rcases h1 with⟨a1,rfl⟩|⟨k',n',a1,rfl⟩
      .exact .inl ⟨a1,rfl⟩
      .exact .inr ⟨k',a1⟩
     have p6:vh=V/\((hi.getD n:Nat):Int)=n/\vm=V\/∃k,vh=I (.int k ((hi.getD n:Nat):Int)):=by
      rcases h2 with⟨a1,rfl⟩|⟨k',n',a1,rfl⟩
      .exact .inl ⟨a1,rfl,hvm⟩
      .exact .inr ⟨k',a1⟩
     split at h
     .split at h
      .rename_i hcc;have:=run c (lo.getD 0) (hi.getD n) n c1 c2 (af _) hcc p5 p6 (.inl ⟨hvm,rfl⟩);rw[if_pos hvm] at this;show(lh t (ng (I ⟨σ g,off,V⟩) n c) vl vh vm).run P w=_;rw[this];split at h
       .rename_i hcl;cases h;rw[if_pos hcl];rfl
       .rename_i hcl;cases h;rw[if_neg hcl];rfl
      .cases h
     .cases h
    .cases h
   .rename_i mm m;split at h
    .rename_i hc;obtain⟨c1,c2,c3,c4⟩:=hc;have hvm:vm≠V:=by rcases h3 with⟨-,a1⟩|⟨_,_,a1,-⟩;cases a1;rw[a1];simp
     have p5:vl=V/\lo.getD 0=0\/∃k,vl=I (.int k ((lo.getD 0:Nat):Int)):=by
      rcases h1 with⟨a1,rfl⟩|⟨k',n',a1,rfl⟩
      .exact .inl ⟨a1,rfl⟩
      .exact .inr ⟨k',a1⟩
     have p6:vh=V/\((hi.getD n:Nat):Int)=n/\vm=V\/∃k,vh=I (.int k ((hi.getD n:Nat):Int)):=by
      rcases h2 with⟨a1,rfl⟩|⟨k',n',a1,rfl⟩
      .cases c4
      .exact .inr ⟨k',a1⟩
     have p7:vm=V/\m=n\/∃k,vm=I (.int k (m:Int)):=by
      rcases h3 with⟨-,a1⟩|⟨k',n',a1,a2⟩
      .cases a1
      .cases a2;exact .inr ⟨k',a1⟩
     split at h
     .split at h
      .rename_i hcc;have:=run c (lo.getD 0) (hi.getD n) m c1 c2 c3 hcc p5 p6 p7;rw[if_neg hvm] at this;show(lh t (ng (I ⟨σ g,off,V⟩) n c) vl vh vm).run P w=_;rw[this];split at h
       .rename_i hcl;cases h;rw[if_pos hcl];rfl
       .rename_i hcl;cases h;rw[if_neg hcl];rfl
      .cases h
     .cases h
    .cases h
  .cases h
 .cases h
end
end Ev
namespace Ev
open Go.RowKit
open Sy (Cx TD qzu yj KD kd yx xe vk qx2 jg qya uz qxe qyd qqy q8x qv7 qzl qb5 qbs)
variable {parts:Array (Nat×Operand)}{i x:Operand}{t:nz}{r:XV}
section
variable {P:ma}{cx:Cx}{M:Nat->Prop}{σ:Nat->Nat}{S S':St}{env:jy}{a:Act}{w w':nu}{o:Oper}
theorem qog{l:List Operand}{m:List SV}(h:qw0 env l=I m)(he:∀x∈l,∀s,one env x=I s->a.eval x=s.den σ):l.map a.eval=qw σ m:=by
 rw[qzb];exact qfa h he
theorem qr7:∀p∈parts.toList,p.2∈(Op.build t parts).operands:=by
 intro p hp;simp only[jn,abh,fi];exact⟨p,hp,rfl⟩
theorem qp3{n:Nat}:∀p∈parts.toList,p.2∈(Op.buildSlice t n parts).operands:=by
 intro p hp;simp only[jn,abh,fi];exact⟨p,hp,rfl⟩
theorem q2m(hcx:yj P cx)(h:qn3 cx env t x i=I r)(h1:∀s,one env x=I s->a.eval x=s.den σ)(h2:∀v,qjj env i=I v->a.eval i=v) :
  (oh t (a.eval x) (a.eval i)).run P w=.ok (r.den σ) w:=by
 unfold qn3 at h;split at h
 .rename_i g off n k c kk j hx hi;rw[h1 _ hx,h2 _ hi];obtain⟨c',e1⟩:∃c',(SV.sl g off n k c).den σ=ng (I ⟨σ g,off,V⟩) n c':=by cases k<;>exact⟨_,rfl⟩
  rw[e1];split at h
  .rename_i e hk;split at h
   .rename_i d hd;split at h
    .rename_i hc;cases h;unfold oh;rw[ai,qzl];simp only[aq];have hun:=bg (qut hcx hk) w;simp[hun,hc.1,hc.2,vk (hcx _ d hd) w,uz,XV.den,TV.den,SV.den]
    .cases h
   .cases h
  .cases h
 .rename_i g off kk j hx hi;rw[h1 _ hx,h2 _ hi];split at h
  .rename_i n e hk;split at h
   .rename_i d hd;split at h
    .rename_i hc;cases h;obtain⟨u',g1,g2⟩:=xe hcx hk kq;obtain⟨n',e',rfl⟩:∃n' e',u'=.array n' e':=by cases u'<;>simp_all [KD.of]
     simp only[KD.of,KD.ar.injEq] at g2;obtain⟨rfl,rfl⟩:=g2;unfold oh;rw[ai,qzl];simp only[aq];have hun:=bg g1 w;simp[hun,mo,hc.1,hc.2.1,vk (hcx _ d hd) w,uz,ai,XV.den,TV.den,SV.den]
    .cases h
   .cases h
  .cases h
 .cases h
theorem q2r(hcx:yj P cx)(h:qnm P cx env t x i=I r)(h0:∀v,cX env x=I v->a.eval x=v)(h1:∀y,qkp env x=I y->a.eval x=y.den σ)(h2:∀v,qjj env i=I v->a.eval i=v) :
  (fm t (a.eval x) (a.eval i)).run P w=.ok (r.den σ) w:=by
 unfold qnm at h;split at h
 .rename_i u v hu hv;obtain⟨z,hz,rfl⟩:=qus h;rw[h0 u hu,h2 v hv,qk4];exact qy5 hz w
 .rename_i kk j hx hi;split at h
  .rename_i l n e hl hk;split at h
   .rename_i d hd;split at h
    .rename_i hc;obtain⟨u',g1,g2⟩:=xe hcx hk kq;obtain⟨n',e',rfl⟩:∃n' e',u'=.array n' e':=by cases u'<;>simp_all [KD.of]
     simp only[KD.of,KD.ar.injEq] at g2;obtain⟨rfl,rfl⟩:=g2;rw[h1 _ hl,h2 _ hi];unfold fm;rw[ai,qzl];simp only[aq];rw[ai,bg g1 w];simp only[aq,XV.den,TV.den];rw[if_pos hc,ai,vk (hcx _ d hd) w];exact qoq hcx h
    .cases h
   .cases h
  .cases h
 .cases h
theorem q40(hcx:yj P cx){x:XV}(h:qwz P cx env o=I x)(he:qu3 σ env o.op a):(execOp a.eval o).run P w=.ok (.value (x.den σ)) w:=by
 unfold qwz at h;split at h
 .rename_i y ho;rw[ho] at he;simp[execOp,ho,qzr he nf h]
 .rename_i y ho;rw[ho] at he;simp[execOp,ho,qzr he nf h]
 .rename_i c y z ho;rw[ho] at he;split at h
  .rename_i hc;simp[execOp,ho,qz9 he nf hc,qzr he nf h,asBool]
  .rename_i hc;simp[execOp,ho,qz9 he nf hc,qzr he nf h,asBool]
  .cases h
 .rename_i t parts ho;rw[ho] at he;simp only[execOp,ho];exact qqy (q1i hcx h (λp hp y hy=>qzr he (qr7 p hp) hy))
 .rename_i y ho;rw[ho] at he;split at h
  .rename_i g off hy;cases h;have:=xu he nf hy;simp[execOp,ho,this,SV.den,XV.den,TV.den]
  .cases h
 .rename_i op t y z u ho;rw[ho] at he;simp only[execOp,ho];exact qqy (q6h hcx h (λv hv=>qju he nf hv) (λv hv=>qju he nf hv) (λv hv=>xu he nf hv) (λv hv=>xu he nf hv))
 .rename_i op t y ho;rw[ho] at he;split at h
  .rename_i u hu;obtain⟨z,hz,rfl⟩:=qus h;simp only[execOp,ho];rw[qju he nf hu,qk4];exact qqy (qy5 hz w)
  .cases h
 .rename_i s d y ho;rw[ho] at he;split at h
  .rename_i u hu;obtain⟨z,hz,rfl⟩:=qus h;simp only[execOp,ho];rw[qju he nf hu,qk4];exact qqy (qy5 hz w)
  .cases h
 .rename_i t y f ho;rw[ho] at he;split at h
  .rename_i g off ft fo hy hf;split at h
   .rename_i d hd;split at h
    .cases h
    .rename_i hne;cases h;obtain⟨fs,fl,g1,g2,rfl,rfl⟩:=qyd hcx hf;have e1:=xu he nf hy;simp only[execOp,ho];refine qqy ?_;rw[e1];unfold Instr.fieldAt;rw[ai,bg g1 w];simp only[aq,g2];simp[mo,fieldPlace,ai,vk (hcx _ d hd) w,hne,Addr.add_mid,SV.den,XV.den,TV.den]
   .cases h
  .cases h
 .rename_i t y f ho;rw[ho] at he;split at h
  .rename_i l ft fo hy hf;obtain⟨fs,fl,g1,g2,rfl,rfl⟩:=qyd hcx hf;have e1:=qzr he nf hy;simp only[execOp,ho];refine qqy ?_;rw[e1];unfold Instr.field;rw[ai,bg g1 w];simp only[aq,g2];rw[ai];have:=qoq (P:=P) (σ:=σ) (w:=w) hcx h;simpa[asAgg,XV.den,TV.den] using this
  .cases h
 .rename_i t y i ho;rw[ho] at he;simp only[execOp,ho];exact qqy (q2m hcx h (λs hs=>xu he nf hs) (λv hv=>qz9 he nf hv))
 .rename_i t y i ho;rw[ho] at he;simp only[execOp,ho];exact qqy (q2r hcx h (λv hv=>qju he nf hv) (λv hv=>qzr he nf hv) (λv hv=>qz9 he nf hv))
 .rename_i y i ho;rw[ho] at he;split at h
  .rename_i l hl;obtain⟨t,ht,rfl⟩:=qus h;have e1:=qzr he nf hl;simp only[execOp,ho];refine qqy ?_;simp[Instr.extract,e1,XV.den,ht]
  .cases h
 .rename_i fn first cap ho
  rw[ho] at he;split at h
  .rename_i p q hp hq;cases h;have e1:=qog (a:=a) (σ:=σ) hp (λx hx s hs=>xu he (by simp only[jn,sd];exact .inl (pz.1 hx)) hs);have e2:=qog (a:=a) (σ:=σ) hq (λx hx s hs=>xu he (by simp only[jn,sd];exact .inr (pz.1 hx)) hs);have f1:first.map a.eval=(qw σ p).toArray:=by apply gq.1;rw[ig,e1]
   have f2:cap.map a.eval=(qw σ q).toArray:=by apply gq.1;rw[ig,e2]
   simp[execOp,ho,Instr.makeFunc,f1,f2,XV.den,TV.den,SV.den]
  .cases h
 .rename_i b args ats ho;rw[ho] at he
  have hmem:∀x∈args.toList,x∈(Op.call { callee:=.builtin b,args,argTypes:=ats }).operands:=λx hx=>by
   simp only[jn,acg,sd];exact .inr (pz.1 hx)
  split at h
  .rename_i vs hvs;split at h
   .rename_i v hv;cases h
    have e1:args.map a.eval=vs.toArray:=by
     apply gq.1;rw[ig,qfa (h:=id) hvs (λx hx y hy=>qju he (hmem x hx) hy)];simp
    simp only[execOp,ho,resolve,invoke];rw[ai];simp only[eb,aq,e1,qk4];exact qy5 hv w
   .cases h
  .split at h
   .rename_i y t hy ht;have e1:=qb5 hy;have e2:=qb5 ht;subst e1;subst e2;unfold lenX at h;split at h
    .rename_i g off n k c e hx hk;cases h;have e1:=xu he (hmem y kq) hx;obtain⟨ad,c',e3⟩:∃ad c',(SV.sl g off n k c).den σ=ng (I ad) n c':=by cases k<;>exact⟨_,_,rfl⟩
     rw[e3] at e1;simp[execOp,ho,resolve,invoke,builtin,Builtin.len_,e1,ai,bg (qut hcx hk) w,goInt,XV.den,TV.den,SV.den]
    .cases h
   .rename_i y t hy ht;have e1:=qb5 hy;have e2:=qb5 ht;subst e1;subst e2;unfold capX at h;split at h
    .rename_i g off n c e hx hk;cases h;have e1:=xu he (hmem y kq) hx;simp only[SV.den] at e1;simp[execOp,ho,resolve,invoke,builtin,Builtin.cap_,e1,ai,bg (qut hcx hk) w,goInt,XV.den,TV.den,SV.den]
    .cases h
   .cases h
 .cases h
def qlh:SV->Option (mb×List SV×List SV)
 | .con (.func (.func f) p q)=>if p.size=0/\q.size=0 then I (f,[],[]) else V
 | .fn (.func f) p q=>I (f,p,q)
 | _=>V
theorem qt9{s:SV}{f:mb}{p q:List SV}(h:qlh s=I (f,p,q))(σ:Nat->Nat):s.den σ=.func (.func f) (qw σ p).toArray (qw σ q).toArray:=by
 unfold qlh at h;split at h
 .split at h
  .rename_i hc;cases h;simp only[SV.den,ec hc.1,ec hc.2];rfl
  .cases h
 .cases h;rfl
 .cases h
def q4q(P:ma)(cx:Cx)(r:qqe)(env:jy)(S:St)(o:Oper):Option (XV×St):=match qwz P cx env o with
 | some x=>I (x,S)
 | none=>match o.op with
   | .buildSlice t n parts=>qck cx S env t n parts.toList
   | .alloc t=>qe7 cx S t
   | .box t x=>match qkp env x with
     | some y=>qrf S t y
     | none=>V
   | .load t x=>match one env x with
     | some s=>qc7 cx S t s
     | none=>V
   | .store t x y=>match one env x,qkp env y with
     | some s,I z=>match qeo cx S t s z with
       | some S'=>I (qag,S')
       | none=>V
     | _,_=>V
   | .makeSlice t n c=>match qjj env n,qjj env c with
     | some n,I c=>qiq cx S t n c
     | _,_=>V
   | .slice t x lo hi mx=>qhv P cx S env t x lo hi mx
   | .call { callee:=.builtin .append,args,argTypes }=>match args.toList,argTypes.toList with
     | [s,x],[t,t']=>if t=t' then match one env s,one env x with
        | some s,I x=>qr1 cx S t s x
        | _,_=>V
       else V
     | _,_=>V
   | .call { callee:=.value f,args,argTypes }=>match one env f,qii (qkp env) args.toList with
     | some fv,I az=>match qlh fv with
       | some (f,p,q)=>r f (p.map (λs=>.v (.one s))++az++q.map (λs=>.v (.one s))) S
       | none=>V
     | _,_=>V
   | _=>V
def qys(P:ma)(M:Nat->Prop)(σ:Nat->Nat)(S:St)(w:nu)(a:Act)(o:Oper)(x:XV)(S':St):Prop:=
 qx.qc P (λv w'=>qxb M σ S w x S' v w') ((execOp a.eval o).run P w)
theorem q3e(hcx:yj P cx){lo hi mx:Option Operand}(h:qhv P cx S env t x lo hi mx=I (r,S'))(h0:∀v,cX env x=I v->a.eval x=v)(h1:∀s,one env x=I s->a.eval x=s.den σ)
  (hl:∀y,lo=I y->(∀v,qjj env y=I v->a.eval y=v)/\∀v,cX env y=I v->a.eval y=v) (hh:∀y,hi=I y->(∀v,qjj env y=I v->a.eval y=v)/\∀v,cX env y=I v->a.eval y=v)
  (hm:∀y,mx=I y->(∀v,qjj env y=I v->a.eval y=v)/\∀v,cX env y=I v->a.eval y=v) :
  S'=S/\(lh t (a.eval x) (lo.map a.eval) (hi.map a.eval) (mx.map a.eval)).run P w=.ok (r.den σ) w:=by
 unfold qhv at h;split at h
 .rename_i u hu;split at h
  .rename_i l hh' m e1 e2 e3;obtain⟨v,hv,e⟩:=qus h;cases e;refine⟨rfl,?_⟩;rw[h0 u hu,qio e1 (λy hy=>(hl y hy).2),qio e2 (λy hy=>(hh y hy).2),qio e3 (λy hy=>(hm y hy).2),qk4];exact qy5 hv w
  .cases h
 .split at h
  .rename_i g off n k c hx;split at h
   .rename_i l hh' m e1 e2 e3;obtain⟨s,hs,e⟩:=qus h;cases e;refine⟨rfl,?_⟩;rw[h1 _ hx];exact q7s hcx hs (qc8 e1 (λy hy=>(hl y hy).1)) (qc8 e2 (λy hy=>(hh y hy).1)) (qc8 e3 (λy hy=>(hm y hy).1))
   .cases h
  .cases h
end
end Ev
namespace Ev
open Go.RowKit
open Sy (Cx TD qzu yj KD kd yx xe vk qx2 jg qya uz qxe qyd qqy qqp q8x qv7 qzl qb5 qbs)
variable {s:SV}{t:nz}{x y:XV}
section
variable {P:ma}{cx:Cx}{M:Nat->Prop}{σ:Nat->Nat}{S S':St}{env:jy}{a:Act}{w w':nu}{o:Oper}{r:qqe}
theorem q70(h:qrf S t y=I (x,S')):qqv S S':=by
 unfold qrf at h;split at h
 .cases h;exact qy3 _ _ _
 .cases h
theorem q2a(h:qe7 cx S t=I (x,S')):qqv S S':=by
 unfold qe7 at h;split at h
 .cases h;exact qy3 _ _ _
 .cases h
theorem qt0{n:Nat}{ps:List (Nat×Operand)}(h:qck cx S env t n ps=I (x,S')):qqv S S':=by
 unfold qck at h;split at h
 .split at h
  .split at h
   .split at h
    .cases h;exact qy3 _ _ _
    .cases h
   .cases h
  .cases h
 .cases h
theorem q5n{n c:ny}(h:qiq cx S t n c=I (x,S')):qqv S S':=by
 unfold qiq at h;split at h
 .split at h
  .split at h
   .cases h;exact qy3 _ _ _
   .cases h
  .cases h
 .cases h
theorem q1h(h:qeo cx S t s y=I S'):qqv S S':=by
 unfold qeo at h;split at h
 .split at h
  .rename_i B hB;split at h
   .cases h;exact qle hB
   .cases h
  .cases h
 .cases h
theorem q7x{x:SV}(h:qr1 cx S t s x=I (y,S')):qqv S S':=by
 unfold qr1 at h;split at h
 .split at h
  .split at h
   .rename_i n2 src S1 hsrc;obtain⟨q1,-⟩:=qs1 (M:=λ_=>True) hsrc;split at h
    .split at h
     .split at h
      .cases h;exact q1
      .cases h;exact q1.trans (qy3 _ _ _)
     .split at h
      .rename_i B hB;split at h
       .split at h
        .cases h;exact q1.trans (qle hB)
        .cases h
       .split at h
        .cases h;exact q1.trans ((qvo _ _).trans (qy3 _ _ _))
        .cases h
      .cases h
     .split at h
      .split at h
       .split at h
        .cases h;exact q1.trans (qy3 _ _ _)
        .cases h
       .cases h
      .cases h
     .cases h
    .cases h
   .cases h
  .cases h
 .cases h
theorem qys.comp(H:qqu M σ S w)(h:∀J,yw S.nx σ J->(execOp a.eval o).run P w=.ok (.value (x.den J)) w):qys P M σ S w a o x S:=by
 unfold qys;rw[h σ (yw.refl _ _)];refine qdr H rfl (λ_=>rfl) (λJ hτ=>?_);have:=(h σ (yw.refl _ _)).symm.trans (h J hτ);injection this with h1;injection h1
theorem qoe(σ:Nat->Nat)(l:List SV):(l.map (λs=>XV.v (.one s))).map (XV.den σ)=qw σ l:=by
 rw[qzb,List.map_map];rfl
theorem q5l{f:mb}{fv:Operand}{args:Array Operand}{ats:Array nz}{p q:Array ny}(ho:o.op=.call { callee:=.value fv,args,argTypes:=ats })(hf:a.eval fv=.func (.func f) p q)(hE:q8x P f) :
  (execOp a.eval o).run P w=.ok (.enter f (p++args.map a.eval++q)) w:=by
 obtain⟨fn,hf1,hf2,hf3⟩:=hE;simp only[execOp,ho,resolve,ai];rw[hf];simp only[Deferred.ofValue,eb,aq,invoke,callFunc,ai,run_program,hf1];rw[if_neg (by rw[hf2];simp),if_neg (by rw[hf3];simp)];simp
theorem qhu(hcx:yj P cx)(hr:qxu P r)(h:q4q P cx r env S o=I (x,S')):qqv S S'/\(∀{M:Nat->Prop} {σ:Nat->Nat} {a:Act} {w:nu},qqu M σ S w->(∀J,yw S.nx σ J->qu3 J env o.op a)->(∀g,S'.ac.testBit g=nr->M g)->qys P M σ S w a o x S'):=by
 unfold q4q at h;split at h
 .rename_i y hy;cases h;exact⟨qqv.refl S,λH he hm=>qys.comp H (λJ hτ=>q40 hcx hy (he J hτ))⟩
 .split at h
  .rename_i t n parts ho;refine⟨qt0 h,λ{M σ a w} H he hm=>?_⟩;rw[ho] at he;obtain⟨v,w',h1,h2⟩:=qww (a:=a) hcx H h (λJ hτ p hp y hy=>qzr (he J hτ) (qp3 p hp) hy);unfold qys;rw[show(execOp a.eval o).run P w=.ok (.value v) w' by simp only[execOp,ho];exact qqp h1];exact h2
  .rename_i t ho;refine⟨q2a h,λ{M σ a w} H he hm=>?_⟩;obtain⟨v,w',h1,h2⟩:=q0o hcx H h;unfold qys;rw[show(execOp a.eval o).run P w=.ok (.value v) w' by simp only[execOp,ho];exact qqp h1];exact h2
  .rename_i t y ho;split at h
   .rename_i z hz;refine⟨q70 h,λ{M σ a w} H he hm=>?_⟩;rw[ho] at he;obtain⟨v,w',h1,h2⟩:=q7k (P:=P) H h (u:=a.eval y) (λJ hτ=>qzr (he J hτ) nf hz);unfold qys;rw[show(execOp a.eval o).run P w=.ok (.value v) w' by simp only[execOp,ho];exact qqp h1];exact h2
   .cases h
  .rename_i t y ho;split at h
   .rename_i s hs;obtain⟨g,B,hB,hS⟩:=qn1 h;refine⟨by rw[hS];exact qvo S g,λ{M σ a w} H he hm=>?_⟩;rw[ho] at he
    have hrun:∀J,yw S.nx σ J->(execOp a.eval o).run P w=.ok (.value (x.den J)) w:=λJ hτ=>by
     simp only[execOp,ho];rw[xu (he J hτ) nf hs];exact qqy (qpj hcx h hm (H.sat J hτ))
    unfold qys;rw[hrun σ (yw.refl _ _)];refine qdr H (by rw[hS];rfl) (λg'=>by rw[hS];rfl) (λJ hτ=>?_);have:=(hrun σ (yw.refl _ _)).symm.trans (hrun J hτ);injection this with h1;injection h1
   .cases h
  .rename_i t y z ho;split at h
   .rename_i s v hs hv;split at h
    .rename_i S2 hS2;cases h;refine⟨q1h hS2,λ{M σ a w} H he hm=>?_⟩;rw[ho] at he;obtain⟨w',h1,h2⟩:=q1u (P:=P) hcx H hS2 hm (u:=a.eval y) (v:=a.eval z) (λJ hτ=>xu (he J hτ) nf hs) (λJ hτ=>qzr (he J hτ) nf hv);unfold qys;rw[show(execOp a.eval o).run P w=.ok .skip w' by simp only[execOp,ho];rw[ai,h1];rfl];exact h2
    .cases h
   .cases h
  .rename_i t n c ho;split at h
   .rename_i vn vc hn hc;refine⟨q5n h,λ{M σ a w} H he hm=>?_⟩;rw[ho] at he;obtain⟨v,w',h1,h2⟩:=q49 hcx H h;unfold qys
    rw[show(execOp a.eval o).run P w=.ok (.value v) w' by
     simp only[execOp,ho,qz9 (he σ (yw.refl _ _)) nf hn,qz9 (he σ (yw.refl _ _)) nf hc]
     exact qqp h1]
    exact h2
   .cases h
  .rename_i t y lo hi mx ho
   have key:∀{σ:Nat->Nat} {a:Act} {w:nu},qu3 σ env o.op a->S'=S/\(execOp a.eval o).run P w=.ok (.value (x.den σ)) w:=by
    intro σ a w he;rw[ho] at he;have m1:y∈(Op.slice t y lo hi mx).operands:=nf;have ml:∀z,lo=I z->z∈(Op.slice t y lo hi mx).operands:=λz hz=>by simp[jn,hz]
    have mh:∀z,hi=I z->z∈(Op.slice t y lo hi mx).operands:=λz hz=>by simp[jn,hz]
    have mm:∀z,mx=I z->z∈(Op.slice t y lo hi mx).operands:=λz hz=>by simp[jn,hz]
    obtain⟨q1,q2⟩:=q3e (P:=P) (a:=a) (σ:=σ) (w:=w) hcx h (λv hv=>qju he m1 hv) (λv hv=>xu he m1 hv)
     (λz hz=>⟨λv hv=>qz9 he (ml z hz) hv,λv hv=>qju he (ml z hz) hv⟩) (λz hz=>⟨λv hv=>qz9 he (mh z hz) hv,λv hv=>qju he (mh z hz) hv⟩) (λz hz=>⟨λv hv=>qz9 he (mm z hz) hv,λv hv=>qju he (mm z hz) hv⟩)
    exact⟨q1,by simp only[execOp,ho];exact qqy q2⟩
   have hS:S'=S:=by
    unfold qhv at h;split at h
    .split at h
     .obtain⟨v,hv,e⟩:=qus h;cases e;rfl
     .cases h
    .split at h
     .split at h
      .obtain⟨v,hv,e⟩:=qus h;cases e;rfl
      .cases h
     .cases h
   subst hS;exact⟨qqv.refl _,λH he hm=>qys.comp H (λJ hτ=>(key (he J hτ)).2)⟩
  .rename_i args ats ho;split at h
   .rename_i s y t t' hs ht;have e1:=qbs hs;have e2:=qbs ht;subst e1;subst e2;split at h
    .rename_i htt;subst htt;split at h
     .rename_i vs vx hvs hvx;refine⟨q7x h,λ{M σ a w} H he hm=>?_⟩;rw[ho] at he;have m1:s∈(Op.call { callee:=.builtin .append,args:=#[s,y],argTypes:=#[t,t] }).operands:=nd;have m2:y∈(Op.call { callee:=.builtin .append,args:=#[s,y],argTypes:=#[t,t] }).operands:=nd;obtain⟨v,w',h1,h2⟩:=q7h (P:=P) (ty:=o.type) hcx H h hm (u:=a.eval s) (v:=a.eval y) (λJ hτ=>xu (he J hτ) m1 hvs) (λJ hτ=>xu (he J hτ) m2 hvx);unfold qys
      rw[show(execOp a.eval o).run P w=.ok (.value v) w' by
       simp only[execOp,ho,resolve,invoke,builtin]
       simpa[ai] using qqp h1]
      exact h2
     .cases h
    .cases h
   .cases h
  .rename_i fv args ats ho
   have hmem:∀x∈args.toList,x∈(Op.call { callee:=.value fv,args,argTypes:=ats }).operands:=λx hx=>by
    simp only[jn,acg,sd];exact .inr (pz.1 hx)
   have hmf:fv∈(Op.call { callee:=.value fv,args,argTypes:=ats }).operands:=nd;split at h
   .rename_i fvs az hf has;split at h
    .rename_i f p q hcal;obtain⟨q1,q2,q3⟩:=hr f _ S x S' h;refine⟨q1,λ{M σ a w} H he hm=>?_⟩;rw[ho] at he;have hfe:∀J,yw S.nx σ J->a.eval fv=.func (.func f) (qw J p).toArray (qw J q).toArray:=λJ hτ=>by rw[xu (he J hτ) hmf hf];exact qt9 hcal J
     have hsame:∀J,yw S.nx σ J->qw J p=qw σ p/\qw J q=qw σ q:=λJ hτ=>by
      have:=(hfe σ (yw.refl _ _)).symm.trans (hfe J hτ);injection this with h1 h2 h3;have h2:=congrArg adi h2;have h3:=congrArg adi h3;exact⟨h2.symm,h3.symm⟩
     have hargs:∀J,yw S.nx σ J->((qw σ p).toArray++args.map a.eval++(qw σ q).toArray).toList=(p.map (λs=>XV.v (.one s))++az++q.map (λs=>XV.v (.one s))).map (XV.den J):=λJ hτ=>by
      obtain⟨e1,e2⟩:=hsame J hτ;rw[ow,ow,qoe,qoe,e1,e2,<-qfa (g:=a.eval) has (λy hy z hz=>qzr (he J hτ) (hmem y hy) hz)];simp
     unfold qys;rw[q5l ho (hfe σ (yw.refl _ _)) q2];have:=q3 M σ w H hm _ hargs;rw[Array.toArray_toList] at this;exact this
    .cases h
   .cases h
  .cases h
end
end Ev
namespace Ev
open Go.RowKit
open Sy (Cx TD qzu yj)
variable {J:Nat->Nat}{dst:Option Tmp}
structure Mod(M:Nat->Prop)(N:Nat)(σ:Nat->Nat)(S:St)(env:jy)(a:Act)(w:World):Prop where
 hyp:qqu M σ S w
 env:∀J,yw S.nx σ J->qqz J env a
 size:a.tmps.size=N
 defers:a.defers=[]
def Nx(M:Nat->Prop)(N:Nat)(σ:Nat->Nat)(S:St)(w:nu)(S':St)(env':jy)(a':Act)(w':nu):Prop:=
 ∃σ1,yw S.nx σ σ1/\(∀g,S'.nx<=g->σ1 g=σ g)/\Mod M N σ1 S' env' a' w'/\Fr σ σ1 S S' w w'
section
variable {P:ma}{cx:Cx}{M:Nat->Prop}{N:Nat}{σ:Nat->Nat}{S S' S1:St}{env env':jy}{a a':Act}{w w' w1:nu}{o:Oper}{r:qqe}
theorem Nx.refl(h:Mod M N σ S env a w):Nx M N σ S w S env a w:=⟨σ,yw.refl _ _,λ_ _=>rfl,h,Fr.refl σ S S w h.hyp.lt⟩
theorem Nx.step{σ1:Nat->Nat}(g1:qqv S S1)(g2:qqv S1 S')(h1:yw S.nx σ σ1)(h2:∀g,S1.nx<=g->σ1 g=σ g)(h3:Fr σ σ1 S S1 w w1)(h:Nx M N σ1 S1 w1 S' env' a' w'):Nx M N σ S w S' env' a' w':=by
 obtain⟨σ2,k1,k2,k3,k4⟩:=h;exact⟨σ2,h1.trans k1 g1.nx,λg hg=>(k2 g hg).trans (h2 g (cy g2.nx hg)),k3,h3.trans k4 g1 g2 h1 k1⟩
def qub(env:jy)(dst:Option Tmp)(x:XV):jy:=match dst with
 | some d=>(d,x)::env
 | none=>env
theorem qlo{x:XV}{v:ny}(h:qqz J env a)(hv:v=x.den J)(hN:a.tmps.size=N)(hd:∀d,dst=I d->d<N):qqz J (qub env dst x) (a.put dst v):=by
 intro t y hy;cases dst with
 | none=>exact h t y hy
 | some d=>
   have hdN:=hd d rfl;simp only[qub,lk] at hy;show(a.tmps.setIfInBounds d v).getD t mc=_;split at hy
   .rename_i e;subst e;cases hy;rw[<-hv,au,bt,if_pos rfl,if_pos (by rw[hN];exact hdN)];rfl
   .rename_i e;rw[au,bt,if_neg e,<-au];exact h t y hy
theorem qcs(a:Act)(dst:Option Tmp)(v:ny):(a.put dst v).tmps.size=a.tmps.size:=by cases dst<;>simp[Act.put]
theorem put_defers(a:Act)(dst:Option Tmp)(v:ny):(a.put dst v).defers=a.defers:=by cases dst<;>rfl
theorem Mod.next{σ1:Nat->Nat}{x:XV}{v:ny}(h:Mod M N σ S env a w)(g:qqv S S1)(h1:yw S.nx σ σ1)(hs:∀J,yw S1.nx σ1 J->qfq M J S1 w1/\v=x.den J){dst:Option Tmp}(hd:∀d,dst=I d->d<N):Mod M N σ1 S1 (qub env dst x) (a.put dst v) w1:=
 ⟨h.hyp.next g (λJ hτ=>(hs J hτ).1),λJ hτ=>qlo (h.env J (h1.trans hτ g.nx)) (hs J hτ).2 h.size hd,by rw[qcs];exact h.size,by rw[put_defers];exact h.defers⟩
theorem Mod.on(h:Mod M N σ S env a w)(o:Op):∀J,yw S.nx σ J->qu3 J env o a:=λJ hτ t _ x hx=>h.env J hτ t x hx
def qbq(N:Nat)(dst:Option Tmp):Bool:=match dst with
 | some d=>decide (d<N)
 | none=>nr
theorem qnw(h:qbq N dst=nr):∀d,dst=I d->d<N:=by
 intro d hd;subst hd;exact of_decide_eq_true h
def isB(want:Bool):ny->Bool
 | .bool b=>b == want
 | _=>ns
def qa8(ops:Array Oper)(env:jy)(o:Oper):Option Bool:=match o.guard with
 | none=>I nr
 | some (j,want)=>match(ops[j]?).bind (·.dst) with
   | some d=>match lk env d with
     | some (.v (.one (.con v)))=>I (isB want v)
     | _=>V
   | none=>V
theorem qp2{ops:Array Oper}{b:Bool}(h:qa8 ops env o=I b)(he:qqz J env a)(hN:a.tmps.size=N)(hdst:∀(j:Nat) (o':Oper) (d:Tmp),ops[j]? = I o'->o'.dst=I d->d<N):ee o (yielded ops a.tmps)=b:=by
 unfold qa8 at h;unfold ee;cases hg:o.guard with
 | none=>rw[hg] at h;cases h;rfl
 | some p=>
   obtain⟨j,want⟩:=p;rw[hg] at h;simp only at h;split at h
   .rename_i d hd;split at h
    .rename_i v hβ;cases h;have hv:=he d _ hβ
     have hdN:d<N:=by
      cases hq:ops[j]? with
      | none=>rw[hq] at hd;cases hd
      | some o'=>rw[hq] at hd;exact hdst j o' d hq hd
     have hv2:a.tmps[d]? = I v:=by
      rw[au,ak (by rw[hN];exact hdN)] at hv;rw[ak (by rw[hN];exact hdN)];exact congrArg I hv
     clear hv hβ
     have:((match yielded ops a.tmps j with|some x=>I x == I want|none=>ns):Bool)=isB want v/\(yielded ops a.tmps j == I want)=isB want v:=by
      unfold yielded;rw[hd,Option.bind_some,hv2];cases v<;>exact⟨rfl,rfl⟩
     exact this.2
    .cases h
   .cases h
def qgr(P:ma)(cx:Cx)(r:qqe)(ops:Array Oper):List Oper->jy->St->Option (jy×St)
 | [],env,S=>I (env,S)
 | o::rest,env,S=>match qa8 ops env o with
   | some true=>match q4q P cx r env S o with
     | some (x,S1)=>qgr P cx r ops rest (qub env o.dst x) S1
     | none=>V
   | some false=>qgr P cx r ops rest (qub env o.dst qag) S
   | none=>V
theorem qdu(hcx:yj P cx)(hr:qxu P r){ops:Array Oper}:∀{l:List Oper} {env:jy} {S:St} {env':jy} {S':St},qgr P cx r ops l env S=I (env',S')->qqv S S'
 | [],env,S,env',S',h=>by cases h;exact qqv.refl _
 | o::rest,env,S,env',S',h=>by
   unfold qgr at h;split at h
   .split at h
    .rename_i x S1 h1;exact(qhu hcx hr h1).1.trans (qdu hcx hr h)
    .cases h
   .exact qdu hcx hr h
   .cases h
theorem qip(hcx:yj P cx)(hr:qxu P r){ops:Array Oper}(hdst:∀(j:Nat) (o':Oper) (d:Tmp),ops[j]? = I o'->o'.dst=I d->d<N):∀{l:List Oper},(∀o∈l,∀d,o.dst=I d->d<N)->∀{env:jy} {S:St} {env':jy} {S':St} {σ:Nat->Nat} {a:Act} {w:nu} {Q:Exit->Act->nu->Prop},qgr P cx r ops l env S=I (env',S') ->
  Mod M N σ S env a w->(∀g,S'.ac.testBit g=nr->M g)->(∀a' w',Nx M N σ S w S' env' a' w'->Q .normal a' w')->wpList P ops Q l a w
 | [],_,env,S,env',S',σ,a,w,Q,h,hm,hM,hQ=>by
   cases h;exact hQ a w (Nx.refl hm)
 | o::rest,hl,env,S,env',S',σ,a,w,Q,h,hm,hM,hQ=>by
   unfold qgr at h;have hd:=hl o kq;split at h
   .rename_i hw;have hw':=qp2 hw (hm.env σ (yw.refl _ _)) hm.size hdst;split at h
    .rename_i x S1 h1;obtain⟨k1,k2⟩:=qhu hcx hr h1;have k3:=qdu hcx hr h;have hst:=k2 hm.hyp (hm.on o.op) (λg hg=>hM g (k3.ac g hg))
     have hK:∀v w1,qxb M σ S w x S1 v w1->wpList P ops Q rest (a.put o.dst v) w1:=λv w1 ⟨σ1,a1,a2,a3,a4⟩=>
      qip hcx hr hdst (λo' ho'=>hl o' (by simp[ho'])) h (hm.next k1 a1 a3 hd) hM (λa' w' hn=>hQ a' w' (Nx.step k1 k3 a1 a2 a4 hn))
     unfold wpList;rw[if_pos hw'];left;unfold qys at hst;unfold Oper.wp;generalize (execOp a.eval o).run P w=res at hst;cases res with
     | ok nx w1=>
       cases nx<;>simp only[qx.qc] at hst<;>simp only[Oper.upon]
       .exact hK _ _ hst
       .exact hK _ _ hst
       .exact hst.mono λe w2 ⟨v,he,hR⟩=>by subst he;exact hK v w2 hR
     | halt x w1=>simp only[qx.qc] at hst
    .cases h
   .rename_i hw;have hw':=qp2 hw (hm.env σ (yw.refl _ _)) hm.size hdst;unfold wpList;rw[if_neg (by rw[hw'];simp)];have hm1:Mod M N σ S (qub env o.dst qag) (a.put o.dst mc) w:=hm.next (qqv.refl S) (yw.refl _ _) (λJ hτ=>⟨hm.hyp.sat J hτ,rfl⟩) hd;exact qip hcx hr hdst (λo' ho'=>hl o' (by simp[ho'])) h hm1 hM hQ
   .cases h
end
end Ev
namespace Ev
open Go.RowKit
open qx (zi idxOf waits puts)
open Sy (Cx TD qzu yj ui bit qjk qy4 qyn)
variable {b g m n:Nat}{σ J:Nat->Nat}
mutual
def SV.ids:SV->Nat
 | .con _=>0
 | .ptr g _=>2^g
 | .sl g _ _ V _=>2^g
 | .sl g _ _ (I k) _=>2^g ||| 2^k
 | .fn _ a b=>qdl a ||| qdl b
def qdl:List SV->Nat
 | []=>0
 | s::r=>s.ids ||| qdl r
end
def Ag(m:Nat)(σ J:Nat->Nat):Prop:=∀g,m.testBit g=nr->σ g=J g
theorem Ag.left(h:Ag (m ||| n) σ J):Ag m σ J:=λg hg=>h g (by rw[jm,hg];rfl)
theorem Ag.right(h:Ag (m ||| n) σ J):Ag n σ J:=λg hg=>h g (by rw[jm,hg,fj])
theorem Ag.sub(h:Ag n σ J)(hs:∀g,m.testBit g=nr->n.testBit g=nr):Ag m σ J:=λg hg=>h g (hs g hg)
mutual
theorem qek{σ J:Nat->Nat}:∀(s:SV),Ag s.ids σ J->s.den σ=s.den J
 | .con v,_=>by simp only[SV.den]
 | .ptr g o,h=>by
   have:σ g=J g:=h g (qq9 g);simp only[SV.den,this]
 | .sl g o n V c,h=>by
   have:σ g=J g:=h g (qq9 g);simp only[SV.den,this]
 | .sl g o n (I k) c,h=>by
   have h1:σ g=J g:=h.left g (qq9 g);have h2:σ k=J k:=h.right k (qq9 k);simp only[SV.den,h1,h2]
 | .fn f a b,h=>by
   simp only[SV.den,qu0 a h.left,qu0 b h.right]
theorem qu0{σ J:Nat->Nat}:∀(l:List SV),Ag (qdl l) σ J->qw σ l=qw J l
 | [],_=>by simp only[qw]
 | s::r,h=>by simp only[qw,qek s h.left,qu0 r h.right]
end
def TV.ids:TV->Nat
 | .one s=>s.ids
 | .agg l=>qdl l
def idsT:List TV->Nat
 | []=>0
 | t::r=>t.ids ||| idsT r
def XV.ids:XV->Nat
 | .v t=>t.ids
 | .tup l=>idsT l
theorem TV.congr(t:TV)(h:Ag t.ids σ J):t.den σ=t.den J:=by
 cases t with
 | one s=>exact qek s h
 | agg l=>simp only[TV.den,qu0 l h]
theorem qhl{σ J:Nat->Nat}:∀(l:List TV),Ag (idsT l) σ J->l.map (TV.den σ)=l.map (TV.den J)
 | [],_=>rfl
 | t::r,h=>by rw[fg,fg,TV.congr t h.left,qhl r h.right]
theorem XV.congr{σ J:Nat->Nat}(x:XV)(h:Ag x.ids σ J):x.den σ=x.den J:=by
 cases x with
 | v t=>exact TV.congr t h
 | tup l=>simp only[XV.den,qhl l h]
def Blk.ids(B:Blk):Nat:=qdl B.cs ||| (match B.cap with|none=>0|some (k,_)=>2^k)
theorem qot:∀{l:List SV} {i:Nat} {s:SV},l[i]? = I s->∀g,s.ids.testBit g=nr->(qdl l).testBit g=nr
 | [],i,s,h,_,_=>by simp at h
 | s'::r,0,s,h,g,hg=>by
   simp only[db,bc] at h;subst h;rw[qdl,jm,hg];rfl
 | s'::r,i+1,s,h,g,hg=>by
   rw[qdl,jm,qot (l:=r) (i:=i) (by simpa using h) g hg,fj]
theorem qyj.congr{B:Blk}{w:nu}(h:qyj σ B b w)(ha:Ag B.ids σ J):qyj J B b w:=by
 obtain⟨cs,h1,h2,h3,h4⟩:=h;refine⟨cs,h1,h2,?_,λi s hi=>?_⟩
 .have ha2:=ha.right;revert h3 ha2;cases B.cap with
  | none=>exact λh _=>h
  | some p=>
    obtain⟨k,sz⟩:=p;intro h ha2;have:σ k=J k:=ha2 k (qq9 k);show cs.size=J k*sz/\J k<=mf;rw[<-this];exact h
 .rw[h4 i s hi,qek s (ha.left.sub (qot hi))]
def qvv(S:St):St:={ S with ac:=0,wr:=0 }
def qfp(P:ma)(cx:Cx)(r:qqe)(ops:Array Oper):List Oper->jy->St->Option (List (XV×St))
 | [],_,_=>I []
 | o::rest,env,S=>match qa8 ops env o with
   | some true=>match q4q P cx r env (qvv S) o with
     | some (x,S1)=>match qfp P cx r ops rest (qub env o.dst x) S1 with
       | some l=>I ((x,S1)::l)
       | none=>V
     | none=>V
   | some false=>match qfp P cx r ops rest (qub env o.dst qag) (qvv S) with
     | some l=>I ((qag,qvv S)::l)
     | none=>V
   | none=>V
def je(S:St)(rs:List (XV×St)):Nat->St
 | 0=>S
 | i+1=>match rs[i]? with
   | some p=>p.2
   | none=>S
def qjp:List Oper->List (XV×St)->jy->Nat->jy
 | _,_,env,0=>env
 | o::l,p::rs,env,i+1=>qjp l rs (qub env o.dst p.1) i
 | _,_,env,_+1=>env
def atP(P:ma)(cx:Cx)(r:qqe)(ops:Array Oper)(env:jy)(S:St)(o:Oper)(p:XV×St):Prop:=
 qa8 ops env o=I nr/\q4q P cx r env (qvv S) o=I p\/qa8 ops env o=I ns/\p=(qag,qvv S)
theorem qok(S:St)(p:XV×St)(rs:List (XV×St))(i:Nat)(h:i<=rs.length):je S (p::rs) (i+1)=je p.2 rs i:=by
 cases i with
 | zero=>rfl
 | succ i=>
   have:(rs[i]?).isSome=nr:=nc;simp only[je,fq];cases hq:rs[i]? with
   | none=>rw[hq] at this;cases this
   | some q=>rfl
theorem qgu{P:ma}{cx:Cx}{r:qqe}{ops:Array Oper}:∀{l:List Oper} {env:jy} {S:St} {rs:List (XV×St)},qfp P cx r ops l env S=I rs ->
  rs.length=l.length/\∀(i:Nat) (o:Oper) (p:XV×St),l[i]? = I o->rs[i]? = I p->atP P cx r ops (qjp l rs env i) (je S rs i) o p
 | [],env,S,rs,h=>by cases h;exact⟨rfl,λi o p h=>by simp at h⟩
 | o::l,env,S,rs,h=>by
   unfold qfp at h;split at h
   .rename_i hw;split at h
    .rename_i x S1 h1;split at h
     .rename_i rs' h2;cases h;obtain⟨k1,k2⟩:=qgu h2;refine⟨by simp[k1],λi o' p ho hp=>?_⟩;cases i with
      | zero=>
        simp only[db,bc] at ho hp;subst ho;subst hp;exact .inl ⟨hw,h1⟩
      | succ i=>
        simp only[fq] at ho hp;have:=k2 i o' p ho hp;rw[qok _ _ _ _ (by have:=(al.1 hp).1;omega)];exact this
     .cases h
    .cases h
   .rename_i hw;split at h
    .rename_i rs' h2;cases h;obtain⟨k1,k2⟩:=qgu h2;refine⟨by simp[k1],λi o' p ho hp=>?_⟩;cases i with
     | zero=>
       simp only[db,bc] at ho hp;subst ho;subst hp;exact .inr ⟨hw,rfl⟩
     | succ i=>
       simp only[fq] at ho hp;have:=k2 i o' p ho hp;rw[qok _ _ _ _ (by have:=(al.1 hp).1;omega)];exact this
    .cases h
   .cases h
theorem lk_put{env:jy}{dst:Option Tmp}{x:XV}{t:Nat}(h:dst≠I t):lk (qub env dst x) t=lk env t:=by
 cases dst with
 | none=>rfl
 | some d=>
   simp only[qub,lk];rw[if_neg (λe=>h (by rw[e]))]
theorem qan{t:Nat}:∀{l:List Oper} {rs:List (XV×St)} {env:jy} {i:Nat},(∀(k:Nat) (o:Oper),k<i->l[k]? = I o->o.dst≠I t)->lk (qjp l rs env i) t=lk env t
 | _,_,env,0,_=>by unfold qjp;rfl
 | [],_,env,i+1,_=>rfl
 | _::_,[],env,i+1,_=>rfl
 | o::l,p::rs,env,i+1,h=>by
   rw[qjp,qan (λk o' hk ho'=>h (k+1) o' kg (by simpa using ho'))];exact lk_put (h 0 o kg rfl)
theorem qe9{t:Nat}{o:Oper}{p:XV×St}:∀{l:List Oper} {rs:List (XV×St)} {env:jy} {i k:Nat},k<i->l[k]? = I o->rs[k]? = I p->o.dst=I t->(∀(k':Nat) (o':Oper),k'<i->k'≠k->l[k']? = I o'->o'.dst≠I t)->lk (qjp l rs env i) t=I p.1
 | l,rs,env,0,k,h,_,_,_,_=>kg
 | [],rs,env,i+1,k,_,h,_,_,_=>by simp at h
 | _::_,[],env,i+1,k,_,_,h,_,_=>by simp at h
 | o'::l,p'::rs,env,i+1,0,hk,ho,hp,hd,hn=>by
   simp only[db,bc] at ho hp;subst ho;subst hp;rw[qjp,qan (λk o2 hk2 ho2=>hn (k+1) o2 kg kg (by simpa using ho2)),hd];simp[qub,lk]
 | o'::l,p'::rs,env,i+1,k+1,hk,ho,hp,hd,hn=>by
   rw[qjp];exact qe9 (k:=k) kg (by simpa using ho) (by simpa using hp) hd (λk' o2 h1 h2 h3=>hn (k'+1) o2 kg kg (by simpa using h3))
def newM(a b:Nat):Nat:=(2^(b-a)-1) <<< a
theorem q47{a:Nat}:(newM a b).testBit g=nr↔a<=g/\g<b:=by
 unfold newM;rw[Nat.testBit_shiftLeft,Nat.testBit_two_pow_sub_one];simp only[ag,decide_eq_true_eq];omega
def qaj(wr:Nat):List (Nat×Option Blk)->Nat
 | []=>0
 | (g,I B)::r=>if wr.testBit g then B.ids ||| qaj wr r else qaj wr r
 | (_,V)::r=>qaj wr r
theorem qdy{wr:Nat}:∀{H:List (Nat×Option Blk)} {g:Nat} {B:Blk},lk H g=I (I B)->wr.testBit g=nr->∀i,B.ids.testBit i=nr->(qaj wr H).testBit i=nr
 | [],g,B,h,_,_,_=>by cases h
 | (g',V)::r,g,B,h,hw,i,hi=>by
   unfold lk at h;split at h
   .cases h
   .exact qdy (H:=r) h hw i hi
 | (g',I B')::r,g,B,h,hw,i,hi=>by
   unfold lk at h;unfold qaj;split at h
   .rename_i e;subst e;cases h;rw[if_pos hw,jm,hi];rfl
   .have:=qdy (H:=r) h hw i hi;split
    .rw[jm,this,fj]
    .exact this
def qxm(p:XV×St):Nat:=p.1.ids ||| p.2.ac ||| (if p.2.wr=0 then 0 else qaj p.2.wr p.2.H)
def qef(ms:List Nat)(rs:List (XV×St))(wr nw j:Nat):Nat->List (XV×St)->Bool
 | _,[]=>nr
 | i,p::r=>(decide (i=j) || ((bit ms i j || decide (qxm p &&& nw=0)) && (bit ms i j || bit ms j i || decide (p.2.ac &&& wr=0)))) && qef ms rs wr nw j (i+1) r
def qex(ms:List Nat)(S:St)(rs:List (XV×St)):Nat->Nat->List (XV×St)->Bool
 | _,_,[]=>nr
 | j,n0,p::r=>decide (p.2.wr &&& p.2.ac=p.2.wr/\qxm p<2^p.2.nx) && (if p.2.wr=0 then decide (p.2.nx=n0) else qef ms rs p.2.wr (newM n0 p.2.nx) j 0 rs) && qex ms S rs (j+1) p.2.nx r
theorem and_zero(h:m &&& n=0)(h1:m.testBit g=nr):n.testBit g=ns:=by
 have:(m &&& n).testBit g=ns:=by rw[h];exact xl g
 rw[abr,h1,Bool.true_and] at this;exact this
theorem qes{ms:List Nat}{rs:List (XV×St)}{wr nw j:Nat}:∀{l:List (XV×St)} {i0:Nat},qef ms rs wr nw j i0 l=nr->∀i p,l[i]? = I p->i0+i≠j->(bit ms (i0+i) j=ns->qxm p &&& nw=0)/\(bit ms (i0+i) j=ns->bit ms j (i0+i)=ns->p.2.ac &&& wr=0)
 | [],i0,h,i,p,hp,_=>by simp at hp
 | q::l,i0,h,i,p,hp,hne=>by
   simp only[qef,ag,cj,decide_eq_true_eq] at h;obtain⟨h1,h2⟩:=h;cases i with
   | zero=>
     simp only[db,bc] at hp;subst hp;rw[Nat.add_zero] at hne ⊢;rcases h1 with h1|⟨h3,h4⟩
     .exact absurd h1 hne
     .exact⟨λe=>by rcases h3 with h|h;rw[e] at h;cases h;exact h,λe e2=>by rcases h4 with(h|h)|h;rw[e] at h;cases h;rw[e2] at h;cases h;exact h⟩
   | succ i=>
     have:=qes h2 i p (by simpa using hp) kg;rw[show i0+1+i=i0+(i+1) by omega] at this;exact this
theorem qmj{ms:List Nat}{S:St}{rs:List (XV×St)}:∀{l:List (XV×St)} {j0 n0:Nat},qex ms S rs j0 n0 l=nr->∀j p,l[j]? = I p ->
  (∀g,p.2.wr.testBit g=nr->p.2.ac.testBit g=nr)/\(∀g,(qxm p).testBit g=nr->g<p.2.nx)/\∃n,(n=if j=0 then n0 else match l[j-1]? with|some q=>q.2.nx|none=>0)/\(p.2.wr=0->p.2.nx=n)/\(p.2.wr≠0->qef ms rs p.2.wr (newM n p.2.nx) (j0+j) 0 rs=nr)
 | [],j0,n0,h,j,p,hp=>by simp at hp
 | q::l,j0,n0,h,j,p,hp=>by
   simp only[qex,ag,decide_eq_true_eq] at h;obtain⟨⟨h1,h2⟩,h3⟩:=h;cases j with
   | zero=>
     simp only[db,bc] at hp;subst hp;refine⟨λg hg=>?_,λg hg=>?_,n0,rfl,λe=>?_,λe=>?_⟩
     .rw[<-h1.1,abr,ag] at hg;exact hg.2
     .rcases dw g q.2.nx with h4|h4
      .exact h4
      .have:(qxm q).testBit g=ns:=yn (bf h1.2 (zj kg h4));rw[this] at hg;cases hg
     .rw[if_pos e] at h2;exact of_decide_eq_true h2
     .rw[if_neg e] at h2;exact h2
   | succ j=>
     obtain⟨k1,k5,n,k2,k3,k4⟩:=qmj h3 j p (by simpa using hp);refine⟨k1,k5,n,?_,k3,by rw[show j0+(j+1)=j0+1+j by omega];exact k4⟩;rw[if_neg kg,k2];cases j with
     | zero=>rfl
     | succ j=>simp
def qrp:Nat->List Nat->Bool
 | _,[]=>nr
 | i,x::r=>decide (x<2^i) && qrp (i+1) r
theorem qtu:∀{ms:List Nat} {i0:Nat},qrp i0 ms=nr->∀i k,bit ms i k=nr->k<i0+i
 | [],i0,h,i,k,hb=>by simp[bit] at hb
 | x::r,i0,h,i,k,hb=>by
   simp only[qrp,ag,decide_eq_true_eq] at h;cases i with
   | zero=>
     rcases dw k i0 with h1|h1
     .exact h1
     .have:x.testBit k=ns:=yn (bf h.1 (zj kg h1));have hb':x.testBit k=nr:=by simpa[bit] using hb
      rw[this] at hb';cases hb'
   | succ i=>
     have:=qtu h.2 i k (by simpa[bit] using hb);omega
def orM(f:XV×St->Nat):List (XV×St)->Nat
 | []=>0
 | p::r=>f p ||| orM f r
def qik(P:ma)(cx:Cx)(r:qqe)(N:Nat)(ops:Array Oper)(env:jy)(S:St):Option (jy×St):=
 if Reg9g.qqt ops ops.size && ops.toList.all (λo=>qbq N o.dst) then match qfp P cx r ops ops.toList env S with
  | some rs=>if qex (ui ops.toList []) S rs 0 S.nx rs && qrp 0 (ui ops.toList []) then I (qjp ops.toList rs env ops.size,{ je S rs ops.size with ac:=S.ac ||| orM (λp=>p.2.ac) rs,wr:=S.wr ||| orM (λp=>p.2.wr) rs }) else V
  | none=>V
 else V
theorem qau{f:XV×St->Nat}{g:Nat}:∀{l:List (XV×St)},(orM f l).testBit g=nr↔∃(i:Nat) (p:XV×St),l[i]? = I p/\(f p).testBit g=nr
 | []=>by simp[orM]
 | q::l=>by
   rw[orM,jm,cj,qau (l:=l)];constructor
   .rintro(h|⟨i,p,h1,h2⟩)
    .exact⟨0,q,rfl,h⟩
    .exact⟨i+1,p,by simpa using h1,h2⟩
   .rintro⟨i,p,h1,h2⟩;cases i with
    | zero=>simp only[db,bc] at h1;subst h1;exact .inl h2
    | succ i=>exact .inr ⟨i,p,by simpa using h1,h2⟩
end Ev
namespace Ev
open Go.RowKit
open qx (zi idxOf waits puts qc)
open Reg9g (qqt qqw opG)
open Sy (Cx TD qzu yj ui bit qjk qy4 qyn)
variable {B:Blk}{g i:Nat}
def RP(S:St)(rs:List (XV×St))(i:Nat):XV×St:=rs.getD i (qag,S)
def WR(S:St)(rs:List (XV×St))(i g:Nat):Prop:=(RP S rs i).2.wr.testBit g=nr
def AC(S:St)(rs:List (XV×St))(i g:Nat):Prop:=(RP S rs i).2.ac.testBit g=nr
structure qcl(m:Nat)(S:St)(rs:List (XV×St)):Prop where
 len:rs.length=m
 gos:∀i,i<m->qqv (qvv (je S rs i)) (je S rs (i+1))
structure qfx(ms:List Nat)(m:Nat)(S:St)(rs:List (XV×St)):Prop extends qcl m S rs where
 lt:∀g B,S.get g=I B->g<S.nx
 wrac:∀i g,i<m->WR S rs i g->AC S rs i g
 idnx:∀i g,i<m->(qxm (RP S rs i)).testBit g=nr->g<(je S rs (i+1)).nx
 scope:∀i j,i<m->j<m->i≠j->bit ms i j=ns->∀g,(qxm (RP S rs i)).testBit g=nr->¬((je S rs j).nx<=g/\g<(je S rs (j+1)).nx)
 fwd:∀i k,bit ms i k=nr->k<i
 race:∀i j,i<m->j<m->i≠j->bit ms i j=ns->bit ms j i=ns->∀g,AC S rs i g->¬WR S rs j g
section
variable {P:ma}{cx:Cx}{M:Nat->Prop}{N m:Nat}{σ0:Nat->Nat}{S S':St}{env env':jy}{a a':Act}{w w0 w':nu}{o:Oper}{r:qqe}{ms:List Nat}{rs:List (XV×St)}{ops:Array Oper}{L:Nat->Bool}
theorem qyo(h:i<rs.length):je S rs (i+1)=(RP S rs i).2:=by
 simp only[je,RP,bn,ah h];rfl
theorem q5w(S:St)(g:Nat):(qvv S).get g=S.get g:=rfl
theorem qcl.nx(h:qcl m S rs){i j:Nat}(hij:i<=j)(hj:j<=m):(je S rs i).nx<=(je S rs j).nx:=by
 induction j with
 | zero=>rw[aaz.1 hij];exact af _
 | succ j ih=>
   by_cases e:i=j+1
   .rw[e];exact af _
   .exact cy (ih kg kg) (h.gos j kg).nx
theorem qcl.hold(h:qcl m S rs){i j g:Nat}(hij:i<=j)(hj:j<=m)(hg:g<(je S rs i).nx)(hw:∀k,i<=k->k<j->¬WR S rs k g):(je S rs j).get g=(je S rs i).get g:=by
 induction j with
 | zero=>rw[aaz.1 hij]
 | succ j ih=>
   by_cases e:i=j+1
   .rw[e]
   .rw[<-ih kg kg (λk h1 h2=>hw k h1 kg),<-q5w (je S rs j)];refine(h.gos j kg).hold g (bf hg (h.nx kg kg)) ?_;have:=hw j kg kg;unfold WR at this;rw[<-qyo (by rw[h.len];omega)] at this;simpa using this
theorem qcl.old(h:qcl m S rs){i j g:Nat}{B:Blk}(hij:i<=j)(hj:j<=m)(hg:g<(je S rs i).nx)(hB:(je S rs j).get g=I B):∃B0,(je S rs i).get g=I B0:=by
 induction j generalizing B with
 | zero=>rw[aaz.1 hij];exact⟨B,hB⟩
 | succ j ih=>
   by_cases e:i=j+1
   .rw[e];exact⟨B,hB⟩
   .obtain⟨B1,h1⟩:=(h.gos j kg).old g B (bf hg (h.nx kg kg)) hB;exact ih kg kg h1
theorem qfx.ltP(h:qfx ms m S rs)(hi:i<=m)(hB:(je S rs i).get g=I B):g<(je S rs i).nx:=by
 induction i generalizing g B with
 | zero=>exact h.lt g B hB
 | succ i ih=>exact(h.gos i kg).lt (λg' B' h'=>ih kg h') g B hB
def qhx(S:St)(rs:List (XV×St))(m:Nat)(L:Nat->Bool)(g k:Nat):Prop:=k<m/\L k=nr/\WR S rs k g/\∀k',k<k'->k'<m->L k'=nr->¬WR S rs k' g
def qro(S:St)(rs:List (XV×St))(m:Nat)(L:Nat->Bool)(g:Nat):Prop:=∀k,k<m->L k=nr->¬WR S rs k g
def qjy(S:St)(rs:List (XV×St))(m:Nat)(L:Nat->Bool)(g:Nat)(B:Blk):Prop:=(∃k,qhx S rs m L g k/\(je S rs (k+1)).get g=I B)\/qro S rs m L g/\S.get g=I B
theorem qtx(L:Nat->Bool)(g:Nat):(∃k,qhx S rs m L g k)\/qro S rs m L g:=by
 induction m with
 | zero=>exact .inr (λk hk=>kg)
 | succ m ih=>
   by_cases h:L m=nr/\WR S rs m g
   .exact .inl ⟨m,kg,h.1,h.2,λk' h1 h2=>kg⟩
   .rcases ih with⟨k,h1,h2,h3,h4⟩|h1
    .refine .inl ⟨k,kg,h2,h3,λk' q1 q2 q3 q4=>?_⟩;by_cases e:k'=m
     .subst e;exact h ⟨q3,q4⟩
     .exact h4 k' q1 kg q3 q4
    .refine .inr (λk hk h2 h3=>?_);by_cases e:k=m
     .subst e;exact h ⟨h2,h3⟩
     .exact h1 k kg h2 h3
theorem qof(h:AC S rs i g):(qxm (RP S rs i)).testBit g=nr:=by
 unfold qxm;rw[jm,jm,show(RP S rs i).2.ac.testBit g=nr from h,fj];rfl
theorem qwa(h:(RP S rs i).1.ids.testBit g=nr):(qxm (RP S rs i)).testBit g=nr:=by
 unfold qxm;rw[jm,jm,h];rfl
theorem get_lk{S:St}(h:S.get g=I B):lk S.H g=I (I B):=by
 unfold St.get at h;cases hq:lk S.H g with
 | none=>rw[hq] at h;cases h
 | some b=>rw[hq] at h;simp only at h;rw[h]
theorem qir{k:Nat}(hk:k<rs.length)(hw:WR S rs k g)(hB:(je S rs (k+1)).get g=I B):∀i,B.ids.testBit i=nr->(qxm (RP S rs k)).testBit i=nr:=by
 intro i hi;rw[qyo hk] at hB
 have hne:¬(RP S rs k).2.wr=0:=λe=>by
  have:(RP S rs k).2.wr.testBit g=nr:=hw;rw[e,xl] at this;cases this
 unfold qxm;rw[if_neg hne,jm,qdy (get_lk hB) hw i hi,fj]
theorem qfx.made(h:qfx ms m S rs){i g:Nat}{B:Blk}(hi:i<=m)(hg:S.nx<=g)(hB:(je S rs i).get g=I B):∃k,k<i/\WR S rs k g:=by
 induction i generalizing B with
 | zero=>have:=h.lt g B hB;omega
 | succ i ih=>
   have hgs:=h.gos i kg;by_cases hgi:g<(je S rs i).nx
   .obtain⟨B0,h0⟩:=hgs.old g B hgi hB;obtain⟨k,h1,h2⟩:=ih kg h0;exact⟨k,kg,h2⟩
   .have:=hgs.made (λg' B' h'=>h.ltP kg h') g B (by show(je S rs i).nx<=g;omega) hB;rw[qyo (by rw[h.len];omega)] at this;exact⟨i,kg,this⟩
theorem qfx.cont(h:qfx ms m S rs)(him:i<m)(hL:L i=ns)(hdo:∀k,bit ms i k=nr->i≠k->L k=nr)(hdn:∀j k,bit ms j k=nr->L j=nr->L k=nr)(hac:AC S rs i g)(hg:g<(je S rs i).nx)(hB:(je S rs i).get g=I B):(∃k,k<i/\qhx S rs m L g k/\(je S rs (k+1)).get g=I B)\/qro S rs m L g/\S.get g=I B:=by
 have hlate:∀k',k'<m->i<=k'->L k'=nr->¬WR S rs k' g:=λk' h1 h2 h3 h4=>by
  have hne:i≠k':=λe=>by rw[e,h3] at hL;cases hL
  cases q1:bit ms k' i with
  | true=>have:=hdn k' i q1 h3;rw[hL] at this;cases this
  | false=>
    cases q2:bit ms i k' with
    | true=>have:=h.fwd i k' q2;omega
    | false=>exact h.race i k' him h1 hne q2 q1 g hac h4
 have qom:∀k,k<i->WR S rs k g->L k=nr:=λk h1 h2=>by
  cases q2:bit ms i k with
  | true=>exact hdo k q2 kg
  | false=>
    cases q1:bit ms k i with
    | true=>have:=h.fwd k i q1;omega
    | false=>exact absurd h2 (h.race i k him kg kg q2 q1 g hac)
 rcases qtx (S:=S) (rs:=rs) (m:=m) L g with⟨k,hk⟩|hn
 .obtain⟨k1,k2,k3,k4⟩:=hk
  have hki:k<i:=by
   rcases dw k i with h1|h1
   .exact h1
   .exact absurd k3 (hlate k k1 h1 k2)
  refine .inl ⟨k,hki,⟨k1,k2,k3,k4⟩,?_⟩
  have hgk:g<(je S rs (k+1)).nx:=by
   have hB':=hB;rcases dw g (je S rs (k+1)).nx with h1|h1
   .exact h1
   .exfalso;have:=h.idnx k g k1 (qof (h.wrac k g k1 k3));omega
  rw[<-hB];exact(h.hold (show k+1<=i by omega) kg hgk (λk' q1 q2 q3=>k4 k' kg kg (qom k' q2 q3) q3)).symm
 .refine .inr ⟨hn,?_⟩
  have hgS:g<S.nx:=by
   rcases dw g S.nx with h1|h1
   .exact h1
   .exfalso;obtain⟨k,q1,q2⟩:=h.made kg h1 hB;exact hn k kg (qom k q1 q2) q2
  rw[<-hB];exact(h.hold (show 0<=i by omega) kg hgS (λk' q1 q2 q3=>hn k' kg (qom k' q2 q3) q3)).symm
end
end Ev
namespace Ev
open Go.RowKit
open qx (zi idxOf waits puts qc)
open Reg9g (qqt qqw opG)
open Sy (Cx TD qzu yj ui bit qjk qy4 qyn)
variable {i:Nat}
structure qa3(M:Nat->Prop)(σ0:Nat->Nat)(w0:World)(m:Nat)(S:St)(rs:List (XV×St))(L:Nat->Bool)(vals:Nat->Value)(w:World)(σ:Nat->Nat):Prop where
 agr:yw S.nx σ0 σ
 out:∀g,(je S rs m).nx<=g->σ g=σ0 g
 vals:∀k,k<m->L k=nr->vals k=(RP S rs k).1.den σ
 blk1:∀g B k,M g->qhx S rs m L g k->(je S rs (k+1)).get g=I B->qyj σ B (σ g) w
 blk0:∀g B,M g->qro S rs m L g->S.get g=I B->∀J,yw S.nx σ0 J->qyj J B (J g) w
 inj:∀g g' B B',M g->M g'->qjy S rs m L g B->qjy S rs m L g' B'->σ g=σ g'->g=g'
 size:w0.heap.size<=w.heap.size
 os:w.os=w0.os
 tape:w.tape=w0.tape
 output:w.output=w0.output
 keep:∀b,b<w0.heap.size->(∀g B k,g<S.nx->k<m->L k=nr->WR S rs k g->S.get g=I B->σ0 g≠b)->w.heap[b]? = w0.heap[b]?
 new:∀g B,S.nx<=g->qjy S rs m L g B->w0.heap.size<=σ g\/∃g0 B0 k,g0<S.nx/\S.get g0=I B0/\k<m/\L k=nr/\WR S rs k g0/\σ g=σ0 g0
def Mi(S:St)(rs:List (XV×St))(i:Nat):Nat->Prop:=λg=>AC S rs i g\/(je S rs i).nx<=g
section
variable {P:ma}{cx:Cx}{M:Nat->Prop}{N m:Nat}{σ0 σ:Nat->Nat}{S S':St}{env env':jy}{a a':Act}{w w0 w1 w':nu}{o:Oper}{r:qqe}{ms:List Nat}{rs:List (XV×St)}{ops:Array Oper}{L:Nat->Bool}{vals:Nat->ny}
theorem qa3.ok(inv:qa3 M σ0 w0 m S rs L vals w σ){g:Nat}{B:Blk}(hm:M g)(hc:qjy S rs m L g B):qyj σ B (σ g) w:=by
 rcases hc with⟨k,h1,h2⟩|⟨h1,h2⟩
 .exact inv.blk1 g B k hm h1 h2
 .exact inv.blk0 g B hm h1 h2 σ inv.agr
theorem qa3.hyp(c:qfx ms m S rs)(inv:qa3 M σ0 w0 m S rs L vals w σ)(him:i<m)(hL:L i=ns)(hdo:∀k,bit ms i k=nr->i≠k->L k=nr)(hdn:∀j k,bit ms j k=nr->L j=nr->L k=nr)(hM:∀i g,i<m->AC S rs i g->M g) :
  qqu (Mi S rs i) σ (qvv (je S rs i)) w:=by
 have qb4:S.nx<=(je S rs i).nx:=c.nx (show 0<=i by omega) kg
 have hcont:∀g B,Mi S rs i g->(je S rs i).get g=I B->AC S rs i g/\g<(je S rs i).nx/\((∃k,k<i/\qhx S rs m L g k/\(je S rs (k+1)).get g=I B)\/qro S rs m L g/\S.get g=I B):=λg B hm hB=>by
  have hlt:=c.ltP kg hB;have hac:AC S rs i g:=by rcases hm with h|h;exact h;omega
  exact⟨hac,hlt,c.cont him hL hdo hdn hac hlt hB⟩
 refine⟨λJ hτ=>⟨λg B hm hB=>?_,λg g' B B' m1 m2 b1 b2 e=>?_⟩,λg B hB=>c.ltP kg hB,λg hg=>.inr hg⟩
 .have hτ':yw (je S rs i).nx σ J:=hτ;obtain⟨hac,hlt,h|⟨h1,h2⟩⟩:=hcont g B hm hB
  .obtain⟨k,hk,h1,h2⟩:=h;have hok:=inv.blk1 g B k (hM i g him hac) h1 h2;rw[hτ' g hlt];refine hok.congr (λj hj=>(hτ' j ?_).symm);have:=c.idnx k j h1.1 (qir (by rw[c.len];exact h1.1) h1.2.2.1 h2 j hj);exact bf this (c.nx kg kg)
  .exact inv.blk0 g B (hM i g him hac) h1 h2 J (inv.agr.trans hτ' qb4)
 .have hτ':yw (je S rs i).nx σ J:=hτ;obtain⟨hac1,hlt1,h1⟩:=hcont g B m1 b1;obtain⟨hac2,hlt2,h2⟩:=hcont g' B' m2 b2;have c1:qjy S rs m L g B:=by rcases h1 with⟨k,-,q1,q2⟩|q;exact .inl ⟨k,q1,q2⟩;exact .inr q
  have c2:qjy S rs m L g' B':=by rcases h2 with⟨k,-,q1,q2⟩|q;exact .inl ⟨k,q1,q2⟩;exact .inr q
  exact inv.inj g g' B B' (hM i g him hac1) (hM i g' him hac2) c1 c2 (by rw[<-hτ' g hlt1,<-hτ' g' hlt2];exact e)
def Li(L:Nat->Bool)(i:Nat):Nat->Bool:=λk=>if k=i then nr else L k
theorem qa3.step(c:qfx ms m S rs)(inv:qa3 M σ0 w0 m S rs L vals w σ)(him:i<m)(hL:L i=ns)(hdo:∀k,bit ms i k=nr->i≠k->L k=nr)(hdn:∀j k,bit ms j k=nr->L j=nr->L k=nr)(hM:∀i g,i<m->AC S rs i g->M g)
  {v:ny} (ha:qxb (Mi S rs i) σ (qvv (je S rs i)) w (RP S rs i).1 (je S rs (i+1)) v w1):∃σ1,qa3 M σ0 w0 m S rs (Li L i) (λk=>if k=i then v else vals k) w1 σ1:=by
 obtain⟨σ1,a1,a2,a3,a4⟩:=ha;have a1':yw (je S rs i).nx σ σ1:=a1;obtain⟨s1,e1⟩:=a3 σ1 (yw.refl _ _);have hyp:=inv.hyp c him hL hdo hdn hM;have qb4:S.nx<=(je S rs i).nx:=c.nx (show 0<=i by omega) kg;have hnxm:(je S rs (i+1)).nx<=(je S rs m).nx:=c.nx kg (af _)
 have hdiff:∀k,k<m->L k=nr->k≠i/\bit ms k i=ns:=λk h1 h2=>by
  have hne:k≠i:=λe=>by rw[e,hL] at h2;cases h2
  refine⟨hne,?_⟩;cases q:bit ms k i with
  | false=>rfl
  | true=>have:=hdn k i q h2;rw[hL] at this;cases this
 have hsame:∀k,k<m->L k=nr->∀g,(qxm (RP S rs k)).testBit g=nr->σ1 g=σ g:=λk h1 h2 g hg=>by
  obtain⟨hne,hb⟩:=hdiff k h1 h2;have:=c.scope k i h1 him hne hb g hg;rcases dw g (je S rs i).nx with h3|h3
  .exact a1' g h3
  .exact a2 g kg
 have hwri:∀g,WR S rs i g↔(je S rs (i+1)).wr.testBit g=nr:=λg=>by
  unfold WR;rw[<-qyo (by rw[c.len];exact him)]
 have hlast:∀g k,qhx S rs m (Li L i) g k->k=i/\WR S rs i g\/k≠i/\qhx S rs m L g k/\¬WR S rs i g:=λg k hk=>by
  obtain⟨k1,k2,k3,k4⟩:=hk;by_cases e:k=i
  .subst e;exact .inl ⟨rfl,k3⟩
  .have hLk:L k=nr:=by simpa[Li,e] using k2
   refine .inr ⟨e,⟨k1,hLk,k3,λk' q1 q2 q3=>k4 k' q1 q2 (by unfold Li;split;rfl;exact q3)⟩,λhw=>?_⟩;rcases dw k i with h1|h1
   .exact k4 i h1 him (by simp[Li]) hw
   .obtain⟨-,hb⟩:=hdiff k k1 hLk;cases q:bit ms i k with
    | true=>have:=c.fwd i k q;omega
    | false=>exact c.race i k him k1 (Ne.symm e) q hb g (c.wrac i g him hw) k3
 have hnow:∀g,qro S rs m (Li L i) g->qro S rs m L g/\¬WR S rs i g:=λg h=>⟨λk h1 h2=>h k h1 (by unfold Li;split;rfl;exact h2),h i him (by simp[Li])⟩
 have hcont:∀g B,qjy S rs m (Li L i) g B->WR S rs i g/\(je S rs (i+1)).get g=I B\/¬WR S rs i g/\qjy S rs m L g B:=λg B h=>by
  rcases h with⟨k,h1,h2⟩|⟨h1,h2⟩
  .rcases hlast g k h1 with⟨rfl,h3⟩|⟨h3,h4,h5⟩
   .exact .inl ⟨h3,h2⟩
   .exact .inr ⟨h5,.inl ⟨k,h4,h2⟩⟩
  .obtain⟨h3,h4⟩:=hnow g h1;exact .inr ⟨h4,.inr ⟨h3,h2⟩⟩
 have qby:∀g B,AC S rs i g->(je S rs i).get g=I B->qjy S rs m L g B:=λg B hac hB=>by
  rcases c.cont him hL hdo hdn hac (c.ltP kg hB) hB with⟨k,-,q1,q2⟩|q
  .exact .inl ⟨k,q1,q2⟩
  .exact .inr q
 have hstay:∀g B,M g->¬WR S rs i g->qjy S rs m L g B->w1.heap[σ g]? = w.heap[σ g]?:=λg B hm hnw hc=>by
  have hok:=inv.ok hm hc;refine a4.keep _ hok.lt (λg' B' h1 h2 h3 e=>?_);have hw':=(hwri g').2 h2;have hac:=c.wrac i g' him hw';have:=inv.inj g' g B' B (hM i g' him hac) hm (qby g' B' hac h3) hc e;subst this;exact hnw hw'
 have hnum:∀g B,¬WR S rs i g->qjy S rs m L g B->σ1 g=σ g:=λg B hnw hc=>by
  rcases hc with⟨k,h1,h2⟩|⟨h1,h2⟩
  .exact hsame k h1.1 h1.2.1 g (qof (c.wrac k g h1.1 h1.2.2.1))
  .exact a1' g (bf (c.lt g B h2) qb4)
 refine⟨σ1,inv.agr.trans a1' qb4,λg hg=>(a2 g kg).trans (inv.out g hg),λk hk hLk=>?_,λg B k hm hl hB=>?_,λg B hm hn hB J hτ=>?_,λg g' B B' hm hm' hc hc' e=>?_,cy inv.size a4.size,a4.os.trans inv.os,a4.tape.trans inv.tape,a4.output.trans inv.output,λb hb hn=>?_,λg B hg hc=>?_⟩
 .by_cases e:k=i
  .subst e;simp only[if_true];exact e1
  .simp only[if_neg e];have hLk':L k=nr:=by simpa[Li,e] using hLk
   rw[inv.vals k hk hLk'];exact XV.congr _ (λg hg=>(hsame k hk hLk' g (qwa hg)).symm)
 .rcases hlast g k hl with⟨rfl,h3⟩|⟨h3,h4,h5⟩
  .exact s1.blk g B (.inl (c.wrac k g him h3)) hB
  .have hc:qjy S rs m L g B:=.inl ⟨k,h4,hB⟩;have hok:=inv.ok hm hc;rw[hnum g B h5 hc];refine(hok.keep (hstay g B hm h5 hc)).congr (λj hj=>(hsame k h4.1 h4.2.1 j (qir (by rw[c.len];exact h4.1) h4.2.2.1 hB j hj)).symm)
 .obtain⟨h3,h4⟩:=hnow g hn;have hc:qjy S rs m L g B:=.inr ⟨h3,hB⟩;have hgn:=c.lt g B hB;have e2:J g=σ g:=by rw[hτ g hgn,inv.agr g hgn]
  refine(inv.blk0 g B hm h3 hB J hτ).keep ?_;rw[e2];exact hstay g B hm h4 hc
 .rcases hcont g B hc with⟨h1,h2⟩|⟨h1,h2⟩<;>rcases hcont g' B' hc' with⟨h3,h4⟩|⟨h3,h4⟩
  .exact s1.inj g g' B B' (.inl (c.wrac i g him h1)) (.inl (c.wrac i g' him h3)) h2 h4 e
  .exfalso;rw[hnum g' B' h3 h4] at e;have hok:=inv.ok hm' h4;rcases dw g (je S rs i).nx with hlt|hge
   .obtain⟨B0,h0⟩:=(c.gos i him).old g B hlt h2;rw[a1' g hlt] at e;have:=inv.inj g g' B0 B' hm hm' (qby g B0 (c.wrac i g him h1) h0) h4 e;subst this;exact h3 h1
   .rcases a4.new g B hge h2 with h5|⟨g0,B0,q1,q2,q3,q4⟩
    .have:=hok.lt;omega
    .rw[q4] at e;have hw0:=(hwri g0).2 q3;have hac:=c.wrac i g0 him hw0;have:=inv.inj g0 g' B0 B' (hM i g0 him hac) hm' (qby g0 B0 hac q2) h4 e;subst this;exact h3 hw0
  .exfalso;rw[hnum g B h1 h2] at e;have hok:=inv.ok hm h2;rcases dw g' (je S rs i).nx with hlt|hge
   .obtain⟨B0,h0⟩:=(c.gos i him).old g' B' hlt h4;rw[a1' g' hlt] at e;have:=inv.inj g g' B B0 hm hm' h2 (qby g' B0 (c.wrac i g' him h3) h0) e;subst this;exact h1 h3
   .rcases a4.new g' B' hge h4 with h5|⟨g0,B0,q1,q2,q3,q4⟩
    .have:=hok.lt;omega
    .rw[q4] at e;have hw0:=(hwri g0).2 q3;have hac:=c.wrac i g0 him hw0;have:=inv.inj g g0 B B0 hm (hM i g0 him hac) h2 (qby g0 B0 hac q2) e;subst this;exact h1 hw0
  .exact inv.inj g g' B B' hm hm' h2 h4 (by rw[<-hnum g B h1 h2,<-hnum g' B' h3 h4];exact e)
 .have hold:w.heap[b]? = w0.heap[b]?:=inv.keep b hb (λg B k h1 h2 h3 h4 h5=>hn g B k h1 h2 (by unfold Li;split;rfl;exact h3) h4 h5);rw[<-hold];refine a4.keep b (bf hb inv.size) (λg B h1 h2 h3 e=>?_);have hw:=(hwri g).2 h2;have hac:=c.wrac i g him hw;have hc:=qby g B hac h3;rcases dw g S.nx with hlt|hge
  .obtain⟨B0,h0⟩:=c.old (show 0<=i by omega) kg hlt h3;exact hn g B0 i hlt him (by simp[Li]) hw h0 (by rw[<-inv.agr g hlt];exact e)
  .rcases inv.new g B hge hc with h5|⟨g0,B0,k,q1,q2,q3,q4,q5,q6⟩
   .omega
   .exact hn g0 B0 k q1 q3 (by unfold Li;split;rfl;exact q4) q5 q2 (by rw[<-q6];exact e)
 .have old:∀g B,S.nx<=g->qjy S rs m L g B->w0.heap.size<=σ g\/∃g0 B0 k,g0<S.nx/\S.get g0=I B0/\k<m/\Li L i k=nr/\WR S rs k g0/\σ g=σ0 g0:=λg B hg hc=>by
   rcases inv.new g B hg hc with h5|⟨g0,B0,k,q1,q2,q3,q4,q5,q6⟩
   .exact .inl h5
   .exact .inr ⟨g0,B0,k,q1,q2,q3,by unfold Li;split;rfl;exact q4,q5,q6⟩
  rcases hcont g B hc with⟨h1,h2⟩|⟨h1,h2⟩
  .rcases dw g (je S rs i).nx with hlt|hge
   .obtain⟨B0,h0⟩:=(c.gos i him).old g B hlt h2;rw[a1' g hlt];exact old g B0 hg (qby g B0 (c.wrac i g him h1) h0)
   .rcases a4.new g B hge h2 with h5|⟨g0,B0,q1,q2,q3,q4⟩
    .exact .inl (cy inv.size h5)
    .have hw0:=(hwri g0).2 q3;have hac:=c.wrac i g0 him hw0;rw[q4];rcases dw g0 S.nx with hlt0|hge0
     .obtain⟨B1,h0⟩:=c.old (show 0<=i by omega) kg hlt0 q2;exact .inr ⟨g0,B1,i,hlt0,h0,him,by simp[Li],hw0,inv.agr g0 hlt0⟩
     .exact old g0 B0 hge0 (qby g0 B0 hac q2)
  .rw[hnum g B h1 h2];exact old g B hg h2
end
end Ev
namespace Ev
open Go.RowKit
open qx (zi idxOf waits puts qc qk3 qy6)
open Reg9g (qqt qqw opG)
open Sy (Cx TD qzu yj ui bit qjk qy4 qyn)
variable {d i k:Nat}
section
variable {P:ma}{cx:Cx}{M:Nat->Prop}{N m:Nat}{σ0 σ:Nat->Nat}{S S':St}{env env':jy}{a a':Act}{w w0 w1 w':nu}{o:Oper}{r:qqe}{ms:List Nat}{rs:List (XV×St)}{ops:Array Oper}{L:Nat->Bool}{vals:Nat->ny}
theorem qfo(h:qqt ops m=nr){o:Oper}(hi:i<m)(ho:ops[i]? = I o):(∀j want,o.guard=I (j,want)->waits o j=nr/\j<m/\∃d,zi ops j=I d)/\(∀e∈o.after,dy .any e=nr->e.on<i) /\
  (∀d,Operand.tmp d∈o.op.operands->∀k,k<m->zi ops k=I d->waits o k=nr)/\(∀k,k<m->k≠i->∀d,zi ops i=I d->zi ops k≠I d):=by
 simp only[qqt,ag,decide_eq_true_eq,ao,bj,cj] at h;obtain⟨⟨⟨hmn,qh⟩,htail⟩,hseq⟩:=h;have h:=qh i hi;unfold opG at h;rw[ho] at h;simp only[ag,Array.all_eq_true_iff_forall_mem,decide_eq_true_eq,ao,bj,cj,bne_iff_ne,beq_iff_eq] at h;obtain⟨⟨⟨h1,h2⟩,h3⟩,h4⟩:=h;refine⟨λj want hg=>(by rw[hg] at h1;simp only[ag,decide_eq_true_eq,Option.isSome_iff_exists] at h1;exact⟨h1.1.1,h1.1.2,h1.2⟩),λe he hb=>(h2 e he).resolve_left (by rw[hb];decide),λd hd k hk hkd=>?_,λk hk hne d hd hkd=>?_⟩
 .have:=h3 _ hd;simp only[ao,bj,cj,bne_iff_ne] at this;rcases this k hk with h|h
  .exact absurd hkd h
  .exact h
 .rcases h4 k hk with(h|h)|h
  .exact hne h
  .rw[h] at hd;cases hd
  .rw[hd,hkd] at h;exact h rfl
theorem qno(h:waits o k=nr):∃e∈o.after,dy .any e=nr/\e.on=k:=by
 unfold waits at h;rw[Array.any_eq_true'] at h;obtain⟨e,he,hb⟩:=h;simp only[ag,beq_iff_eq] at hb;exact⟨e,he,hb⟩
theorem dst_at{o:Oper}(h:ops[k]? = I o):zi ops k=o.dst:=by unfold zi;rw[h];rfl
theorem qaq:ops.toList[k]? = ops[k]?:=kq
theorem qpc(h:idxOf ops m d=I k):k<m/\zi ops k=I d:=by
 unfold idxOf at h;exact⟨bj.1 (List.mem_of_find?_eq_some h),by simpa using List.find?_some h⟩
theorem qn0(h:idxOf ops m d=V):∀k,k<m->zi ops k≠I d:=by
 unfold idxOf at h;intro k hk;have:=List.find?_eq_none.1 h k (bj.2 hk);simpa using this
theorem qt8(hH:qqt ops m=nr)(hsz:m=ops.size)(hlen:rs.length=m)(hk:k<i)(hi:i<=m)(hd:zi ops k=I d):lk (qjp ops.toList rs env i) d=I (RP S rs k).1:=by
 have hkm:k<m:=kg;obtain⟨o,ho⟩:∃o,ops[k]? = I o:=⟨ops[k]' kg,ak _⟩
 have hp:rs[k]? = I (RP S rs k):=by
  simp only[RP,bn];rw[ah kg];rfl
 refine qe9 (o:=o) (p:=RP S rs k) hk (by rw[qaq];exact ho) hp (by rw[<-dst_at ho];exact hd) (λk' o' h1 h2 h3 h4=>?_);rw[qaq] at h3;exact(qfo hH hkm ho).2.2.2 k' kg h2 d hd (by rw[dst_at h3];exact h4)
theorem q27(hi:i<=m)(h:∀k,k<m->zi ops k≠I d):lk (qjp ops.toList rs env i) d=lk env d:=
 qan (λk o' hk ho'=>by rw[qaq] at ho';rw[<-dst_at ho'];exact h k kg)
theorem q1e(hcx:yj P cx)(hr:qxu P r)(hp:qfp P cx r ops ops.toList env S=I rs):qcl ops.size S rs/\∀i o,i<ops.size->ops[i]? = I o->atP P cx r ops (qjp ops.toList rs env i) (je S rs i) o (RP S rs i):=by
 obtain⟨h1,h2⟩:=qgu hp;have hlen:rs.length=ops.size:=by rw[h1];simp
 have hat:∀i o,i<ops.size->ops[i]? = I o->atP P cx r ops (qjp ops.toList rs env i) (je S rs i) o (RP S rs i):=λi o hi ho=>by
  refine h2 i o _ (by rw[qaq];exact ho) ?_;simp only[RP,bn];rw[ah kg];rfl
 refine⟨⟨hlen,λi hi=>?_⟩,hat⟩;obtain⟨o,ho⟩:∃o,ops[i]? = I o:=⟨ops[i]'hi,ak _⟩;rw[qyo kg];rcases hat i o hi ho with⟨-,h⟩|⟨-,h⟩
 .exact(qhu hcx hr (x:=(RP S rs i).1) (S':=(RP S rs i).2) (by rw[h])).1
 .rw[h];exact qqv.refl _
theorem qgm(c:qcl ops.size S rs)(hck:qex (ui ops.toList []) S rs 0 S.nx rs=nr)(hfw:qrp 0 (ui ops.toList [])=nr)(hlt:∀g B,S.get g=I B->g<S.nx):qfx (ui ops.toList []) ops.size S rs:=by
 have hrp:∀i,i<ops.size->rs[i]? = I (RP S rs i):=λi hi=>by
  simp only[RP,bn];rw[ah (by rw[c.len];exact hi)];rfl
 have hat:=λi (hi:i<ops.size)=>qmj hck i (RP S rs i) (hrp i hi)
 have hwrac:∀i g,i<ops.size->WR S rs i g->AC S rs i g:=λi g hi hw=>(hat i hi).1 g hw
 have hn:∀j,j<ops.size->∀n,(n=if j=0 then S.nx else match rs[j-1]? with|some q=>q.2.nx|none=>0)->n=(je S rs j).nx:=λj hj n hn=>by
  cases j with
  | zero=>exact hn
  | succ j=>
    rw[hn,if_neg kg,Nat.add_sub_cancel,hrp j kg,qyo (by rw[c.len];omega)]
 refine⟨c,hlt,hwrac,λi g hi hg=>by rw[qyo (by rw[c.len];exact hi)];exact(hat i hi).2.1 g hg,λi j hi hj hne hb g hg hgn=>?_,λi k hb=>by have:=qtu hfw i k hb;omega,λi j hi hj hne hb1 hb2 g hac hw=>?_⟩
 .obtain⟨-,-,n,h1,h2,h3⟩:=hat j hj;have e:=hn j hj n h1;subst e;rw[qyo (i:=j) (by rw[c.len];exact hj)] at hgn;by_cases h0:(RP S rs j).2.wr=0
  .have:=h2 h0;omega
  .have:=(qes (h3 h0) i _ (hrp i hi) kg).1 (by rw[bu,bu];exact hb);have h4:=and_zero this hg;rw[bu] at *;have h5:=q47.2 hgn;rw[h5] at h4;cases h4
 .obtain⟨-,-,n,h1,h2,h3⟩:=hat j hj
  have h0:¬(RP S rs j).2.wr=0:=λe=>by
   have:(RP S rs j).2.wr.testBit g=nr:=hw;rw[e,xl] at this;cases this
  have:=(qes (h3 h0) i _ (hrp i hi) kg).2 (by rw[bu,bu];exact hb1) (by rw[bu,bu];exact hb2);have h4:=and_zero this hac;have h5:(RP S rs j).2.wr.testBit g=nr:=hw;rw[h5] at h4;cases h4
theorem q1y(hcx:yj P cx)(hr:qxu P r)(h:qik P cx r N ops env S=I (env',S')):qqv S S':=by
 unfold qik at h;split at h
 .split at h
  .rename_i rs hp;split at h
   .rename_i hck;cases h;simp only[ag] at hck;obtain⟨c,hat⟩:=q1e hcx hr hp;have hget:∀g,St.get { je S rs ops.size with ac:=S.ac ||| orM (λp=>p.2.ac) rs,wr:=S.wr ||| orM (λp=>p.2.wr) rs } g=(je S rs ops.size).get g:=λg=>rfl
    refine⟨c.nx (show 0<=ops.size by omega) (af _),λhl g B hB=>?_,λg B hg hB=>?_,λg hg hw=>?_,λg hg=>?_,λg hg=>?_,λhl g B hg hB=>?_⟩
    .exact(qgm c hck.1 hck.2 hl).ltP (af _) hB
    .exact c.old (i:=0) kg (af _) hg hB
    .refine c.hold (i:=0) kg (af _) hg (λk _ hk hw'=>?_);have hw2:(S.wr ||| orM (λp=>p.2.wr) rs).testBit g=ns:=hw;rw[jm,Bool.or_eq_false_iff] at hw2
     have:(orM (λp=>p.2.wr) rs).testBit g=nr:=qau.2 ⟨k,RP S rs k,by
      simp only[RP,bn]
      rw[ah (by rw[c.len];omega)];rfl,hw'⟩
     rw[this] at hw2;cases hw2.2
    .show(S.ac ||| orM (λp=>p.2.ac) rs).testBit g=nr;rw[jm,hg];rfl
    .show(S.wr ||| orM (λp=>p.2.wr) rs).testBit g=nr;rw[jm,hg];rfl
    .obtain⟨k,h1,h2⟩:=(qgm c hck.1 hck.2 hl).made (af _) hg hB;show(S.wr ||| orM (λp=>p.2.wr) rs).testBit g=nr
     have:(orM (λp=>p.2.wr) rs).testBit g=nr:=qau.2 ⟨k,RP S rs k,by
      simp only[RP,bn]
      rw[ah (by rw[c.len];omega)];rfl,h2⟩
     rw[jm,this,fj]
   .cases h
  .cases h
 .cases h
end
end Ev
namespace Ev
open Go.RowKit
open qx (zi idxOf waits puts qc qk3 qy6)
open Reg9g (qqt qqw opG)
open Sy (Cx TD qzu yj ui bit qjk qy4 qyn)
section
variable {P:ma}{cx:Cx}{M:Nat->Prop}{N m:Nat}{σ0 σ:Nat->Nat}{S S':St}{env env':jy}{a a0 a':Act}{w w0 w1 w':nu}{o:Oper}{r:qqe}{ms:List Nat}{rs:List (XV×St)}{ops:Array Oper}{L:Nat->Bool}{vals:Nat->ny}
theorem env_at(hH:qqt ops ops.size=nr)(c:qfx (ui ops.toList []) ops.size S rs)(inv:qa3 M σ0 w0 ops.size S rs L vals w σ)(henv:∀J,yw S.nx σ0 J->qqz J env a0){i:Nat}{o:Oper}(hi:i<ops.size)(ho:ops[i]? = I o)
  (qh:∀d,Operand.tmp d∈o.op.operands->match idxOf ops ops.size d with|some k=>L k=nr/\a.tmps.getD d mc=vals k|none=>a.tmps.getD d mc=a0.tmps.getD d mc) :
  ∀J,yw (je S rs i).nx σ J->qu3 J (qjp ops.toList rs env i) o.op a:=by
 intro J hτ t ht x hx;have h1:=qh t ht;have qb4:S.nx<=(je S rs i).nx:=c.nx (show 0<=i by omega) kg;obtain⟨g1,g2,g3,g4⟩:=qfo hH hi ho;split at h1
 .rename_i k hk;obtain⟨hkm,hkd⟩:=qpc hk;obtain⟨e,he,hb,hon⟩:=qno (g3 t ht k hkm hkd);have hki:k<i:=by rw[<-hon];exact g2 e he hb
  rw[qt8 (S:=S) hH rfl c.len hki kg hkd] at hx;cases hx;rw[h1.2,inv.vals k hkm h1.1];refine XV.congr _ (λg hg=>(hτ g ?_).symm);exact bf (c.idnx k g hkm (qwa hg)) (c.nx kg kg)
 .rename_i hk;rw[q27 kg (qn0 hk)] at hx;rw[h1];exact henv J (inv.agr.trans hτ qb4) t x hx
theorem qsl(hH:qqt ops ops.size=nr)(c:qfx (ui ops.toList []) ops.size S rs)(inv:qa3 M σ0 w0 ops.size S rs L vals w σ){i:Nat}{o:Oper}{b:Bool}(hi:i<ops.size)(ho:ops[i]? = I o)
  (hed:∀e∈o.after,dy .any e=nr->L e.on=nr) (hw:qa8 ops (qjp ops.toList rs env i) o=I b):qqw o vals=b:=by
 obtain⟨g1,g2,g3,g4⟩:=qfo hH hi ho;unfold qa8 at hw;unfold qqw;cases hg:o.guard with
 | none=>rw[hg] at hw;cases hw;rfl
 | some p=>
   obtain⟨j,want⟩:=p;rw[hg] at hw;simp only at hw ⊢;obtain⟨q1,q2,d,q3⟩:=g1 j want hg;obtain⟨e,he,hb,hon⟩:=qno q1;have hji:j<i:=by rw[<-hon];exact g2 e he hb
   have hLj:L j=nr:=by rw[<-hon];exact hed e he hb
   have q3':(ops[j]?).bind (·.dst)=I d:=q3;rw[q3'] at hw;simp only at hw;rw[qt8 (S:=S) hH rfl c.len hji kg q3] at hw;split at hw
   .rename_i β hβ;cases hw;rw[inv.vals j q2 hLj,oi hβ];show _=isB want β;cases β<;>rfl
   .cases hw
theorem q4s(hcx:yj P cx)(hr:qxu P r)(hmix:P.follows .mixedOrders=nr){id:Nat}(h:qik P cx r N ops env S=I (env',S')){M:Nat->Prop}{σ:Nat->Nat}{a:Act}{w:nu}{Q:Exit->Act->nu->Prop}(hm:Mod M N σ S env a w)(hM:∀g,S'.ac.testBit g=nr->M g)
  (hQ:∀a' w',Nx M N σ S w S' env' a' w'->Q .normal a' w'):(Code.region id ops nr).wp P Q a w:=by
 unfold qik at h;split at h
 .rename_i hhead;split at h
  .rename_i rs hp;split at h
   .rename_i hck;cases h;simp only[ag] at hck hhead;obtain⟨hH,hdst⟩:=hhead;obtain⟨c0,hat⟩:=q1e hcx hr hp;have c:=qgm c0 hck.1 hck.2 hm.hyp.lt
    have hdN:∀k d,k<ops.size->zi ops k=I d->d<a.tmps.size:=λk d hk hd=>by
     rw[hm.size];obtain⟨o,ho⟩:∃o,ops[k]? = I o:=⟨ops[k]'hk,ak _⟩;rw[dst_at ho] at hd;exact qnw (ao.1 hdst o (by rw[<-qaq] at ho;exact List.mem_of_getElem? ho)) d hd
    have hacM:∀i g,i<ops.size->AC S rs i g->M g:=λi g hi hac=>hM g (by
     show(S.ac ||| orM (λp=>p.2.ac) rs).testBit g=nr
     have:(orM (λp=>p.2.ac) rs).testBit g=nr:=qau.2 ⟨i,RP S rs i,by
      simp only[RP,bn]
      rw[ah (by rw[c.len];omega)];rfl,hac⟩
     rw[jm,this,fj])
    have hs0:=hm.hyp.sat σ (yw.refl _ _)
    have qpf:∀g B,qjy S rs ops.size (λ_=>ns) g B->S.get g=I B:=λg B h=>by
     rcases h with⟨k,h1,-⟩|⟨-,h2⟩
     .cases h1.2.1
     .exact h2
    refine Reg9g.region ops.size (λL vals w1=>qjk ops L/\∃σ1,qa3 M σ w ops.size S rs L vals w1 σ1) hmix hH hdN ⟨λk o _ hk=>(by cases hk),σ,⟨yw.refl _ _,λ_ _=>rfl,λk _ hk=>(by cases hk),λg B k _ hl _=>(by cases hl.2.1),λg B hmg _ hB J hτ=>?_,λg g' B B' h1 h2 h3 h4 e=>hs0.inj g g' B B' h1 h2 (qpf g B h3) (qpf g' B' h4) e,af _,rfl,rfl,rfl,λ_ _ _=>rfl,λg B hg hc=>?_⟩⟩ ?_ ?_
    .exact(hm.hyp.sat J hτ).blk g B hmg hB
    .have:=hm.hyp.lt g B (qpf g B hc);omega
    .intro i o hi ho L vals a1 w1 hL hS hed qh _ _;obtain⟨hdn,σ1,inv⟩:=hS;have hdo:∀k,bit (ui ops.toList []) i k=nr->i≠k->L k=nr:=λk hb hne=>qyn hdn ho hed k hb hne
     have hall:∀j k,bit (ui ops.toList []) j k=nr->L j=nr->L k=nr:=λj k hb hj=>qy4 hdn j k hb hj
     have hdn':qjk ops (λk=>if k=i then nr else L k):=by
      intro k o' ho' hk e he hb;simp only at hk ⊢;by_cases hki:k=i
      .subst hki;rw[ho] at ho';cases ho';split
       .rfl
       .exact hed e he hb
      .rw[if_neg hki] at hk;split
       .rfl
       .exact hdn k o' ho' hk e he hb
     have hyp:=inv.hyp c hi hL hdo hall hacM;have henv:=env_at hH c inv hm.env hi ho qh
     have hfin:∀v w2,qxb (Mi S rs i) σ1 (qvv (je S rs i)) w1 (RP S rs i).1 (je S rs (i+1)) v w2->qjk ops (λk=>if k=i then nr else L k)/\∃σ2,qa3 M σ w ops.size S rs (λk=>if k=i then nr else L k) (λk=>if k=i then v else vals k) w2 σ2:=
      λv w2 ha=>⟨hdn',inv.step c hi hL hdo hall hacM ha⟩
     rcases hat i o hi ho with⟨hw,hx⟩|⟨hw,hx⟩
     .have hwv:=qsl (env:=env) hH c inv hi ho hed hw;refine⟨λ_=>?_,λe=>by rw[hwv] at e;cases e⟩;obtain⟨k1,k2⟩:=qhu hcx hr (x:=(RP S rs i).1) (S':=(RP S rs i).2) (by rw[hx]);have hst:=k2 hyp henv (λg hg=>.inl hg);unfold qys at hst;refine hst.mono (λv w2 ha=>hfin v w2 ?_);rw[qyo (by rw[c.len];exact hi)];exact ha
     .have hwv:=qsl (env:=env) hH c inv hi ho hed hw;refine⟨λe=>by(rw[hwv] at e;cases e),λ_=>hfin mc w1 ?_⟩;rw[qyo (by rw[c.len];exact hi),hx];exact qdr hyp rfl (λ_=>rfl) (λ_ _=>rfl)
    .intro L vals w1 hall hS;obtain⟨-,σ1,inv⟩:=hS;have hnil:ops.toList.drop ops.size=[]:=by rw[List.drop_eq_nil_iff];simp
     rw[hnil];show Q .normal _ _;refine hQ _ _ ?_;have qb4:S.nx<=(je S rs ops.size).nx:=c.nx (show 0<=ops.size by omega) (af _)
     have qnk:∀g B,(je S rs ops.size).get g=I B->qjy S rs ops.size L g B:=λg B hB=>by
      rcases qtx (S:=S) (rs:=rs) (m:=ops.size) L g with⟨k,hk⟩|hn
      .refine .inl ⟨k,hk,?_⟩;rw[<-hB];exact(c.hold (show k+1<=ops.size by have:=hk.1;omega) (af _) (c.idnx k g hk.1 (qof (c.wrac k g hk.1 hk.2.2.1))) (λk' q1 q2 q3=>hk.2.2.2 k' kg q2 (hall k' q2) q3)).symm
      .refine .inr ⟨hn,?_⟩
       have hgS:g<S.nx:=by
        rcases dw g S.nx with h1|h1
        .exact h1
        .exfalso;obtain⟨k,q1,q2⟩:=c.made (af _) h1 hB;exact hn k q1 (hall k q1) q2
       rw[<-hB];exact(c.hold (show 0<=ops.size by omega) (af _) hgS (λk' q1 q2 q3=>hn k' q2 (hall k' q2) q3)).symm
     have qjx:∀J,yw (je S rs ops.size).nx σ1 J->qfq M J { je S rs ops.size with ac:=S.ac ||| orM (λp=>p.2.ac) rs,wr:=S.wr ||| orM (λp=>p.2.wr) rs } w1:=λJ hτ=>by
      refine⟨λg B hmg hB=>?_,λg g' B B' h1 h2 h3 h4 e=>?_⟩
      .have hB':(je S rs ops.size).get g=I B:=hB;have hlt:=c.ltP (af _) hB';rw[hτ g hlt];rcases qnk g B hB' with⟨k,h1,h2⟩|⟨h1,h2⟩
       .refine(inv.blk1 g B k hmg h1 h2).congr (λj hj=>(hτ j ?_).symm);exact bf (c.idnx k j h1.1 (qir (by rw[c.len];exact h1.1) h1.2.2.1 h2 j hj)) (c.nx (by have:=h1.1;omega) (af _))
       .have:=inv.blk0 g B hmg h1 h2 J (inv.agr.trans hτ qb4);rw[hτ g hlt] at this;exact this
      .have h3':(je S rs ops.size).get g=I B:=h3;have h4':(je S rs ops.size).get g'=I B':=h4;exact inv.inj g g' B B' h1 h2 (qnk g B h3') (qnk g' B' h4') (by rw[<-hτ g (c.ltP (af _) h3'),<-hτ g' (c.ltP (af _) h4')];exact e)
     refine⟨σ1,inv.agr,inv.out,⟨⟨qjx,λg B hB=>c.ltP (af _) hB,λg hg=>hm.hyp.new g (cy qb4 hg)⟩,λJ hτ t x hx=>?_,by rw[Reg9g.qli];exact hm.size,?_⟩,⟨inv.size,inv.os,inv.tape,inv.output,λb hb hn=>inv.keep b hb (λg B k h1 h2 h3 h4 h5=>hn g B h1 ?_ h5),λg B hg hB=>?_⟩⟩
     .have hτ':yw (je S rs ops.size).nx σ1 J:=hτ;cases hk:idxOf ops ops.size t with
      | some k=>
        obtain⟨hkm,hkd⟩:=qpc hk;rw[qt8 (S:=S) hH rfl c.len hkm (af _) hkd] at hx;cases hx;obtain⟨o,ho⟩:∃o,ops[k]? = I o:=⟨ops[k]'hkm,ak _⟩;rw[qk3 hkd rfl (ay ops.size) a List.nodup_range (bj.2 hkm) (hdN k t hkm hkd) (λj hj hne hjd=>(qfo hH hkm ho).2.2.2 j (bj.1 hj) hne t hkd hjd)];rw[inv.vals k hkm (hall k hkm)];refine XV.congr _ (λg hg=>(hτ' g ?_).symm);exact bf (c.idnx k g hkm (qwa hg)) (c.nx kg (af _))
      | none=>
        have hno:=qn0 hk;rw[q27 (af _) hno] at hx;rw[qy6 _ _ (λk hk'=>hno k (bj.1 hk'))];exact hm.env J (inv.agr.trans hτ' qb4) t x hx
     .have:∀(ks:List Nat) (a:Act),(puts ops vals (λ_=>nr) ks a).defers=a.defers:=by
       intro ks
       induction ks with
       | nil=>intro a;rfl
       | cons k ks ih=>
         intro a;unfold puts;rw[ih];simp only[if_true];exact put_defers _ _ _
      rw[this];exact hm.defers
     .show(S.wr ||| orM (λp=>p.2.wr) rs).testBit g=nr
      have:(orM (λp=>p.2.wr) rs).testBit g=nr:=qau.2 ⟨k,RP S rs k,by
       simp only[RP,bn]
       rw[ah (by rw[c.len];omega)];rfl,h4⟩
      rw[jm,this,fj]
     .rcases inv.new g B hg (qnk g B hB) with h5|⟨g0,B0,k,q1,q2,q3,q4,q5,q6⟩
      .exact .inl h5
      .refine .inr ⟨g0,B0,q1,q2,?_,q6⟩;show(S.wr ||| orM (λp=>p.2.wr) rs).testBit g0=nr
       have:(orM (λp=>p.2.wr) rs).testBit g0=nr:=qau.2 ⟨k,RP S rs k,by
        simp only[RP,bn]
        rw[ah (by rw[c.len];omega)];rfl,q5⟩
       rw[jm,this,fj]
   .cases h
  .cases h
 .cases h
end
end Ev
end Go.Proofs.YtmadfhgiaonnlaaGreatDoor
