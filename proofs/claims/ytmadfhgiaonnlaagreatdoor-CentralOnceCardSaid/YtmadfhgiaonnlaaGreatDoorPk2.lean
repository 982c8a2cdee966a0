import Derived.Laws.Cover3
import Derived.Laws.Small
import Derived.Test.YtmadfhgiaonnlaaGreatDoorPk1
open Array renaming toList_inj->gq,getElem?_toList->ax,size_setIfInBounds->wj,length_toList->aw,eq_empty_of_size_eq_zero->ec,getElem?_eq_none->dq
open BitVec renaming ofInt->lr
open Bool renaming and_eq_true->ag,eq_iff_iff->abi,false_eq_true->da
open ByteArray renaming size_append->yp
open Go renaming run_underlying->bg,run_equal_slice_nil->qe
open Go.Addr renaming add_mid->wh
open Go.Builtin renaming len_->sr,cap_->acn,max_->aab,min_->aac
open Go.Instr renaming field->adu,fieldAt->abz,sureAddr->mo,indexAt->oh,index->fm,sliceBound->abb,sliceBounds->jt,sliceAt->lh,slice->adv,loadAt->qq,fill->iv,build->rn,storeAt->acb
open Go.IntKind renaming min->adq,max->adr,wrap->di,bits->dj,signed->cz
open Go.Op renaming intArith->xz,intBits->vu,maxDepth->tw,equal->tk,unary->acm
open Go.Result renaming andThen_ok->aq
open Go.Sem renaming run_bind->ai,run_pure->eb
open Go.World renaming setCells->yq,setCell->aca
open Int renaming mul_ediv_add_emod->mu,emod_nonneg->qn,emod_lt_of_pos->oq,ediv_nonneg->sk,mul_le_mul_of_nonneg_right->sn,le_total->acj,tmod_eq_emod_of_nonneg->ud,mul_nonneg->re,pow_pos->aaw,fdiv_eq_ediv_of_nonneg->qb,le_of_lt->pg,mul_le_mul_of_nonneg_left->mj
open List renaming getElem?_cons_zero->db,mem_append->bo,mem_cons->cu,not_mem_nil->ep,mem_singleton->gz,foldlM->adt,map_drop->ue,map_take->ur,getElem?_map->dh,all_eq_true->ao,getElem?_eq_getElem->ah,getElem?_cons_succ->fq,ext_getElem?->ju,getD_eq_getElem?_getD->bn,getElem?_eq_none->dn,getElem?_eq_some_iff->al,mem_of_getElem?->cm,getElem?_take->fc,getElem?_drop->ia,length_map->iu,length_cons->gp,map_cons->fg,any_eq_true->gn,map_map->aco,map_id->adw
open Nat renaming add_zero->ir,le_refl->af,zero_le->cr,add_mul->eh
open Option renaming map_eq_some_iff->ea,map_some->dv,bind_some->ic
open Option.some renaming injEq->bc
open Bool renaming false->ns,true->nr
open Go renaming Program->ma,TypeId->nz,Value->ny,World->nu,maxLen->mf,undef->mc
open Go.IntKind renaming i64->O
open Go.Value renaming bool->ni,pointer->nj,slice->ng,string->nh
open Option renaming none->V,some->I
set_option linter.unusedVariables false
set_option linter.unusedSimpArgs false
namespace Go.Proofs.YtmadfhgiaonnlaaGreatDoor
namespace Sy
open Go.RowKit
variable {cs:Array ny}{op:BinOp}{p q:Int}{k:IntKind}{l:List SV}{b c f lb m n off:Nat}{o:Oper}{A:Option Addr}{i s x y:SV}{d:TD}{α:Type}{e r t:nz}{u v:ny}{xv:XV}
theorem wrap_in{n:Int}(h1:k.min<=n)(h2:n<=k.max):k.wrap n=n:=by
 cases k<;>simp only[adq,adr,di,dj,cz] at*<;> simp at*<;> omega
theorem jo(k:IntKind)(n:Int):k.min<=k.wrap n/\k.wrap n<=k.max:=by
 cases k<;>simp only[adq,adr,di,dj,cz]<;>simp<;>omega
structure uh where
 v:XV
 tys:List CT
 fs:List qf
def qzs:ny->List ny
 | .agg cs=>cs.toList
 | .tuple vs=>vs.toList.flatMap λv=>v.cells.toList
 | v=>[v]
def Blk(Z:yu)(nv m:Nat)(l:List ny):Prop:=∀i,i<m->Z (nv+i)=l.getD i mc
section
variable (tb:yg)(W0:nu)
def uy(S:St)(o:uh)(base:Nat)(Z:yu)(T:Nat->Prop)(w:nu)(v:ny):Prop:=Blk Z S.nv o.tys.length (qzs v) ->
 v=o.v.den Z/\(∀i ct,o.tys[i]? = I ct->CV tb W0 T w base ct (Z (S.nv+i)))/\∀f∈o.fs,0<=f.eval Z
end
def quq(x:XV):uh:=⟨x,[],[]⟩
def qyg(s:SV):uh:=⟨.v (.one s),[],[]⟩
def qzy(S:St)(ct:CT)(fs:List qf):uh:=⟨.v (.one (.var S.nv)),[ct],fs⟩
def qy(k:IntKind):CT:=.int k k.min k.max
abbrev vw:CT:=.kp (.int O (IntKind.i64).min (IntKind.i64).max)
section
variable {P:ma}{cx:Cx}{W0:nu}{S:St}{base:Nat}{Z:yu}{T:Nat->Prop}{w:nu}{a:Act}
theorem qjg{x:XV}(h:v=x.den Z):uy cx.tb W0 S (quq x) base Z T w v:=λ_=>⟨h,by simp[quq],by simp[quq]⟩
theorem qqi(h:v=s.den Z):uy cx.tb W0 S (qyg s) base Z T w v:=λ_=>⟨h,by simp[qyg],by simp[qyg]⟩
theorem qgt(h:v.oneCell'=nr):qzs v=[v]:=by cases v<;>first|rfl|cases h
theorem jq{ct:CT}{fs:List qf}(h:CV cx.tb W0 T w base ct v)(hf:Z S.nv=v->∀f∈fs,0<=f.eval Z):uy cx.tb W0 S (qzy S ct fs) base Z T w v:=by
 intro hb;have h0:=hb 0 (by simp[qzy]);rw[qgt h.one] at h0;have h0':Z S.nv=v:=h0;refine⟨h0'.symm,λi ct' hi=>?_,hf h0'⟩;cases i with
 | zero=>
   simp only[qzy,db,bc] at hi;subst hi;rw[ir,h0'];exact h
 | succ i=>simp[qzy] at hi
theorem qya(h:qzu P t d):∃u,P.underlying t=I u/\KD.of u=d.k:=by
 obtain⟨h1,-⟩:=h;cases hq:P.underlying t with
 | none=>rw[hq] at h1;cases h1
 | some u=>rw[hq] at h1;exact⟨u,rfl,oi h1⟩
theorem jg(h:qzu P t d):∃i,P.info? t=I i/\i.size=d.size/\i.bytes=d.bytes/\∃z,i.zero=I z/\z.cells.toList=d.zero:=by
 obtain⟨-,h1,-⟩:=h;cases hq:P.info? t with
 | none=>rw[hq] at h1;cases h1
 | some i=>
   rw[hq] at h1;have h2:=oi h1;injection h2 with h3 h4;injection h4 with h5 h6;cases hz:i.zero with
   | none=>rw[hz] at h6;cases h6
   | some z=>rw[hz] at h6;exact⟨i,rfl,h3,h5,z,hz,oi h6⟩
theorem vk(h:qzu P t d)(w:nu):(sizeOf t).run P w=.ok d.size w:=by
 obtain⟨i,h1,h2,-⟩:=jg h;simp[sizeOf,typeInfo,h1,h2]
theorem qx2(h:qzu P t d)(w:nu):(isAgg t).run P w=.ok d.k.agg w:=by
 obtain⟨u,h1,h2⟩:=qya h;unfold isAgg;rw[ai,bg h1 w,<-h2];cases u<;>rfl
structure qqu(cx:Cx)(W0:World)(S:St)(base:Nat)(Ω:yu->Prop)(T:Nat->Prop)(w:World)(a:Act):Prop where
 ex:∃Z,Ω Z
 sat:∀Z,Ω Z->xg cx.tb W0 S base Z T w
 env:∀Z,Ω Z->qqz S Z a
def Pure(P:ma)(cx:Cx)(W0:nu)(S:St)(base:Nat)(Ω:yu->Prop)(T:Nat->Prop)(w:nu)(a:Act)(o:Oper)(out:uh):Prop:=
 ∃v,(execOp a.eval o).run P w=.ok (.value v) w/\∀Z,Ω Z->uy cx.tb W0 S out base Z T w v
variable {Ω:yu->Prop}
def qbl(S:St)(k:IntKind)(l:qf):uh:=if S.ent (l.pl (-k.min)) && S.ent ((qf.k k.max).sub l) then qyg (.lin k l) else qzy S (qy k) []
theorem qk5{l:qf}{z:Int}(h:xg cx.tb W0 S base Z T w)(hz:z=l.eval Z):uy cx.tb W0 S (qbl S k l) base Z T w (.int k (k.wrap z)):=by
 unfold qbl;split
 .rename_i hc;simp only[ag] at hc;have q1:=h.ent hc.1;have q2:=h.ent hc.2;rw[qf.xh] at q1;rw[qf.sub_eval,qf.ja] at q2;refine qqi ?_;rw[wrap_in kg kg,hz];rfl
 .exact jq ⟨_,rfl,(jo k z).1,(jo k z).2⟩ kq
def qve(S:St)(k:IntKind)(fs:List qf):uh:=qzy S (qy k) fs
def St.inR(S:St)(k:IntKind)(l:qf):Bool:=S.ent (l.pl (-k.min)) && S.ent ((qf.k k.max).sub l)
theorem qe4{l:qf}(h:xg cx.tb W0 S base Z T w)(hr:S.inR k l=nr):k.min<=l.eval Z/\l.eval Z<=k.max:=by
 simp only[St.inR,ag] at hr;have q1:=h.ent hr.1;have q2:=h.ent hr.2;rw[qf.xh] at q1;rw[qf.sub_eval,qf.ja] at q2;omega
def qib(l:qf):Option Int:=match l.ts with
 | []=>I l.c
 | _=>V
theorem qat{l:qf}{c:Int}(h:qib l=I c)(Z:yu):l.eval Z=c:=by
 unfold qib at h;split at h
 .rename_i hl;cases h;simp[qf.eval,hl,jk]
 .cases h
def qt1(S:St)(op:BinOp)(k:IntKind)(x y:qf):Option uh:=match op with
 | .add=>I (qbl S k (x.add y))
 | .sub=>I (qbl S k (x.sub y))
 | .mul=>match qib y with
   | some c=>I (qbl S k (x.sc c))
   | none=>match qib x with
     | some c=>I (qbl S k (y.sc c))
     | none=>I (qve S k [])
 | .quo=>if S.ent (y.pl (-1)) then I (qve S k (if S.ent x && S.inR k x then [qf.at S.nv,x.sub (qf.at S.nv)]++(match qib y with
    | some c=>[x.sub ((qf.at S.nv).sc c),(((qf.at S.nv).sc c).pl (c-1)).sub x]
    | none=>[]) else [])) else V
 | .rem=>if S.ent (y.pl (-1)) && S.inR k x then I (qve S k ((y.pl (-1)).sub (qf.at S.nv)::(if S.ent x then [qf.at S.nv,x.sub (qf.at S.nv)] else [(y.pl (-1)).add (qf.at S.nv)]))) else V
 | .and=>I (qve S k [])
 | .or=>I (qve S k [])
 | .xor=>I (qve S k [])
 | .andNot=>I (qve S k [])
 | .eql=>I (qyg (.be (.eq (x.sub y))))
 | .neq=>I (qyg (.be (.not (.eq (x.sub y)))))
 | .lss=>I (qyg (.be (.ge ((y.sub x).pl (-1)))))
 | .leq=>I (qyg (.be (.ge (y.sub x))))
 | .gtr=>I (qyg (.be (.ge ((x.sub y).pl (-1)))))
 | .geq=>I (qyg (.be (.ge (x.sub y))))
 | _=>V
theorem qwk{x y:Int}(hx:0<=x)(hy:1<=y):0<=x.tdiv y/\x.tdiv y<=x/\y*x.tdiv y<=x/\x<=y*x.tdiv y+(y-1):=by
 rw[Int.tdiv_eq_ediv_of_nonneg hx];have h1:=mu x y;have h2:=qn x (show y≠0 by omega);have h3:=oq x (show 0<y by omega);have h4:0<=x/y:=sk hx kg
 have h5:x/y<=y*(x/y):=by
  have:=sn (show(1:Int)<=y by omega) h4;omega
 exact⟨h4,kg,kg,kg⟩
theorem qw9{x y:Int}(hy:1<=y):(0<=x->0<=x.tmod y/\x.tmod y<=x)/\x.tmod y<=y-1/\-(y-1)<=x.tmod y/\(x<=x.tmod y\/x.tmod y<=x)/\(0<=x\/(x<=x.tmod y/\x.tmod y<=0)):=by
 rcases acj 0 x with hx|hx
 .rw[ud hx];have h2:=qn x (show y≠0 by omega);have h3:=oq x (show 0<y by omega);have h1:=mu x y;have h4:0<=y*(x/y):=re kg (sk hx kg);exact⟨λ_=>⟨h2,kg⟩,kg,kg,kg,.inl hx⟩
 .have e:x.tmod y=-((-x).tmod y):=by rw[Int.neg_tmod];omega
  rw[e,ud (show 0<=-x by omega)];have h2:=qn (-x) (show y≠0 by omega);have h3:=oq (-x) (show 0<y by omega);have h1:=mu (-x) y;have h4:0<=y*(-x/y):=re kg (sk kg kg);exact⟨λh=>by have:x=0:=kg;subst this;simp,kg,kg,kg,kg⟩
theorem q7z(k:IntKind)(t:nz)(p q:Int):(binOp .add t (.int k p) (.int k q)).run P w=.ok (.int k (k.wrap (p+q))) w:=by simp[binOp,xz]
theorem q7g(k:IntKind)(t:nz)(p q:Int):(binOp .sub t (.int k p) (.int k q)).run P w=.ok (.int k (k.wrap (p-q))) w:=by simp[binOp,xz]
theorem qi5(k:IntKind)(t:nz)(p q:Int):(binOp .mul t (.int k p) (.int k q)).run P w=.ok (.int k (k.wrap (p*q))) w:=by simp[binOp,xz]
theorem q7t(k:IntKind)(t:nz)(p q:Int)(hq:¬q=0):(binOp .quo t (.int k p) (.int k q)).run P w=.ok (.int k (k.wrap (p.tdiv q))) w:=by simp[binOp,Op.intDiv,hq]
theorem q6a(k:IntKind)(t:nz)(p q:Int)(hq:¬q=0):(binOp .rem t (.int k p) (.int k q)).run P w=.ok (.int k (p.tmod q)) w:=by simp[binOp,Op.intDiv,hq]
theorem qdm(op:BinOp)(h:op=.and\/op=.or\/op=.xor\/op=.andNot)(k:IntKind)(t:nz)(p q:Int):∃z,(binOp op t (.int k p) (.int k q)).run P w=.ok (.int k (k.wrap z)) w:=by
 rcases h with rfl|rfl|rfl|rfl
 .exact⟨((lr k.bits p &&& lr k.bits q).toNat:Int),by simp only[binOp,ne_eq,not_true_eq_false,if_false,vu,eb]⟩
 .exact⟨((lr k.bits p ||| lr k.bits q).toNat:Int),by simp only[binOp,ne_eq,not_true_eq_false,if_false,vu,eb]⟩
 .exact⟨((lr k.bits p ^^^ lr k.bits q).toNat:Int),by simp only[binOp,ne_eq,not_true_eq_false,if_false,vu,eb]⟩
 .exact⟨((lr k.bits p &&& ~~~lr k.bits q).toNat:Int),by simp only[binOp,ne_eq,not_true_eq_false,if_false,vu,eb]⟩
theorem q6g(op:BinOp)(k:IntKind)(t:nz)(p q:Int)(b:Bool)(h:op=.eql/\b=decide (p=q)\/op=.neq/\b=!decide (p=q)\/op=.lss/\b=decide (p<q)\/op=.leq/\b=decide (p<=q)\/op=.gtr/\b=decide (q<p)\/op=.geq/\b=decide (q<=p)) :
  (binOp op t (.int k p) (.int k q)).run P w=.ok (ni b) w:=by
 rcases h with⟨rfl,rfl⟩|⟨rfl,rfl⟩|⟨rfl,rfl⟩|⟨rfl,rfl⟩|⟨rfl,rfl⟩|⟨rfl,rfl⟩<;>simp[binOp,Op.intCmp]<;>(first|rfl|(by_cases e:p=q<;>simp[e]))
theorem q4b{x y:qf}{out:uh}(h:qt1 S op k x y=I out)(hex:∃Z,Ω Z)(hs:∀Z,Ω Z->xg cx.tb W0 S base Z T w)(hp:∀Z,Ω Z->p=x.eval Z)(hq:∀Z,Ω Z->q=y.eval Z)(t:nz) :
  ∃v,(binOp op t (.int k p) (.int k q)).run P w=.ok v w/\∀Z,Ω Z->uy cx.tb W0 S out base Z T w v:=by
 obtain⟨ρ0,h0⟩:=hex;cases op<;>simp only[qt1,bc,reduceCtorEq] at h
 .subst h;exact⟨_,q7z ..,λZ hρ=>qk5 (hs Z hρ) (by rw[qf.add_eval,<-hp Z hρ,<-hq Z hρ])⟩
 .subst h;exact⟨_,q7g ..,λZ hρ=>qk5 (hs Z hρ) (by rw[qf.sub_eval,<-hp Z hρ,<-hq Z hρ])⟩
 .split at h
  .rename_i c hc;cases h;exact⟨_,qi5 ..,λZ hρ=>qk5 (hs Z hρ) (by rw[qf.vg,<-hp Z hρ,hq Z hρ,qat hc Z,Int.mul_comm])⟩
  .split at h
   .rename_i c hc;cases h;exact⟨_,qi5 ..,λZ hρ=>qk5 (hs Z hρ) (by rw[qf.vg,hp Z hρ,<-hq Z hρ,qat hc Z])⟩
   .cases h;exact⟨_,qi5 ..,λZ hρ=>jq ⟨_,rfl,(jo k _).1,(jo k _).2⟩ kq⟩
 .split at h
  .rename_i hy;cases h;have hy1:=(hs ρ0 h0).ent hy;rw[qf.xh,<-hq ρ0 h0] at hy1;have hne:¬q=0:=kg;refine⟨_,q7t _ _ _ _ hne,λZ hρ=>jq ⟨_,rfl,(jo k _).1,(jo k _).2⟩ ?_⟩;intro hv f hf;split at hf
   .rename_i hx;simp only[ag] at hx;have hx0:=(hs Z hρ).ent hx.1;have hxr:=qe4 (hs Z hρ) hx.2;rw[<-hp Z hρ] at hx0 hxr;obtain⟨g1,g2,g3,g4⟩:=qwk hx0 (show 1<=q by omega);have hk0:k.min<=0:=by cases k<;>decide
    have hw:k.wrap (p.tdiv q)=p.tdiv q:=wrap_in kg kg;have hm:meas (Z S.nv)=p.tdiv q:=by rw[hv,hw];rfl
    simp only[bo,cu,ep,or_false] at hf;rcases hf with(rfl|rfl)|hf
    .rw[qf.yl,hm];exact g1
    .rw[qf.sub_eval,qf.yl,hm,<-hp Z hρ];omega
    .split at hf
     .rename_i c hc;have hqc:q=c:=by rw[hq Z hρ,qat hc Z]
      subst hqc;simp only[cu,ep,or_false] at hf;rcases hf with rfl|rfl
      .rw[qf.sub_eval,qf.vg,qf.yl,hm,<-hp Z hρ];omega
      .rw[qf.sub_eval,qf.xh,qf.vg,qf.yl,hm,<-hp Z hρ];omega
     .simp at hf
   .simp at hf
  .cases h
 .split at h
  .rename_i hy;cases h;simp only[ag] at hy;have hy1:=(hs ρ0 h0).ent hy.1;have hxr:=qe4 (hs ρ0 h0) hy.2;rw[qf.xh,<-hq ρ0 h0] at hy1;rw[<-hp ρ0 h0] at hxr;have hne:¬q=0:=kg;obtain⟨g1,g2,g3,g4,g5⟩:=qw9 (x:=p) (show 1<=q by omega);have hk0:k.min<=0/\0<=k.max:=by cases k<;>decide
   refine⟨_,q6a _ _ _ _ hne,λZ hρ=>jq ⟨_,rfl,?_,?_⟩ ?_⟩
   .omega
   .rcases g5 with g|g
    .have:=(g1 g).2;omega
    .omega
   .intro hv f hf;have hm:meas (Z S.nv)=p.tmod q:=by rw[hv];rfl
    simp only[cu] at hf;rcases hf with rfl|hf
    .rw[qf.sub_eval,qf.xh,qf.yl,hm,<-hq Z hρ];omega
    .split at hf
     .rename_i hx;have hx0:=(hs Z hρ).ent hx;rw[<-hp Z hρ] at hx0;simp only[cu,ep,or_false] at hf;rcases hf with rfl|rfl
      .rw[qf.yl,hm];exact(g1 hx0).1
      .rw[qf.sub_eval,qf.yl,hm,<-hp Z hρ];have:=(g1 hx0).2;omega
     .simp only[gz] at hf;subst hf;rw[qf.add_eval,qf.xh,qf.yl,hm,<-hq Z hρ];omega
  .cases h
 .subst h;obtain⟨z,hz⟩:=qdm (P:=P) (w:=w) .and kq k t p q;exact⟨_,hz,λZ hρ=>jq ⟨_,rfl,(jo k _).1,(jo k _).2⟩ kq⟩
 .subst h;obtain⟨z,hz⟩:=qdm (P:=P) (w:=w) .or kq k t p q;exact⟨_,hz,λZ hρ=>jq ⟨_,rfl,(jo k _).1,(jo k _).2⟩ kq⟩
 .subst h;obtain⟨z,hz⟩:=qdm (P:=P) (w:=w) .xor kq k t p q;exact⟨_,hz,λZ hρ=>jq ⟨_,rfl,(jo k _).1,(jo k _).2⟩ kq⟩
 .subst h;obtain⟨z,hz⟩:=qdm (P:=P) (w:=w) .andNot kq k t p q;exact⟨_,hz,λZ hρ=>jq ⟨_,rfl,(jo k _).1,(jo k _).2⟩ kq⟩
 all_goals
  subst h;refine⟨_,q6g _ k t p q _ (by simp only[reduceCtorEq,false_and,true_and,or_false,false_or];rfl),λZ hρ=>qqi ?_⟩;have e1:=hp Z hρ;have e2:=hq Z hρ;simp only[SV.den,BE.den,qf.sub_eval,qf.xh,<-e1,<-e2,Value.bool.injEq]
  first
   | (rw[abi];simp only[decide_eq_true_eq];omega)
   | (congr 1;rw[abi];simp only[decide_eq_true_eq];omega)
theorem q7a(k k':IntKind)(t:nz)(p q:Int)(hq:0<=q):(binOp .shl t (.int k p) (.int k' q)).run P w=.ok (.int k (k.wrap (p*2^(min q.toNat k.bits)))) w:=by
 have:¬q<0:=kg;simp[binOp,Op.shift,this]
theorem q7q(k k':IntKind)(t:nz)(p q:Int)(hq:0<=q):(binOp .shr t (.int k p) (.int k' q)).run P w=.ok (.int k (p.fdiv (2^(min q.toNat k.bits)))) w:=by
 have:¬q<0:=kg;simp[binOp,Op.shift,this]
theorem qt7(p:Int)(n:Nat):(0<=p->0<=p.fdiv (2^n)/\p.fdiv (2^n)<=p)/\(p<=0->p<=p.fdiv (2^n)/\p.fdiv (2^n)<=0):=by
 have hpos:(0:Int)<2^n:=aaw kj;rw[qb p (pg hpos)];have h1:=mu p (2^n);have h2:=qn p (show(2:Int)^n≠0 by omega);have h3:=oq p hpos;refine⟨λh=>?_,λh=>?_⟩
 .have h4:0<=p/2^n:=sk h kg
  have h5:p/2^n<=2^n*(p/2^n):=by
   have:=sn (show(1:Int)<=2^n by omega) h4;omega
  omega
 .have h4:p/2^n<=0:=by
   rcases(by omega:0<p/2^n\/p/2^n<=0) with h' | h'
   .have:=mj (show(1:Int)<=p/2^n by omega) (pg hpos);omega
   .exact h'
  refine⟨?_,h4⟩;rcases(by omega:p/2^n<p\/p<=p/2^n) with h' | h'
  .have h6:=mj (show p/2^n<=p-1 by omega) (pg hpos);have h7:=Int.mul_le_mul_of_nonpos_right (show(1:Int)<=2^n by omega) h;rw[Int.mul_sub] at h6;omega
  .exact h'
def q0j(S:St)(k:IntKind)(x y:qf):Int:=match x.ts,qib y with
 | [(1,v)],I c=>if x.c=0/\0<=c/\c.toNat<=k.bits then(match S.rng v with
   | some (_,hi)=>hi/2^c.toNat
   | none=>k.max) else k.max
 | _,_=>k.max
theorem q5i{x y:qf}(hs:xg cx.tb W0 S base Z T w)(hp:p=x.eval Z)(hq:q=y.eval Z)(hm:p.fdiv (2^(min q.toNat k.bits))<=k.max):p.fdiv (2^(min q.toNat k.bits))<=q0j S k x y:=by
 unfold q0j;split
 .rename_i v c hx hc;split
  .rename_i h;split
   .rename_i lo hi hr;have h1:=(hs.rng v lo hi hr).2
    have h2:p=meas (Z v):=by
     obtain⟨xc,xt⟩:=x;simp only at hx h;rw[hp,hx,h.1];simp[qf.eval,jk]
    have hqc:q=c:=by rw[hq,qat hc]
    have hmin:min q.toNat k.bits=c.toNat:=by rw[hqc];omega
    have hpos:(0:Int)<2^c.toNat:=aaw kj;rw[hmin,qb _ (pg hpos)];exact Int.ediv_le_ediv hpos kg
   .exact hm
  .exact hm
 .exact hm
def qfg(S:St)(op:BinOp)(k:IntKind)(x y:qf):Option uh:=match op with
 | .shl=>if S.ent y then I (qve S k []) else V
 | .shr=>if S.ent y && S.inR k x then I (qzy S (.int k k.min (q0j S k x y)) ((if S.ent x then [qf.at S.nv,x.sub (qf.at S.nv)] else [])++match qib y with
    | some c=>if 0<=c/\c.toNat<=k.bits then [x.sub ((qf.at S.nv).sc (2^c.toNat)),(((qf.at S.nv).sc (2^c.toNat)).pl (2^c.toNat-1)).sub x] else []
    | none=>[])) else V
 | _=>V
theorem qiz{k':IntKind}{x y:qf}{out:uh}(h:qfg S op k x y=I out)(hex:∃Z,Ω Z)(hs:∀Z,Ω Z->xg cx.tb W0 S base Z T w)(hp:∀Z,Ω Z->p=x.eval Z)(hq:∀Z,Ω Z->q=y.eval Z)(t:nz) :
  ∃v,(binOp op t (.int k p) (.int k' q)).run P w=.ok v w/\∀Z,Ω Z->uy cx.tb W0 S out base Z T w v:=by
 obtain⟨ρ0,h0⟩:=hex;cases op<;>simp only[qfg,reduceCtorEq] at h
 .split at h
  .rename_i hy;cases h;have hy1:=(hs ρ0 h0).ent hy;rw[<-hq ρ0 h0] at hy1;exact⟨_,q7a _ _ _ _ _ hy1,λZ hρ=>jq ⟨_,rfl,(jo k _).1,(jo k _).2⟩ kq⟩
  .cases h
 .split at h
  .rename_i hy;cases h;simp only[ag] at hy;have hy1:=(hs ρ0 h0).ent hy.1;rw[<-hq ρ0 h0] at hy1;have hxr:=qe4 (hs ρ0 h0) hy.2;rw[<-hp ρ0 h0] at hxr;obtain⟨g1,g2⟩:=qt7 p (min q.toNat k.bits);have hk0:k.min<=0/\0<=k.max:=by cases k<;>decide
   have hr:k.min<=p.fdiv (2^(min q.toNat k.bits))/\p.fdiv (2^(min q.toNat k.bits))<=k.max:=by
    rcases acj 0 p with h|h
    .have:=g1 h;omega
    .have:=g2 h;omega
   refine⟨_,q7q _ _ _ _ _ hy1,λZ hρ=>jq ⟨_,rfl,hr.1,q5i (hs Z hρ) (hp Z hρ) (hq Z hρ) hr.2⟩ ?_⟩;intro hv f hf;have hm:meas (Z S.nv)=p.fdiv (2^(min q.toNat k.bits)):=by rw[hv];rfl
   rcases bo.1 hf with hf|hf
   rotate_left
   .split at hf
    .rename_i c hc;split at hf
     .rename_i hcb;have hqc:q=c:=by rw[hq Z hρ,qat hc]
      have hmin:min q.toNat k.bits=c.toNat:=by rw[hqc];omega
      rw[hmin] at hm;have e1:=mu p (2^c.toNat);have hpos:(0:Int)<2^c.toNat:=aaw kj;have e2:=qn p (Int.ne_of_gt hpos);have e3:=oq p hpos;rw[qb _ (pg hpos)] at hm;simp only[cu,ep,or_false] at hf;rcases hf with rfl|rfl
      .rw[qf.sub_eval,qf.vg,qf.yl,hm,<-hp Z hρ];omega
      .rw[qf.sub_eval,qf.xh,qf.vg,qf.yl,hm,<-hp Z hρ];omega
     .simp at hf
    .simp at hf
   split at hf
   .rename_i hx;have hx0:=(hs Z hρ).ent hx;rw[<-hp Z hρ] at hx0;simp only[cu,ep,or_false] at hf;rcases hf with rfl|rfl
    .rw[qf.yl,hm];exact(g1 hx0).1
    .rw[qf.sub_eval,qf.yl,hm,<-hp Z hρ];have:=(g1 hx0).2;omega
   .simp at hf
  .cases h
def St.str(S:St):SV->Bool
 | .con (.string _)=>nr
 | .var n=>match look S.ty n with
   | some (.str _)=>nr
   | _=>ns
 | _=>ns
theorem qj7(h:xg cx.tb W0 S base Z T w)(hs:S.str s=nr):∃b,s.den Z=nh b:=by
 cases s with
 | con v=>cases v<;>simp only[St.str,da] at hs;exact⟨_,rfl⟩
 | var n=>
   simp only[St.str] at hs;split at hs
   .rename_i lb hq;obtain⟨b,hb,-⟩:=h.ty n _ (ji hq);exact⟨b,hb⟩
   .cases hs
 | lin k l=>cases hs
 | be b=>cases hs
 | ptr n o=>cases hs
theorem qj5{l:qf}{b:ByteArray}(h:xg cx.tb W0 S base Z T w)(hd:s.den Z=nh b)(hl:S.len s=I l):l.eval Z=b.size:=by
 cases s with
 | con v=>
   cases hd;simp only[St.len,bc] at hl;subst hl;exact qf.ja Z _
 | var n=>
   have hd':Z n=nh b:=hd;simp only[St.len] at hl;split at hl
   .cases hl;rw[qf.yl,hd'];rfl
   .cases hl;rw[qf.yl,hd'];rfl
   .cases hl;rw[qf.yl,hd'];rfl
   .cases hl
 | lin k l=>cases hl
 | be b=>cases hl
 | ptr n o=>cases hl
def same(x y:SV):Bool:=match x,y with
 | .var n,.var m=>decide (n=m)
 | _,_=>ns
theorem qsr(h:same x y=nr):x=y:=by
 cases x<;>cases y<;>simp only[same,da,decide_eq_true_eq] at h;subst h;rfl
def q0h(S:St)(op:BinOp)(x y:SV):Option uh:=match op with
 | .add=>match S.len x,S.len y with
   | some l,I m=>if S.ent ((qf.k (2^62)).sub (l.add m)) then I (qzy S (.str (2^62)) [(qf.at S.nv).sub (l.add m),(l.add m).sub (qf.at S.nv)]) else V
   | _,_=>V
 | .eql=>if same x y then I (qyg (.be (.tt nr))) else I (qzy S .bool [])
 | .neq=>if same x y then I (qyg (.be (.tt ns))) else I (qzy S .bool [])
 | .lss=>I (qzy S .bool [])
 | .leq=>I (qzy S .bool [])
 | .gtr=>I (qzy S .bool [])
 | .geq=>I (qzy S .bool [])
 | _=>V
theorem q6s(op:BinOp)(t:nz)(x y:ByteArray):(binOp op t (nh x) (nh y)).run P w=(Op.stringOp op x y).run P w:=by
 cases op<;>rfl
theorem q6q{out:uh}(h:q0h S op x y=I out)(hex:∃Z,Ω Z)(hs:∀Z,Ω Z->xg cx.tb W0 S base Z T w){p q:ByteArray}(hp:∀Z,Ω Z->x.den Z=nh p)(hq:∀Z,Ω Z->y.den Z=nh q)(t:nz) :
  ∃v,(binOp op t (nh p) (nh q)).run P w=.ok v w/\∀Z,Ω Z->uy cx.tb W0 S out base Z T w v:=by
 rw[q6s];obtain⟨ρ0,h0⟩:=hex;cases op<;>simp only[q0h,bc,reduceCtorEq] at h
 case add=>
  split at h
  .rename_i l m hl hm;split at h
   .rename_i he;cases h;have g0:=(hs ρ0 h0).ent he;have e1:=qj5 (hs ρ0 h0) (hp ρ0 h0) hl;have e2:=qj5 (hs ρ0 h0) (hq ρ0 h0) hm;rw[qf.sub_eval,qf.ja,qf.add_eval,e1,e2] at g0
    have hmax:¬((p.size+q.size:Nat):Int) > IntKind.i64.max:=by
     have:IntKind.i64.max=9223372036854775807:=kj;omega
    refine⟨nh (p++q),by simp only[Op.stringOp,hmax,if_false,eb],λZ hρ=>jq ⟨_,rfl,by simp only[yp];omega⟩ ?_⟩;intro hv f hf;have e1:=qj5 (hs Z hρ) (hp Z hρ) hl;have e2:=qj5 (hs Z hρ) (hq Z hρ) hm;have hm':meas (Z S.nv)=p.size+q.size:=by rw[hv];simp[meas,yp]
    simp only[cu,ep,or_false] at hf;rcases hf with rfl|rfl<;>rw[qf.sub_eval,qf.add_eval,qf.yl,hm',e1,e2]<;>omega
   .cases h
  .cases h
 case eql=>
  split at h
  .rename_i hxy;cases h;have:=qsr hxy;subst this;have hpq:p=q:=by have:=(hp ρ0 h0).symm.trans (hq ρ0 h0);injection this
   subst hpq;exact⟨_,rfl,λZ hρ=>qqi (by simp[SV.den,BE.den])⟩
  .cases h;exact⟨_,rfl,λZ hρ=>jq ⟨_,rfl⟩ kq⟩
 case neq=>
  split at h
  .rename_i hxy;cases h;have:=qsr hxy;subst this;have hpq:p=q:=by have:=(hp ρ0 h0).symm.trans (hq ρ0 h0);injection this
   subst hpq;exact⟨_,rfl,λZ hρ=>qqi (by simp[SV.den,BE.den])⟩
  .cases h;exact⟨_,rfl,λZ hρ=>jq ⟨_,rfl⟩ kq⟩
 all_goals
  subst h;exact⟨_,rfl,λZ hρ=>jq ⟨_,rfl⟩ kq⟩
end
open Go.RowKit
section
variable {P:ma}{cx:Cx}{W0:nu}{S:St}{base:Nat}{Z:yu}{T:Nat->Prop}{w:nu}{a:Act}{Ω:yu->Prop}
theorem qjb(op:BinOp)(t:nz)(x y:Operand)(hu:u.oneCell'=nr)(hn:u≠.nilIface):(eqGuard op t x y u v).run P w=.ok () w:=by
 have key:∀b:Bool,(if(!b)=nr then(pure ():Sem Unit) else match u,v with
  | .nilIface,.nilIface=>if(x matches .const _) || (y matches .const _) then pure () else do
     if ←Op.eqGuardIn tw t u v then unsupported (.noEntry "binop/eql: two nil values of an interface type with methods, neither of them the literal nil")
  | .agg _,.agg _=>do
     if !(<-program).eqGuardType (<-program).depth t then return
     if ←Op.eqGuardIn tw t u v then unsupported (.noEntry "binop/eql: two nil values of an interface type with methods, in a part of a struct or an array")
  | _,_=>pure ()).run P w=.ok () w:=by
  intro b;cases b
  .simp only[Bool.not_false,if_true,eb]
  .simp only[Bool.not_true,da,if_false];cases u<;>first|rfl|(exact absurd rfl hn)|(cases hu)
 unfold eqGuard;split<;>(first|exact key ns|(cases u<;>first|rfl|(exact absurd rfl hn)|(cases hu)))
def eqv(a b:BE):BE:=.or (.and a b) (.and (.not a) (.not b))
theorem qtj(x y:BE):(eqv x y).den Z=(x.den Z == y.den Z):=by
 simp only[eqv,BE.den];cases x.den Z<;>cases y.den Z<;>rfl
def qa1:SV->Bool
 | .con (.slice V 0 0)=>nr
 | _=>ns
theorem qvs(h:qa1 s=nr):s=.con (ng V 0 0):=by
 unfold qa1 at h;split at h
 .rfl
 .cases h
def St.qkk(S:St):SV->Bool
 | .con (.slice V 0 0)=>nr
 | .var n=>match look S.ty n with
   | some (.sl _ _ _)=>nr
   | some (.cs _ _ _)=>nr
   | _=>ns
 | _=>ns
theorem qns(h:xg cx.tb W0 S base Z T w)(hs:S.qkk s=nr):∃A n c,s.den Z=ng A n c/\(A=V->n=0/\c=0):=by
 unfold St.qkk at hs;split at hs
 .exact⟨V,0,0,rfl,λ_=>⟨rfl,rfl⟩⟩
 .split at hs
  .rename_i n _ m e lb hq;rcases h.ty n _ (ji hq) with h1|⟨-,h1⟩|⟨b,off,k,c,h1,-⟩
   .exact⟨V,0,0,h1,λ_=>⟨rfl,rfl⟩⟩
   .have h2:(SV.var n).den Z=Z n:=rfl;rw[h2];generalize Z n=z at h1;cases h1
    .exact⟨V,0,0,rfl,λ_=>⟨rfl,rfl⟩⟩
    .exact⟨_,_,_,rfl,λe=>by cases e⟩
    .exact⟨_,_,_,rfl,λe=>by cases e⟩
   .exact⟨_,_,_,h1,λe=>by cases e⟩
  .rename_i n _ q e lb hq;rcases h.ty n _ (ji hq) with h1|⟨b,off,k,c,cs,fr,h1,-⟩
   .exact⟨V,0,0,h1,λ_=>⟨rfl,rfl⟩⟩
   .exact⟨_,_,_,h1,λe=>by cases e⟩
  .cases hs
 .cases hs
theorem qyb{l:qf}(h:xg cx.tb W0 S base Z T w)(hd:s.den Z=ng A n c)(hl:S.len s=I l):l.eval Z=n:=by
 cases s with
 | con v=>
   cases hd;unfold St.len at hl;split at hl<;>first|(rename_i e;injection e with e;injection e with e1 e2 e3;cases hl;rw[qf.ja,e2];rfl)|cases hl|skip
   all_goals(rename_i e;cases e)
 | var m=>
   have hd':Z m=ng A n c:=hd;simp only[St.len] at hl;split at hl
   .cases hl;rw[qf.yl,hd'];rfl
   .cases hl;rw[qf.yl,hd'];rfl
   .cases hl;rw[qf.yl,hd'];rfl
   .cases hl
 | lin k l=>cases hl
 | be b=>cases hl
 | ptr n o=>cases hl
def kd(cx:Cx)(t:nz):KD:=match look cx.td t with
 | some d=>d.k
 | none=>.oth
theorem xe(hcx:yj P cx){k:KD}(h:kd cx t=k)(hk:k≠.oth):∃u,P.underlying t=I u/\KD.of u=k:=by
 unfold kd at h;split at h
 .rename_i d hd;obtain⟨u,h1,h2⟩:=qya (hcx t d hd);exact⟨u,h1,h2.trans h⟩
 .exact absurd h.symm hk
def nilE(S:St)(l:qf):uh:=⟨.v (.one (.be (.and (.eq l) (.var S.nv)))),[.bool],[]⟩
def nilN(S:St)(l:qf):uh:=⟨.v (.one (.be (.not (.and (.eq l) (.not (.var S.nv)))))),[.bool],[]⟩
theorem q1d{l:qf}(h:xg cx.tb W0 S base Z T w)(hl:S.len s=I l)(hd:s.den Z=ng A n c)(hA:A=V->n=0/\c=0) :
  uy cx.tb W0 S (nilE S l) base Z T w (ni A.isNone)/\uy cx.tb W0 S (nilN S l) base Z T w (ni (!A.isNone)):=by
 have e:=qyb h hd hl
 have key:∀(b:Bool) (x:XV),Blk Z S.nv 1 (qzs (ni b))->(ni b=x.den Z)->ni b=x.den Z/\(∀i ct,[CT.bool][i]? = I ct->CV cx.tb W0 T w base ct (Z (S.nv+i)))/\∀f∈([]:List qf),0<=f.eval Z:=by
  intro b x hb hx;have h0:Z S.nv=ni b:=hb 0 kq;refine⟨hx,λi ct hi=>?_,kq⟩;cases i with
  | zero=>
    simp only[db,bc] at hi;subst hi;rw[ir,h0];exact⟨b,rfl⟩
  | succ i=>simp at hi
 refine⟨λhb=>key _ _ hb ?_,λhb=>key _ _ hb ?_⟩
 .have h0:Z S.nv=ni A.isNone:=hb 0 (by simp[nilE]);show Value.bool A.isNone=.bool ((decide (l.eval Z=0)) && qky (Z S.nv));rw[h0,e];cases A with
  | none=>simp[qky,(hA rfl).1]
  | some A=>simp[qky]
 .have h0:Z S.nv=ni (!A.isNone):=hb 0 (by simp[nilN]);show Value.bool (!A.isNone)=.bool (!((decide (l.eval Z=0)) && !(qky (Z S.nv))));rw[h0,e];cases A with
  | none=>simp[qky,(hA rfl).1]
  | some A=>simp[qky]
def binA(cx:Cx)(S:St)(op:BinOp)(t:nz)(x y:SV):Option uh:=
 match S.lin x,S.lin y with
 | some (k,l),I (k',m)=>match op with
   | .shl=>qfg S .shl k l m
   | .shr=>qfg S .shr k l m
   | op=>if k=k' then qt1 S op k l m else V
 | _,_=>match S.be x,S.be y with
   | some b,I c=>match kd cx t,op with
     | .bool,.eql=>I (qyg (.be (eqv b c)))
     | .bool,.neq=>I (qyg (.be (.not (eqv b c))))
     | _,_=>V
   | _,_=>if S.str x && S.str y then q0h S op x y else
     if S.qkk x && qa1 y then match kd cx t,op with
      | .sl _,.eql=>(S.len x).map (nilE S)
      | .sl _,.neq=>(S.len x).map (nilN S)
      | _,_=>V
     else V
theorem q7n(hcx:yj P cx){out:uh}(h:binA cx S op t x y=I out)(hex:∃Z,Ω Z)(hs:∀Z,Ω Z->xg cx.tb W0 S base Z T w)(hu:∀Z,Ω Z->u=x.den Z)(hv:∀Z,Ω Z->v=y.den Z)(x' y':Operand) :
  ∃r,(do eqGuard op t x' y' u v;binOp op t u v:Sem ny).run P w=.ok r w/\∀Z,Ω Z->uy cx.tb W0 S out base Z T w r:=by
 obtain⟨ρ0,h0⟩:=hex;unfold binA at h;split at h
 .rename_i k l k' m hl hm;have e1:=uo (hs ρ0 h0) hl;have e2:=uo (hs ρ0 h0) hm;rw[<-hu ρ0 h0] at e1;rw[<-hv ρ0 h0] at e2
  have p1:∀Z,Ω Z->l.eval ρ0=l.eval Z:=λZ hρ=>by
   have:=uo (hs Z hρ) hl;rw[<-hu Z hρ,e1] at this;injection this
  have p2:∀Z,Ω Z->m.eval ρ0=m.eval Z:=λZ hρ=>by
   have:=uo (hs Z hρ) hm;rw[<-hv Z hρ,e2] at this;injection this
  subst e1;subst e2;have hg:=qjb (P:=P) (w:=w) op t x' y' (u:=.int k (l.eval ρ0)) (v:=.int k' (m.eval ρ0)) rfl kq;rw[ai,hg];simp only[aq];split at h
  .exact qiz h ⟨ρ0,h0⟩ hs p1 p2 t
  .exact qiz h ⟨ρ0,h0⟩ hs p1 p2 t
  .split at h
   .rename_i hk;subst hk;exact q4b h ⟨ρ0,h0⟩ hs p1 p2 t
   .cases h
 .split at h
  .rename_i b c hb hc;have e1:=qq1 (hs ρ0 h0) hb;have e2:=qq1 (hs ρ0 h0) hc;rw[<-hu ρ0 h0] at e1;rw[<-hv ρ0 h0] at e2
   have p1:∀Z,Ω Z->b.den ρ0=b.den Z:=λZ hρ=>by
    have:=qq1 (hs Z hρ) hb;rw[<-hu Z hρ,e1] at this;injection this
   have p2:∀Z,Ω Z->c.den ρ0=c.den Z:=λZ hρ=>by
    have:=qq1 (hs Z hρ) hc;rw[<-hv Z hρ,e2] at this;injection this
   subst e1;subst e2;have hg:=qjb (P:=P) (w:=w) op t x' y' (u:=ni (b.den ρ0)) (v:=ni (c.den ρ0)) rfl kq;rw[ai,hg];simp only[aq];split at h
   .rename_i hk;cases h;obtain⟨u',g1,g2⟩:=xe hcx hk kq;have:u'=.bool:=by cases u'<;>simp_all [KD.of]
    subst this;refine⟨_,run_eql_bool w t _ _ g1,λZ hρ=>qqi ?_⟩;simp only[SV.den,qtj,p1 Z hρ,p2 Z hρ]
   .rename_i hk;cases h;obtain⟨u',g1,g2⟩:=xe hcx hk kq;have:u'=.bool:=by cases u'<;>simp_all [KD.of]
    subst this;refine⟨ni (!(b.den ρ0 == c.den ρ0)),?_,λZ hρ=>qqi ?_⟩
    .show(do pure (ni (!(<-tk t _ _))):Sem ny).run P w=_;rw[ai,run_equal_bool w t _ _ g1];rfl
    .simp only[SV.den,BE.den,qtj,p1 Z hρ,p2 Z hρ]
   .cases h
  .split at h
   .rename_i hst;simp only[ag] at hst;obtain⟨p,e1⟩:=qj7 (hs ρ0 h0) hst.1;obtain⟨q,e2⟩:=qj7 (hs ρ0 h0) hst.2;rw[<-hu ρ0 h0] at e1;rw[<-hv ρ0 h0] at e2;subst e1;subst e2;have hg:=qjb (P:=P) (w:=w) op t x' y' (u:=nh p) (v:=nh q) rfl kq;rw[ai,hg];simp only[aq];exact q6q h ⟨ρ0,h0⟩ hs (λZ hρ=>(hu Z hρ).symm) (λZ hρ=>(hv Z hρ).symm) t
   .split at h
    .rename_i hsl;simp only[ag] at hsl;obtain⟨A,n,c,e1,hA⟩:=qns (hs ρ0 h0) hsl.1;have e2:=qvs hsl.2;subst e2;rw[<-hu ρ0 h0] at e1;have e2:v=ng V 0 0:=hv ρ0 h0;subst e1;subst e2;have hg:=qjb (P:=P) (w:=w) op t x' y' (u:=ng A n c) (v:=ng V 0 0) rfl kq;rw[ai,hg];simp only[aq];split at h
     .rename_i e' hk;obtain⟨l,hl,rfl⟩:=ea.1 h;obtain⟨u',g1,g2⟩:=xe hcx hk kq;obtain⟨e'',rfl⟩:∃e'',u'=.slice e'':=by cases u'<;>simp_all [KD.of]
      refine⟨ni A.isNone,?_,λZ hρ=>(q1d (hs Z hρ) hl (hu Z hρ).symm hA).1⟩;show(do pure (ni (<-tk t _ _)):Sem ny).run P w=_;rw[ai,qe w t _ A n c g1];rfl
     .rename_i e' hk;obtain⟨l,hl,rfl⟩:=ea.1 h;obtain⟨u',g1,g2⟩:=xe hcx hk kq;obtain⟨e'',rfl⟩:∃e'',u'=.slice e'':=by cases u'<;>simp_all [KD.of]
      refine⟨ni (!A.isNone),?_,λZ hρ=>(q1d (hs Z hρ) hl (hu Z hρ).symm hA).2⟩;show(do pure (ni (!(<-tk t _ _))):Sem ny).run P w=_;rw[ai,qe w t _ A n c g1];rfl
     .cases h
    .cases h
def unA(S:St)(op:UnOp)(x:SV):Option uh:=match op with
 | .not=>(S.be x).map λb=>qyg (.be (.not b))
 | .neg=>(S.lin x).map λkl=>qbl S kl.1 (kl.2.sc (-1))
 | .xor=>(S.lin x).map λkl=>qve S kl.1 []
 | _=>V
theorem unA_ok{op:UnOp}{out:uh}(h:unA S op x=I out)(hex:∃Z,Ω Z)(hs:∀Z,Ω Z->xg cx.tb W0 S base Z T w)(hu:∀Z,Ω Z->u=x.den Z) :
  ∃r,(acm op u).run P w=.ok r w/\∀Z,Ω Z->uy cx.tb W0 S out base Z T w r:=by
 obtain⟨ρ0,h0⟩:=hex;cases op<;>simp only[unA,reduceCtorEq] at h
 .cases hl:S.lin x with
  | none=>rw[hl] at h;cases h
  | some kl=>
    obtain⟨k,l⟩:=kl;rw[hl] at h;have h:=oi h;subst h;have e1:=uo (hs ρ0 h0) hl;rw[<-hu ρ0 h0] at e1
    have p1:∀Z,Ω Z->l.eval ρ0=l.eval Z:=λZ hρ=>by
     have:=uo (hs Z hρ) hl;rw[<-hu Z hρ,e1] at this;injection this
    subst e1;refine⟨.int k (k.wrap (0-l.eval ρ0)),by simp[acm,xz],λZ hρ=>qk5 (hs Z hρ) (by rw[qf.vg,p1 Z hρ];show _=-1*l.eval Z;omega)⟩
 .cases hl:S.lin x with
  | none=>rw[hl] at h;cases h
  | some kl=>
    obtain⟨k,l⟩:=kl;rw[hl] at h;have h:=oi h;subst h;have e1:=uo (hs ρ0 h0) hl;rw[<-hu ρ0 h0] at e1;subst e1;exact⟨.int k (k.wrap ((lr k.bits (if k.signed then -1 else k.max) ^^^ lr k.bits (l.eval ρ0)).toNat:Int)),by simp only[acm,vu,eb],λZ hρ=>jq ⟨_,rfl,(jo k _).1,(jo k _).2⟩ kq⟩
 .cases hl:S.be x with
  | none=>rw[hl] at h;cases h
  | some b=>
    rw[hl] at h;have h:=oi h;subst h;have e1:=qq1 (hs ρ0 h0) hl;rw[<-hu ρ0 h0] at e1
    have p1:∀Z,Ω Z->b.den ρ0=b.den Z:=λZ hρ=>by
     have:=qq1 (hs Z hρ) hl;rw[<-hu Z hρ,e1] at this;injection this
    subst e1;exact⟨ni (!b.den ρ0),rfl,λZ hρ=>qqi (by simp only[SV.den,BE.den,p1 Z hρ])⟩
def qwy(cx:Cx)(S:St)(src dst:nz)(x:SV):Option uh:=match kd cx src,kd cx dst,S.lin x with
 | .int _,.int k,I (_,l)=>I (qbl S k l)
 | .str,.str,_=>if S.str x then I (qyg x) else V
 | _,_,_=>V
theorem q4o(hcx:yj P cx){src dst:nz}{out:uh}(h:qwy cx S src dst x=I out)(hex:∃Z,Ω Z)(hs:∀Z,Ω Z->xg cx.tb W0 S base Z T w)(hu:∀Z,Ω Z->u=x.den Z) :
  ∃r,(convert src dst u).run P w=.ok r w/\∀Z,Ω Z->uy cx.tb W0 S out base Z T w r:=by
 obtain⟨ρ0,h0⟩:=hex;unfold qwy at h;split at h
 .rename_i k1 k k2 l hk1 hk hl;cases h;have e1:=uo (hs ρ0 h0) hl;rw[<-hu ρ0 h0] at e1
  have p1:∀Z,Ω Z->l.eval ρ0=l.eval Z:=λZ hρ=>by
   have:=uo (hs Z hρ) hl;rw[<-hu Z hρ,e1] at this;injection this
  subst e1;obtain⟨u1,a1,b1⟩:=xe hcx hk1 kq;obtain⟨u2,a2,b2⟩:=xe hcx hk kq;have r1:u1=.int k1:=by cases u1<;>simp_all [KD.of]
  have r2:u2=.int k:=by cases u2<;>simp_all [KD.of]
  subst r1;subst r2;refine⟨.int k (k.wrap (l.eval ρ0)),?_,λZ hρ=>qk5 (hs Z hρ) (p1 Z hρ)⟩;unfold convert;rw[ai,bg a1 w];simp only[aq];rw[ai,bg a2 w];rfl
 .rename_i hk1 hk;split at h
  .rename_i hst;cases h;obtain⟨p,e1⟩:=qj7 (hs ρ0 h0) hst;rw[<-hu ρ0 h0] at e1;obtain⟨u1,a1,b1⟩:=xe hcx hk1 kq;obtain⟨u2,a2,b2⟩:=xe hcx hk kq;have r1:u1=.string:=by cases u1<;>simp_all [KD.of]
   have r2:u2=.string:=by cases u2<;>simp_all [KD.of]
   subst r1;subst r2;refine⟨u,?_,λZ hρ=>qqi (hu Z hρ)⟩;subst e1;unfold convert;rw[ai,bg a1 w];simp only[aq];rw[ai,bg a2 w];rfl
  .cases h
 .cases h
end
open Go.RowKit
section
variable {P:ma}{cx:Cx}{W0:nu}{S:St}{base:Nat}{Z:yu}{T:Nat->Prop}{w:nu}{a:Act}{Ω:yu->Prop}
theorem CV.slc{tb:yg}(h:CV tb W0 T w base (.sl m e lb) v):∃A n c,v=ng A n c/\n<=c/\c<=mf/\(A=V->n=0/\c=0)/\∀ad,A=I ad->c≠0->ad.spot=V:=by
 rcases h with h1|⟨-,h1⟩|⟨b,off,k,c,h1,h2,h3,h4,-⟩
 .exact⟨V,0,0,h1,af _,cr _,λ_=>⟨rfl,rfl⟩,λ_ e=>by cases e⟩
 .cases h1 with
  | nil=>exact⟨V,0,0,rfl,af _,cr _,λ_=>⟨rfl,rfl⟩,λ_ e=>by cases e⟩
  | emp a=>exact⟨I a,0,0,rfl,af _,cr _,(λe=>by cases e),λ_ _ h=>absurd rfl h⟩
  | sl f hb hn hl hc hs hf ht=>exact⟨_,_,_,rfl,hn,hc,(λe=>by cases e),λ_ e _=>by cases e;rfl⟩
 .exact⟨_,_,_,h1,h2,h4,(λe=>by cases e),λ_ e _=>by cases e;rfl⟩
def St.qcm(S:St):SV->Option (Nat×nz×Nat)
 | .var n=>match look S.ty n with
   | some (.sl m e lb)=>I (m,e,lb)
   | some (.cs _ e lb)=>I (0,e,lb)
   | _=>V
 | _=>V
theorem qx9(h:xg cx.tb W0 S base Z T w)(hs:S.qcm s=I (m,e,lb)):∃n,s=.var n/\CV cx.tb W0 T w base (.sl m e lb) (Z n)/\S.len s=I (qf.at n):=by
 cases s with
 | var n=>
   simp only[St.qcm] at hs;split at hs
   .rename_i hq;cases hs;exact⟨n,rfl,h.ty n _ (ji hq),by simp only[St.len,hq]⟩
   .rename_i hq;cases hs;exact⟨n,rfl,(h.ty n _ (ji hq)).qxy,by simp only[St.len,hq]⟩
   .cases hs
 | con v=>cases hs
 | lin k l=>cases hs
 | be b=>cases hs
 | ptr n o=>cases hs
def lenA(cx:Cx)(S:St)(t:nz)(x:SV):Option uh:=match kd cx t with
 | .str=>if S.str x then(S.len x).map λl=>qyg (.lin O l) else V
 | .sl _=>if S.qkk x then(S.len x).map λl=>qyg (.lin O l) else V
 | .ar n _=>I (qyg (.con (.int O n)))
 | _=>V
theorem q66(hcx:yj P cx){out:uh}(h:lenA cx S t x=I out)(hex:∃Z,Ω Z)(hs:∀Z,Ω Z->xg cx.tb W0 S base Z T w)(hu:∀Z,Ω Z->u=x.den Z) :
  ∃v,(sr #[t] r #[u]).run P w=.ok v w/\∀Z,Ω Z->uy cx.tb W0 S out base Z T w v:=by
 obtain⟨ρ0,h0⟩:=hex;unfold lenA at h;split at h
 .rename_i hk;obtain⟨u',g1,g2⟩:=xe hcx hk kq;have:u'=.string:=by cases u'<;>simp_all [KD.of]
  subst this;split at h
  .rename_i hst;cases hl:S.len x with
   | none=>rw[hl] at h;cases h
   | some l=>
     rw[hl] at h;have h:=oi h;subst h;obtain⟨p,e1⟩:=qj7 (hs ρ0 h0) hst;rw[<-hu ρ0 h0] at e1;subst e1;refine⟨goInt p.size,?_,λZ hρ=>qqi ?_⟩
     .simp[sr,ai,bg g1 w]
     .simp only[goInt,SV.den,qj5 (hs Z hρ) (hu Z hρ).symm hl]
  .cases h
 .rename_i e hk;obtain⟨u',g1,g2⟩:=xe hcx hk kq;obtain⟨e',rfl⟩:∃e',u'=.slice e':=by cases u'<;>simp_all [KD.of]
  split at h
  .rename_i hst;cases hl:S.len x with
   | none=>rw[hl] at h;cases h
   | some l=>
     rw[hl] at h;have h:=oi h;subst h;obtain⟨A,n,c,e1,-⟩:=qns (hs ρ0 h0) hst;rw[<-hu ρ0 h0] at e1;subst e1;refine⟨goInt n,?_,λZ hρ=>qqi ?_⟩
     .simp[sr,ai,bg g1 w]
     .simp only[goInt,SV.den,qyb (hs Z hρ) (hu Z hρ).symm hl]
  .cases h
 .rename_i n e hk;cases h;obtain⟨u',g1,g2⟩:=xe hcx hk kq;obtain⟨n',e',rfl⟩:∃n' e',u'=.array n' e':=by cases u'<;>simp_all [KD.of]
  simp only[KD.of,KD.ar.injEq] at g2;obtain⟨rfl,rfl⟩:=g2;refine⟨goInt n',?_,λZ hρ=>qqi rfl⟩;cases u<;>simp[sr,ai,bg g1 w]
 .cases h
def capA(cx:Cx)(S:St)(t:nz)(x:SV):Option uh:=match kd cx t,S.qcm x,S.len x with
 | .sl _,I _,I l=>I (qzy S (.int O 0 mf) [(qf.at S.nv).sub l])
 | _,_,_=>V
theorem q6v(hcx:yj P cx){out:uh}(h:capA cx S t x=I out)(hex:∃Z,Ω Z)(hs:∀Z,Ω Z->xg cx.tb W0 S base Z T w)(hu:∀Z,Ω Z->u=x.den Z) :
  ∃v,(acn #[t] r #[u]).run P w=.ok v w/\∀Z,Ω Z->uy cx.tb W0 S out base Z T w v:=by
 obtain⟨ρ0,h0⟩:=hex;unfold capA at h;split at h
 .rename_i e q l hk hsl hl;cases h;obtain⟨m,e2,lb⟩:=q;obtain⟨u',g1,g2⟩:=xe hcx hk kq;obtain⟨e',rfl⟩:∃e',u'=.slice e':=by cases u'<;>simp_all [KD.of]
  obtain⟨n,rfl,hcv,-⟩:=qx9 (hs ρ0 h0) hsl;obtain⟨A,k,c,h1,h2,h3,-⟩:=hcv.slc;have e1:=hu ρ0 h0;rw[show(SV.var n).den ρ0=ρ0 n from rfl,h1] at e1;subst e1;refine⟨goInt c,by simp[acn,ai,bg g1 w],λZ hρ=>jq ⟨_,rfl,kg,kg⟩ ?_⟩;intro hv f hf;simp only[gz] at hf;subst hf;rw[qf.sub_eval,qf.yl,hv,qyb (hs Z hρ) (hu Z hρ).symm hl];simp only[goInt,meas];omega
 .cases h
def mmA(S:St)(mx:Bool)(x y:SV):Option uh:=match S.lin x,S.lin y with
 | some (k,l),I (k',m)=>if k=k' && S.inR k l && S.inR k m then I (qve S k (
    (if mx then [(qf.at S.nv).sub l,(qf.at S.nv).sub m] else [l.sub (qf.at S.nv),m.sub (qf.at S.nv)])++(if S.ent l && S.ent m then [qf.at S.nv] else []) ++
    (if S.ent (l.sub m) then(if mx then [l.sub (qf.at S.nv)] else [(qf.at S.nv).sub m]) else [])++(if S.ent (m.sub l) then(if mx then [m.sub (qf.at S.nv)] else [(qf.at S.nv).sub l]) else []))) else V
 | _,_=>V
theorem q1v{mx:Bool}{out:uh}{ts:Array nz}(h:mmA S mx x y=I out)(hex:∃Z,Ω Z)(hs:∀Z,Ω Z->xg cx.tb W0 S base Z T w)(hu:∀Z,Ω Z->u=x.den Z)(hv:∀Z,Ω Z->v=y.den Z) :
  ∃z,(if mx then aab ts r #[u,v] else aac ts r #[u,v]).run P w=.ok z w/\∀Z,Ω Z->uy cx.tb W0 S out base Z T w z:=by
 obtain⟨ρ0,h0⟩:=hex;unfold mmA at h;split at h
 .rename_i k l k' m hl hm;split at h
  .rename_i hc;cases h;simp only[ag,decide_eq_true_eq] at hc;obtain⟨⟨rfl,c1⟩,c2⟩:=hc;have e1:=uo (hs ρ0 h0) hl;have e2:=uo (hs ρ0 h0) hm;rw[<-hu ρ0 h0] at e1;rw[<-hv ρ0 h0] at e2
   have p1:∀Z,Ω Z->l.eval ρ0=l.eval Z:=λZ hρ=>by
    have:=uo (hs Z hρ) hl;rw[<-hu Z hρ,e1] at this;injection this
   have p2:∀Z,Ω Z->m.eval ρ0=m.eval Z:=λZ hρ=>by
    have:=uo (hs Z hρ) hm;rw[<-hv Z hρ,e2] at this;injection this
   subst e1;subst e2;have r1:=qe4 (hs ρ0 h0) c1;have r2:=qe4 (hs ρ0 h0) c2;generalize hp:l.eval ρ0=p at *;generalize hq:m.eval ρ0=q at *
   obtain⟨z,hz,hz2⟩:∃z,(if mx then aab ts r #[.int k p,.int k q] else aac ts r #[.int k p,.int k q]).run P w=.ok (.int k z) w/\z=if mx then max p q else min p q:=by
    cases mx
    .refine⟨min p q,?_,rfl⟩;simp only[da,if_false,aac,adt,Builtin.min2,ai,eb,aq];congr 2;omega
    .refine⟨max p q,?_,rfl⟩;simp only[if_true,aab,adt,Builtin.max2,ai,eb,aq];congr 2;omega
   refine⟨_,hz,λZ hρ=>jq ⟨z,rfl,by split at hz2<;>omega,by split at hz2<;>omega⟩ ?_⟩;intro hvv f hf;have hmm:meas (Z S.nv)=z:=by rw[hvv];rfl
   have a1:=p1 Z hρ;have a2:=p2 Z hρ;simp only[bo] at hf;rcases hf with((hf|hf)|hf)|hf
   .cases mx<;>simp only[da,if_false,if_true,cu,ep,or_false] at hf hz2<;>rcases hf with rfl|rfl<;>rw[qf.sub_eval,qf.yl,hmm]<;>omega
   .split at hf
    .rename_i hc;simp only[ag] at hc;have g1:=(hs Z hρ).ent hc.1;have g2:=(hs Z hρ).ent hc.2;simp only[gz] at hf;subst hf;rw[qf.yl,hmm];split at hz2<;>omega
    .simp at hf
   .split at hf
    .rename_i hc;have g1:=(hs Z hρ).ent hc;rw[qf.sub_eval] at g1;cases mx<;>simp only[da,if_false,if_true,cu,ep,or_false] at hf hz2<;>subst hf<;>rw[qf.sub_eval,qf.yl,hmm]<;>omega
    .simp at hf
   .split at hf
    .rename_i hc;have g1:=(hs Z hρ).ent hc;rw[qf.sub_eval] at g1;cases mx<;>simp only[da,if_false,if_true,cu,ep,or_false] at hf hz2<;>subst hf<;>rw[qf.sub_eval,qf.yl,hmm]<;>omega
    .simp at hf
  .cases h
 .cases h
def yx(cx:Cx)(t:nz):Option TD:=look cx.td t
def qnx(cx:Cx)(t:nz)(l:List SV)(off:Nat):Option uh:=match yx cx t with
 | some d=>if d.k.agg then(if off+d.size<=l.length then I (quq (.v (.agg ((l.drop off).take d.size)))) else V) else match l[off]? with
   | some s=>I (qyg s)
   | none=>V
 | none=>V
theorem qod(hcx:yj P cx){out:uh}(h:qnx cx t l off=I out)(hex:∃Z,Ω Z)(hc:∀Z,Ω Z->cs.toList=qw Z l) :
  ∃v,(part t cs off).run P w=.ok v w/\∀Z,Ω Z->uy cx.tb W0 S out base Z T w v:=by
 obtain⟨ρ0,h0⟩:=hex;unfold qnx at h;split at h
 .rename_i d hd;have htd:=hcx t d hd;have hag:=qx2 htd w;have hsz:=vk htd w;split at h
  .rename_i hagg;split at h
   .rename_i hle;cases h;rw[hagg] at hag;refine⟨.agg (cs.extract off (off+d.size)),by simp[part,ai,hag,hsz],λZ hρ=>qjg ?_⟩;show Value.agg _=Value.agg _;congr 1;apply gq.1;rw[Array.toList_extract,hc Z hρ];simp[qw,List.extract_eq_take_drop,ue,ur]
   .cases h
  .rename_i hagg;have q0q:d.k.agg=ns:=by simpa using hagg
   rw[q0q] at hag;split at h
   .rename_i s hs';cases h
    have hcs:∀Z,Ω Z->cs[off]? = I (s.den Z):=λZ hρ=>by
     rw[<-ax,hc Z hρ];simp[qw,hs']
    refine⟨s.den ρ0,by simp[part,ai,hag,hcs ρ0 h0],λZ hρ=>qqi ?_⟩;have:=(hcs ρ0 h0).symm.trans (hcs Z hρ);exact oi this
   .cases h
 .cases h
def qxe(cx:Cx)(t:nz)(f:Nat):Option (nz×Nat):=match kd cx t with
 | .st fs=>fs[f]?
 | _=>V
theorem qyd(hcx:yj P cx){ft:nz}(h:qxe cx t f=I (ft,off)):∃fs fl,P.underlying t=I (.struct fs)/\fs[f]? = I fl/\fl.type=ft/\fl.offset=off:=by
 unfold qxe at h;split at h
 .rename_i l hk;obtain⟨u',g1,g2⟩:=xe hcx hk kq;obtain⟨fs,rfl⟩:∃fs,u'=.struct fs:=by cases u'<;>simp_all [KD.of]
  simp only[KD.of,KD.st.injEq] at g2;rw[<-g2,dh,ax] at h;cases hq:fs[f]? with
  | none=>rw[hq] at h;cases h
  | some fl=>
    rw[hq] at h;have h:=oi h;injection h with h1 h2;exact⟨fs,fl,g1,hq,h1,h2⟩
 .cases h
def qoa(cx:Cx)(t:nz)(x:XV)(f:Nat):Option uh:=match x,qxe cx t f with
 | .v (.agg l),I (ft,off)=>qnx cx ft l off
 | _,_=>V
theorem q3v(hcx:yj P cx){x:XV}{out:uh}(h:qoa cx t x f=I out)(hex:∃Z,Ω Z)(hu:∀Z,Ω Z->u=x.den Z) :
  ∃v,(adu t u f).run P w=.ok v w/\∀Z,Ω Z->uy cx.tb W0 S out base Z T w v:=by
 obtain⟨ρ0,h0⟩:=hex;unfold qoa at h;split at h
 .rename_i l ft off hf;obtain⟨fs,fl,g1,g2,rfl,rfl⟩:=qyd hcx hf;have e1:u=.agg (qw ρ0 l).toArray:=hu ρ0 h0
  obtain⟨v,hv1,hv2⟩:=qod (P:=P) (W0:=W0) (S:=S) (base:=base) (T:=T) (w:=w) hcx h ⟨ρ0,h0⟩ (cs:=(qw ρ0 l).toArray) (λZ hρ=>by
   have e2:u=.agg (qw Z l).toArray:=hu Z hρ;rw[e1] at e2;injection e2 with e2
   rw[e2])
  refine⟨v,?_,hv2⟩;subst e1;unfold adu;rw[ai,bg g1 w];simp only[aq,g2];rw[ai];simpa[asAgg] using hv1
 .cases h
def qpx(cx:Cx)(S:St)(t:nz)(x:SV)(f:Nat):Option uh:=match S.ptr x,qxe cx t f with
 | some (n,o),I (ft,off)=>match yx cx ft with
   | some d=>if d.size=0 then V else I (qyg (.ptr n (o+off)))
   | none=>V
 | _,_=>V
theorem q0w(hcx:yj P cx){out:uh}(h:qpx cx S t x f=I out)(hex:∃Z,Ω Z)(hs:∀Z,Ω Z->xg cx.tb W0 S base Z T w)(hu:∀Z,Ω Z->u=x.den Z) :
  ∃v,(abz t u f).run P w=.ok v w/\∀Z,Ω Z->uy cx.tb W0 S out base Z T w v:=by
 obtain⟨ρ0,h0⟩:=hex;unfold qpx at h;split at h
 .rename_i n o ft off hp hf;split at h
  .rename_i d hd;split at h
   .cases h
   .rename_i hne;cases h;obtain⟨fs,fl,g1,g2,rfl,rfl⟩:=qyd hcx hf;have e1:=qyw (hs ρ0 h0) hp;rw[<-hu ρ0 h0] at e1;refine⟨nj (I ⟨(qqx (ρ0 n)).block,(qqx (ρ0 n)).off+o+fl.offset,V⟩),?_,λZ hρ=>qqi ?_⟩
    .subst e1;unfold abz;rw[ai,bg g1 w];simp only[aq,g2];simp[mo,fieldPlace,ai,vk (hcx _ d hd) w,hne,wh]
    .have e2:=qyw (hs Z hρ) hp;rw[<-hu Z hρ,e1] at e2;injection e2 with e2;injection e2 with e2;injection e2 with e3 e4;simp only[SV.den,<-e3];rw[show(qqx (Z n)).off+(o+fl.offset)=(qqx (Z n)).off+o+fl.offset by omega,<-e4]
  .cases h
 .cases h
end
open Go.RowKit
section
variable {P:ma}{cx:Cx}{W0:nu}{S:St}{base:Nat}{Z:yu}{T:Nat->Prop}{w:nu}{a:Act}{Ω:yu->Prop}
def qp1(cx:Cx)(S:St)(t:nz)(x i:SV):Option uh:=match S.lin i with
 | none=>V
 | some (_,li)=>match kd cx t with
   | .sl e=>match S.qcm x,S.len x,yx cx e with
     | some (m,e',_),I ln,I d=>if decide (e'=e/\d.size=cx.tb.sz e) && S.ent li && S.ent ((ln.sub li).pl (-1)) then I (qzy S (.pt m e) []) else V
     | _,_,_=>V
   | .ar n e=>match S.ptr x,yx cx e with
     | some (p,off),I d=>match qib li with
       | some c=>if 0<=c/\c<n/\1<n then I (qyg (.ptr p (off+c.toNat*d.size))) else V
       | none=>match look S.ty p with
         | some (.pt m u)=>if decide (1<n/\d.size=cx.tb.sz e) && (cx.tb.flat e).isSome && S.ent li && S.ent (((qf.k n).sub li).pl (-1)) &&
            (List.range n).all (λj=>sub ((cx.tb.flat e).getD []) ((cx.tb.flat u).getD []) (off+j*d.size)) then I (qzy S (.pt m e) []) else V
         | _=>V
     | _,_=>V
   | _=>V
theorem qzl(k:IntKind)(n:Int):(asIntOf (.int k n)).run P w=.ok (k,n) w:=rfl
theorem uz(b o n:Nat):(⟨b,o,V⟩:Addr).add n=⟨b,o+n,V⟩:=wh b o n
theorem q3d(hcx:yj P cx){out:uh}(h:qp1 cx S t x i=I out)(hex:∃Z,Ω Z)(hs:∀Z,Ω Z->xg cx.tb W0 S base Z T w)(hu:∀Z,Ω Z->u=x.den Z)(hv:∀Z,Ω Z->v=i.den Z) :
  ∃r,(oh t u v).run P w=.ok r w/\∀Z,Ω Z->uy cx.tb W0 S out base Z T w r:=by
 obtain⟨ρ0,h0⟩:=hex;unfold qp1 at h;split at h
 .cases h
 .rename_i k li hli;have e2:=uo (hs ρ0 h0) hli;rw[<-hv ρ0 h0] at e2;subst e2;split at h
  .rename_i e hk;split at h
   .rename_i m e' lb ln d hsl hln hd;split at h
    .rename_i hc;cases h;simp only[ag,decide_eq_true_eq] at hc;obtain⟨⟨⟨rfl,hsz⟩,c1⟩,c2⟩:=hc;have q1:=(hs ρ0 h0).ent c1;have q2:=(hs ρ0 h0).ent c2;obtain⟨n,rfl,hcv,-⟩:=qx9 (hs ρ0 h0) hsl;obtain⟨A,len,c,h1,h2,h3,h4,h5⟩:=hcv.slc;have e1:=hu ρ0 h0;rw[show(SV.var n).den ρ0=ρ0 n from rfl,h1] at e1;have e3:=qyb (hs ρ0 h0) (by rw[<-hu ρ0 h0,e1]) hln;rw[qf.xh,qf.sub_eval,e3] at q2;subst e1;obtain⟨u',g1,g2⟩:=xe hcx hk kq;obtain⟨e'',rfl⟩:∃e'',u'=.slice e'':=by cases u'<;>simp_all [KD.of]
     simp only[KD.of,KD.sl.injEq] at g2;subst g2;cases A with
     | none=>have:=h4 rfl;omega
     | some ad=>
       obtain⟨b,off,sp⟩:=ad;have:=h5 _ rfl kg;simp only at this;subst this;refine⟨nj (I ⟨b,off+(li.eval ρ0).toNat*cx.tb.sz e'',V⟩),?_,λZ hρ=>?_⟩
       .unfold oh;rw[ai,qzl];simp only[aq];have hun:=bg g1 w;simp[hun,q1,show li.eval ρ0<len by omega,vk (hcx _ d hd) w,hsz,uz]
       .refine jq ?_ kq
        have hcv':CV cx.tb W0 T w base (.sl m e'' lb) (ng (I ⟨b,off,V⟩) len c):=by
         obtain⟨n',e4,hcv',-⟩:=qx9 (hs Z hρ) hsl;cases e4;have:=hu Z hρ;rw[show(SV.var n).den Z=Z n from rfl] at this;rw[this];exact hcv'
        exact hcv'.elem kg
    .cases h
   .cases h
  .rename_i n e hk;obtain⟨u',g1,g2⟩:=xe hcx hk kq;obtain⟨n',e'',rfl⟩:∃n' e'',u'=.array n' e'':=by cases u'<;>simp_all [KD.of]
   simp only[KD.of,KD.ar.injEq] at g2;obtain⟨rfl,rfl⟩:=g2;split at h
   .rename_i p off d hp hd;have e1:=qyw (hs ρ0 h0) hp;rw[<-hu ρ0 h0] at e1
    have hrun:0<=li.eval ρ0->li.eval ρ0<n'->1<n'->(oh t u (.int k (li.eval ρ0))).run P w=.ok (nj (I ⟨(qqx (ρ0 p)).block,(qqx (ρ0 p)).off+off+(li.eval ρ0).toNat*d.size,V⟩)) w:=by
     intro a1 a2 a3;subst e1;unfold oh;rw[ai,qzl];simp only[aq];have hun:=bg g1 w;simp[hun,mo,a1,a2,vk (hcx _ d hd) w,uz,ai]
    split at h
    .rename_i c hc;split at h
     .rename_i hcc;cases h;have hcl:=qat hc ρ0;refine⟨_,hrun kg kg hcc.2.2,λZ hρ=>qqi ?_⟩;have e2:=qyw (hs Z hρ) hp;rw[<-hu Z hρ,e1] at e2;injection e2 with e2;injection e2 with e2;injection e2 with e3 e4;simp only[SV.den,hcl,<-e3];rw[show(qqx (Z p)).off+(off+c.toNat*d.size)=(qqx (Z p)).off+off+c.toNat*d.size by omega,<-e4]
     .cases h
    .split at h
     .rename_i m uu hq;split at h
      .rename_i hc;cases h;simp only[ag,decide_eq_true_eq] at hc;obtain⟨⟨⟨⟨⟨hn1,hsz⟩,hfl⟩,c1⟩,c2⟩,c3⟩:=hc;have q1:=(hs ρ0 h0).ent c1;have q2:=(hs ρ0 h0).ent c2;rw[qf.xh,qf.sub_eval,qf.ja] at q2;refine⟨_,hrun q1 kg hn1,λZ hρ=>jq ?_ kq⟩;have hcv:=(hs Z hρ).ty p _ (ji hq);obtain⟨b,o,hb,-⟩:=id hcv;rw[hb] at hcv;have hsub:=ao.1 c3 (li.eval ρ0).toNat (List.mem_range.2 kg);have e2:=qyw (hs Z hρ) hp;rw[<-hu Z hρ,e1] at e2;injection e2 with e2;injection e2 with e2;injection e2 with e3 e4;have:=q06 hcv (af m) hsub hfl;have hb':qqx (Z p)=⟨b,o,V⟩:=by rw[hb];rfl
       rw[hb'] at e3 e4;simp only at e3 e4;rw[show(qqx (ρ0 p)).off+off+(li.eval ρ0).toNat*d.size=o+(off+(li.eval ρ0).toNat*d.size) by omega];rw[show(qqx (ρ0 p)).block=b from e3];exact this
      .cases h
     .cases h
   .cases h
  .cases h
def qow(cx:Cx)(S:St)(t:nz)(x:XV)(i:SV):Option uh:=match S.lin i with
 | none=>V
 | some (_,li)=>match kd cx t,x with
   | .str,.v (.one s)=>match S.len s with
     | some ln=>if S.str s && S.ent li && S.ent ((ln.sub li).pl (-1)) then I (qzy S (.int .u8 0 255) []) else V
     | none=>V
   | .ar n e,.v (.agg l)=>match yx cx e with
     | some d=>match qib li with
       | some c=>if 0<=c/\c<n then qnx cx e l (c.toNat*d.size) else V
       | none=>match cx.tb.flat e with
         | some [ct]=>if decide (d.size=1/\d.k.agg=ns/\n=l.length) && S.ent li && S.ent (((qf.k n).sub li).pl (-1)) && l.all (λs=>S.has cx.tb s ct) then I (qzy S ct []) else V
         | _=>V
     | none=>V
   | _,_=>V
theorem q2k(hcx:yj P cx){x:XV}{out:uh}(h:qow cx S t x i=I out)(hex:∃Z,Ω Z)(hs:∀Z,Ω Z->xg cx.tb W0 S base Z T w)(hu:∀Z,Ω Z->u=x.den Z)(hv:∀Z,Ω Z->v=i.den Z) :
  ∃r,(fm t u v).run P w=.ok r w/\∀Z,Ω Z->uy cx.tb W0 S out base Z T w r:=by
 obtain⟨ρ0,h0⟩:=hex;unfold qow at h;split at h
 .cases h
 .rename_i k li hli;have e2:=uo (hs ρ0 h0) hli;rw[<-hv ρ0 h0] at e2;subst e2;split at h
  .rename_i s hk;obtain⟨u',g1,g2⟩:=xe hcx hk kq;have:u'=.string:=by cases u'<;>simp_all [KD.of]
   subst this;split at h
   .rename_i ln hln;split at h
    .rename_i hc;cases h;simp only[ag] at hc;have q1:=(hs ρ0 h0).ent hc.1.2;have q2:=(hs ρ0 h0).ent hc.2;obtain⟨p,e1⟩:=qj7 (hs ρ0 h0) hc.1.1;have e3:=qj5 (hs ρ0 h0) e1 hln;have e4:u=s.den ρ0:=hu ρ0 h0;rw[e1] at e4;subst e4;rw[qf.xh,qf.sub_eval,e3] at q2;have hlt:(li.eval ρ0).toNat<p.size:=kg;refine⟨.int .u8 (p[(li.eval ρ0).toNat]'hlt).toNat,?_,λZ hρ=>jq ⟨_,rfl,kg,?_⟩ kq⟩
     .unfold fm;rw[ai,qzl];simp only[aq];rw[ai,bg g1 w];have hg:p[(li.eval ρ0).toNat]? = I (p[(li.eval ρ0).toNat]'hlt):=by simp[hlt]
      simp[q1,hg]
     .have:=(p[(li.eval ρ0).toNat]'hlt).toNat_lt;omega
    .cases h
   .cases h
  .rename_i n e l hk;obtain⟨u',g1,g2⟩:=xe hcx hk kq;obtain⟨n',e'',rfl⟩:∃n' e'',u'=.array n' e'':=by cases u'<;>simp_all [KD.of]
   simp only[KD.of,KD.ar.injEq] at g2;obtain⟨rfl,rfl⟩:=g2;have e1:u=.agg (qw ρ0 l).toArray:=hu ρ0 h0
   have hall:∀Z,Ω Z->(qw ρ0 l).toArray.toList=qw Z l:=λZ hρ=>by
    have e2:u=.agg (qw Z l).toArray:=hu Z hρ;rw[e1] at e2;injection e2 with e2;rw[e2]
   split at h
   .rename_i d hd
    have hrun:∀r,0<=li.eval ρ0->li.eval ρ0<n'->(part e'' (qw ρ0 l).toArray ((li.eval ρ0).toNat*d.size)).run P w=.ok r w->(fm t u (.int k (li.eval ρ0))).run P w=.ok r w:=by
     intro r a1 a2 a3;subst e1;unfold fm;rw[ai,qzl];simp only[aq];rw[ai,bg g1 w];simp only[aq];rw[if_pos ⟨a1,a2⟩,ai,vk (hcx _ d hd) w];exact a3
    split at h
    .rename_i c hc;split at h
     .rename_i hcc;have hcl:=qat hc ρ0;obtain⟨r,hr1,hr2⟩:=qod (P:=P) (W0:=W0) (S:=S) (base:=base) (T:=T) (w:=w) hcx h ⟨ρ0,h0⟩ hall;exact⟨r,hrun r kg kg (by rw[hcl];exact hr1),hr2⟩
     .cases h
    .split at h
     .rename_i ct hfl;split at h
      .rename_i hc;cases h;simp only[ag,decide_eq_true_eq] at hc;obtain⟨⟨⟨⟨hs1,hagg,hn⟩,c1⟩,c2⟩,c3⟩:=hc;have q1:=(hs ρ0 h0).ent c1;have q2:=(hs ρ0 h0).ent c2;rw[qf.xh,qf.sub_eval,qf.ja] at q2;have hlt:(li.eval ρ0).toNat<l.length:=kg;have hag:=qx2 (hcx _ d hd) w;rw[hagg] at hag;refine⟨(l[(li.eval ρ0).toNat]'hlt).den ρ0,hrun _ q1 kg ?_,λZ hρ=>jq ?_ kq⟩
       .rw[hs1,Nat.mul_one];simp[part,ai,hag,qw,ah hlt]
       .have h3:=ao.1 c3 _ (List.getElem_mem hlt);have h4:=qx0 (hs Z hρ) h3;have h5:=hall Z hρ
        have h6:(l[(li.eval ρ0).toNat]'hlt).den ρ0=(l[(li.eval ρ0).toNat]'hlt).den Z:=by
         have:=congrArg (λz:List ny=>z[(li.eval ρ0).toNat]?) h5;simpa[qw,ah hlt] using this
        rw[h6];exact h4
      .cases h
     .cases h
   .cases h
  .cases h
end
open Go.RowKit
section
variable {P:ma}{cx:Cx}{W0:nu}{S:St}{base:Nat}{Z:yu}{T:Nat->Prop}{w:nu}{a:Act}{Ω:yu->Prop}
def qel(S:St)(dflt:qf):Option SV->Option qf
 | none=>I dflt
 | some s=>(S.lin s).map (·.2)
def qnf(cx:Cx)(S:St)(t:nz)(x:SV)(lo hi mx:Option SV):Option uh:=match S.len x with
 | none=>V
 | some ln=>match qel S (qf.k 0) lo,qel S ln hi,qel S ln mx with
   | some l,I h,I m=>
     if S.ent l && S.ent (h.sub l) && S.ent (m.sub h) && S.ent (ln.sub m) then match kd cx t with
      | .str=>if S.str x && mx.isNone && S.ent ((qf.k (2^62)).sub ln) then I (qzy S (.str (2^62)) [(qf.at S.nv).sub (h.sub l),(h.sub l).sub (qf.at S.nv)]) else V
      | .sl e=>match S.qcm x,yx cx e with
        | some (md,e',lb),I d=>if decide (e'=e/\d.size=cx.tb.sz e) then I (qzy S (.sl md e lb) [(qf.at S.nv).sub (h.sub l),(h.sub l).sub (qf.at S.nv)]) else V
        | _,_=>V
      | _=>V
     else V
   | _,_,_=>V
theorem qyu{i:Int}{y:Nat}(c:BoundsCode)(h0:0<=i)(h1:i<=y):(abb (.int k i) y c).run P w=.ok i.toNat w:=by
 unfold abb;rw[ai,qzl];simp[h0,h1]
theorem qv7(qkk:Bool){len cap:Nat}{lo hi mx:Option ny}{l h m:Int}(hc:len<=cap)(h0:0<=l)(h1:l<=h)(h2:h<=m)(h3:m<=len)
  (hlo:lo=V/\l=0\/∃k,lo=I (.int k l)) (hhi:hi=V/\h=len/\mx=V\/∃k,hi=I (.int k h)) (hmx:mx=V/\m=len\/∃k,mx=I (.int k m)) :
  (jt qkk len cap lo hi mx).run P w=.ok (l.toNat,h.toNat,if mx=V then cap else m.toNat) w:=by
 rcases hmx with⟨rfl,rfl⟩|⟨km,rfl⟩
 .rcases hhi with⟨rfl,rfl,-⟩|⟨kh,rfl⟩
  .rcases hlo with⟨rfl,rfl⟩|⟨kl,rfl⟩
   .simp[jt]
   .simp[jt,qyu (P:=P) (w:=w) (k:=kl) .sliceB h0 (show l<=(len:Nat) by omega)]
  .have e1:=λc=>qyu (P:=P) (w:=w) (k:=kh) (y:=cap) c (show 0<=h by omega) (show h<=cap by omega)
   rcases hlo with⟨rfl,rfl⟩|⟨kl,rfl⟩
   .simp[jt,e1]
   .have e2:=λc=>qyu (P:=P) (w:=w) (k:=kl) (y:=h.toNat) c h0 (show l<=h.toNat by omega)
    simp[jt,e1,e2]
 .rcases hhi with⟨-,-,e⟩|⟨kh,rfl⟩
  .cases e
  .have e0:=λc=>qyu (P:=P) (w:=w) (k:=km) (y:=cap) c (show 0<=m by omega) (show m<=cap by omega)
   have e1:=λc=>qyu (P:=P) (w:=w) (k:=kh) (y:=m.toNat) c (show 0<=h by omega) (show h<=m.toNat by omega)
   rcases hlo with⟨rfl,rfl⟩|⟨kl,rfl⟩
   .simp[jt,e0,e1]
   .have e2:=λc=>qyu (P:=P) (w:=w) (k:=kl) (y:=h.toNat) c h0 (show l<=h.toNat by omega)
    simp[jt,e0,e1,e2]
theorem CV.cut{tb:yg}{md:Nat}(hv:CV tb W0 T w base (.sl md e lb) (ng A n c)){l h:Nat}(h1:l<=h)(h2:h<=m)(h3:m<=c)(h4:h<=n) :
  CV tb W0 T w base (.sl md e lb) (.slice (if m=l then A else A.map (·.add (l*tb.sz e))) (h-l) (m-l)):=by
 rcases hv with h5|⟨h0,h5⟩|⟨b,off,n',c',h5,h6,h7,h8,h9,h10,h11,qd8,cs,fr,h13,qtl⟩
 .injection h5 with e1 e2 e3;subst e1;subst e2;subst e3;have e1:h=0:=kg;have e2:l=0:=kg;have e3:m=0:=kg;subst e1;subst e2;subst e3;exact .inl rfl
 .cases h5 with
  | nil=>
    have e1:h=0:=kg;have e2:l=0:=kg;have e3:m=0:=kg;subst e1;subst e2;subst e3;exact .inl rfl
  | emp a=>
    have e1:h=0:=kg;have e2:l=0:=kg;have e3:m=0:=kg;subst e1;subst e2;subst e3;exact .inr (.inl ⟨h0,.emp a⟩)
  | sl f hb hn hl hc hs hf ht=>
    rename_i b off;refine .inr (.inl ⟨h0,?_⟩);by_cases hml:m=l
    .rw[if_pos hml];have e1:h-l=0:=kg;rw[e1];exact .sl f hb kg kg kg hs (λj k hj=>absurd hj kg) (λj k ct hj=>absurd hj kg)
    .rw[if_neg hml];simp only[dv,uz];refine .sl (λj k=>f (j+l) k) hb kg kg kg hs (λj k hj hk=>?_) (λj k ct hj hk=>ht (j+l) k ct kg hk);rw[show off+l*tb.sz e+j*tb.sz e+k=off+(j+l)*tb.sz e+k by rw[eh];omega];exact hf (j+l) k kg hk
 .injection h5 with e1 e2 e3;subst e1;subst e2;subst e3;have hm:=Nat.mul_le_mul_right (tb.sz e) h3;by_cases hml:m=l
  .rw[if_pos hml];refine .inr (.inr ⟨b,off,_,_,rfl,kg,kg,kg,h9,h10,h11,qd8,cs,fr,h13,?_⟩);rw[show m-l=0 by omega,Nat.zero_mul];omega
  .rw[if_neg hml];simp only[dv,uz];refine .inr (.inr ⟨b,_,_,_,rfl,kg,kg,kg,h9,h10,h11,?_,cs,fr,h13,?_⟩)
   .rw[Nat.add_mod,qd8,Nat.mul_mod_left];simp
   .have:l*tb.sz e+(m-l)*tb.sz e=m*tb.sz e:=by rw[<-eh];congr 1;omega
    omega
theorem q29(hcx:yj P cx){lo hi mx:Option SV}{out:uh}(h:qnf cx S t x lo hi mx=I out)(hex:∃Z,Ω Z)(hs:∀Z,Ω Z->xg cx.tb W0 S base Z T w){vl vh vm:Option ny}(hu:∀Z,Ω Z->u=x.den Z)
  (hvl:∀Z,Ω Z->vl=lo.map (SV.den Z)) (hvh:∀Z,Ω Z->vh=hi.map (SV.den Z)) (hvm:∀Z,Ω Z->vm=mx.map (SV.den Z)) (hmh:mx.isSome=nr->hi.isSome=nr) :
  ∃r,(lh t u vl vh vm).run P w=.ok r w/\∀Z,Ω Z->uy cx.tb W0 S out base Z T w r:=by
 obtain⟨ρ0,h0⟩:=hex;unfold qnf at h;split at h
 .cases h
 .rename_i ln hln;split at h
  .rename_i l hh m hl hhi hm;split at h
   .rename_i hc;simp only[ag] at hc;obtain⟨⟨⟨c1,c2⟩,c3⟩,c4⟩:=hc;have q1:=(hs ρ0 h0).ent c1;have q2:=(hs ρ0 h0).ent c2;have q3:=(hs ρ0 h0).ent c3;have q4:=(hs ρ0 h0).ent c4;rw[qf.sub_eval] at q2 q3 q4
    have hb:∀{d:qf} {o:Option SV} {z:qf} {ov:Option ny},qel S d o=I z->(∀Z,Ω Z->ov=o.map (SV.den Z))->∀Z,Ω Z->(o=V/\ov=V/\z=d)\/∃k,ov=I (.int k (z.eval Z)):=by
     intro d o z ov hz hov Z hρ;cases o with
     | none=>cases hz;exact .inl ⟨rfl,hov Z hρ,rfl⟩
     | some s=>
       simp only[qel] at hz;cases hq:S.lin s with
       | none=>rw[hq] at hz;cases hz
       | some kl=>
         obtain⟨k,l'⟩:=kl;rw[hq] at hz;cases hz;exact .inr ⟨k,by rw[hov Z hρ];simp only[dv,uo (hs Z hρ) hq]⟩
    have bl:=hb hl hvl ρ0 h0;have bh:=hb hhi hvh ρ0 h0;have bm:=hb hm hvm ρ0 h0
    have hrun:∀(qkk:Bool) (len cap:Nat),ln.eval ρ0=len->len<=cap->(jt qkk len cap vl vh vm).run P w=.ok ((l.eval ρ0).toNat,(hh.eval ρ0).toNat,if vm=V then cap else(m.eval ρ0).toNat) w:=by
     intro qkk len cap e1 e2;refine qv7 qkk e2 q1 kg kg kg ?_ ?_ ?_
     .rcases bl with⟨-,h1,h2⟩|⟨k,h1⟩
      .exact .inl ⟨h1,by rw[h2,qf.ja]⟩
      .exact .inr ⟨k,h1⟩
     .rcases bh with⟨h3,h1,h2⟩|⟨k,h1⟩
      .refine .inl ⟨h1,by rw[h2,e1],?_⟩;have:=hvm ρ0 h0;cases mx with
       | none=>exact this
       | some z=>have:=hmh rfl;rw[h3] at this;cases this
      .exact .inr ⟨k,h1⟩
     .rcases bm with⟨-,h1,h2⟩|⟨k,h1⟩
      .exact .inl ⟨h1,by rw[h2,e1]⟩
      .exact .inr ⟨k,h1⟩
    have qz7:∀(v:ny),meas v=(hh.eval ρ0).toNat-(l.eval ρ0).toNat->(∀Z,Ω Z->l.eval Z=l.eval ρ0/\hh.eval Z=hh.eval ρ0)->∀Z,Ω Z->Z S.nv=v->∀f∈[(qf.at S.nv).sub (hh.sub l),(hh.sub l).sub (qf.at S.nv)],0<=f.eval Z:=by
     intro v hm' hlh Z hρ hv f hf;obtain⟨e1,e2⟩:=hlh Z hρ;simp only[cu,ep,or_false] at hf;rcases hf with rfl|rfl<;>simp only[qf.sub_eval,qf.yl,hv,hm',e1,e2]<;>omega
    split at h
    .rename_i hk;obtain⟨u',g1,g2⟩:=xe hcx hk kq;have:u'=.string:=by cases u'<;>simp_all [KD.of]
     subst this;split at h
     .rename_i hst;cases h;simp only[ag] at hst;obtain⟨p,e1⟩:=qj7 (hs ρ0 h0) hst.1.1;rw[<-hu ρ0 h0] at e1;subst e1;have el:∀Z,Ω Z->ln.eval Z=p.size:=λZ hρ=>qj5 (hs Z hρ) (hu Z hρ).symm hln
      have hvm0:vm=V:=by
       have:=hvm ρ0 h0;cases mx with
       | none=>exact this
       | some z=>simp at hst
      have hr:=hrun ns p.size p.size (el ρ0 h0) (af _)
      have hlh:∀Z,Ω Z->l.eval Z=l.eval ρ0/\hh.eval Z=hh.eval ρ0:=by
       intro Z hρ;refine⟨?_,?_⟩
       .rcases bl with⟨-,h1,h2⟩|⟨k,h1⟩
        .rw[h2,qf.ja,qf.ja]
        .rcases hb hl hvl Z hρ with⟨-,h3,-⟩|⟨k',h3⟩
         .rw[h1] at h3;cases h3
         .rw[h1] at h3;injection h3 with h3;injection h3 with h3 h4;exact h4.symm
       .rcases bh with⟨-,h1,h2⟩|⟨k,h1⟩
        .rw[h2,el Z hρ,el ρ0 h0]
        .rcases hb hhi hvh Z hρ with⟨-,h3,-⟩|⟨k',h3⟩
         .rw[h1] at h3;cases h3
         .rw[h1] at h3;injection h3 with h3;injection h3 with h3 h4;exact h4.symm
      have hsz:(p.extract (l.eval ρ0).toNat (hh.eval ρ0).toNat).size=(hh.eval ρ0).toNat-(l.eval ρ0).toNat:=by
       rw[ByteArray.size_extract];have:=el ρ0 h0;omega
      have hle:=(hs ρ0 h0).ent hst.2;rw[qf.sub_eval,qf.ja,el ρ0 h0] at hle;have hel:=el ρ0 h0;refine⟨nh (p.extract (l.eval ρ0).toNat (hh.eval ρ0).toNat),?_,λZ hρ=>jq ⟨_,rfl,by rw[hsz];omega⟩ (qz7 _ (by simp only[meas,hsz];omega) hlh Z hρ)⟩;unfold lh;rw[ai,bg g1 w];simp only[aq];unfold adv;rw[ai,bg g1 w];subst hvm0;simp only[aq,Option.isSome_none,da,if_false];rw[ai,hr];rfl
     .cases h
    .rename_i e hk;split at h
     .rename_i md e' lb d hsl hd;split at h
      .rename_i hc2;cases h;obtain⟨rfl,hsz⟩:=of_decide_eq_true hc2;obtain⟨u',g1,g2⟩:=xe hcx hk kq;obtain⟨e'',rfl⟩:∃e'',u'=.slice e'':=by cases u'<;>simp_all [KD.of]
       simp only[KD.of,KD.sl.injEq] at g2;subst g2;obtain⟨n,rfl,hcv,-⟩:=qx9 (hs ρ0 h0) hsl;obtain⟨A,len,c,h1,h2,h3,h4,h5⟩:=hcv.slc;have e1:=hu ρ0 h0;rw[show(SV.var n).den ρ0=ρ0 n from rfl,h1] at e1;subst e1;have el:∀Z,Ω Z->ln.eval Z=len:=λZ hρ=>qyb (hs Z hρ) (hu Z hρ).symm hln
       have hr:=hrun nr len c (el ρ0 h0) h2
       have hlh:∀Z,Ω Z->l.eval Z=l.eval ρ0/\hh.eval Z=hh.eval ρ0:=by
        intro Z hρ;refine⟨?_,?_⟩
        .rcases bl with⟨-,h1,h2⟩|⟨k,h1⟩
         .rw[h2,qf.ja,qf.ja]
         .rcases hb hl hvl Z hρ with⟨-,h3,-⟩|⟨k',h3⟩
          .rw[h1] at h3;cases h3
          .rw[h1] at h3;injection h3 with h3;injection h3 with h3 h4;exact h4.symm
        .rcases bh with⟨-,h1,h2⟩|⟨k,h1⟩
         .rw[h2,el Z hρ,el ρ0 h0]
         .rcases hb hhi hvh Z hρ with⟨-,h3,-⟩|⟨k',h3⟩
          .rw[h1] at h3;cases h3
          .rw[h1] at h3;injection h3 with h3;injection h3 with h3 h4;exact h4.symm
       have hel:=el ρ0 h0;generalize hM:(if vm=V then c else(m.eval ρ0).toNat)=M at hr
       have hM1:(hh.eval ρ0).toNat<=M/\M<=c:=by
        rw[<-hM];split<;>omega
       refine⟨.slice (if M=(l.eval ρ0).toNat then A else A.map (·.add ((l.eval ρ0).toNat*cx.tb.sz e''))) ((hh.eval ρ0).toNat-(l.eval ρ0).toNat) (M-(l.eval ρ0).toNat),?_,λZ hρ=>jq ?_ (qz7 _ (by simp only[meas];omega) hlh Z hρ)⟩
       .unfold lh;rw[ai,bg g1 w];simp only[aq];unfold adv;rw[ai,bg g1 w];simp only[aq];rw[ai,hr];simp only[aq];rw[ai,vk (hcx _ d hd) w];simp only[aq,eb,hsz]
       .have hcv':CV cx.tb W0 T w base (.sl md e'' lb) (ng A len c):=by
         obtain⟨n',e4,hcv',-⟩:=qx9 (hs Z hρ) hsl;cases e4;have:=hu Z hρ;rw[show(SV.var n).den Z=Z n from rfl] at this;rw[this];exact hcv'
        exact hcv'.cut kg hM1.1 hM1.2 kg
      .cases h
     .cases h
    .cases h
   .cases h
  .cases h
end
open Go.RowKit
section
variable {P:ma}{cx:Cx}{W0:nu}{S:St}{base:Nat}{Z:yu}{T:Nat->Prop}{w:nu}{a:Act}{Ω:yu->Prop}
theorem qdn(htd:qzu P t d)(hag:d.k.agg=nr){cs:List ny}(hl:cs.length=d.size)(hr:w.rangeAt b off cs) :
  (qq t (nj (I ⟨b,off,V⟩))).run P w=.ok (.agg cs.toArray) w:=by
 obtain⟨u,h1,h2⟩:=qya htd;obtain⟨i,h3,h4,-⟩:=jg htd;refine run_loadAt_mid w b off t cs u hr h1 ?_ (by rw[h3,hl,<-h4];rfl);rw[<-h2] at hag;cases u<;>first|rfl|cases hag
theorem qdv(htd:qzu P t d)(hag:d.k.agg=ns)(hr:w.cell? ⟨b,off,V⟩=I v) :
  (qq t (nj (I ⟨b,off,V⟩))).run P w=.ok v w:=by
 have h:=qx2 htd w;rw[hag] at h;simp[qq,mo,loadVar,ai,h,hr]
def qcq{α:Type}:List (Option α)->Option (List α)
 | []=>I []
 | none::_=>V
 | some x::r=>(qcq r).map (x::·)
theorem qiy{α:Type}:∀{l:List (Option α)} {m:List α},qcq l=I m->l=m.map I
 | [],m,h=>by cases h;rfl
 | none::r,m,h=>by cases h
 | some x::r,m,h=>by
   simp only[qcq] at h;cases hq:qcq r with
   | none=>rw[hq] at h;cases h
   | some m'=>
     rw[hq] at h;have h:=oi h;subst h;rw[qiy hq];rfl
def vars(n:Nat):Nat->List SV
 | 0=>[]
 | k+1=>.var n::vars (n+1) k
theorem qac:∀(k n i:Nat),i<k->(vars n k)[i]? = I (.var (n+i))
 | 0,n,i,h=>kg
 | k+1,n,0,h=>rfl
 | k+1,n,i+1,h=>by
   simp only[vars,fq];rw[qac k (n+1) i kg];congr 2;omega
theorem qal:∀(k n:Nat),(vars n k).length=k
 | 0,_=>rfl
 | k+1,n=>by simp[vars,qal k]
def mkA(S:St)(tys:List CT):uh:=⟨.v (.agg (vars S.nv tys.length)),tys,[]⟩
theorem mkA_ok{tys:List CT}{cs:List ny}(hl:cs.length=tys.length)(ht:∀(i:Nat) (ct:CT) (v:ny),tys[i]? = I ct->cs[i]? = I v->CV cx.tb W0 T w base ct v):uy cx.tb W0 S (mkA S tys) base Z T w (.agg cs.toArray):=by
 intro hb;have hb':∀i,i<tys.length->Z (S.nv+i)=cs.getD i mc:=hb;refine⟨?_,λi ct hi=>?_,by simp[mkA]⟩
 .show Value.agg _=Value.agg _;congr 2;refine ju (λi=>?_);simp only[qw,dh];by_cases h:i<tys.length
  .rw[qac _ _ _ h];simp only[dv,SV.den,hb' i h];rw[bn,ah kg];rfl
  .rw[dn kg,dn (by rw[qal];omega)];rfl
 .have hlt:i<tys.length:=(al.1 hi).1;rw[hb' i hlt,bn,ah kg];exact ht i ct _ hi (ah _)
def qu1(S:St)(n:Nat):Option qug:=S.bx.find? λb=>decide (b.n=n)
def CT.low:CT->Bool
 | .sl m _ _=>decide (m<=1)
 | .pt m _=>decide (m<=1)
 | .fn _ l m=>l.all (λp=>decide (p.1<=1\/p.1=9)) && m.all (λp=>decide (p.1<=1\/p.1=9))
 | _=>nr
theorem PV.qzg{tb:yg}(h:PV tb W0 T w 0 m t v)(hm:m<=1)(base:Nat):PV tb W0 T w base m t v:=by
 obtain⟨b,off,h1,h|⟨h2,h3,h4⟩⟩:=h
 .exact⟨b,off,h1,.inl h⟩
 .exact⟨b,off,h1,.inr ⟨h2,λhx=>kg,h4⟩⟩
theorem BV.qzg{tb:yg}{m:Nat}{t:nz}{v:ny}(h:BV tb W0 T w 0 m t v)(hm:m<=1\/m=9)(base:Nat):BV tb W0 T w base m t v:=by
 unfold BV at h ⊢;split at h
 .rename_i h9;rw[if_pos h9];exact h
 .rename_i h9;rw[if_neg h9];exact h.qzg kg base
theorem qd7.qzg{tb:yg}{l:List (Nat×nz)}{vs:Array ny}(h:qd7 tb W0 T w 0 l vs)(hl:l.all (λp=>decide (p.1<=1\/p.1=9))=nr)(base:Nat):qd7 tb W0 T w base l vs:=
 ⟨h.1,λi m t hi=>by obtain⟨u,h1,h2⟩:=h.2 i m t hi;exact⟨u,h1,h2.qzg (of_decide_eq_true (ao.1 hl (m,t) (cm hi))) base⟩⟩
theorem CV.qzg{tb:yg}{ct:CT}{v:ny}(h:CV tb W0 T w 0 ct v)(hl:ct.low=nr)(base:Nat):CV tb W0 T w base ct v:=by
 cases ct with
 | int k lo hi=>exact h
 | bool=>exact h
 | str lb=>exact h
 | any=>exact h
 | tf b=>exact h
 | sq=>exact h
 | idx d=>exact h
 | sl m e lb=>
   have hm:=of_decide_eq_true hl;exact quv.qzg h hm base
 | kp k=>cases k with
   | sl e lb=>exact quv.qzg h (af _) base
   | int k lo hi=>exact h
   | str=>exact h
 | pt m t=>
   have hm:=of_decide_eq_true hl;obtain⟨b,off,h1,h|⟨h2,h3,h4⟩⟩:=h
   .exact⟨b,off,h1,.inl h⟩
   .exact⟨b,off,h1,.inr ⟨h2,λhx=>kg,h4⟩⟩
 | fn fs l m=>
   simp only[CT.low,ag] at hl;obtain⟨f,y,z,h1,h2,h3,h4⟩:=h;exact⟨f,y,z,h1,h2,h3.qzg hl.1 base,h4.qzg hl.2 base⟩
 | fz b=>cases b<;>exact h
 | cs q e lb=>exact h
 | mp k t=>exact h
def qnc(tb:yg)(u:nz)(off n:Nat):Option (List CT):=
 if((((tb.flat u).getD []).drop off).take n).length=n/\((((tb.flat u).getD []).drop off).take n).all CT.low=nr then I ((((tb.flat u).getD []).drop off).take n) else V
theorem qp4{tb:yg}{u:nz}{l:List CT}(h:qnc tb u off n=I l):l.length=n/\(∀ct∈l,ct.low=nr)/\∀i,i<n->∃ct,l[i]? = I ct/\((tb.flat u).getD [])[off+i]? = I ct:=by
 unfold qnc at h;split at h
 .rename_i hc;cases h;refine⟨hc.1,λct hm=>ao.1 hc.2 ct hm,λi hi=>?_⟩;have hi':i<((((tb.flat u).getD []).drop off).take n).length:=kg;have hct:=ah hi';have hct2:=hct;rw[fc,if_pos hi,ia] at hct2;exact⟨_,hct,hct2⟩
 .cases h
def qh9(cx:Cx)(S:St)(t:nz)(x:SV):Option uh:=match S.ptr x,yx cx t with
 | some (n,off),I d=>match qu1 S n with
   | some b=>match qcq ((b.cs.drop off).take d.size) with
     | some l=>if l.length=d.size then(if d.k.agg then I (quq (.v (.agg l))) else match l with
       | [s]=>I (qyg s)
       | _=>V) else V
     | none=>V
   | none=>match look S.ty n with
     | some (.pt _ u)=>match qnc cx.tb u off d.size with
       | some cts=>if d.k.agg then I (mkA S (cts.map CT.thaw)) else match cts with
         | [ct]=>I (qzy S ct.thaw [])
         | _=>V
       | none=>V
     | _=>V
 | _,_=>V
theorem qam{b:qug}(h:qu1 S n=I b):b∈S.bx/\b.n=n:=
 by
 have h1:=List.find?_some h;exact⟨List.mem_of_find?_eq_some h,by simpa using h1⟩
theorem qpw(hcx:yj P cx){out:uh}(h:qh9 cx S t x=I out)(hex:∃Z,Ω Z)(hs:∀Z,Ω Z->xg cx.tb W0 S base Z T w)(hu:∀Z,Ω Z->u=x.den Z) :
  ∃r,(qq t u).run P w=.ok r w/\∀Z,Ω Z->uy cx.tb W0 S out base Z T w r:=by
 obtain⟨ρ0,h0⟩:=hex;unfold qh9 at h;split at h
 .rename_i n off d hp hd;have htd:=hcx t d hd;have e1:=qyw (hs ρ0 h0) hp;rw[<-hu ρ0 h0] at e1;split at h
  .rename_i b hb;obtain⟨hbm,rfl⟩:=qam hb;split at h
   .rename_i l hl;have hl:=qiy hl;split at h
    .rename_i hlen
     have key:∀Z,Ω Z->∃g,u=nj (I ⟨g,off,V⟩)/\w.rangeAt g off (qw Z l):=by
      intro Z hρ;obtain⟨g,cs,a1,a2,a3,a4,a5,a6⟩:=(hs Z hρ).bx b hbm;have e2:=qyw (hs Z hρ) hp;rw[<-hu Z hρ,a1] at e2;refine⟨g,by rw[e2];simp[qqx],λj v hv=>?_⟩;rw[cell_of_row w g (off+j) cs b.t (0,0) a4];simp only[qw,dh] at hv;cases hq:l[j]? with
      | none=>rw[hq] at hv;cases hv
      | some s=>
        rw[hq] at hv;cases hv;have hj:j<l.length:=(al.1 hq).1;refine a6 (off+j) s ?_;have:=congrArg (λz:List (Option SV)=>z[j]?) hl;simp only[fc,ia,dh,hq] at this;rw[if_pos kg] at this;exact this
     obtain⟨g,eg,hr⟩:=key ρ0 h0
     have hsame:∀Z,Ω Z->qw ρ0 l=qw Z l:=by
      intro Z hρ;obtain⟨g',eg',hr'⟩:=key Z hρ;rw[eg] at eg';injection eg' with eg';injection eg' with eg';injection eg' with eg';subst eg';refine ju (λi=>?_);cases hq:(qw ρ0 l)[i]? with
      | none=>
        have:l.length<=i:=by simpa[qw] using hq
        rw[dn (by simpa[qw] using this)]
      | some v=>
        have h1:=hr i v hq;have hi:i<l.length:=by simpa[qw] using(al.1 hq).1
        have h2:=hr' i ((qw Z l)[i]'(by simpa[qw] using hi)) (ah _);rw[h1] at h2;rw[ah (by simpa[qw] using hi),h2]
     split at h
     .rename_i hag;cases h;exact⟨_,by rw[eg];exact qdn htd hag (by simpa[qw] using hlen) hr,λZ hρ=>qjg (by rw[hsame Z hρ];rfl)⟩
     .rename_i hag;split at h
      .rename_i s;cases h;have hc:=hr 0 _ rfl;rw[ir] at hc;refine⟨_,by rw[eg];exact qdv htd (by simpa using hag) hc,λZ hρ=>qqi ?_⟩;have:=hsame Z hρ;simpa[qw] using this
      .cases h
    .cases h
   .cases h
  .split at h
   .rename_i m uu hq;split at h
    .rename_i cts hcts;obtain⟨hlen,hlow,hget⟩:=qp4 hcts;have hcv:=(hs ρ0 h0).ty n _ (ji hq);obtain⟨b,o,hb,-⟩:=id hcv;rw[hb] at hcv;have eu:u=nj (I ⟨b,o+off,V⟩):=by rw[e1,hb];rfl
     have hlist:∃cs:List ny,cs.length=d.size/\∀i,i<d.size->∃v ct,cs[i]? = I v/\cts[i]? = I ct/\w.cell? ⟨b,o+off+i,V⟩=I v/\CV cx.tb W0 T w base ct v:=by
      have:∀k,k<=d.size->∃cs:List ny,cs.length=k/\∀i,i<k->∃v ct,cs[i]? = I v/\cts[i]? = I ct/\w.cell? ⟨b,o+off+i,V⟩=I v/\CV cx.tb W0 T w base ct v:=by
       intro k
       induction k with
       | zero=>exact λ_=>⟨[],rfl,λi hi=>kg⟩
       | succ k ih=>
         intro hk;obtain⟨cs,hl,hx⟩:=ih kg;obtain⟨ct,h1,h2⟩:=hget k kg;obtain⟨v,hv1,hv2⟩:=(hs ρ0 h0).wt.load hcv h2;refine⟨cs++[v],by simp[hl],λi hi=>?_⟩;by_cases hik:i<k
         .obtain⟨v',ct',g1,g2⟩:=hx i hik;exact⟨v',ct',by rw[List.getElem?_append_left kg];exact g1,g2⟩
         .have:i=k:=kg;subst this;exact⟨v,ct,by rw[List.getElem?_append_right kg,hl];simp,h1,by rw[Nat.add_assoc];exact hv1,hv2.qzg (hlow ct (cm h1)) base⟩
      exact this d.size (af _)
     obtain⟨cs,hl,hx⟩:=hlist
     have hr:w.rangeAt b (o+off) cs:=by
      intro j v hv;obtain⟨v',ct,g1,g2,g3,g4⟩:=hx j (by have:=(al.1 hv).1;omega);rw[hv] at g1;cases g1;exact g3
     split at h
     .rename_i hag;cases h;refine⟨_,by rw[eu];exact qdn htd hag hl hr,λZ hρ=>mkA_ok (by rw[iu];omega) (λi ct v h1 h2=>?_)⟩;obtain⟨v',ct',g1,g2,g3,g4⟩:=hx i (by have:=(al.1 h2).1;omega);rw[h2] at g1;cases g1;rw[dh,g2] at h1;cases h1;exact g4.thaw
     .rename_i hag;split at h
      .rename_i ct;cases h;have hd1:d.size=1:=by rw[<-hlen];rfl
       obtain⟨v,ct',g1,g2,g3,g4⟩:=hx 0 kg;cases g2;exact⟨_,by rw[eu];exact qdv htd (by simpa using hag) g3,λZ hρ=>jq g4.thaw kq⟩
      .cases h
    .cases h
   .cases h
 .cases h
def splice(l:List SV)(off:Nat)(vs:List SV):List SV:=l.take off++vs++l.drop (off+vs.length)
theorem foldl_set:∀(vs:List ny) (cs:Array ny) (off k:Nat),off+k+vs.length<=cs.size ->
  ((vs.zipIdx k).foldl (λ(cs:Array ny) (x:ny×Nat)=>cs.setIfInBounds (off+x.2) x.1) cs).toList=cs.toList.take (off+k)++vs++cs.toList.drop (off+k+vs.length)
 | [],cs,off,k,h=>kq
 | v::vs,cs,off,k,h=>by
   rw[List.zipIdx_cons,List.foldl_cons,foldl_set vs _ off (k+1) (by simp only[wj,gp] at *;omega)];simp only[Array.toList_setIfInBounds,gp] at *;have h1:off+k<cs.toList.length:=nc;rw[show off+(k+1)=off+k+1 by omega,List.take_set,List.drop_set,if_pos kg,List.set_eq_take_append_cons_drop,if_pos (by rw[List.length_take];omega)];simp only[List.take_take,List.drop_take,List.append_assoc,List.cons_append];rw[show min (off+k) (off+k+1)=off+k by omega,show off+k+1-(off+k+1)=0 by omega];simp only[List.take_zero,List.nil_append];rw[show off+k+1+vs.length=off+k+(vs.length+1) by omega]
def qbj(place:Nat->Option (Nat×Nat)):List SV->List (Nat×TV)->Option (List SV)
 | cells,[]=>I cells
 | cells,(i,tv)::r=>match place i with
   | none=>V
   | some (off,size)=>if tv.cells.length=size/\off+size<=cells.length then qbj place (splice cells off tv.cells) r else V
theorem q4n(Z:yu)(tv:TV)(h:∀s,tv=.one s->(s.den Z).oneCell'=nr):(tv.den Z).cells.toList=qw Z tv.cells:=by
 cases tv with
 | agg l=>rfl
 | one s=>
   have:=h s rfl;show(s.den Z).cells.toList=[s.den Z];generalize s.den Z=v at *;cases v<;>first|rfl|cases this
theorem qds{place:Nat->Option (Nat×Nat)}(Z:yu):∀(parts:List (Nat×TV)) (cells:List SV) (cs:Array ny) (l:List SV),(∀p∈parts,∀s,p.2=.one s->(s.den Z).oneCell'=nr)->qbj place cells parts=I l->cs.toList=qw Z cells ->
  ∃r,iv place cs (parts.map λp=>(p.1,p.2.den Z))=I r/\r.toList=qw Z l
 | [],cells,cs,l,ho,h,hc=>by cases h;exact⟨cs,rfl,hc⟩
 | (i,tv)::r,cells,cs,l,ho,h,hc=>by
   unfold qbj at h;split at h
   .cases h
   .rename_i off size hp;split at h
    .rename_i hcc;have htc:=q4n Z tv (ho (i,tv) kq);have hsz:(tv.den Z).cells.size=size:=by rw[<-aw,htc,<-hcc.1];simp[qw]
     have hcs:cs.size=cells.length:=by rw[<-aw,hc];simp[qw]
     obtain⟨q,hq1,hq2⟩:=qds Z r (splice cells off tv.cells) ((tv.den Z).cells.zipIdx.foldl (λcs (c,j)=>cs.setIfInBounds (off+j) c) cs) l (λp hp=>ho p (by simp[hp])) h (by
      rw[<-Array.foldl_toList,Array.toList_zipIdx,htc];have:=foldl_set (qw Z tv.cells) cs off 0 (by simp only[qw,iu];omega);simp only[ir] at this;refine this.trans ?_;rw[hc]
      simp[qw,splice,List.map_append,ur,ue])
     refine⟨q,?_,hq2⟩;simp only[fg,iv,hp];rw[if_neg]
     .exact hq1
     .simp only[hsz,bne_self_eq_false,ne_eq,not_true_eq_false,decide_false,Bool.false_or,decide_eq_true_eq];omega
    .cases h
def qjl(S:St):SV->Bool
 | .con v=>v.oneCell'
 | .var n=>(look S.ty n).isSome || S.bx.any (λb=>decide (b.n=n))
 | _=>nr
theorem qy9(h:xg cx.tb W0 S base Z T w)(hs:qjl S s=nr):(s.den Z).oneCell'=nr:=by
 cases s with
 | con v=>exact hs
 | lin k l=>rfl
 | be b=>rfl
 | ptr n o=>rfl
 | var n=>
   simp only[qjl,Bool.or_eq_true] at hs;rcases hs with hs|hs
   .cases hq:look S.ty n with
    | none=>rw[hq] at hs;cases hs
    | some ct=>exact(h.ty n ct (ji hq)).one
   .obtain⟨b,hb1,hb2⟩:=gn.1 hs;obtain⟨g,cs,hg,-⟩:=h.bx b hb1;rw[of_decide_eq_true hb2] at hg;show(Z n).oneCell'=nr;rw[hg];rfl
end
open Go.RowKit
section
variable {P:ma}{cx:Cx}{W0:nu}{S:St}{base:Nat}{Z:yu}{T:Nat->Prop}{w:nu}{a:Act}{Ω:yu->Prop}
def qvx(cx:Cx):List (nz×Nat)->Option (List (Nat×Nat))
 | []=>I []
 | (t,off)::r=>match yx cx t,qvx cx r with
   | some d,I l=>I ((off,d.size)::l)
   | _,_=>V
theorem qu4(hcx:yj P cx):∀(fs:List Field) (l:List (Nat×Nat)),qvx cx (fs.map λf=>(f.type,f.offset))=I l ->
  (fs.mapM (λf=>do pure (f.offset,<-sizeOf f.type):Field->Sem (Nat×Nat))).run P w=.ok l w
 | [],l,h=>by cases h;rfl
 | f::r,l,h=>by
   simp only[fg,qvx] at h;split at h
   .rename_i d l' hd hl';cases h;have ih:=qu4 hcx r l' hl';rw[List.mapM_cons,ai,ai,vk (hcx _ d hd) w];simp only[aq,eb];rw[ai,ih];rfl
   .cases h
def qcb(S:St):List (Nat×Operand)->Option (List (Nat×TV))
 | []=>I []
 | (i,x)::r=>match S.op x,qcb S r with
   | some (.v (.one s)),I l=>if qjl S s then I ((i,.one s)::l) else V
   | some (.v (.agg c)),I l=>I ((i,.agg c)::l)
   | _,_=>V
theorem qx6(h:xg cx.tb W0 S base Z T w)(he:qqz S Z a):∀(ps:List (Nat×Operand)) (l:List (Nat×TV)),qcb S ps=I l ->
  (ps.map λp=>(p.1,a.eval p.2))=(l.map λp=>(p.1,p.2.den Z))/\∀p∈l,∀s,p.2=.one s->(s.den Z).oneCell'=nr
 | [],l,hp=>by cases hp;exact⟨rfl,kq⟩
 | (i,x)::r,l,hp=>by
   simp only[qcb] at hp;split at hp
   .rename_i s l' hx hl';split at hp
    .rename_i ho;cases hp;obtain⟨g1,g2⟩:=qx6 h he r l' hl';refine⟨by simp only[fg,g1,qyz he hx];rfl,λp hpm s' hs'=>?_⟩;rcases cu.1 hpm with rfl|hpm
     .cases hs';exact qy9 h ho
     .exact g2 p hpm s' hs'
    .cases hp
   .rename_i c l' hx hl';cases hp;obtain⟨g1,g2⟩:=qx6 h he r l' hl';refine⟨by simp only[fg,g1,qyz he hx];rfl,λp hpm s' hs'=>?_⟩;rcases cu.1 hpm with rfl|hpm
    .cases hs'
    .exact g2 p hpm s' hs'
   .cases hp
def qng(cx:Cx)(S:St)(t:nz)(parts:List (Nat×Operand)):Option uh:=match yx cx t,qcb S parts with
 | some d,I ps=>match d.k with
   | .st fs=>match qvx cx fs with
     | some pl=>(qbj (pl[·]?) (d.zero.map .con) ps).map λl=>quq (.v (.agg l))
     | none=>V
   | .ar _ e=>match yx cx e with
     | some de=>(qbj (λi=>I (i*de.size,de.size)) (d.zero.map .con) ps).map λl=>quq (.v (.agg l))
     | none=>V
   | _=>V
 | _,_=>V
theorem q2x(hcx:yj P cx){parts:Array (Nat×Operand)}{out:uh}(h:qng cx S t parts.toList=I out)(hex:∃Z,Ω Z)(hs:∀Z,Ω Z->xg cx.tb W0 S base Z T w)(he:∀Z,Ω Z->qqz S Z a) :
  ∃r,(rn t (parts.map λ(i,x)=>(i,a.eval x))).run P w=.ok r w/\∀Z,Ω Z->uy cx.tb W0 S out base Z T w r:=by
 obtain⟨ρ0,h0⟩:=hex;unfold qng at h;split at h
 .rename_i d ps hd hps;have htd:=hcx t d hd;obtain⟨u',g1,g2⟩:=qya htd;obtain⟨i,hi1,hi2,hi3,z,hz1,hz2⟩:=jg htd;have hzero:(zeroValue t).run P w=.ok z w:=by simp[zeroValue,typeInfo,hi1,hz1]
  have hconv:∀Z,Ω Z->(parts.map λ(i,x)=>(i,a.eval x)).toList=(ps.map λp=>(p.1,p.2.den Z)):=λZ hρ=>by
   rw[<-(qx6 (hs Z hρ) (he Z hρ) _ _ hps).1,Array.toList_map]
  have hone:=(qx6 (hs ρ0 h0) (he ρ0 h0) _ _ hps).2
  have hz:∀Z:yu,z.cells.toList=qw Z (d.zero.map .con):=λZ=>by
   rw[hz2];unfold qw;rw[aco];exact(adw _).symm
  have hfin:∀(place:Nat->Option (Nat×Nat)) (o:uh),(qbj place (d.zero.map .con) ps).map (λl=>quq (.v (.agg l)))=I o->∃q,iv place z.cells (parts.map λ(i,x)=>(i,a.eval x)).toList=I q/\∀Z,Ω Z->uy cx.tb W0 S o base Z T w (.agg q):=by
   intro place o ho;cases hq:qbj place (d.zero.map .con) ps with
   | none=>rw[hq] at ho;cases ho
   | some l=>
     rw[hq] at ho;have ho:=oi ho;subst ho;obtain⟨q,hq1,hq2⟩:=qds ρ0 ps _ z.cells l hone hq (hz ρ0);refine⟨q,by rw[hconv ρ0 h0];exact hq1,λZ hρ=>qjg ?_⟩;obtain⟨q',hq3,hq4⟩:=qds Z ps _ z.cells l ((qx6 (hs Z hρ) (he Z hρ) _ _ hps).2) hq (hz Z);rw[<-hconv Z hρ,hconv ρ0 h0,hq1] at hq3;cases hq3;show Value.agg q=Value.agg _;congr 1;exact gq.1 hq4
  split at h
  .rename_i fs hk;rw[hk] at g2;obtain⟨fl,rfl⟩:∃fl,u'=.struct fl:=by cases u'<;>simp_all [KD.of]
   simp only[KD.of,KD.st.injEq] at g2;split at h
   .rename_i pl hpl;obtain⟨q,hq1,hq2⟩:=hfin _ _ h;refine⟨.agg q,?_,hq2⟩
    have hm:(fl.mapM (λf=>do pure (f.offset,<-sizeOf f.type):Field->Sem (Nat×Nat))).run P w=.ok pl.toArray w:=by
     rw[Array.mapM_eq_mapM_toList,Sem.run_map,qu4 hcx fl.toList pl (by rw[g2];exact hpl)];rfl
    unfold rn;rw[ai,hzero];simp only[aq];rw[ai,bg g1 w];simp only[aq];rw[ai,hm];simp only[aq];have:(λx:Nat=>pl.toArray[x]?)=(λx:Nat=>pl[x]?):=by funext x;simp
    rw[this,hq1];rfl
   .cases h
  .rename_i n e hk;rw[hk] at g2;obtain⟨n',e',rfl⟩:∃n' e',u'=.array n' e':=by cases u'<;>simp_all [KD.of]
   simp only[KD.of,KD.ar.injEq] at g2;obtain⟨rfl,rfl⟩:=g2;split at h
   .rename_i de hde;obtain⟨q,hq1,hq2⟩:=hfin _ _ h;refine⟨.agg q,?_,hq2⟩;unfold rn;rw[ai,hzero];simp only[aq];rw[ai,bg g1 w];simp only[aq];rw[ai,vk (hcx _ de hde) w];simp only[aq];rw[hq1];rfl
   .cases h
  .cases h
 .cases h
def qw1(S:St)(c:SV)(x y:Operand):Option uh:=match S.be c with
 | some (.tt nr)=>(S.op x).map quq
 | some (.tt ns)=>(S.op y).map quq
 | some b=>match S.one x,S.one y with
   | some sx,I sy=>match S.be sx,S.be sy with
     | some p,I q=>I (qyg (.be (.or (.and b p) (.and (.not b) q))))
     | _,_=>V
   | _,_=>V
 | none=>V
theorem qpo{c:SV}{x y:Operand}{out:uh}(h:qw1 S c x y=I out)(hs:xg cx.tb W0 S base Z T w)(he:qqz S Z a):∃b,c.den Z=ni b/\uy cx.tb W0 S out base Z T w (if b then a.eval x else a.eval y):=by
 unfold qw1 at h;split at h
 .rename_i hb;cases hq:S.op x with
  | none=>rw[hq] at h;cases h
  | some v=>
    rw[hq] at h;have h:=oi h;subst h;exact⟨nr,qq1 hs hb,qjg (qyz he hq)⟩
 .rename_i hb;cases hq:S.op y with
  | none=>rw[hq] at h;cases h
  | some v=>
    rw[hq] at h;have h:=oi h;subst h;exact⟨ns,qq1 hs hb,qjg (qyz he hq)⟩
 .rename_i b h1 h2 hb;split at h
  .rename_i sx sy hx hy;split at h
   .rename_i p q hp hq;cases h;refine⟨_,qq1 hs hb,qqi ?_⟩;rw[xu he hx,xu he hy,qq1 hs hp,qq1 hs hq];show _=Value.bool ((b.den Z && p.den Z) || (!b.den Z && q.den Z));cases b.den Z<;>simp
   .cases h
  .cases h
 .cases h
def qxk(cx:Cx)(S:St)(o:Oper):Option uh:=match o.op with
 | .move x=>(S.op x).map quq
 | .assign x=>(S.op x).map quq
 | .pick c x y=>match S.one c with
   | some c=>qw1 S c x y
   | none=>V
 | .build t parts=>qng cx S t parts.toList
 | .load t x=>match S.one x with
   | some x=>qh9 cx S t x
   | none=>V
 | .nilCheck x=>match S.one x with
   | some s=>if(S.ptr s).isSome then I (qyg s) else V
   | none=>V
 | .binOp op t x y _=>match S.one x,S.one y with
   | some x,I y=>binA cx S op t x y
   | _,_=>V
 | .unOp op _ x=>match S.one x with
   | some x=>unA S op x
   | none=>V
 | .convert s d x=>match S.one x with
   | some x=>qwy cx S s d x
   | none=>V
 | .slice t x lo hi mx=>match S.one x with
   | some s=>match(match lo with|none=>I V|some z=>(S.one z).map I),(match hi with|none=>I V|some z=>(S.one z).map I),(match mx with|none=>I V|some z=>(S.one z).map I) with
     | some l,I h,I m=>if m.isSome && h.isNone then V else qnf cx S t s l h m
     | _,_,_=>V
   | none=>V
 | .fieldAddr t x f=>match S.one x with
   | some x=>qpx cx S t x f
   | none=>V
 | .field t x f=>match S.op x with
   | some x=>qoa cx t x f
   | none=>V
 | .indexAddr t x i=>match S.one x,S.one i with
   | some x,I i=>qp1 cx S t x i
   | _,_=>V
 | .index t x i=>match S.op x,S.one i with
   | some x,I i=>qow cx S t x i
   | _,_=>V
 | .extract x i=>match S.op x with
   | some (.tup l)=>(l[i]?).map λt=>quq (.v t)
   | _=>V
 | .makeFunc fn first cap=>if first.size=0/\cap.size=0 then I (qyg (.con (.func fn #[] #[]))) else V
 | .call { callee:=.builtin .len,args,argTypes }=>match args.toList,argTypes.toList with
   | [x],[t]=>match S.one x with
     | some x=>lenA cx S t x
     | none=>match S.op x,kd cx t with
       | some (.v (.agg _)),.ar n _=>I (qyg (.con (.int O n)))
       | _,_=>V
   | _,_=>V
 | .call { callee:=.builtin .cap,args,argTypes }=>match args.toList,argTypes.toList with
   | [x],[t]=>match S.one x with
     | some x=>capA cx S t x
     | none=>V
   | _,_=>V
 | .call { callee:=.builtin .min,args,argTypes }=>match args.toList with
   | [x,y]=>match S.one x,S.one y with
     | some x,I y=>mmA S ns x y
     | _,_=>V
   | _=>V
 | .call { callee:=.builtin .max,args,argTypes }=>match args.toList with
   | [x,y]=>match S.one x,S.one y with
     | some x,I y=>mmA S nr x y
     | _,_=>V
   | _=>V
 | _=>V
theorem qqy{s:Sem ny}{r:ny}(h:s.run P w=.ok r w):(do pure (.value (<-s)):Sem Next).run P w=.ok (.value r) w:=by
 rw[ai,h];rfl
theorem qb5{l:Array α}{x:α}(h:l.toList=[x]):l=#[x]:=gq.1 h
theorem qbs{l:Array α}{x y:α}(h:l.toList=[x,y]):l=#[x,y]:=gq.1 h
theorem qrb{z:Option Operand}{s:Option SV}(h:(match z with|none=>I V|some z=>(S.one z).map I)=I s)(he:qqz S Z a):z.map a.eval=s.map (SV.den Z):=by
 cases z with
 | none=>cases h;rfl
 | some z=>
   simp only at h;cases hq:S.one z with
   | none=>rw[hq] at h;cases h
   | some q=>rw[hq] at h;cases h;simp[xu he hq]
theorem qdz(hcx:yj P cx){out:uh}(h:qxk cx S o=I out)(H:qqu cx W0 S base Ω T w a):Pure P cx W0 S base Ω T w a o out:=by
 have hs:=H.sat;have he:=H.env;have hex:=H.ex;obtain⟨ρ0,h0⟩:=id hex;have h1:∀{x:Operand} {s:SV},S.one x=I s->∀Z,Ω Z->a.eval x=s.den Z:=λhx Z hρ=>xu (he Z hρ) hx
 have h2:∀{x:Operand} {s:XV},S.op x=I s->∀Z,Ω Z->a.eval x=s.den Z:=λhx Z hρ=>qyz (he Z hρ) hx
 unfold Pure;unfold qxk at h;split at h
 .rename_i x ho;cases hq:S.op x with
  | none=>rw[hq] at h;cases h
  | some v=>
    rw[hq] at h;have h:=oi h;subst h;exact⟨a.eval x,by simp[execOp,ho],λZ hρ=>qjg (h2 hq Z hρ)⟩
 .rename_i x ho;cases hq:S.op x with
  | none=>rw[hq] at h;cases h
  | some v=>
    rw[hq] at h;have h:=oi h;subst h;exact⟨a.eval x,by simp[execOp,ho],λZ hρ=>qjg (h2 hq Z hρ)⟩
 .rename_i c x y ho;split at h
  .rename_i c' hc;obtain⟨b,hb,-⟩:=qpo h (hs ρ0 h0) (he ρ0 h0);refine⟨if b then a.eval x else a.eval y,?_,λZ hρ=>?_⟩
   .simp[execOp,ho,h1 hc ρ0 h0,hb,asBool]
   .obtain⟨b',hb',hn⟩:=qpo h (hs Z hρ) (he Z hρ);have e:=(h1 hc ρ0 h0).symm.trans (h1 hc Z hρ);rw[hb,hb'] at e;injection e with e;subst e;exact hn
  .cases h
 .rename_i t parts ho;obtain⟨r,h3,h4⟩:=q2x hcx h hex hs he;exact⟨r,by simp only[execOp,ho];exact qqy h3,h4⟩
 .rename_i t x ho;split at h
  .rename_i s hx;obtain⟨r,h3,h4⟩:=qpw hcx h hex hs (h1 hx);exact⟨r,by simp only[execOp,ho];exact qqy h3,h4⟩
  .cases h
 .rename_i x ho;split at h
  .rename_i s hx;split at h
   .rename_i hp;cases h;cases hq:S.ptr s with
    | none=>rw[hq] at hp;cases hp
    | some no=>
      obtain⟨n,off⟩:=no;have e1:=qyw (hs ρ0 h0) hq;rw[<-h1 hx ρ0 h0] at e1;exact⟨a.eval x,by simp[execOp,ho,e1],λZ hρ=>qqi (h1 hx Z hρ)⟩
   .cases h
  .cases h
 .rename_i op t x y u ho;split at h
  .rename_i x' y' hx hy;obtain⟨r,h3,h4⟩:=q7n hcx h hex hs (h1 hx) (h1 hy) x y;exact⟨r,by simp only[execOp,ho];exact qqy h3,h4⟩
  .cases h
 .rename_i op t x ho;split at h
  .rename_i x' hx;obtain⟨r,h3,h4⟩:=unA_ok h hex hs (h1 hx);exact⟨r,by simp only[execOp,ho];exact qqy h3,h4⟩
  .cases h
 .rename_i s d x ho;split at h
  .rename_i x' hx;obtain⟨r,h3,h4⟩:=q4o hcx h hex hs (h1 hx);exact⟨r,by simp only[execOp,ho];exact qqy h3,h4⟩
  .cases h
 .rename_i t x lo hi mx ho;split at h
  .rename_i s hx;split at h
   .rename_i l hh m hl hhi hm;split at h
    .cases h
    .rename_i hmh
     obtain⟨r,h3,h4⟩:=q29 hcx h hex hs (h1 hx) (λZ hρ=>qrb hl (he Z hρ)) (λZ hρ=>qrb hhi (he Z hρ)) (λZ hρ=>qrb hm (he Z hρ)) (λhm=>by
      cases hh with
      | some z=>rfl
      | none=>rw[hm] at hmh;simp at hmh)
     exact⟨r,by simp only[execOp,ho];exact qqy h3,h4⟩
   .cases h
  .cases h
 .rename_i t x f ho;split at h
  .rename_i s hx;obtain⟨r,h3,h4⟩:=q0w hcx h hex hs (h1 hx);exact⟨r,by simp only[execOp,ho];exact qqy h3,h4⟩
  .cases h
 .rename_i t x f ho;split at h
  .rename_i s hx;obtain⟨r,h3,h4⟩:=q3v (P:=P) (W0:=W0) (S:=S) (base:=base) (T:=T) (w:=w) hcx h hex (h2 hx);exact⟨r,by simp only[execOp,ho];exact qqy h3,h4⟩
  .cases h
 .rename_i t x i ho;split at h
  .rename_i x' i' hx hi;obtain⟨r,h3,h4⟩:=q3d hcx h hex hs (h1 hx) (h1 hi);exact⟨r,by simp only[execOp,ho];exact qqy h3,h4⟩
  .cases h
 .rename_i t x i ho;split at h
  .rename_i x' i' hx hi;obtain⟨r,h3,h4⟩:=q2k hcx h hex hs (h2 hx) (h1 hi);exact⟨r,by simp only[execOp,ho];exact qqy h3,h4⟩
  .cases h
 .rename_i x i ho;split at h
  .rename_i l hx;cases hq:l[i]? with
   | none=>rw[hq] at h;cases h
   | some t=>
     rw[hq] at h;have h:=oi h;subst h;have e1:∀Z,Ω Z->a.eval x=.tuple (l.map (TV.den Z)).toArray:=λZ hρ=>h2 hx Z hρ
     refine⟨t.den ρ0,?_,λZ hρ=>qjg ?_⟩
     .simp only[execOp,ho];refine qqy ?_;simp[Instr.extract,e1 ρ0 h0,hq]
     .have e2:=(e1 ρ0 h0).symm.trans (e1 Z hρ);injection e2 with e2;have e3:=congrArg (λz:Array ny=>z[i]?) e2;show t.den ρ0=t.den Z;simpa[hq] using e3
  .cases h
 .rename_i fn first cap ho
  split at h
  .rename_i hc;cases h;have e1:first=#[]:=ec hc.1
   have e2:cap=#[]:=ec hc.2;subst e1;subst e2;exact⟨_,by simp[execOp,ho,Instr.makeFunc],λZ hρ=>qqi rfl⟩
  .cases h
 .rename_i args ats ho;split at h
  .rename_i x t hx ht;have e1:=qb5 hx;have e2:=qb5 ht;subst e1;subst e2;split at h
   .rename_i s hs1;obtain⟨r,h3,h4⟩:=q66 (r:=o.type) hcx h hex hs (h1 hs1);exact⟨r,by simp only[execOp,ho,resolve,invoke,builtin];simpa[ai] using qqy h3,h4⟩
   .split at h
    .rename_i l n e hl hk;cases h;obtain⟨u',g1,g2⟩:=xe hcx hk kq;obtain⟨n',e',rfl⟩:∃n' e',u'=.array n' e':=by cases u'<;>simp_all [KD.of]
     simp only[KD.of,KD.ar.injEq] at g2;obtain⟨rfl,rfl⟩:=g2;refine⟨goInt n',?_,λZ hρ=>qqi rfl⟩;have hv:a.eval x=.agg (qw ρ0 l).toArray:=h2 hl ρ0 h0;simp[execOp,ho,resolve,invoke,builtin,sr,hv,ai,bg g1 w]
    .cases h
  .cases h
 .rename_i args ats ho;split at h
  .rename_i x t hx ht;have e1:=qb5 hx;have e2:=qb5 ht;subst e1;subst e2;split at h
   .rename_i s hs1;obtain⟨r,h3,h4⟩:=q6v (r:=o.type) hcx h hex hs (h1 hs1);exact⟨r,by simp only[execOp,ho,resolve,invoke,builtin];simpa[ai] using qqy h3,h4⟩
   .cases h
  .cases h
 .rename_i args ats ho;split at h
  .rename_i x y hx;have e1:=qbs hx;subst e1;split at h
   .rename_i x' y' hx' hy';obtain⟨r,h3,h4⟩:=q1v (mx:=ns) (r:=o.type) (ts:=ats) h hex hs (h1 hx') (h1 hy');exact⟨r,by simp only[execOp,ho,resolve,invoke,builtin];simpa[ai] using qqy h3,h4⟩
   .cases h
  .cases h
 .rename_i args ats ho;split at h
  .rename_i x y hx;have e1:=qbs hx;subst e1;split at h
   .rename_i x' y' hx' hy';obtain⟨r,h3,h4⟩:=q1v (mx:=nr) (r:=o.type) (ts:=ats) h hex hs (h1 hx') (h1 hy');exact⟨r,by simp only[execOp,ho,resolve,invoke,builtin];simpa[ai] using qqy h3,h4⟩
   .cases h
  .cases h
 .cases h
end
open Go.RowKit
theorem xk(b:Nat):∀(vs:List ny) (o:Nat) (w:nu) (k:Nat),k≠b->(w.setCells b o vs).heap[k]? = w.heap[k]?
 | [],_,_,_,_=>rfl
 | v::r,o,w,k,h=>by rw[yq,xk b r (o+1) _ k h,Below.heap_setCell _ _ _ _ h]
theorem ve(b:Nat):∀(vs:List ny) (o:Nat) (w:nu),(w.setCells b o vs).heap.size=w.heap.size/\(w.setCells b o vs).os=w.os/\(w.setCells b o vs).tape=w.tape/\(w.setCells b o vs).output=w.output
 | [],_,_=>⟨rfl,rfl,rfl,rfl⟩
 | v::r,o,w=>by
   rw[yq];obtain⟨h1,h2,h3,h4⟩:=ve b r (o+1) (w.setCell ⟨b,o,V⟩ v);exact⟨h1.trans (by simp[aca]),h2,h3,h4⟩
theorem jh(b:Nat)(e:nz)(fr:Nat×Nat):∀(vs:List ny) (o:Nat) (w:nu) (cs:Array ny),w.heap[b]? = I (.cells cs e fr) ->
  ∃cs',(w.setCells b o vs).heap[b]? = I (.cells cs' e fr)/\cs'.size=cs.size/\∀i,cs'[i]? = if o<=i/\i<o+vs.length/\i<cs.size then vs[i-o]? else cs[i]?
 | [],o,w,cs,h=>⟨cs,h,rfl,λi=>by rw[if_neg (by simp only[List.length_nil];omega)]⟩
 | v::r,o,w,cs,h=>by
   have h1:(w.setCell ⟨b,o,V⟩ v).heap[b]? = I (.cells (cs.setIfInBounds o v) e fr):=by
    simp[aca,Array.getElem?_modify,h]
   obtain⟨cs',g1,g2,g3⟩:=jh b e fr r (o+1) _ _ h1;refine⟨cs',by rw[yq];exact g1,by rw[g2];simp,λi=>?_⟩;rw[g3,Array.getElem?_setIfInBounds];simp only[wj,gp];by_cases hio:i=o
   .subst hio;rw[if_neg kg,if_pos rfl];by_cases hs:i<cs.size
    .rw[if_pos hs,if_pos kg,Nat.sub_self];rfl
    .rw[if_neg hs,if_neg kg,dq kg]
   .rw[if_neg (show ¬o=i by omega)];by_cases hc:o+1<=i/\i<o+1+r.length/\i<cs.size
    .rw[if_pos hc,if_pos kg,show i-o=(i-(o+1))+1 by omega,fq]
    .rw[if_neg hc,if_neg kg]
section
variable (tb:yg)(W0:nu)
structure qyv(T:Nat->Prop)(w:World)(T':Nat->Prop)(w':World)(base:Nat)(pu:Lv)(ex:Option Nat):Prop where
 wt:WT tb W0 T' w'
 ext:xq T w T' w'
 new:∀b,T' b->T b\/w.heap.size<=b
 size:w.heap.size<=w'.heap.size
 os:w'.os=w.os
 tape:w'.tape=w.tape
 output:w'.output=w.output
 keep:∀b,b<w.heap.size->¬T b->ex≠I b->w'.heap[b]? = w.heap[b]?
 pure:∀b,b<base->(pu=.pure\/¬T b)->w'.heap[b]? = w.heap[b]?
 kpt:pu=.kp->∀b,b<base->T b->quz w w' b
end
def qtm(m:Nat)(e:nz):Lv:=if 2<=m then .pure else if(qti e).isNone && !qia e then .kp else .no
theorem qni(h:qtm m e=.pure):2<=m:=by
 unfold qtm at h;split at h
 .assumption
 .split at h<;>cases h
theorem q2g(h:qtm m e=.kp)(i:Nat):qig e i=ns:=by
 unfold qtm at h;split at h
 .cases h
 .split at h
  .rename_i hn;simp only[ag,Bool.not_eq_true'] at hn;unfold qig;rw[Option.isNone_iff_eq_none.1 hn.1,hn.2];rfl
  .cases h
def qnh(tb:yg)(u:nz):Bool:=kbL.all λe=>((tb.flat u).getD []).any λct=>!((tb.flat e).getD []).contains ct
theorem ql6{tb:yg}{u te:nz}{lt:List CT}{o:Nat}(h:qnh tb u=nr)(hf:tb.flat te=I lt)(hc:∀k ct,((tb.flat u).getD [])[k]? = I ct->tb.qym te (o+k)=I ct):qia te=ns:=by
 cases hk:qia te with
 | false=>rfl
 | true=>
   have h1:=ao.1 h te (by simpa[qia] using hk);obtain⟨ct,h2,h3⟩:=gn.1 h1;obtain⟨k,h4⟩:=List.getElem?_of_mem h2;have h5:=hc k ct h4;unfold yg.qym at h5;rw[hf] at h5;simp only[ic] at h5;rw[hf] at h3;have h6:=cm h5;simp[h6] at h3
inductive Ef where
 | no
 | box (t:nz) (cs:List SV)
 | put (n off:Nat) (vs:List SV)
structure qqa where
 out:uh
 ef:Ef
 pu:Lv
section
variable {P:ma}{cx:Cx}{W0:nu}{S:St}{base:Nat}{Z:yu}{T T':Nat->Prop}{w w':nu}{a:Act}{Ω:yu->Prop}
theorem qyv.refl{tb:yg}(h:WT tb W0 T w)(base:Nat)(pu:Lv):qyv tb W0 T w T w base pu V:=
 ⟨h,xq.refl T w,λ_ h=>.inl h,af _,rfl,rfl,rfl,λ_ _ _ _=>rfl,λ_ _ _=>rfl,λ_ _ _ _=>.same rfl⟩
def EfOk(ef:Ef)(base:Nat)(Z:yu)(T:Nat->Prop)(w:nu)(T':Nat->Prop)(w':nu)(v:ny)(ex:Option Nat):Prop:=match ef with
 | .no=>ex=V
 | .box t cs=>ex=V/\∃g,v=.pointer (I ⟨g,0,V⟩)/\¬T' g/\base<=g/\w.heap.size<=g/\w'.heap[g]? = I (.cells (qw Z cs).toArray t (0,0))
 | .put n off vs=>∃g cs cs' t,ex=I g/\Z n=.pointer (I ⟨g,0,V⟩)/\w.heap[g]? = I (.cells cs t (0,0))/\w'.heap[g]? = I (.cells cs' t (0,0))/\cs'.size=cs.size/\off+vs.length<=cs.size /\
    ∀i,cs'[i]? = if off<=i/\i<off+vs.length then(qw Z vs)[i-off]? else cs[i]?
def jc(P:ma)(cx:Cx)(W0:nu)(S:St)(base:Nat)(Ω:yu->Prop)(T:Nat->Prop)(w:nu)(a:Act)(o:Oper)(r:qqa):Prop:=
 qx.qc P (λv w'=>∃T' ex,qyv cx.tb W0 T w T' w' base r.pu ex/\∀Z,Ω Z->Blk Z S.nv r.out.tys.length (qzs v)->uy cx.tb W0 S r.out base Z T' w' v/\EfOk r.ef base Z T w T' w' v ex) ((execOp a.eval o).run P w)
theorem Pure.step{out:uh}(h:Pure P cx W0 S base Ω T w a o out)(H:qqu cx W0 S base Ω T w a):jc P cx W0 S base Ω T w a o ⟨out,.no,.pure⟩:=by
 obtain⟨v,h1,h2⟩:=h;obtain⟨ρ0,h0⟩:=H.ex;unfold jc;rw[h1];exact⟨T,V,qyv.refl (H.sat ρ0 h0).wt base .pure,λZ hρ _=>⟨h2 Z hρ,rfl⟩⟩
theorem qqp{s:Sem ny}{r:ny}(h:s.run P w=.ok r w'):(do pure (.value (<-s)):Sem Next).run P w=.ok (.value r) w':=by
 rw[ai,h];rfl
theorem qu9(w:nu)(o:Obj)(k:Nat)(h:k≠w.heap.size):(w.alloc o).heap[k]? = w.heap[k]?:=by
 show(w.heap.push o)[k]? = _;rw[Array.getElem?_push,if_neg h]
theorem qlv{tb:yg}(h:WT tb W0 T w)(hb:base<=w.heap.size)(cs:Array ny)(t:nz):qyv tb W0 T w T (w.alloc (.cells cs t)) base .pure V:=by
 have hk:∀b,b<w.heap.size->(w.alloc (.cells cs t)).heap[b]? = w.heap[b]?:=λb hb=>qu9 w _ b kg
 obtain⟨h1,h2⟩:=h.frame (w':=w.alloc (.cells cs t)) kq (λb hb=>hk b (Nat.lt_of_lt_of_le hb h.size)) (λb hb=>hk b (h.lt hb)) (λb es c hb=>by rw[hk b (by rcases Nat.lt_or_ge b w.heap.size with h1|h1;exact h1;rw[dq h1] at hb;cases hb)];exact hb);exact⟨h1,h2,λ_ h=>.inl h,kq,rfl,rfl,rfl,λb hb _ _=>hk b hb,λb hb' _=>hk b kg,λh=>by cases h⟩
theorem q1c{tb:yg}(h:WT tb W0 T w)(hb:base<=w.heap.size)(hc:cs=(qw Z l).toArray) :
  EfOk (.box t l) base Z T w T (w.alloc (.cells cs t)) (nj (I ⟨w.heap.size,0,V⟩)) V:=
 ⟨rfl,w.heap.size,rfl,λhT=>absurd (h.lt hT) (Nat.lt_irrefl _),hb,af _,by rw[hc];exact heap_alloc_new w _⟩
def qao(S:St):XV->Option (List SV)
 | .v (.one s)=>if qjl S s then I [s] else V
 | .v (.agg l)=>I l
 | _=>V
theorem qsa{x:XV}(h:qao S x=I l)(hs:xg cx.tb W0 S base Z T w):(x.den Z).cells=(qw Z l).toArray:=by
 unfold qao at h;split at h
 .rename_i s;split at h
  .rename_i ho;cases h;have:=qy9 hs ho;show(s.den Z).cells=#[s.den Z];generalize s.den Z=v at *;cases v<;>first|rfl|cases this
  .cases h
 .cases h;rfl
 .cases h
def boxA(S:St)(t:nz)(l:List SV):qqa:=⟨qzy S .any [],.box t l,.pure⟩
theorem q6n{x:Operand}(ho:o.op=.box t x)(hx:S.op x=I xv)(hl:qao S xv=I l)(H:qqu cx W0 S base Ω T w a):jc P cx W0 S base Ω T w a o (boxA S t l):=by
 obtain⟨ρ0,h0⟩:=H.ex;have hw:=(H.sat ρ0 h0).wt;have hb:=(H.sat ρ0 h0).bs
 have hrun:(execOp a.eval o).run P w=.ok (.value (nj (I ⟨w.heap.size,0,V⟩))) (w.alloc (.cells (a.eval x).cells t)):=by
  simp only[execOp,ho];exact qqp rfl
 unfold jc;rw[hrun];refine⟨T,V,qlv hw hb _ t,λZ hρ _=>⟨jq (v:=.pointer _) rfl kq,?_⟩⟩;refine q1c hw hb ?_;rw[qyz (H.env Z hρ) hx];exact qsa hl (H.sat Z hρ)
theorem q3k(hcx:yj P cx)(ho:o.op=.alloc t)(hd:yx cx t=I d)(H:qqu cx W0 S base Ω T w a):jc P cx W0 S base Ω T w a o (boxA S t (d.zero.map .con)):=by
 obtain⟨ρ0,h0⟩:=H.ex;have hw:=(H.sat ρ0 h0).wt;have hb:=(H.sat ρ0 h0).bs;obtain⟨i,hi1,hi2,hi3,z,hz1,hz2⟩:=jg (hcx t d hd)
 have hrun:(execOp a.eval o).run P w=.ok (.value (nj (I ⟨w.heap.size,0,V⟩))) (w.alloc (.cells z.cells t)):=by
  simp only[execOp,ho];refine qqp ?_;simp[Instr.alloc,zeroValue,typeInfo,hi1,hz1,ai,newVar,newRow]
 unfold jc;rw[hrun];refine⟨T,V,qlv hw hb _ t,λZ hρ _=>⟨jq (v:=.pointer _) rfl kq,?_⟩⟩;refine q1c hw hb ?_;apply gq.1;rw[hz2];show d.zero=qw Z _;unfold qw;rw[aco];exact(adw _).symm
theorem qe1(htd:qzu P t d){vs:List ny}(hv:v.cells.toList=vs)(hl:vs.length=d.size){fr:Nat×Nat}(hc:w.heap[b]? = I (.cells cs e fr))(hf:Fz cs fr)(hle:off+vs.length<=cs.size)
  (h1:∀v∈vs,v.oneCell'=nr):(acb t (nj (I ⟨b,off,V⟩)) v).run P w=.ok () (w.setCells b off vs):=by
 have hst:=run_storeCells_cells (P:=P) b off vs 0 w (λj hj=>by
  rw[cell_of_row w b _ cs e fr hc,Array.getElem?_eq_getElem kg];rfl) (λj hj=>by
  simp only[World.frozen?,hc];rcases hf with rfl|hf
  .simp
  .have:¬fr.1<=off+j:=kg
   simp[this]) h1
 rw[ir] at hst;have hsz:v.cells.size=d.size:=by rw[<-aw,hv,hl]
 simp[acb,mo,storeVar,ai,vk htd w,hsz,hv,hst]
def qld(S:St):XV->Option (List SV)
 | .v (.one s)=>if qjl S s then I [s] else V
 | .v (.agg l)=>if l.all (qjl S) then I l else V
 | _=>V
theorem qij{x:XV}(h:qld S x=I l)(hs:xg cx.tb W0 S base Z T w):(x.den Z).cells.toList=qw Z l/\∀v∈qw Z l,v.oneCell'=nr:=by
 unfold qld at h;split at h
 .rename_i s;split at h
  .rename_i ho;cases h;have:=qy9 hs ho;refine⟨?_,by simpa[qw] using this⟩;show(s.den Z).cells.toList=[s.den Z];generalize s.den Z=v at *;cases v<;>first|rfl|cases this
  .cases h
 .rename_i l';split at h
  .rename_i ho;cases h;refine⟨rfl,λv hv=>?_⟩;simp only[qw,List.mem_map] at hv;obtain⟨s,hs1,rfl⟩:=hv;exact qy9 hs (ao.1 ho s hs1)
  .cases h
 .cases h
def qn4(cx:Cx)(S:St)(t:nz)(x:SV)(y:XV):Option qqa:=match S.ptr x,yx cx t,qld S y with
 | some (n,off),I d,I l=>if l.length=d.size/\0<d.size then match qu1 S n with
   | some b=>if off+l.length<=b.cs.length then I ⟨quq (.v (.one (.con mc))),.put n off l,.pure⟩ else V
   | none=>match look S.ty n with
     | some (.pt m u)=>match qnc cx.tb u off d.size with
       | some cts=>if decide (1<=m) && (l.zip cts).all (λp=>S.has cx.tb p.1 p.2) && cts.all (λct=>!ct.frozen) then I ⟨quq (.v (.one (.con mc))),.no,if 2<=m then .pure else if cts.all (λct=>!ct.kept) && qnh cx.tb u then .kp else .no⟩ else V
       | none=>V
     | _=>V
   else V
 | _,_,_=>V
theorem q1l(hcx:yj P cx){x y:Operand}{r:qqa}(ho:o.op=.store t x y)(hx:S.one x=I s)(hy:S.op y=I xv)(h:qn4 cx S t s xv=I r)(H:qqu cx W0 S base Ω T w a):jc P cx W0 S base Ω T w a o r:=by
 obtain⟨ρ0,h0⟩:=H.ex;have hs0:=H.sat ρ0 h0;unfold qn4 at h;split at h
 .rename_i n off d l hp hd hl;split at h
  .rename_i hlen0;obtain⟨hlen,hpos⟩:=hlen0;have htd:=hcx t d hd;have e1:=qyw hs0 hp;rw[<-xu (H.env ρ0 h0) hx] at e1;obtain⟨hc1,hc2⟩:=qij hl hs0;rw[<-qyz (H.env ρ0 h0) hy] at hc1;have hdl:∀Z,(qw Z l).length=l.length:=λZ=>by simp[qw]
   have hsame:∀Z,Ω Z->qw Z l=qw ρ0 l:=λZ hρ=>by
    have:=(qij hl (H.sat Z hρ)).1;rw[<-qyz (H.env Z hρ) hy,hc1] at this;exact this.symm
   have hrun:∀{b o':Nat} {cs:Array ny} {e:nz} {fr:Nat×Nat},a.eval x=nj (I ⟨b,o',V⟩)->w.heap[b]? = I (.cells cs e fr)->Fz cs fr->o'+l.length<=cs.size ->
    (execOp a.eval o).run P w=.ok .skip (w.setCells b o' (qw ρ0 l)):=by
    intro b o' cs e fr hax hc hf hle;simp only[execOp,ho];rw[ai,hax,qe1 htd hc1 (by rw[hdl];exact hlen) hc hf (by rw[hdl];exact hle) hc2];rfl
   split at h
   .rename_i b hb;split at h
    .rename_i hle;cases h;obtain⟨hbm,rfl⟩:=qam hb;obtain⟨g,cs,a1,a2,a3,a4,a5,a6⟩:=hs0.bx b hbm;have hax:a.eval x=nj (I ⟨g,off,V⟩):=by rw[e1,a1];simp[qqx]
     unfold jc;rw[hrun hax a4 (.inl rfl) kg];obtain⟨cs',b1,b2,b3⟩:=jh g b.t (0,0) (qw ρ0 l) off w cs a4;obtain⟨r1,r2,r3,r4⟩:=ve g (qw ρ0 l) off w;have hother:=λk (hk:k≠g)=>xk g (qw ρ0 l) off w k hk
     obtain⟨f1,f2⟩:=hs0.wt.frame (w':=w.setCells g off (qw ρ0 l)) (by rw[r1];exact af _) (λk hk=>hother k (by have:=hs0.lo;omega)) (λk hk=>hother k (λe=>a2 (e ▸ hk))) (λk es c hk=>by rw[hother k (λe=>by rw[e,a4] at hk;cases hk)];exact hk);refine⟨T,I g,⟨f1,f2,λ_ h=>.inl h,by rw[r1];exact af _,r2,r3,r4,λk hk _ hne=>hother k (λe=>hne (by rw[e])),λk hk _=>hother k kg,λh=>by cases h⟩,λZ hρ _=>⟨qjg rfl,?_⟩⟩;obtain⟨g',cs2,c1,c2,c3,c4,c5,c6⟩:=(H.sat Z hρ).bx b hbm;have e2:=qyw (H.sat Z hρ) hp;rw[<-xu (H.env Z hρ) hx,hax,c1] at e2;simp only[qqx,Value.pointer.injEq,bc,Addr.mk.injEq] at e2;obtain⟨rfl,-⟩:=e2;refine⟨g,cs,cs',b.t,rfl,c1,a4,b1,b2,kg,λi=>?_⟩;rw[b3 i,hsame Z hρ,hdl];by_cases hi:off<=i/\i<off+l.length
     .rw[if_pos ⟨hi.1,hi.2,kg⟩,if_pos hi]
     .rw[if_neg (λh=>hi ⟨h.1,h.2.1⟩),if_neg hi]
    .cases h
   .split at h
    .rename_i m u hq;split at h
     .rename_i cts hcts;split at h
      .rename_i hc;cases h;simp only[ag,decide_eq_true_eq] at hc;obtain⟨⟨hm,hall⟩,hfrz⟩:=hc;obtain⟨hclen,hlow,hget⟩:=qp4 hcts;have hcv:=hs0.ty n _ (ji hq);obtain⟨b,o',hb,hk⟩:=hcv;rcases hk with⟨hk,-⟩|⟨hT,hown,te,⟨cs,fr,hrow,hsz⟩,hcts2⟩
       .omega
       .have hax:a.eval x=nj (I ⟨b,o'+off,V⟩):=by rw[e1,hb];rfl
        obtain⟨cs1,e,fr1,lt,q1,q2,q3,q4,q5⟩:=hs0.wt.typed b hT;rw[hrow] at q1;injection q1 with q1;injection q1 with q1 q6 q7;subst q1;subst q6;subst q7
        have hle:off+l.length<=cx.tb.sz u:=by
         obtain⟨ct,-,h2⟩:=hget (l.length-1) kg;have:=qfl h2;omega
        unfold jc;rw[hrun hax hrow q2 kg];obtain⟨cs',b1,b2,b3⟩:=jh b te fr (qw ρ0 l) (o'+off) w cs hrow;obtain⟨r1,r2,r3,r4⟩:=ve b (qw ρ0 l) (o'+off) w;have hother:=λk (hk:k≠b)=>xk b (qw ρ0 l) (o'+off) w k hk
        have hne:qum te=ns:=by
         obtain⟨ct,g1,g2⟩:=hget 0 kg;have g3:=hcts2 _ ct g2;unfold yg.qym at g3;rw[q3] at g3;simp only[ic] at g3;have h5:=ao.1 hfrz ct (cm g1);exact hcx.no q3 g3 (by cases ct<;>first|rfl|simp[CT.frozen] at h5)
        obtain⟨f1,f2⟩:=hs0.wt.write (w':=w.setCells b (o'+off) (qw ρ0 l)) hne hT hrow q3 b2 b1 (by rcases q2 with h|h;exact .inl h;exact .inr kg) hother r1 (λi v hv=>by
         rw[b3 i,hdl] at hv;split at hv
         .rename_i hi;obtain⟨hi1,hi2,hi3⟩:=hi;have hj:i-(o'+off)<l.length:=kg;obtain⟨ct,g1,g2⟩:=hget (i-(o'+off)) kg;have g3:=hcts2 _ ct g2;unfold yg.qym at g3;rw[q3] at g3;simp only[ic] at g3;rw[show o'+(off+(i-(o'+off)))=i by omega] at g3;refine .inr ⟨ct,g3,?_⟩;simp only[qw,dh,ah hj,dv,bc] at hv;subst hv
          have hz:=ao.1 hall (l[i-(o'+off)],ct) (by
           refine List.mem_iff_getElem?.2 ⟨i-(o'+off),?_⟩;rw[List.getElem?_zip_eq_some]
           exact⟨ah hj,g1⟩)
          exact(qx0 hs0 hz).mono (xq.refl T w) (cr _)
         .exact .inl hv) (.inr (λi v hv=>by
         rw[b3 i,hdl] at hv;split at hv
         .rename_i hi;obtain⟨hi1,hi2,hi3⟩:=hi;obtain⟨ct,g1,g2⟩:=hget (i-(o'+off)) kg;have g3:=hcts2 _ ct g2;unfold yg.qym at g3;rw[q3] at g3;simp only[ic] at g3;rw[show o'+(off+(i-(o'+off)))=i by omega] at g3;exact .inr ⟨ct,g3,by simpa using ao.1 hfrz ct (cm g1)⟩
         .exact .inl hv))
        refine⟨T,V,⟨f1,f2,λ_ h=>.inl h,by rw[r1];exact af _,r2,r3,r4,λk hk hkT _=>hother k (λe=>hkT (e ▸ hT)),λk hk hpu=>hother k (λe=>?_),λhkp k hk hTk=>?_⟩,λZ hρ _=>⟨qjg rfl,rfl⟩⟩
        .subst e;rcases hpu with hpu|hpu
         .by_cases h2:2<=m
          .have:=hown h2;omega
          .simp only[if_neg h2] at hpu;split at hpu<;>cases hpu
         .exact hpu hT
        .by_cases hkb:k=b
         .subst hkb;intro cs0 e0 fr0 hc0;rw[hrow] at hc0;cases hc0;refine⟨cs',_,b1,λi hi=>?_⟩;rw[b3 i,hdl,if_neg (λhr=>?_)];obtain⟨hi1,hi2,hi3⟩:=hr;obtain⟨ct,g1,g2⟩:=hget (i-(o'+off)) kg;have g3:=hcts2 _ ct g2;unfold yg.qym at g3;rw[q3] at g3;simp only[ic] at g3;rw[show o'+(off+(i-(o'+off)))=i by omega] at g3
          have h5:ct.kept=ns/\qnh cx.tb u=nr:=by
           by_cases h2:2<=m
           .simp only[if_pos h2] at hkp;cases hkp
           .simp only[if_neg h2] at hkp;split at hkp
            .rename_i hal;simp only[ag] at hal;exact⟨by simpa using ao.1 hal.1 ct (cm g1),hal.2⟩
            .cases hkp
          have h6:=hcx.kept q3 hi (ql6 h5.2 q3 hcts2) g3;rw[h5.1] at h6;cases h6
         .exact .same (hother k hkb)
      .cases h
     .cases h
    .cases h
  .cases h
 .cases h
end
end Sy
end Go.Proofs.YtmadfhgiaonnlaaGreatDoor
