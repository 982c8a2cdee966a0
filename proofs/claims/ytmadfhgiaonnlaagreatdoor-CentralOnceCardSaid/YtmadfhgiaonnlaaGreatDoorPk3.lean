import Derived.Still
import Derived.LoopN
import Derived.Scope
import Derived.Test.YtmadfhgiaonnlaaGreatDoorPk2
open Array renaming getD_eq_getD_getElem?->au,getElem?_setIfInBounds->bt,getElem?_eq_none->dq,getElem?_eq_getElem->ak,toList_inj->gq,eq_empty_of_size_eq_zero->ec,replicate->fy
open Bool renaming and_eq_true->ag,or_eq_true->cj,false_or->acd
open Go renaming wp_mono->im
open Go.Act renaming put->ez
open Go.Code renaming opers->iq
open Go.Deferred renaming ofValue->abd
open Go.Exit renaming inBlock->wk
open Go.Region renaming wanted->ee
open Go.Result renaming andThen_ok->aq
open Go.Sem renaming run_bind->ai,run_pure->eb
open Go.Value renaming cells->mw
open List renaming mem_cons->cu,getElem?_append_left->cd,length_append->gk,length_map->iu,getElem?_append_right->bq,getElem?_map->dh,filter_cons->rr,mem_append->bo,mem_map->fi,all_eq_true->ao,any_eq_true->gn,all_cons->og,getElem?_set->aap,getElem?_cons_zero->db,getElem?_cons_succ->fq,mapM_cons->tl,getElem?_eq_some_iff->al,mem_filter->ot,mem_of_getElem?->cm,getElem?_eq_getElem->ah,mem_cons_of_mem->js,mem_cons_self->ff,getElem?_toArray->ga,mem_iff_getElem?->ph,getElem?_zip_eq_some->mv,flatMap_cons->ik,map_cons->fg,map_append->ow,getElem?_eq_none->dn,getD_eq_getElem?_getD->bn
open Nat renaming lt_or_ge->dw,le_trans->cy,le_refl->af,add_sub_cancel_left->dm,le_of_not_lt->abc,zero_add->bu,mod_eq_of_lt->iw,zero_le->cr,le_of_eq->su,lt_of_lt_of_le->bf,add_assoc->gi
open Ne renaming symm->yr
open Option renaming map_some->dv,bind_some->ic,getD_some->lj,map_eq_some_iff->ea
open Option.some renaming injEq->bc
open Bool renaming false->ns,true->nr
open Go renaming FuncId->mb,Program->ma,Value->ny,World->nu,undef->mc
open Go.Ending renaming returned->np
open Go.IntKind renaming i64->O
open Go.Value renaming bool->ni,int->U,pointer->nj,slice->ng
open Option renaming none->V,some->I
set_option linter.unusedVariables false
set_option linter.unusedSimpArgs false
namespace Go.Proofs.YtmadfhgiaonnlaaGreatDoor
namespace Sy
open Go.RowKit
variable {a':Act}{ops:Array Oper}{b:BE}{β:Bool}{f:mb}{l:List (Option SV)}{vs:List SV}{pu:Lv}{j nv off:Nat}{o:Oper}{ex:Option Nat}{S':St}{tv:TV}{d:Tmp}{v:ny}{x:XV}
def qa4(n:Nat):List CT->List (Nat×CT)
 | []=>[]
 | c::r=>(n,c)::qa4 (n+1) r
theorem qkl{ct:CT}{k:Nat}:∀{l:List CT} {n:Nat},(k,ct)∈qa4 n l->∃i,k=n+i/\l[i]? = I ct
 | [],n,h=>by cases h
 | c::r,n,h=>by
   rcases cu.1 h with h|h
   .cases h;exact⟨0,rfl,rfl⟩
   .obtain⟨i,h1,h2⟩:=qkl h;exact⟨i+1,kg,h2⟩
def qfz(l:List (Option SV))(off:Nat)(vs:List SV):List (Option SV):=l.take off++vs.map I++l.drop (off+vs.length)
theorem qtk(h:off+vs.length<=l.length)(i:Nat):(qfz l off vs)[i]? = if off<=i/\i<off+vs.length then(vs[i-off]?).map I else l[i]?:=by
 unfold qfz;have ht:(l.take off).length=off:=by rw[List.length_take];omega
 by_cases h1:i<off
 .rw[if_neg kg,List.append_assoc,cd kg,List.getElem?_take,if_pos h1]
 .by_cases h2:i<off+vs.length
  .rw[if_pos ⟨kg,h2⟩,cd (by rw[gk,ht,iu];omega),bq kg,ht,dh]
  .rw[if_neg kg,bq (by rw[gk,ht,iu];omega),gk,ht,iu,List.getElem?_drop];congr 1;omega
theorem qsp(h:off+vs.length<=l.length):(qfz l off vs).length=l.length:=by
 simp[qfz];omega
def qud(S:St):Ef->List qug
 | .no=>S.bx
 | .box t cs=>⟨S.nv,t,cs.map I⟩::S.bx
 | .put n off vs=>S.bx.map λb=>if b.n=n then { b with cs:=qfz b.cs off vs } else b
def put(env:List (Nat×XV))(dst:Option Tmp)(x:XV):List (Nat×XV):=match dst with
 | some d=>(d,x)::env.filter λp=>decide (p.1≠d)
 | none=>env
def qjh(S:St)(dst:Option Tmp)(r:qqa):St:=
 { nv:=S.nv+r.out.tys.length,env:=put S.env dst r.out.v,ty:=qa4 S.nv r.out.tys++S.ty,fs:=r.out.fs++S.fs,bx:=qud S r.ef }
def qu2(S:St)(r:qqa):Bool:=match r.ef with
 | .box _ _=>decide (r.out.tys.length=1)
 | .put n off vs=>(S.bx.all λb=>decide (b.n=n->off+vs.length<=b.cs.length)) && S.bx.any λb=>decide (b.n=n)
 | .no=>nr
theorem qja{α:Type}(d:Nat):∀(l:List (Nat×α)) (t:Nat),t≠d->look (l.filter λp=>decide (p.1≠d)) t=look l t
 | [],_,_=>rfl
 | (m,x)::r,t,h=>by
   rw[rr];by_cases hm:m=d
   .subst hm;simp only[ne_eq,not_true_eq_false,decide_false,Bool.false_eq_true,if_false];rw[qja _ r t h];simp[look,yr h]
   .simp only[ne_eq,hm,not_false_eq_true,decide_true,if_true,look];rw[qja _ r t h]
section
variable {P:ma}{cx:Cx}{W0:nu}{S:St}{base:Nat}{Z:yu}{T T':Nat->Prop}{w w':nu}{a:Act}{Ω:yu->Prop}
theorem qlo{dst:Option Tmp}{N:Nat}(h:qqz S Z a)(hv:v=x.den Z)(hN:a.tmps.size=N)(hd:∀d,dst=I d->d<N)(S':St)(hS:S'.env=put S.env dst x):qqz S' Z (a.put dst v):=by
 intro t y hy;rw[hS] at hy;cases dst with
 | none=>exact h t y hy
 | some d=>
   have hdN:=hd d rfl;simp only[put,look] at hy;show(a.tmps.setIfInBounds d v).getD t mc=_;split at hy
   .rename_i e;subst e;cases hy;rw[<-hv,au,bt,if_pos rfl,if_pos (by rw[hN];exact hdN)];rfl
   .rename_i e;rw[qja d _ t (yr e)] at hy;rw[au,bt,if_neg e,<-au];exact h t y hy
theorem qg9{b:qug}(hst:qyv cx.tb W0 T w T' w' base pu ex)(h:BoxOk T w base Z b)(hex:∀g,Z b.n=nj (I ⟨g,0,V⟩)->ex≠I g):BoxOk T' w' base Z b:=by
 obtain⟨g,cs,h1,h2,h3,h4,h5,h6⟩:=h
 have hlt:g<w.heap.size:=by
  rcases dw g w.heap.size with h|h
  .exact h
  .rw[dq h] at h4;cases h4
 refine⟨g,cs,h1,λhT=>?_,h3,by rw[hst.keep g hlt h2 (hex g h1)];exact h4,h5,h6⟩;rcases hst.new g hT with h|h
 .exact h2 h
 .omega
theorem qoz{r:qqa}(hs:xg cx.tb W0 S base Z T w)(hst:qyv cx.tb W0 T w T' w' base r.pu ex)(hn:uy cx.tb W0 S r.out base Z T' w' v)(he:EfOk r.ef base Z T w T' w' v ex)
  (hb:Blk Z S.nv r.out.tys.length (qzs v)) (hr:qu2 S r=nr) (dst:Option Tmp):xg cx.tb W0 (qjh S dst r) base Z T' w':=by
 obtain⟨hv,hty,hfs⟩:=hn hb;refine⟨hst.wt,hs.lo,cy hs.bs hst.size,λn ct hm=>?_,λf hf=>?_,λb hbm=>?_,?_⟩
 .rcases bo.1 hm with hm|hm
  .obtain⟨i,rfl,hi⟩:=qkl hm;exact hty i ct hi
  .exact(hs.ty n ct hm).mono hst.ext (af _)
 .rcases bo.1 hf with hf|hf
  .exact hfs f hf
  .exact hs.fs f hf
 .cases hef:r.ef with
  | no=>
    rw[hef] at he;simp only[qjh,hef,qud] at hbm;exact qg9 hst (hs.bx b hbm) (λg _ h=>by rw[show ex=V from he] at h;cases h)
  | box t cs=>
    rw[hef] at he;obtain⟨hex,g,hg1,hg2,hg3,hg4,hg5⟩:=he;simp only[qjh,hef,qud,cu] at hbm;rcases hbm with rfl|hbm
    .have h1:r.out.tys.length=1:=by
      unfold qu2 at hr;rw[hef] at hr;exact of_decide_eq_true hr
     have h0:=hb 0 kg;rw[hg1] at h0;refine⟨g,_,h0,hg2,hg3,hg5,by simp[qw],λi s hi=>?_⟩;simp only[dh] at hi;cases hq:cs[i]? with
     | none=>rw[hq] at hi;cases hi
     | some s'=>
       rw[hq] at hi;simp only[dv,bc] at hi;subst hi;simp[qw,hq]
    .exact qg9 hst (hs.bx b hbm) (λg _ h=>by rw[hex] at h;cases h)
  | put n off vs=>
    rw[hef] at he;obtain⟨g,cs,cs',t,hex,hg1,hg2,hg3,hg4,hg5,hg6⟩:=he;simp only[qjh,hef,qud,fi] at hbm;obtain⟨b0,hb0,rfl⟩:=hbm;split
    .rename_i hn0;obtain⟨g',cs0,a1,a2,a3,a4,a5,a6⟩:=hs.bx b0 hb0;rw[hn0,hg1] at a1;injection a1 with a1;injection a1 with a1;injection a1 with a1;subst a1;rw[hg2] at a4;injection a4 with a4;injection a4 with a4 a7;subst a4
     have hle:off+vs.length<=b0.cs.length:=by
      unfold qu2 at hr;rw[hef] at hr;simp only[ag] at hr;exact of_decide_eq_true (ao.1 hr.1 b0 hb0) hn0
     refine⟨g,cs',by show Z b0.n=_;rw[hn0];exact hg1,λhT=>?_,a3,by show w'.heap[g]? = _;rw[hg3,a7],by show cs'.size=(qfz b0.cs off vs).length;rw[qsp hle];omega,λi s hi=>?_⟩
     .rcases hst.new g hT with h|h
      .exact a2 h
      .have:g<w.heap.size:=by
        rcases dw g w.heap.size with h|h
        .exact h
        .rw[dq h] at hg2;cases hg2
       omega
     .have hi:(qfz b0.cs off vs)[i]? = I (I s):=hi;rw[qtk hle] at hi;rw[hg6 i];split at hi
      .rename_i hc;rw[if_pos hc];cases hq:vs[i-off]? with
       | none=>rw[hq] at hi;cases hi
       | some s'=>
         rw[hq] at hi;simp only[dv,bc] at hi;subst hi;simp[qw,hq]
      .rename_i hc;rw[if_neg hc];exact a6 i s hi
    .rename_i hn0;refine qg9 hst (hs.bx b0 hb0) (λg' hg' h=>?_);rw[hex] at h;injection h with h;subst h
     obtain⟨b1,hb1,hb2⟩:∃b1∈S.bx,b1.n=n:=by
      unfold qu2 at hr;rw[hef] at hr;simp only[ag] at hr;obtain⟨b1,hb1,hb2⟩:=gn.1 hr.2;exact⟨b1,hb1,of_decide_eq_true hb2⟩
     exact hs.ap b0 hb0 b1 hb1 (by rw[hb2];exact hn0) (by rw[hb2,hg',hg1])
 .cases hef:r.ef with
  | no=>
    simp only[qjh,hef,qud];exact hs.ap
  | box t cs=>
    rw[hef] at he;obtain⟨hex,g,hg1,hg2,hg3,hg4,hg5⟩:=he
    have h1:r.out.tys.length=1:=by
     unfold qu2 at hr;rw[hef] at hr;exact of_decide_eq_true hr
    have h0:Z S.nv=nj (I ⟨g,0,V⟩):=by
     have h0:=hb 0 kg;rw[hg1] at h0;exact h0
    have hold:∀b∈S.bx,Z b.n≠Z S.nv:=by
     intro b hbm e;obtain⟨g',cs0,a1,a2,a3,a4,-⟩:=hs.bx b hbm;rw[a1,h0] at e;injection e with e;injection e with e;injection e with e;subst e;rw[dq hg4] at a4;cases a4
    simp only[qjh,hef,qud,cu];rintro b (rfl|hbm) c (rfl|hcm) hne
    .exact absurd rfl hne
    .exact λe=>hold c hcm e.symm
    .exact hold b hbm
    .exact hs.ap b hbm c hcm hne
  | put n off vs=>
    simp only[qjh,hef,qud,fi];rintro b ⟨b0,hb0,rfl⟩ c ⟨c0,hc0,rfl⟩ hne;have e1:∀x:qug,(if x.n=n then { x with cs:=qfz x.cs off vs } else x).n=x.n:=λx=>by split<;>rfl
    rw[e1,e1] at hne ⊢;exact hs.ap b0 hb0 c0 hc0 hne
structure zg(T0:Nat->Prop)(w0:World)(PU:Lv)(T:Nat->Prop)(w:World):Prop where
 ext:xq T0 w0 T w
 new:∀b,T b->T0 b\/w0.heap.size<=b
 size:w0.heap.size<=w.heap.size
 os:w.os=w0.os
 tape:w.tape=w0.tape
 output:w.output=w0.output
 keep:∀b,b<w0.heap.size->(PU=.pure\/¬T0 b)->w.heap[b]? = w0.heap[b]?
 kpt:PU=.kp->∀b,b<w0.heap.size->T0 b->quz w0 w b
theorem zg.refl(T:Nat->Prop)(w:nu)(PU:Lv):zg T w PU T w:=⟨xq.refl T w,λ_ h=>.inl h,af _,rfl,rfl,rfl,λ_ _ _=>rfl,λ_ _ _ _=>.same rfl⟩
theorem zg.step{T0:Nat->Prop}{w0:nu}{PU:Lv}(h:zg T0 w0 PU T w)(hst:qyv cx.tb W0 T w T' w' w0.heap.size pu ex)(hp:PU.le pu=nr):zg T0 w0 PU T' w':=by
 refine⟨h.ext.trans hst.ext,λb hb=>?_,cy h.size hst.size,hst.os.trans h.os,hst.tape.trans h.tape,hst.output.trans h.output,λb hb hk=>?_,λhk b hb hT=>(h.kpt hk b hb hT).trans ?_⟩
 .rcases hst.new b hb with h1|h1
  .exact h.new b h1
  .exact .inr (cy h.size h1)
 .refine(hst.pure b hb ?_).trans (h.keep b hb hk);rcases hk with hk|hk
  .subst hk;refine .inl ?_;cases pu<;>first|rfl|cases hp
  .refine .inr (λhT=>?_);rcases h.new b hT with h1|h1
   .exact hk h1
   .omega
 .subst hk;cases pu with
  | no=>cases hp
  | kp=>exact hst.kpt rfl b hb (h.ext.sub b hT)
  | pure=>exact .same (hst.pure b hb (.inl rfl))
structure Mod(cx:Cx)(W0:World)(T0:Nat->Prop)(w0:World)(PU:Lv)(N:Nat)(S:St)(Z:yu)(T:Nat->Prop)(a:Act)(w:World):Prop where
 size:a.tmps.size=N
 defers:a.defers=[]
 hist:zg T0 w0 PU T w
 sat:∀Z':yu,(∀n,n<S.nv->Z' n=Z n)->xg cx.tb W0 S w0.heap.size Z' T w
 env:∀Z':yu,(∀n,n<S.nv->Z' n=Z n)->qqz S Z' a
def Nx(cx:Cx)(W0:nu)(T0:Nat->Prop)(w0:nu)(PU:Lv)(N:Nat)(S:St)(Z:yu)(T:Nat->Prop)(w:nu)(S':St)(a':Act)(w':nu):Prop:=
 ∃Z' T',(∀n,n<S.nv->Z' n=Z n)/\S.nv<=S'.nv/\xq T w T' w'/\Mod cx W0 T0 w0 PU N S' Z' T' a' w'
variable {T0:Nat->Prop}{w0:nu}{PU:Lv}{N:Nat}
theorem Nx.refl(h:Mod cx W0 T0 w0 PU N S Z T a w):Nx cx W0 T0 w0 PU N S Z T w S a w:=⟨Z,T,λ_ _=>rfl,af _,xq.refl T w,h⟩
theorem Nx.trans{S1 S2:St}{ρ1:yu}{T1:Nat->Prop}{w1 w2:nu}{a2:Act}(h0:∀n,n<S.nv->ρ1 n=Z n)(h1:S.nv<=S1.nv)(h2:xq T w T1 w1)(h:Nx cx W0 T0 w0 PU N S1 ρ1 T1 w1 S2 a2 w2):Nx cx W0 T0 w0 PU N S Z T w S2 a2 w2:=by
 obtain⟨Z',T',g1,g2,g3,g4⟩:=h;exact⟨Z',T',λn hn=>(g1 n kg).trans (h0 n hn),kg,h2.trans g3,g4⟩
theorem q5t{r:qqa}(hm:Mod cx W0 T0 w0 PU N S Z T a w)
  (hr:∀Ω T,qqu cx W0 S w0.heap.size Ω T w a->jc P cx W0 S w0.heap.size Ω T w a o r) (hok:qu2 S r=nr) (hd:∀d,o.dst=I d->d<N) (hp:PU.le r.pu=nr) :
  qx.qc P (λv w'=>Nx cx W0 T0 w0 PU N S Z T w (qjh S o.dst r) (a.put o.dst v) w') ((execOp a.eval o).run P w):=by
 refine qx.qc.mono (hr (λZ'=>∀n,n<S.nv->Z' n=Z n) T ⟨⟨Z,λ_ _=>rfl⟩,hm.sat,hm.env⟩) ?_;rintro v w' ⟨T',ex,hst,hpost⟩
 have qbw:∀Z':yu,(∀n,n<(qjh S o.dst r).nv->Z' n=(if n<S.nv then Z n else(qzs v).getD (n-S.nv) mc))->(∀n,n<S.nv->Z' n=Z n)/\Blk Z' S.nv r.out.tys.length (qzs v):=by
  intro Z' hρ';refine⟨λn hn=>?_,λi hi=>?_⟩
  .have:=hρ' n (by simp only[qjh];omega);rw[this];exact if_pos hn
  .have:=hρ' (S.nv+i) (by simp only[qjh];omega);rw[this,if_neg kg,dm]
 refine⟨λn=>if n<S.nv then Z n else(qzs v).getD (n-S.nv) mc,T',λn hn=>if_pos hn,by simp only[qjh];omega,hst.ext,?_⟩;refine⟨?_,?_,hm.hist.step hst hp,λZ' hρ'=>?_,λZ' hρ'=>?_⟩
 .cases o.dst<;>simp[ez,hm.size]
 .cases o.dst<;>simp[ez,hm.defers]
 .obtain⟨hΩ,hb⟩:=qbw Z' hρ';obtain⟨h1,h2⟩:=hpost Z' hΩ hb;exact qoz (hm.sat Z' hΩ) hst h1 h2 hb hok o.dst
 .obtain⟨hΩ,hb⟩:=qbw Z' hρ';obtain⟨h1,h2⟩:=hpost Z' hΩ hb;exact qlo (hm.env Z' hΩ) (h1 hb).1 hm.size hd _ rfl
theorem Mod.drew(h:Mod cx W0 T0 w0 PU N S Z T a w):Mod cx W0 T0 w0 PU N S Z T a { w with drawn:=w.drawn+1 }:=by
 have hcv:∀{ct:CT} {v:ny} {b:Nat},CV cx.tb W0 T w b ct v->CV cx.tb W0 T { w with drawn:=w.drawn+1 } b ct v:=λh=>h.mono ⟨λ_ h=>h,λ_ _ _ _ h=>h,λ_ _ _ _ _ _ h=>h,λ_ _ _ h=>h⟩ (af _)
 refine⟨h.size,h.defers,⟨⟨h.hist.ext.sub,h.hist.ext.row,h.hist.ext.fz,h.hist.ext.mp⟩,h.hist.new,h.hist.size,h.hist.os,h.hist.tape,h.hist.output,h.hist.keep,h.hist.kpt⟩,λZ' hρ'=>?_,h.env⟩;obtain⟨g1,g2,g3,g4,g5,g6,g7⟩:=h.sat Z' hρ';refine⟨⟨g1.size,g1.alien,g1.home,λb hb=>?_,g1.ix⟩,g2,g3,λn ct hm=>hcv (g4 n ct hm),g5,g6,g7⟩;obtain⟨cs,e,fr,l,q1,q2,q3,q4,q5⟩:=g1.typed b hb;exact⟨cs,e,fr,l,q1,q2,q3,q4,λi v hv=>by obtain⟨ct,k1,k2⟩:=q5 i v hv;exact⟨ct,k1,hcv k2⟩⟩
end
open Go.RowKit
def qzk(S:St)(d:Tmp)(b:BE)(β:Bool):St:={ S with env:=put S.env (I d) (.v (.one (.con (ni β)))),fs:=qq8 S.rng S.fs β b++S.fs }
def qzo(S:St):Bool:=S.ent (qf.k (-1)) || (S.fs.take 2).any (λf=>Sy.ent S.rng S.fs 3 ((f.sc (-1)).pl (-1)))
def drop(S:St)(dst:Option Tmp):St:=match dst with
 | some d=>{ S with env:=put S.env (I d) (.v (.one (.con mc))) }
 | none=>S
section
variable {P:ma}{cx:Cx}{W0:nu}{S:St}{base:Nat}{Z:yu}{T T':Nat->Prop}{w w':nu}{a:Act}{T0:Nat->Prop}{w0:nu}{PU:Lv}{N:Nat}
theorem qdi{s:SV}(hm:Mod cx W0 T0 w0 PU N S Z T a w)(hd:look S.env d=I (.v (.one s)))(hb:S.be s=I b)(hv:a.tmps.getD d mc=ni β):Mod cx W0 T0 w0 PU N (qzk S d b β) Z T a w:=by
 have hval:∀Z':yu,(∀n,n<S.nv->Z' n=Z n)->b.den Z'=β:=λZ' hρ'=>by
  have h1:=hm.env Z' hρ' d _ hd;have h2:=qq1 (hm.sat Z' hρ') hb;have h3:a.tmps.getD d mc=s.den Z':=h1;rw[hv,h2] at h3;injection h3 with h3;exact h3.symm
 refine⟨hm.size,hm.defers,hm.hist,λZ' hρ'=>?_,λZ' hρ'=>?_⟩
 .obtain⟨g1,g2,g3,g4,g5,g6,g7⟩:=hm.sat Z' hρ';refine⟨g1,g2,g3,g4,λf hf=>?_,g6,g7⟩;rcases bo.1 hf with hf|hf
  .exact qz6 _ Z' (hm.sat Z' hρ').rng _ g5 b β (hval Z' hρ') f hf
  .exact g5 f hf
 .intro t x hx;simp only[qzk,put,look] at hx;split at hx
  .rename_i e;subst e;cases hx;exact hv
  .rename_i e;rw[qja d _ t (yr e)] at hx;exact hm.env Z' hρ' t x hx
theorem qj0(hm:Mod cx W0 T0 w0 PU N S Z T a w)(h:qzo S=nr):False:=by
 have hs:=hm.sat Z (λ_ _=>rfl);rcases(cj _ _).mp h with h|h
 .have:=hs.ent h;rw[qf.ja] at this;omega
 .obtain⟨f,hf,h⟩:=gn.1 h;have h1:=qqn _ Z hs.rng _ hs.fs _ _ h;have h2:=hs.fs f (List.mem_of_mem_take hf);rw[qf.xh,qf.vg] at h1;omega
theorem qk7(hm:Mod cx W0 T0 w0 PU N S Z T a w)(dst:Option Tmp):Mod cx W0 T0 w0 PU N (drop S dst) Z T (a.put dst mc) w:=by
 cases dst with
 | none=>exact hm
 | some d=>
   refine⟨by simp[ez,hm.size],by simp[ez,hm.defers],hm.hist,λZ' hρ'=>?_,λZ' hρ' t x hx=>?_⟩
   .obtain⟨g1,g2,g3,g4,g5,g6,g7⟩:=hm.sat Z' hρ';exact⟨g1,g2,g3,g4,g5,g6,g7⟩
   .simp only[drop,put,look] at hx;show(a.tmps.setIfInBounds d mc).getD t mc=_;split at hx
    .rename_i e;subst e;cases hx;rw[au,bt,if_pos rfl];split<;>rfl
    .rename_i hne;rw[qja d _ t (yr hne)] at hx;rw[au,bt,if_neg hne,<-au];exact hm.env Z' hρ' t x hx
def qz1:=St->Oper->Option qqa
def qbb(P:ma)(cx:Cx)(W0:nu)(step:qz1):Prop:=∀S o r,step S o=I r->∀base Ω T w a,qqu cx W0 S base Ω T w a->jc P cx W0 S base Ω T w a o r
def fits(N:Nat)(dst:Option Tmp):Bool:=match dst with
 | some d=>decide (d<N)
 | none=>nr
def one(step:qz1)(N:Nat)(PU:Lv)(S:St)(o:Oper):Option St:=match step S o with
 | some r=>if qu2 S r && fits N o.dst && PU.le r.pu then I (qjh S o.dst r) else V
 | none=>V
theorem q2l{step:qz1}(ht:qbb P cx W0 step)(h:one step N PU S o=I S')(hm:Mod cx W0 T0 w0 PU N S Z T a w) :
  qx.qc P (λv w'=>Nx cx W0 T0 w0 PU N S Z T w S' (a.put o.dst v) w') ((execOp a.eval o).run P w):=by
 unfold one at h;split at h
 .rename_i r hr;split at h
  .rename_i hc;cases h;simp only[ag] at hc;refine q5t hm (λΩ T hH=>ht S o r hr _ Ω T w a hH) hc.1.1 (λd hd=>?_) hc.2;have:=hc.1.2;rw[hd] at this;exact of_decide_eq_true this
  .cases h
 .cases h
theorem q67{K:Act->nu->Prop}{Q:Exit->Act->nu->Prop}{r:Result Next}(h:qx.qc P (λv w'=>K (a.put o.dst v) w') r):o.upon P a K Q r:=by
 cases r with
 | ok nx w'=>
   cases nx<;>simp only[qx.qc] at h<;>simp only[Oper.upon]
   .exact h
   .exact h
   .exact h.mono λe w'' ⟨v,he,hR⟩=>by subst he;exact hR
 | halt x w'=>simp only[qx.qc] at h
def q6p:SV->Bool
 | .con (.bool _)=>ns
 | .con _=>nr
 | _=>ns
def qce(ops:Array Oper)(S:St)(j:Nat):Option (Tmp×Option BE):=match(ops[j]?).bind (·.dst) with
 | some d=>match look S.env d with
   | some (.v (.one s))=>if q6p s then I (d,V) else(S.be s).map λb=>(d,I b)
   | _=>V
 | none=>V
def both(x y:Option (List St)):Option (List St):=match x,y with
 | some l,I m=>I (l++m)
 | _,_=>V
def qyy(step:qz1)(N:Nat)(PU:Lv)(ops:Array Oper):List Oper->St->Option (List St)
 | [],S=>I [S]
 | o::rest,S=>match o.guard with
   | none=>match one step N PU S o with
     | some S'=>qyy step N PU ops rest S'
     | none=>V
   | some (j,want)=>match qce ops S j with
     | none=>V
     | some (d,V)=>if d<N then qyy step N PU ops rest (drop S o.dst) else V
     | some (d,I b)=>if d<N then match b with
       | .tt β=>if β=want then(match one step N PU S o with
         | some S'=>qyy step N PU ops rest S'
         | none=>V) else qyy step N PU ops rest (drop S o.dst)
       | b=>both (if qzo (qzk S d b want) then I [] else match one step N PU (qzk S d b want) o with
         | some S'=>qyy step N PU ops rest S'
         | none=>V) (if qzo (qzk S d b (!want)) then I [] else qyy step N PU ops rest (drop (qzk S d b (!want)) o.dst)) else V
theorem qmz(h:qce ops S j=I (d,I b))(hm:Mod cx W0 T0 w0 PU N S Z T a w)(hdN:d<N) :
  ∃s,look S.env d=I (.v (.one s))/\S.be s=I b/\a.tmps.getD d mc=ni (b.den Z)/\yielded ops a.tmps j=I (b.den Z):=by
 unfold qce at h;split at h
 .rename_i d' hd';split at h
  .rename_i s hs;split at h
   .cases h
   cases hq:S.be s with
   | none=>rw[hq] at h;cases h
   | some b'=>
     rw[hq] at h;have h:=oi h;injection h with h1 h2;injection h2 with h2;subst h1;subst h2;have hv:a.tmps.getD d' mc=ni (b'.den Z):=(hm.env Z (λ_ _=>rfl) d' _ hs).trans (qq1 (hm.sat Z (λ_ _=>rfl)) hq);refine⟨s,hs,hq,hv,?_⟩;unfold yielded;rw[hd'];simp only[ic];rw[au,ak (by rw[hm.size];exact hdN)] at hv;rw[ak (by rw[hm.size];exact hdN)];simp only[lj] at hv;rw[hv]
  .cases h
 .cases h
theorem qmk(h:qce ops S j=I (d,V))(hm:Mod cx W0 T0 w0 PU N S Z T a w)(hdN:d<N):yielded ops a.tmps j=V:=by
 unfold qce at h;split at h
 .rename_i d' hd';split at h
  .rename_i s hs;split at h
   .rename_i hnb;cases h;have hv:a.tmps.getD d mc=s.den Z:=hm.env Z (λ_ _=>rfl) d _ hs;unfold yielded;rw[hd'];simp only[ic];rw[au,ak (by rw[hm.size];exact hdN)] at hv;rw[ak (by rw[hm.size];exact hdN)];simp only[lj] at hv;rw[hv];cases s with
    | con v=>cases v<;>first|rfl|cases hnb
    | var n=>cases hnb
    | lin k l=>cases hnb
    | be b=>cases hnb
    | ptr n o=>cases hnb
   .cases hq:S.be s with
    | none=>rw[hq] at h;cases h
    | some b'=>rw[hq] at h;cases h
  .cases h
 .cases h
theorem qvw{step:qz1}(ht:qbb P cx W0 step){ops:Array Oper}{Q:Exit->Act->nu->Prop}:∀(l:List Oper) {S:St} {Z:yu} {T:Nat->Prop} {a:Act} {w:nu} {outs:List St},qyy step N PU ops l S=I outs->Mod cx W0 T0 w0 PU N S Z T a w ->
  (∀S' a' w',S'∈outs->Nx cx W0 T0 w0 PU N S Z T w S' a' w'->Q .normal a' w')->wpList P ops Q l a w
 | [],S,Z,T,a,w,outs,h,hm,hQ=>by
   cases h;exact hQ S a w kq (Nx.refl hm)
 | o::rest,S,Z,T,a,w,outs,h,hm,hQ=>by
   unfold qyy at h;unfold wpList
   have hgo:∀{S1:St} {outs1:List St},(∀S',S'∈outs1->S'∈outs)->Mod cx W0 T0 w0 PU N S1 Z T a w->S1.nv=S.nv->∀{S2:St},one step N PU S1 o=I S2->qyy step N PU ops rest S2=I outs1->o.wp P a w (wpList P ops Q rest) Q:=by
    intro S1 outs1 hsub hm1 hnv S2 h1 h2;unfold Oper.wp;refine q67 (qx.qc.mono (q2l ht h1 hm1) ?_);rintro v w' ⟨Z',T',g1,g2,g3,g4⟩;exact qvw ht rest h2 g4 (λS' a' w'' hS hn=>hQ S' a' w'' (hsub S' hS) (Nx.trans (λn hn=>g1 n kg) kg g3 hn))
   split at h
   .rename_i hg;rw[if_pos (by simp[ee,hg])];left;split at h
    .rename_i S2 h1;exact hgo (λ_ h=>h) hm rfl h1 h
    .cases h
   .rename_i j want hg;split at h
    .cases h
    .rename_i d hgd;split at h
     .rename_i hdN;have hy:=qmk hgd hm hdN;rw[if_neg (by simp only[ee,hg,hy];simp)]
      exact qvw ht rest h (qk7 hm o.dst) (λS' a' w' hS hn=>hQ S' a' w' hS (by
       obtain⟨Z',T',g1,g2,g3,g4⟩:=hn;have hnv:(drop S o.dst).nv=S.nv:=by cases o.dst<;>rfl
       exact⟨Z',T',λn hn=>g1 n kg,kg,g3,g4⟩))
     .cases h
    .rename_i d b hgd;split at h
     .rename_i hdN;obtain⟨s,hs1,hs2,hv,hy⟩:=qmz hgd hm hdN
      have hwant:ee o (yielded ops a.tmps)=(b.den Z == want):=by
       simp only[ee,hg,hy];cases b.den Z<;>cases want<;>rfl
      split at h
      .rename_i β;split at h
       .rename_i hβ;rw[if_pos (by rw[hwant];simp[BE.den,hβ])];left;split at h
        .rename_i S2 h1;exact hgo (λ_ h=>h) hm rfl h1 h
        .cases h
       .rename_i hβ;rw[if_neg (by rw[hwant];simp[BE.den,hβ])]
        exact qvw ht rest h (qk7 hm o.dst) (λS' a' w' hS hn=>hQ S' a' w' hS (by
         obtain⟨Z',T',g1,g2,g3,g4⟩:=hn;have hnv:(drop S o.dst).nv=S.nv:=by cases o.dst<;>rfl
         exact⟨Z',T',λn hn=>g1 n kg,kg,g3,g4⟩))
      .unfold both at h;split at h
       .rename_i l1 l2 hl1 hl2;cases h;have qxf:=qdi (β:=b.den Z) hm hs1 hs2 hv;by_cases hb:b.den Z=want
        .rw[if_pos (by rw[hwant];simp[hb])];left;rw[hb] at qxf;split at hl1
         .rename_i qvk;exact(qj0 qxf qvk).elim
         .split at hl1
          .rename_i S2 h1;exact hgo (λS' hS=>by simp[hS]) qxf rfl h1 hl1
          .cases hl1
        .rw[if_neg (by rw[hwant];simp[hb])];have hb':b.den Z=!want:=by cases h1:b.den Z<;>cases want<;>simp_all
         rw[hb'] at qxf;split at hl2
         .rename_i qvk;exact(qj0 qxf qvk).elim
         .exact qvw ht rest hl2 (qk7 qxf o.dst) (λS' a' w' hS hn=>hQ S' a' w' (by simp[hS]) (by
           obtain⟨Z',T',g1,g2,g3,g4⟩:=hn;have hnv:(drop (qzk S d b (!want)) o.dst).nv=S.nv:=by cases o.dst<;>rfl
           exact⟨Z',T',λn hn=>g1 n kg,kg,g3,g4⟩))
       .cases h
     .cases h
end
open Go.RowKit
def eqV:ny->ny->Bool
 | .int k n,.int k' n'=>decide (k=k'/\n=n')
 | .bool b,.bool c=>decide (b=c)
 | .string s,.string t=>decide (s.data.toList=t.data.toList)
 | .slice V 0 0,.slice V 0 0=>nr
 | .pointer V,.pointer none=>nr
 | .nilFunc,.nilFunc=>nr
 | .nilIface,.nilIface=>nr
 | .tuple x,.tuple y=>decide (x.size=0/\y.size=0)
 | .func (.func f) x y,.func (.func g) u v=>decide (f=g/\x.size=0/\y.size=0/\u.size=0/\v.size=0)
 | _,_=>ns
theorem q1p{x y:ny}(h:eqV x y=nr):x=y:=by
 unfold eqV at h;split at h
 .obtain⟨rfl,rfl⟩:=of_decide_eq_true h;rfl
 .rw[of_decide_eq_true h]
 .rename_i s t;have:=of_decide_eq_true h;obtain⟨s⟩:=s;obtain⟨t⟩:=t;have:s=t:=gq.1 this;rw[this]
 .rfl
 .rfl
 .rfl
 .rfl
 .obtain⟨h1,h2⟩:=of_decide_eq_true h;rw[ec h1,ec h2]
 .obtain⟨rfl,h1,h2,h3,h4⟩:=of_decide_eq_true h;rw[ec h1,ec h2,ec h3,ec h4]
 .cases h
def qrt(a b:qf):Bool:=decide (a.c=b.c/\a.ts=b.ts)
theorem qca{a b:qf}(h:qrt a b=nr):a=b:=by
 obtain⟨h1,h2⟩:=of_decide_eq_true h;cases a;cases b;simp_all
def qid:BE->BE->Bool
 | .tt a,.tt b=>decide (a=b)
 | .ge a,.ge b=>qrt a b
 | .eq a,.eq b=>qrt a b
 | .var a,.var b=>decide (a=b)
 | .not a,.not b=>qid a b
 | .and a b,.and c d=>qid a c && qid b d
 | .or a b,.or c d=>qid a c && qid b d
 | _,_=>ns
theorem qcz:∀{a b:BE},qid a b=nr->a=b
 | .tt a,.tt b,h=>by rw[of_decide_eq_true h]
 | .ge a,.ge b,h=>by rw[qca h]
 | .eq a,.eq b,h=>by rw[qca h]
 | .var a,.var b,h=>by rw[of_decide_eq_true h]
 | .not a,.not b,h=>by rw[qcz (a:=a) (b:=b) h]
 | .and a b,.and c d,h=>by
   simp only[qid,ag] at h;rw[qcz h.1,qcz h.2]
 | .or a b,.or c d,h=>by
   simp only[qid,ag] at h;rw[qcz h.1,qcz h.2]
 | .tt _,.ge _,h|.tt _,.eq _,h|.tt _,.var _,h|.tt _,.not _,h|.tt _,.and _ _,h|.tt _,.or _ _,h=>by cases h
 | .ge _,.tt _,h|.ge _,.eq _,h|.ge _,.var _,h|.ge _,.not _,h|.ge _,.and _ _,h|.ge _,.or _ _,h=>by cases h
 | .eq _,.ge _,h|.eq _,.tt _,h|.eq _,.var _,h|.eq _,.not _,h|.eq _,.and _ _,h|.eq _,.or _ _,h=>by cases h
 | .var _,.ge _,h|.var _,.eq _,h|.var _,.tt _,h|.var _,.not _,h|.var _,.and _ _,h|.var _,.or _ _,h=>by cases h
 | .not _,.ge _,h|.not _,.eq _,h|.not _,.var _,h|.not _,.tt _,h|.not _,.and _ _,h|.not _,.or _ _,h=>by cases h
 | .and _ _,.ge _,h|.and _ _,.eq _,h|.and _ _,.var _,h|.and _ _,.not _,h|.and _ _,.tt _,h|.and _ _,.or _ _,h=>by cases h
 | .or _ _,.ge _,h|.or _ _,.eq _,h|.or _ _,.var _,h|.or _ _,.not _,h|.or _ _,.and _ _,h|.or _ _,.tt _,h=>by cases h
def q33:SV->SV->Bool
 | .con a,.con b=>eqV a b
 | .var a,.var b=>decide (a=b)
 | .lin k a,.lin l b=>decide (k=l) && qrt a b
 | .be a,.be b=>qid a b
 | .ptr a b,.ptr c d=>decide (a=c/\b=d)
 | _,_=>ns
theorem qrz{a b:SV}(h:q33 a b=nr):a=b:=by
 unfold q33 at h;split at h
 .rw[q1p h]
 .rw[of_decide_eq_true h]
 .simp only[ag,decide_eq_true_eq] at h;rw[h.1,qca h.2]
 .rw[qcz h]
 .obtain⟨rfl,rfl⟩:=of_decide_eq_true h;rfl
 .cases h
def qi7:List SV->List SV->Bool
 | [],[]=>nr
 | a::r,b::s=>q33 a b && qi7 r s
 | _,_=>ns
theorem qfk:∀{a b:List SV},qi7 a b=nr->a=b
 | [],[],_=>rfl
 | a::r,b::s,h=>by
   simp only[qi7,ag] at h;rw[qrz h.1,qfk h.2]
 | [],_::_,h=>by cases h
 | _::_,[],h=>by cases h
def eqT:TV->TV->Bool
 | .one a,.one b=>q33 a b
 | .agg a,.agg b=>qi7 a b
 | _,_=>ns
theorem q2v{a b:TV}(h:eqT a b=nr):a=b:=by
 unfold eqT at h;split at h
 .rw[qrz h]
 .rw[qfk h]
 .cases h
def eqTs:List TV->List TV->Bool
 | [],[]=>nr
 | a::r,b::s=>eqT a b && eqTs r s
 | _,_=>ns
theorem qtc:∀{a b:List TV},eqTs a b=nr->a=b
 | [],[],_=>rfl
 | a::r,b::s,h=>by
   simp only[eqTs,ag] at h;rw[q2v h.1,qtc h.2]
 | [],_::_,h=>by cases h
 | _::_,[],h=>by cases h
def eqX:XV->XV->Bool
 | .v a,.v b=>eqT a b
 | .tup a,.tup b=>eqTs a b
 | _,_=>ns
theorem q3u{a b:XV}(h:eqX a b=nr):a=b:=by
 unfold eqX at h;split at h
 .rw[q2v h]
 .rw[qtc h]
 .cases h
structure qb6 where
 sl:List (Nat×CT)
 bx:List (Nat×Nat×CT)
 inv:List qf
 ms:qf
def qk1(a:Act)(l:qf):Int:=l.c+jk (λt=>a.tmps.getD t mc) l.ts
def qcp(S:St):List (Int×Nat)->Option qf
 | []=>I (qf.k 0)
 | (c,t)::r=>match look S.env t,qcp S r with
   | some (.v (.one s)),I m=>s.meas.map λq=>(q.sc c).add m
   | _,_=>V
def qh2(S:St)(l:qf):Option qf:=(qcp S l.ts).map λm=>m.pl l.c
section
variable {P:ma}{cx:Cx}{W0:nu}{S:St}{base:Nat}{Z:yu}{T T':Nat->Prop}{w w':nu}{a:Act}{T0:Nat->Prop}{w0:nu}{PU:Lv}{N:Nat}
theorem qnl(h:qqz S Z a):∀{l:List (Int×Nat)} {m:qf},qcp S l=I m->m.eval Z=jk (λt=>a.tmps.getD t mc) l
 | [],m,hm=>by cases hm;rw[qf.ja];rfl
 | (c,t)::r,m,hm=>by
   unfold qcp at hm;split at hm
   .rename_i s m' h1 h2;obtain⟨q,hq,rfl⟩:=ea.1 hm;rw[qf.add_eval,qf.vg,SV.qv2 _ hq,qnl h h2];have h3:a.tmps.getD t mc=s.den Z:=h t _ h1;simp only[jk];rw[h3]
   .cases hm
theorem qg6(h:qqz S Z a){l m:qf}(hm:qh2 S l=I m):m.eval Z=qk1 a l:=by
 unfold qh2 at hm;cases hq:qcp S l.ts with
 | none=>rw[hq] at hm;cases hm
 | some m'=>
   rw[hq] at hm;have hm:=oi hm;subst hm;rw[qf.xh,qnl h hq];unfold qk1;omega
def ghost:Nat:=1000000
def nowL(l:qf):qf:=⟨l.c,l.ts.filter λp=>decide (p.2<ghost)⟩
def oldT(l:qf):List (Int×Nat):=(l.ts.filter λp=>!decide (p.2<ghost)).map λp=>(p.1,p.2-ghost)
def qm4(S X:St)(l:qf):Option qf:=match qcp S (oldT l),qh2 X (nowL l) with
 | some g,I m=>if g.ts.all (λp=>decide (p.2<S.nv)) then I (m.add g) else V
 | _,_=>V
def evI(S:St)(Z:yu)(a:Act)(l:qf):Int:=qk1 a (nowL l)+match qcp S (oldT l) with
 | some g=>g.eval Z
 | none=>0
theorem qej{l:qf}{Z Z':yu}(hl:l.ts.all (λp=>decide (p.2<nv))=nr)(h:∀n,n<nv->Z' n=Z n):l.eval Z'=l.eval Z:=by
 have:∀ts:List (Int×Nat),ts.all (λp=>decide (p.2<nv))=nr->jk Z' ts=jk Z ts:=by
  intro ts
  induction ts with
  | nil=>intro _;rfl
  | cons p r ih=>
    intro hp;obtain⟨a,x⟩:=p;simp only[og,ag,decide_eq_true_eq] at hp;simp only[jk,h x hp.1,ih hp.2]
 unfold qf.eval;rw[this _ hl]
theorem qo6{X:St}{Z':yu}(h:qqz X Z' a')(hag:∀n,n<S.nv->Z' n=Z n){l m:qf}(hm:qm4 S X l=I m):m.eval Z'=evI S Z a' l:=by
 unfold qm4 at hm;split at hm
 .rename_i g m' h1 h2;split at hm
  .rename_i hg;cases hm;rw[qf.add_eval,qg6 h h2,qej hg hag];unfold evI;rw[h1]
  .cases hm
 .cases hm
def Code.qua:Code->List Tmp
 | .region _ ops _=>ops.toList.filterMap (·.dst)
 | .seq a b=>Code.qua a++Code.qua b
 | .cond _ a b=>Code.qua a++Code.qua b
 | .block _ c=>Code.qua c
 | .loop c=>Code.qua c
 | .scope c=>Code.qua c
 | .rangeFunc _ ps a b=>ps.toList++Code.qua a++Code.qua b
 | _=>[]
def qb7(env:List (Nat×XV))(gone:List Nat):List (Nat×XV):=env.filter λp=>!gone.contains p.1
def qcj(nv:Nat):List (Nat×CT)->List (Nat×XV)
 | []=>[]
 | (t,_)::r=>(t,.v (.one (.var nv)))::qcj (nv+1) r
def qaz(S:St)(t:Nat):Option Nat:=match look S.env t with
 | some (.v (.one s))=>(S.ptr s).map (·.1)
 | _=>V
def setCell(n i:Nat)(v:Nat)(b:qug):qug:=if b.n=n then { b with cs:=b.cs.set i (I (.var v)) } else b
def qix(S:St)(nv:Nat):List (Nat×Nat×CT)->List qug->Option (List qug)
 | [],l=>I l
 | (t,i,_)::r,l=>match qaz S t with
   | some n=>qix S (nv+1) r (l.map (setCell n i nv))
   | none=>V
def qc0(h:qb6):List CT:=h.sl.map (·.2)++h.bx.map (·.2.2)
def qox(S:St)(h:qb6)(gone:List Nat):Option St:=match qix S (S.nv+h.sl.length) h.bx S.bx with
 | some bx=>
   let S1:St:={ nv:=S.nv+(qc0 h).length,env:=qcj S.nv h.sl++qb7 S.env (gone++h.sl.map (·.1)),ty:=qa4 S.nv (qc0 h)++S.ty,fs:=S.fs,bx:=bx }
   match h.inv.mapM (qm4 S S1) with
   | some l=>I { S1 with fs:=l++S.fs }
   | none=>V
 | none=>V
end
open Go.RowKit
def ann(S:St)(bxs:List (Nat×Nat×CT))(n i:Nat):Bool:=bxs.any λe=>decide (qaz S e.1=I n/\e.2.1=i)
theorem qvc{S:St}:∀(bxs:List (Nat×Nat×CT)) (nv:Nat) (l r:List qug),qix S nv bxs l=I r ->
  ∀b∈r,∃b0∈l,b.n=b0.n/\b.t=b0.t/\b.cs.length=b0.cs.length/\∀i x,b.cs[i]? = I x ->
   (∃k e,bxs[k]? = I e/\qaz S e.1=I b.n/\e.2.1=i/\x=I (.var (nv+k)))\/(ann S bxs b.n i=ns/\b0.cs[i]? = I x)
 | [],nv,l,r,h,b,hb=>by
   cases h;exact⟨b,hb,rfl,rfl,rfl,λi x hx=>.inr ⟨rfl,hx⟩⟩
 | (t,i0,ct)::bxs,nv,l,r,h,b,hb=>by
   unfold qix at h;split at h
   .rename_i n hn;obtain⟨b1,hb1,h1,h2,h3,h4⟩:=qvc bxs (nv+1) _ r h b hb;obtain⟨b0,hb0,rfl⟩:=fi.1 hb1;have e1:(setCell n i0 nv b0).n=b0.n:=by unfold setCell;split<;>rfl
    have e2:(setCell n i0 nv b0).t=b0.t:=by unfold setCell;split<;>rfl
    have e3:(setCell n i0 nv b0).cs.length=b0.cs.length:=by unfold setCell;split<;>simp
    refine⟨b0,hb0,h1.trans e1,h2.trans e2,h3.trans e3,λi x hx=>?_⟩;rcases h4 i x hx with⟨k,e,g1,g2,g3,g4⟩|⟨g1,g2⟩
    .exact .inl ⟨k+1,e,g1,g2,g3,by rw[g4];congr 2;omega⟩
    .by_cases hni:b0.n=n/\i0=i
     .obtain⟨rfl,rfl⟩:=hni;refine .inl ⟨0,(t,i0,ct),rfl,by rw[h1,e1];exact hn,rfl,?_⟩;unfold setCell at g2;rw[if_pos rfl] at g2;simp only[aap,if_true] at g2;split at g2
      .exact(oi g2).symm
      .cases g2
     .refine .inr ⟨?_,?_⟩
      .simp only[ann,List.any_cons,Bool.or_eq_false_iff,decide_eq_false_iff_not];refine⟨λhc=>hni ⟨?_,hc.2⟩,g1⟩;have:=hc.1;rw[hn] at this;rw[h1,e1] at this;exact(oi this).symm
      .unfold setCell at g2;split at g2
       .rename_i hn0;simp only[aap] at g2;rw[if_neg (λe=>hni ⟨hn0,e⟩)] at g2;exact g2
       .exact g2
   .cases h
def qfv(S:St)(bxs:List (Nat×Nat×CT))(n:Nat):Nat->List (Option SV)->List (Option SV)->Bool
 | _,[],[]=>nr
 | i,x::r,y::s=>(ann S bxs n i || match x,y with
   | none,_=>nr
   | some a,I b=>q33 a b
   | _,_=>ns) && qfv S bxs n (i+1) r s
 | _,_,_=>ns
theorem qh7{S:St}{bxs:List (Nat×Nat×CT)}{n:Nat}:∀{l m:List (Option SV)} {i0:Nat},qfv S bxs n i0 l m=nr->∀i s,l[i]? = I (I s)->ann S bxs n (i0+i)=ns->m[i]? = I (I s)
 | [],[],i0,h,i,s,hs,ha=>by simp at hs
 | x::r,y::t,i0,h,i,s,hs,ha=>by
   simp only[qfv,ag] at h;cases i with
   | zero=>
     simp only[db,bc] at hs ⊢;subst hs;rw[Nat.add_zero] at ha;have h1:=h.1;rw[ha] at h1;simp only[acd] at h1;split at h1
     .rename_i e;cases e
     .rename_i a b e;cases e;rw[qrz h1]
     .cases h1
   | succ i=>
     simp only[fq] at hs ⊢;exact qh7 h.2 i s hs (by rw[show i0+1+i=i0+(i+1) by omega];exact ha)
 | [],_::_,_,h,_,_,_,_=>by cases h
 | _::_,[],_,h,_,_,_,_=>by cases h
def slOk(S':St)(tb:yg)(e:Nat×CT):Bool:=match look S'.env e.1 with
 | some (.v (.one s))=>S'.has tb s e.2
 | _=>ns
def bxOk(S S':St)(tb:yg)(e:Nat×Nat×CT):Bool:=match qaz S e.1 with
 | some n=>decide (n<S.nv) && match qu1 S' n with
   | some b=>match b.cs[e.2.1]? with
     | some (I s)=>S'.has tb s e.2.2
     | _=>ns
   | none=>ns
 | none=>ns
def qs8(S S':St)(bxs:List (Nat×Nat×CT))(b:qug):Bool:=decide (b.n<S.nv) && match qu1 S b.n,qu1 S' b.n with
 | some b0,I b'=>decide (b'.t=b.t/\b'.cs.length=b.cs.length) && qfv S bxs b.n 0 b.cs b'.cs
 | _,_=>ns
def qst(S':St)(p:Nat×XV):Bool:=match look S'.env p.1 with
 | some y=>eqX p.2 y
 | none=>ns
def invOk(S S':St)(l:qf):Bool:=match qm4 S S' l with
 | some m=>S'.ent m
 | none=>ns
def leq(tb:yg)(S S':St)(h:qb6)(gone:List Nat)(Sh:St):Bool:=
 h.sl.all (slOk S' tb) && h.bx.all (bxOk S S' tb) && Sh.bx.all (qs8 S S' h.bx) && (qb7 S.env (gone++h.sl.map (·.1))).all (qst S') && h.inv.all (invOk S S')
theorem mapM_ok{α β:Type}{f:α->Option β}:∀{l:List α} {m:List β},l.mapM f=I m->∀y∈m,∃x∈l,f x=I y
 | [],m,h,y,hy=>by
   simp only[List.mapM_nil] at h;cases h;cases hy
 | x::r,m,h,y,hy=>by
   rw[tl] at h;cases hq:f x with
   | none=>rw[hq] at h;cases h
   | some z=>
     rw[hq] at h;cases hq2:r.mapM f with
     | none=>rw[hq2] at h;cases h
     | some m'=>
       rw[hq2] at h;have h:=oi h;subst h;rcases cu.1 hy with rfl|hy
       .exact⟨x,kq,hq⟩
       .obtain⟨x',h1,h2⟩:=mapM_ok hq2 y hy;exact⟨x',by simp[h1],h2⟩
theorem qb3{α:Type}:∀(l m:List (Nat×α)) (t:Nat),look (l++m) t=match look l t with|some x=>I x|none=>look m t
 | [],m,t=>rfl
 | (k,x)::r,m,t=>by
   simp only[List.cons_append,look];split
   .rfl
   .exact qb3 r m t
theorem qen:∀(l:List (Nat×CT)) (nv t:Nat) (x:XV),look (qcj nv l) t=I x->∃j ct,l[j]? = I (t,ct)/\x=.v (.one (.var (nv+j)))
 | [],nv,t,x,h=>by cases h
 | (t',ct)::r,nv,t,x,h=>by
   simp only[qcj,look] at h;split at h
   .rename_i e;subst e;cases h;exact⟨0,ct,rfl,rfl⟩
   .obtain⟨j,ct',h1,h2⟩:=qen r (nv+1) t x h;exact⟨j+1,ct',h1,by rw[h2,show nv+1+j=nv+(j+1) by omega]⟩
section
variable {P:ma}{cx:Cx}{W0:nu}{S:St}{base:Nat}{Z:yu}{T T':Nat->Prop}{w w':nu}{a:Act}{T0:Nat->Prop}{w0:nu}{PU:Lv}{N:Nat}
theorem q0m{Sh:St}{h:qb6}{gone:List Nat}{Z':yu}(hh:qox S h gone=I Sh)(hl:leq cx.tb S S' h gone Sh=nr)
  (hm:Mod cx W0 T0 w0 PU N S Z T a w) (hm':Mod cx W0 T0 w0 PU N S' Z' T' a' w') (hρ:∀n,n<S.nv->Z' n=Z n) (hx:xq T w T' w') :
  ∃ρh,(∀n,n<S.nv->ρh n=Z n)/\S.nv<=Sh.nv/\Mod cx W0 T0 w0 PU N Sh ρh T' a' w'/\∀l∈h.inv,0<=evI S Z a' l:=by
 unfold qox at hh;split at hh
 .rename_i bx hbx;simp only at hh;split at hh
  .rename_i invs hinv;cases hh;simp only[leq,ag] at hl;obtain⟨⟨⟨⟨l1,l2⟩,l3⟩,l4⟩,l5⟩:=hl;have hs':=hm'.sat Z' (λ_ _=>rfl);have he':=hm'.env Z' (λ_ _=>rfl)
   let slv:Nat->ny:=λj=>match h.sl[j]? with
    | some e=>a'.tmps.getD e.1 mc
    | none=>mc
   let bxv:Nat->ny:=λk=>match h.bx[k]? with
    | some e=>match qaz S e.1 with
      | some n=>(w'.cell? ⟨(qqx (Z n)).block,e.2.1,V⟩).getD mc
      | none=>mc
    | none=>mc
   let ρh:yu:=λn=>if n<S.nv then Z n else if n<S.nv+h.sl.length then slv (n-S.nv) else bxv (n-(S.nv+h.sl.length))
   have hinvs:∀l∈h.inv,0<=evI S Z a' l:=λl hlm=>by
    have:=ao.1 l5 l hlm;unfold invOk at this;split at this
    .rename_i m hmm;rw[<-qo6 he' hρ hmm];exact hs'.ent this
    .cases this
   refine⟨ρh,λn hn=>if_pos hn,by simp only;omega,?_,hinvs⟩
   have hbase:∀ρ3:yu,(∀n,n<S.nv+(qc0 h).length->ρ3 n=ρh n)->(∀n,n<S.nv->ρ3 n=Z n)/\(∀j e,h.sl[j]? = I e->ρ3 (S.nv+j)=a'.tmps.getD e.1 mc)/\(∀k e n,h.bx[k]? = I e->qaz S e.1=I n->ρ3 (S.nv+h.sl.length+k)=(w'.cell? ⟨(qqx (Z n)).block,e.2.1,V⟩).getD mc):=by
    intro ρ3 h3;have hlen:(qc0 h).length=h.sl.length+h.bx.length:=by simp[qc0]
    refine⟨λn hn=>?_,λj e he=>?_,λk e n he hn=>?_⟩
    .rw[h3 n kg];exact if_pos hn
    .have hj:j<h.sl.length:=(al.1 he).1;rw[h3 _ kg];show(if S.nv+j<S.nv then _ else if S.nv+j<S.nv+h.sl.length then slv (S.nv+j-S.nv) else _)=_;rw[if_neg kg,if_pos kg,dm];simp only[slv,he]
    .have hk:k<h.bx.length:=(al.1 he).1;rw[h3 _ kg];show(if S.nv+h.sl.length+k<S.nv then _ else if S.nv+h.sl.length+k<S.nv+h.sl.length then _ else bxv (S.nv+h.sl.length+k-(S.nv+h.sl.length)))=_;rw[if_neg kg,if_neg kg,dm];simp only[bxv,he,hn]
   have henv:∀(ρ3:yu) (S1:St),S1.env=qcj S.nv h.sl++qb7 S.env (gone++h.sl.map (·.1))->(∀n,n<S.nv+(qc0 h).length->ρ3 n=ρh n)->qqz S1 ρ3 a':=by
    intro ρ3 S1 hS1 h3 t x hx;obtain⟨b1,b2,b3⟩:=hbase ρ3 h3;rw[hS1,qb3] at hx;split at hx
    .rename_i y hy;cases hx;obtain⟨j,ct,g1,rfl⟩:=qen _ _ _ _ hy;exact(b2 j _ g1).symm
    .have hmem:=ji hx;have:=ao.1 l4 _ hmem;unfold qst at this;split at this
     .rename_i y hy;have:=q3u this;simp only at this hy;subst this
      have q2f:look S.env t=I x:=by
       have hk:∀(l:List (Nat×XV)) (g:List Nat),look (qb7 l g) t=I x->look l t=I x:=by
        intro l g
        induction l with
        | nil=>exact λh=>h
        | cons p r ih=>
          intro hp;obtain⟨k,z⟩:=p;unfold qb7 at hp ih;rw[rr] at hp;split at hp
          .simp only[look] at hp ⊢;split at hp
           .rename_i e;rw[if_pos e];exact hp
           .rename_i e;rw[if_neg e];exact ih hp
          .rename_i hnot;have ihp:=ih hp;simp only[look];split
           .rename_i e;subst e;exfalso;have hm:=ji hp;have:=(ot.1 hm).2;exact hnot this
           .exact ihp
       exact hk _ _ hx
      have e1:=hm.env ρ3 b1 t x q2f;have e2:=hm.env Z' hρ t x q2f;have e3:=he' t x hy;rw[e3,<-e2,e1]
     .cases this
   refine⟨hm'.size,hm'.defers,hm'.hist,λρ3 h3=>?_,λρ3 h3=>henv ρ3 _ rfl h3⟩;obtain⟨b1,b2,b3⟩:=hbase ρ3 h3;have hs3:=hm.sat ρ3 b1;refine⟨hs'.wt,hs'.lo,hs'.bs,λn ct hmem=>?_,λf hf=>?_,λb hb=>?_,λb hb c hc hne=>?_⟩
   .rcases bo.1 hmem with hmem|hmem
    .obtain⟨i,rfl,hi⟩:=qkl hmem;simp only[qc0] at hi;by_cases hil:i<h.sl.length
     .rw[cd (by simpa using hil),dh] at hi;cases hq:h.sl[i]? with
      | none=>rw[hq] at hi;cases hi
      | some e=>
        rw[hq] at hi;cases hi;rw[b2 i e hq];have:=ao.1 l1 e (cm hq);unfold slOk at this;split at this
        .rename_i s hs;have e1:a'.tmps.getD e.1 mc=s.den Z':=he' e.1 _ hs;rw[e1];exact qx0 hs' this
        .cases this
     .rw[bq (by simpa using abc hil),iu,dh] at hi;cases hq:h.bx[i-h.sl.length]? with
      | none=>rw[hq] at hi;cases hi
      | some e=>
        rw[hq] at hi;cases hi;have:=ao.1 l2 e (cm hq);unfold bxOk at this;split at this
        .rename_i n hn;simp only[ag,decide_eq_true_eq] at this;obtain⟨hnlt,this⟩:=this;split at this
         .rename_i b hb;split at this
          .rename_i s hs;have hval:=b3 (i-h.sl.length) e n hq hn;rw[show S.nv+h.sl.length+(i-h.sl.length)=S.nv+i by omega] at hval;rw[hval];obtain⟨hbm,hbn⟩:=qam hb;obtain⟨g,cs,c1,c2,c3,c4,c5,c6⟩:=hs'.bx b hbm;have hcell:=c6 _ s hs;have hρn:Z' n=Z n:=hρ n hnlt;rw[hbn] at c1;rw[<-hρn,c1];simp only[qqx];rw[cell_of_row w' g _ cs b.t (0,0) c4,hcell];exact qx0 hs' this
          .cases this
         .cases this
        .cases this
    .exact(hs3.ty n ct hmem).mono hx (af _)
   .rcases bo.1 hf with hf|hf
    .obtain⟨l,hlm,hl2⟩:=mapM_ok hinv f hf;rw[qo6 (henv ρ3 _ rfl h3) (hbase ρ3 h3).1 hl2];exact hinvs l hlm
    .exact hs3.fs f hf
   .obtain⟨b0,hb0,e1,e2,e3,e4⟩:=qvc _ _ _ _ hbx b hb;have hsame:=ao.1 l3 b hb;simp only[qs8,ag,decide_eq_true_eq] at hsame;obtain⟨hlt,hsame⟩:=hsame;split at hsame
    .rename_i b00 b' hbo hbo';simp only[ag,decide_eq_true_eq] at hsame;obtain⟨⟨ht,hlen⟩,hcells⟩:=hsame;obtain⟨hbm',hbn'⟩:=qam hbo';obtain⟨g,cs,c1,c2,c3,c4,c5,c6⟩:=hs'.bx b' hbm';rw[hbn'] at c1;obtain⟨g0,cs0,d1,-⟩:=hs3.bx b0 hb0;have hρ3:ρ3 b.n=Z' b.n:=(b1 _ hlt).trans (hρ _ hlt).symm;refine⟨g,cs,hρ3.trans c1,c2,c3,by rw[<-ht];exact c4,kg,λi s hs=>?_⟩;rcases e4 i _ hs with⟨k,e,g1,g2,g3,g4⟩|⟨g1,g2⟩
     .injection g4 with g4;subst g4;have hval:=b3 k e b.n g1 g2
      have hcl:w'.cell? ⟨(qqx (Z b.n)).block,e.2.1,V⟩=cs[i]?:=by
       rw[<-hρ _ hlt,c1];simp only[qqx];rw[cell_of_row w' g _ cs b'.t (0,0) c4,g3]
      show cs[i]? = I (ρ3 (S.nv+h.sl.length+k));rw[hval,hcl];have hi:i<b.cs.length:=(al.1 hs).1;rw[ak (show i<cs.size by omega)];rfl
     .have h7:=qh7 hcells i s hs (by rw[bu];exact g1);rw[c6 i s h7];congr 1;obtain⟨g3,cs3,f1,f2,f3,f4,f5,f6⟩:=hs3.bx b0 hb0;obtain⟨g4,cs4,k1,k2,k3,k4,k5,k6⟩:=(hm.sat Z' hρ).bx b0 hb0
      have:g3=g4:=by
       rw[<-e1] at f1 k1;rw[hρ3,k1] at f1;injection f1 with f1;injection f1 with f1;injection f1 with f1;exact f1.symm
      subst this;rw[f4] at k4;injection k4 with k4;injection k4 with k4;subst k4;have q1:=f6 i s g2;have q2:=k6 i s g2;rw[q1] at q2;exact(oi q2).symm
    .cases hsame
   .obtain⟨b0,hb0,e1,-⟩:=qvc _ _ _ _ hbx b hb;obtain⟨c0,hc0,e2,-⟩:=qvc _ _ _ _ hbx c hc;rw[e1,e2] at hne ⊢;exact hs3.ap b0 hb0 c0 hc0 hne
  .cases hh
 .cases hh
end
open Go.RowKit
def qhp(S:St)(g:List (Nat×Nat)):Operand->Option Nat
 | .tmp d=>match look g d with
   | some n=>I n
   | none=>match look S.env d with
     | some (.v (.one (.var n)))=>(qu1 S n).map λ_=>n
     | some (.v (.one (.ptr n _)))=>(qu1 S n).map λ_=>n
     | _=>V
 | _=>V
def qfy(S:St):List Oper->List (Nat×Nat)->List Nat
 | [],_=>[]
 | o::r,g=>match o.op with
   | .move x|.assign x|.nilCheck x|.fieldAddr _ x _=>match o.dst,qhp S g x with
     | some d,I n=>qfy S r ((d,n)::g)
     | _,_=>qfy S r g
   | .makeFunc _ first cap=>first.toList.filterMap (qhp S g)++(cap.toList.filterMap (qhp S g)++qfy S r g)
   | .call { callee:=.builtin _,args:=_,argTypes:=_ }=>qfy S r g
   | .call c=>c.args.toList.filterMap (qhp S g)++qfy S r g
   | .store _ _ y=>(match qhp S g y with|some n=>[n]|none=>[])++qfy S r g
   | _=>qfy S r g
def iq:Code->List Oper
 | .region _ ops _=>ops.toList
 | .seq a b=>iq a++iq b
 | .cond _ a b=>iq a++iq b
 | .block _ c=>iq c
 | .loop c=>iq c
 | .scope c=>iq c
 | _=>[]
def fitC(S:St)(tb:yg):List (Option SV)->List CT->Bool
 | [],[]=>nr
 | some s::r,ct::l=>S.has tb s ct && fitC S tb r l
 | _,_=>ns
def ixB(S:St)(l:List CT)(cs:List (Option SV)):Bool:=(List.range l.length).all λi=>match l[i]? with
 | some (.idx d)=>decide (d<=i) && (match l[i-d]? with|some ct=>ct.frozen|none=>ns) && (match cs[i]?,cs[i-d]? with
   | some (I s),I (I x)=>match S.lin s,S.len x with
     | some (k,n),I m=>decide (k=O) && (S.qcm x).isSome && S.ent n && S.ent ((m.sub n).pl (-1))
     | _,_=>ns
   | _,_=>ns)
 | _=>nr
def qi2(tb:yg)(S:St)(n:Nat):St:=match qu1 S n with
 | some b=>match tb.flat b.t with
   | some l=>if decide (0<l.length) && decide (n<S.nv) && fitC S tb b.cs l && ixB S l b.cs then { S with ty:=(n,.pt 2 b.t)::S.ty,bx:=S.bx.filter λc=>decide (c.n≠n) } else S
   | none=>S
 | none=>S
def qjs(tb:yg)(S:St)(l:List Oper):St:=(qfy S l []).foldl (qi2 tb) S
section
variable {P:ma}{cx:Cx}{W0:nu}{S:St}{base:Nat}{Z:yu}{T T':Nat->Prop}{w w':nu}{a:Act}{T0:Nat->Prop}{w0:nu}{PU:Lv}{N:Nat}
theorem qsw(hs:xg cx.tb W0 S base Z T w):∀{cs:List (Option SV)} {l:List CT},fitC S cx.tb cs l=nr->cs.length=l.length/\∀(i:Nat) (ct:CT),l[i]? = I ct->∃s,cs[i]? = I (I s)/\CV cx.tb W0 T w base ct (s.den Z)
 | [],[],_=>⟨rfl,λi ct hi=>by simp at hi⟩
 | some s::r,ct::l,h=>by
   simp only[fitC,ag] at h;obtain⟨g1,g2⟩:=qsw hs h.2;refine⟨by simp[g1],λi ct' hi=>?_⟩;cases i with
   | zero=>simp only[db,bc] at hi;subst hi;exact⟨s,rfl,qx0 hs h.1⟩
   | succ i=>exact g2 i ct' (by simpa using hi)
 | [],_::_,h=>by cases h
 | none::_,_,h=>by cases h
 | some _::_,[],h=>by cases h
theorem ixB_ok(hs:xg cx.tb W0 S base Z T w){l:List CT}{ss:List (Option SV)}(h:ixB S l ss=nr){cs:Array ny}(hcs:∀(i:Nat) (s:SV),ss[i]? = I (I s)->cs[i]? = I (s.den Z)){i d:Nat}(hi:i<l.length)(hid:l[i]? = I (.idx d)) :
  d<=i/\(∃ct:CT,l[(i-d)%l.length]? = I ct/\ct.frozen=nr)/\∃n A m c,cs[i]? = I (U O n)/\0<=n/\cs[i-d]? = I (ng A m c)/\n<(m:Int):=by
 have h1:=ao.1 h i (List.mem_range.2 hi);rw[hid] at h1;simp only[ag,decide_eq_true_eq] at h1;obtain⟨⟨h2,h3⟩,h4⟩:=h1;split at h3
 .rename_i ct hct;refine⟨h2,⟨ct,by rw[iw kg];exact hct,h3⟩,?_⟩;split at h4
  .rename_i s x hs1 hx1;split at h4
   .rename_i k n m hn hm;simp only[ag,decide_eq_true_eq] at h4;obtain⟨⟨⟨rfl,h5⟩,h6⟩,h7⟩:=h4;obtain⟨y,hy⟩:=Option.isSome_iff_exists.1 h5;obtain⟨m',e',lb⟩:=y;obtain⟨v,rfl,hcv,-⟩:=qx9 hs hy;obtain⟨A,len,c,hd0,-⟩:=hcv.slc;have hd:(SV.var v).den Z=ng A len c:=hd0;have e1:=hs.ent h6;have e2:=hs.ent h7;rw[qf.xh,qf.sub_eval,qyb hs hd hm] at e2;exact⟨n.eval Z,A,len,c,by rw[hcs i s hs1,uo hs hn],e1,by rw[hcs _ _ hx1];rw[hd],kg⟩
   .cases h4
  .cases h4
 .cases h3
theorem q5o(tb:yg)(htb:tb=cx.tb)(n:Nat)(hm:Mod cx W0 T0 w0 PU N S Z T a w):(qi2 tb S n).nv=S.nv/\∃T',xq T w T' w/\Mod cx W0 T0 w0 PU N (qi2 tb S n) Z T' a w:=by
 subst htb;have hno:S.nv=S.nv/\∃T',xq T w T' w/\Mod cx W0 T0 w0 PU N S Z T' a w:=⟨rfl,T,xq.refl T w,hm⟩;unfold qi2;split
 .rename_i b hb;split
  .rename_i l hl;split
   .rename_i hc;simp only[ag,decide_eq_true_eq] at hc;obtain⟨⟨⟨hpos,hn⟩,hfit⟩,hixb⟩:=hc;have hs0:=hm.sat Z (λ_ _=>rfl);obtain⟨hbm,hbn⟩:=qam hb;obtain⟨g,cs,b1,b2,b3,b4,b5,b6⟩:=hs0.bx b hbm;rw[hbn] at b1;obtain⟨f1,f2⟩:=qsw hs0 hfit
    have hty:∀i v,cs[i]? = I v->∃ct,l[i%l.length]? = I ct/\CV cx.tb W0 T w 0 ct v:=by
     intro i v hv
     have hi:i<l.length:=by
      have:=(Array.getElem?_eq_some_iff.1 hv).1;omega
     obtain⟨s,q1,q2⟩:=f2 i l[i] (ah hi);have:=b6 i s q1;rw[hv] at this;injection this with this;subst this;exact⟨l[i],by rw[iw hi];exact ah hi,q2.mono (xq.refl T w) (cr _)⟩
    obtain⟨j1,j2⟩:=hs0.wt.join (g:=g) (cy hs0.lo b3) b4 (.inl rfl) hl hpos hty (by
     intro i d hi hid;have hil:i<l.length:=kg;rw[iw hil] at hid
     exact ixB_ok hs0 hixb b6 hil hid)
    have hpv:CV cx.tb W0 (add T g) w w0.heap.size (.pt 2 b.t) (nj (I ⟨g,0,V⟩)):=by
     have hsz:cx.tb.sz b.t=l.length:=by simp[yg.sz,hl]
     refine⟨g,0,rfl,.inr ⟨.inr rfl,λ_=>b3,b.t,⟨cs,(0,0),b4,by rw[hsz];omega⟩,λk ct hk=>?_⟩⟩;rw[hl] at hk;simp only[lj] at hk;unfold yg.qym;rw[hl,bu];simp only[ic];rw[iw (al.1 hk).1];exact hk
    refine⟨rfl,add T g,j2,hm.size,hm.defers,⟨hm.hist.ext.trans j2,λc hc=>?_,hm.hist.size,hm.hist.os,hm.hist.tape,hm.hist.output,hm.hist.keep,hm.hist.kpt⟩,λZ' hρ'=>?_,λZ' hρ'=>hm.env Z' hρ'⟩
    .rcases hc with hc|rfl
     .exact hm.hist.new c hc
     .exact .inr b3
    .have hs:=hm.sat Z' hρ';have hg:Z' n=nj (I ⟨g,0,V⟩):=(hρ' n hn).trans b1;refine⟨j1,hs.lo,hs.bs,λk ct hk=>?_,hs.fs,λc hc=>?_,λc hc d hd=>?_⟩
     .rcases cu.1 hk with hk|hk
      .cases hk;rw[hg];exact hpv
      .exact(hs.ty k ct hk).mono j2 (af _)
     .obtain⟨hc1,hc2⟩:=ot.1 hc;obtain⟨g',cs',c1,c2,c3,c4,c5,c6⟩:=hs.bx c hc1;refine⟨g',cs',c1,λhT=>?_,c3,c4,c5,c6⟩;rcases hT with hT|rfl
      .exact c2 hT
      .have hne:c.n≠b.n:=by rw[hbn];exact of_decide_eq_true hc2
       exact hs.ap c hc1 b hbm hne (by rw[c1,hbn,hg])
     .exact hs.ap c (ot.1 hc).1 d (ot.1 hd).1
   .exact hno
  .exact hno
 .exact hno
theorem qpu(tb:yg)(htb:tb=cx.tb):∀(l:List Nat) {S:St} {T:Nat->Prop},Mod cx W0 T0 w0 PU N S Z T a w->(l.foldl (qi2 tb) S).nv=S.nv/\∃T',xq T w T' w/\Mod cx W0 T0 w0 PU N (l.foldl (qi2 tb) S) Z T' a w
 | [],S,T,hm=>⟨rfl,T,xq.refl T w,hm⟩
 | n::l,S,T,hm=>by
   obtain⟨h1,T1,h2,h3⟩:=q5o tb htb n hm;obtain⟨k1,T2,k2,k3⟩:=qpu tb htb l h3;exact⟨k1.trans h1,T2,h2.trans k2,k3⟩
theorem qgo(tb:yg)(htb:tb=cx.tb)(l:List Oper)(hm:Mod cx W0 T0 w0 PU N S Z T a w):(qjs tb S l).nv=S.nv/\∃T',xq T w T' w/\Mod cx W0 T0 w0 PU N (qjs tb S l) Z T' a w:=qpu tb htb _ hm
end
open Go.RowKit
inductive Ex where
 | nrm
 | ext (id:Nat)
 | ret
def Ex.exit:Ex->Exit
 | .nrm=>.normal
 | .ext i=>.exit i
 | .ret=>.ret
def qvm:Code->Nat
 | .seq a b=>qvm a+qvm b
 | .cond _ a b=>qvm a+qvm b
 | .block _ c=>qvm c
 | .loop c=>1+qvm c
 | .scope c=>qvm c
 | _=>0
structure q4y where
 cx:Cx
 step:qz1
 N:Nat
 PU:Lv
 heads:List qb6
 drawn:Array Oper->St->Option (List St)
 sp:Bool:=ns
def qx4(cx:Cx):qz1:=λS o=>(qxk cx S o).map λout=>⟨out,.no,.pure⟩
abbrev qzi:=List (Ex×St)
def qnv(f:St->Option qzi):qzi->Option qzi
 | []=>I []
 | (x,S)::r=>match(match x with
   | .nrm=>f S
   | y=>I [(y,S)]),qnv f r with
   | some l,I m=>I (l++m)
   | _,_=>V
def qi3(x y:Option qzi):Option qzi:=match x,y with
 | some l,I m=>I (l++m)
 | _,_=>V
def qoj(S:St):Operand->Option (Option Tmp×BE)
 | .tmp d=>match look S.env d with
   | some (.v (.one s))=>(S.be s).map λb=>(I d,b)
   | _=>V
 | .const (.bool b)=>I (V,.tt b)
 | _=>V
def qj8(id:Nat):Ex->Ex
 | .ext i=>if i=id then .nrm else .ext i
 | x=>x
def qs4(tb:yg)(S Sh S':St)(h:qb6)(gone:List Nat):Bool:=leq tb S S' h gone Sh && match qh2 Sh h.ms,qh2 S' h.ms with
 | some m0,I m1=>S'.ent (m0.pl (-1)) && S'.ent ((m0.sub m1).pl (-1))
 | _,_=>ns
def q0e:Ex->Bool
 | .nrm=>nr
 | _=>ns
def qrx:BE->Bool->Option qf
 | .eq l,false=>I l
 | .not (.eq l),true=>I l
 | _,_=>V
def brs(sp:Bool)(S:St)(d:Tmp)(e:BE)(β:Bool):List St:=if sp then(match qrx e β with
  | some l=>if l.ts.all (λp=>decide (p.2<S.nv)) then [{ qzk S d e β with fs:=l.pl (-1)::(qzk S d e β).fs },{ qzk S d e β with fs:=(l.sc (-1)).pl (-1)::(qzk S d e β).fs }] else [qzk S d e β]
  | none=>[qzk S d e β]) else [qzk S d e β]
def qrr(f:St->Option qzi):List St->Option qzi
 | []=>I []
 | S::r=>qi3 (if qzo S then I [] else f S) (qrr f r)
def qgn(g:St->Option qzi):qzi->Option qzi
 | []=>I []
 | (.nrm,S)::r=>qi3 (if qzo S then I [] else g S) (qgn g r)
 | p::r=>(qgn g r).map λl=>p::l
def qhe(f:St->Option qzi):Nat->St->Option qzi
 | 0,_=>V
 | n+1,S=>match f S with
   | some l=>qgn (qhe f n) l
   | none=>V
def qzd(c:q4y):Nat->Code->St->Option qzi
 | _,.skip,S=>I [(.nrm,S)]
 | _,.ret,S=>I [(.ret,S)]
 | _,.exit id,S=>I [(.ext id,S)]
 | _,.label _,S=>I [(.nrm,S)]
 | _,.region _ ops ns,S=>(qyy c.step c.N c.PU ops ops.toList (qjs c.cx.tb S ops.toList)).map λl=>l.map λS'=>(.nrm,S')
 | _,.region _ ops nr,S=>(c.drawn ops (qjs c.cx.tb S ops.toList)).map λl=>l.map λS'=>(.nrm,S')
 | k,.seq a b,S=>match qzd c k a S with
   | some l=>qnv (qzd c (k+qvm a) b) l
   | none=>V
 | k,.cond x a b,S=>match qoj S x with
   | some (_,.tt nr)=>qzd c k a S
   | some (_,.tt ns)=>qzd c (k+qvm a) b S
   | some (I d,e)=>qi3 (qrr (qzd c k a) (brs c.sp S d e nr)) (qrr (qzd c (k+qvm a) b) (brs c.sp S d e ns))
   | _=>V
 | k,.block id b,S=>(qzd c k b S).map λl=>l.map λp=>(qj8 id p.1,p.2)
 | k,.scope b,S=>qzd c k b S
 | k,.loop b,S=>match c.heads[k]? with
   | some h=>if h.ms.ts.isEmpty then qhe (qzd c (k+1) b) h.ms.c.toNat (qjs c.cx.tb S (iq b)) else match qox (qjs c.cx.tb S (iq b)) h (Code.qua b) with
     | some Sh=>if leq c.cx.tb (qjs c.cx.tb S (iq b)) (qjs c.cx.tb S (iq b)) h (Code.qua b) Sh then match qzd c (k+1) b Sh with
       | some l=>if l.all (λp=>!q0e p.1 || qs4 c.cx.tb (qjs c.cx.tb S (iq b)) Sh p.2 h (Code.qua b)) then I (l.filter λp=>!q0e p.1) else V
       | none=>V
     else V
     | none=>V
   | none=>V
 | _,_,_=>V
section
variable {P:ma}{cx:Cx}{W0:nu}{S:St}{base:Nat}{Z:yu}{T T':Nat->Prop}{w w':nu}{a:Act}{T0:Nat->Prop}{w0:nu}{PU:Lv}{N:Nat}
theorem ql9{f:St->Option qzi}:∀{l r:qzi},qnv f l=I r->∀p∈l,match p.1 with
  | .nrm=>∃m,f p.2=I m/\∀q∈m,q∈r
  | _=>p∈r
 | [],r,h,p,hp=>by cases hp
 | (x,S)::l,r,h,p,hp=>by
   unfold qnv at h;split at h
   .rename_i m1 m2 h1 h2;cases h;have ih:=ql9 h2;rcases cu.1 hp with rfl|hp
    .cases x with
     | nrm=>exact⟨m1,h1,λq hq=>by simp[hq]⟩
     | ext i=>cases h1;simp
     | ret=>cases h1;simp
    .have:=ih p hp;obtain⟨y,S2⟩:=p;cases y with
     | nrm=>
       obtain⟨m,g1,g2⟩:=this;exact⟨m,g1,λq hq=>by simp[g2 q hq]⟩
     | ext i=>exact bo.2 (.inr this)
     | ret=>exact bo.2 (.inr this)
   .cases h
def qab(P:ma)(cx:Cx)(W0:nu)(T0:Nat->Prop)(w0:nu)(PU:Lv)(N:Nat)(f:Array Oper->St->Option (List St)):Prop:=
 ∀(id:Nat) (ops:Array Oper) (S:St) (outs:List St),f ops S=I outs->∀(Z:yu) (T:Nat->Prop) (a:Act) (w:nu) (Q:Exit->Act->nu->Prop),Mod cx W0 T0 w0 PU N S Z T a w ->
  (∀S' a' w',S'∈outs->Nx cx W0 T0 w0 PU N S Z T w S' a' w'->Q .normal a' w')->(Code.region id ops nr).wp P Q a w
def qjv(cx:Cx)(W0:nu)(T0:Nat->Prop)(w0:nu)(PU:Lv)(N:Nat)(S:St)(Z:yu)(T:Nat->Prop)(w:nu)(outs:qzi):Exit->Act->nu->Prop:=
 λe a' w'=>∃p∈outs,e=p.1.exit/\Nx cx W0 T0 w0 PU N S Z T w p.2 a' w'
theorem qjv.nx{S1:St}{ρ1:yu}{T1:Nat->Prop}{w1:nu}{l m:qzi}(h0:∀n,n<S.nv->ρ1 n=Z n)(h1:S.nv<=S1.nv)(h2:xq T w T1 w1)(hs:∀q∈m,q∈l){e:Exit}{w':nu}
  (h:qjv cx W0 T0 w0 PU N S1 ρ1 T1 w1 m e a' w'):qjv cx W0 T0 w0 PU N S Z T w l e a' w':=by
 obtain⟨p,hp,he,hn⟩:=h;exact⟨p,hs p hp,he,Nx.trans h0 h1 h2 hn⟩
theorem qgw{x:Operand}{d:Option Tmp}(h:qoj S x=I (d,b))(hm:Mod cx W0 T0 w0 PU N S Z T a w) :
  a.eval x=ni (b.den Z)/\(∀t,d=I t->∃s,look S.env t=I (.v (.one s))/\S.be s=I b/\a.tmps.getD t mc=ni (b.den Z)):=by
 unfold qoj at h;split at h
 .rename_i t;split at h
  .rename_i s hs;cases hq:S.be s with
   | none=>rw[hq] at h;cases h
   | some b'=>
     rw[hq] at h;have h:=oi h;injection h with h1 h2;subst h1;subst h2;have hv:a.tmps.getD t mc=ni (b'.den Z):=(hm.env Z (λ_ _=>rfl) t _ hs).trans (qq1 (hm.sat Z (λ_ _=>rfl)) hq);exact⟨hv,λt' ht=>by cases ht;exact⟨s,hs,hq,hv⟩⟩
  .cases h
 .cases h;exact⟨rfl,λt ht=>by cases ht⟩
 .cases h
theorem qgq{f:St->Option qzi}:∀{l:List St} {outs:qzi},qrr f l=I outs->∀S1∈l,qzo S1=ns->∃l1,f S1=I l1/\∀q∈l1,q∈outs
 | [],outs,h,S1,hS,_=>by cases hS
 | S::r,outs,h,S1,hS,hd=>by
   unfold qrr qi3 at h;split at h
   .rename_i l1 l2 h1 h2;cases h;rcases cu.1 hS with rfl|hS
    .rw[if_neg (by rw[hd];simp)] at h1;exact⟨l1,h1,λq hq=>bo.2 (.inl hq)⟩
    .obtain⟨l3,h3,h4⟩:=qgq h2 S1 hS hd;exact⟨l3,h3,λq hq=>bo.2 (.inr (h4 q hq))⟩
   .cases h
theorem q3q{sp:Bool}{e:BE}(hm:Mod cx W0 T0 w0 PU N (qzk S d e β) Z T a w)(hden:∀Z':yu,(∀n,n<S.nv->Z' n=Z n)->e.den Z'=β) :
  ∃S1∈brs sp S d e β,Mod cx W0 T0 w0 PU N S1 Z T a w/\S1.nv=S.nv:=by
 unfold brs;split
 .split
  .rename_i l hl;split
   .rename_i hall
    have hne:l.eval Z≠0:=by
     have h1:=hden Z (λ_ _=>rfl);cases e<;>cases β<;>simp only[qrx,bc,reduceCtorEq] at hl
     .subst hl;exact of_decide_eq_false h1
     .rename_i e1;cases e1<;>simp only[qrx,bc,reduceCtorEq] at hl;subst hl;simp only[BE.den,Bool.not_eq_true'] at h1;exact of_decide_eq_false h1
    have key:∀f:qf,(∀Z':yu,(∀n,n<S.nv->Z' n=Z n)->0<=f.eval Z')->Mod cx W0 T0 w0 PU N { qzk S d e β with fs:=f::(qzk S d e β).fs } Z T a w:=by
     intro f hf;refine⟨hm.size,hm.defers,hm.hist,λZ' hρ'=>?_,λZ' hρ'=>hm.env Z' hρ'⟩;obtain⟨g1,g2,g3,g4,g5,g6,g7⟩:=hm.sat Z' hρ';refine⟨g1,g2,g3,g4,λf' hf'=>?_,g6,g7⟩;rcases cu.1 hf' with rfl|hf'
     .exact hf Z' hρ'
     .exact g5 f' hf'
    rcases Int.lt_or_gt_of_ne hne with h|h
    .refine⟨_,js _ ff,key _ (λZ' hρ'=>?_),rfl⟩;rw[qf.xh,qf.vg,qej hall hρ'];omega
    .refine⟨_,ff,key _ (λZ' hρ'=>?_),rfl⟩;rw[qf.xh,qej hall hρ'];omega
   .exact⟨_,ff,hm,rfl⟩
  .exact⟨_,ff,hm,rfl⟩
 .exact⟨_,ff,hm,rfl⟩
theorem qah{g:St->Option qzi}:∀{l outs:qzi},qgn g l=I outs->∀p∈l,match p.1 with
  | .nrm=>qzo p.2=ns->∃o,g p.2=I o/\∀q∈o,q∈outs
  | _=>p∈outs
 | [],outs,h,p,hp=>by cases hp
 | (.nrm,S)::r,outs,h,p,hp=>by
   unfold qgn qi3 at h;split at h
   .rename_i l1 l2 h1 h2;cases h;rcases cu.1 hp with rfl|hp
    .intro hd;rw[if_neg (by rw[hd];simp)] at h1;exact⟨l1,h1,λq hq=>bo.2 (.inl hq)⟩
    .have:=qah h2 p hp;split
     .rename_i e;rw[e] at this;intro hd;obtain⟨o,q1,q2⟩:=this hd;exact⟨o,q1,λq hq=>bo.2 (.inr (q2 q hq))⟩
     .rename_i e;have:=qah h2 p hp;split at this
      .rename_i e2;exact absurd e2 e
      .exact bo.2 (.inr this)
   .cases h
 | (.ret,S)::r,outs,h,p,hp=>by
   simp only[qgn,ea] at h;obtain⟨l,h1,rfl⟩:=h;rcases cu.1 hp with rfl|hp
   .exact ff ..
   .have:=qah h1 p hp;split
    .rename_i e;rw[e] at this;intro hd;obtain⟨o,q1,q2⟩:=this hd;exact⟨o,q1,λq hq=>js _ (q2 q hq)⟩
    .rename_i e;split at this
     .rename_i e2;exact absurd e2 e
     .exact js _ this
 | (.ext i,S)::r,outs,h,p,hp=>by
   simp only[qgn,ea] at h;obtain⟨l,h1,rfl⟩:=h;rcases cu.1 hp with rfl|hp
   .exact ff ..
   .have:=qah h1 p hp;split
    .rename_i e;rw[e] at this;intro hd;obtain⟨o,q1,q2⟩:=this hd;exact⟨o,q1,λq hq=>js _ (q2 q hq)⟩
    .rename_i e;split at this
     .rename_i e2;exact absurd e2 e
     .exact js _ this
theorem ql7{c:q4y}{b:Code}{f:St->Option qzi}(hf:∀{S:St} {Z:yu} {T:Nat->Prop} {a:Act} {w:nu} {l:qzi},f S=I l->Mod c.cx W0 T0 w0 c.PU c.N S Z T a w->b.wp P (qjv c.cx W0 T0 w0 c.PU c.N S Z T w l) a w)
  {Sq:St} {ρq:yu} {Tq:Nat->Prop} {wq:nu} {out:qzi}:∀(n:Nat) {S:St} {Z:yu} {T:Nat->Prop} {a:Act} {w:nu} {outs:qzi},qhe f n S=I outs->Mod c.cx W0 T0 w0 c.PU c.N S Z T a w->(∀p∈outs,p∈out) ->
  (∀n,n<Sq.nv->Z n=ρq n)->Sq.nv<=S.nv->xq Tq wq T w->Code.rounds P b (qjv c.cx W0 T0 w0 c.PU c.N Sq ρq Tq wq out) n a w
 | 0,S,Z,T,a,w,outs,h,_,_,_,_,_=>by cases h
 | n+1,S,Z,T,a,w,outs,h,hm,hs,h1,h2,h3=>by
   unfold qhe at h;split at h
   .rename_i l hl;refine im (hf hl hm) ?_;rintro e a1 w1 ⟨p,hp,rfl,ρ1,T1,g1,g2,g3,g4⟩;have hmem:=qah h p hp;obtain⟨ex,S1⟩:=p;have k1:∀n,n<Sq.nv->ρ1 n=ρq n:=λn hn=>(g1 n kg).trans (h1 n hn)
    cases ex with
    | nrm=>
      cases hd:qzo S1 with
      | true=>exact(qj0 g4 hd).elim
      | false=>
        obtain⟨o,q1,q2⟩:=hmem hd;exact ql7 hf n q1 g4 (λp hp=>hs p (q2 p hp)) k1 kg (h3.trans g3)
    | ret=>exact⟨_,hs _ hmem,rfl,ρ1,T1,k1,kg,h3.trans g3,g4⟩
    | ext i=>exact⟨_,hs _ hmem,rfl,ρ1,T1,k1,kg,h3.trans g3,g4⟩
   .cases h
theorem qy1{c:q4y}(ht:qbb P c.cx W0 c.step)(hd:qab P c.cx W0 T0 w0 c.PU c.N c.drawn):∀(code:Code) (k:Nat) {S:St} {Z:yu} {T:Nat->Prop} {a:Act} {w:nu} {outs:qzi},qzd c k code S=I outs ->
  Mod c.cx W0 T0 w0 c.PU c.N S Z T a w->code.wp P (qjv c.cx W0 T0 w0 c.PU c.N S Z T w outs) a w
 | .skip,k,S,Z,T,a,w,outs,h,hm=>by
   simp only[qzd,bc] at h;subst h;exact wp_skip ⟨(.nrm,S),kq,rfl,Nx.refl hm⟩
 | .ret,k,S,Z,T,a,w,outs,h,hm=>by
   simp only[qzd,bc] at h;subst h;exact wp_ret ⟨(.ret,S),kq,rfl,Nx.refl hm⟩
 | .exit id,k,S,Z,T,a,w,outs,h,hm=>by
   simp only[qzd,bc] at h;subst h;exact wp_exit ⟨(.ext id,S),kq,rfl,Nx.refl hm⟩
 | .region id ops ns,k,S,Z,T,a,w,outs,h,hm=>by
   simp only[qzd] at h;obtain⟨hnv,Tq,hxq,hmq⟩:=qgo c.cx.tb rfl ops.toList hm;refine im (Q:=qjv c.cx W0 T0 w0 c.PU c.N (qjs c.cx.tb S ops.toList) Z Tq w outs) ?_ (λe a' w' hp=>hp.nx (λ_ _=>rfl) (su hnv.symm) hxq (λq hq=>hq));generalize qjs c.cx.tb S ops.toList=Sq at *;clear hm hnv hxq;cases hq:qyy c.step c.N c.PU ops ops.toList Sq with
   | none=>rw[hq] at h;cases h
   | some l=>
     rw[hq] at h;have h:=oi h;subst h;refine wp_region_list (qvw ht ops.toList hq hmq (λS' a' w' hS hn=>⟨(.nrm,S'),by simp[hS],rfl,hn⟩))
 | .region id ops nr,k,S,Z,T,a,w,outs,h,hm=>by
   simp only[qzd] at h;obtain⟨hnv,Tq,hxq,hmq⟩:=qgo c.cx.tb rfl ops.toList hm;refine im (Q:=qjv c.cx W0 T0 w0 c.PU c.N (qjs c.cx.tb S ops.toList) Z Tq w outs) ?_ (λe a' w' hp=>hp.nx (λ_ _=>rfl) (su hnv.symm) hxq (λq hq=>hq));generalize qjs c.cx.tb S ops.toList=Sq at *;clear hm hnv hxq;cases hq:c.drawn ops Sq with
   | none=>rw[hq] at h;cases h
   | some l=>
     rw[hq] at h;have h:=oi h;subst h;exact hd id ops Sq l hq Z Tq a w _ hmq (λS' a' w' hS hn=>⟨(.nrm,S'),by simp[hS],rfl,hn⟩)
 | .seq x y,k,S,Z,T,a,w,outs,h,hm=>by
   simp only[qzd] at h;split at h
   .rename_i l hl;have hmem:=ql9 h;refine wp_seq (im (qy1 ht hd x k hl hm) ?_);rintro e a1 w1 ⟨p,hp,rfl,hn⟩;have hp':=hmem p hp;obtain⟨ex,S1⟩:=p;cases ex with
    | nrm=>
      obtain⟨m,h1,h2⟩:=hp';obtain⟨ρ1,T1,g1,g2,g3,g4⟩:=hn;exact im (qy1 ht hd y _ h1 g4) (λe a' w' hpst=>hpst.nx g1 g2 g3 h2)
    | ext i=>exact⟨_,hp',rfl,hn⟩
    | ret=>exact⟨_,hp',rfl,hn⟩
   .cases h
 | .cond x y z,k,S,Z,T,a,w,outs,h,hm=>by
   simp only[qzd] at h;split at h
   .rename_i d hc;obtain⟨hv,-⟩:=qgw hc hm;exact wp_cond_true hv (qy1 ht hd y k h hm)
   .rename_i d hc;obtain⟨hv,-⟩:=qgw hc hm;exact wp_cond_false hv (qy1 ht hd z _ h hm)
   .rename_i d e hnt hnf hc;obtain⟨hv,hv2⟩:=qgw hc hm;obtain⟨s,hs1,hs2,hv3⟩:=hv2 d rfl;unfold qi3 at h;split at h
    .rename_i l1 l2 h1 h2;cases h;have qxf:=qdi hm hs1 hs2 hv3
     have hden:∀Z':yu,(∀n,n<S.nv->Z' n=Z n)->∀β,a.tmps.getD d mc=ni β->e.den Z'=β:=λZ' hρ' β hβ=>by
      have q1:=hm.env Z' hρ' d _ hs1;have q2:=qq1 (hm.sat Z' hρ') hs2;have q3:a.tmps.getD d mc=s.den Z':=q1;rw[hβ,q2] at q3;injection q3 with q3;exact q3.symm
     refine wp_cond_split hv (λht1=>?_) (λhf1=>?_)
     .rw[ht1] at qxf;obtain⟨S1,hS1,hm1,hnv⟩:=q3q (sp:=c.sp) qxf (λZ' hρ'=>hden Z' hρ' nr (by rw[hv3,ht1]))
      obtain⟨l',hl',hsub⟩:=qgq h1 S1 hS1 (by
       cases hq:qzo S1 with
       | false=>rfl
       | true=>exact(qj0 hm1 hq).elim)
      exact im (qy1 ht hd y k hl' hm1) (λe' a' w' hpst=>qjv.nx (S1:=S1) (λ_ _=>rfl) kg (xq.refl T w) (λq hq=>bo.2 (.inl (hsub q hq))) hpst)
     .rw[hf1] at qxf;obtain⟨S1,hS1,hm1,hnv⟩:=q3q (sp:=c.sp) qxf (λZ' hρ'=>hden Z' hρ' ns (by rw[hv3,hf1]))
      obtain⟨l',hl',hsub⟩:=qgq h2 S1 hS1 (by
       cases hq:qzo S1 with
       | false=>rfl
       | true=>exact(qj0 hm1 hq).elim)
      exact im (qy1 ht hd z _ hl' hm1) (λe' a' w' hpst=>qjv.nx (S1:=S1) (λ_ _=>rfl) kg (xq.refl T w) (λq hq=>bo.2 (.inr (hsub q hq))) hpst)
    .cases h
   .cases h
 | .block id b,k,S,Z,T,a,w,outs,h,hm=>by
   simp only[qzd] at h;cases hq:qzd c k b S with
   | none=>rw[hq] at h;cases h
   | some l=>
     rw[hq] at h;have h:=oi h;subst h;refine wp_block (im (qy1 ht hd b k hq hm) ?_);rintro e a1 w1 ⟨p,hp,rfl,hn⟩;have hmem:(qj8 id p.1,p.2)∈l.map λp=>(qj8 id p.1,p.2):=fi.2 ⟨p,hp,rfl⟩
     obtain⟨ex,S1⟩:=p;cases ex with
     | nrm=>exact⟨_,hmem,rfl,hn⟩
     | ret=>exact⟨_,hmem,rfl,hn⟩
     | ext i=>
       show wk id _ (.exit i) a1 w1;simp only[wk];simp only[qj8] at hmem;split
       .rename_i e;rw[if_pos e] at hmem;exact⟨_,hmem,rfl,hn⟩
       .rename_i e;rw[if_neg e] at hmem;exact⟨_,hmem,rfl,hn⟩
 | .scope b,k,S,Z,T,a,w,outs,h,hm=>by
   simp only[qzd] at h;refine wp_scope_straight (im (qy1 ht hd b k h hm) ?_);rintro e a1 w1 ⟨p,hp,rfl,hn⟩;obtain⟨ex,S1⟩:=p;cases ex<;>exact⟨_,hp,rfl,hn⟩
 | .loop b,k,S,Z,T,a,w,outs,h,hm=>by
   simp only[qzd] at h;obtain⟨hnv,Tq,hxq,hmq⟩:=qgo c.cx.tb rfl (iq b) hm;refine im (Q:=qjv c.cx W0 T0 w0 c.PU c.N (qjs c.cx.tb S (iq b)) Z Tq w outs) ?_ (λe a' w' hp=>hp.nx (λ_ _=>rfl) (su hnv.symm) hxq (λq hq=>hq));generalize qjs c.cx.tb S (iq b)=Sq at *;clear hm hnv hxq;split at h
   .rename_i hd' hh;split at h
    .exact wp_loop_rounds _ (ql7 (λhl hm1=>qy1 ht hd b (k+1) hl hm1) _ h hmq (λ_ hp=>hp) (λ_ _=>rfl) (af _) (xq.refl _ _))
    split at h
    .rename_i Sh hSh;split at h
     .rename_i hleq;split at h
      .rename_i l hl;split at h
       .rename_i hall;cases h;obtain⟨ρh,g1,g2,g3,-⟩:=q0m hSh hleq hmq hmq (λ_ _=>rfl) (xq.refl Tq w);refine wp_loop (λa1 w1=>∃ρ1 T1,(∀n,n<Sq.nv->ρ1 n=Z n)/\xq Tq w T1 w1/\Mod c.cx W0 T0 w0 c.PU c.N Sh ρ1 T1 a1 w1) (λa1 _=>(qk1 a1 hd'.ms).toNat) ⟨ρh,Tq,g1,xq.refl Tq w,g3⟩ ?_;rintro a1 w1 ⟨ρ1,T1,k1,k2,k3⟩;refine im (qy1 ht hd b (k+1) hl k3) ?_;rintro e a2 w2 ⟨p,hp,rfl,hn⟩;have hpa:=ao.1 hall p hp;obtain⟨ex,S2⟩:=p;obtain⟨ρ2,T2,n1,n2,n3,n4⟩:=hn;have hag:∀n,n<Sq.nv->ρ2 n=Z n:=λn hn=>(n1 n kg).trans (k1 n hn)
        cases ex with
        | nrm=>
          simp only[q0e,Bool.not_true,acd,qs4,ag] at hpa;obtain⟨hleq2,hms⟩:=hpa;obtain⟨ρ3,q1,q2,q3,-⟩:=q0m hSh hleq2 hmq n4 hag (k2.trans n3);refine⟨⟨ρ3,T2,q1,k2.trans n3,q3⟩,?_⟩;split at hms
          .rename_i m0 m1 hm0 hm1;simp only[ag] at hms;have e0:=qg6 (k3.env ρ2 n1) hm0;have e1:=qg6 (n4.env ρ2 (λ_ _=>rfl)) hm1;have f0:=(n4.sat ρ2 (λ_ _=>rfl)).ent hms.1;have f1:=(n4.sat ρ2 (λ_ _=>rfl)).ent hms.2;rw[qf.xh,e0] at f0;rw[qf.xh,qf.sub_eval,e0,e1] at f1;show(qk1 a2 hd'.ms).toNat<(qk1 a1 hd'.ms).toNat;omega
          .cases hms
        | ext i=>exact⟨_,ot.2 ⟨hp,rfl⟩,rfl,ρ2,T2,hag,kg,k2.trans n3,n4⟩
        | ret=>exact⟨_,ot.2 ⟨hp,rfl⟩,rfl,ρ2,T2,hag,kg,k2.trans n3,n4⟩
       .cases h
      .cases h
     .cases h
    .cases h
   .cases h
 | .label l,k,S,Z,T,a,w,outs,h,hm=>by
   simp only[qzd,bc] at h;subst h;exact wp_label ⟨(.nrm,S),kq,rfl,Nx.refl hm⟩
 | .goto l,k,S,Z,T,a,w,outs,h,hm=>by simp only[qzd] at h;cases h
 | .refuse l,k,S,Z,T,a,w,outs,h,hm=>by simp only[qzd] at h;cases h
 | .rangeFunc f p x y,k,S,Z,T,a,w,outs,h,hm=>by simp only[qzd] at h;cases h
theorem q44(hcx:yj P cx)(h:one (qx4 cx) N PU S o=I S')(hm:Mod cx W0 T0 w0 PU N S Z T a w) :
  ∃v,(execOp a.eval o).run P w=.ok (.value v) w/\Nx cx W0 T0 w0 PU N S Z T w S' (a.put o.dst v) w:=by
 have htr:qbb P cx W0 (qx4 cx):=by
  intro S o r hr base Ω T w a H;unfold qx4 at hr;cases hq:qxk cx S o with
  | none=>rw[hq] at hr;cases hr
  | some out=>
    rw[hq] at hr;cases hr;exact(qdz hcx hq H).step H
 have hone:=q2l htr h hm;unfold one qx4 at h;cases hq:qxk cx S o with
 | none=>rw[hq] at h;cases h
 | some out=>
   obtain⟨v,h1,-⟩:=qdz hcx hq ⟨⟨Z,λ_ _=>rfl⟩,hm.sat,hm.env⟩;rw[h1] at hone;exact⟨v,h1,hone⟩
theorem qje(hcx:yj P cx){ops:Array Oper}{Q:Act->Prop}{w:nu}:∀(l:List Oper) {S:St} {Z:yu} {T:Nat->Prop} {a:Act} {outs:List St},qyy (qx4 cx) N PU ops l S=I outs->Mod cx W0 T0 w0 PU N S Z T a w ->
  (∀S' a',S'∈outs->Nx cx W0 T0 w0 PU N S Z T w S' a' w->Q a')->wpStill P ops w Q l a
 | [],S,Z,T,a,outs,h,hm,hQ=>by
   cases h;exact hQ S a kq (Nx.refl hm)
 | o::rest,S,Z,T,a,outs,h,hm,hQ=>by
   unfold qyy at h;unfold wpStill
   have hgo:∀{S1:St} {outs1:List St},(∀S',S'∈outs1->S'∈outs)->Mod cx W0 T0 w0 PU N S1 Z T a w->S1.nv=S.nv->∀{S2:St},one (qx4 cx) N PU S1 o=I S2->qyy (qx4 cx) N PU ops rest S2=I outs1->o.still P a w (wpStill P ops w Q rest):=by
    intro S1 outs1 hsub hm1 hnv S2 h1 h2;obtain⟨v,hv,Z',T',g1,g2,g3,g4⟩:=q44 hcx h1 hm1;unfold Oper.still;rw[hv,Oper.stillUpon_value];exact qje hcx rest h2 g4 (λS' a' hS hn=>hQ S' a' (hsub S' hS) (Nx.trans (λn hn=>g1 n kg) kg g3 hn))
   split at h
   .rename_i hg;rw[if_pos (by simp[ee,hg])];split at h
    .rename_i S2 h1;exact hgo (λ_ h=>h) hm rfl h1 h
    .cases h
   .rename_i j want hg;split at h
    .cases h
    .rename_i d hgd;split at h
     .rename_i hdN;have hy:=qmk hgd hm hdN;rw[if_neg (by simp only[ee,hg,hy];simp)]
      exact qje hcx rest h (qk7 hm o.dst) (λS' a' hS hn=>hQ S' a' hS (by
       obtain⟨Z',T',g1,g2,g3,g4⟩:=hn;have hnv:(drop S o.dst).nv=S.nv:=by cases o.dst<;>rfl
       exact⟨Z',T',λn hn=>g1 n kg,kg,g3,g4⟩))
     .cases h
    .rename_i d b hgd;split at h
     .rename_i hdN;obtain⟨s,hs1,hs2,hv,hy⟩:=qmz hgd hm hdN
      have hwant:ee o (yielded ops a.tmps)=(b.den Z == want):=by
       simp only[ee,hg,hy];cases b.den Z<;>cases want<;>rfl
      split at h
      .rename_i β;split at h
       .rename_i hβ;rw[if_pos (by rw[hwant];simp[BE.den,hβ])];split at h
        .rename_i S2 h1;exact hgo (λ_ h=>h) hm rfl h1 h
        .cases h
       .rename_i hβ;rw[if_neg (by rw[hwant];simp[BE.den,hβ])]
        exact qje hcx rest h (qk7 hm o.dst) (λS' a' hS hn=>hQ S' a' hS (by
         obtain⟨Z',T',g1,g2,g3,g4⟩:=hn;have hnv:(drop S o.dst).nv=S.nv:=by cases o.dst<;>rfl
         exact⟨Z',T',λn hn=>g1 n kg,kg,g3,g4⟩))
      .unfold both at h;split at h
       .rename_i l1 l2 hl1 hl2;cases h;have qxf:=qdi (β:=b.den Z) hm hs1 hs2 hv;by_cases hb:b.den Z=want
        .rw[if_pos (by rw[hwant];simp[hb])];rw[hb] at qxf;split at hl1
         .rename_i qvk;exact(qj0 qxf qvk).elim
         .split at hl1
          .rename_i S2 h1;exact hgo (λS' hS=>by simp[hS]) qxf rfl h1 hl1
          .cases hl1
        .rw[if_neg (by rw[hwant];simp[hb])];have hb':b.den Z=!want:=by cases h1:b.den Z<;>cases want<;>simp_all
         rw[hb'] at qxf;split at hl2
         .rename_i qvk;exact(qj0 qxf qvk).elim
         .exact qje hcx rest hl2 (qk7 qxf o.dst) (λS' a' hS hn=>hQ S' a' (by simp[hS]) (by
           obtain⟨Z',T',g1,g2,g3,g4⟩:=hn;have hnv:(drop (qzk S d b (!want)) o.dst).nv=S.nv:=by cases o.dst<;>rfl
           exact⟨Z',T',λn hn=>g1 n kg,kg,g3,g4⟩))
       .cases h
     .cases h
def qem(cx:Cx)(N:Nat)(PU:Lv)(ops:Array Oper)(S:St):Option (List St):=if Region.lexB .any ops then qyy (qx4 cx) N PU ops ops.toList S else V
theorem qeq(hcx:yj P cx)(hmix:P.follows .mixedOrders=nr):qab P cx W0 T0 w0 PU N (qem cx N PU):=by
 intro id ops S outs h Z T a w Q hm hQ;unfold qem at h;split at h
 .rename_i hB;refine wp_region_still hmix hB (qje hcx ops.toList h hm.drew (λS' a' hS hn=>hQ S' a' _ hS ?_));obtain⟨Z',T',g1,g2,g3,g4⟩:=hn;exact⟨Z',T',g1,g2,⟨g3.sub,g3.row,g3.fz,g3.mp⟩,g4⟩
 .cases h
end
open Go.RowKit
inductive PT where
 | one (ct:CT)
 | agg (l:List CT)
 | con (v:ny)
def PT.cts:PT->List CT
 | .one ct=>[ct]
 | .agg l=>l
 | .con _=>[]
def PT.cells:PT->ny->List ny
 | .one _,v=>[v]
 | .agg _,v=>v.cells.toList
 | .con _,_=>[]
def zt:List PT->List ny->List ny
 | p::ps,v::vs=>p.cells v++zt ps vs
 | _,_=>[]
def jb(ps:List PT):List CT:=ps.flatMap PT.cts
structure zu where
 ps:List PT
 pre:List qf
 rs:List PT
 post:List qf
 pu:Lv
 be:Option BE
def valOf(l:List ny):yu:=λn=>l.getD n mc
section
variable (tb:yg)(W0:nu)
def zq(T:Nat->Prop)(w:nu)(base:Nat):PT->ny->Prop
 | .one ct,v=>CV tb W0 T w base ct v
 | .agg l,v=>∃cs:Array ny,v=.agg cs/\cs.size=l.length/\∀(i:Nat) (ct:CT) (u:ny),l[i]? = I ct->cs[i]? = I u->CV tb W0 T w base ct u
 | .con c,v=>v=c
def qqk(T:Nat->Prop)(w:nu)(base:Nat):List PT->List ny->Prop
 | [],[]=>True
 | p::ps,v::vs=>zq tb W0 T w base p v/\qqk T w base ps vs
 | _,_=>False
def qu6(rs:List PT)(v:ny)(vs:List ny):Prop:=match rs with
 | [_]=>vs=[v]
 | _=>v=.tuple vs.toArray
end
def qt5(C:zu)(az vs:List ny):Prop:=∀e,C.be=I e->vs=[.bool (e.den (valOf (zt C.ps az)))]
def q8x(P:ma)(f:mb):Prop:=∃fn,P.funcs[f]? = I fn∧(fn.name == "runtime.NumGoroutine")=ns∧fn.body.isNone=ns
def qm(P:ma)(cx:Cx)(W0:nu)(f:mb)(C:zu):Prop:=q8x P f/\∀(T:Nat->Prop) (w:nu) (args:Array ny),WT cx.tb W0 T w->qqk cx.tb W0 T w w.heap.size C.ps args.toList ->
 (∀l∈C.pre,0<=l.eval (valOf (zt C.ps args.toList))) ->
 Calls P f args w λe w'=>∃v vs T',e=np v/\qu6 C.rs v vs/\qqk cx.tb W0 T' w' w.heap.size C.rs vs/\(∀l∈C.post,0<=l.eval (valOf (zt C.ps args.toList++zt C.rs vs)))/\qt5 C args.toList vs/\zg T w C.pu T' w'/\WT cx.tb W0 T' w'
def qe0(ls:List (Option qf)):List (Int×Nat)->Option qf
 | []=>I (qf.k 0)
 | (c,x)::r=>match ls[x]?,qe0 ls r with
   | some (I l),I m=>I ((l.sc c).add m)
   | _,_=>V
def qvr(ls:List (Option qf))(l:qf):Option qf:=(qe0 ls l.ts).map λm=>m.pl l.c
theorem ql0{Z ν:yu}{ls:List (Option qf)}(h:∀i l,ls[i]? = I (I l)->l.eval Z=meas (ν i)):∀{l:List (Int×Nat)} {m:qf},qe0 ls l=I m->m.eval Z=jk ν l
 | [],m,hm=>by cases hm;rw[qf.ja];rfl
 | (c,x)::r,m,hm=>by
   unfold qe0 at hm;split at hm
   .rename_i l m' h1 h2;cases hm;rw[qf.add_eval,qf.vg,h x l h1,ql0 h h2];rfl
   .cases hm
theorem qba{Z ν:yu}{ls:List (Option qf)}(h:∀i l,ls[i]? = I (I l)->l.eval Z=meas (ν i)){l m:qf}(hm:qvr ls l=I m):m.eval Z=l.eval ν:=by
 unfold qvr at hm;cases hq:qe0 ls l.ts with
 | none=>rw[hq] at hm;cases hm
 | some m'=>
   rw[hq] at hm;have hm:=oi hm;subst hm;rw[qf.xh,ql0 h hq];unfold qf.eval;omega
def qm0(S:St)(tb:yg)(p:PT)(x:XV):Option (List SV):=match p,x with
 | .one ct,.v (.one s)=>if S.has tb s ct then I [s] else V
 | .agg l,.v (.agg c)=>if decide (c.length=l.length) && (c.zip l).all (λq=>S.has tb q.1 q.2) then I c else V
 | .con c,.v (.one (.con v))=>if eqV v c then I [] else V
 | _,_=>V
def qe2(S:St)(tb:yg):List PT->List Operand->Option (List SV)
 | [],[]=>I []
 | p::ps,x::xs=>match S.op x,qe2 S tb ps xs with
   | some v,I r=>(qm0 S tb p v).map λc=>c++r
   | _,_=>V
 | _,_=>V
def qnb(nv:Nat):PT->TV
 | .agg l=>.agg (vars nv l.length)
 | _=>.one (.var nv)
def qhk(nv:Nat):List PT->List TV
 | []=>[]
 | p::ps=>qnb nv p::qhk (nv+p.cts.length) ps
def quw(nv:Nat)(rs:List PT):XV:=match rs with
 | [p]=>.v (qnb nv p)
 | _=>.tup (qhk nv rs)
def qva:PT->Bool
 | .con _=>ns
 | _=>nr
def qka(n:Nat):Nat->List (Option qf)
 | 0=>[]
 | k+1=>I (qf.at n)::qka (n+1) k
def qg4{α β:Type}(f:α->Option β):List α->Option (List β)
 | []=>I []
 | x::r=>match f x,qg4 f r with
   | some y,I l=>I (y::l)
   | _,_=>V
theorem qsh{α β:Type}{f:α->Option β}:∀{l:List α} {m:List β},qg4 f l=I m->∀y∈m,∃x∈l,f x=I y
 | [],m,h,y,hy=>by cases h;cases hy
 | x::r,m,h,y,hy=>by
   unfold qg4 at h;split at h
   .rename_i z l h1 h2;cases h;rcases cu.1 hy with rfl|hy
    .exact⟨x,kq,h1⟩
    .obtain⟨x',g1,g2⟩:=qsh h2 y hy;exact⟨x',by simp[g1],g2⟩
   .cases h
def qyt(f:qf->Option qf):BE->Option BE
 | .tt b=>I (.tt b)
 | .ge l=>(f l).map .ge
 | .eq l=>(f l).map .eq
 | .var _=>V
 | .not a=>(qyt f a).map .not
 | .and a b=>match qyt f a,qyt f b with
   | some x,I y=>I (.and x y)
   | _,_=>V
 | .or a b=>match qyt f a,qyt f b with
   | some x,I y=>I (.or x y)
   | _,_=>V
theorem qj4{f:qf->Option qf}{Z ν:yu}(h:∀l m,f l=I m->m.eval Z=l.eval ν):∀{e b:BE},qyt f e=I b->b.den Z=e.den ν
 | .tt c,b,hb=>by cases hb;rfl
 | .ge l,b,hb=>by
   simp only[qyt,ea] at hb;obtain⟨m,h1,rfl⟩:=hb;simp only[BE.den,h l m h1]
 | .eq l,b,hb=>by
   simp only[qyt,ea] at hb;obtain⟨m,h1,rfl⟩:=hb;simp only[BE.den,h l m h1]
 | .var n,b,hb=>by cases hb
 | .not a,b,hb=>by
   simp only[qyt,ea] at hb;obtain⟨m,h1,rfl⟩:=hb;simp only[BE.den,qj4 h h1]
 | .and a c,b,hb=>by
   unfold qyt at hb;split at hb
   .rename_i x y h1 h2;cases hb;simp only[BE.den,qj4 h h1,qj4 h h2]
   .cases hb
 | .or a c,b,hb=>by
   unfold qyt at hb;split at hb
   .rename_i x y h1 h2;cases hb;simp only[BE.den,qj4 h h1,qj4 h h2]
   .cases hb
def beXV(C:zu)(nv:Nat)(cs:List SV):XV:=match C.be with
 | some e=>match C.rs with
   | [_]=>match qyt (qvr (cs.map SV.meas)) e with
     | some b=>.v (.one (.be b))
     | none=>quw nv C.rs
   | _=>quw nv C.rs
 | none=>quw nv C.rs
def qwo(tb:yg)(C:zu)(S:St)(args:List Operand):Option qqa:=match qe2 S tb C.ps args with
 | some cs=>if C.pre.all (λl=>match qvr (cs.map SV.meas) l with|some m=>S.ent m|none=>ns) && C.rs.all qva then
    match qg4 (qvr (cs.map SV.meas++qka S.nv (jb C.rs).length)) C.post with
    | some fs=>I ⟨⟨beXV C S.nv cs,jb C.rs,fs⟩,.no,C.pu⟩
    | none=>V
   else V
 | none=>V
section
variable {P:ma}{cx:Cx}{W0:nu}{S:St}{base:Nat}{Z:yu}{T T':Nat->Prop}{w w':nu}{a:Act}{Ω:yu->Prop}
theorem q3c{ct:CT}{b:Nat}(h:CV cx.tb W0 T w base ct v)(hl:ct.low=nr):CV cx.tb W0 T w b ct v:=(h.mono (xq.refl T w) (cr _)).qzg hl b
theorem q4w{p:PT}{cs:List SV}(h:qm0 S cx.tb p x=I cs)(hs:xg cx.tb W0 S base Z T w):(p.cts.all CT.low=nr->∀b,zq cx.tb W0 T w b p (x.den Z))/\p.cells (x.den Z)=qw Z cs:=by
 unfold qm0 at h;split at h
 .rename_i ct s;split at h
  .rename_i hc;cases h;exact⟨λhl b=>q3c (qx0 hs hc) (by simpa[PT.cts] using hl),rfl⟩
  .cases h
 .rename_i l c;split at h
  .rename_i hc;cases h;simp only[ag,decide_eq_true_eq] at hc;refine⟨λhl b=>⟨(qw Z cs).toArray,rfl,by simpa[qw] using hc.1,λi ct u h1 h2=>?_⟩,rfl⟩;simp only[qw,ga,dh] at h2;cases hq:cs[i]? with
   | none=>rw[hq] at h2;cases h2
   | some s=>
     rw[hq] at h2;cases h2
     have hz:=ao.1 hc.2 (s,ct) (by
      refine ph.2 ⟨i,?_⟩;rw[mv]
      exact⟨hq,h1⟩)
     exact q3c (qx0 hs hz) (ao.1 hl ct (cm h1))
  .cases h
 .split at h
  .rename_i hc;cases h;refine⟨λ_ _=>?_,rfl⟩;have:=q1p hc;exact this
  .cases h
 .cases h
theorem qv8(hs:xg cx.tb W0 S base Z T w)(he:qqz S Z a):∀{ps:List PT} {xs:List Operand} {cs:List SV},qe2 S cx.tb ps xs=I cs->(jb ps).all CT.low=nr ->
  (∀b,qqk cx.tb W0 T w b ps (xs.map a.eval))/\zt ps (xs.map a.eval)=qw Z cs
 | [],[],cs,h,hl=>by cases h;exact⟨λ_=>trivial,rfl⟩
 | p::ps,x::xs,cs,h,hl=>by
   unfold qe2 at h;split at h
   .rename_i v r hv hr;cases hq:qm0 S cx.tb p v with
    | none=>rw[hq] at h;cases h
    | some c=>
      rw[hq] at h;have h:=oi h;subst h;simp only[jb,ik,List.all_append,ag] at hl;obtain⟨g1,g2⟩:=q4w hq hs;obtain⟨k1,k2⟩:=qv8 hs he hr hl.2;rw[<-qyz he hv] at g1 g2;refine⟨λb=>⟨g1 hl.1 b,k1 b⟩,?_⟩;simp only[fg,zt,g2,k2,qw,ow]
   .cases h
 | [],_::_,cs,h,hl=>by cases h
 | _::_,[],cs,h,hl=>by cases h
theorem qeh:∀(k n i:Nat) (l:Option qf),(qka n k)[i]? = I l->i<k/\l=I (qf.at (n+i))
 | 0,n,i,l,h=>by cases h
 | k+1,n,0,l,h=>by cases h;exact⟨kg,rfl⟩
 | k+1,n,i+1,l,h=>by
   simp only[qka,fq] at h;obtain⟨h1,h2⟩:=qeh k (n+1) i l h;exact⟨kg,by rw[h2,show n+1+i=n+(i+1) by omega]⟩
theorem qz5{p:PT}(h:zq cx.tb W0 T w base p v)(hc:qva p=nr):p.cells v=v.cells.toList/\(p.cells v).length=p.cts.length/\∀(i:Nat) (ct:CT) (u:ny),p.cts[i]? = I ct->(p.cells v)[i]? = I u->CV cx.tb W0 T w base ct u:=by
 cases p with
 | con c=>cases hc
 | one ct=>
   have h1:v.cells.toList=[v]:=by
    have:=CV.one h;cases v<;>first|rfl|cases this
   refine⟨h1.symm,rfl,λi ct' u h2 h3=>?_⟩;cases i with
   | zero=>
     simp only[PT.cts,PT.cells,db,bc] at h2 h3;subst h2;subst h3;exact h
   | succ i=>simp[PT.cts] at h2
 | agg l=>
   obtain⟨cs,rfl,h1,h2⟩:=h;refine⟨rfl,by simpa[PT.cells,PT.cts,mw] using h1,λi ct u h3 h4=>h2 i ct u h3 ?_⟩;simpa[PT.cells,mw] using h4
theorem qbm:∀{ps:List PT} {vs:List ny},qqk cx.tb W0 T w base ps vs->ps.all qva=nr->zt ps vs=vs.flatMap (λv=>v.cells.toList)/\(zt ps vs).length=(jb ps).length /\
  (∀(i:Nat) (ct:CT) (u:ny),(jb ps)[i]? = I ct->(zt ps vs)[i]? = I u->CV cx.tb W0 T w base ct u)
 | [],[],_,_=>⟨rfl,rfl,λi ct u h=>by simp[jb] at h⟩
 | p::ps,v::vs,h,hc=>by
   simp only[og,ag] at hc;obtain⟨h1,h2⟩:=h;obtain⟨g1,g2,g3⟩:=qz5 h1 hc.1;obtain⟨k1,k2,k3⟩:=qbm h2 hc.2;refine⟨by simp only[zt,ik,k1,g1],by simp only[zt,jb,ik,gk,g2];rw[k2];rfl,λi ct u h3 h4=>?_⟩;simp only[jb,ik] at h3;simp only[zt] at h4;by_cases hi:i<p.cts.length
   .rw[cd hi] at h3;rw[cd kg] at h4;exact g3 i ct u h3 h4
   .rw[bq kg] at h3;rw[bq kg,g2] at h4;exact k3 _ ct u h3 h4
theorem qv0{p:PT}(h:zq cx.tb W0 T w base p v)(hc:qva p=nr)(hb:∀i u,(p.cells v)[i]? = I u->Z (nv+i)=u):(qnb nv p).den Z=v:=by
 cases p with
 | con c=>cases hc
 | one ct=>
   have:=hb 0 v rfl;exact this
 | agg l=>
   obtain⟨cs,rfl,h1,h2⟩:=h;show Value.agg _=Value.agg cs;congr 1;apply gq.1;refine List.ext_getElem? (λi=>?_);simp only[qw,dh];by_cases hi:i<l.length
   .rw[qac _ _ _ hi];simp only[dv,SV.den];have hi':i<cs.toList.length:=by simpa[h1] using hi
    rw[ah hi',hb i cs.toList[i] (by simp[PT.cells,mw,ah hi'])]
   .rw[dn (by rw[qal];omega),dn nc];rfl
theorem qcr:∀{ps:List PT} {vs:List ny} {nv:Nat},qqk cx.tb W0 T w base ps vs->ps.all qva=nr->(∀i u,(zt ps vs)[i]? = I u->Z (nv+i)=u)->(qhk nv ps).map (TV.den Z)=vs
 | [],[],nv,_,_,_=>rfl
 | p::ps,v::vs,nv,h,hc,hb=>by
   simp only[og,ag] at hc;obtain⟨h1,h2⟩:=h;obtain⟨g1,g2,g3⟩:=qz5 h1 hc.1;simp only[qhk,fg]
   rw[qv0 h1 hc.1 (λi u hi=>hb i u (by
    simp only[zt]
    rw[cd (al.1 hi).1];exact hi)),qcr h2 hc.2 (λi u hi=>by
    have:=hb (p.cts.length+i) u (by
     simp only[zt]
     rw[bq kg,g2,dm];exact hi)
    rw[<-this];congr 1;omega)]
theorem q4l{C:zu}{args ats:Array _}{r:qqa}(hC:qm P cx W0 f C)(hlow:(jb C.ps).all CT.low=nr)(ho:o.op=.call { callee:=.value (.func f),args,argTypes:=ats })(h:qwo cx.tb C S args.toList=I r)(H:qqu cx W0 S base Ω T w a) :
  jc P cx W0 S base Ω T w a o r:=by
 obtain⟨⟨fn,hf1,hf2,hf3⟩,hC⟩:=hC;obtain⟨ρ0,h0⟩:=H.ex;have hs0:=H.sat ρ0 h0;unfold qwo at h;split at h
 .rename_i cs hcs;split at h
  .rename_i hc;simp only[ag] at hc;obtain⟨hpre,hnc⟩:=hc;split at h
   .rename_i fs hfs;cases h;obtain⟨t1,t2⟩:=qv8 hs0 (H.env ρ0 h0) hcs hlow
    have hrun:(execOp a.eval o).run P w=.ok (.enter f (args.map a.eval)) w:=by
     have hn:(fn.name == "runtime.NumGoroutine")=ns:=hf2;simp only[execOp,ho,resolve,abd,ai,eb,aq];have he:a.eval (.func f)=.func (.func f) #[] #[]:=rfl;rw[he];simp only[abd,eb,aq,invoke,callFunc,ai,run_program,hf1];rw[if_neg (by rw[hn];simp),if_neg (by rw[hf3];simp)];simp
    unfold jc;rw[hrun];have hargs:(args.map a.eval).toList=args.toList.map a.eval:=kq;refine(hC T w (args.map a.eval) hs0.wt (by rw[hargs];exact t1 _) (λl hl=>?_)).mono ?_
    .have:=ao.1 hpre l hl;split at this
     .rename_i m hm;have e:=hs0.ent this;rw[hargs,t2,<-qba (ν:=valOf (qw ρ0 cs)) (λi l' hl'=>?_) hm]
      .exact e
      .rw[dh] at hl';cases hq:cs[i]? with
       | none=>rw[hq] at hl';cases hl'
       | some s=>
         rw[hq] at hl';rw[SV.qv2 _ (oi hl')];simp[valOf,qw,hq]
     .cases this
    .rintro e w' ⟨v,vs,T',rfl,hres,hty,hpost,hbe,hhist,hwt⟩;refine⟨v,rfl,T',V,⟨hwt,hhist.ext,hhist.new,hhist.size,hhist.os,hhist.tape,hhist.output,λb hb hT _=>hhist.keep b hb (.inr hT),λb hb hk=>hhist.keep b (bf hb hs0.bs) hk,λhk b hb hT=>hhist.kpt hk b (bf hb hs0.bs) hT⟩,λZ hρ hblk=>⟨?_,rfl⟩⟩;obtain⟨c1,c2,c3⟩:=qbm hty hnc
     have qhd:qzs v=zt C.rs vs:=by
      rw[c1];unfold qu6 at hres;split at hres
      .rename_i p hrs;subst hres;have hty':=hty;rw[hrs] at hty' hnc;obtain⟨g1,-,-⟩:=qz5 hty'.1 (by simpa using hnc);simp only[ik,List.flatMap_nil,List.append_nil];cases p with
       | con c=>simp[qva] at hnc
       | one ct=>rw[qgt (CV.one hty'.1),<-g1];rfl
       | agg l=>
         obtain⟨cs',rfl,-⟩:=hty'.1;rfl
      .subst hres;rfl
     have hget:∀i u,(zt C.rs vs)[i]? = I u->Z (S.nv+i)=u:=λi u hi=>by
      have hlt:i<(jb C.rs).length:=by rw[<-c2];exact(al.1 hi).1
      rw[hblk i hlt,qhd,bn,hi];rfl
     intro _;refine⟨?_,λi ct hi=>?_,λfl hfl=>?_⟩
     .have hsame:∀Z,Ω Z->qw Z cs=qw ρ0 cs:=λZ hρ=>by
       rw[<-(qv8 (H.sat Z hρ) (H.env Z hρ) hcs hlow).2,t2]
      have hsb:∀l m,qvr (cs.map SV.meas) l=I m->m.eval Z=l.eval (valOf (qw Z cs)):=λl m hm=>qba (ν:=valOf (qw Z cs)) (λi l' hl'=>by
       rw[dh] at hl';cases hq:cs[i]? with
       | none=>rw[hq] at hl';cases hl'
       | some s=>
         rw[hq] at hl';rw[SV.qv2 _ (oi hl')]
         simp[valOf,qw,hq]) hm
      have hbv:∀e b p,C.be=I e->C.rs=[p]->qyt (qvr (cs.map SV.meas)) e=I b->v=(SV.be b).den Z:=by
       intro e b p h1 h2 h3;have h4:=hbe e h1;unfold qu6 at hres;rw[h2] at hres;simp only at hres;rw[hres] at h4;injection h4 with h4;rw[h4,hargs,t2,<-hsame Z hρ];show _=Value.bool (b.den Z);rw[qj4 hsb h3]
      show v=(beXV C S.nv cs).den Z
      have hgen:v=(quw S.nv C.rs).den Z:=by
       clear hbv;unfold qu6 at hres;unfold quw;split at hres
       .rename_i p hrs;subst hres;have hty':=hty;rw[hrs] at hty' hget hnc;exact(qv0 hty'.1 (by simpa using hnc) (λi u hi=>hget i u (by simpa[zt] using hi))).symm
       .rename_i hne;subst hres;show Value.tuple _=Value.tuple _;rw[qcr hty hnc hget]
      unfold beXV;split
      .rename_i e he;split
       .rename_i p hp1;split
        .rename_i b' hb';exact hbv e b' p he hp1 hb'
        .exact hgen
       .exact hgen
      .exact hgen
     .have hlt:i<(zt C.rs vs).length:=by rw[c2];exact(al.1 hi).1
      have hu:=ah hlt;rw[hget i _ hu];exact(c3 i ct _ hi hu).mono (xq.refl _ _) hs0.bs
     .obtain⟨l,hl1,hl2⟩:=qsh hfs fl hfl;have hp:=hpost l hl1;rw[hargs,t2] at hp
      have hsame:∀Z,Ω Z->qw Z cs=qw ρ0 cs:=λZ hρ=>by
       rw[<-(qv8 (H.sat Z hρ) (H.env Z hρ) hcs hlow).2,t2]
      rw[<-hsame Z hρ] at hp;rw[qba (ν:=valOf (qw Z cs++zt C.rs vs)) (λi l' hl'=>?_) hl2]
      .exact hp
      .by_cases hi:i<cs.length
       .rw[cd (by simpa using hi),dh,ah hi] at hl';rw[SV.qv2 _ (oi hl')];simp[valOf,qw,cd,hi]
       .rw[bq (by simpa using abc hi),iu] at hl';obtain⟨h1,h2⟩:=qeh _ _ _ _ hl';cases h2;have hlt:i-cs.length<(zt C.rs vs).length:=kg;rw[qf.yl,hget _ _ (ah hlt)];unfold valOf;rw[bn,bq (by simp[qw];omega)];simp only[qw,iu];rw[ah hlt];rfl
   .cases h
  .cases h
 .cases h
end
open Go.RowKit
def qv1:Nat->Nat->List PT->List (Nat×XV)
 | _,_,[]=>[]
 | t,nv,.con v::ps=>(t,.v (.one (.con v)))::qv1 (t+1) nv ps
 | t,nv,p::ps=>(t,.v (qnb nv p))::qv1 (t+1) (nv+p.cts.length) ps
def qpy(C:zu):St:={ nv:=(jb C.ps).length,env:=qv1 0 0 C.ps,ty:=qa4 0 (jb C.ps),fs:=C.pre,bx:=[] }
def qhw(cx:Cx)(S:St):ResultVar->Option TV
 | .tmp t=>match look S.env t with
   | some (.v tv)=>I tv
   | _=>V
 | .cell a t=>match look S.env a with
   | some (.v (.one s))=>match qh9 cx S t s with
     | some ⟨.v tv,[],_⟩=>I tv
     | _=>V
   | _=>V
def qp7(S:St)(tb:yg):PT->TV->Bool
 | .one ct,.one s=>S.has tb s ct
 | .agg l,.agg c=>decide (c.length=l.length) && (c.zip l).all (λq=>S.has tb q.1 q.2)
 | _,_=>ns
def qfi(S:St)(tb:yg):List PT->List TV->Bool
 | [],[]=>nr
 | p::ps,v::vs=>qp7 S tb p v && qfi S tb ps vs
 | _,_=>ns
def qq7(g:qks)(fs:List qf):Bool->BE->Bool
 | β,.tt c=>decide (c=β) || ent g fs 5 (qf.k (-1))
 | true,.ge l=>ent g fs 5 l
 | false,.ge l=>ent g fs 5 ((l.sc (-1)).pl (-1))
 | true,.eq l=>ent g fs 5 l && ent g fs 5 (l.sc (-1))
 | false,.eq l=>ent g fs 5 (l.pl (-1)) || ent g fs 5 ((l.sc (-1)).pl (-1))
 | β,.not a=>qq7 g fs (!β) a
 | true,.and a b=>qq7 g fs nr a && qq7 g fs nr b
 | false,.and a b=>qq7 g fs ns a || qq7 g fs ns b
 | true,.or a b=>qq7 g fs nr a || qq7 g fs nr b
 | false,.or a b=>qq7 g fs ns a && qq7 g fs ns b
 | _,.var _=>ent g fs 5 (qf.k (-1))
theorem q08{g:qks}{Z:yu}(hg:g.ok Z){fs:List qf}(hf:∀f∈fs,0<=f.eval Z):∀(e:BE) (β:Bool),qq7 g fs β e=nr->e.den Z=β:=by
 have qvk:¬ent g fs 5 (qf.k (-1))=nr:=λh=>by
  have:=qqn g Z hg fs hf _ _ h;rw[qf.ja] at this;omega
 intro e
 induction e with
 | tt c=>intro β h;simp only[qq7,cj,decide_eq_true_eq] at h;exact h.resolve_right qvk
 | ge l=>
   intro β h;cases β
   .have:=qqn g Z hg fs hf _ _ h;rw[qf.xh,qf.vg] at this;simp only[BE.den,decide_eq_false_iff_not];omega
   .have:=qqn g Z hg fs hf _ _ h;simp only[BE.den,decide_eq_true_eq];omega
 | eq l=>
   intro β h;cases β
   .simp only[qq7,cj] at h;simp only[BE.den,decide_eq_false_iff_not];rcases h with h|h
    .have:=qqn g Z hg fs hf _ _ h;rw[qf.xh] at this;omega
    .have:=qqn g Z hg fs hf _ _ h;rw[qf.xh,qf.vg] at this;omega
   .simp only[qq7,ag] at h;have h1:=qqn g Z hg fs hf _ _ h.1;have h2:=qqn g Z hg fs hf _ _ h.2;rw[qf.vg] at h2;simp only[BE.den,decide_eq_true_eq];omega
 | var n=>intro β h;cases β<;>exact absurd h qvk
 | not a ih=>intro β h;simp only[qq7] at h;simp only[BE.den,ih _ h,Bool.not_not]
 | and a b iha ihb=>
   intro β h;cases β
   .simp only[qq7,cj] at h;rcases h with h|h
    .simp[BE.den,iha _ h]
    .simp[BE.den,ihb _ h]
   .simp only[qq7,ag] at h;simp[BE.den,iha _ h.1,ihb _ h.2]
 | or a b iha ihb=>
   intro β h;cases β
   .simp only[qq7,ag] at h;simp[BE.den,iha _ h.1,ihb _ h.2]
   .simp only[qq7,cj] at h;rcases h with h|h
    .simp[BE.den,iha _ h]
    .simp[BE.den,ihb _ h]
def qf.below(n:Nat)(l:qf):Bool:=l.ts.all λp=>decide (p.2<n)
def BE.qke(n:Nat):BE->Bool
 | .tt _=>nr
 | .ge l=>l.below n
 | .eq l=>l.below n
 | .var _=>ns
 | .not a=>BE.qke n a
 | .and a b=>BE.qke n a && BE.qke n b
 | .or a b=>BE.qke n a && BE.qke n b
def qh0(g:qks)(fs:List qf)(β:Bool)(e:BE):Bool:=(fs.any λf=>f.ts.isEmpty && decide (f.c<0)) || ent g fs 5 (qf.k (-1)) || qq7 g fs β e
theorem ql8{g:qks}{Z:yu}(hg:g.ok Z){fs:List qf}(hf:∀f∈fs,0<=f.eval Z)(e:BE)(β:Bool)(h:qh0 g fs β e=nr):e.den Z=β:=by
 unfold qh0 at h;rcases(cj _ _).mp h with h|h
 .rcases(cj _ _).mp h with h|h
  .obtain⟨f,hfm,h⟩:=gn.1 h;simp only[ag,List.isEmpty_iff,decide_eq_true_eq] at h;have:=hf f hfm;unfold qf.eval at this;rw[h.1] at this;simp only[jk] at this;omega
  have:=qqn g Z hg fs hf _ _ h;rw[qf.ja] at this;omega
 .exact q08 hg hf e β h
def qbp:BE->BE->Bool
 | .tt a,.tt b=>a == b
 | .ge l,.ge m=>qrt l m
 | .eq l,.eq m=>qrt l m
 | .var n,.var m=>decide (n=m)
 | .not a,.not b=>qbp a b
 | .and a b,.and c d=>qbp a c && qbp b d
 | .or a b,.or c d=>qbp a c && qbp b d
 | _,_=>ns
theorem qaa:∀{a b:BE},qbp a b=nr->a=b
 | .tt a,.tt b,h=>by simp only[qbp,beq_iff_eq] at h;rw[h]
 | .ge l,.ge m,h=>by rw[qca h]
 | .eq l,.eq m,h=>by rw[qca h]
 | .var n,.var m,h=>by rw[of_decide_eq_true h]
 | .not a,.not b,h=>by rw[qaa (a:=a) (b:=b) h]
 | .and a b,.and c d,h=>by
   simp only[qbp,ag] at h;rw[qaa h.1,qaa h.2]
 | .or a b,.or c d,h=>by
   simp only[qbp,ag] at h;rw[qaa h.1,qaa h.2]
def beOk(S:St)(C:zu)(tvs:List TV):Bool:=match C.be with
 | none=>nr
 | some e=>BE.qke (jb C.ps).length e && match tvs with
   | [.one s]=>match S.be s with
     | some b=>qbp b e || qh0 S.rng (qq8 S.rng S.fs nr b++S.fs) nr e && qh0 S.rng (qq8 S.rng S.fs ns b++S.fs) ns e
     | none=>ns
   | _=>ns
def retOk(cx:Cx)(C:zu)(results:List ResultVar)(S:St):Bool:=match qg4 (qhw cx S) results with
 | some tvs=>qfi S cx.tb C.rs tvs && beOk S C tvs && C.post.all λl=>match qvr (qka 0 (jb C.ps).length++(tvs.flatMap TV.cells).map SV.meas) l with
   | some m=>S.ent m
   | none=>ns
 | none=>ns
theorem qf.qda{n:Nat}{l:qf}(h:l.below n=nr){Z ν:yu}(he:∀x,x<n->Z x=ν x):l.eval Z=l.eval ν:=by
 obtain⟨c,ts⟩:=l;have h':∀p∈ts,p.2<n:=λp hp=>of_decide_eq_true (ao.1 h p hp)
 have:jk Z ts=jk ν ts:=by
  clear h
  induction ts with
  | nil=>rfl
  | cons p r ih=>
    obtain⟨a,x⟩:=p;simp only[jk];rw[he x (h' (a,x) kq),ih (λp hp=>h' p (by simp[hp]))]
 simp only[qf.eval,this]
theorem BE.qxd{n:Nat}{Z ν:yu}(he:∀x,x<n->Z x=ν x):∀{e:BE},BE.qke n e=nr->e.den Z=e.den ν
 | .tt _,_=>rfl
 | .ge l,h=>by simp only[BE.den,qf.qda h he]
 | .eq l,h=>by simp only[BE.den,qf.qda h he]
 | .var _,h=>by cases h
 | .not a,h=>by simp only[BE.den,BE.qxd he (e:=a) h]
 | .and a b,h=>by simp only[BE.qke,ag] at h;simp only[BE.den,BE.qxd he h.1,BE.qxd he h.2]
 | .or a b,h=>by simp only[BE.qke,ag] at h;simp only[BE.den,BE.qxd he h.1,BE.qxd he h.2]
def isRet:Ex->Bool
 | .ext _=>ns
 | _=>nr
def fnOk(c:q4y)(C:zu)(code:Code)(results:List ResultVar):Bool:=decide (C.ps.length<=c.N) && C.rs.all qva && C.pre.all (qf.below (jb C.ps).length) && match qzd c 0 code (qpy C) with
 | some outs=>outs.all λp=>isRet p.1 && retOk c.cx C results p.2
 | none=>ns
section
variable {P:ma}{cx:Cx}{W0:nu}{S:St}{base:Nat}{Z:yu}{T T':Nat->Prop}{w w':nu}{a:Act}{Ω:yu->Prop}
theorem ql4:∀(ps:List PT) (vs:List ny) (t nv:Nat),qqk cx.tb W0 T w base ps vs->(∀i u,(zt ps vs)[i]? = I u->Z (nv+i)=u)->∀t' x,look (qv1 t nv ps) t'=I x->∃i v,t'=t+i/\vs[i]? = I v/\v=x.den Z
 | [],[],t,nv,_,_,t',x,h=>by cases h
 | p::ps,v::vs,t,nv,h,hb,t',x,hx=>by
   obtain⟨h1,h2⟩:=h
   have hrest:∀(n:Nat),(∀i u,(zt ps vs)[i]? = I u->Z (n+i)=u)->look (qv1 (t+1) n ps) t'=I x->∃i u,t'=t+i/\(v::vs)[i]? = I u/\u=x.den Z:=λn hn hl=>by
    obtain⟨i,u,g1,g2,g3⟩:=ql4 ps vs (t+1) n h2 hn t' x hl;exact⟨i+1,u,kg,g2,g3⟩
   cases p with
   | con c=>
     simp only[qv1,look] at hx;split at hx
     .rename_i e;cases hx;exact⟨0,v,kg,rfl,h1⟩
     .exact hrest nv (λi u hi=>hb i u (by simpa[zt,PT.cells] using hi)) hx
   | one ct=>
     simp only[qv1,look] at hx;obtain⟨g1,g2,g3⟩:=qz5 h1 rfl;split at hx
     .rename_i e;cases hx
      exact⟨0,v,kg,rfl,(qv0 h1 rfl (λi u hi=>hb i u (by
       simp only[zt];rw[cd (al.1 hi).1];exact hi))).symm⟩
     .exact hrest _ (λi u hi=>by
       rw[gi];refine hb _ u ?_;simp only[zt]
       rw[bq kg,g2,dm];exact hi) hx
   | agg l=>
     simp only[qv1,look] at hx;obtain⟨g1,g2,g3⟩:=qz5 h1 rfl;split at hx
     .rename_i e;cases hx
      exact⟨0,v,kg,rfl,(qv0 h1 rfl (λi u hi=>hb i u (by
       simp only[zt];rw[cd (al.1 hi).1];exact hi))).symm⟩
     .exact hrest _ (λi u hi=>by
       rw[gi];refine hb _ u ?_;simp only[zt]
       rw[bq kg,g2,dm];exact hi) hx
theorem qe6:∀{ps:List PT} {vs:List ny},qqk cx.tb W0 T w base ps vs->(zt ps vs).length=(jb ps).length/\∀(i:Nat) (ct:CT) (u:ny),(jb ps)[i]? = I ct->(zt ps vs)[i]? = I u->CV cx.tb W0 T w base ct u
 | [],[],_=>⟨rfl,λi ct u h=>by simp[jb] at h⟩
 | p::ps,v::vs,h=>by
   obtain⟨h1,h2⟩:=h;obtain⟨k2,k3⟩:=qe6 h2
   have g:(p.cells v).length=p.cts.length/\∀(i:Nat) (ct:CT) (u:ny),p.cts[i]? = I ct->(p.cells v)[i]? = I u->CV cx.tb W0 T w base ct u:=by
    cases p with
    | con c=>exact⟨rfl,λi ct u h=>by simp[PT.cts] at h⟩
    | one ct=>exact(qz5 h1 rfl).2
    | agg l=>exact(qz5 h1 rfl).2
   obtain⟨g2,g3⟩:=g;refine⟨by simp only[zt,jb,ik,gk,g2];rw[k2];rfl,λi ct u h3 h4=>?_⟩;simp only[jb,ik] at h3;simp only[zt] at h4;by_cases hi:i<p.cts.length
   .rw[cd hi] at h3;rw[cd kg] at h4;exact g3 i ct u h3 h4
   .rw[bq kg] at h3;rw[bq kg,g2] at h4;exact k3 _ ct u h3 h4
theorem uk:∀{ps:List PT} {vs:List ny},qqk cx.tb W0 T w base ps vs->ps.length=vs.length
 | [],[],_=>rfl
 | p::ps,v::vs,h=>by simp only[List.length_cons];rw[uk h.2]
theorem q1g{p:PT}(h:qp7 S cx.tb p tv=nr)(hs:xg cx.tb W0 S base Z T w):zq cx.tb W0 T w base p (tv.den Z)/\p.cells (tv.den Z)=qw Z tv.cells:=by
 unfold qp7 at h;split at h
 .exact⟨qx0 hs h,rfl⟩
 .rename_i l c;simp only[ag,decide_eq_true_eq] at h;refine⟨⟨(qw Z c).toArray,rfl,by simpa[qw] using h.1,λi ct u h1 h2=>?_⟩,rfl⟩;simp only[qw,ga,dh] at h2;cases hq:c[i]? with
  | none=>rw[hq] at h2;cases h2
  | some s=>
    rw[hq] at h2;cases h2
    exact qx0 hs (ao.1 h.2 (s,ct) (by
     refine ph.2 ⟨i,?_⟩;rw[mv]
     exact⟨hq,h1⟩))
 .cases h
theorem qhj(hs:xg cx.tb W0 S base Z T w):∀{ps:List PT} {tvs:List TV},qfi S cx.tb ps tvs=nr->qqk cx.tb W0 T w base ps (tvs.map (TV.den Z))/\zt ps (tvs.map (TV.den Z))=qw Z (tvs.flatMap TV.cells)
 | [],[],_=>⟨trivial,rfl⟩
 | p::ps,v::vs,h=>by
   simp only[qfi,ag] at h;obtain⟨g1,g2⟩:=q1g h.1 hs;obtain⟨k1,k2⟩:=qhj hs h.2;refine⟨⟨g1,k1⟩,?_⟩;simp only[fg,zt,g2,k2,qw,ik,ow]
 | [],_::_,h=>by cases h
 | _::_,[],h=>by cases h
def rv(a:Act):ResultVar->Sem ny
 | .tmp t=>pure (a.tmps.getD t mc)
 | .cell ad t=>do loadVar t (<-asAddr (a.tmps.getD ad mc))
theorem q2w(hcx:yj P cx){r:ResultVar}(h:qhw cx S r=I tv)(hs:xg cx.tb W0 S base Z T w)(he:qqz S Z a):(rv a r).run P w=.ok (tv.den Z) w:=by
 cases r with
 | tmp t=>
   simp only[qhw] at h;split at h
   .rename_i tv' htv;cases h;have:a.tmps.getD t mc=tv.den Z:=he t _ htv;simp[rv,this]
   .cases h
 | cell ad t=>
   simp only[qhw] at h;split at h
   .rename_i s hsl;split at h
    .rename_i tv' f hl;cases h;have hv:a.tmps.getD ad mc=s.den Z:=he ad _ hsl;obtain⟨r,h1,h2⟩:=qpw (Ω:=λZ'=>Z'=Z) hcx hl ⟨Z,rfl⟩ (λZ' h=>by rw[h];exact hs) (u:=s.den Z) (λZ' h=>by rw[h]);obtain⟨h3,-⟩:=h2 Z rfl (λi hi=>by simp at hi)
     have hp:∃n off,S.ptr s=I (n,off):=by
      unfold qh9 at hl;split at hl
      .rename_i n off d hp hd;exact⟨n,off,hp⟩
      .cases hl
     obtain⟨n,off,hp⟩:=hp;have hd:=qyw hs hp;rw[hd] at h1 hv;simp only[rv,hv,asAddr,ai,eb,aq];simp only[Instr.loadAt,Instr.sureAddr,ai,eb,aq] at h1;rw[h1,h3];rfl
    .cases h
   .cases h
theorem qf5(hcx:yj P cx)(hs:xg cx.tb W0 S base Z T w)(he:qqz S Z a):∀{rs:List ResultVar} {tvs:List TV},qg4 (qhw cx S) rs=I tvs->(rs.mapM (rv a)).run P w=.ok (tvs.map (TV.den Z)) w
 | [],tvs,h=>by cases h;rfl
 | r::rs,tvs,h=>by
   unfold qg4 at h;split at h
   .rename_i tv l h1 h2;cases h;have ih:=qf5 hcx hs he h2;have hr:=q2w hcx h1 hs he;rw[tl,ai,hr];simp only[aq];rw[ai,ih];rfl
   .cases h
theorem qu8(fn:Func)(a:Act):results fn a.tmps=(do let vs <-fn.results.mapM (rv a);pure (if h:vs.size=1 then vs[0] else .tuple vs)):=by
 unfold results;congr 2
theorem holds_of{fn:Func}{code:Code}{c:q4y}{C:zu}(hf:P.funcs[f]? = I fn)(hb:fn.body=I code)(hname:(fn.name == "runtime.NumGoroutine")=ns)(hN:fn.ntmps=c.N)(hcx:yj P c.cx)(ht:qbb P c.cx W0 c.step)
  (hd:∀T0 w0,qab P c.cx W0 T0 w0 c.PU c.N c.drawn) (hpu:C.pu=c.PU) (hchk:fnOk c C code fn.results.toList=nr):qm P c.cx W0 f C:=by
 refine⟨⟨fn,hf,hname,by rw[hb];rfl⟩,λT0 w0 args hwt hty hpre=>?_⟩;simp only[fnOk,ag,decide_eq_true_eq] at hchk;obtain⟨⟨⟨hlen,hnc⟩,hbel⟩,hex⟩:=hchk;split at hex
 .rename_i outs qxl;have hal:args.size=C.ps.length:=by rw[<-Array.length_toList];exact(uk hty).symm
  have hcl:=qe6 hty;have hsz:(args++fy (fn.ntmps-args.size) mc).size=c.N:=nc;have hlo:W0.heap.size<=w0.heap.size:=hwt.size
  have hρ:∀Z':yu,(∀n,n<(qpy C).nv->Z' n=valOf (zt C.ps args.toList) n)->∀i u,(zt C.ps args.toList)[i]? = I u->Z' (0+i)=u:=λZ' h i u hi=>by
   have hi':i<(jb C.ps).length:=by rw[<-hcl.1];exact(al.1 hi).1
   rw[bu,h i hi'];unfold valOf;rw[bn,hi];rfl
  have hmod:Mod c.cx W0 T0 w0 c.PU c.N (qpy C) (valOf (zt C.ps args.toList)) T0 { tmps:=args++fy (fn.ntmps-args.size) mc,defers:=[] } w0:=by
   refine⟨hsz,rfl,zg.refl T0 w0 c.PU,λZ' h=>?_,λZ' h t x hx=>?_⟩
   .refine⟨hwt,hlo,af _,λn ct hm=>?_,λl hl=>?_,(λb hb=>by cases hb),(λb hb=>by cases hb)⟩
    .obtain⟨i,rfl,hi⟩:=qkl hm;have hi':i<(zt C.ps args.toList).length:=by rw[hcl.1];exact(al.1 hi).1
     have hu:=ah hi';rw[hρ Z' h i _ hu];exact hcl.2 i ct _ hi hu
    .have:=hpre l hl;rw[qf.qda (ao.1 hbel l hl) h];exact this
   .obtain⟨i,v,h1,h2,h3⟩:=ql4 C.ps args.toList 0 0 hty (hρ Z' h) t x hx;rw[bu] at h1;subst h1;have hia:t<args.size:=by have:=(al.1 h2).1;simpa using this
    rw[<-h3,au,Array.getElem?_append_left hia,<-Array.getElem?_toList,h2];rfl
  refine calls_of_wp hf hb (im (qy1 ht (hd T0 w0) code 0 qxl hmod) ?_);rintro e a' w' ⟨p,hp,rfl,hn⟩;have hpo:=ao.1 hex p hp;simp only[ag] at hpo;obtain⟨hret,hro⟩:=hpo;obtain⟨ex,S'⟩:=p;obtain⟨Z',T',n1,n2,n3,n4⟩:=hn;have hs':=n4.sat Z' (λ_ _=>rfl);have he':=n4.env Z' (λ_ _=>rfl);unfold retOk at hro;split at hro
  .rename_i tvs htvs;simp only[ag] at hro;obtain⟨⟨hfit,hbeok⟩,hpost⟩:=hro;obtain⟨f1,f2⟩:=qhj hs' hfit;have hrun:=qf5 hcx hs' he' htvs
   have hkey:a'.defers=[]/\∃v,(results fn a'.tmps).run P w'=.ok v w'/\(∃v' vs T',Ending.returned v=np v'/\qu6 C.rs v' vs/\qqk c.cx.tb W0 T' w' w0.heap.size C.rs vs/\(∀l∈C.post,0<=l.eval (valOf (zt C.ps args.toList++zt C.rs vs)))/\qt5 C args.toList vs/\zg T0 w0 C.pu T' w'/\WT c.cx.tb W0 T' w'):=by
    refine⟨n4.defers,(if h:(tvs.map (TV.den Z')).toArray.size=1 then(tvs.map (TV.den Z')).toArray[0] else .tuple (tvs.map (TV.den Z')).toArray),?_,_,tvs.map (TV.den Z'),T',rfl,?_,f1,?_,?_,by rw[hpu];exact n4.hist,hs'.wt⟩
    .rw[qu8,ai,Array.mapM_eq_mapM_toList,Sem.run_map,hrun];rfl
    .have hl:=uk f1;unfold qu6;split
     .rename_i p hp1;rw[hp1] at hl;have hl1:tvs.length=1:=by simpa using hl.symm
      match tvs,hl1 with
      | [tv],_=>rfl
     .rename_i hne
      have hl1:¬(tvs.map (TV.den Z')).toArray.size=1:=by
       intro h;have:C.rs.length=1:=by rw[hl];simpa using h
       match hrs:C.rs,this with
       | [p],_=>exact hne p hrs
      rw[dif_neg hl1]
    .intro l hl;have:=ao.1 hpost l hl;split at this
     .rename_i m hm;have e:=hs'.ent this;rw[f2];rw[qba (ν:=valOf (zt C.ps args.toList++qw Z' (tvs.flatMap TV.cells))) (λi l' hl'=>?_) hm] at e
      .exact e
      .by_cases hi:i<(jb C.ps).length
       .have hvl:(qka 0 (jb C.ps).length).length=(jb C.ps).length:=by
         have:∀k n,(qka n k).length=k:=by
          intro k
          induction k with
          | zero=>intro n;rfl
          | succ k ih=>intro n;simp[qka,ih]
         exact this _ _
        rw[cd kg] at hl';obtain⟨-,h2⟩:=qeh _ _ _ _ hl';cases h2;rw[qf.yl,bu];have:Z' i=valOf (zt C.ps args.toList) i:=n1 i hi;rw[this];unfold valOf;rw[bn,bn,cd (by rw[hcl.1];exact hi)]
       .have hvl:(qka 0 (jb C.ps).length).length=(jb C.ps).length:=by
         have:∀k n,(qka n k).length=k:=by
          intro k
          induction k with
          | zero=>intro n;rfl
          | succ k ih=>intro n;simp[qka,ih]
         exact this _ _
        rw[bq kg,hvl,dh] at hl';cases hq:(tvs.flatMap TV.cells)[i-(jb C.ps).length]? with
        | none=>rw[hq] at hl';cases hl'
        | some s=>
          rw[hq] at hl';rw[SV.qv2 _ (oi hl')];unfold valOf;rw[bn,bq (by rw[hcl.1];omega),hcl.1];simp[qw,hq]
     .cases this
    .intro e hce;unfold beOk at hbeok;rw[hce] at hbeok;simp only[ag] at hbeok;obtain⟨hbl,hb2⟩:=hbeok;split at hb2
     .rename_i s;split at hb2
      .rename_i b hb;simp only[ag,cj] at hb2;have e1:=qq1 hs' hb;have e2:e.den Z'=e.den (valOf (zt C.ps args.toList)):=BE.qxd (n:=(jb C.ps).length) (λx hx=>n1 x hx) hbl
       have hfa:∀β,b.den Z'=β->∀f∈qq8 S'.rng S'.fs β b++S'.fs,0<=f.eval Z':=λβ hβ f hf=>by
        rcases bo.1 hf with hf|hf
        .exact qz6 _ Z' hs'.rng _ hs'.fs b β hβ f hf
        .exact hs'.fs f hf
       have e3:e.den Z'=b.den Z':=by
        rcases hb2 with hb2|hb2
        .rw[qaa hb2]
        cases hbb:b.den Z' with
        | true=>exact ql8 hs'.rng (hfa nr hbb) e nr hb2.1
        | false=>exact ql8 hs'.rng (hfa ns hbb) e ns hb2.2
       show [s.den Z']=_;rw[e1,<-e3,e2]
      .cases hb2
     .cases hb2
   cases ex with
   | ext i=>cases hret
   | nrm=>exact hkey
   | ret=>exact hkey
  .cases hro
 .cases hex
end
end Sy
end Go.Proofs.YtmadfhgiaonnlaaGreatDoor
