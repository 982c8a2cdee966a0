import Derived.Laws.MakeOwn
import Derived.Laws.Append
import Derived.Laws.IdiomStrings
import Derived.Laws.BytesArg
import Derived.MapKept
import Derived.Great.BuildSlice
import Derived.Laws.CopyOwn
import Derived.Test.YtmadfhgiaonnlaaGreatDoorPk3
open Array renaming range->la,length_toList->aw,getElem?_eq_some_iff->cl,getElem?_map->aae,getElem?_toList->ax,getElem?_eq_getElem->ak,toList_map->ig,getElem?_append_left->dz,size_append->fw,getElem?_append_right->fh,toList_append->zp,getElem?_eq_none->dq,getElem?_setIfInBounds->bt,getElem_toList->pq
open Bool renaming and_eq_true->ag,not_eq_true'->aaq
open ByteArray renaming empty->abk
open Go renaming heap_alloc_new->gy,run_underlying->bg,run_storeCells_cells->zd,cell_of_row->dx,run_firstCells_none->mn,run_firstCells_some->gu,grownCap_ge->mq,grownCap_le_maxLen->ib,run_append_nil->rf,size_zeroCells->pj
open Go.Addr renaming add_mid->wh
open Go.Builtin renaming zeroCells->gw,lenOf->uv,firstCells->gm,append_->fu,copy_->rp
open Go.Instr renaming buildSlice->po,fill->iv,checkKey->mz,findAsking->wo,findNow->ux,findKey->vd,lookup->mr,keyThatStays->aaf,mapUpdate->lu
open Go.MapKept renaming run_getObj_map->lp
open Go.Op renaming eqFields->aax,maxDepth->tw
open Go.Result renaming andThen_ok->aq
open Go.Sem renaming run_bind->ai,run_pure->eb
open Go.Value renaming cells->mw
open Go.World renaming frozen?->ace,drewN->yb
open List renaming getElem?_eq_getElem->ah,all_eq_true->ao,mem_iff_getElem?->ph,getElem?_zip_eq_some->mv,mem_cons->cu,not_mem_nil->ep,range->ay,map_cons->fg,getElem?_cons_zero->db,ext_getElem?->ju,getElem?_map->dh,getD_eq_getElem?_getD->bn,getElem?_append_left->cd,getElem?_append_right->bq,getElem?_eq_some_iff->al,length_singleton->yy,getElem?_of_mem->sw,size_toArray->ei,mem_of_getElem?->cm,flatMap_cons->ik,all_append->abj,all_cons->og,length_take->fb,getElem?_take->fc,getElem?_drop->ia,getElem?_eq_none->dn
open Nat renaming le_refl->af,zero_mod->aad,mod_lt->zc,zero_add->bu,zero_le->cr,add_assoc->gi,mul_comm->qt,div_add_mod->sv,add_zero->ir,le_trans->cy,lt_of_lt_of_le->bf,mul_le_mul_right->dd,add_mul->eh,add_mul_mod_self_right->ev,mul_le_mul->tn,add_sub_cancel_left->dm,lt_or_ge->dw,mod_one->ya,min->om,zero_min->acp,min_le_left->abl,min_le_right->wm
open Option renaming map_some->dv
open Option.some renaming injEq->bc
open Bool renaming false->ns,true->nr
open Go renaming FuncId->mb,Program->ma,TypeId->nz,Value->ny,World->nu,maxLen->mf,undef->mc
open Go.IntKind renaming i64->O
open Go.Value renaming bool->ni,int->U,pointer->nj,slice->ng,string->nh,tuple->nq
open Option renaming none->V,some->I
set_option linter.unusedVariables false
set_option linter.unusedSimpArgs false
namespace Go.Proofs.YtmadfhgiaonnlaaGreatDoor
namespace Sy
open Go.RowKit
variable {cs:Array ny}{f:mb}{fk l:List CT}{ks:List KD}{news:List ny}{b c k lb m n off r:Nat}{fr:Nat×Nat}{o:Oper}{x y:Operand}{s ss sx:SV}{d:TD}{dst e src t te ty:nz}{i:TypeInfo}{v:ny}{yv:XV}
section
variable {P:ma}{cx:Cx}{W0:nu}{S:St}{base:Nat}{Z:yu}{T T':Nat->Prop}{w w':nu}{a:Act}{Ω:yu->Prop}
theorem qvy(h:WT cx.tb W0 T w)(hb:base<=w.heap.size)(hf:cx.tb.flat e=I l)(hl:0<l.length)
  (hni:qvf l=nr) (ht:∀i v,cs[i]? = I v->∃ct,l[i%l.length]? = I ct/\CV cx.tb W0 T w 0 ct v) (pu:Lv):qyv cx.tb W0 T w (add T w.heap.size) (w.alloc (.cells cs e)) base pu V:=by
 have h1:=qlv (tb:=cx.tb) h hb cs e
 obtain⟨h2,h3⟩:=h1.wt.join (g:=w.heap.size) (fr:=(0,0)) h.size (gy w (.cells cs e)) (.inl rfl) hf hl (λi v hv=>by
  obtain⟨ct,q1,q2⟩:=ht i v hv
  exact⟨ct,q1,q2.mono h1.ext (af _)⟩) (qdp hni _)
 refine⟨h2,h1.ext.trans h3,λb hb=>?_,h1.size,rfl,rfl,rfl,λb hb hT _=>h1.keep b hb hT kq,λb hb' _=>h1.pure b hb' (.inl rfl),λ_ b hb' _=>.same (h1.pure b hb' (.inl rfl))⟩;rcases hb with hb|rfl
 .exact .inl hb
 .exact .inr (af _)
theorem qcy(hf:cx.tb.flat e=I l)(hl:0<l.length)(hb:base<=w.heap.size)(h1:n<=c)(h2:n<=lb)(h3:c<=mf)(h4:c*l.length<=cs.size) :
  CV cx.tb W0 (add T w.heap.size) (w.alloc (.cells cs e)) base (.sl 2 e lb) (ng (I ⟨w.heap.size,0,V⟩) n c):=by
 have hsz:cx.tb.sz e=l.length:=by simp[yg.sz,hf]
 exact .inr (.inr ⟨w.heap.size,0,n,c,rfl,h1,h2,h3,.inr rfl,λ_=>hb,kg,aad _,cs,(0,0),gy w _,by rw[hsz];omega⟩)
def qqb(d:TD)(l:List CT):Bool:=qvf l && decide (d.zero.length=l.length/\d.size=l.length/\0<l.length) && (d.zero.zip l).all (λp=>qm8 p.1 p.2)
theorem qz4(h:qqb d l=nr):d.zero.length=l.length/\d.size=l.length/\0<l.length/\∀i,i<l.length->∃v ct,d.zero[i]? = I v/\l[i]? = I ct/\CV cx.tb W0 T w base ct v:=by
 simp only[qqb,ag,decide_eq_true_eq] at h;obtain⟨⟨-,h1,h2,h3⟩,h4⟩:=h;refine⟨h1,h2,h3,λi hi=>⟨d.zero[i]' kg,l[i],ah _,ah _,qob (ao.1 h4 (d.zero[i]' kg,l[i]) ?_)⟩⟩;refine ph.2 ⟨i,?_⟩;rw[mv];exact⟨ah _,ah _⟩
def qwx(d:TD)(l:List CT):Bool:=qvf l && decide (d.zero.length=l.length/\d.size=l.length/\0<l.length)
theorem q4m(h:qwx d l=nr):qvf l=nr/\d.zero.length=l.length/\d.size=l.length/\0<l.length:=by
 simp only[qwx,ag,decide_eq_true_eq] at h;exact h
theorem qj2(h:qqb d l=nr):qvf l=nr:=by
 simp only[qqb,ag] at h;exact h.1.1
theorem qcv(h:qqb d l=nr){z:ny}(hz:z.cells.toList=d.zero)(n:Nat):∀(i:Nat) (v:ny),((la n).map (λx=>z.cells[x%z.cells.size]!))[i]? = I v->∃ct,l[i%l.length]? = I ct/\CV cx.tb W0 T w base ct v:=by
 intro i v hv;obtain⟨h1,h2,h3,h4⟩:=qz4 (cx:=cx) (W0:=W0) (T:=T) (w:=w) (base:=base) h;have hs:z.cells.size=l.length:=by rw[<-aw,hz,h1]
 have hi:i<n:=by
  have:=(cl.1 hv).1;simpa using this
 obtain⟨u,ct,q1,q2,q3⟩:=h4 (i%l.length) (zc _ h3);refine⟨ct,q2,?_⟩
 have:v=u:=by
  simp only[aae,Array.getElem?_range,hi,if_true,dv,bc] at hv;rw[hs] at hv;have hlt:i%l.length<z.cells.size:=by rw[hs];exact zc _ h3
  rw[getElem!_pos z.cells _ hlt] at hv;rw[<-hz,ax,ak hlt] at q1;exact hv.symm.trans (oi q1)
 subst this;exact q3
def LM:Nat:=2^32
def qtw(cx:Cx)(S:St)(t:nz)(x y:SV):Option qqa:=match kd cx t,S.lin x,S.lin y with
 | .sl e,I (_,l),I (_,c)=>match yx cx e,cx.tb.flat e with
   | some d,I f=>if qqb d f && S.ent l && S.ent (c.sub l) && S.ent ((qf.k LM).sub c) && decide (d.bytes<=32768) then
      I ⟨qzy S (.sl 2 e LM) [(qf.at S.nv).sub l,l.sub (qf.at S.nv)],.no,.pure⟩ else V
   | _,_=>V
 | _,_,_=>V
theorem q5p(hcx:yj P cx){sy:SV}{r:qqa}(ho:o.op=.makeSlice t x y)(hx:S.one x=I sx)(hy:S.one y=I sy)(h:qtw cx S t sx sy=I r)(H:qqu cx W0 S base Ω T w a):jc P cx W0 S base Ω T w a o r:=by
 obtain⟨ρ0,h0⟩:=H.ex;have hs0:=H.sat ρ0 h0;unfold qtw at h;split at h
 .rename_i e k1 l k2 c hk hl hc;split at h
  .rename_i d f hd hf;split at h
   .rename_i hcc;cases h;simp only[ag,decide_eq_true_eq] at hcc;obtain⟨⟨⟨⟨hz,c1⟩,c2⟩,c3⟩,c4⟩:=hcc;have q1:=hs0.ent c1;have q2:=hs0.ent c2;have q3:=hs0.ent c3;rw[qf.sub_eval] at q2;rw[qf.sub_eval,qf.ja] at q3;have e1:=uo hs0 hl;have e2:=uo hs0 hc;rw[<-xu (H.env ρ0 h0) hx] at e1;rw[<-xu (H.env ρ0 h0) hy] at e2;obtain⟨u',g1,g2⟩:=xe hcx hk kq;obtain⟨e'',rfl⟩:∃e'',u'=.slice e'':=by cases u'<;>simp_all [KD.of]
    simp only[KD.of,KD.sl.injEq] at g2;subst g2;obtain⟨i,hi1,hi2,hi3,z,hz1,hz2⟩:=jg (hcx _ d hd);obtain⟨z1,z2,z3,-⟩:=qz4 (cx:=cx) (W0:=W0) (T:=T) (w:=w) (base:=base) hz;have hLM:(LM:Int)=4294967296:=kj
    have hbytes:(i.bytes:Int)*c.eval ρ0<=281474976710656:=by
     have h1:(i.bytes:Int)*c.eval ρ0<=32768*c.eval ρ0:=Int.mul_le_mul_of_nonneg_right kg kg;omega
    have hrun:=run_make (P:=P) w t e'' i z g1 hi1 hz1 k1 k2 (l.eval ρ0) (c.eval ρ0) q1 kg hbytes kg;have hml:mf=9223372036854775807:=kj;unfold jc
    have hex:(execOp a.eval o).run P w=.ok (.value (.slice (I ⟨w.heap.size,0,V⟩) (l.eval ρ0).toNat (c.eval ρ0).toNat)) (w.alloc (.cells (madeCells z.cells ((c.eval ρ0).toNat*i.size)) e'')):=by
     simp only[execOp,ho,e1,e2];exact qqp hrun
    rw[hex];refine⟨add T w.heap.size,V,qvy hs0.wt hs0.bs hf z3 (qj2 hz) (qcv hz hz2 _) nr,λZ hρ _=>⟨jq (qcy hf z3 hs0.bs kg kg kg (by rw[size_madeCells,hi2,z2];exact af _)) ?_,rfl⟩⟩;intro hv g hg;have e3:=uo (H.sat Z hρ) hl;rw[<-xu (H.env Z hρ) hx,e1] at e3;injection e3 with e3 e4;simp only[cu,ep,or_false] at hg;rcases hg with rfl|rfl<;>rw[qf.sub_eval,qf.yl,hv]<;>simp only[meas]<;>omega
   .cases h
  .cases h
 .cases h
def cycS(d:TD)(n:Nat):List SV:=(ay n).map λi=>.con (d.zero.getD (i%d.zero.length) mc)
def fitS(S:St)(tb:yg)(l:List CT):Nat->List SV->Bool
 | _,[]=>nr
 | i,s::r=>(match l[i%l.length]? with|some ct=>S.has tb s ct|none=>ns) && fitS S tb l (i+1) r
theorem qtq(hs:xg cx.tb W0 S base Z T w){l:List CT}:∀{ss:List SV} {i0:Nat},fitS S cx.tb l i0 ss=nr->∀i v,(qw Z ss)[i]? = I v->∃ct,l[(i0+i)%l.length]? = I ct/\CV cx.tb W0 T w base ct v
 | [],i0,h,i,v,hv=>by simp[qw] at hv
 | s::r,i0,h,i,v,hv=>by
   simp only[fitS,ag] at h;cases i with
   | zero=>
     simp only[qw,fg,db,bc] at hv;subst hv;have h1:=h.1;split at h1
     .rename_i ct hct;exact⟨ct,hct,qx0 hs h1⟩
     .cases h1
   | succ i=>
     obtain⟨ct,q1,q2⟩:=qtq hs h.2 i v (by simpa[qw] using hv);exact⟨ct,by rw[<-q1];congr 1;rw[show i0+(i+1)=i0+1+i by omega],q2⟩
def qfs(cx:Cx)(S:St)(t:nz)(n:Nat)(parts:List (Nat×Operand)):Option qqa:=match kd cx t,qcb S parts with
 | .sl e,I ps=>match yx cx e,cx.tb.flat e with
   | some d,I f=>if qwx d f && decide (n*d.size<=16777216) then match qbj (λi=>I (i*d.size,d.size)) (cycS d (n*d.size)) ps with
      | some ss=>if fitS S cx.tb f 0 ss && decide (ss.length=n*d.size) then I ⟨qzy S (.sl 2 e n) [(qf.at S.nv).pl (-n),(qf.k n).sub (qf.at S.nv)],.no,.pure⟩ else V
      | none=>V
     else V
   | _,_=>V
 | _,_=>V
theorem qhs(hcx:yj P cx){parts:Array (Nat×Operand)}{r:qqa}(ho:o.op=.buildSlice t n parts)(h:qfs cx S t n parts.toList=I r)(H:qqu cx W0 S base Ω T w a):jc P cx W0 S base Ω T w a o r:=by
 obtain⟨ρ0,h0⟩:=H.ex;have hs0:=H.sat ρ0 h0;unfold qfs at h;split at h
 .rename_i e ps hk hps;split at h
  .rename_i d f hd hf;split at h
   .rename_i hcc;simp only[ag,decide_eq_true_eq] at hcc;obtain⟨hz,hlim⟩:=hcc;split at h
    .rename_i ss hss;split at h
     .rename_i hfit;cases h;simp only[ag,decide_eq_true_eq] at hfit;obtain⟨hfit,hlen⟩:=hfit;obtain⟨u',g1,g2⟩:=xe hcx hk kq;obtain⟨e'',rfl⟩:∃e'',u'=.slice e'':=by cases u'<;>simp_all [KD.of]
      simp only[KD.of,KD.sl.injEq] at g2;subst g2;obtain⟨i,hi1,hi2,hi3,z,hz1,hz2⟩:=jg (hcx _ d hd);obtain⟨hni,z1,z2,z3⟩:=q4m hz;obtain⟨p1,p2⟩:=qx6 hs0 (H.env ρ0 h0) _ _ hps;have hzs:z.cells.size=d.zero.length:=by rw[<-aw,hz2]
      have hcyc:((la (n*d.size)).map (λx=>z.cells[x%z.cells.size]!)).toList=qw ρ0 (cycS d (n*d.size)):=by
       refine ju (λj=>?_);simp only[ig,Array.toList_range,qw,cycS,List.map_map,dh];cases hj:(ay (n*d.size))[j]? with
       | none=>rfl
       | some m=>
         simp only[dv,Function.comp_apply,SV.den];congr 1;have hlt:m%z.cells.size<z.cells.size:=zc _ kg;rw[getElem!_pos z.cells _ hlt,<-hz2,aw,bn,ax,ak hlt];rfl
      obtain⟨q,hq1,hq2⟩:=qds ρ0 ps _ _ ss p2 hss hcyc;have hqs:q.size=n*d.size:=by rw[<-aw,hq2];simp[qw,hlen]
      have hml:mf=9223372036854775807:=kj
      have hn:n<=16777216:=by
       have:=Nat.mul_le_mul_left n (show 1<=d.size by omega);omega
      have hrun:(po t n (parts.map λ(i,x)=>(i,a.eval x))).run P w=.ok (ng (I ⟨w.heap.size,0,V⟩) n n) (w.alloc (.cells q e'')):=by
       have qfw:iv (λi=>I (i*d.size,d.size)) ((la (n*d.size)).map (λx=>z.cells[x%z.cells.size]!)) (parts.map λ(i,x)=>(i,a.eval x)).toList=I q:=by
        rw[ig];have:(parts.toList.map λ(i,x)=>(i,a.eval x))=parts.toList.map λp=>(p.1,a.eval p.2):=rfl
        rw[this,p1];exact hq1
       have qw8:¬n*d.size > 2^24:=kg;unfold po;rw[ai,bg g1 w];simp only[aq];rw[ai,vk (hcx _ d hd) w];simp only[aq,qw8,if_false]
       have qev:∀c,c=(la (n*d.size)).map (λx=>z.cells[x%z.cells.size]!)->iv (λi=>I (i*d.size,d.size)) c (List.map (λx=>(x.fst,a.eval x.snd)) parts.toList)=I q:=by
        intro c hc;rw[hc];rw[ig] at qfw;exact qfw
       by_cases h00:n*d.size=0
       .have hc0:(Array.map (λx=>(default:ny)) (la 0))=(la (n*d.size)).map (λx=>z.cells[x%z.cells.size]!):=by
         rw[h00];simp[Array.range_zero']
        simp[h00,qev _ hc0,newRow]
       .simp[h00,zeroValue,typeInfo,hi1,hz1,qev _ rfl,newRow]
      unfold jc
      have hex:(execOp a.eval o).run P w=.ok (.value (ng (I ⟨w.heap.size,0,V⟩) n n)) (w.alloc (.cells q e'')):=by
       simp only[execOp,ho];exact qqp hrun
      rw[hex];refine⟨add T w.heap.size,V,qvy hs0.wt hs0.bs hf z3 hni (λj v hv=>?_) nr,λZ hρ _=>⟨jq (qcy hf z3 hs0.bs (af _) (af _) kg (by rw[hqs,z2];exact af _)) ?_,rfl⟩⟩
      .have hv':(qw ρ0 ss)[j]? = I v:=by rw[<-hq2,ax];exact hv
       obtain⟨ct,q1,q2⟩:=qtq hs0 hfit j v hv';rw[bu] at q1;exact⟨ct,q1,q2.mono (xq.refl T w) (cr _)⟩
      .intro hv g hg;simp only[cu,ep,or_false] at hg;rcases hg with rfl|rfl
       .rw[qf.xh,qf.yl,hv];simp only[meas];omega
       .rw[qf.sub_eval,qf.yl,qf.ja,hv];simp only[meas];omega
     .cases h
    .cases h
   .cases h
  .cases h
 .cases h
end
open Go.RowKit
section
variable {P:ma}{cx:Cx}{W0:nu}{S:St}{base:Nat}{Z:yu}{T T':Nat->Prop}{w w':nu}{a:Act}{Ω:yu->Prop}
theorem qfr{α:Type}{Q:Nat->α->Prop}(n:Nat)(h:∀j,j<n->∃v,Q j v):∃l:List α,l.length=n/\∀j v,l[j]? = I v->Q j v:=by
 induction n with
 | zero=>exact⟨[],rfl,λj v h=>by simp at h⟩
 | succ n ih=>
   obtain⟨l,h1,h2⟩:=ih (λj hj=>h j kg);obtain⟨v,hv⟩:=h n kg;refine⟨l++[v],by simp[h1],λj u hu=>?_⟩;by_cases hj:j<n
   .rw[cd kg] at hu;exact h2 j u hu
   .rw[bq kg] at hu
    have:j=n:=by
     have:=(al.1 hu).1;simp only[yy] at this;omega
    subst this;rw[h1,Nat.sub_self] at hu;cases hu;exact hv
theorem CV.rows{f:List CT}(hw:WT cx.tb W0 T w)(hf:cx.tb.flat e=I f)(hl:0<f.length)(h:CV cx.tb W0 T w base (.sl m e lb) (ng (I ⟨b,off,V⟩) n c)) :
  ∃news:List ny,news.length=n*f.length/\∀j v,news[j]? = I v->w.cell? ⟨b,off+j,V⟩=I v/\∃ct,f[j%f.length]? = I ct/\CV cx.tb W0 T w 0 ct v:=by
 have hsz:cx.tb.sz e=f.length:=by simp[yg.sz,hf]
 refine qfr _ (λj hj=>?_);have hi:j/f.length<n:=by rw[Nat.div_lt_iff_lt_mul hl];exact hj
 have hk:j%f.length<f.length:=zc _ hl;have hel:=h.elem hi;obtain⟨v,hv1,hv2⟩:=hw.load hel (k:=j%f.length) (ct:=f[j%f.length]) (by rw[hf];simp[hk]);refine⟨v,?_,_,ah hk,hv2⟩;rw[hsz,gi,qt (j/f.length),sv] at hv1;exact hv1
theorem qxt{z:Array ny}:gw z n=(la (n*z.size)).map (λi=>z[i%z.size]!):=rfl
theorem qjc(ht:P.underlying t=I (.slice e))(hi:P.info? e=I i){sLen sCap:Nat}(hc:w.heap[b]? = I (.cells cs te fr))(hf:Fz cs fr)
  {x:ny}   (hx:(uv x).run P w=.ok n w) (hn:(gm i.size n x).run P w=.ok news.toArray w) (h1:∀v∈news,v.oneCell'=nr) (hroom:sLen+n<=sCap) (hfit:off+sLen*i.size+news.length<=cs.size) :
  (fu #[t,t] ty #[ng (I ⟨b,off,V⟩) sLen sCap,x]).run P w=.ok (ng (I ⟨b,off,V⟩) (sLen+n) sCap) (w.setCells b (off+sLen*i.size) news):=by
 have hst:=zd (P:=P) b (off+sLen*i.size) news 0 w (λj hj=>by
  rw[dx w b _ cs te fr hc,ak kg];rfl) (λj hj=>by
  simp only[ace,hc];rcases hf with rfl|hf
  .simp
  .have:¬fr.1<=off+sLen*i.size+j:=kg
   simp[this]) h1
 rw[ir] at hst;simp[fu,bg ht,sizeOf,typeInfo,hi,hx,hroom,hn,uz,hst]
theorem qqd(ht:P.underlying t=I (.slice e))(hi:P.info? e=I i){x:ny}(hx:(uv x).run P w=.ok 0 w)(hn:(gm i.size 0 x).run P w=.ok #[] w) :
  (fu #[t,t] ty #[ng V 0 0,x]).run P w=.ok (ng V 0 0) w:=by
 simp[fu,bg ht,sizeOf,typeInfo,hi,hx,hn]
theorem qdg{tb:yg}(h:WT tb W0 T w)(base:Nat):qyv tb W0 T w T w.drew base .pure V:=by
 have hcv:∀{ct:CT} {v:ny} {b:Nat},CV tb W0 T w b ct v->CV tb W0 T w.drew b ct v:=λh=>h.mono ⟨λ_ h=>h,λ_ _ _ _ h=>h,λ_ _ _ _ _ _ h=>h,λ_ _ _ h=>h⟩ (af _)
 refine⟨⟨h.size,h.alien,h.home,λb hb=>?_,h.ix⟩,⟨λ_ h=>h,λ_ _ _ _ h=>h,λ_ _ _ _ _ _ h=>h,λ_ _ _ h=>h⟩,λ_ h=>.inl h,af _,rfl,rfl,rfl,λ_ _ _ _=>rfl,λ_ _ _=>rfl,λ_ _ _ _=>.same rfl⟩;obtain⟨cs,e,fr,l,q1,q2,q3,q4,q5⟩:=h.typed b hb;exact⟨cs,e,fr,l,q1,q2,q3,q4,λi v hv=>by obtain⟨ct,k1,k2⟩:=q5 i v hv;exact⟨ct,k1,hcv k2⟩⟩
theorem qyv.trans{tb:yg}{T1 T2:Nat->Prop}{w1 w2:nu}(h:qyv tb W0 T w T1 w1 base .pure V)(k:qyv tb W0 T1 w1 T2 w2 base .pure V):qyv tb W0 T w T2 w2 base .pure V:=by
 refine⟨k.wt,h.ext.trans k.ext,λb hb=>?_,cy h.size k.size,k.os.trans h.os,k.tape.trans h.tape,k.output.trans h.output,λb hb hT _=>?_,λb hb hp=>(k.pure b hb (.inl rfl)).trans (h.pure b hb (.inl rfl)),λh=>by cases h⟩
 .rcases k.new b hb with h1|h1
  .exact h.new b h1
  .exact .inr (cy h.size h1)
 .refine(k.keep b (bf hb h.size) (λhT1=>?_) kq).trans (h.keep b hb hT kq);rcases h.new b hT1 with h1|h1
  .exact hT h1
  .omega
def qna(cx:Cx)(S:St)(e:nz)(x:SV):Bool:=match S.qcm x with
 | some (_,e',_)=>decide (e'=e)
 | none=>qa1 x
def qbq(cx:Cx)(S:St)(e:nz)(x:SV):Option Nat:=match S.qcm x with
 | some (m,e',_)=>if 1<=m/\e'=e then I m else V
 | none=>if qa1 x then I 2 else V
def appA(cx:Cx)(S:St)(t:nz)(s x:SV):Option qqa:=match kd cx t,S.len s,S.len x with
 | .sl e,I ls,I lx=>match yx cx e,cx.tb.flat e,qbq cx S e s with
   | some d,I f,I m=>if(!qum e || qa1 s) && qqb d f && qna cx S e x && S.ent ((qf.k LM).sub (ls.add lx)) && decide (d.bytes<=32768) then
      I ⟨qzy S (.sl m e LM) [(qf.at S.nv).sub (ls.add lx),(ls.add lx).sub (qf.at S.nv)],.no,qtm m e⟩ else V
   | _,_,_=>V
 | _,_,_=>V
theorem q04{x:SV}(hs:xg cx.tb W0 S base Z T w)(h:qna cx S e x=nr):∃lb,CV cx.tb W0 T w base (.sl 0 e lb) (x.den Z):=by
 unfold qna at h;split at h
 .rename_i m e' lb hsl;have:=of_decide_eq_true h;subst this;obtain⟨n,rfl,h1,-⟩:=qx9 hs hsl;exact⟨lb,h1.le (by simp[CT.le])⟩
 .rw[qvs h];exact⟨0,.inl rfl⟩
theorem q2b{x:SV}(hs:xg cx.tb W0 S base Z T w)(h:qbq cx S e x=I m):1<=m/\∃lb,CV cx.tb W0 T w base (.sl m e lb) (x.den Z):=by
 unfold qbq at h;split at h
 .rename_i m' e' lb hsl;split at h
  .rename_i hc;cases h;obtain⟨h1,rfl⟩:=hc;obtain⟨n,rfl,h2,-⟩:=qx9 hs hsl;exact⟨h1,lb,h2⟩
  .cases h
 .split at h
  .rename_i hc;cases h;rw[qvs hc];exact⟨kg,0,.inl rfl⟩
  .cases h
theorem qs6(hcx:yj P cx){s:Operand}{r:qqa}(ho:o.op=.call { callee:=.builtin .append,args:=#[s,x],argTypes:=#[t,t] })(hs1:S.one s=I ss)(hx1:S.one x=I sx)(h:appA cx S t ss sx=I r)(H:qqu cx W0 S base Ω T w a) :
  jc P cx W0 S base Ω T w a o r:=by
 obtain⟨ρ0,h0⟩:=H.ex;have hs0:=H.sat ρ0 h0;unfold appA at h;split at h
 .rename_i e ls lx hk hls hlx;split at h
  .rename_i d f m hd hf hm;split at h
   .rename_i hcc;cases h;simp only[ag,decide_eq_true_eq] at hcc;obtain⟨⟨⟨⟨hne,hz⟩,hsrc⟩,c3⟩,c4⟩:=hcc;simp only[Bool.or_eq_true,aaq] at hne;have q3:=hs0.ent c3;rw[qf.sub_eval,qf.ja,qf.add_eval] at q3;obtain⟨u',g1,g2⟩:=xe hcx hk kq;obtain⟨e'',rfl⟩:∃e'',u'=.slice e'':=by cases u'<;>simp_all [KD.of]
    simp only[KD.of,KD.sl.injEq] at g2;subst g2;obtain⟨i,hi1,hi2,hi3,z,hz1,hz2⟩:=jg (hcx _ d hd);obtain⟨z1,z2,z3,-⟩:=qz4 (cx:=cx) (W0:=W0) (T:=T) (w:=w) (base:=base) hz;obtain⟨lb1,hcx1⟩:=q04 hs0 hsrc;obtain⟨hm1,lb2,hcs1⟩:=q2b hs0 hm;have ed:=xu (H.env ρ0 h0) hs1;have ex:=xu (H.env ρ0 h0) hx1;rw[<-ed] at hcs1;rw[<-ex] at hcx1;obtain⟨A,n,c,v1,v2,v3,v4,v5⟩:=hcs1.slc;obtain⟨B,k,c',u1,u2,u3,u4,u5⟩:=hcx1.slc;have eln:=qyb hs0 (by rw[<-ed,v1]) hls;have elx:=qyb hs0 (by rw[<-ex,u1]) hlx;have hLM:(LM:Int)=4294967296:=kj;have hml:mf=9223372036854775807:=kj;have hsz:i.size=f.length:=by rw[hi2,z2]
    rw[v1] at hcs1;rw[u1] at hcx1
    have qxl:∀{v:ny} {w1:nu},(fu #[t,t] o.type #[ng A n c,ng B k c']).run P w=.ok v w1->(execOp a.eval o).run P w=.ok (.value v) w1:=by
     intro v w1 hr;rw[<-v1,<-u1] at hr;simp only[execOp,ho,resolve,invoke,builtin];simpa[ai] using qqp hr
    have qz7:∀(v:ny),meas v=(n:Int)+k->∀Z,Ω Z->Z S.nv=v->∀g∈[(qf.at S.nv).sub (ls.add lx),(ls.add lx).sub (qf.at S.nv)],0<=g.eval Z:=by
     intro v hv Z hρ hρv g hg;have e1:=qyb (H.sat Z hρ) (by rw[<-xu (H.env Z hρ) hs1,v1]) hls;have e2:=qyb (H.sat Z hρ) (by rw[<-xu (H.env Z hρ) hx1,u1]) hlx;simp only[cu,ep,or_false] at hg;rcases hg with rfl|rfl<;>simp only[qf.sub_eval,qf.add_eval,qf.yl,hρv,hv,e1,e2]<;>omega
    have qws:∃news:List ny,news.length=k*f.length/\(∀j v,news[j]? = I v->∃ct,f[j%f.length]? = I ct/\CV cx.tb W0 T w 0 ct v)/\∀w1:nu,(∀b o,w1.cell? ⟨b,o,V⟩=w.cell? ⟨b,o,V⟩)->(gm i.size k (ng B k c')).run P w1=.ok news.toArray w1:=by
     cases B with
     | none=>
       obtain⟨rfl,rfl⟩:=u4 rfl;exact⟨[],kq,λj v h=>by simp at h,λw1 _=>mn w1 _ _ _ _⟩
     | some ad=>
       by_cases hc0:c'=0
       .have hk0:k=0:=kg;subst hk0;exact⟨[],kq,λj v h=>by simp at h,λw1 _=>gu (P:=P) w1 i.size 0 ad 0 c' [] kq (λj v h=>by simp at h)⟩
       obtain⟨b,off,sp⟩:=ad;have hsp:=u5 _ rfl hc0;simp only at hsp;subst hsp;obtain⟨news,n1,n2⟩:=CV.rows hs0.wt hf z3 hcx1;refine⟨news,n1,λj v hv=>(n2 j v hv).2,λw1 hw1=>gu (P:=P) w1 i.size k ⟨b,off,V⟩ k c' news (by rw[hsz];exact n1) (λj v hv=>by rw[uz,hw1];exact(n2 j v hv).1)⟩
    obtain⟨news,n1,n2,n3⟩:=qws
    have hone:∀v∈news,v.oneCell'=nr:=λv hv=>by
     obtain⟨j,hj⟩:=sw hv;obtain⟨ct,-,hc⟩:=n2 j v hj;exact hc.one
    by_cases hroom:n+k<=c
    .cases A with
     | none=>
       obtain⟨rfl,rfl⟩:=v4 rfl;have hk0:k=0:=kg;subst hk0;have hnil:news=[]:=by simpa using n1
       subst hnil;unfold jc;rw[qxl (qqd g1 hi1 rfl (n3 w (λ_ _=>rfl)))];exact⟨T,V,qyv.refl hs0.wt base _,λZ hρ _=>⟨jq (.inl rfl) (qz7 _ (by simp[meas]) Z hρ),rfl⟩⟩
     | some ad=>
       obtain⟨b,off,sp⟩:=ad
       have hsp:sp=V:=by
        rcases hcs1 with hb|⟨hb,-⟩|⟨b',off',n',cc,b1,-⟩
        .cases hb
        .omega
        .injection b1 with e1;injection e1 with e1;injection e1
       subst hsp;rcases hcs1 with hb|⟨hb,-⟩|⟨b',off',n',cc,b1,b2,b3,b4,b5,b6,b7,b8,cs,fr,b9,b10⟩
       .cases hb
       .omega
       .injection b1 with e1 e2 e3;injection e1 with e1;injection e1 with e1 e4;subst e1;subst e2;subst e3;subst e4;obtain⟨cs1,te,fr1,lt,t1,t2,t3,t4,t5⟩:=hs0.wt.typed b b5;rw[b9] at t1;injection t1 with t1;injection t1 with t1 t6 t7;subst t1;subst t6;subst t7;rw[hf] at t3;cases t3;have qae:cx.tb.sz e''=f.length:=by simp[yg.sz,hf]
        rw[qae] at b8 b10;have hmul:(n+k)*f.length<=c*f.length:=dd _ hroom;rw[eh] at hmul;have hfit:off+n*i.size+news.length<=cs.size:=by rw[hsz,n1];omega
        unfold jc;rw[qxl (qjc g1 hi1 b9 t2 rfl (n3 w (λ_ _=>rfl)) hone hroom hfit)];obtain⟨cs',k1,k2,k3⟩:=jh b e'' fr news (off+n*i.size) w cs b9;obtain⟨r1,r2,r3,r4⟩:=ve b news (off+n*i.size) w;have hother:=λq (hq:q≠b)=>xk b news (off+n*i.size) w q hq
        have hne':qum e''=ns:=by
         rcases hne with h|h
         .exact h
         .have e0:a.eval s=ng V 0 0:=by rw[ed,qvs h];rfl
          rw[e0] at v1;cases v1
        obtain⟨f1,f2⟩:=hs0.wt.write (w':=w.setCells b (off+n*i.size) news) hne' b5 b9 hf k2 k1 (by rcases t2 with h|h;exact .inl h;exact .inr kg) hother r1 (λq v hv=>by
         rw[k3 q] at hv;split at hv
         .rename_i hq;obtain⟨ct,p1,p2⟩:=n2 _ v hv;refine .inr ⟨ct,?_,p2⟩;rw[<-p1];congr 1;rw[hsz] at hq ⊢
          have hoff:off=off/f.length*f.length:=by
           have:=sv off f.length;rw[b8,ir,qt] at this;exact this.symm
          have e5:q=(q-(off+n*f.length))+(off/f.length+n)*f.length:=by rw[eh,<-hoff];omega
          conv=>lhs;rw[e5]
          rw[ev]
         .exact .inl hv) (.inl (qj2 hz))
        refine⟨T,V,⟨f1,f2,λ_ h=>.inl h,by rw[r1];exact af _,r2,r3,r4,λq hq hqT _=>hother q (λe=>hqT (e ▸ b5)),λq hq hpu=>hother q (λe=>?_),λhkp q hq hTq=>?_⟩,λZ hρ _=>⟨jq (.inr (.inr ⟨b,off,n+k,c,rfl,hroom,kg,b4,b5,b6,b7,by rw[qae];exact b8,f2.row _ _ _ b5 ⟨cs,fr,b9,by rw[qae];exact b10⟩⟩)) (qz7 _ (by simp[meas]) Z hρ),rfl⟩⟩
        .subst e;rcases hpu with hpu|hpu
         .have:=b6 (qni hpu);omega
         .exact hpu b5
        .by_cases hqb:q=b
         .subst hqb;intro cs0 e0 fr0 hc0;rw[b9] at hc0;cases hc0;exact⟨cs',_,k1,λi hi=>by rw[q2g hkp i] at hi;cases hi⟩
         .exact .same (hother q hqb)
    ·
     have hk0:0<k:=kg;have hcapge:n+k<=grownCap w (n+k) c e'':=mq w _ _ _;have hcaple:grownCap w (n+k) c e''<=mf:=ib w _ _ _ kg
     have hbytes:(n+k)*i.bytes<=140737488355328:=by
      have h1:(n+k)*i.bytes<=4294967296*32768:=tn kg kg;omega
     have hnx:=growslice_fits (need:=n+k) (old:=c) (bytes:=i.bytes) kg hbytes
     have hold:∃olds:List ny,olds.length=n*f.length/\(∀j v,olds[j]? = I v->∃ct,f[j%f.length]? = I ct/\CV cx.tb W0 T w 0 ct v)/\∃q,(fu #[t,t] o.type #[ng A n c,ng B k c']).run P w=.ok (ng (I ⟨w.heap.size,0,V⟩) (n+k) (grownCap w (n+k) c e'')) (w.drew.alloc (.cells q e'')) /\
      q=olds.toArray++news.toArray++gw z.cells (grownCap w (n+k) c e''-(n+k)):=by
      cases B with
      | none=>have:=u4 rfl;omega
      | some bd=>
        have hnews:∀j v,news[j]? = I v->w.cell? (bd.add j)=I v:=by
         obtain⟨b,off,sp⟩:=bd;have hsp:=u5 _ rfl kg;simp only at hsp;subst hsp;obtain⟨news',m1,m2⟩:=CV.rows hs0.wt hf z3 hcx1;have h1:=n3 w (λ_ _=>rfl);have h2:=gu (P:=P) w i.size k ⟨b,off,V⟩ k c' news' (by rw[hsz];exact m1) (λj v hv=>by rw[uz];exact(m2 j v hv).1);rw[h2] at h1;injection h1 with h1;have:news'=news:=by simpa using congrArg Array.toList h1
         subst this;exact λj v hv=>by rw[uz];exact(m2 j v hv).1
        cases A with
        | none=>
          obtain⟨rfl,rfl⟩:=v4 rfl;refine⟨[],kq,λj v h=>by simp at h,_,?_,rfl⟩;have hr:=rf (P:=P) w t o.type e'' i z g1 hi1 hz1 bd k c' news (by rw[n1,hsz]) hnews hk0 kg (by rw[bu] at hbytes;omega);simpa using hr
        | some ad=>
          obtain⟨b,off,sp⟩:=ad
          have hsp:sp=V:=by
           rcases hcs1 with hb|⟨hb,-⟩|⟨b',off',n',cc,b1,-⟩
           .cases hb
           .omega
           .injection b1 with e1;injection e1 with e1;injection e1
          subst hsp;obtain⟨olds,m1,m2⟩:=CV.rows hs0.wt hf z3 hcs1;refine⟨olds,m1,λj v hv=>(m2 j v hv).2,_,?_,rfl⟩;exact run_append_grow (P:=P) w t o.type e'' i z g1 hi1 hz1 ⟨b,off,V⟩ n c olds (by rw[m1,hsz]) (λj v hv=>by rw[uz];exact(m2 j v hv).1) bd k c' news (by rw[n1,hsz]) hnews kg kg hnx
     obtain⟨olds,o1,o2,q,hrun,hq⟩:=hold;unfold jc;rw[qxl hrun];have hd1:=qdg (tb:=cx.tb) hs0.wt base;have hzs:z.cells.size=f.length:=by rw[<-aw,hz2,z1]
     have qg8:∀j v,q[j]? = I v->∃ct,f[j%f.length]? = I ct/\CV cx.tb W0 T w.drew 0 ct v:=by
      intro j v hv;rw[hq] at hv;have hos:olds.toArray.size=n*f.length:=by simpa using o1
      have hns:news.toArray.size=k*f.length:=by simpa using n1
      by_cases h1:j<n*f.length
      .rw[Array.append_assoc,dz kg] at hv;obtain⟨ct,p1,p2⟩:=o2 j v (by simpa using hv);exact⟨ct,p1,p2.mono hd1.ext (af _)⟩
      .by_cases h2:j<n*f.length+k*f.length
       .rw[dz (by rw[fw];omega),fh kg,hos] at hv;obtain⟨ct,p1,p2⟩:=n2 _ v (by simpa using hv);refine⟨ct,?_,p2.mono hd1.ext (af _)⟩;rw[<-p1];congr 1
        conv=>lhs;rw[show j=(j-n*f.length)+n*f.length by omega]
        rw[ev]
       .rw[fh (by rw[fw];omega),fw,hos,hns] at hv;rw[qxt] at hv;obtain⟨ct,p1,p2⟩:=qcv (cx:=cx) (W0:=W0) (T:=T) (w:=w) (base:=0) hz hz2 _ _ v hv;refine⟨ct,?_,p2.mono hd1.ext (af _)⟩;rw[<-p1];congr 1
        conv=>lhs;rw[show j=(j-(n*f.length+k*f.length))+(n+k)*f.length by rw[eh];omega]
        rw[ev]
     have hd2:=qvy (base:=base) (w:=w.drew) hd1.wt hs0.bs hf z3 (qj2 hz) qg8 nr
     have hqs:(n+k+(grownCap w (n+k) c e''-(n+k)))*f.length<=q.size:=by
      rw[hq];simp only[fw,ei,o1,n1,pj,hzs];rw[eh,eh];omega
     have hpu:∀{pu:Lv},qyv cx.tb W0 T w (add T w.heap.size) (w.drew.alloc (.cells q e'')) base pu V:=λ{pu}=>by
      have h:=hd1.trans hd2;exact⟨h.wt,h.ext,h.new,h.size,h.os,h.tape,h.output,h.keep,λb hb _=>h.pure b hb (.inl rfl),λ_ b hb _=>.same (h.pure b hb (.inl rfl))⟩
     refine⟨add T w.heap.size,V,hpu,λZ hρ _=>⟨jq ?_ (qz7 _ (by simp[meas]) Z hρ),rfl⟩⟩
     have hcvn:=qcy (cx:=cx) (W0:=W0) (T:=T) (w:=w.drew) (base:=base) (cs:=q) (n:=n+k) (c:=grownCap w (n+k) c e'') (lb:=LM) hf z3 hs0.bs hcapge kg hcaple (by
      have:n+k+(grownCap w (n+k) c e''-(n+k))=grownCap w (n+k) c e'':=kg
      rw[this] at hqs;exact hqs)
     rcases hcvn with h|⟨h,-⟩|⟨b,off,n',cc,b1,b2,b3,b4,b5,b6,b7⟩
     .cases h
     .cases h
     .exact .inr (.inr ⟨b,off,n',cc,b1,b2,b3,b4,b5,λ_=>b6 (af _),b7⟩)
   .cases h
  .cases h
 .cases h
end
open Go.RowKit
def qvp(g:nz->Option (List KD)):List (nz×Nat)->Nat->Option (List KD)
 | [],_=>I []
 | (t,off)::r,pos=>if off=pos then match g t with
   | some l=>(qvp g r (pos+l.length)).map (l++·)
   | none=>V else V
def qz3(cx:Cx):Nat->nz->Option (List KD)
 | 0,_=>V
 | n+1,t=>match yx cx t with
   | some d=>match d.k with
     | .int k=>I [.int k]
     | .bool=>I [.bool]
     | .str=>I [.str]
     | .st fs=>if d.eq then match qvp (qz3 cx n) fs 0 with
       | some l=>if l.length=d.size then I l else V
       | none=>V else V
     | _=>V
   | none=>V
def q3l:KD->ny->Prop
 | .int k,v=>∃n,v=.int k n
 | .bool,v=>∃b,v=.bool b
 | .str,v=>∃s,v=.string s
 | _,_=>False
def qvl(l:List KD)(xs:Array ny)(off:Nat):Prop:=∀j k,l[j]? = I k->∃v,xs[off+j]? = I v/\q3l k v
def qar(agg:Bool)(l:List KD)(a:ny):Prop:=if agg then ∃cs,a=.agg cs/\qvl l cs 0 else ∃k,l=[k]/\q3l k a
section
variable {P:ma}{cx:Cx}{W0:nu}{S:St}{base:Nat}{Z:yu}{T T':Nat->Prop}{w w':nu}{a:Act}{Ω:yu->Prop}
theorem qgy{l:List KD}(h:qz3 cx n t=I l):∃d,yx cx t=I d/\(d.k.agg=nr->l.length=d.size)/\(d.k.agg=ns->∃k,l=[k]):=by
 cases n with
 | zero=>cases h
 | succ n=>
   unfold qz3 at h;split at h
   .rename_i d hd;refine⟨d,hd,?_⟩;split at h
    .rename_i k hk;cases h;rw[hk];exact⟨λh=>(by cases h),λ_=>⟨_,rfl⟩⟩
    .rename_i hk;cases h;rw[hk];exact⟨λh=>(by cases h),λ_=>⟨_,rfl⟩⟩
    .rename_i hk;cases h;rw[hk];exact⟨λh=>(by cases h),λ_=>⟨_,rfl⟩⟩
    .rename_i fs hk;split at h
     .split at h
      .split at h
       .rename_i hl;cases h;rw[hk];exact⟨λ_=>hl,λh=>by cases h⟩
       .cases h
      .cases h
     .cases h
    .cases h
   .cases h
theorem qgc(hcx:yj P cx){l:List KD}(h:qz3 cx n t=I l)(hd:yx cx t=I d){xs:Array ny}(hc:qvl l xs off):∃v,(part t xs off).run P w=.ok v w/\qar d.k.agg l v:=by
 obtain⟨d',hd',h1,h2⟩:=qgy h;rw[hd] at hd';cases hd';have htd:=hcx t d hd;have hag:=qx2 htd w;have hsz:=vk htd w;cases hagg:d.k.agg with
 | true=>
   rw[hagg] at hag;refine⟨.agg (xs.extract off (off+d.size)),by simp[part,ai,hag,hsz],_,rfl,λj k hj=>?_⟩;obtain⟨v,q1,q2⟩:=hc j k hj;have hlt:j<d.size:=by rw[<-h1 hagg];exact(al.1 hj).1
   refine⟨v,?_,q2⟩;rw[bu,Array.getElem?_extract,if_pos (by have:=(cl.1 q1).1;omega)];exact q1
 | false=>
   rw[hagg] at hag;obtain⟨k,rfl⟩:=h2 hagg;obtain⟨v,q1,q2⟩:=hc 0 k rfl;exact⟨v,by simp[part,ai,hag,show xs[off]? = I v by simpa using q1],k,rfl,q2⟩
theorem qlg(hcx:yj P cx):∀(n:Nat) (t:nz) (l:List KD) (d:TD),qz3 cx n t=I l->yx cx t=I d->∀(f:Nat) (x y:ny),n<=f->qar d.k.agg l x->qar d.k.agg l y->∃β,(Op.equalIn f t x y).run P w=.ok β w
 | 0,t,l,d,h,hd,f,x,y,hf,hx,hy=>by cases h
 | n+1,t,l,d,h,hd,f,x,y,hf,hx,hy=>by
   obtain⟨f,rfl⟩:∃f',f=f'+1:=⟨f-1,kg⟩;obtain⟨u,g1,g2⟩:=qya (hcx t d hd);unfold qz3 at h;rw[hd] at h;simp only at h;split at h
   .rename_i k hk;cases h;rw[hk] at hx hy g2;obtain⟨k1,e1,hx⟩:=hx;obtain⟨k2,e2,hy⟩:=hy;cases e1;cases e2;obtain⟨n1,rfl⟩:=hx;obtain⟨n2,rfl⟩:=hy;obtain⟨k',rfl⟩:∃k',u=.int k':=by cases u<;>simp_all [KD.of]
    exact⟨_,run_equalIn_int w f t k k' n1 n2 g1⟩
   .rename_i hk;cases h;rw[hk] at hx hy g2;obtain⟨k1,e1,hx⟩:=hx;obtain⟨k2,e2,hy⟩:=hy;cases e1;cases e2;obtain⟨n1,rfl⟩:=hx;obtain⟨n2,rfl⟩:=hy;have:u=.bool:=by cases u<;>simp_all [KD.of]
    subst this;exact⟨_,run_equalIn_bool' w f t n1 n2 g1⟩
   .rename_i hk;cases h;rw[hk] at hx hy g2;obtain⟨k1,e1,hx⟩:=hx;obtain⟨k2,e2,hy⟩:=hy;cases e1;cases e2;obtain⟨n1,rfl⟩:=hx;obtain⟨n2,rfl⟩:=hy;have:u=.string:=by cases u<;>simp_all [KD.of]
    subst this;exact⟨_,run_equalIn_string w f t n1 n2 g1⟩
   .rename_i fs hk;split at h
    .rename_i heq;split at h
     .rename_i l' hl';split at h
      .rename_i hlen;have e0:l'=l:=oi h;subst e0;rw[hk] at hx hy g2;obtain⟨xs,rfl,cx1⟩:=hx;obtain⟨ys,rfl,cy1⟩:=hy;obtain⟨fl,rfl⟩:∃fl,u=.struct fl:=by cases u<;>simp_all [KD.of]
       simp only[KD.of,KD.st.injEq] at g2;have hfo:P.fieldsOf t=fl:=by simp[Program.fieldsOf,g1]
       rw[run_equalIn_struct w f t xs ys (by rw[hfo];exact g1) (((hcx t d hd).2.2 heq).1),hfo];subst g2
       have key:∀(gs:List Field) (pos:Nat) (l0:List KD),qvp (qz3 cx n) (gs.map λf=>(f.type,f.offset)) pos=I l0->qvl l0 xs pos->qvl l0 ys pos->∃β,(aax f xs ys gs).run P w=.ok β w:=by
        intro gs
        induction gs with
        | nil=>intro pos l0 _ _ _;exact⟨nr,by simp[aax]⟩
        | cons g gs ih=>
          intro pos l0 h0 hx0 hy0;simp only[fg,qvp] at h0;split at h0
          .rename_i hoff;split at h0
           .rename_i l1 hl1;cases hr:qvp (qz3 cx n) (gs.map λf=>(f.type,f.offset)) (pos+l1.length) with
            | none=>rw[hr] at h0;cases h0
            | some l2=>
              rw[hr] at h0;simp only[dv,bc] at h0;subst h0
              have hsub:∀{zs:Array ny},qvl (l1++l2) zs pos->qvl l1 zs pos/\qvl l2 zs (pos+l1.length):=λhz=>by
               refine⟨λj k hj=>hz j k (by rw[cd (al.1 hj).1];exact hj),λj k hj=>?_⟩;have:=hz (l1.length+j) k (by rw[bq kg,dm];exact hj)
               rwa [<-gi] at this
              obtain⟨hx1,hx2⟩:=hsub hx0;obtain⟨hy1,hy2⟩:=hsub hy0;obtain⟨dg,hdg,-⟩:=qgy hl1;rw[<-hoff] at hx1 hy1;obtain⟨va,a1,a2⟩:=qgc (w:=w) hcx hl1 hdg hx1;obtain⟨vb,b1,b2⟩:=qgc (w:=w) hcx hl1 hdg hy1;obtain⟨β,hβ⟩:=qlg hcx n g.type l1 dg hl1 hdg f va vb kg a2 b2;obtain⟨γ,hγ⟩:=ih _ _ hr hx2 hy2;unfold aax;split
              .cases β
               .exact⟨ns,by simp[ai,a1,b1,hβ]⟩
               .exact⟨γ,by simp[ai,a1,b1,hβ,hγ]⟩
              .exact⟨γ,hγ⟩
           .cases h0
          .cases h0
       exact key fl.toList 0 l' hl' cx1 cy1
      .cases h
     .cases h
    .cases h
   .cases h
def qwh(S:St):KD->SV->Bool
 | .int k,s=>match S.lin s with
   | some (k',_)=>decide (k'=k)
   | none=>ns
 | .bool,s=>(S.be s).isSome
 | .str,s=>S.str s
 | _,_=>ns
theorem q5m{k:KD}(h:qwh S k s=nr)(hs:xg cx.tb W0 S base Z T w):q3l k (s.den Z):=by
 unfold qwh at h;split at h
 .split at h
  .rename_i k' l hl;have:=of_decide_eq_true h;subst this;exact⟨_,uo hs hl⟩
  .cases h
 .obtain⟨b,hb⟩:=Option.isSome_iff_exists.1 h;exact⟨_,qq1 hs hb⟩
 .exact qj7 hs h
 .cases h
def qap(S:St):List KD->List SV->Bool
 | [],[]=>nr
 | k::r,s::q=>qwh S k s && qap S r q
 | _,_=>ns
theorem qe8(hs:xg cx.tb W0 S base Z T w):∀{l:List KD} {ss:List SV},qap S l ss=nr->∀(j:Nat) (k:KD),l[j]? = I k->∃v,(qw Z ss)[j]? = I v/\q3l k v
 | [],[],_,j,k,hj=>by simp at hj
 | k0::r,s::q,h,j,k,hj=>by
   simp only[qap,ag] at h;cases j with
   | zero=>simp only[db,bc] at hj;subst hj;exact⟨s.den Z,rfl,q5m h.1 hs⟩
   | succ j=>exact qe8 hs h.2 j k (by simpa using hj)
 | [],_::_,h,_,_,_=>by cases h
 | _::_,[],h,_,_,_=>by cases h
def qit(cx:Cx)(S:St)(op:BinOp)(t:nz)(x y:XV):Option qqa:=match x,y,yx cx t,qz3 cx 30 t with
 | .v (.agg l),.v (.agg m),I d,I ks=>if d.k.agg && d.eq && qap S ks l && qap S ks m then match op with
   | .eql=>I ⟨qzy S .bool [],.no,.pure⟩
   | .neq=>I ⟨qzy S .bool [],.no,.pure⟩
   | _=>V
   else V
 | _,_,_,_=>V
theorem q0g(hcx:yj P cx){op:BinOp}{t':nz}{xv:XV}{r:qqa}(ho:o.op=.binOp op t x y t')(hx:S.op x=I xv)(hy:S.op y=I yv)(h:qit cx S op t xv yv=I r)(H:qqu cx W0 S base Ω T w a):jc P cx W0 S base Ω T w a o r:=by
 obtain⟨ρ0,h0⟩:=H.ex;have hs0:=H.sat ρ0 h0;unfold qit at h;split at h
 .rename_i l m d ks hd hks;split at h
  .rename_i hc;simp only[ag] at hc;obtain⟨⟨⟨hag,heq⟩,h1⟩,h2⟩:=hc;have ex:=qyz (H.env ρ0 h0) hx;have ey:=qyz (H.env ρ0 h0) hy;have ex':a.eval x=.agg (qw ρ0 l).toArray:=ex;have ey':a.eval y=.agg (qw ρ0 m).toArray:=ey
   have hval:∀{ss:List SV},qap S ks ss=nr->qar d.k.agg ks (.agg (qw ρ0 ss).toArray):=λhk=>by
    rw[hag];refine⟨_,rfl,λj k hj=>?_⟩;obtain⟨v,q1,q2⟩:=qe8 hs0 hk j k hj;exact⟨v,by rw[bu];simpa using q1,q2⟩
   obtain⟨β,hβ⟩:=qlg (w:=w) hcx 30 t ks d hks hd 10000 _ _ kg (hval h1) (hval h2);have hg:=run_eqGuard_agg (P:=P) w op t x y (qw ρ0 l).toArray (qw ρ0 m).toArray (((hcx t d hd).2.2 heq).2)
   have hfin:∀b:Bool,(execOp a.eval o).run P w=.ok (.value (ni b)) w->jc P cx W0 S base Ω T w a o ⟨qzy S .bool [],.no,.pure⟩:=λb hb=>by
    unfold jc;rw[hb];exact⟨T,V,qyv.refl hs0.wt base .pure,λZ hρ _=>⟨jq ⟨b,rfl⟩ kq,rfl⟩⟩
   split at h
   .cases h;refine hfin β ?_;simp only[execOp,ho];refine qqp ?_;rw[ex',ey',ai,hg];simp only[aq];rw[run_eql_struct,hβ];rfl
   .cases h;refine hfin (!β) ?_;simp only[execOp,ho];refine qqp ?_;rw[ex',ey',ai,hg];simp only[aq];rw[run_neq_struct,hβ];rfl
   .cases h
  .cases h
 .cases h
end
open Go.RowKit
abbrev qul:=List (mb×zu)
def qc9(P:ma)(cx:Cx)(W0:nu)(G:qul):Prop:=∀f C,look G f=I C->qm P cx W0 f C/\(jb C.ps).all CT.low=nr
def ptTy(S:St):SV->Option (Nat×nz)
 | .var n=>match look S.ty n with
   | some (.pt m t)=>I (min m 1,t)
   | _=>V
 | _=>V
def bound(tb:yg)(S:St)(p:PT)(x:Operand):Option (Nat×nz):=match S.op x with
 | some (.v (.one s))=>ptTy S s
 | some (.v (.agg c))=>match p with
   | .agg l=>if decide (c.length=l.length) && (c.zip l).all (λq=>S.has tb q.1 q.2) && l.all CT.plain then
      (tb.find? λq=>decide (q.2=l) && decide (tb.flat q.1=I l)).map λq=>(9,q.1) else V
   | _=>V
 | _=>V
def qfh(tb:yg)(S:St):List PT->List Operand->Option (List (Nat×nz))
 | _,[]=>I []
 | ps,x::r=>match bound tb S (ps.headD (.one .any)) x,qfh tb S ps.tail r with
   | some p,I l=>I (p::l)
   | _,_=>V
def psOf(G:qul)(f:mb):List PT:=match look G f with
 | some C=>C.ps
 | none=>[]
def qgh(tb:yg)(G:qul)(S:St)(fn:Fn)(first cap:List Operand):Option qqa:=match fn with
 | .func f=>match qfh tb S (psOf G f) first,qfh tb S ((psOf G f).drop ((psOf G f).length-cap.length)) cap with
   | some l,I m=>I ⟨qzy S (.fn [f] l m) [],.no,.pure⟩
   | _,_=>V
 | _=>V
def fnTy(S:St):SV->Option (List mb×List (Nat×nz)×List (Nat×nz))
 | .con (.func (.func f) x y)=>if x.size=0/\y.size=0 then I ([f],[],[]) else V
 | .var n=>match look S.ty n with
   | some (.fn fs l m)=>I (fs,l,m)
   | _=>V
 | _=>V
def ptP(tb:yg)(p:Nat×nz):PT:=if p.1=9 then .agg ((tb.flat p.2).getD []) else .one (.pt p.1 p.2)
def qhy(tb:yg)(l:List (Nat×nz)):List PT:=l.map (ptP tb)
def qdb:List PT->List PT->Bool
 | [],[]=>nr
 | .one a::r,.one b::s=>decide (a=b) && qdb r s
 | .agg a::r,.agg b::s=>decide (a=b) && qdb r s
 | _,_=>ns
theorem qci:∀{a b:List PT},qdb a b=nr->a=b
 | [],[],_=>rfl
 | .one a::r,.one b::s,h=>by
   simp only[qdb,ag,decide_eq_true_eq] at h;rw[h.1,qci h.2]
 | .agg a::r,.agg b::s,h=>by
   simp only[qdb,ag,decide_eq_true_eq] at h;rw[h.1,qci h.2]
 | [],_::_,h=>by cases h
 | .one _::_,[],h=>by cases h
 | .one _::_,.agg _::_,h=>by cases h
 | .one _::_,.con _::_,h=>by cases h
 | .agg _::_,[],h=>by cases h
 | .agg _::_,.one _::_,h=>by cases h
 | .agg _::_,.con _::_,h=>by cases h
 | .con _::_,[],h=>by cases h
 | .con _::_,_::_,h=>by cases h
def cOk(G:qul)(rs ps:List PT)(f:mb):Bool:=match look G f with
 | some C=>C.pre.isEmpty && qdb C.rs rs && qdb C.ps ps
 | none=>ns
def puOf(G:qul)(f:mb):Lv:=match look G f with
 | some C=>C.pu
 | none=>.no
def q0y(l:List Lv):Lv:=if l.all (Lv.le .pure) then .pure else if l.all (Lv.le .kp) then .kp else .no
theorem q5a{l:List Lv}{x:Lv}(h:x∈l):(q0y l).le x=nr:=by
 unfold q0y;split
 .rename_i hp;exact ao.1 hp x h
 .split
  .rename_i hp;exact ao.1 hp x h
  .rfl
def qwd(tb:yg)(G:qul)(S:St)(s:SV)(args:List Operand):Option qqa:=match fnTy S s with
 | some (f0::fs,l,m)=>match look G f0 with
   | some C0=>match qe2 S tb ((C0.ps.drop l.length).take args.length) args with
     | some cs=>if(f0::fs).all (cOk G C0.rs (qhy tb l++((C0.ps.drop l.length).take args.length++qhy tb m))) && C0.rs.all qva then I ⟨⟨quw S.nv C0.rs,jb C0.rs,[]⟩,.no,q0y ((f0::fs).map (puOf G))⟩ else V
     | none=>V
   | none=>V
 | _=>V
section
variable {P:ma}{cx:Cx}{W0:nu}{S:St}{base:Nat}{Z:yu}{T T':Nat->Prop}{w w':nu}{a:Act}{Ω:yu->Prop}
theorem q4i{p:PT}(hs:xg cx.tb W0 S base Z T w)(he:qqz S Z a)(h:bound cx.tb S p x=I (m,t)):BV cx.tb W0 T w base m t (a.eval x):=by
 unfold bound at h;split at h
 .rename_i s qh;unfold ptTy at h;split at h
  .rename_i n;split at h
   .rename_i m' t' hl;cases h;have hcv:PV cx.tb W0 T w base m' t (Z n):=hs.ty n _ (ji hl);unfold BV;rw[if_neg kg,qyz he qh];exact CV.le (a:=.pt m' t) (b:=.pt (min m' 1) t) hcv (by simp[CT.le];omega)
   .cases h
  .cases h
 .rename_i c qh;split at h
  .rename_i l;split at h
   .rename_i hc;simp only[ag,decide_eq_true_eq] at hc;obtain⟨⟨hlen,hall⟩,hpl⟩:=hc;cases hq:cx.tb.find? (λq=>decide (q.2=l) && decide (cx.tb.flat q.1=I l)) with
    | none=>rw[hq] at h;cases h
    | some q=>
      rw[hq] at h;cases h;have hf:=List.find?_some hq;simp only[ag,decide_eq_true_eq] at hf;unfold BV;rw[if_pos rfl,qyz he qh];refine⟨(qw Z c).toArray,rfl,by simp[qw,yg.sz,hf.2,hlen],λk ct hk=>?_⟩;rw[hf.2] at hk;simp only[Option.getD_some] at hk;have hkl:k<l.length:=(al.1 hk).1;have hkc:k<c.length:=kg;refine⟨c[k].den Z,by simp[qw,ah hkc],?_⟩
      have hz:=ao.1 hall (c[k],ct) (by
       refine ph.2 ⟨k,?_⟩;rw[mv]
       exact⟨ah hkc,hk⟩)
      exact(qx0 hs hz).vt (ao.1 hpl ct (cm hk))
   .cases h
  .cases h
 .cases h
theorem qgs(hs:xg cx.tb W0 S base Z T w)(he:qqz S Z a):∀{ps:List PT} {xs:List Operand} {l:List (Nat×nz)},qfh cx.tb S ps xs=I l->xs.length=l.length/\∀(i m:Nat) (t:nz),l[i]? = I (m,t)->∃u,(xs.map a.eval)[i]? = I u/\BV cx.tb W0 T w base m t u
 | _,[],l,h=>by
   unfold qfh at h;cases h;exact⟨rfl,λi m t hi=>by simp at hi⟩
 | ps,x::r,l,h=>by
   unfold qfh at h;split at h
   .rename_i p l' h1 h2;cases h;obtain⟨g1,g2⟩:=qgs hs he h2;refine⟨by simp[g1],λi m t hi=>?_⟩;cases i with
    | succ i=>obtain⟨u,q1,q2⟩:=g2 i m t (by simpa using hi);exact⟨u,by simpa using q1,q2⟩
    | zero=>
      simp only[db,bc] at hi;subst hi;exact⟨a.eval x,kq,q4i hs he h1⟩
   .cases h
theorem qsx{fn:Fn}{first cap:Array Operand}{r:qqa}(ho:o.op=.makeFunc fn first cap){G:qul}(h:qgh cx.tb G S fn first.toList cap.toList=I r)(H:qqu cx W0 S base Ω T w a):jc P cx W0 S base Ω T w a o r:=by
 obtain⟨ρ0,h0⟩:=H.ex;have hs0:=H.sat ρ0 h0;unfold qgh at h;split at h
 .rename_i f;split at h
  .rename_i l m hl hm;cases h;obtain⟨a1,a2⟩:=qgs hs0 (H.env ρ0 h0) hl;obtain⟨b1,b2⟩:=qgs hs0 (H.env ρ0 h0) hm
   have hpv:∀{xs:Array Operand} {l:List (Nat×nz)},xs.toList.length=l.length->(∀(i m:Nat) (t:nz),l[i]? = I (m,t)->∃u,(xs.toList.map a.eval)[i]? = I u/\BV cx.tb W0 T w base m t u)->qd7 cx.tb W0 T w base l (xs.map a.eval):=λh1 h2=>
    ⟨by simpa using h1,λi m t hi=>by obtain⟨u,q1,q2⟩:=h2 i m t hi;exact⟨u,by rw[<-ax,ig];exact q1,q2⟩⟩
   have hrun:(execOp a.eval o).run P w=.ok (.value (.func (.func f) (first.map a.eval) (cap.map a.eval))) w:=by
    simp[execOp,ho,Instr.makeFunc]
   unfold jc;rw[hrun];exact⟨T,V,qyv.refl hs0.wt base .pure,λZ hρ _=>⟨jq ⟨f,_,_,rfl,kq,hpv a1 a2,hpv b1 b2⟩ kq,rfl⟩⟩
  .cases h
 .cases h
theorem q6c{fs:List mb}{l m:List (Nat×nz)}(hs:xg cx.tb W0 S base Z T w)(h:fnTy S s=I (fs,l,m)):∃f x y,s.den Z=.func (.func f) x y/\f∈fs/\qd7 cx.tb W0 T w base l x/\qd7 cx.tb W0 T w base m y:=by
 unfold fnTy at h;split at h
 .split at h
  .rename_i f x y hc;cases h;exact⟨f,x,y,rfl,kq,⟨hc.1,λi m t hi=>by simp at hi⟩,⟨hc.2,λi m t hi=>by simp at hi⟩⟩
  .cases h
 .split at h
  .rename_i n _ fs' l' m' hl;cases h;exact hs.ty n _ (ji hl)
  .cases h
 .cases h
theorem qad:∀{ps qs:List PT} {vs us:List ny},qqk cx.tb W0 T w base ps vs->qqk cx.tb W0 T w base qs us->qqk cx.tb W0 T w base (ps++qs) (vs++us)
 | [],qs,[],us,_,h=>h
 | p::ps,qs,v::vs,us,h,k=>⟨h.1,qad h.2 k⟩
 | [],_,_::_,_,h,_=>h.elim
 | _::_,_,[],_,h,_=>h.elim
theorem ql2:∀{l:List (Nat×nz)} {vs:List ny},vs.length=l.length->(∀(i m:Nat) (t:nz),l[i]? = I (m,t)->∃u,vs[i]? = I u/\BV cx.tb W0 T w base m t u)->qqk cx.tb W0 T w base (qhy cx.tb l) vs
 | [],[],_,_=>trivial
 | (m,t)::l,v::vs,h,k=>by
   refine⟨?_,ql2 (by simpa using h) (λi m t hi=>by obtain⟨u,q1,q2⟩:=k (i+1) m t (by simpa using hi);exact⟨u,by simpa using q1,q2⟩)⟩;obtain⟨u,q1,q2⟩:=k 0 m t rfl;simp only[db,bc] at q1;subst q1;unfold BV at q2;unfold ptP;simp only;split at q2
   .rename_i h9;rw[if_pos h9];obtain⟨cs,e1,e2,e3⟩:=q2;refine⟨cs,e1,?_,λi ct u hi hu=>?_⟩
    .rw[e2];unfold yg.sz;cases cx.tb.flat t<;>rfl
    .obtain⟨x,r1,r2⟩:=e3 i ct hi;rw[hu] at r1;cases r1;exact r2.cv
   .rename_i h9;rw[if_neg h9];exact q2
 | [],_::_,h,_=>by simp at h
 | _::_,[],h,_=>by simp at h
theorem qgp{tb:yg}:∀{l:List (Nat×nz)},(jb (qhy tb l)).all CT.low=nr->l.all (λp=>decide (p.1<=1\/p.1=9))=nr
 | [],_=>rfl
 | (m,t)::l,h=>by
   simp only[qhy,jb,fg,ik,abj,ag] at h;have h2:=qgp (tb:=tb) (l:=l) (by simpa[qhy,jb] using h.2);simp only[og,ag,decide_eq_true_eq];refine⟨?_,h2⟩;have h1:=h.1;unfold ptP at h1;simp only at h1;split at h1
   .rename_i h9;exact .inr h9
   .simp only[PT.cts,og,List.all_nil,Bool.and_true,CT.low,decide_eq_true_eq] at h1;exact .inl h1
theorem q2u{C:zu}{argv:Array ny}{pu:Lv}(hs0:xg cx.tb W0 S base Z T w)(hC:qm P cx W0 f C)(hrun:(execOp a.eval o).run P w=.ok (.enter f argv) w)(hargs:qqk cx.tb W0 T w w.heap.size C.ps argv.toList)(hpre:C.pre=[])(hnc:C.rs.all qva=nr)(hpu:pu.le C.pu=nr) :
  jc P cx W0 S base Ω T w a o ⟨⟨quw S.nv C.rs,jb C.rs,[]⟩,.no,pu⟩:=by
 obtain⟨-,hC⟩:=hC;unfold jc;rw[hrun];refine(hC T w argv hs0.wt hargs (λl hl=>by rw[hpre] at hl;cases hl)).mono ?_;rintro e w' ⟨v,vs,T',rfl,hres,hty,hpost,hbe,hhist,hwt⟩
 refine⟨v,rfl,T',V,⟨hwt,hhist.ext,hhist.new,hhist.size,hhist.os,hhist.tape,hhist.output,λb hb hT _=>hhist.keep b hb (.inr hT),λb hb hk=>hhist.keep b (bf hb hs0.bs) (hk.imp (λh=>by subst h;revert hpu;cases C.pu<;>simp[Lv.le]) id),λhk b hb hT=>by
  subst hk;cases hq:C.pu with
  | no=>rw[hq] at hpu;cases hpu
  | kp=>exact hhist.kpt hq b (bf hb hs0.bs) hT
  | pure=>exact .same (hhist.keep b (bf hb hs0.bs) (.inl hq))⟩,λZ hρ hblk=>⟨?_,rfl⟩⟩
 obtain⟨c1,c2,c3⟩:=qbm hty hnc
 have qhd:qzs v=zt C.rs vs:=by
  rw[c1];unfold qu6 at hres;split at hres
  .rename_i p hrs;subst hres;have hty':=hty;rw[hrs] at hty' hnc;obtain⟨g1,-,-⟩:=qz5 hty'.1 (by simpa using hnc);simp only[ik,List.flatMap_nil,List.append_nil];cases p with
   | con c=>simp[qva] at hnc
   | one ct=>rw[qgt (CV.one hty'.1),<-g1];rfl
   | agg l=>
     obtain⟨cs',rfl,-⟩:=hty'.1;rfl
  .subst hres;rfl
 have hget:∀i u,(zt C.rs vs)[i]? = I u->Z (S.nv+i)=u:=λi u hi=>by
  have hlt:i<(jb C.rs).length:=by rw[<-c2];exact(al.1 hi).1
  rw[hblk i hlt,qhd,bn,hi];rfl
 intro _;refine⟨?_,λi ct hi=>?_,λfl hfl=>?_⟩
 .show v=(quw S.nv C.rs).den Z;unfold qu6 at hres;unfold quw;split at hres
  .rename_i p hrs;subst hres;have hty':=hty;rw[hrs] at hty' hget hnc;exact(qv0 hty'.1 (by simpa using hnc) (λi u hi=>hget i u (by simpa[zt] using hi))).symm
  .rename_i hne;subst hres;show Value.tuple _=Value.tuple _;rw[qcr hty hnc hget]
 .have hlt:i<(zt C.rs vs).length:=by rw[c2];exact(al.1 hi).1
  have hu:=ah hlt;rw[hget i _ hu];exact(c3 i ct _ hi hu).mono (xq.refl _ _) hs0.bs
 .cases hfl
theorem q42{G:qul}(hG:qc9 P cx W0 G){args ats:Array _}{r:qqa}(ho:o.op=.call { callee:=.value x,args,argTypes:=ats })(hx:S.one x=I s)(h:qwd cx.tb G S s args.toList=I r)(H:qqu cx W0 S base Ω T w a) :
  jc P cx W0 S base Ω T w a o r:=by
 obtain⟨ρ0,h0⟩:=H.ex;have hs0:=H.sat ρ0 h0;unfold qwd at h;split at h
 .rename_i f0 fs l m hft;split at h
  .rename_i C0 hC0;split at h
   .rename_i cs hcs;split at h
    .rename_i hc;cases h;simp only[ag] at hc;obtain⟨hall,hnc⟩:=hc;obtain⟨f,y,z,e1,e2,e3,e4⟩:=q6c hs0 hft;have hcf:=ao.1 hall f e2;unfold cOk at hcf;split at hcf
     .rename_i C hC;simp only[ag,List.isEmpty_iff] at hcf;obtain⟨⟨p1,p2⟩,p3⟩:=hcf;have q2:=qci p2;have q3:=qci p3;obtain⟨hH,hlow⟩:=hG f C hC;obtain⟨⟨fn,hf1,hf2,hf3⟩,-⟩:=hH
      have hrun:(execOp a.eval o).run P w=.ok (.enter f (y++args.map a.eval++z)) w:=by
       have hn:(fn.name == "runtime.NumGoroutine")=ns:=hf2;have he:a.eval x=.func (.func f) y z:=(xu (H.env ρ0 h0) hx).trans e1;simp only[execOp,ho,resolve,ai,eb,aq,he];simp only[Deferred.ofValue,eb,aq,invoke,callFunc,ai,run_program,hf1];rw[if_neg (by rw[hn];simp),if_neg (by rw[hf3];simp)];simp
      have hlow':=hlow;rw[q3] at hlow';simp only[jb,List.flatMap_append,abj,ag] at hlow';obtain⟨l1,l2,l3⟩:=hlow'
      have hpv:∀{l:List (Nat×nz)} {vs:Array ny},qd7 cx.tb W0 T w base l vs->l.all (λp=>decide (p.1<=1\/p.1=9))=nr->qqk cx.tb W0 T w w.heap.size (qhy cx.tb l) vs.toList:=λhv hl=>by
       have h1:=(hv.mono (xq.refl T w) (cr _)).qzg hl w.heap.size;exact ql2 (by simpa using h1.1) (λi m t hi=>by obtain⟨u,q1,q2⟩:=h1.2 i m t hi;exact⟨u,by rw[ax];exact q1,q2⟩)
      have hty:qqk cx.tb W0 T w w.heap.size C.ps (y++args.map a.eval++z).toList:=by
       rw[q3];simp only[zp,ig,List.append_assoc];exact qad (hpv e3 (qgp l1)) (qad ((qv8 hs0 (H.env ρ0 h0) hcs l2).1 _) (hpv e4 (qgp l3)))
      rw[<-q2] at hnc ⊢
      exact q2u hs0 (hG f C hC).1 hrun hty p1 hnc (by
       have:=q5a (List.mem_map_of_mem (f:=puOf G) e2);unfold puOf at this;rw[hC] at this
       exact this)
     .cases hcf
    .cases h
   .cases h
  .cases h
 .cases h
end
open Go.RowKit
def s2bA(cx:Cx)(S:St)(src dst:nz)(x:SV):Option qqa:=match kd cx src,kd cx dst,S.len x with
 | .str,.sl e,I ls=>match kd cx e,cx.tb.flat e with
   | .int .u8,I [.int .u8 0 255]=>if S.str x && S.ent ((qf.k mf).sub ls) then I ⟨qzy S (.sl 2 e mf) [(qf.at S.nv).sub ls,ls.sub (qf.at S.nv)],.no,.pure⟩ else V
   | _,_=>V
 | _,_,_=>V
def b2sA(cx:Cx)(S:St)(src dst:nz)(x:SV):Option qqa:=match kd cx src,kd cx dst,S.qcm x,S.len x with
 | .sl e,.str,I (_,e',lb),I ls=>match kd cx e,cx.tb.flat e with
   | .int .u8,I [.int .u8 0 255]=>if e'=e then I ⟨qzy S (.str lb) [(qf.at S.nv).sub ls,ls.sub (qf.at S.nv)],.no,.pure⟩ else V
   | _,_=>V
 | _,_,_,_=>V
section
variable {P:ma}{cx:Cx}{W0:nu}{S:St}{base:Nat}{Z:yu}{T T':Nat->Prop}{w w':nu}{a:Act}{Ω:yu->Prop}
theorem q46(h:WT cx.tb W0 T w)(hb:base<=w.heap.size)(hz:Fz cs fr)(hf:cx.tb.flat e=I l)(hl:0<l.length)
  (hni:qvf l=nr) (ht:∀i v,cs[i]? = I v->∃ct,l[i%l.length]? = I ct/\CV cx.tb W0 T w 0 ct v):qyv cx.tb W0 T w (add T w.heap.size) (w.drew.alloc (.cells cs e fr)) base .pure V:=by
 have hk:∀b,b<w.heap.size->(w.drew.alloc (.cells cs e fr)).heap[b]? = w.heap[b]?:=λb hb=>qu9 w.drew _ b (by show b≠w.heap.size;omega)
 obtain⟨g1,g2⟩:=h.frame (w':=w.drew.alloc (.cells cs e fr)) (by show w.heap.size<=(w.heap.push _).size;simp) (λb hb=>hk b (bf hb h.size)) (λb hb=>hk b (h.lt hb)) (λb es c hb=>by rw[hk b (by rcases dw b w.heap.size with h1|h1;exact h1;rw[dq h1] at hb;cases hb)];exact hb);have hnew:(w.drew.alloc (.cells cs e fr)).heap[w.heap.size]? = I (.cells cs e fr):=gy w.drew _
 obtain⟨h2,h3⟩:=g1.join (g:=w.heap.size) h.size hnew hz hf hl (λi v hv=>by
  obtain⟨ct,q1,q2⟩:=ht i v hv
  exact⟨ct,q1,q2.mono g2 (af _)⟩) (qdp hni _)
 refine⟨h2,g2.trans h3,λb hb=>?_,by show w.heap.size<=(w.heap.push _).size;simp,rfl,rfl,rfl,λb hb _ _=>hk b hb,λb hb' _=>hk b kg,λh=>by cases h⟩;rcases hb with hb|rfl
 .exact .inl hb
 .exact .inr (af _)
theorem q6w(hcx:yj P cx){r:qqa}(ho:o.op=.convert src dst x)(hx:S.one x=I s)(h:s2bA cx S src dst s=I r)(H:qqu cx W0 S base Ω T w a):jc P cx W0 S base Ω T w a o r:=by
 obtain⟨ρ0,h0⟩:=H.ex;have hs0:=H.sat ρ0 h0;unfold s2bA at h;split at h
 .rename_i e ls hk1 hk2 hls;split at h
  .rename_i hk3 hf;split at h
   .rename_i hc;cases h;simp only[ag] at hc;obtain⟨hstr,hent⟩:=hc;obtain⟨b,hb⟩:=qj7 hs0 hstr;have ex:=(xu (H.env ρ0 h0) hx).trans hb;obtain⟨u1,p1,p2⟩:=xe hcx hk1 kq;have:u1=.string:=by cases u1<;>simp_all [KD.of]
    subst this;obtain⟨u2,p3,p4⟩:=xe hcx hk2 kq;obtain⟨e'',rfl⟩:∃e'',u2=.slice e'':=by cases u2<;>simp_all [KD.of]
    simp only[KD.of,KD.sl.injEq] at p4;subst p4;obtain⟨u3,p5,p6⟩:=xe hcx hk3 kq;have:u3=.int .u8:=by cases u3<;>simp_all [KD.of]
    subst this
    have hlen:∀Z,Ω Z->ls.eval Z=b.size:=λZ hρ=>by
     have e1:s.den Z=nh b:=by rw[<-xu (H.env Z hρ) hx,ex]
     exact qj5 (H.sat Z hρ) e1 hls
    have q:=hs0.ent hent;rw[qf.sub_eval,qf.ja,hlen ρ0 h0] at q;have hml:mf=9223372036854775807:=kj;have hcap:=mq w b.size 0 e'';have hcap2:grownCap w b.size 0 e''<=mf:=ib w _ _ _ kg
    have hsz:(bytesRow b (grownCap w b.size 0 e'')).size=grownCap w b.size 0 e'':=by
     simp only[bytesRow,fw,Array.size_map,Array.size_replicate];have:b.data.size=b.size:=rfl;omega
    have hty:∀i v,(bytesRow b (grownCap w b.size 0 e''))[i]? = I v->∃ct,([.int .u8 0 255]:List CT)[i%([.int .u8 0 255]:List CT).length]? = I ct/\CV cx.tb W0 T w 0 ct v:=by
     intro i v hv;refine⟨.int .u8 0 255,by simp[ya],?_⟩;unfold bytesRow at hv;rw[Array.getElem?_append] at hv;split at hv
     .rw[aae] at hv;cases hq:b.data[i]? with
      | none=>rw[hq] at hv;cases hv
      | some y=>
        rw[hq] at hv;cases hv;exact⟨_,rfl,kg,by have:=y.toNat_lt;omega⟩
     .rw[Array.getElem?_replicate] at hv;split at hv
      .cases hv;exact⟨0,rfl,kg,kg⟩
      .cases hv
    have hst:=q46 (cx:=cx) (base:=base) (w:=w) (fr:=((bytesRow b (grownCap w b.size 0 e'')).size,(bytesRow b (grownCap w b.size 0 e'')).size+1)) hs0.wt hs0.bs (.inr (af _)) hf kq rfl hty
    have hrun:(execOp a.eval o).run P w=.ok (.value (ng (I ⟨w.heap.size,0,V⟩) b.size (grownCap w b.size 0 e'')))
     (w.drew.alloc (.cells (bytesRow b (grownCap w b.size 0 e'')) e'' ((bytesRow b (grownCap w b.size 0 e'')).size,(bytesRow b (grownCap w b.size 0 e'')).size+1))):=by
     simp only[execOp,ho,ex];exact qqp (run_bytes_of_string w src dst e'' b p1 p3 p5)
    unfold jc;rw[hrun];have hsz1:cx.tb.sz e''=1:=by simp[yg.sz,hf]
    refine⟨add T w.heap.size,V,hst,λZ hρ _=>⟨jq (.inr (.inr ⟨w.heap.size,0,b.size,_,rfl,hcap,kg,hcap2,.inr rfl,λ_=>hs0.bs,kg,aad _,_,_,gy w.drew _,by rw[hsz1,hsz];omega⟩)) ?_,rfl⟩⟩;intro hv g hg;simp only[cu,ep,or_false] at hg;rcases hg with rfl|rfl<;>rw[qf.sub_eval,qf.yl,hv,hlen Z hρ]<;>simp only[meas]<;>omega
   .cases h
  .cases h
 .cases h
theorem q63(hcx:yj P cx){r:qqa}(ho:o.op=.convert src dst x)(hx:S.one x=I s)(h:b2sA cx S src dst s=I r)(H:qqu cx W0 S base Ω T w a):jc P cx W0 S base Ω T w a o r:=by
 obtain⟨ρ0,h0⟩:=H.ex;have hs0:=H.sat ρ0 h0;unfold b2sA at h;split at h
 .rename_i e m e' lb ls hk1 hk2 hst hls;split at h
  .rename_i hk3 hf;split at h
   .rename_i hee;subst hee;cases h;obtain⟨n,rfl,hcv,-⟩:=qx9 hs0 hst;obtain⟨u1,p1,p2⟩:=xe hcx hk1 kq;obtain⟨e'',rfl⟩:∃e'',u1=.slice e'':=by cases u1<;>simp_all [KD.of]
    simp only[KD.of,KD.sl.injEq] at p2;subst p2;obtain⟨u2,p3,p4⟩:=xe hcx hk2 kq;have:u2=.string:=by cases u2<;>simp_all [KD.of]
    subst this;obtain⟨u3,p5,p6⟩:=xe hcx hk3 kq;have:u3=.int .u8:=by cases u3<;>simp_all [KD.of]
    subst this;obtain⟨A,k,c,v1,v2,v3,v4,v5⟩:=hcv.slc;have ex:a.eval x=ng A k c:=(xu (H.env ρ0 h0) hx).trans v1;have hlen:∀Z,Ω Z->ls.eval Z=k:=λZ hρ=>qyb (H.sat Z hρ) (by rw[<-xu (H.env Z hρ) hx,ex]) hls
    have hklb:k<=lb:=by
     rw[v1] at hcv;have:=hcv.rng (lo:=0) (hi:=lb) rfl;simp only[meas] at this;omega
    have hres:∃y:ByteArray,y.size=k/\(convert src dst (ng A k c)).run P w=.ok (nh y) w:=by
     cases A with
     | none=>
       obtain⟨rfl,rfl⟩:=v4 rfl;exact⟨abk,rfl,run_convert_bytes_nil w src e'' p1 p5 0 0 dst p3⟩
     | some ad=>
       by_cases hc0:c=0
       .have hk0:k=0:=kg;subst hk0;subst hc0;refine⟨abk,rfl,?_⟩;rw[run_convert_bytes_string w src dst e'' _ 0 0 p1 p5 p3,run_bytesToString w ad 0 0 [] (by simpa using run_loadCells_list (P:=P) w ad [] (λj v h=>by simp at h))];rfl
       obtain⟨b,off,sp⟩:=ad;have hsp:=v5 _ rfl hc0;simp only at hsp;subst hsp;rw[v1] at hcv;obtain⟨news,n1,n2⟩:=CV.rows hs0.wt hf kq hcv
       have hint:∀j,j<k->∃z:Int,news[j]? = I (U .u8 z):=λj hj=>by
        have hjl:j<news.length:=by rw[n1];simpa using hj
        obtain⟨-,ct,q1,q2⟩:=n2 j news[j] (ah hjl);simp only[yy,ya,db,bc] at q1;subst q1;obtain⟨z,hz,-⟩:=q2;exact⟨z,by rw[ah hjl,hz]⟩
       obtain⟨xs,hx1,hx2⟩:=qfr (Q:=λj z=>news[j]? = I (U .u8 z)) k hint;refine⟨strOfNums xs,?_,run_convert_bytes_arg w src e'' p1 p5 b off k c xs hx1 (λi hi=>?_) dst p3⟩
       .simp[strOfNums,ByteArray.size,hx1]
       .have hil:i<xs.length:=kg;have:=hx2 i xs[i] (ah hil);rw[(n2 i _ this).1,bn,ah hil];rfl
    obtain⟨y,hy,hconv⟩:=hres
    have hrun:(execOp a.eval o).run P w=.ok (.value (nh y)) w:=by
     simp only[execOp,ho,ex];exact qqp hconv
    unfold jc;rw[hrun];refine⟨T,V,qyv.refl hs0.wt base .pure,λZ hρ _=>⟨jq ⟨y,rfl,kg⟩ ?_,rfl⟩⟩;intro hv g hg;simp only[cu,ep,or_false] at hg;rcases hg with rfl|rfl<;>rw[qf.sub_eval,qf.yl,hv,hlen Z hρ]<;>simp only[meas]<;>omega
   .cases h
  .cases h
 .cases h
end
open Go.RowKit
def csTy(S:St):SV->Option (Nat×nz×Nat)
 | .var n=>match look S.ty n with
   | some (.cs q e lb)=>I (q,e,lb)
   | _=>V
 | _=>V
def qnd(cx:Cx)(S:St)(t:nz)(s x:SV):Option qqa:=match kd cx t,S.len x,csTy S x with
 | .sl e,I lx,I (q,e',lb)=>match yx cx e,cx.tb.flat e with
   | some d,I f=>if qa1 s && decide (e'=e) && qum e && qqb d f && decide (lb<=LM/\d.bytes<=32768) then
      I ⟨qzy S (.cs q e lb) [(qf.at S.nv).sub lx,lx.sub (qf.at S.nv)],.no,.pure⟩ else V
   | _,_=>V
 | _,_,_=>V
section
variable {P:ma}{cx:Cx}{W0:nu}{S:St}{base:Nat}{Z:yu}{T T':Nat->Prop}{w w':nu}{a:Act}{Ω:yu->Prop}
theorem qsc{q:Nat}(h:xg cx.tb W0 S base Z T w)(hs:csTy S s=I (q,e,lb)):∃n,s=.var n/\CV cx.tb W0 T w base (.cs q e lb) (Z n):=by
 cases s with
 | var n=>
   simp only[csTy] at hs;split at hs
   .rename_i hq;cases hs;exact⟨n,rfl,h.ty n _ (ji hq)⟩
   .cases hs
 | con v=>cases hs
 | lin k l=>cases hs
 | be b=>cases hs
 | ptr n o=>cases hs
theorem q2t(hcx:yj P cx){s:Operand}{r:qqa}(ho:o.op=.call { callee:=.builtin .append,args:=#[s,x],argTypes:=#[t,t] })(hs1:S.one s=I ss)(hx1:S.one x=I sx)(h:qnd cx S t ss sx=I r)(H:qqu cx W0 S base Ω T w a) :
  jc P cx W0 S base Ω T w a o r:=by
 obtain⟨ρ0,h0⟩:=H.ex;have hs0:=H.sat ρ0 h0;unfold qnd at h;split at h
 .rename_i e lx q e' lb hk hlx hcs;split at h
  .rename_i d f hd hf;split at h
   .rename_i hcc;cases h;simp only[ag,decide_eq_true_eq] at hcc;obtain⟨⟨⟨⟨hnil,rfl⟩,hfz⟩,hz⟩,hlb,hby⟩:=hcc;obtain⟨u',g1,g2⟩:=xe hcx hk kq;obtain⟨e'',rfl⟩:∃e'',u'=.slice e'':=by cases u'<;>simp_all [KD.of]
    simp only[KD.of,KD.sl.injEq] at g2;subst g2;obtain⟨i,hi1,hi2,hi3,z,hz1,hz2⟩:=jg (hcx _ d hd);obtain⟨z1,z2,z3,-⟩:=qz4 (cx:=cx) (W0:=W0) (T:=T) (w:=w) (base:=base) hz;have ed:a.eval s=ng V 0 0:=by rw[xu (H.env ρ0 h0) hs1,qvs hnil];rfl
    obtain⟨m,rfl,hcv⟩:=qsc hs0 hcs;have ex:a.eval x=ρ0 m:=xu (H.env ρ0 h0) hx1;have hLM:(LM:Int)=4294967296:=kj;have hLM':LM=4294967296:=kj;have hml:mf=9223372036854775807:=kj;have hsz:i.size=f.length:=by rw[hi2,z2]
    have qae:cx.tb.sz e''=f.length:=by simp[yg.sz,hf]
    have qxl:∀{v:ny} {w1:nu},(fu #[t,t] o.type #[ng V 0 0,ρ0 m]).run P w=.ok v w1->(execOp a.eval o).run P w=.ok (.value v) w1:=by
     intro v w1 hr;rw[<-ed,<-ex] at hr;simp only[execOp,ho,resolve,invoke,builtin];simpa[ai] using qqp hr
    have hlen:∀Z,Ω Z->Z m=ρ0 m:=λZ hρ=>by
     have:a.eval x=Z m:=xu (H.env Z hρ) hx1;rw[<-this,ex]
    have qz7:∀(v:ny),meas v=meas (ρ0 m)->∀Z,Ω Z->Z S.nv=v->∀g∈[(qf.at S.nv).sub lx,lx.sub (qf.at S.nv)],0<=g.eval Z:=by
     intro v hv Z hρ hρv g hg
     have e1:lx.eval Z=meas (ρ0 m):=by
      have hA:∃A n c,(SV.var m).den Z=ng A n c:=by
       obtain⟨m',e1,h2⟩:=qsc (H.sat Z hρ) hcs;cases e1;rcases h2 with h2|⟨b,off,n,c,cs,fr,h2,-⟩
       .exact⟨_,_,_,h2⟩
       .exact⟨_,_,_,h2⟩
      obtain⟨A,n,c,hA⟩:=hA;rw[qyb (H.sat Z hρ) hA hlx,<-hlen Z hρ];have:Z m=ng A n c:=hA;rw[this];rfl
     simp only[cu,ep,or_false] at hg;rcases hg with rfl|rfl<;>simp only[qf.sub_eval,qf.yl,hρv,hv,e1]<;>omega
    rcases hcv with hn|⟨b,off,k,c',cs,fr,u1,u2,u3,u4,u5,u6,u7,u8,u9,u10,u11⟩
    .unfold jc;rw[hn] at qxl qz7;rw[qxl (qqd g1 hi1 rfl (mn w _ _ _ _))];exact⟨T,V,qyv.refl hs0.wt base _,λZ hρ _=>⟨jq (.inl rfl) (qz7 _ (by simp[meas]) Z hρ),rfl⟩⟩
    .rw[u1] at qxl qz7;rw[qae] at u7 u10 u11;have hkc:k*f.length<=c'*f.length:=dd _ u2
     let news:=(cs.toList.drop off).take (k*f.length)
     have hnl:news.length=k*f.length:=by
      show((cs.toList.drop off).take (k*f.length)).length=_;have hcl:cs.toList.length=cs.size:=aw;rw[fb,List.length_drop,hcl];omega
     have hng:∀j v,news[j]? = I v->cs[off+j]? = I v:=λj v hv=>by
      have hj:j<k*f.length:=by rw[<-hnl];exact(al.1 hv).1
      have hv':((cs.toList.drop off).take (k*f.length))[j]? = I v:=hv;rw[fc,if_pos hj,ia,ax] at hv';exact hv'
     have hcell:∀j v,news[j]? = I v->w.cell? ⟨b,off+j,V⟩=I v:=λj v hv=>by rw[dx w b _ cs e'' fr u9];exact hng j v hv
     obtain⟨cs1,te,fr1,lt,t1,t2,t3,t4,t5⟩:=hs0.wt.typed b u5;rw[u9] at t1;injection t1 with t1;injection t1 with t1 t6 t7;subst t1;subst t6;subst t7;rw[hf] at t3;cases t3;by_cases hk0:k=0
     .subst hk0;have hnn:news=[]:=List.length_eq_zero_iff.1 (by rw[hnl,Nat.zero_mul]);unfold jc
      rw[qxl (qqd g1 hi1 rfl (by
       have:=gu (P:=P) w i.size 0 ⟨b,off,V⟩ 0 c' [] kq (λj v h=>by simp at h)
       exact this))]
      exact⟨T,V,qyv.refl hs0.wt base _,λZ hρ _=>⟨jq (.inl rfl) (qz7 _ (by simp[meas]) Z hρ),rfl⟩⟩
     .have hkp:0<k:=kg;have hcapge:k<=grownCap w k 0 e'':=mq w _ _ _;have hcaple:grownCap w k 0 e''<=mf:=ib w _ _ _ kg
      have hbytes:k*i.bytes<=140737488355328:=by
       have h1:k*i.bytes<=4294967296*32768:=tn kg kg;omega
      have hrun:=rf (P:=P) w t o.type e'' i z g1 hi1 hz1 ⟨b,off,V⟩ k c' news (by rw[hnl,hsz]) (λj v hv=>by rw[uz];exact hcell j v hv) hkp kg kg;generalize hq:news.toArray++gw z.cells (grownCap w k 0 e''-k)=Q at hrun;unfold jc;rw[qxl hrun];have hd1:=qdg (tb:=cx.tb) hs0.wt base;have hzs:z.cells.size=f.length:=by rw[<-aw,hz2,z1]
      have qg8:∀j v,Q[j]? = I v->∃ct,f[j%f.length]? = I ct/\CV cx.tb W0 T w.drew 0 ct v:=by
       intro j v hv;rw[<-hq] at hv;have hns:news.toArray.size=k*f.length:=by simpa using hnl
       by_cases h2:j<k*f.length
       .rw[dz kg] at hv;have hv':news[j]? = I v:=by simpa using hv
        obtain⟨ct,p1,p2⟩:=t5 (off+j) v (hng j v hv');refine⟨ct,?_,p2.mono hd1.ext (af _)⟩;rw[<-p1];congr 1
        have hoff:off=off/f.length*f.length:=by
         have:=sv off f.length;rw[u7,ir,qt] at this;exact this.symm
        rw[hoff,Nat.add_comm,ev]
       .rw[fh kg,hns] at hv;rw[qxt] at hv;obtain⟨ct,p1,p2⟩:=qcv (cx:=cx) (W0:=W0) (T:=T) (w:=w) (base:=0) hz hz2 _ _ v hv;refine⟨ct,?_,p2.mono hd1.ext (af _)⟩;rw[<-p1];congr 1
        conv=>lhs;rw[show j=(j-k*f.length)+k*f.length by omega]
        rw[ev]
      have hd2:=qvy (base:=base) (w:=w.drew) hd1.wt hs0.bs hf z3 (qj2 hz) qg8 nr
      have hqs:grownCap w k 0 e''*f.length<=Q.size:=by
       rw[<-hq];simp only[fw,ei,hnl,pj,hzs];rw[<-eh];exact dd _ kg
      have h:=hd1.trans hd2;have hwd:w.drew.heap.size=w.heap.size:=rfl;rw[hwd] at h;refine⟨add T w.heap.size,V,⟨h.wt,h.ext,h.new,h.size,h.os,h.tape,h.output,h.keep,λb hb _=>h.pure b hb (.inl rfl),λ_ b hb _=>.same (h.pure b hb (.inl rfl))⟩,λZ hρ _=>⟨jq ?_ (qz7 _ (by simp[meas]) Z hρ),rfl⟩⟩;refine .inr ⟨w.heap.size,0,k,grownCap w k 0 e'',Q,(0,0),rfl,hcapge,u3,hcaple,.inr rfl,u6,aad _,hfz,gy w.drew _,by rw[qae];omega,?_⟩;rw[qae,List.drop_zero]
      have:Q.toList.take (k*f.length)=news:=by
       rw[<-hq];simp only[zp];rw[List.take_append_of_le_length (by simp[hnl])];rw[List.take_of_length_le (by simp[hnl])]
      rw[this];exact u11
   .cases h
  .cases h
 .cases h
end
open Go.RowKit
def qwu(cx:Cx)(S:St)(t:nz)(s x:SV):Option qqa:=match kd cx t,S.len s,S.len x with
 | .sl e,I ls,I lx=>match yx cx e,cx.tb.flat e,qbq cx S e s with
   | some d,I f,I m=>if !qum e && f.all (λct=>!ct.frozen) && qqb d f && qna cx S e x then
      I ⟨qzy S (qy O) [qf.at S.nv,ls.sub (qf.at S.nv),lx.sub (qf.at S.nv)],.no,qtm m e⟩ else V
   | _,_,_=>V
 | _,_,_=>V
section
variable {P:ma}{cx:Cx}{W0:nu}{S:St}{base:Nat}{Z:yu}{T T':Nat->Prop}{w w':nu}{a:Act}{Ω:yu->Prop}
theorem qmc(ht:P.underlying t=I (.slice e))(hi:P.info? e=I i)(hc:w.heap[b]? = I (.cells cs te fr))(hf:Fz cs fr)
  {x:ny}   (hx:(uv x).run P w=.ok k w) (hn:(gm i.size (om k n) x).run P w=.ok news.toArray w) (h1:∀v∈news,v.oneCell'=nr) (hfit:off+news.length<=cs.size) :
  (rp #[t,t] ty #[ng (I ⟨b,off,V⟩) n c,x]).run P w=.ok (goInt (om k n)) (w.setCells b off news):=by
 have hst:=zd (P:=P) b off news 0 w (λj hj=>by
  rw[dx w b _ cs te fr hc,ak kg];rfl) (λj hj=>by
  simp only[ace,hc];rcases hf with rfl|hf
  .simp
  .have:¬fr.1<=off+j:=kg
   simp[this]) h1
 rw[ir] at hst;simp only[Nat.min_def] at hn;simp[rp,bg ht,sizeOf,typeInfo,hi,hx,hn,hst,Nat.min_def]
theorem q05(ht:P.underlying t=I (.slice e))(hi:P.info? e=I i){x:ny}(hx:(uv x).run P w=.ok k w)(hn:(gm i.size 0 x).run P w=.ok #[] w) :
  (rp #[t,t] ty #[ng V 0 0,x]).run P w=.ok (goInt 0) w:=by
 simp[rp,bg ht,sizeOf,typeInfo,hi,hx,hn]
theorem q5e(hcx:yj P cx){s:Operand}{r:qqa}(ho:o.op=.call { callee:=.builtin .copy,args:=#[s,x],argTypes:=#[t,t] })(hs1:S.one s=I ss)(hx1:S.one x=I sx)(h:qwu cx S t ss sx=I r)(H:qqu cx W0 S base Ω T w a) :
  jc P cx W0 S base Ω T w a o r:=by
 obtain⟨ρ0,h0⟩:=H.ex;have hs0:=H.sat ρ0 h0;unfold qwu at h;split at h
 .rename_i e ls lx hk hls hlx;split at h
  .rename_i d f m hd hf hm;split at h
   .rename_i hcc;cases h;simp only[ag,aaq] at hcc;obtain⟨⟨⟨hne,hnf⟩,hz⟩,hsrc⟩:=hcc;obtain⟨u',g1,g2⟩:=xe hcx hk kq;obtain⟨e'',rfl⟩:∃e'',u'=.slice e'':=by cases u'<;>simp_all [KD.of]
    simp only[KD.of,KD.sl.injEq] at g2;subst g2;obtain⟨i,hi1,hi2,hi3,z,hz1,hz2⟩:=jg (hcx _ d hd);obtain⟨z1,z2,z3,-⟩:=qz4 (cx:=cx) (W0:=W0) (T:=T) (w:=w) (base:=base) hz;obtain⟨lb1,hcx1⟩:=q04 hs0 hsrc;obtain⟨hm1,lb2,hcs1⟩:=q2b hs0 hm;have ed:=xu (H.env ρ0 h0) hs1;have ex:=xu (H.env ρ0 h0) hx1;rw[<-ed] at hcs1;rw[<-ex] at hcx1;obtain⟨A,n,c,v1,v2,v3,v4,v5⟩:=hcs1.slc;obtain⟨B,k,c',u1,u2,u3,u4,u5⟩:=hcx1.slc;have hsz:i.size=f.length:=by rw[hi2,z2]
    rw[v1] at hcs1;rw[u1] at hcx1;have hml:mf=9223372036854775807:=kj
    have qxl:∀{v:ny} {w1:nu},(rp #[t,t] o.type #[ng A n c,ng B k c']).run P w=.ok v w1->(execOp a.eval o).run P w=.ok (.value v) w1:=by
     intro v w1 hr;rw[<-v1,<-u1] at hr;simp only[execOp,ho,resolve,invoke,builtin];simpa[ai] using qqp hr
    have qz7:∀j:Nat,j<=n->j<=k->∀Z,Ω Z->Z S.nv=goInt j->∀g∈[qf.at S.nv,ls.sub (qf.at S.nv),lx.sub (qf.at S.nv)],0<=g.eval Z:=by
     intro j hj1 hj2 Z hρ hρv g hg;have e1:=qyb (H.sat Z hρ) (by rw[<-xu (H.env Z hρ) hs1,v1]) hls;have e2:=qyb (H.sat Z hρ) (by rw[<-xu (H.env Z hρ) hx1,u1]) hlx;have hmj:meas (goInt j)=(j:Int):=rfl;simp only[cu,ep,or_false] at hg;rcases hg with rfl|rfl|rfl<;>simp only[qf.sub_eval,qf.yl,hρv,hmj,e1,e2]<;>omega
    have hint:∀j:Nat,j<=n->CV cx.tb W0 T w base (qy O) (goInt j):=λj hj=>⟨j,rfl,by show(-9223372036854775808:Int)<=j;omega,by show(j:Int)<=9223372036854775807;omega⟩
    cases A with
    | none=>
      obtain⟨rfl,rfl⟩:=v4 rfl
      have hfc:(gm i.size 0 (ng B k c')).run P w=.ok #[] w:=by
       cases B with
       | none=>obtain⟨rfl,rfl⟩:=u4 rfl;exact mn w _ _ _ _
       | some ad=>exact gu (P:=P) w i.size 0 ad k c' [] kq (λj v h=>by simp at h)
      unfold jc;rw[qxl (q05 g1 hi1 rfl hfc)];exact⟨T,V,qyv.refl hs0.wt base _,λZ hρ _=>⟨jq (hint 0 kg) (qz7 0 kg kg Z hρ),rfl⟩⟩
    | some ad=>
      obtain⟨b,off,sp⟩:=ad
      have hsp:sp=V:=by
       rcases hcs1 with hb|⟨hb,-⟩|⟨b',off',n',cc,b1,-⟩
       .cases hb
       .omega
       .injection b1 with e1;injection e1 with e1;injection e1
      subst hsp;rcases hcs1 with hb|⟨hb,-⟩|⟨b',off',n',cc,b1,b2,b3,b4,b5,b6,b7,b8,cs,fr,b9,b10⟩
      .cases hb
      .omega
      .injection b1 with e1 e2 e3;injection e1 with e1;injection e1 with e1 e4;subst e1;subst e2;subst e3;subst e4;obtain⟨cs1,te,fr1,lt,t1,t2,t3,t4,t5⟩:=hs0.wt.typed b b5;rw[b9] at t1;injection t1 with t1;injection t1 with t1 t6 t7;subst t1;subst t6;subst t7;rw[hf] at t3;cases t3;have qae:cx.tb.sz e''=f.length:=by simp[yg.sz,hf]
       rw[qae] at b8 b10
       have qws:∃news:List ny,news.length=om k n*f.length/\(∀j v,news[j]? = I v->∃ct,f[j%f.length]? = I ct/\CV cx.tb W0 T w 0 ct v)/\(gm i.size (om k n) (ng B k c')).run P w=.ok news.toArray w:=by
        cases B with
        | none=>
          obtain⟨rfl,rfl⟩:=u4 rfl
          exact⟨[],kq,λj v h=>by simp at h,by
           have h0:om 0 n=0:=acp n
           rw[h0];exact mn w _ _ _ _⟩
        | some ad=>
          by_cases hc0:c'=0
          .have hk0:k=0:=kg;subst hk0
           exact⟨[],kq,λj v h=>by simp at h,by
            have h0:om 0 n=0:=acp n
            rw[h0];exact gu (P:=P) w i.size 0 ad 0 c' [] kq (λj v h=>by simp at h)⟩
          obtain⟨b2',off2,sp⟩:=ad;have hsp:=u5 _ rfl hc0;simp only at hsp;subst hsp;obtain⟨news,n1,n2⟩:=CV.rows hs0.wt hf z3 hcx1;have hmk:om k n*f.length<=k*f.length:=dd _ (abl k n)
          have hget:∀j v,(news.take (om k n*f.length))[j]? = I v->news[j]? = I v:=λj v hv=>by
           rw[fc] at hv;split at hv
           .exact hv
           .cases hv
          refine⟨news.take (om k n*f.length),by rw[fb];omega,λj v hv=>(n2 j v (hget j v hv)).2,?_⟩;exact gu (P:=P) w i.size (om k n) ⟨b2',off2,V⟩ k c' _ (by rw[hsz,fb];omega) (λj v hv=>by rw[uz];exact(n2 j v (hget j v hv)).1)
       obtain⟨news,n1,n2,n3⟩:=qws
       have hone:∀v∈news,v.oneCell'=nr:=λv hv=>by
        obtain⟨j,hj⟩:=sw hv;obtain⟨ct,-,hc⟩:=n2 j v hj;exact hc.one
       have hmul:om k n*f.length<=c*f.length:=dd _ (cy (wm k n) b2);have hfit:off+news.length<=cs.size:=kg;unfold jc;rw[qxl (qmc g1 hi1 b9 t2 rfl n3 hone hfit)];obtain⟨cs',k1,k2,k3⟩:=jh b e'' fr news off w cs b9;obtain⟨r1,r2,r3,r4⟩:=ve b news off w;have hother:=λq (hq:q≠b)=>xk b news off w q hq
       have hoff:off=off/f.length*f.length:=by
        have:=sv off f.length;rw[b8,ir,qt] at this;exact this.symm
       have hct:∀q v,off<=q->news[q-off]? = I v->∃ct,f[q%f.length]? = I ct/\CV cx.tb W0 T w 0 ct v:=λq v hq hv=>by
        obtain⟨ct,p1,p2⟩:=n2 _ v hv;refine⟨ct,?_,p2⟩;rw[<-p1];congr 1;have e5:q=(q-off)+off/f.length*f.length:=by rw[<-hoff];omega
        conv=>lhs;rw[e5]
        rw[ev]
       obtain⟨f1,f2⟩:=hs0.wt.write (w':=w.setCells b off news) hne b5 b9 hf k2 k1 (by rcases t2 with h|h;exact .inl h;exact .inr kg) hother r1 (λq v hv=>by
        rw[k3 q] at hv;split at hv
        .rename_i hq;exact .inr (hct q v hq.1 hv)
        .exact .inl hv) (.inr (λq v hv=>by
        rw[k3 q] at hv;split at hv
        .rename_i hq;obtain⟨ct,p1,-⟩:=hct q v hq.1 hv;exact .inr ⟨ct,p1,by simpa using ao.1 hnf ct (cm p1)⟩
        .exact .inl hv))
       refine⟨T,V,⟨f1,f2,λ_ h=>.inl h,by rw[r1];exact af _,r2,r3,r4,λq hq hqT _=>hother q (λe=>hqT (e ▸ b5)),λq hq hpu=>hother q (λe=>?_),λhkp q hq hTq=>?_⟩,λZ hρ _=>⟨jq ((hint _ (wm k n)).mono f2 (af _)) (qz7 _ (wm k n) (abl k n) Z hρ),rfl⟩⟩
       .subst e;rcases hpu with hpu|hpu
        .have:=b6 (qni hpu);omega
        .exact hpu b5
       .by_cases hqb:q=b
        .subst hqb;intro cs0 e0 fr0 hc0;rw[b9] at hc0;cases hc0;exact⟨cs',_,k1,λi hi=>by rw[q2g hkp i] at hi;cases hi⟩
        .exact .same (hother q hqb)
   .cases h
  .cases h
 .cases h
end
open Go.RowKit
section
variable {P:ma}{cx:Cx}{W0:nu}{S:St}{base:Nat}{Z:yu}{T T':Nat->Prop}{w w':nu}{a:Act}{Ω:yu->Prop}
theorem qjf(hcx:yj P cx)(em:Bool):∀(n:Nat) (t:nz) (l:List KD) (d:TD),qz3 cx n t=I l->yx cx t=I d->∀(f:Nat) (x:ny),n<=f->qar d.k.agg l x->(mz em f t x).run P w=.ok () w
 | 0,t,l,d,h,hd,f,x,hf,hx=>by cases h
 | n+1,t,l,d,h,hd,f,x,hf,hx=>by
   obtain⟨f,rfl⟩:∃f',f=f'+1:=⟨f-1,kg⟩;obtain⟨u,g1,g2⟩:=qya (hcx t d hd);unfold qz3 at h;rw[hd] at h;simp only at h;split at h
   .rename_i k hk;cases h;rw[hk] at hx g2;obtain⟨k1,e1,hx⟩:=hx;cases e1;obtain⟨n1,rfl⟩:=hx;have:u=.int k:=by cases u<;>simp_all [KD.of]
    subst this;simp[mz,bg g1]
   .rename_i hk;cases h;rw[hk] at hx g2;obtain⟨k1,e1,hx⟩:=hx;cases e1;obtain⟨n1,rfl⟩:=hx;have:u=.bool:=by cases u<;>simp_all [KD.of]
    subst this;simp[mz,bg g1]
   .rename_i hk;cases h;rw[hk] at hx g2;obtain⟨k1,e1,hx⟩:=hx;cases e1;obtain⟨n1,rfl⟩:=hx;have:u=.string:=by cases u<;>simp_all [KD.of]
    subst this;simp[mz,bg g1]
   .rename_i fs hk;split at h
    .rename_i heq;split at h
     .rename_i l' hl';split at h
      .rename_i hlen;have e0:l'=l:=oi h;subst e0;rw[hk] at hx g2;obtain⟨xs,rfl,cx1⟩:=hx;obtain⟨fl,rfl⟩:∃fl,u=.struct fl:=by cases u<;>simp_all [KD.of]
       simp only[KD.of,KD.st.injEq] at g2;subst g2;simp only[mz,ai,bg g1,aq];rw[<-Array.forIn_toList]
       have key:∀(gs:List Field) (pos:Nat) (l0:List KD),qvp (qz3 cx n) (gs.map λf=>(f.type,f.offset)) pos=I l0->qvl l0 xs pos ->
        (forIn gs PUnit.unit fun(g:Field) (_:PUnit)=>(if g.name≠ "_" then(do let v ←part g.type xs g.offset;mz em f g.type v;pure (ForInStep.yield PUnit.unit)) else pure (ForInStep.yield PUnit.unit):Sem (ForInStep PUnit))).run P w=.ok PUnit.unit w:=by
        intro gs
        induction gs with
        | nil=>intro pos l0 _ _;simp
        | cons g gs ih=>
          intro pos l0 h0 hx0;simp only[fg,qvp] at h0;split at h0
          .rename_i hoff;split at h0
           .rename_i l1 hl1;cases hr:qvp (qz3 cx n) (gs.map λf=>(f.type,f.offset)) (pos+l1.length) with
            | none=>rw[hr] at h0;cases h0
            | some l2=>
              rw[hr] at h0;simp only[dv,bc] at h0;subst h0;have hx1:qvl l1 xs pos:=λj k hj=>hx0 j k (by rw[cd (al.1 hj).1];exact hj)
              have hx2:qvl l2 xs (pos+l1.length):=λj k hj=>by
               have:=hx0 (l1.length+j) k (by rw[bq kg,dm];exact hj)
               rwa [<-gi] at this
              obtain⟨dg,hdg,-⟩:=qgy hl1;rw[←hoff] at hx1;obtain⟨va,a1,a2⟩:=qgc (w:=w) hcx hl1 hdg hx1;have hck:=qjf hcx em n g.type l1 dg hl1 hdg f va kg a2;have hih:=ih _ _ hr hx2;rw[List.forIn_cons];by_cases hn:g.name≠ "_"
              .simp only[if_pos hn,ai,a1,aq,hck,eb];exact hih
              .simp only[if_neg hn,ai,eb,aq];exact hih
           .cases h0
          .cases h0
       have hkey:=key fl.toList 0 l' hl' cx1;rw[hkey];rfl
      .cases h
     .cases h
    .cases h
   .cases h
theorem qd0(hcx:yj P cx){t:nz}{ks:List KD}{d:TD}{n:Nat}(hn:n<=tw)(hk:qz3 cx n t=I ks)(hd:yx cx t=I d){x:ny}(hx:qar d.k.agg ks x):∀(es:List MapEntry) (i:Nat),(∀e∈es,qar d.k.agg ks e.key) ->
  ∃r,(wo t x es i).run P w=.ok r w/\∀j v,r=I (j,v)->∃e∈es,e.val=v
 | [],i,h=>⟨V,by simp[wo],λj v e=>by cases e⟩
 | e::es,i,h=>by
   obtain⟨β,hβ⟩:=qlg (w:=w) hcx n t ks d hk hd tw x e.key hn hx (h e kq);obtain⟨r,h1,h2⟩:=qd0 hcx hn hk hd hx es (i+1) (λe' he=>h e' (by simp[he]));unfold wo;cases β with
   | true=>exact⟨I (i,e.val),by simp[ai,Op.equal,hβ],λj v hjv=>by cases hjv;exact⟨e,kq,rfl⟩⟩
   | false=>
     refine⟨r,by simp[ai,Op.equal,hβ,h1],λj v hjv=>?_⟩;obtain⟨e',q1,q2⟩:=h2 j v hjv;exact⟨e',by simp[q1],q2⟩
theorem qf4{u:TypeDesc}{x:ny}:∀(es:List MapEntry) (i:Nat) (r:Option (Nat×ny)),ux u x es i=I r->∀j v,r=I (j,v)->∃e∈es,e.val=v
 | [],i,r,h,j,v,hr=>by subst hr;simp[ux] at h
 | e::es,i,r,h,j,v,hr=>by
   unfold ux at h;split at h
   .cases h;cases hr;exact⟨e,kq,rfl⟩
   .obtain⟨e',q1,q2⟩:=qf4 es (i+1) r h j v hr;exact⟨e',by simp[q1],q2⟩
   .cases h
theorem qu7(hcx:yj P cx)(hn:n<=tw)(hk:qz3 cx n t=I ks)(hd:yx cx t=I d){x:ny}(hx:qar d.k.agg ks x)(es:List MapEntry)(h:∀e∈es,qar d.k.agg ks e.key) :
  ∃r,(vd t x es).run P w=.ok r w/\∀j v,r=I (j,v)->∃e∈es,e.val=v:=by
 obtain⟨u,g1,g2⟩:=qya (hcx t d hd);unfold vd;cases hq:ux u x es 0 with
 | some r=>exact⟨r,by simp[ai,bg g1,hq],λj v hr=>qf4 es 0 r hq j v hr⟩
 | none=>
   obtain⟨r,h1,h2⟩:=qd0 (w:=w) hcx hn hk hd hx es 0 h;exact⟨r,by simp[ai,bg g1,hq,h1],h2⟩
def ctK:KD->CT->Bool
 | .int k,.int k' _ _=>decide (k=k')
 | .bool,.bool=>nr
 | .str,.str _=>nr
 | _,_=>ns
def qlj:List KD->List CT->Bool
 | [],[]=>nr
 | k::r,c::q=>ctK k c && qlj r q
 | _,_=>ns
theorem ctK_ok{k:KD}{c:CT}(h:ctK k c=nr)(hv:VT cx.tb W0 T w c v):q3l k v:=by
 unfold ctK at h;split at h
 .have e:=of_decide_eq_true h;subst e;obtain⟨n,rfl,-⟩:=hv;exact⟨n,rfl⟩
 .exact hv
 .obtain⟨s,rfl,-⟩:=hv;exact⟨s,rfl⟩
 .cases h
theorem qsg:∀{l:List KD} {m:List CT},qlj l m=nr->∀(j:Nat) (k:KD),l[j]? = I k->∃c,m[j]? = I c/\ctK k c=nr
 | [],[],_,j,k,hj=>by simp at hj
 | k0::r,c::q,h,j,k,hj=>by
   simp only[qlj,ag] at h;cases j with
   | zero=>simp only[db,bc] at hj;subst hj;exact⟨c,rfl,h.1⟩
   | succ j=>exact qsg h.2 j k (by simpa using hj)
 | [],_::_,h,_,_,_=>by cases h
 | _::_,[],h,_,_,_=>by cases h
theorem qxj(hag:d.k.agg=nr)(hf:cx.tb.flat t=I fk)(hne:fk.length≠1)(h:qlj ks fk=nr){u:ny}(hu:qqf cx.tb W0 T w t u):qar d.k.agg ks u:=by
 rw[hag];rcases hu with⟨cs,rfl,h1,h2⟩|⟨ct,h1,-⟩
 .refine⟨cs,rfl,λj k hj=>?_⟩;obtain⟨c,q1,q2⟩:=qsg h j k hj;rw[hf] at h2;obtain⟨v,q3,q4⟩:=h2 j c q1;exact⟨v,by rw[bu];exact q3,ctK_ok q2 q4⟩
 .rw[hf] at h1;cases h1;exact absurd rfl hne
def mpTy(S:St):SV->Option (nz×nz)
 | .var n=>match look S.ty n with
   | some (.mp k e)=>I (k,e)
   | _=>V
 | _=>V
def qi1(cx:Cx)(S:St)(t:nz)(x:SV)(y:XV):Option qqa:=match mpTy S x,kd cx t,y with
 | some (k,e),.mp k' e',.v (.agg l)=>match yx cx k,qz3 cx 30 k,cx.tb.flat k,yx cx e,cx.tb.flat e with
   | some d,I ks,I fk,I de,I fe=>
     if decide (k=k'/\e=e'/\fk.length≠1/\fe.length≠1) && d.k.agg && qap S ks l && qlj ks fk && qqb de fe then
      I ⟨⟨.tup [.agg (vars S.nv fe.length),.one (.var (S.nv+fe.length))],fe++[.bool],[]⟩,.no,.pure⟩ else V
   | _,_,_,_,_=>V
 | _,_,_=>V
theorem qw6{fe:List CT}{b:Bool}(hl:cs.size=fe.length)(hc:∀(i:Nat) (ct:CT) (v:ny),fe[i]? = I ct->cs[i]? = I v->CV cx.tb W0 T w base ct v) :
  uy cx.tb W0 S ⟨.tup [.agg (vars S.nv fe.length),.one (.var (S.nv+fe.length))],fe++[.bool],[]⟩ base Z T w (nq #[.agg cs,ni b]):=by
 intro hb;have hfl:qzs (nq #[.agg cs,ni b])=cs.toList++[ni b]:=by simp[qzs,mw]
 rw[hfl] at hb;have hlen:(fe++[CT.bool]).length=fe.length+1:=kq
 have h1:∀i,i<fe.length->Z (S.nv+i)=cs.toList.getD i mc:=λi hi=>by
  have:=hb i nc;rw[this];simp[bn,cd (show i<cs.toList.length by simpa[hl] using hi)]
 have h2:Z (S.nv+fe.length)=ni b:=by
  have:=hb fe.length kq;rw[this];simp[bn,<-hl]
 have hcv:∀i ct,fe[i]? = I ct->CV cx.tb W0 T w base ct (Z (S.nv+i)):=λi ct hi=>by
  have hlt:i<fe.length:=(al.1 hi).1;rw[h1 i hlt]
  have:cs[i]? = I (cs.toList.getD i mc):=by
   rw[bn];simp[show i<cs.size by omega]
  exact hc i ct _ hi this
 refine⟨?_,λi ct hi=>?_,kq⟩
 .show _=Value.tuple _;simp only[fg,List.map_nil,TV.den,SV.den,h2]
  have:cs.toList=qw Z (vars S.nv fe.length):=by
   refine ju λi=>?_
   simp only[qw,dh];by_cases h:i<fe.length
   .rw[qac _ _ _ h];simp only[dv,SV.den,h1 i h];rw[bn,ah (by simpa[hl] using h)];rfl
   .rw[dn nc,dn (by rw[qal];omega)];rfl
  rw[<-this]
 .rcases dw i fe.length with h|h
  .rw[cd h] at hi;exact hcv i ct hi
  .rw[bq h] at hi
   have:i=fe.length:=by
    have:=(al.1 hi).1;simp at this;omega
   subst this;simp at hi;subst hi;rw[h2];exact⟨b,rfl⟩
theorem q0v(hcx:yj P cx){r:qqa}(ho:o.op=.lookup t x y nr)(hx:S.one x=I sx)(hy:S.op y=I yv)(h:qi1 cx S t sx yv=I r)(H:qqu cx W0 S base Ω T w a):jc P cx W0 S base Ω T w a o r:=by
 obtain⟨ρ0,h0⟩:=H.ex;have hs0:=H.sat ρ0 h0;unfold qi1 at h;split at h
 .rename_i k e k' e' l hm hkd;split at h
  .rename_i d ks fk de fe hd hks hfk hde hfe;split at h
   .rename_i hc;cases h;simp only[ag,decide_eq_true_eq] at hc;obtain⟨⟨⟨⟨⟨rfl,rfl,hn1,hn2⟩,hag⟩,hkl⟩,hkf⟩,hz⟩:=hc
    obtain⟨n,rfl,hty⟩:∃n,sx=.var n/\look S.ty n=I (.mp k e):=by
     unfold mpTy at hm;split at hm
     .rename_i n;split at hm
      .rename_i k1 e1 hq;cases hm;exact⟨n,rfl,hq⟩
      .cases hm
     .cases hm
    have hcv:=hs0.ty n _ (ji hty);have ex:a.eval x=ρ0 n:=xu (H.env ρ0 h0) hx;have ey:a.eval y=.agg (qw ρ0 l).toArray:=qyz (H.env ρ0 h0) hy;obtain⟨u',g1,g2⟩:=xe hcx hkd kq;obtain⟨k1,e1,rfl⟩:∃k1 e1,u'=.map k1 e1:=by cases u'<;>simp_all [KD.of]
    simp only[KD.of,KD.mp.injEq] at g2;obtain⟨rfl,rfl⟩:=g2
    have hval:qar d.k.agg ks (.agg (qw ρ0 l).toArray):=by
     rw[hag];refine⟨_,rfl,λj k hj=>?_⟩;obtain⟨v,q1,q2⟩:=qe8 hs0 hkl j k hj;exact⟨v,by rw[bu];simpa using q1,q2⟩
    obtain⟨z1,z2,z3,z4⟩:=qz4 (cx:=cx) (W0:=W0) (T:=T) (w:=w) (base:=base) hz;obtain⟨i,hi1,hi2,hi3,z,hz1,hz2⟩:=jg (hcx _ de hde)
    obtain⟨zs,rfl⟩:∃zs:Array ny,z=.agg zs:=by
     have hlz:z.cells.toList.length=fe.length:=by rw[hz2];exact z1
     cases z<;>first|exact⟨_,rfl⟩|(exfalso;simp[mw] at hlz;omega)
    have key:∀(es:Array MapEntry),qku cx.tb W0 T w k1 e1 es->((ρ0 n=.map V/\es=#[])\/∃b c,ρ0 n=.map (I b)/\w.heap[b]? = I (.map es c)) ->
     ∃(cs:Array ny) (b:Bool),(mr t (ρ0 n) (.agg (qw ρ0 l).toArray) nr).run P w=.ok (nq #[.agg cs,ni b]) w/\cs.size=fe.length/\∀(i:Nat) (ct:CT) (v:ny),fe[i]? = I ct->cs[i]? = I v->CV cx.tb W0 T w base ct v:=by
     intro es hes hget;have hck:∀em:Bool,(mz em 10000 k1 (.agg (qw ρ0 l).toArray)).run P w=.ok () w:=λem=>qjf (w:=w) hcx em 30 k1 ks d hks hd 10000 _ kg hval
     obtain⟨r,hr1,hr2⟩:=qu7 (w:=w) hcx kj hks hd hval es.toList (λe he=>qxj hag hfk hn1 hkf (hes e he).1);cases r with
     | none=>
       refine⟨zs,ns,?_,?_,λi ct v hi hv=>?_⟩
       .rcases hget with⟨p1,rfl⟩|⟨b,c,p1,p2⟩
        .have hr0:(vd k1 (.agg (qw ρ0 l).toArray) []).run P w=.ok _ w:=hr1;simp[mr,ai,bg g1,p1,hck,hr0,zeroValue,typeInfo,hi1,hz1]
        .have hgo:(getObj b).run P w=.ok (.map es c) w:=lp p2;simp[mr,ai,bg g1,p1,hgo,hck,hr1,zeroValue,typeInfo,hi1,hz1]
       .have:zs.toList.length=fe.length:=by rw[<-z1,<-hz2];rfl
        simpa using this
       .have hlt:i<fe.length:=(al.1 hi).1;obtain⟨v1,ct1,p1,p2,p3⟩:=z4 i hlt;rw[hi] at p2;cases p2;have hzs:zs.toList=de.zero:=hz2;rw[<-hzs,ax,hv] at p1;cases p1;exact p3
     | some jv=>
       obtain⟨j,v⟩:=jv;obtain⟨e,he1,he2⟩:=hr2 j v rfl;rcases(hes e he1).2 with⟨cs,q1,q2,q3⟩|⟨ct,q1,-⟩
       .rw[he2] at q1;subst q1;refine⟨cs,nr,?_,by rw[q2];simp[yg.sz,hfe],λi ct v hi hv=>?_⟩
        .rcases hget with⟨p1,rfl⟩|⟨b,c,p1,p2⟩
         .have hr0:(vd k1 (.agg (qw ρ0 l).toArray) []).run P w=.ok _ w:=hr1;simp[mr,ai,bg g1,p1,hck,hr0]
         .have hgo:(getObj b).run P w=.ok (.map es c) w:=lp p2;simp[mr,ai,bg g1,p1,hgo,hck,hr1]
        .rw[hfe] at q3;obtain⟨x1,p1,p2⟩:=q3 i ct hi;rw[hv] at p1;cases p1;exact p2.cv
       .rw[hfe] at q1;cases q1;exact absurd rfl hn2
    have hfin:∀es:Array MapEntry,qku cx.tb W0 T w k1 e1 es->((ρ0 n=.map V/\es=#[])\/∃b c,ρ0 n=.map (I b)/\w.heap[b]? = I (.map es c))->jc P cx W0 S base Ω T w a o ⟨⟨.tup [.agg (vars S.nv fe.length),.one (.var (S.nv+fe.length))],fe++[.bool],[]⟩,.no,.pure⟩:=by
     intro es h1 h2;obtain⟨cs,b,hrun,hl,hcs⟩:=key es h1 h2;unfold jc
     have hex:(execOp a.eval o).run P w=.ok (.value (nq #[.agg cs,ni b])) w:=by
      simp only[execOp,ho,ex,ey];exact qqp hrun
     rw[hex];exact⟨T,V,qyv.refl hs0.wt base .pure,λZ hρ _=>⟨qw6 hl hcs,rfl⟩⟩
    rcases hcv with h1|⟨b,es,c,h1,h2,h3⟩
    .exact hfin #[] (λe he=>by simp at he) (.inl ⟨h1,rfl⟩)
    .exact hfin es h3 (.inr ⟨b,c,h1,h2⟩)
   .cases h
  .cases h
 .cases h
end
open Go.RowKit
section
variable {P:ma}{cx:Cx}{W0:nu}{T T':Nat->Prop}{w w' w1:nu}
def qqg(w:nu)(r:Nat)(o:Obj):nu:={ w with heap:=w.heap.setIfInBounds r o }
theorem qd9{base:Nat}{wb:nu}{o:Obj}(h:Below base wb w)(hr:base<=r):Below base wb (qqg w r o):=
 h.trans ⟨rfl,rfl,rfl,by simp[qqg],λk hk=>by simp only[qqg];rw[bt,if_neg kg]⟩
theorem ql3{o:Obj}(h:r<w.heap.size):(qqg w r o).heap[r]? = I o:=by simp[qqg,h]
theorem qnn{o:Obj}(h:k≠r):(qqg w r o).heap[k]? = w.heap[k]?:=by
 simp only[qqg];rw[bt,if_neg (λe=>h e.symm)]
theorem qbk(a b:ny):∃k v,(aaf a b).run P w=.ok v (w.drewN k)/\(v=a\/v=b):=by
 unfold aaf;split
 .exact⟨0,b,rfl,.inr rfl⟩
 .rw[ai]
  have hc:∃k n,(choose (.extern "map.whichKeyStays" 2)).run P w=.ok n (w.drewN k):=by
   show ∃k n,(Sem.choose _ .pure).run P w=_;rw[Sem.run];split
   .exact⟨0,_,rfl⟩
   .exact⟨1,_,rfl⟩
  obtain⟨k,n,hc⟩:=hc;rw[hc];by_cases h0:n=0
  .exact⟨k,b,by simp[h0],.inr rfl⟩
  .exact⟨k,a,by simp[h0],.inl rfl⟩
theorem qn8(hcx:yj P cx){kt et:nz}(hm:P.underlying t=I (.map kt et))(hks:qz3 cx 30 kt=I ks)(hd:yx cx kt=I d)(hag:d.k.agg=nr)(hf:cx.tb.flat kt=I fk)(hne:fk.length≠1)(hkf:qlj ks fk=nr)
  {key val:ny} (hk:qqf cx.tb W0 T w1 kt key) (hv:qqf cx.tb W0 T w1 et val)  {es:Array MapEntry}  (hb:w.heap[r]? = I (.map es c)) (hes:qku cx.tb W0 T w1 kt et es) :
  ∃k es' c',(lu t (.map (I r)) key val).run P w=.ok () (qqg (w.drewN k) r (.map es' c'))/\qku cx.tb W0 T w1 kt et es':=by
 have hx:=qxj hag hf hne hkf hk;have hck:=qjf (w:=w) hcx ns 30 kt ks d hks hd 10000 _ kg hx;obtain⟨res,hr1,hr2⟩:=qu7 (w:=w) hcx kj hks hd hx es.toList (λe he=>qxj hag hf hne hkf (hes e he).1);have hgo:(getObj r).run P w=.ok (.map es c) w:=lp hb;have hset:∀k o,(setObj r o).run P (w.drewN k)=.ok () (qqg (w.drewN k) r o):=λk o=>Go.MapKept.run_setObj_map o (w:=w.drewN k) hb
 cases res with
 | none=>
   refine⟨0,es.push { key,val,born:=c },c+1,?_,λe he=>?_⟩
   .have:=hset 0 (.map (es.push { key,val,born:=c }) (c+1));simp only[yb,ir] at this;simp[lu,ai,bg hm,hgo,hck,hr1,yb,this]
   .simp only[Array.toList_push,List.mem_append,List.mem_singleton] at he;rcases he with he|rfl
    .exact hes e he
    .exact⟨hk,hv⟩
 | some jv=>
   obtain⟨i,v0⟩:=jv;obtain⟨k,kv,hkr,hkv⟩:=qbk (P:=P) (w:=w) (((es[i]?).map (·.key)).getD key) key;refine⟨k,es.modify i λe=>{ e with key:=kv,val },c,?_,λe he=>?_⟩
   .simp[lu,ai,bg hm,hgo,hck,hr1,hkr,hset]
   .have hpk:qqf cx.tb W0 T w1 kt kv:=by
     rcases hkv with rfl|rfl
     .cases hq:es[i]? with
      | none=>exact hk
      | some e0=>exact(hes e0 (by have:=Array.mem_of_getElem? hq;exact this.val)).1
     .exact hk
    obtain⟨j,hj,rfl⟩:=List.getElem_of_mem he;simp only[pq,Array.getElem_modify];split
    .exact⟨hpk,hv⟩
    .exact hes _ (by rw[<-pq];exact List.getElem_mem _)
end
open Go.RowKit Go.ChangeShapes Go.WideShapes Go.ChangeAt Go.Joins Go.Deep
inductive RV(tb:yg)(W0:World):CT->Value->Prop
 | int {k:IntKind} {lo hi n:Int} (h1:lo<=n) (h2:n<=hi):RV tb W0 (.int k lo hi) (.int k n)
 | kint {k:IntKind} {lo hi n:Int} (h1:lo<=n) (h2:n<=hi):RV tb W0 (.kp (.int k lo hi)) (.int k n)
 | fzi {k:IntKind} {n:Int} (h1:k.min<=n) (h2:n<=k.max):RV tb W0 (.fz (.int k)) (.int k n)
 | fzs {s:ByteArray} (h:s.size<=mf):RV tb W0 (.fz .str) (.string s)
 | bool {b:Bool}:RV tb W0 .bool (.bool b)
 | str {lb:Nat} {s:ByteArray} (h:s.size<=lb):RV tb W0 (.str lb) (.string s)
 | nil {m lb:Nat} {e:nz}:RV tb W0 (.sl m e lb) (.slice V 0 0)
 | emp {m lb:Nat} {e:nz} (a:Addr):RV tb W0 (.sl m e lb) (.slice (I a) 0 0)
 | sl {m lb b off n c:Nat} {e:nz} (f:Nat->Nat->ny) (hb:b<W0.heap.size) (hn:n<=c) (hc:c<=mf) (hs:0<tb.sz e)
    (hf:∀j k,j<n->k<tb.sz e->W0.cell? ⟨b,off+j*tb.sz e+k,V⟩=I (f j k)) (ht:∀j k ct,j<n->((tb.flat e).getD [])[k]? = I ct->RV tb W0 ct (f j k)) :
    RV tb W0 (.sl m e lb) (ng (I ⟨b,off,V⟩) n c)
def qwg:Option CT->Option CT->Bool
 | some (.int k lo hi),I (.kp (.int k' lo' hi'))=>decide (k=k'/\lo=lo'/\hi=hi')
 | some (.int k lo hi),I (.fz (.int k'))=>decide (k=k'/\k.min=lo/\hi=k.max)
 | some (.str n),I (.fz .str)=>decide (n=mf)
 | a,b=>decide (a=b)
theorem q55{tb:yg}{W0:nu}{a:Option CT}{ct:CT}(h:qwg a (I ct)=nr):∃ca,a=I ca/\(RV tb W0 ca v->RV tb W0 ct v):=by
 unfold qwg at h;split at h
 .rename_i k lo hi k' lo' hi' e;cases e;obtain⟨rfl,rfl,rfl⟩:=of_decide_eq_true h;refine⟨_,rfl,λh=>?_⟩;cases h with
  | int h1 h2=>exact .kint h1 h2
 .rename_i k lo hi k' e;cases e;obtain⟨rfl,rfl,rfl⟩:=of_decide_eq_true h;refine⟨_,rfl,λh=>?_⟩;cases h with
  | int h1 h2=>exact .fzi h1 h2
 .rename_i n e;cases e;obtain rfl:=of_decide_eq_true h;refine⟨_,rfl,λh=>?_⟩;cases h with
  | str h=>exact .fzs h
 .exact⟨ct,of_decide_eq_true h,id⟩
def fldAt(tb:yg)(fs:List (nz×Nat))(l:List CT)(i:Nat):Bool:=fs.any λp=>match tb.flat p.1 with
 | some lf=>decide (p.2<=i) && decide (i<p.2+lf.length) && qwg lf[i-p.2]? l[i]?
 | none=>ns
def rdB(cx:Cx):Nat->nz->Bool
 | 0,_=>ns
 | n+1,t=>match yx cx t,cx.tb.flat t with
   | some d,I l=>decide (d.size=l.length) && match d.k,l with
     | .int k,[ct]=>decide (ct=qy k)
     | .bool,[ct]=>decide (ct=.bool)
     | .str,[ct]=>decide (ct=.str mf)
     | .sl e,[.sl _ e' _]=>decide (e'=e) && rdB cx n e && decide (0<cx.tb.sz e)
     | .st fs,l=>fs.all (λp=>rdB cx n p.1) && (ay l.length).all (fldAt cx.tb fs l)
     | _,_=>ns
   | _,_=>ns
section
variable {H:Type}{enc:nz×ny->H}{P:ma}{cx:Cx}{w:nu}{base:Nat}{spare:Nat->Bool}{held:Bool}
theorem qwl(h:qzu P t d):P.cellsOf t=d.size:=by
 obtain⟨-,h2,-⟩:=h;unfold Program.cellsOf;cases hi:P.info? t with
 | none=>rw[hi] at h2;cases h2
 | some i=>
   rw[hi] at h2;simp only[dv,bc,Prod.mk.injEq] at h2;simpa using h2.1
theorem rv_of_trod(hcx:yj P cx)(hsp:∀b,spare b=nr):∀(n:Nat) (t:nz),rdB cx n t=nr->∀{fuel:Nat} {cs:List ny} {x:DataW H×List MemPlace},DataW.trod enc P w base spare held fuel t cs=I x->∀l,cx.tb.flat t=I l ->
  P.cellsOf t=l.length/\cs.length=l.length/\∀(i:Nat) (ct:CT) (u:ny),l[i]? = I ct->cs[i]? = I u->RV cx.tb w ct u:=by
 intro n
 induction n with
 | zero=>intro t h;cases h
 | succ n ih=>
   intro t h fuel cs x hx l hl;unfold rdB at h;rw[hl] at h;split at h
   .rename_i d l' hd hl';cases hl';rw[ag,decide_eq_true_eq] at h;obtain⟨hsz,h⟩:=h;have htd:qzu P t d:=hcx _ _ hd;have hce:=qwl htd;have hu1:=htd.1;refine⟨hce.trans hsz,?_⟩;cases hu:P.underlying t with
    | none=>rw[hu] at hu1;cases hu1
    | some u=>
      rw[hu] at hu1;have hu1:KD.of u=d.k:=oi hu1;split at h
      .rename_i k ct hk;have h:=of_decide_eq_true h;subst h;rw[hk] at hu1;obtain rfl:u=.int k:=by cases u<;>simp_all [KD.of]
       obtain⟨z,rfl,-,hwf⟩:=DataW.trod_int hu hx;refine⟨rfl,λi ct v hi hv=>?_⟩
       match i,hi,hv with
       | 0,hi,hv=>
         cases hi;cases hv;simp only[Lit.wf,ag,decide_eq_true_eq] at hwf;exact .int hwf.1 hwf.2
      .rename_i ct hk;have h:=of_decide_eq_true h;subst h;rw[hk] at hu1;obtain rfl:u=.bool:=by cases u<;>simp_all [KD.of]
       obtain⟨z,rfl,-⟩:=DataW.trod_bool hu hx;refine⟨rfl,λi ct v hi hv=>?_⟩
       match i,hi,hv with
       | 0,hi,hv=>cases hi;cases hv;exact .bool
      .rename_i ct hk;have h:=of_decide_eq_true h;subst h;rw[hk] at hu1;obtain rfl:u=.string:=by cases u<;>simp_all [KD.of]
       obtain⟨z,rfl,-,hz⟩:=DataW.trod_string hu hx;refine⟨rfl,λi ct v hi hv=>?_⟩
       match i,hi,hv with
       | 0,hi,hv=>cases hi;cases hv;exact .str hz
      .rename_i e m e' lb hk;simp only[ag,decide_eq_true_eq] at h;obtain⟨⟨rfl,hre⟩,hpos⟩:=h;rw[hk] at hu1;obtain rfl:u=.slice e':=by cases u<;>simp_all [KD.of]
       rcases open_slice hu hx with⟨rfl,-⟩|⟨a,len,cap,m',n',D,Pl,rfl,hb,hlc,hm,hmm,-,hi⟩
       .refine⟨rfl,λi ct v hi hv=>?_⟩
        match i,hi,hv with
        | 0,hi,hv=>cases hi;cases hv;exact .nil
       .rw[hsp,if_pos rfl] at hmm;subst hmm;refine⟨rfl,λi ct v hi' hv=>?_⟩
        match i,hi',hv with
        | 0,hi',hv=>
          cases hi';cases hv;by_cases hc0:m'=0
          .subst hc0;obtain rfl:len=0:=kg;exact .emp a
          .cases hfe:cx.tb.flat e' with
           | none=>simp[yg.sz,hfe] at hpos
           | some le=>
             have hsze:cx.tb.sz e'=le.length:=by simp[yg.sz,hfe]
             have hel:∀j,j<m'->∃cs':List ny,cs'.length=le.length/\(∀k,k<le.length->w.cell? ((a.add (j*le.length)).add k)=cs'[k]?)/\∀(k:Nat) (ct:CT) (u:ny),le[k]? = I ct->cs'[k]? = I u->RV cx.tb w ct u:=λj hj=>by
              obtain⟨cs',hc',ht'⟩:=hi j hj;obtain⟨q1,q2,q3⟩:=ih e' hre ht' le hfe;rw[q1] at hc';obtain⟨-,-,hcc⟩:=World.cells?_some hc';exact⟨cs',q2,hcc,q3⟩
             have hle:0<le.length:=kg;obtain⟨b,off,sp⟩:=a;obtain⟨cs0,z1,z2,-⟩:=hel 0 kg;have hc0':=z2 0 hle;rw[ah kg] at hc0'
             have hsp':sp=V:=by
              have:=World.cell?_spot hc0';simpa[Addr.add] using this
             subst hsp';have hadd:∀j k:Nat,(((⟨b,off,V⟩:Addr).add (j*le.length)).add k)=⟨b,off+j*le.length+k,V⟩:=λj k=>by rw[wh,wh]
             have hbl:b<w.heap.size:=by
              rw[hadd] at hc0';rcases dw b w.heap.size with h1|h1
              .exact h1
              .simp[World.cell?,dq h1] at hc0'
             obtain⟨F,hF⟩:=Classical.axiomOfChoice (λj:Nat=>(show ∃cs':List ny,j<m'->cs'.length=le.length/\(∀k,k<le.length->w.cell? (((⟨b,off,V⟩:Addr).add (j*le.length)).add k)=cs'[k]?)/\∀(k:Nat) (ct:CT) (u:ny),le[k]? = I ct->cs'[k]? = I u->RV cx.tb w ct u from by
              by_cases hj:j<m'
              .obtain⟨cs',h⟩:=hel j hj;exact⟨cs',λ_=>h⟩
              .exact⟨[],λh=>absurd h hj⟩))
             refine .sl (λj k=>(F j).getD k mc) hbl hlc hm hpos (λj k hj hk'=>?_) (λj k ct hj hct=>?_)
             .rw[hsze] at hk' ⊢;obtain⟨f1,f2,f3⟩:=hF j kg;rw[<-hadd,f2 k hk',bn,ah kg];rfl
             .rw[hfe] at hct;have hct:le[k]? = I ct:=hct;obtain⟨f1,f2,f3⟩:=hF j kg;have hkl:=(al.1 hct).1;refine f3 k ct _ hct ?_;rw[bn,ah (show k<(F j).length by omega)];rfl
      .rename_i l0 fs hk;rw[ag,ao,ao] at h;obtain⟨h1,h2⟩:=h;rw[hk] at hu1;obtain⟨fa,rfl⟩:∃fa,u=.struct fa:=by cases u<;>simp_all [KD.of]
       obtain rfl:(fa.toList.map λf=>(f.type,f.offset))=fs:=by simpa[KD.of] using hu1
       obtain⟨xs,n',-,-,hcl,hxl,hfld⟩:=DataW.trod_struct hu hx;refine⟨hcl.trans (hce.trans hsz),λi ct v hi hv=>?_⟩;have hil:=(al.1 hi).1;have h3:=h2 i (List.mem_range.2 hil);unfold fldAt at h3;rw[List.any_eq_true] at h3;obtain⟨p,hp,h3⟩:=h3;obtain⟨f,hf,rfl⟩:=List.mem_map.1 hp;cases hff:cx.tb.flat f.type with
       | none=>rw[hff] at h3;cases h3
       | some lf=>
         rw[hff] at h3;simp only[ag,decide_eq_true_eq] at h3;obtain⟨⟨h4,h5⟩,h6⟩:=h3;rw[hi] at h6;obtain⟨ca,h6,h7⟩:=q55 (tb:=cx.tb) (W0:=w) (v:=v) h6;obtain⟨jf,hjf⟩:=sw hf;rw[ax] at hjf;have ht:=hfld jf f hjf;have hjx:jf<xs.length:=by rw[hxl];exact(cl.1 hjf).1
         rw[ah hjx] at ht;obtain⟨q1,q2,q3⟩:=ih f.type (h1 _ hp) ht lf hff;refine h7 (q3 (i-f.offset) ca v h6 ?_);rw[q1,fc,if_pos kg,ia,show f.offset+(i-f.offset)=i by omega];exact hv
      .cases h
   .cases h
end
open Go.RowKit
def stepG(cx:Cx)(G:qul):qz1:=λS o=>match o.op with
 | .call { callee:=.value (.func f),args,argTypes:=_ }=>match look G f with
   | some C=>qwo cx.tb C S args.toList
   | none=>V
 | .call { callee:=.value x,args,argTypes:=_ }=>match S.one x with
   | some s=>qwd cx.tb G S s args.toList
   | none=>V
 | .makeFunc fn first cap=>if first.size=0/\cap.size=0 then(qxk cx S o).map λout=>⟨out,.no,.pure⟩ else qgh cx.tb G S fn first.toList cap.toList
 | .binOp op t x y _=>match S.op x,S.op y with
   | some (.v (.agg l)),I (.v (.agg m))=>qit cx S op t (.v (.agg l)) (.v (.agg m))
   | _,_=>(qxk cx S o).map λout=>⟨out,.no,.pure⟩
 | .convert s d x=>match S.one x with
   | some v=>match s2bA cx S s d v with
     | some r=>I r
     | none=>match b2sA cx S s d v with
       | some r=>I r
       | none=>(qxk cx S o).map λout=>⟨out,.no,.pure⟩
   | none=>V
 | .box t x=>match S.op x with
   | some xv=>(qao S xv).map λl=>boxA S t l
   | none=>V
 | .alloc t=>(yx cx t).map λd=>boxA S t (d.zero.map .con)
 | .store t x y=>match S.one x,S.op y with
   | some s,I v=>qn4 cx S t s v
   | _,_=>V
 | .makeSlice t x y=>match S.one x,S.one y with
   | some s,I v=>qtw cx S t s v
   | _,_=>V
 | .buildSlice t n ps=>qfs cx S t n ps.toList
 | .call { callee:=.builtin .append,args,argTypes }=>match args.toList,argTypes.toList with
   | [s,x],[t,t']=>if t=t' then match S.one s,S.one x with
     | some s,I x=>match qnd cx S t s x with
       | some r=>I r
       | none=>appA cx S t s x
     | _,_=>V else V
   | _,_=>V
 | .call { callee:=.builtin .copy,args,argTypes }=>match args.toList,argTypes.toList with
   | [s,x],[t,t']=>if t=t' then match S.one s,S.one x with
     | some s,I x=>qwu cx S t s x
     | _,_=>V else V
   | _,_=>V
 | .lookup t x y true=>match S.one x,S.op y with
   | some s,I v=>qi1 cx S t s v
   | _,_=>V
 | _=>(qxk cx S o).map λout=>⟨out,.no,.pure⟩
section
variable {P:ma}{cx:Cx}{W0:nu}
theorem qdk{G:qul}(hcx:yj P cx)(hG:qc9 P cx W0 G):qbb P cx W0 (stepG cx G):=by
 intro S o r h base Ω T w a H
 have hdef:∀{r:qqa},((qxk cx S o).map λout=>(⟨out,.no,.pure⟩:qqa))=I r->jc P cx W0 S base Ω T w a o r:=by
  intro r h;cases hq:qxk cx S o with
  | none=>rw[hq] at h;cases h
  | some out=>
    rw[hq] at h;cases h;exact(qdz hcx hq H).step H
 unfold stepG at h;split at h
 .rename_i f args ats ho;split at h
  .rename_i C hC;obtain⟨h1,h2⟩:=hG f C hC;exact q4l h1 h2 ho h H
  .cases h
 .rename_i x args ats hne ho;split at h
  .rename_i s hs;exact q42 hG ho hs h H
  .cases h
 .rename_i fn first cap ho
  split at h
  .exact hdef h
  .exact qsx ho h H
 .rename_i op t x y t' ho;split at h
  .rename_i l m hx hy;exact q0g hcx ho hx hy h H
  .exact hdef h
 .rename_i s d x ho;split at h
  .rename_i v hx;split at h
   .rename_i r' hr;cases h;exact q6w hcx ho hx hr H
   .split at h
    .rename_i r' hr;cases h;exact q63 hcx ho hx hr H
    .exact hdef h
  .cases h
 .rename_i t x ho;split at h
  .rename_i xv hx;cases hq:qao S xv with
   | none=>rw[hq] at h;cases h
   | some l=>
     rw[hq] at h;cases h;exact q6n ho hx hq H
  .cases h
 .rename_i t ho;cases hq:yx cx t with
  | none=>rw[hq] at h;cases h
  | some d=>
    rw[hq] at h;cases h;exact q3k hcx ho hq H
 .rename_i t x y ho;split at h
  .rename_i s v hx hy;exact q1l hcx ho hx hy h H
  .cases h
 .rename_i t x y ho;split at h
  .rename_i s v hx hy;exact q5p hcx ho hx hy h H
  .cases h
 .rename_i t n ps ho;exact qhs hcx ho h H
 .rename_i args ats ho;split at h
  .rename_i s x t t' ha ht;have e1:=qbs ha;have e2:=qbs ht;subst e1;subst e2;split at h
   .rename_i htt;subst htt;split at h
    .rename_i s' x' hs hx;split at h
     .rename_i r' hr;cases h;exact q2t hcx ho hs hx hr H
     .exact qs6 hcx ho hs hx h H
    .cases h
   .cases h
  .cases h
 .rename_i args ats ho;split at h
  .rename_i s x t t' ha ht;have e1:=qbs ha;have e2:=qbs ht;subst e1;subst e2;split at h
   .rename_i htt;subst htt;split at h
    .rename_i s' x' hs hx;exact q5e hcx ho hs hx h H
    .cases h
   .cases h
  .cases h
 .rename_i t x y ho;split at h
  .rename_i s v hx hy;exact q0v hcx ho hx hy h H
  .cases h
 .cases hq:qxk cx S o with
  | none=>rw[hq] at h;cases h
  | some out=>
    rw[hq] at h;cases h;exact(qdz hcx hq H).step H
theorem qo:qc9 P cx W0 []:=λf C h=>by cases h
theorem qj{G:qul}{C:zu}(h:qm P cx W0 f C)(hl:(jb C.ps).all CT.low=nr)(hG:qc9 P cx W0 G):qc9 P cx W0 ((f,C)::G):=λg D hg=>by
 simp only[look] at hg;split at hg
 .rename_i e;subst e;cases hg;exact⟨h,hl⟩
 .exact hG g D hg
end
end Sy
namespace RegA
open Go.RowKit qx
section
variable {P:ma}{ops:Array Oper}{Q:Exit->Act->nu->Prop}{a0:Act}{Γ:Type}
def OpV(ops:Array Oper)(m:Nat)(a0:Act)(K:Nat->Option ny)(d:Tmp)(v:ny):Prop:=match idxOf ops m d with
 | some k=>∀y,K k=I y->v=y
 | none=>v=a0.tmps.getD d mc
theorem qpq{o:Oper}{a:Act}{W:nu}(ty:nz)(x y:Operand)(ho:o.op=.store ty x y)(p:Nat)(hx:a.eval x=nj (I ⟨p,0,V⟩))(cs old:Array ny)(hy:a.eval y=.agg cs)(hg:Blk W p ty old)
  (hi:(P.info? ty).map (·.size)=I cs.size) (hold:old.size=cs.size) (h1:cs.all (·.oneCell')=nr) {R:ny->nu->Prop} (hR:R mc (W.setRow p cs)):qc P R ((execOp a.eval o).run P W):=by
 unfold execOp;simp only[ho,hx,hy,Instr.storeAt,Instr.sureAddr,ai,eb,aq,run_storeVar_row W p ty ty old cs hg hi hold h1];exact hR
end
end RegA
namespace RegC
open Go.RowKit qx
section
variable {P:ma}{ops:Array Oper}{Q:Exit->Act->nu->Prop}{a0:Act}
theorem region{id:Nat}{w:nu}(m:Nat)(K:Nat->Option ny)(hm:P.follows .mixedOrders=nr)(hH:qyf ops m=nr)(hin:∀k d,k<m->zi ops k=I d->d<a0.tmps.size)
  (hstep:∀i o,i<m->ops[i]? = I o->∀(a:Act) (W:nu),Below w.heap.size w W->(∀d,Operand.tmp d∈o.op.operands->RegA.OpV ops m a0 K d (a.tmps.getD d mc))->qc P (λv W'=>(∀x,K i=I x->v=x)/\Below W.heap.size W W') ((execOp a.eval o).run P W))
  (hfin:∀(vals:Nat->ny) (W:nu),Below w.heap.size w W->(∀k x,k<m->K k=I x->vals k=x)->wpList P ops Q (ops.toList.drop m) (puts ops vals (λ_=>nr) (ay m) a0) W) :
  (Code.region id ops nr).wp P Q a0 w:=by
 refine Reg9.region m (λL vals W=>Below w.heap.size w W/\∀k x,L k=nr->K k=I x->vals k=x) hm hH hin ⟨Below.drew (Below.refl _ _),λ_ _ h=>(by cases h)⟩ ?_ ?_
 .intro i o hi ho L vals a W hL hS hw qh;obtain⟨hb,hv⟩:=hS;refine qx.qc.mono (hstep i o hi ho a W hb (λd hd=>?_)) ?_
  .have:=qh d hd;unfold RegA.OpV;split
   .rename_i k hk;rw[hk] at this;exact λy hy=>this.2.trans (hv k y this.1 hy)
   .rename_i hk;rw[hk] at this;exact this
  .rintro v W' ⟨hx,hbc⟩;refine⟨hb.trans (hbc.mono hb.size),λk x hk hx'=>?_⟩;by_cases ek:k=i
   .subst ek;simp only[if_true];exact hx x hx'
   .simp only[if_neg ek] at hk ⊢;exact hv k x hk hx'
 .intro L vals W hall hS;exact hfin vals W hS.1 (λk x hk hx=>hS.2 k x (hall k hk) hx)
end
end RegC
end Go.Proofs.YtmadfhgiaonnlaaGreatDoor
