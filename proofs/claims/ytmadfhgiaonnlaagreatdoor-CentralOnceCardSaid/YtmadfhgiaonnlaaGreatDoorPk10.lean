import Derived.Test.YtmadfhgiaonnlaaGreatDoorPk9
open Array renaming length_toList->aw,getElem?_toList->ax,getElem?_eq_some_iff->cl,getElem?_eq_getElem->ak,getElem?_setIfInBounds->bt
open Bool renaming and_eq_true->ag
open Go renaming cell_of_row->dx,setRow_other->cw,size_setRow->dr,setRow_heap->gh,wpList_load_row->bp,wpList_store_rowTo->br,bodyPost_ret->du,wpList_load_mid->gd,setCell_eq_setRow->aat
open Go.Act renaming put->ez
open Go.ByteArray renaming toList_eq->zz
open Go.Ending.returned renaming inj->jz
open Go.IntKind renaming wrap->di,bits->dj,signed->cz
open Go.Lib renaming hid->aa
open Go.Proofs.Tryz renaming prog->ab,underlying31->bz,underlying82->dt,func21->aed
open Go.RowKit.Below renaming refl->aj
open Go.Sem renaming run_bind->ai
open Go.Value renaming cells->mw
open Go.World renaming setRow_alloc_new->fx,size_setCell->qz,cell?_of_block->cg
open List renaming getElem?_eq_getElem->ah,drop_zero->df,range->ay,drop_succ_cons->cq,all_eq_true->ao,mem_of_getElem?->cm,getElem?_eq_some_iff->al,getElem?_cons_succ->fq,getElem?_append_left->cd,getElem?_append_right->bq
open List.range renaming loop->dc
open Nat renaming mul_le_mul_right->dd,le_refl->af,mul_comm->qt,add_mul->eh,one_mul->lq,zero_le->cr,lt_succ_iff_lt_or_eq->gr,lt_of_lt_of_le->bf,le_of_eq->su
open Option renaming map_eq_some_iff->ea
open Bool renaming false->ns,true->nr
open Go renaming FuncId->mb,Program->ma,TypeId->nz,Value->ny,World->nu,maxLen->mf,undef->mc
open Go.Ending renaming returned->np
open Go.IntKind renaming i64->O
open Go.Value renaming int->U,pointer->nj,slice->ng,string->nh,tuple->nq
open Option renaming none->V,some->I
open Go.Proofs.YtmadfhgiaonnlaaGreatDoor renaming Blk->mg
set_option maxRecDepth 100000
set_option maxHeartbeats 4000000
set_option linter.unusedVariables false
set_option linter.unusedSimpArgs false
namespace Go.Proofs.YtmadfhgiaonnlaaGreatDoor
namespace Sy
open Go.RowKit Go.Great
variable {a:Act}{cs cur es ms rs xs:Array ny}{ct:CT}{b7:Int}{f:List CT}{pu:Lv}{b1 b2 c c' c2 g g2 g3 g4 g7 gx i j k lb lb2 m m2 n n' n7 p:Nat}{ids:Nat->Int}{T1 T2:Nat->Prop}{o:Oper}{A A7 B:Option Addr}{d:TD}{s x:Tmp}{e t te:nz}{l u v:ny}{R:ny->nu->Prop}{w1 w2:nu}
section
variable {P:ma}{cx':Cx}{W0:nu}{T T':Nat->Prop}{w w':nu}{base:Nat}
theorem qzn{W:nu}(h:mg W g t cs)(hv:cs[k]? = I v):W.cell? ⟨g,k,V⟩=I v:=by rw[h.cell];exact hv
noncomputable abbrev FT:List CT:=((cx.tb.flat 34).getD [])
def qew(xs:Array ny):Prop:=∃(s:ByteArray) (n:Int),xs[1]? = I (nh s)/\(s.toList=[]\/IdW.xy s=nr)/\xs[4]? = I (U O n)/\1<=n/\n<=3
theorem qvz(hw:WT cx.tb W0 T w)(h:CV cx.tb W0 T w base (.cs 1 34 lb) (ng A n c))(hj:j<n):∃xs,zo cx W0 T w FT A j xs/\qew xs:=by
 obtain⟨xs,hx⟩:=jr (f:=FT) hw ki h.qxy hj;refine⟨xs,hx,?_⟩;rcases h with h|⟨b,off,n',c',cs,fr,e,h1,h2,h3,h4,h5,h6,h7,h8,h9,h10⟩
 .cases h;omega
 cases e;have hsz:cx.tb.sz 34=6:=ki;rw[hsz] at h9 h10;obtain⟨b1,off1,e1,-,-,hz,hc,-⟩:=hx;cases e1;have hz6:xs.size=6:=hz.trans ki;have hf6:FT.length=6:=ki
 have hlen:((cs.toList.drop off).take (n*6)).length=n*6:=by
  rw[List.length_take,List.length_drop,aw];have:=dd 6 h1;omega
 have hcell:∀o,o<6->((cs.toList.drop off).take (n*6))[6*j+o]? = xs[o]?:=λo ho=>by
  have qd8:=hc o kg;rw[dx w b _ cs 34 fr h8,hf6] at qd8;have:6*j+o<n*6:=kg;rw[List.getElem?_take,if_pos this,List.getElem?_drop,ax,<-qd8];congr 1;omega
 obtain⟨s,m,q1,q2,q3,q4,q5⟩:=(h10:TokQ _) j (by rw[hlen];omega);rw[hcell 1 kg] at q1;rw[hcell 4 kg] at q3;exact⟨s,m,q1,q2,q3,q4,q5⟩
theorem qv6(hw:WT cx.tb W0 T w)(hg:W0.heap.size<=g)(hb:mg w g 34 cur)(hsz:cur.size=m*6)(hm:m<=128)
  (hrow:∀j,j<m->∃rs:Array ny,(∀o,o<6->cur[j*6+o]? = rs[o]?)/\zq cx.tb W0 T w 0 (.agg FT) (.agg rs)/\qew rs) (base:Nat) :
  WT cx.tb W0 (add T g) w/\xq T w (add T g) w/\CV cx.tb W0 (add T g) w base (.cs 1 34 128) (ng (I ⟨g,0,V⟩) m m):=by
 have hf6:FT.length=6:=ki
 have hcell:∀(i:Nat) (v:ny),cur[i]? = I v->∃ct,FT[i%FT.length]? = I ct/\CV cx.tb W0 T w 0 ct v:=by
  intro i v hv;have hi:i<m*6:=by have:=(cl.1 hv).1;omega
  obtain⟨rs,h1,h2,-⟩:=hrow (i/6) kg;have h3:=h1 (i%6) kg;rw[show i/6*6+i%6=i by omega,hv] at h3;rw[hf6];have hk:i%6<FT.length:=by rw[hf6];omega
  refine⟨FT[i%6],ah hk,?_⟩;obtain⟨cs',e,hs,ha⟩:=h2;cases e;exact ha _ _ v (ah hk) h3.symm
 obtain⟨j1,j2⟩:=hw.join (tb:=cx.tb) hg hb (.inl rfl) (l:=FT) ki kj hcell (qdp ki cur);have qm9:cx.tb.sz 34=6:=ki;refine⟨j1,j2,.inr ⟨g,0,m,m,cur,(0,0),rfl,af _,hm,by unfold mf;omega,.inr rfl,by rw[qm9];decide,by rw[qm9],kj,hb,by rw[qm9];omega,?_⟩⟩;show TokQ _;rw[qm9,df,List.take_of_length_le (by rw[aw];omega)];intro j hj;rw[aw] at hj;obtain⟨rs,h1,-,s,n,q1,q2,q3,q4,q5⟩:=hrow j kg;refine⟨s,n,?_,q2,?_,q4,q5⟩
 .rw[ax,<-q1,<-h1 1 kg,qt]
 .rw[ax,<-q3,<-h1 4 kg,qt]
theorem zo.shiftN{cx:Cx}{b off:Nat}(h:zo cx W0 T w f (I ⟨b,off,V⟩) (j+k) xs):zo cx W0 T w f (I ⟨b,off+k*f.length,V⟩) j xs:=by
 obtain⟨b',off',e,h1,h2,h3,h4,h5⟩:=h;cases e;refine⟨b,off+k*f.length,rfl,h1,h2,h3,λi hi=>?_,h5⟩;rw[<-h4 i hi];have:off+k*f.length+j*f.length+i=off+(j+k)*f.length+i:=by rw[eh];omega
 rw[this]
theorem qn5{cx:Cx}(hcx:yj P cx)(ho:o.op=.call { callee:=.builtin .copy,args:=#[.tmp s,.tmp x],argTypes:=#[t,t] })
  (hs:a.tmps[s]?.getD mc=ng (I ⟨g,p,V⟩) n c) (hx:a.tmps[x]?.getD mc=ng B k c2) (hk:kd cx t=.sl e) (hd:yx cx e=I d) (hf:cx.tb.flat e=I f) (hz:qqb d f=nr) (hw:WT cx.tb W0 T w) (hb:mg w g e cur) (hkn:k<=n)
  (hv:CV cx.tb W0 T w base (.sl m e lb) (ng B k c2)) (hfit:p+k*f.length<=cur.size) :
  ∃(cur':Array ny) (w':nu),(execOp a.eval o).run P w=.ok (.value (U O (k:Int))) w'/\mg w' g e cur'/\cur'.size=cur.size/\(∀j xs,j<k->zo cx W0 T w f B j xs->∀i,i<f.length->cur'[p+j*f.length+i]? = xs[i]?)/\(∀q,(q<p\/p+k*f.length<=q)->cur'[q]? = cur[q]?) /\
   (∀b,b≠g->w'.heap[b]? = w.heap[b]?)/\w'.heap.size=w.heap.size/\w'.os=w.os/\w'.tape=w.tape/\w'.output=w.output:=by
 obtain⟨u',g1,g2⟩:=xe hcx hk kq;obtain⟨e'',rfl⟩:∃e'',u'=.slice e'':=by cases u'<;>simp_all [KD.of]
 simp only[KD.of,KD.sl.injEq] at g2;subst g2;obtain⟨i,hi1,hi2,hi3,z,hz1,hz2⟩:=jg (hcx _ d hd);obtain⟨z1,z2,z3,-⟩:=qz4 (cx:=cx) (W0:=W0) (T:=T) (w:=w) (base:=base) hz;have hsz:i.size=f.length:=by rw[hi2,z2]
 obtain⟨B',k',c',news,e1,v1,v2,v3,v4,v5,v6,v7⟩:=hv.src (P:=P) hw hf z3;cases e1;have hmin:Nat.min k n=k:=Nat.min_eq_left hkn
 have hone:∀v∈news,v.oneCell'=nr:=λv hm=>by
  obtain⟨j,hj,rfl⟩:=List.mem_iff_getElem.1 hm;obtain⟨ct,-,hc⟩:=v5 j _ (ah hj);exact hc.one
 have hfc:(Builtin.firstCells i.size (Nat.min k n) (ng B k c2)).run P w=.ok news.toArray w:=by
  rw[hmin,hsz];by_cases h0:k=0
  .subst h0;have:news=[]:=List.length_eq_zero_iff.1 (by rw[v4,Nat.zero_mul]);subst this;exact v7 rfl
  .obtain⟨b,off,rfl,-,hcell⟩:=v6 kg;exact run_firstCells_some (P:=P) w _ k ⟨b,off,V⟩ k c2 news v4 (λj v hv=>by rw[uz];exact hcell j v hv)
 have hrun:=qmc (P:=P) (t:=t) (ty:=o.type) g1 hi1 (b:=g) (off:=p) (n:=n) (c:=c) hb (.inl rfl) (x:=ng B k c2) (k:=k) rfl hfc hone (by rw[v4];exact hfit);obtain⟨cur',k1,k2,k3⟩:=jh g e'' (0,0) news p w cur hb;obtain⟨r1,r2,r3,r4⟩:=ve g news p w;refine⟨cur',_,?_,k1,k2,λj xs hj hx' i' hi'=>?_,λq hq=>?_,λb hb'=>xk g news p w b hb',r1,r2,r3,r4⟩
 .rw[hmin,<-qx3 hs,<-qx3 hx] at hrun;simp only[execOp,ho,resolve,invoke,builtin];simpa[ai,goInt] using qqp hrun
 .have hmul:j*f.length+i'<k*f.length:=by
   have:=dd f.length (show j+1<=k by omega);rw[eh,lq] at this;omega
  rw[k3,if_pos (by rw[v4];omega),show p+j*f.length+i'-p=j*f.length+i' by omega];obtain⟨b,off,e2,-,-,hxs,hc,-⟩:=hx';obtain⟨b',off',e3,-,hcell⟩:=v6 kg;rw[e2] at e3;cases e3;rw[<-hc i' hi',ah kg,Nat.add_assoc];exact(hcell _ _ (ah kg)).symm
 .rw[k3,if_neg (by rw[v4];omega)]
theorem qdc{cx:Cx}{ops:Array Oper}{rest:List Oper}{Q:Exit->Act->nu->Prop}(hg:o.guard=V)(s x:Tmp)(t e:nz)(ho:o.op=.call { callee:=.builtin .copy,args:=#[.tmp s,.tmp x],argTypes:=#[t,t] })(hcx:yj P cx)
  (hs:a.eval (.tmp s)=ng (I ⟨g,p,V⟩) n c) (hx:a.eval (.tmp x)=ng B k c2) (hk:kd cx t=.sl e) (hd:yx cx e=I d) (hf:cx.tb.flat e=I f) (hz:qqb d f=nr) (hw:WT cx.tb W0 T w) (hb:mg w g e cur) (hkn:k<=n)
  (hv:CV cx.tb W0 T w base (.sl m e lb) (ng B k c2)) (hfit:p+k*f.length<=cur.size)
  (h:∀(cur':Array ny) (w':nu),mg w' g e cur'->cur'.size=cur.size->(∀j xs,j<k->zo cx W0 T w f B j xs->∀i,i<f.length->cur'[p+j*f.length+i]? = xs[i]?)->(∀q,(q<p\/p+k*f.length<=q)->cur'[q]? = cur[q]?) ->
    (∀b,b≠g->w'.heap[b]? = w.heap[b]?)->w'.heap.size=w.heap.size->w'.os=w.os->w'.tape=w.tape->w'.output=w.output->wpList P ops Q rest (a.put o.dst (U O (k:Int))) w'):wpList P ops Q (o::rest) a w:=by
 obtain⟨cur',w',hr,h1,h2,h3,h4,h5,h6,h7,h8,h9⟩:=qn5 hcx ho (gdq hs) (gdq hx) hk hd hf hz hw hb hkn hv hfit;refine wpList_plain hg λK' hK'=>?_
 unfold Oper.wp;rw[hr];exact hK' _ _ (h cur' w' h1 h2 h3 h4 h5 h6 h7 h8 h9)
theorem qx8{t2:nz}{z:Array ny}(cs:Array ny)(hw:WT cx.tb W0 T' w')(hz:yh T' w' g2 t2 z)(hlo:W0.heap.size<=g2)(hh:zg T w nr T' w')(hg:w.heap.size<=g2):WT cx.tb W0 T' (w'.setRow g2 cs)/\xq T' w' T' (w'.setRow g2 cs)/\zg T w nr T' (w'.setRow g2 cs)/\(∀b,Bk W0 T' b->(w'.setRow g2 cs).heap[b]? = w'.heap[b]?)/\(w'.setRow g2 cs).heap[g2]? = I (.cells cs t2 (0,0)):=by
 have hs:∀b,Bk W0 T' b->(w'.setRow g2 cs).heap[b]? = w'.heap[b]?:=λb hb=>cw w' g2 b _ (λe=>by subst e;rcases hb with hb|hb;exact hz.nt hb;omega)
 have hm:∀(b:Nat) es c,w'.heap[b]? = I (.map es c)->(w'.setRow g2 cs).heap[b]? = I (.map es c):=λb es c hc=>by
  have:b≠g2:=λe=>by subst e;have hb:=hz.bk;unfold mg at hb;rw[hb] at hc;cases hc
  rw[cw w' g2 b _ this];exact hc
 have x:=qq6 hw hs hm;obtain⟨k1,-⟩:=hw.frame (w':=w'.setRow g2 cs) (by rw[dr];exact af _) (λk hk=>hs k (.inr hk)) (λk hk=>hs k (.inl hk)) hm;exact⟨k1,x,⟨hh.ext.trans x,hh.new,by rw[dr];exact hh.size,hh.os,hh.tape,hh.output,λb hb hp=>(cw w' g2 b _ kg).trans (hh.keep b hb hp),λh=>(Lv.nb h).elim⟩,hs,gh w' g2 z cs t2 (0,0) hz.bk⟩
theorem qze{P:ma}{fn:Func}{p q:Tmp}{ty:nz}(h:fn.results=#[.cell p ty,.tmp q])(tmps:Array ny)(w:nu)(g:Nat)(t:nz)(cs:Array ny)(fr:Nat×Nat)(d:TypeDesc)(hp:tmps.getD p mc=nj (I ⟨g,0,V⟩))(hg:w.heap[g]? = I (.cells cs t fr))
  (hu:P.underlying ty=I d) (hd:(match d with|.struct _|.array _ _=>nr|_=>ns)=nr) (hi:(P.info? ty).map (·.size)=I cs.size):(results fn tmps).run P w=.ok (nq #[.agg cs,tmps.getD q mc]) w:=by
 have hp':tmps[p]?.getD mc=nj (I ⟨g,0,V⟩):=by simpa using hp
 simp[results,h,hp',asAddr,run_loadVar_row w g t ty cs fr d hg hu hd hi]
theorem qzv.drew{cx:Cx}{g:Nat}{t:nz}{cs:Array ny}(h:qzv cx W0 T w g t T' w' cs):qzv cx W0 T w g t T' w'.drew cs:=by
 have hb:Below w'.heap.size w' w'.drew:=Below.drew (aj _ _);exact h.call (zh h.wt hb).1 (zk h.wt hb)
theorem uw{P:ma}{r:Result Next}(e:r=.ok (.value v) w2)(h:R v w2):qx.qc P R r:=by subst e;exact h
theorem qdj{cx:Cx}(hcx:yj P cx)(ho:o.op=.call { callee:=.builtin .copy,args:=#[.tmp s,.tmp x],argTypes:=#[t,t] })
  (hs:a.tmps[s]?.getD mc=ng (I ⟨g,p,V⟩) n c) (hx:a.tmps[x]?.getD mc=ng B k c2) (hk:kd cx t=.sl e) (hd:yx cx e=I d) (hf:cx.tb.flat e=I f) (hz:qqb d f=nr) (hw:WT cx.tb W0 T w) (hb:mg w g e cur) (hkn:k<=n)
  (hv:CV cx.tb W0 T w base (.sl m e lb) (ng B k c2)) (hfit:p+k*f.length<=cur.size) 
  (h:∀(cur':Array ny) (w':nu),mg w' g e cur'->cur'.size=cur.size->(∀j xs,j<k->zo cx W0 T w f B j xs->∀i,i<f.length->cur'[p+j*f.length+i]? = xs[i]?)->(∀q,(q<p\/p+k*f.length<=q)->cur'[q]? = cur[q]?) ->
    (∀b,b≠g->w'.heap[b]? = w.heap[b]?)->w'.heap.size=w.heap.size->w'.os=w.os->w'.tape=w.tape->w'.output=w.output->R (U O (k:Int)) w'):qx.qc P R ((execOp a.eval o).run P w):=by
 obtain⟨cur',w',hr,h1,h2,h3,h4,h5,h6,h7,h8,h9⟩:=qn5 hcx ho hs hx hk hd hf hz hw hb hkn hv hfit;exact uw hr (h cur' w' h1 h2 h3 h4 h5 h6 h7 h8 h9)
theorem qzw{P:ma}{ty:nz}{y:Tmp}(ho:o.op=.store ty (.tmp x) (.tmp y)){cells old:Array ny}(hx:a.tmps[x]?.getD mc=nj (I ⟨g,0,V⟩))(hy:a.tmps[y]?.getD mc=.agg cells)(hg:mg w g t old)
  (hi:(P.info? ty).map (·.size)=I cells.size) (hold:old.size=cells.size) (h1:cells.all (·.oneCell')=nr)  (h:R mc (w.setRow g cells)):qx.qc P R ((execOp a.eval o).run P w):=by
 have e1:=qx3 hx;have e2:=qx3 hy;unfold execOp;simp only[ho,e1,e2,Instr.storeAt,Instr.sureAddr,ai,Sem.run_pure,Result.andThen_ok,run_storeVar_row w g t ty old cells hg hi hold h1];exact h
theorem qzv.row(ds:Array ny)(h:qzv cx W0 T w g t T' w' cs):qzv cx W0 T w g t T' (w'.setRow g ds) ds/\(∀b,Bk W0 T' b->(w'.setRow g ds).heap[b]? = w'.heap[b]?)/\xq T' w' T' (w'.setRow g ds):=by
 obtain⟨b1,b2⟩:=h.put (T1:=T) (w1:=w) (cs':=ds) (gh w' g cs ds t (0,0) h.bk) (dr _ _ _) rfl rfl rfl (λb hb=>cw w' g b _ hb);refine⟨b1,b2,qq6 h.wt b2 (λb es c hc=>?_)⟩;have:b≠g:=λe=>by subst e;have hb:=h.bk;unfold mg at hb;rw[hb] at hc;cases hc
 rw[cw w' g b _ this];exact hc
theorem yh.row(ds:Array ny)(h:yh T' w' g t cs)(hp:g≠p):yh T' (w'.setRow p ds) g t cs:=⟨h.nt,(cw w' p g ds hp).trans h.bk⟩
end
open Go.RowKit Go.Great
section
variable {W0:nu}{T T':Nat->Prop}{w w':nu}{base:Nat}
noncomputable abbrev FE:List CT:=((cx.tb.flat 82).getD [])
theorem qyx.hist{T2:Nat->Prop}{w2:nu}{A:Option Addr}{n:Nat}{ids:Nat->Int}(h:qyx W0 T w A n ids)(hh:zg T w nr T2 w2):qyx W0 T2 w2 A n ids:=λj hj=>by
 obtain⟨xs,h1,h2⟩:=h j hj;exact⟨xs,h1.hist hh,h2⟩
theorem qp8{d:Nat}(hw:WTc W0 T w)(h:xn cx.tb W0 T w (d+1) (.sl m 31 lb) (ng A n c) (ng B n' c'))(hc:CVc W0 T w base (.sl m2 31 lb2) (ng B n' c'))(hi:qyx W0 T w A n ids):qyx W0 T w B n' ids:=λj hj=>by
 have hn:=jl h;subst hn;obtain⟨xs,h1,h2⟩:=hi j hj;obtain⟨ys,h3⟩:=jr (f:=FM) hw ki hc hj;have he:=qyp (f:=FM) ki h hj h1 h3;obtain⟨b,off,-,-,-,hz,-,hty⟩:=id h3;refine⟨ys,h3,?_⟩;have hy:ys[1]? = I (ys[1]'(by rw[hz];decide)):=ak _;have:=(he.2.2 1 (vw) _ _ ki h2 hy).eq rfl;rw[hy,<-this]
def qxo(W0:nu)(T:Nat->Prop)(w:nu)(A:Option Addr)(n:Nat)(rs:Array ny)(b:Int):Prop:=∃(ids:Nat->Int) (j:Nat) (xs:Array ny),qyx W0 T w A n ids/\j<n/\(∀i,i<j->ids i≠b)/\ids j=b/\zo cx W0 T w FM A j xs/\∀dp,jw cx.tb W0 T w (dp+1) FM rs xs
def AnP(W0:nu)(T:Nat->Prop)(w:nu)(rs:Array ny)(b:Int)(E:Ending)(w':nu):Prop:=∃(cs:Array ny) (T':Nat->Prop) (A:Option Addr) (n c:Nat),E=np (nq #[.agg cs,zI])/\WTc W0 T' w'/\zg T w nr T' w'/\TyValc W0 T' w' 0 (.agg FE) (.agg cs)/\cs[7]? = I (ng A n c)/\qxo W0 T' w' A n rs b
theorem CV.fit{tb:yg}{lb':Nat}(h:CV tb W0 T w base (.sl m e lb) (ng A n c))(hm:0<m)(hn:n<=lb'):CV tb W0 T w base (.sl m e lb') (ng A n c):=by
 rcases h with h|⟨h0,-⟩|⟨b,off,k,c',e1,h1,h2,h3⟩
 .exact .inl h
 .omega
 .cases e1;exact .inr (.inr ⟨b,off,n,c,rfl,h1,hn,h3⟩)
theorem qyx.same{A:Option Addr}{n:Nat}{ids:Nat->Int}(h:qyx W0 T w A n ids)(x:xq T w T' w')(hs:w.heap.size<=w'.heap.size)(hk:∀b,Bk W0 T b->w'.heap[b]? = w.heap[b]?):qyx W0 T' w' A n ids:=λj hj=>by
 obtain⟨xs,h1,h2⟩:=h j hj;exact⟨xs,h1.same x hs hk,h2⟩
theorem qxo.same{A:Option Addr}{n:Nat}{rs:Array ny}{b:Int}(h:qxo W0 T w A n rs b)(x:xq T w T' w')(hs:w.heap.size<=w'.heap.size)(hk:∀b,Bk W0 T b->w'.heap[b]? = w.heap[b]?):qxo W0 T' w' A n rs b:=by
 obtain⟨ids,j,xs,h1,h2,h3,h4,h5,h6⟩:=h;exact⟨ids,j,xs,h1.same x hs hk,h2,h3,h4,h5.same x hs hk,λdp=>(h6 dp).same x.sub hk⟩
theorem zo.shift{b off:Nat}(h:zo cx W0 T w f (I ⟨b,off,V⟩) (j+1) xs):zo cx W0 T w f (I ⟨b,off+f.length,V⟩) j xs:=by
 obtain⟨b',off',e,h1,h2,h3,h4,h5⟩:=h;cases e;refine⟨b,off+f.length,rfl,h1,h2,h3,λk hk=>?_,h5⟩;rw[<-h4 k hk];have:off+f.length+j*f.length+k=off+(j+1)*f.length+k:=by rw[eh,lq];omega
 rw[this]
def Grown(W0:nu)(T:Nat->Prop)(w:nu)(n:Nat)(ids:Nat->Int)(b:Int)(rs:Array ny)(B:Option Addr):Prop:=qyx W0 T w B (n+1) (λi=>if i<n then ids i else b)/\∃xs,zo cx W0 T w FM B n xs/\∀dp,jw cx.tb W0 T w (dp+1) FM rs xs
theorem Grown.hist{T2:Nat->Prop}{w2:nu}{n:Nat}{ids:Nat->Int}{b:Int}{rs:Array ny}{B:Option Addr}(h:Grown W0 T w n ids b rs B)(hw:WTc W0 T w)(hh:zg T w nr T2 w2):Grown W0 T2 w2 n ids b rs B:=by
 obtain⟨h1,xs,h2,h3⟩:=h;exact⟨h1.hist hh,xs,h2.hist hh,λdp=>(h3 dp).hist hw hh⟩
theorem Grown.same{n:Nat}{ids:Nat->Int}{b:Int}{rs:Array ny}{B:Option Addr}(h:Grown W0 T w n ids b rs B)(x:xq T w T' w')(hs:w.heap.size<=w'.heap.size)(hk:∀b,Bk W0 T b->w'.heap[b]? = w.heap[b]?):Grown W0 T' w' n ids b rs B:=by
 obtain⟨h1,xs,h2,h3⟩:=h;exact⟨h1.same x hs hk,xs,h2.same x hs hk,λdp=>(h3 dp).same x.sub hk⟩
theorem Grown.has{b:Int}(h:Grown W0 T w n ids b rs B)(hlt:∀j,j<n->ids j<b):qxo W0 T w B (n+1) rs b:=by
 obtain⟨h1,xs,h2,h3⟩:=h;exact⟨_,n,xs,h1,kg,λi hi=>by rw[if_pos hi];have:=hlt i hi;omega,if_neg kg,h2,h3⟩
theorem Grown.drop{bb off:Nat}{b:Int}{C:Option Addr}(h:Grown W0 T w n ids b rs (I ⟨bb,off,V⟩))(hlt:∀j,j<n->ids j<b)(hn:0<n)(hw:WTc W0 T w)
  (hw':WTc W0 T' w') (hh:zg T w nr T' w') (he:∀dp,xn cx.tb W0 T' w' (dp+2) (.sl m 31 lb) (ng (I ⟨bb,off+25,V⟩) n c) (ng C n c')) (hc:CVc W0 T' w' base (.sl m2 31 lb2) (ng C n c')):qxo W0 T' w' C n rs b:=by
 obtain⟨h1,xs,h2,h3⟩:=h.hist hw hh
 have hi:qyx W0 T' w' (I ⟨bb,off+25,V⟩) n (λi=>if i+1<n then ids (i+1) else b):=λj hj=>by
  obtain⟨ys,g1,g2⟩:=h1 (j+1) kg;exact⟨ys,g1.shift,g2⟩
 have h4:=qp8 hw' (he 0) hc hi;obtain⟨j,rfl⟩:∃j,n=j+1:=⟨n-1,kg⟩;obtain⟨ys,h5⟩:=jr (f:=FM) hw' ki hc (j:=j) kg;exact⟨_,j,ys,h4,kg,λi hi=>by rw[if_pos kg];have:=hlt (i+1) kg;omega,by rw[if_neg kg],h5,λdp=>(h3 dp).trans (qyp (f:=FM) ki (he dp) kg h2.shift h5)⟩
theorem qzv.ext{r:ny}(hb:qzv cx W0 T w g t T' w' cs):xq T' w' T' (w'.setCell ⟨g,k,V⟩ r):=
 qq6 hb.wt hb.set.2 (λb es c hc=>by
  have hk:=hb.bk;have:b≠g:=λe=>by subst e;unfold mg at hk;rw[hk] at hc;cases hc
  rw[Below.heap_setCell w' ⟨g,k,V⟩ r b this];exact hc)
theorem q1a{P:ma}{cx:Cx}(hcx:yj P cx)(ho:o.op=.call { callee:=.builtin .append,args:=#[.tmp s,.tmp x],argTypes:=#[t,t] })(hs:a.tmps[s]?.getD mc=ng A n n)(hx:a.tmps[x]?.getD mc=ng B k c2)
  (hk:kd cx t=.sl e) (hd:yx cx e=I d) (hf:cx.tb.flat e=I f) (hz:qqb d f=nr) (hby:d.bytes<=32768) (hlb:lb+lb2<=LM) (hw:WT cx.tb W0 T w) (hv:CV cx.tb W0 T w base (.sl m e lb) (ng A n n)) (hv2:CV cx.tb W0 T w base (.sl m2 e lb2) (ng B k c2)) (hk0:0<k) 
  (h:∀(c:Nat) (T':Nat->Prop) (w':nu),WT cx.tb W0 T' w'->zg T w nr T' w'->CV cx.tb W0 T' w' w.heap.size (.sl 2 e (lb+lb2)) (ng (I ⟨w.heap.size,0,V⟩) (n+k) c) ->
    (∀j xs,j<n->zo cx W0 T w f A j xs->zo cx W0 T' w' f (I ⟨w.heap.size,0,V⟩) j xs)->(∀j xs,j<k->zo cx W0 T w f B j xs->zo cx W0 T' w' f (I ⟨w.heap.size,0,V⟩) (n+j) xs)->R (ng (I ⟨w.heap.size,0,V⟩) (n+k) c) w'):qx.qc P R ((execOp a.eval o).run P w):=by
 obtain⟨c,T',w',e,h1,h2,h3,h4,h5⟩:=q0r hcx ho hs hx hk hd hf hz hby hlb hw hv hv2 hk0;exact uw e (h c T' w' h1 h2 h3 h4 h5)
theorem q1b{dp:Nat}{b:Int}(h:jw cx.tb W0 T w dp FM rs xs)(h1:rs[1]? = I (U O b)):xs[1]? = I (U O b):=by
 have hy:xs[1]? = I (xs[1]'(by rw[h.2.1];decide)):=ak _;have:=(h.2.2 1 (vw) _ _ ki h1 hy).eq rfl;rw[hy,<-this]
def qxh(W0:nu)(T:Nat->Prop)(w:nu)(g7 g3 g4:Nat)(es rs:Array ny)(A7:Option Addr)(n7:Nat)(ids:Nat->Int)(b7:Int)(k:Nat)(v:ny)(T':Nat->Prop)(W:nu):Prop:=match k with
 | 0=>v=.pointer (I ⟨g7,7,V⟩)
 | 1=>v=.slice A7 n7 n7
 | 2=>v=.agg rs
 | 3=>∃q,v=.slice (I ⟨q,0,V⟩) 1 1/\CVc W0 T' W 0 (.sl 2 31 1) (.slice (I ⟨q,0,V⟩) 1 1)/\zo cx W0 T' W FM (I ⟨q,0,V⟩) 0 rs
 | 4=>∃B c,v=.slice B 1 c/\CVc W0 T' W 0 (.sl 2 31 1) (.slice B 1 c)/\∃xs,zo cx W0 T' W FM B 0 xs/\xs[1]? = I (.int O b7)/\∀dp,jw cx.tb W0 T' W (dp+1) FM rs xs
 | 5=>∃B c,v=.slice B (n7+1) c/\CVc W0 T' W 0 (.sl 2 31 1025) (.slice B (n7+1) c)/\Grown W0 T' W n7 ids b7 rs B
 | 6=>v=.pointer (I ⟨g7,7,V⟩)
 | _=>True
def StAn(W0:nu)(T:Nat->Prop)(w:nu)(g7 g3 g4:Nat)(es rs:Array ny)(A7:Option Addr)(n7:Nat)(ids:Nat->Int)(b7:Int)(L:Nat->Bool)(vals:Nat->ny)(W:nu):Prop:=∃(T':Nat->Prop),(∃cur:Array ny,qzv cx W0 T w g7 82 T' W cur/\yh T' W g3 31 rs/\yh T' W g4 82 zB/\(L 7=ns->cur=es)/\(L 7=nr->∃B c,vals 5=ng B (n7+1) c/\CVc W0 T' W 0 (.sl 2 31 1025) (ng B (n7+1) c)/\Grown W0 T' W n7 ids b7 rs B/\cur=es.setIfInBounds 7 (vals 5)))/\∀k,k<8->L k=nr->qxh W0 T w g7 g3 g4 es rs A7 n7 ids b7 k (vals k) T' W
theorem qcw(hw:WTc W0 T1 w1)(hh:zg T1 w1 nr T2 w2)(h:qxh W0 T w g7 g3 g4 es rs A7 n7 ids b7 k v T1 w1):qxh W0 T w g7 g3 g4 es rs A7 n7 ids b7 k v T2 w2:=by
 unfold qxh at h ⊢;split at h
 .exact h
 .exact h
 .exact h
 .obtain⟨q,h1,h2,h3⟩:=h;exact⟨q,h1,h2.mono hh.ext (af _),h3.hist hh⟩
 .obtain⟨B,c,h1,h2,xs,h3,h4,h5⟩:=h;exact⟨B,c,h1,h2.mono hh.ext (af _),xs,h3.hist hh,h4,λdp=>(h5 dp).hist hw hh⟩
 .obtain⟨B,c,h1,h2,h3⟩:=h;exact⟨B,c,h1,h2.mono hh.ext (af _),h3.hist hw hh⟩
 .exact h
 .trivial
theorem q0x(x:xq T1 w1 T2 w2)(hs:w1.heap.size<=w2.heap.size)(hk:∀b,Bk W0 T1 b->w2.heap[b]? = w1.heap[b]?)(h:qxh W0 T w g7 g3 g4 es rs A7 n7 ids b7 k v T1 w1):qxh W0 T w g7 g3 g4 es rs A7 n7 ids b7 k v T2 w2:=by
 unfold qxh at h ⊢;split at h
 .exact h
 .exact h
 .exact h
 .obtain⟨q,h1,h2,h3⟩:=h;exact⟨q,h1,h2.mono x (af _),h3.same x hs hk⟩
 .obtain⟨B,c,h1,h2,xs,h3,h4,h5⟩:=h;exact⟨B,c,h1,h2.mono x (af _),xs,h3.same x hs hk,h4,λdp=>(h5 dp).same x.sub hk⟩
 .obtain⟨B,c,h1,h2,h3⟩:=h;exact⟨B,c,h1,h2.mono x (af _),h3.same x hs hk⟩
 .exact h
 .trivial
def EndAn(W0:nu)(T:Nat->Prop)(w:nu)(g7 g3 g4:Nat)(es rs:Array ny)(n7:Nat)(ids:Nat->Int)(b7:Int)(W:nu):Prop:=∃(T':Nat->Prop) (B:Option Addr) (c:Nat),qzv cx W0 T w g7 82 T' W (es.setIfInBounds 7 (ng B (n7+1) c))/\yh T' W g3 31 rs/\yh T' W g4 82 zB/\CVc W0 T' W 0 (.sl 2 31 1025) (ng B (n7+1) c)/\Grown W0 T' W n7 ids b7 rs B
theorem q6e(hw:WTc W0 T w)(he:TyValc W0 T w base (.agg FE) (.agg es))(hr:TyValc W0 T w base (.agg FM) (.agg rs)){k b:Int}(h7:es[7]? = I (ng A n c))(h0:rs[0]? = I (U O k))(hk:decide (k=2\/k=3)=nr)
  (h1:rs[1]? = I (U O b)) (hi:qyx W0 T w A n ids) (hlt:∀j,j<n->ids j<b) (hv:∀W:nu,(∀b,b<w.heap.size->W.heap[b]? = w.heap[b]?)->Calls ab 19 #[.agg rs] W λe w'=>e=np (U O 0)/\Hid (Below W.heap.size W w')) :
  Calls ab 64 #[.agg es,.agg rs] w (AnP W0 T w rs b):=by
 obtain⟨v7,hv7,ht7⟩:=jd he (k:=7) (ct:=FE.getD 7 .any) ki;rw[h7] at hv7;cases hv7;have hn:=qjd ht7;have HB:=aa (qp (qp (zy w (.cells es 82)) (.cells rs 31)) (.cells zB 82));have HE2:Hid (mg (((w.alloc (.cells es 82)).alloc (.cells rs 31)).alloc (.cells zB 82)) w.heap.size 82 es):=aa (((mg.new w 82 es).alloc _).alloc _)
 have HE3:Hid (mg (((w.alloc (.cells es 82)).alloc (.cells rs 31)).alloc (.cells zB 82)) (w.heap.size+1) 31 rs):=aa (by
  have:=(mg.new (w.alloc (.cells es 82)) 31 rs).alloc (.cells zB 82)
  rwa [show(w.alloc (.cells es 82)).heap.size=w.heap.size+1 by simp] at this)
 have HE4:Hid (mg (((w.alloc (.cells es 82)).alloc (.cells rs 31)).alloc (.cells zB 82)) (w.heap.size+1+1) 82 zB):=aa (by
  have:=mg.new ((w.alloc (.cells es 82)).alloc (.cells rs 31)) 82 zB
  rwa [show((w.alloc (.cells es 82)).alloc (.cells rs 31)).heap.size=w.heap.size+1+1 by simp] at this)
 have HSE:Hid ((ab.info? 82).map (·.size)=I es.size):=aa (by rw[zf he];kernel_rfl);have HSR:Hid ((ab.info? 31).map (·.size)=I rs.size):=aa (by rw[zf hr];kernel_rfl);have hoE:=xx he;have hoR:=xx hr;have HOR:=aa hoR;have HW:=aa hw;have HE:=aa he;have HR:=aa hr;have H7:=aa h7;have H0:=aa h0;have HK:=aa hk;have H1:=aa h1;have HI:=aa hi;have HLT:=aa hlt;have HV:=aa hv;have HN:=aa hn;have HT7:=aa ht7;clear hw he hr h7 h0 hk h1 hi hlt hv hn ht7;go_enter Tryz.func64,Tryz.ntmps64;go_upto_region 1 with(fail);clear hoE hoR;generalize ((w.alloc (.cells es 82)).alloc (.cells rs 31)).alloc (.cells zB 82)=w1 at *;go_wp2_with (refine bp rfl 31 (.tmp 3) rfl (w.heap.size+1) rfl 31 rs (0,0) _ HE3.out bz rfl HSR.out ?_);refine(HV.out w1 (λb hb=>HB.out.block b hb)).mono ?_;rintro e w2 ⟨rfl,hb2⟩;have HB2:=aa (qg HB.out hb2.out);have HF2:=aa (HE2.out.call hb2.out);have HF3:=aa (HE3.out.call hb2.out);have HF4:=aa (HE4.out.call hb2.out);clear hb2 HB HE2 HE3 HE4;go_upto_region 4 with(fail);go_wp2_with (refine bp rfl 31 (.tmp 3) rfl (w.heap.size+1) rfl 31 rs (0,0) _ HF3.out bz rfl HSR.out ?_);refine(isres (k:=k) HOR.out H0.out _).mono ?_;rintro e w3 ⟨rfl,hb3⟩;rw[HK.out];have HB3:=aa (qg HB2.out hb3.out);have HG2:=aa (HF2.out.call hb3.out);have HG3:=aa (HF3.out.call hb3.out);have HG4:=aa (HF4.out.call hb3.out);clear hb3 HB2 HF2 HF3 HF4;go_upto_region 6 with(fail);have k7:w3.cell? ⟨w.heap.size,7,V⟩=I (ng A n c):=by rw[HG2.out.cell];exact H7.out
 go_wp2_with (refine bp rfl 31 (.tmp 3) rfl (w.heap.size+1) rfl 31 rs (0,0) _ HG3.out bz rfl HSR.out ?_);have HW3:=aa (zh HW.out HB3.out);have HH3:=aa (zk (PU:=nr) HW.out HB3.out);refine(q2p (c:=c) HW3.out.1 (HI.out.hist HH3.out) (by have:=HN.out;omega) HOR.out H1.out).mono ?_;rintro e w4 ⟨⟨d,rfl,hd⟩,hb4⟩;obtain rfl:d=nr:=hd.2 HLT.out;have HB4:=aa (qg HB3.out hb4.out);have HK2:=aa (HG2.out.call hb4.out);have HK3:=aa (HG3.out.call hb4.out);have HK4:=aa (HG4.out.call hb4.out);have HW4:=aa (zh HW.out HB4.out);have HH4:=aa (zk (PU:=nr) HW.out HB4.out);clear hd hb4 k7 HB3 HG2 HG3 HG4 HW3 HH3;go_upto_region 8 with(fail);go_wp2_with (refine bp rfl 82 (.tmp 2) rfl w.heap.size rfl 82 es (0,0) _ HK2.out dt rfl HSE.out ?_);refine(q4t HW4.out.1 (zx HW4.out.2 HE.out)).mono ?_;rintro e w5 ⟨ds,T5,rfl,hw5,hh5,ht5,he5,hr5⟩;obtain⟨A7,n7,qji⟩:=hr5 7 kq;obtain⟨v7,hv7,ht7⟩:=jd ht5 (k:=7) (ct:=FE.getD 7 .any) ki;rw[qji] at hv7;cases hv7;have hq7:xn cx.tb W0 T5 w5 2 (.sl 1 31 1024) (ng A n c) (ng A7 n7 n7):=(he5 0).2.2 7 _ _ _ ki H7.out qji;obtain rfl:=jl hq7;have hi5:qyx W0 T5 w5 A7 n7 ids:=qp8 hw5 hq7 ht7 (HI.out.hist (HH4.out.trans hh5));have hnT:∀g,w.heap.size<=g->¬T g:=λg hg h=>by have:=HW.out.lt h;omega
 have HZ3:=aa ((⟨hnT _ kg,HK3.out⟩:yh T w4 (w.heap.size+1) 31 rs).call hh5);have HZ4:=aa ((⟨hnT _ kg,HK4.out⟩:yh T w4 (w.heap.size+1+1) 82 zB).call hh5);have HZ7:=aa (mg.new w5 82 zB);have HD5:=aa ht5;have HSD:Hid ((ab.info? 82).map (·.size)=I ds.size):=aa (by rw[zf ht5];kernel_rfl);have HQD:Hid ((zB:Array ny).size=ds.size):=aa (by rw[zf ht5];kernel_rfl);have HOD:=aa (xx ht5);have HW5:=aa hw5;have HH5:=aa (HH4.out.trans hh5);have H77:=aa qji;have HT77:=aa ht7;have HI5:=aa hi5;clear hr5 he5 ht5 hw5 hh5 qji ht7 hq7 hi5 hnT HK2 HK3 HK4 HW4 HH4 HB4;go_upto_region 9 with(refine br rfl 82 (.tmp 7) (.tmp 25) rfl rfl w5.heap.size ds rfl rfl 82 zB HZ7.out HSD.out HQD.out HOD.out ?_);rw[fx];have hb6:=zy w5 (.cells ds 82);have hnT5:¬T5 w5.heap.size:=λh=>by have:=HW5.out.lt h;omega
 have HC6:Hid (qzv cx W0 T5 w5 w5.heap.size 82 T5 (w5.alloc (.cells ds 82)) ds):=aa ⟨(zh HW5.out hb6).1,zk HW5.out hb6,hnT5,mg.new w5 82 ds,af _,HW5.out.size⟩;have HY3:=aa (HZ3.out.call (zk (PU:=nr) HW5.out hb6));have HY4:=aa (HZ4.out.call (zk (PU:=nr) HW5.out hb6));have HN3:Hid (w.heap.size+1≠w5.heap.size):=aa (λe=>by have:=HZ3.out.bk.lt;omega);have HN4:Hid (w.heap.size+1+1≠w5.heap.size):=aa (λe=>by have:=HZ4.out.bk.lt;omega);have HG4:Hid (W0.heap.size<=w.heap.size+1+1/\w.heap.size<=w.heap.size+1+1):=aa ⟨by have:=HW.out.size;omega,kg⟩;clear hb6 hnT5 HZ3 HZ4 HZ7 HQD HOD HSE;generalize hg3:w.heap.size+1=g3 at *;generalize hg4:g3+1=g4 at *;clear hg3 hg4;generalize w5.alloc (.cells ds 82)=w6 at *;generalize hg7:w5.heap.size=g7 at *;clear hg7;go_cut [] (λwd=>Hid (EndAn W0 T5 w5 g7 g3 g4 ds rs n7 ids b wd))
 case first=>
  refine Reg9D.region 8 (StAn W0 T5 w5 g7 g3 g4 ds rs A7 n7 ids b) mixed ki (qx.qqq (n:=43) ki rfl) ?_ ?_ ?_
  .exact⟨T5,⟨ds,HC6.out.drew,⟨HY3.out.nt,HY3.out.bk⟩,⟨HY4.out.nt,HY4.out.bk⟩,λ_=>rfl,λh=>by cases h⟩,λk _ h=>by cases h⟩
  .intro idx o hj ho L vals a' W hLi hS hw' qh hdn;obtain⟨T',⟨cur,hC,hZ3,hZ4,hc0,hc1⟩,qi⟩:=hS;have HPS:=λ(i:Nat) {v:ny} {T2:Nat->Prop} {w2:nu} hm h=>yt (i:=i) (L:=L) (vals:=vals) (v:=v) (Ψ:=λk v=>qxh W0 T5 w5 g7 g3 g4 ds rs A7 n7 ids b k v T' W) (Ψ':=λk v=>qxh W0 T5 w5 g7 g3 g4 ds rs A7 n7 ids b k v T2 w2) qi hm h
   have HQ:=λ(i:Nat) {v:ny} h=>yt (i:=i) (L:=L) (vals:=vals) (v:=v) (Ψ:=λk v=>qxh W0 T5 w5 g7 g3 g4 ds rs A7 n7 ids b k v T' W) (Ψ':=λk v=>qxh W0 T5 w5 g7 g3 g4 ds rs A7 n7 ids b k v T' W) qi (λ_ _ h=>h) h
   have hj':idx=0\/idx=1\/idx=2\/idx=3\/idx=4\/idx=5\/idx=6\/idx=7:=kg;clear hj;rcases hj' with rfl|rfl|rfl|rfl|rfl|rfl|rfl|rfl
   .cases oi ho;have h7:=qx.gdt (qh 7 nd);refine qx.qc.eq ?_ ⟨T',⟨cur,hC,hZ3,hZ4,hc0,hc1⟩,HQ 0 rfl⟩;go_simp
    all_goals(try exact⟨rfl,rfl⟩)
   .cases oi ho;have qmh:=qx.gpk (qh 26 nd) (qi 0 kg)
    have nl7:L 7=ns:=by
     cases h:L 7
     .rfl
     .exact absurd (hdn 7 1 _ rfl h ki) (by rw[hLi];decide)
    have kc:W.cell? ⟨g7,7,V⟩=I (ng A7 n7 n7):=by rw[hC.bk.cell,hc0 nl7];exact H77.out
    refine qx.qc.eq ?_ ⟨T',⟨cur,hC,hZ3,hZ4,hc0,hc1⟩,HQ 1 rfl⟩;go_simp
    all_goals(try exact⟨rfl,rfl⟩)
   .cases oi ho;have h3:=qx.gdt (qh 3 nd);refine uw (qzm rfl h3 hZ3.bk bz rfl HSR.out) ?_;exact⟨T',⟨cur,hC,hZ3,hZ4,hc0,hc1⟩,HPS 2 (v:=.agg rs) (λ_ _ h=>h) rfl⟩
   .cases oi ho;have q4j:=qx.gpk (qh 28 nd) (qi 2 kg)
    have nl7:L 7=ns:=by
     cases h:L 7
     .rfl
     .exact absurd (hdn 7 3 _ rfl h ki) (by rw[hLi];decide)
    have hrT:=zx (HH5.out.ext.trans hC.hi.ext) HR.out;obtain⟨j1,j2,j3,j4⟩:=qcn hC.wt (e:=31) (f:=FM) ki kj ki ki hrT 1 (af _);refine uw (qdh (cx:=cx) (e:=31) (td:=(yx cx 31).getD ⟨.oth,0,0,[],ns⟩) cxOk rfl q4j ki ki (zf HR.out) ko ko) ?_;exact⟨_,⟨cur,hC.call j1 j2,hZ3.call j2,hZ4.call j2,hc0,(λh=>absurd (show L 7=nr from h) (by rw[nl7];decide))⟩,yt (i:=3) (L:=L) (vals:=vals) (v:=ng (I ⟨W.heap.size,0,V⟩) 1 1) (Ψ:=λk v=>qxh W0 T5 w5 g7 g3 g4 ds rs A7 n7 ids b k v T' W) (Ψ':=λk v=>qxh W0 T5 w5 g7 g3 g4 ds rs A7 n7 ids b k v (add T' W.heap.size) (W.alloc (.cells rs 31))) qi (λ_ _ h=>qcw hC.wt j2 h) ⟨W.heap.size,rfl,j3.mono (xq.refl _ _) (cr _),j4⟩⟩
   .cases oi ho;obtain⟨lo29,eo29⟩:=qh 29 nd;have p29:=qi 3 kg lo29
    have nl7:L 7=ns:=by
     cases h:L 7
     .rfl
     .exact absurd (hdn 7 4 _ rfl h ki) (by rw[hLi];decide)
    obtain⟨q,hq,hcv,hsr⟩:=p29;have qbe:a'.tmps[29]?.getD mc=ng (I ⟨q,0,V⟩) 1 1:=gdq (eo29.trans hq);clear eo29;refine qx.qc.mono (R:=λv W'=>∃(T2:Nat->Prop),WTc W0 T2 W'/\zg T' W nr T2 W'/\qxh W0 T5 w5 g7 g3 g4 ds rs A7 n7 ids b 4 v T2 W') ?_ (λv W' h=>?_)
    .go_simp;refine(qx1 (lb:=1) hC.wt hcv kj).mono ?_;rintro e w5 ⟨⟨r,T2,rfl,hw2,hh2,hr2,he2⟩,A0,n0,hnr0⟩;obtain rfl:=jz hnr0;obtain rfl:n0=1:=jl (he2 0);obtain⟨xs,hx⟩:=jr (f:=FM) hw2 ki hr2 (j:=0) kg;have heq:=λdp=>qyp (f:=FM) ki (he2 dp) kg (hsr.hist hh2) hx
     exact⟨_,rfl,T2,hw2,hh2,A0,1,rfl,hr2.mono (xq.refl _ _) (cr _),xs,hx,q1b (heq 0) H1.out,heq⟩
    .obtain⟨T2,hw2,hh2,hcp⟩:=h;exact⟨T2,⟨cur,hC.call hw2 hh2,hZ3.call hh2,hZ4.call hh2,hc0,(λh=>absurd (show L 7=nr from h) (by rw[nl7];decide))⟩,HPS 4 (λ_ _ h=>qcw hC.wt hh2 h) hcp⟩
   .cases oi ho;have qmi:=qx.gpk (qh 27 nd) (qi 1 kg);obtain⟨lo30,eo30⟩:=qh 30 nd;have p30:=qi 4 kg lo30
    have nl7:L 7=ns:=by
     cases h:L 7
     .rfl
     .exact absurd (hdn 7 5 _ rfl h ki) (by rw[hLi];decide)
    obtain⟨B,c,hq,hcv,xs,hx,hx1,heq⟩:=p30;have qmn:a'.tmps[30]?.getD mc=ng B 1 c:=gdq (eo30.trans hq);clear eo30;refine q1a (base:=0) (cx:=cx) (t:=58) (e:=31) (m:=1) (lb:=1024) (m2:=2) (lb2:=1) (d:=(yx cx 31).getD ⟨.oth,0,0,[],ns⟩) (f:=FM) cxOk rfl qmi qmn ki ki ki ki ko ko hC.wt (qzt (HT77.out.mono hC.hi.ext (af _)) ko 0) hcv ko ?_;intro c9 T2 w9 hw2 hh2 hcv2 hr1 hr2;have hI:=HI5.out.hist hC.hi
    have hG:Grown W0 T2 w9 n7 ids b rs (I ⟨W.heap.size,0,V⟩):=⟨λj hj=>by
     by_cases hjn:j<n7
     .obtain⟨ys,g1,g2⟩:=hI j hjn;exact⟨ys,hr1 j ys hjn g1,g2.trans (by show _=I (Value.int O (if j<n7 then ids j else b));rw[if_pos hjn])⟩
     .obtain rfl:j=n7:=kg
      exact⟨xs,hr2 0 xs kg hx,hx1.trans (by show _=I (Value.int O (if j<j then ids j else b));rw[if_neg (Nat.lt_irrefl _)])⟩,xs,hr2 0 xs kg hx,λdp=>(heq dp).hist hC.wt hh2⟩
    exact⟨T2,⟨cur,hC.call hw2 hh2,hZ3.call hh2,hZ4.call hh2,hc0,(λh=>absurd (show L 7=nr from h) (by rw[nl7];decide))⟩,HPS 5 (v:=ng (I ⟨W.heap.size,0,V⟩) (n7+1) c9) (λ_ _ h=>qcw hC.wt hh2 h) ⟨_,c9,rfl,hcv2.mono (xq.refl _ _) (cr _),hG⟩⟩
   .cases oi ho;have h7:=qx.gdt (qh 7 nd);refine qx.qc.eq ?_ ⟨T',⟨cur,hC,hZ3,hZ4,hc0,hc1⟩,HQ 6 rfl⟩;go_simp
    all_goals(try exact⟨rfl,rfl⟩)
   .cases oi ho;obtain⟨lo31,eo31⟩:=qh 31 nd;have p31:=qi 5 kg lo31;have qtp:=qx.gpk (qh 32 nd) (qi 6 kg);obtain⟨B,c,hq,hcv,hG⟩:=p31;have qif:a'.tmps[31]?.getD mc=ng B (n7+1) c:=gdq (eo31.trans hq);clear eo31;have kc:W.cell? ⟨g7,7,V⟩=I (ng A7 n7 n7):=by rw[hC.bk.cell,hc0 hLi];exact H77.out
    have kf:W.frozen? ⟨g7,7,V⟩=ns:=hC.bk.frozen _;refine qx.qc.mono (R:=λv W'=>W'=W.setCell ⟨g7,7,V⟩ (ng B (n7+1) c)) ?_ (λv W' h=>?_)
    .go_simp
     all_goals(try simp only[qx.qc])
    .subst h;obtain⟨b1,b2⟩:=hC.set (k:=7) (r:=ng B (n7+1) c);have x:=hC.ext (k:=7) (r:=ng B (n7+1) c);have hs:W.heap.size<=(W.setCell ⟨g7,7,V⟩ (ng B (n7+1) c)).heap.size:=by rw[qz];exact af _
     exact⟨T',⟨_,b1,hZ3.set HN3.out,hZ4.set HN4.out,(λh=>by simp at h),λ_=>⟨B,c,hq,hcv.mono x (af _),hG.same x hs b2,by rw[hc0 hLi];exact congrArg _ hq.symm⟩⟩,HPS 7 (λ_ _ h=>q0x x hs b2 h) trivial⟩
  .intro L vals W zl hS;obtain⟨T',⟨cur,hC,hZ3,hZ4,hc0,hc1⟩,qi⟩:=hS;have hv0:vals 0=_:=qi 0 kg (zl 0 kg);have hv1:vals 1=_:=qi 1 kg (zl 1 kg);have hv2:vals 2=_:=qi 2 kg (zl 2 kg);have hv6:vals 6=_:=qi 6 kg (zl 6 kg);have hp3:=aa (qi 3 kg (zl 3 kg));have hp4:=aa (qi 4 kg (zl 4 kg));have hp5:=aa (qi 5 kg (zl 5 kg));obtain⟨B,c,h5,hcv,hG,hcur⟩:=hc1 (zl 7 kg);rw[h5] at hcur;subst hcur;have HX:Hid (EndAn W0 T5 w5 g7 g3 g4 ds rs n7 ids b W):=aa ⟨T',B,c,hC,hZ3,hZ4,hcv,hG⟩;clear hC hZ3 hZ4 hc0 hc1 qi hcv hG h5 zl;simp only[qx.puts,qx.zi,ay,dc,if_true,cq,df,hv0,hv1,hv2,hv6];clear hv0 hv1 hv2 hv6;simp[ez];go_wp2_with fail;go_meet;exact HX.out
 case rest=>
  obtain⟨T6,B,c6,hC,hZ3,hZ4,hcv,hgr⟩:=hcut.out;clear hcut;have hds:ds.size=8:=(zf HD5.out).trans ki;have kc:=qzn hC.bk (k:=7) (v:=ng B (n7+1) c6) (by rw[bt];simp[hds]);have HC:=aa hC;have HZ4:=aa hZ4;have HCV:=aa hcv;have HGR:=aa hgr;clear hC hZ3 hZ4 hcv hgr;have hcn:n7+1<=c6:=by obtain⟨A',n',c',e1,q,-⟩:=HCV.out.slc;cases e1;exact q
  have hBs:∃bb off,B=I ⟨bb,off,V⟩:=by
   obtain⟨A',n',c',e1,-,-,q1,q2⟩:=HCV.out.slc;cases e1;cases B with
   | none=>have:=q1 rfl;omega
   | some ad=>
     obtain⟨bb,off,sp⟩:=ad;have:=q2 _ rfl kg;simp only at this;subst this;exact⟨bb,off,rfl⟩
  obtain⟨bb,off,rfl⟩:=hBs;have HTD:Hid (TyValc W0 T6 wc 0 (.agg FE) (.agg ds)):=aa (qzz (zx HC.out.hi.ext HD5.out) ki 0);have HDS:=aa hds;by_cases qr5:16<n7+1
  .have hgt:(16:Int)<(n7:Int)+1:=kg;have hc1:1<=c6:=kg;have hcz:¬c6=1:=kg;have q0d:=HCV.out.cut (l:=1) (h:=n7+1) (m:=c6) kg kg (af _) (af _)
   have hcut1:CVc W0 T6 wc 0 (.sl 2 31 1025) (ng (I ⟨bb,off+25,V⟩) n7 (c6-1)):=by
    have e25:cx.tb.sz 31=25:=ki;rw[if_neg hcz,e25] at q0d;exact q0d
   have HCUT:=aa hcut1;have HC6z:=aa hcz;clear q0d hcut1 hds;go_wp2_with fail
   all_goals(try(exfalso;omega))
   refine(qx1 HC.out.wt HCUT.out kj).mono ?_;rintro e w8 ⟨⟨r,T8,rfl,hw8,hh8,hr8,he8⟩,A0,n0,hnr0⟩;obtain rfl:=jz hnr0;obtain rfl:=jl (he8 0);have HC8:=aa (HC.out.call hw8 hh8);have hds:=HDS.out;have kd:=qzn HC8.out.bk (k:=7) (v:=ng (I ⟨bb,off,V⟩) (n0+1) c6) (by rw[bt];simp[hds]);have kf:w8.frozen? ⟨g7,7,V⟩=ns:=HC8.out.bk.frozen _;clear kc hds;have x8:=HC8.out.ext (k:=7) (r:=ng A0 n0 n0);have hs8:w8.heap.size<=(w8.setCell ⟨g7,7,V⟩ (ng A0 n0 n0)).heap.size:=by rw[qz];exact af _
   have HC9:=aa (HC8.out.set (k:=7) (r:=ng A0 n0 n0));have HZ9:=aa ((HZ4.out.call hh8).set (p:=g7) (k:=7) (r:=ng A0 n0 n0) HN4.out);have HHAS:=aa ((HGR.out.drop HLT.out kg HC.out.wt hw8 hh8 he8 hr8).same x8 hs8 HC9.out.2);have hfit:CVc W0 T8 w8 0 (.sl 1 31 1024) (ng A0 n0 n0):=qzt ((hr8.fit (lb':=1024) kj (by have:=HN.out;omega)).le kj) kj 0
   have HTY:Hid (TyValc W0 T8 (w8.setCell ⟨g7,7,V⟩ (ng A0 n0 n0)) 0 (.agg FE) (.agg ((ds.setIfInBounds 7 (ng (I ⟨bb,off,V⟩) (n0+1) c6)).setIfInBounds 7 (ng A0 n0 n0)))):=aa (by
    rw[Array.setIfInBounds_setIfInBounds]
    exact zx x8 (qpe (zx hh8.ext HTD.out) ki hfit))
   have HHI:=aa (HH5.out.trans HC9.out.1.hi);have HC7:Hid (((ds.setIfInBounds 7 (ng (I ⟨bb,off,V⟩) (n0+1) c6)).setIfInBounds 7 (ng A0 n0 n0))[7]? = I (ng A0 n0 n0)):=aa (by rw[bt];simp[HDS.out]);clear hw8 hh8 hr8 he8 x8 hs8 hfit;go_upto_region 12 with(fail);clear kd kf;generalize w8.setCell ⟨g7,7,V⟩ (ng A0 n0 n0)=w9 at *;generalize (ds.setIfInBounds 7 (ng (I ⟨bb,off,V⟩) (n0+1) c6)).setIfInBounds 7 (ng A0 n0 n0)=fs at *;have HS:Hid ((ab.info? 82).map (·.size)=I fs.size):=aa (by rw[zf HTY.out];kernel_rfl);have HO:=aa (xx HTY.out);have HQ:Hid ((zB:Array ny).size=fs.size):=aa (by rw[zf HTY.out];kernel_rfl);have HX:=aa (qx8 fs HC9.out.1.wt HZ9.out HG4.out.1 HHI.out HG4.out.2);go_wp2_with (first|(refine bp rfl 82 (.tmp 7) rfl g7 rfl 82 fs (0,0) _ HC9.out.1.bk dt rfl HS.out ?_)|(refine br rfl 82 (.tmp 4) (.tmp 42) rfl rfl g4 fs rfl rfl 82 _ HZ9.out.bk HS.out HQ.out HO.out ?_));refine du (qze rfl _ _ g4 82 fs (0,0) _ rfl HX.out.2.2.2.2 dt rfl HS.out) rfl ?_;exact⟨fs,T8,A0,n0,n0,rfl,HX.out.1,HX.out.2.2.1,zx HX.out.2.1 HTY.out,HC7.out,HHAS.out.same HX.out.2.1 (by rw[dr];exact af _) HX.out.2.2.2.1⟩
  .have hgt:¬(16:Int)<(n7:Int)+1:=kg;have hfit:CVc W0 T6 wc 0 (.sl 1 31 1024) (ng (I ⟨bb,off,V⟩) (n7+1) c6):=(HCV.out.fit (lb':=1024) kj kg).le kj;have HTY:=aa (qpe HTD.out (k:=7) (ct:=.sl 1 31 1024) ki hfit);have HHI:=aa (HH5.out.trans HC.out.hi);have HC7:Hid ((ds.setIfInBounds 7 (ng (I ⟨bb,off,V⟩) (n7+1) c6))[7]? = I (ng (I ⟨bb,off,V⟩) (n7+1) c6)):=aa (by rw[bt];simp[hds]);clear hfit;go_upto_region 12 with(fail);clear kc hds;generalize ds.setIfInBounds 7 (ng (I ⟨bb,off,V⟩) (n7+1) c6)=fs at *;have HS:Hid ((ab.info? 82).map (·.size)=I fs.size):=aa (by rw[zf HTY.out];kernel_rfl);have HO:=aa (xx HTY.out);have HQ:Hid ((zB:Array ny).size=fs.size):=aa (by rw[zf HTY.out];kernel_rfl);have HX:=aa (qx8 fs HC.out.wt HZ4.out HG4.out.1 HHI.out HG4.out.2);go_wp2_with (first|(refine bp rfl 82 (.tmp 7) rfl g7 rfl 82 fs (0,0) _ HC.out.bk dt rfl HS.out ?_)|(refine br rfl 82 (.tmp 4) (.tmp 42) rfl rfl g4 fs rfl rfl 82 _ HZ4.out.bk HS.out HQ.out HO.out ?_));refine du (qze rfl _ _ g4 82 fs (0,0) _ rfl HX.out.2.2.2.2 dt rfl HS.out) rfl ?_;exact⟨fs,T6,_,n7+1,c6,rfl,HX.out.1,HX.out.2.2.1,zx HX.out.2.1 HTY.out,HC7.out,(HGR.out.has HLT.out).same HX.out.2.1 (by rw[dr];exact af _) HX.out.2.2.2.1⟩
end
open Go.RowKit Go.Great
section
variable {W0:nu}{T T':Nat->Prop}{w w':nu}{base:Nat}
def One(W0:nu)(T:Nat->Prop)(w:nu)(xs:Array ny)(v:ny):Prop:=∃B c,v=ng B 1 c/\CVc W0 T w 0 (.sl 2 31 1) (ng B 1 c)/\∃ys,zo cx W0 T w FM B 0 ys/\∀dp,jw cx.tb W0 T w (dp+1) FM xs ys
theorem One.hist{T2:Nat->Prop}{w2:nu}{xs:Array ny}{v:ny}(h:One W0 T w xs v)(hw:WTc W0 T w)(hh:zg T w nr T2 w2):One W0 T2 w2 xs v:=by
 obtain⟨B,c,h1,h2,ys,h3,h4⟩:=h;exact⟨B,c,h1,h2.mono hh.ext (af _),ys,h3.hist hh,λdp=>(h4 dp).hist hw hh⟩
theorem One.same{xs:Array ny}{v:ny}(h:One W0 T w xs v)(x:xq T w T' w')(hs:w.heap.size<=w'.heap.size)(hk:∀b,Bk W0 T b->w'.heap[b]? = w.heap[b]?):One W0 T' w' xs v:=by
 obtain⟨B,c,h1,h2,ys,h3,h4⟩:=h;exact⟨B,c,h1,h2.mono x (af _),ys,h3.same x hs hk,λdp=>(h4 dp).same x.sub hk⟩
def RecP(W0:nu)(T:Nat->Prop)(w:nu)(es ms:Array ny)(A:Option Addr)(n:Nat)(ids:Nat->Int)(b:Int)(E:Ending)(w':nu):Prop:=∃(T':Nat->Prop) (u v:ny),E=np (nq #[.agg es,zL,u,v])/\WTc W0 T' w'/\zg T w nr T' w' /\
 ((u=ng V 0 0/\∃(j:Nat) (xs:Array ny),j<n/\ids j=b/\(∀i,i<j->ids i≠b)/\zo cx W0 T w FM A j xs/\One W0 T' w' xs v) \/
  (v=ng V 0 0/\(∀i,i<n->ids i<b)/\One W0 T' w' ms u) \/
  (u=ng V 0 0/\v=ng V 0 0/\(∀i,i<n->ids i≠b)/\¬∀i,i<n->ids i<b))
theorem qct{P:ma}{fn:Func}{p q r s:Tmp}{ty:nz}(h:fn.results=#[.cell p ty,.tmp q,.tmp r,.tmp s])(tmps:Array ny)(w:nu)(g:Nat)(t:nz)(cs:Array ny)(fr:Nat×Nat)(d:TypeDesc)(hp:tmps.getD p mc=nj (I ⟨g,0,V⟩))(hg:w.heap[g]? = I (.cells cs t fr))
  (hu:P.underlying ty=I d) (hd:(match d with|.struct _|.array _ _=>nr|_=>ns)=nr) (hi:(P.info? ty).map (·.size)=I cs.size):(results fn tmps).run P w=.ok (nq #[.agg cs,tmps.getD q mc,tmps.getD r mc,tmps.getD s mc]) w:=by
 have hp':tmps[p]?.getD mc=nj (I ⟨g,0,V⟩):=by simpa using hp
 simp[results,h,hp',asAddr,run_loadVar_row w g t ty cs fr d hg hu hd hi]
def qy8(W0:nu)(T:Nat->Prop)(w:nu)(g2 gx g4:Nat)(es xs:Array ny)(k:Nat)(v:ny)(T':Nat->Prop)(W:nu):Prop:=match k with
 | 0=>v=.agg es
 | 1=>v=.agg xs
 | 2=>∃q,v=.slice (I ⟨q,0,V⟩) 1 1/\CVc W0 T' W 0 (.sl 2 31 1) (.slice (I ⟨q,0,V⟩) 1 1)/\zo cx W0 T' W FM (I ⟨q,0,V⟩) 0 xs
 | 3=>One W0 T' W xs v
 | 5=>v=.slice V 0 0
 | 6=>v=.slice V 0 0
 | 7=>One W0 T' W xs v
 | _=>True
def StRx(W0:nu)(T:Nat->Prop)(w:nu)(g2 gx g4:Nat)(es xs:Array ny)(L:Nat->Bool)(vals:Nat->ny)(W:nu):Prop:=∃(T':Nat->Prop),(∃cur:Array ny,qzv cx W0 T w g4 82 T' W cur/\yh T' W g2 82 es/\yh T' W gx 31 xs/\(cur.size=es.size/\(L 4=nr->cur=es)))/\∀k,k<8->L k=nr->qy8 W0 T w g2 gx g4 es xs k (vals k) T' W
theorem qhc(hw:WTc W0 T1 w1)(hh:zg T1 w1 nr T2 w2)(h:qy8 W0 T w g2 gx g4 es xs k v T1 w1):qy8 W0 T w g2 gx g4 es xs k v T2 w2:=by
 unfold qy8 at h ⊢
 split at h<;>first
  | exact h
  | trivial
  | exact h.hist hw hh
  | (obtain⟨q,h1,h2,h3⟩:=h;exact⟨q,h1,h2.mono hh.ext (af _),h3.hist hh⟩)
theorem q0a(x:xq T1 w1 T2 w2)(hs:w1.heap.size<=w2.heap.size)(hk:∀b,Bk W0 T1 b->w2.heap[b]? = w1.heap[b]?)(h:qy8 W0 T w g2 gx g4 es xs k v T1 w1):qy8 W0 T w g2 gx g4 es xs k v T2 w2:=by
 unfold qy8 at h ⊢
 split at h<;>first
  | exact h
  | trivial
  | exact h.same x hs hk
  | (obtain⟨q,h1,h2,h3⟩:=h;exact⟨q,h1,h2.mono x (af _),h3.same x hs hk⟩)
def qxq(W0:nu)(T:Nat->Prop)(w:nu)(g2 gx g4:Nat)(es xs:Array ny)(k:Nat)(v:ny)(T':Nat->Prop)(W:nu):Prop:=match k with
 | 0=>v=.agg es
 | 1=>v=.agg xs
 | 2=>∃q,v=.slice (I ⟨q,0,V⟩) 1 1/\CVc W0 T' W 0 (.sl 2 31 1) (.slice (I ⟨q,0,V⟩) 1 1)/\zo cx W0 T' W FM (I ⟨q,0,V⟩) 0 xs
 | 3=>One W0 T' W xs v
 | 5=>v=.slice V 0 0
 | 6=>One W0 T' W xs v
 | 7=>v=.slice V 0 0
 | _=>True
def StRy(W0:nu)(T:Nat->Prop)(w:nu)(g2 gx g4:Nat)(es xs:Array ny)(L:Nat->Bool)(vals:Nat->ny)(W:nu):Prop:=∃(T':Nat->Prop),(∃cur:Array ny,qzv cx W0 T w g4 82 T' W cur/\yh T' W g2 82 es/\yh T' W gx 31 xs/\(cur.size=es.size/\(L 4=nr->cur=es)))/\∀k,k<8->L k=nr->qxq W0 T w g2 gx g4 es xs k (vals k) T' W
theorem qiv(hw:WTc W0 T1 w1)(hh:zg T1 w1 nr T2 w2)(h:qxq W0 T w g2 gx g4 es xs k v T1 w1):qxq W0 T w g2 gx g4 es xs k v T2 w2:=by
 unfold qxq at h ⊢
 split at h<;>first
  | exact h
  | trivial
  | exact h.hist hw hh
  | (obtain⟨q,h1,h2,h3⟩:=h;exact⟨q,h1,h2.mono hh.ext (af _),h3.hist hh⟩)
theorem qt4(x:xq T1 w1 T2 w2)(hs:w1.heap.size<=w2.heap.size)(hk:∀b,Bk W0 T1 b->w2.heap[b]? = w1.heap[b]?)(h:qxq W0 T w g2 gx g4 es xs k v T1 w1):qxq W0 T w g2 gx g4 es xs k v T2 w2:=by
 unfold qxq at h ⊢
 split at h<;>first
  | exact h
  | trivial
  | exact h.same x hs hk
  | (obtain⟨q,h1,h2,h3⟩:=h;exact⟨q,h1,h2.mono x (af _),h3.same x hs hk⟩)
theorem q58(hw:WTc W0 T w)(he:TyValc W0 T w base (.agg FE) (.agg es))(hm:TyValc W0 T w base (.agg FM) (.agg ms)){b:Int}(h7:es[7]? = I (ng A n c))(h0:ms[0]? = I (U O 1))
  (h1:ms[1]? = I (U O b)) (hi:qyx W0 T w A n ids):Calls ab 22 #[.agg es,.agg ms] w (RecP W0 T w es ms A n ids b):=by
 obtain⟨v7,hv7,ht7⟩:=jd he (k:=7) (ct:=FE.getD 7 .any) ki;rw[h7] at hv7;cases hv7;have hn:=qjd ht7;have HB:=aa (qp (qp (zy w (.cells es 82)) (.cells ms 31)) (.cells zB 82));have HE2:Hid (mg (((w.alloc (.cells es 82)).alloc (.cells ms 31)).alloc (.cells zB 82)) w.heap.size 82 es):=aa (((mg.new w 82 es).alloc _).alloc _)
 have HE3:Hid (mg (((w.alloc (.cells es 82)).alloc (.cells ms 31)).alloc (.cells zB 82)) (w.heap.size+1) 31 ms):=aa (by
  have:=(mg.new (w.alloc (.cells es 82)) 31 ms).alloc (.cells zB 82)
  rwa [show(w.alloc (.cells es 82)).heap.size=w.heap.size+1 by simp] at this)
 have HE4:Hid (mg (((w.alloc (.cells es 82)).alloc (.cells ms 31)).alloc (.cells zB 82)) (w.heap.size+1+1) 82 zB):=aa (by
  have:=mg.new ((w.alloc (.cells es 82)).alloc (.cells ms 31)) 82 zB
  rwa [show((w.alloc (.cells es 82)).alloc (.cells ms 31)).heap.size=w.heap.size+1+1 by simp] at this)
 have HSE:Hid ((ab.info? 82).map (·.size)=I es.size):=aa (by rw[zf he];kernel_rfl);have HSM:Hid ((ab.info? 31).map (·.size)=I ms.size):=aa (by rw[zf hm];kernel_rfl);have HQE:Hid ((zB:Array ny).size=es.size):=aa (by rw[zf he];kernel_rfl);have hoE:=xx he;have hoM:=xx hm;have HOE:=aa hoE;have HOM:=aa hoM;have HW:=aa hw;have HM:=aa hm;have H7:=aa h7;have H0:=aa h0;have H1:=aa h1;have HI:=aa hi;have HN:=aa hn;have HNT:Hid (∀g,w.heap.size<=g->¬T g):=aa (λg hg h=>by have:=hw.lt h;omega);have HGE:Hid (W0.heap.size<=w.heap.size):=aa hw.size;clear hw he hm h7 h0 h1 hi hn ht7;go_enter Tryz.func22,Tryz.ntmps22;go_upto_region 1 with(fail);clear hoE hoM;generalize ((w.alloc (.cells es 82)).alloc (.cells ms 31)).alloc (.cells zB 82)=w1 at *;go_wp2_with (refine bp rfl 31 (.tmp 3) rfl (w.heap.size+1) rfl 31 ms (0,0) _ HE3.out bz rfl HSM.out ?_);refine(isres (k:=1) HOM.out H0.out _).mono ?_;rintro e w2 ⟨rfl,hb2⟩;have e58:decide ((1:Int)=2\/(1:Int)=3)=ns:=kj;rw[e58];have HB2:=aa (qg HB.out hb2.out);have HF2:=aa (HE2.out.call hb2.out);have HF3:=aa (HE3.out.call hb2.out);have HF4:=aa (HE4.out.call hb2.out);clear e58 hb2 HB HE2 HE3 HE4;have k0:=qzn HF3.out H0.out;have k7:=qzn HF2.out H7.out;have hG2:w.heap.size≠w.heap.size+1+1:=kg;have hG3:w.heap.size+1≠w.heap.size+1+1:=kg;have hGN:w.heap.size+1+1<w2.heap.size:=HF4.out.lt;have HG2:=aa hG2;have HG3:=aa hG3;have HGN:=aa hGN;have HGL:Hid (w.heap.size<=w.heap.size+1+1/\w.heap.size<=w.heap.size+1):=aa kg;clear hG2 hG3 hGN;generalize hg3:w.heap.size+1=g3 at *;generalize hg4:g3+1=g4 at *;clear hg3 hg4;go_wp2_with fail;go_loopg [58] n (λgg s58 wr=>∃j:Nat,j+gg=n/\s58=U O j/\Hid (Below w2.heap.size w2 wr/\∀i,i<j->ids i≠b))
 case atStart=>exact⟨0,kg,rfl,aa ⟨aj _ _,λi hi=>kg⟩⟩
 case round=>
  obtain⟨j,hj,rfl,HF⟩:=hrel;clear k0 k7;by_cases hjn:j<n
  .obtain⟨xs,hx,hx1⟩:=HI.out j hjn;obtain⟨bb,off,rfl,-,-,hxs,-,hxt⟩:=id hx;have HXX:=aa hx;have HSX:Hid ((ab.info? 31).map (·.size)=I xs.size):=aa (by rw[hxs];kernel_rfl);have HXS:Hid ((ab.info? 31).map (·.size)=I xs.toList.length):=aa (by rw[aw,hxs];kernel_rfl);have HXQ:Hid ((zA:Array ny).size=xs.size):=aa (by rw[hxs];kernel_rfl);have HXT:=aa hxt;have HXO:=aa (xx hxt);have HBr:=aa (qg HB2.out HF.out.1);have HXR:Hid (wr.rangeAt bb (off+j*25) xs.toList):=aa (hx.range (λb hb=>HBr.out.block b hb));have HZ:=aa (mg.new wr 31 zA);have HX1:=aa hx1;have hltz:(j:Int)<(n:Int):=kg;have hj0:(0:Int)<=(j:Int):=kg;have hn10:n<=1024:=HN.out;have e4:IntKind.i64.wrap ((j:Int)+1)=((j+1:Nat):Int):=by simp[di,dj,cz];omega
   clear hx hxs hxt hx1 hn10;go_upto_region 12 with(first|(refine gd rfl 31 (.tmp 60) rfl bb (off+j*25) rfl xs.toList _ HXR.out bz rfl HXS.out ?_)|(refine br rfl 31 (.tmp 10) (.tmp 61) rfl rfl wr.heap.size xs rfl rfl 31 zA HZ.out HXS.out HXQ.out HXO.out ?_));rw[fx];have HBy:=aa (qg HF.out.1 (zy wr (.cells xs 31)));have HKy:=aa (mg.new wr 31 xs);have HNX:Hid (wr.heap.size≠g4/\w.heap.size<=wr.heap.size):=aa ⟨by have:=HF.out.1.size;have:=HGN.out;omega,by have:=HBr.out.size;omega⟩;clear HZ HXR;generalize wr.alloc (.cells xs 31)=wy at *;generalize wr.heap.size=gx at *;have HY2:=aa (HF2.out.call HBy.out);have HY3:=aa (HF3.out.call HBy.out);have HY4:=aa (HF4.out.call HBy.out);have kx:=qzn HKy.out HX1.out;have km:=qzn HY3.out H1.out;by_cases hjb:ids j=b
   .rw[hjb] at kx;go_upto_region 13 with(fail);clear kx km;have HBw:=aa (qg HB2.out HBy.out);have HCw:Hid (qzv cx W0 T w g4 82 T wy zB):=aa ⟨(zh HW.out HBw.out).1,zk HW.out HBw.out,HNT.out _ HGL.out.1,HY4.out,HGL.out.1,HGE.out⟩;have qlf:Hid (yh T wy w.heap.size 82 es):=aa ⟨HNT.out _ (af _),HY2.out⟩;have HZxw:Hid (yh T wy gx 31 xs):=aa ⟨HNT.out _ HNX.out.2,HKy.out⟩;have HN2:=HG2;have HNx:Hid (gx≠g4):=aa HNX.out.1;have HJB:=aa hjb;have HJ2:Hid (∀i,i<j->ids i≠b):=aa HF.out.2;have HJN:=aa hjn;clear HF HBy HY2 HY3 HY4 HKy hjb;generalize hg2:w.heap.size=g2 at qlf HN2 ⊢;subst hg2;refine Reg9D.region 8 (StRx W0 T w w.heap.size gx g4 es xs) mixed ki (qx.qqq (n:=81) ki rfl) ?_ ?_ ?_
    .exact⟨T,⟨_,HCw.out.drew,⟨qlf.out.nt,qlf.out.bk⟩,⟨HZxw.out.nt,HZxw.out.bk⟩,HQE.out,λh=>by cases h⟩,λk _ h=>by cases h⟩
    .intro idx o hj ho L vals a' W hLi hS hw' qh hdn;obtain⟨T',⟨cur,hC,hZ2,hZx,hc1⟩,qi⟩:=hS;have HPS:=λ(i:Nat) {v:ny} {T2:Nat->Prop} {w2:nu} hm h=>yt (i:=i) (L:=L) (vals:=vals) (v:=v) (Ψ:=λk v=>qy8 W0 T w w.heap.size gx g4 es xs k v T' W) (Ψ':=λk v=>qy8 W0 T w w.heap.size gx g4 es xs k v T2 w2) qi hm h
     have HQ:=λ(i:Nat) {v:ny} h=>yt (i:=i) (L:=L) (vals:=vals) (v:=v) (Ψ:=λk v=>qy8 W0 T w w.heap.size gx g4 es xs k v T' W) (Ψ':=λk v=>qy8 W0 T w w.heap.size gx g4 es xs k v T' W) qi (λ_ _ h=>h) h
     have hj':idx=0\/idx=1\/idx=2\/idx=3\/idx=4\/idx=5\/idx=6\/idx=7:=kg;clear hj;rcases hj' with rfl|rfl|rfl|rfl|rfl|rfl|rfl|rfl
     .cases oi ho;have h2:=qx.gdt (qh 2 nd);refine uw (qzm rfl h2 hZ2.bk dt rfl HSE.out) ?_;exact⟨T',⟨cur,hC,hZ2,hZx,hc1⟩,HPS 0 (v:=.agg es) (λ_ _ h=>h) rfl⟩
     .cases oi ho;have h10:=qx.gdt (qh 10 nd);refine uw (qzm rfl h10 hZx.bk bz rfl HSX.out) ?_;exact⟨T',⟨cur,hC,hZ2,hZx,hc1⟩,HPS 1 (v:=.agg xs) (λ_ _ h=>h) rfl⟩
     .cases oi ho;have q36:=qx.gpk (qh 68 nd) (qi 1 kg);have hrT:=zx hC.hi.ext HXT.out;obtain⟨j1,j2,j3,j4⟩:=qcn hC.wt (e:=31) (f:=FM) ki kj ki ki hrT 1 (af _);refine uw (qdh (cx:=cx) (e:=31) (td:=(yx cx 31).getD ⟨.oth,0,0,[],ns⟩) cxOk rfl q36 ki ki (zf HXT.out) ko ko) ?_;exact⟨_,⟨cur,hC.call j1 j2,hZ2.call j2,hZx.call j2,hc1⟩,yt (i:=2) (L:=L) (vals:=vals) (v:=ng (I ⟨W.heap.size,0,V⟩) 1 1) (Ψ:=λk v=>qy8 W0 T w w.heap.size gx g4 es xs k v T' W) (Ψ':=λk v=>qy8 W0 T w w.heap.size gx g4 es xs k v (add T' W.heap.size) (W.alloc (.cells xs 31))) qi (λ_ _ h=>qhc hC.wt j2 h) ⟨W.heap.size,rfl,j3.mono (xq.refl _ _) (cr _),j4⟩⟩
     .cases oi ho;obtain⟨lo69,eo69⟩:=qh 69 nd;have p69:=qi 2 kg lo69;obtain⟨q,hq,hcv,hsr⟩:=p69;have h69:a'.tmps[69]?.getD mc=ng (I ⟨q,0,V⟩) 1 1:=gdq (eo69.trans hq);clear eo69;refine qx.qc.mono (R:=λv W'=>∃(T2:Nat->Prop),WTc W0 T2 W'/\zg T' W nr T2 W'/\One W0 T2 W' xs v) ?_ (λv W' h=>?_)
      .go_simp;refine(qx1 (lb:=1) hC.wt hcv kj).mono ?_;rintro e w5 ⟨⟨r,T2,rfl,hw2,hh2,hr2,he2⟩,A0,n0,hnr0⟩;obtain rfl:=jz hnr0;obtain rfl:n0=1:=jl (he2 0);obtain⟨ys,hx⟩:=jr (f:=FM) hw2 ki hr2 (j:=0) kg;exact⟨_,rfl,T2,hw2,hh2,A0,1,rfl,hr2.mono (xq.refl _ _) (cr _),ys,hx,λdp=>qyp (f:=FM) ki (he2 dp) kg (hsr.hist hh2) hx⟩
      .obtain⟨T2,hw2,hh2,hcp⟩:=h;exact⟨T2,⟨cur,hC.call hw2 hh2,hZ2.call hh2,hZx.call hh2,hc1⟩,HPS 3 (λ_ _ h=>qhc hC.wt hh2 h) hcp⟩
     .cases oi ho;have h4:=qx.gdt (qh 4 nd);have h67:=qx.gpk (qh 67 nd) (qi 0 kg);obtain⟨b1,b2,x⟩:=hC.row es;have hs:W.heap.size<=(W.setRow g4 es).heap.size:=by rw[dr];exact af _
      refine qzw rfl h4 h67 hC.bk HSE.out hc1.1 HOE.out ?_;exact⟨T',⟨es,b1,hZ2.row es HN2.out,hZx.row es HNx.out,rfl,λ_=>rfl⟩,HPS 4 (v:=mc) (λ_ _ h=>q0a x hs b2 h) trivial⟩
     .cases oi ho;refine qx.qc.eq ?_ ⟨T',⟨cur,hC,hZ2,hZx,hc1⟩,HQ 5 rfl⟩;go_simp
      all_goals(try exact⟨rfl,rfl⟩)
     .cases oi ho;refine qx.qc.eq ?_ ⟨T',⟨cur,hC,hZ2,hZx,hc1⟩,HQ 6 rfl⟩;go_simp
      all_goals(try exact⟨rfl,rfl⟩)
     .cases oi ho;obtain⟨lo70,eo70⟩:=qh 70 nd;have p70:=qi 3 kg lo70;obtain⟨B,c,hq,h3⟩:=p70;have h70:a'.tmps[70]?.getD mc=ng B 1 c:=gdq (eo70.trans hq);clear eo70;refine qx.qc.mono (R:=λv W'=>(v=ng B 1 c)/\W'=W) ?_ (λv W' h=>?_)
      .go_simp
       all_goals(first|exact⟨rfl,rfl⟩|skip)
      .obtain⟨hv,rfl⟩:=h;exact⟨T',⟨cur,hC,hZ2,hZx,hc1⟩,yt (i:=7) (L:=L) (vals:=vals) (v:=v) (Ψ:=λk v=>qy8 W0 T w w.heap.size gx g4 es xs k v T' W') (Ψ':=λk v=>qy8 W0 T w w.heap.size gx g4 es xs k v T' W') qi (λ_ _ h=>h) ⟨B,c,hv,h3⟩⟩
    .intro L vals W zl hS;obtain⟨T',⟨cur,hC,hZ2,hZx,hc1⟩,qi⟩:=hS;have hv0:vals 0=_:=qi 0 kg (zl 0 kg);have hv1:vals 1=_:=qi 1 kg (zl 1 kg);have hv5:vals 5=_:=qi 5 kg (zl 5 kg);have hv6:vals 6=_:=qi 6 kg (zl 6 kg);have hp2:=aa (qi 2 kg (zl 2 kg));have hp3:=aa (qi 3 kg (zl 3 kg));have hp7:=aa (qi 7 kg (zl 7 kg));obtain⟨hcs,hcur⟩:=hc1;rw[hcur (zl 4 kg)] at hC;obtain⟨B,c0,hB,hone⟩:=hp7.out;have HX:=aa (⟨_,_,rfl,hone⟩:One W0 T' W xs (ng B 1 c0));have HCB:=aa hC;clear hC hZ2 hZx hcs hcur hone qi zl hp2 hp3 hp7;simp only[hB,qx.puts,qx.zi,ay,dc,if_true,cq,df,hv0,hv1,hv5,hv6];clear hv0 hv1 hv5 hv6;simp[ez];go_wp2_with fail;refine du (qct rfl _ _ g4 82 es (0,0) _ rfl HCB.out.bk dt rfl HSE.out) rfl ?_;exact⟨T',zL,ng B 1 c0,rfl,HCB.out.wt,HCB.out.hi,.inl ⟨rfl,j,xs,HJN.out,HJB.out,HJ2.out,HXX.out,HX.out⟩⟩
   .have hjb':(ids j == b)=ns:=by simp[hjb]
    have HJB:=aa hjb;clear hjb;go_wp2_with fail;go_roundg (n-(j+1))
    case measure=>omega
    case rel=>exact⟨j+1,kg,kq,aa ⟨HBy.out,λi hi=>(gr.1 hi).elim (HF.out.2 i) (λe=>e ▸ HJB.out)⟩⟩
  .have xm:n=j:=kg;subst xm;have HBr:=aa (qg HB2.out HF.out.1);have HY2:=aa (HF2.out.call HF.out.1);have HY3:=aa (HF3.out.call HF.out.1);have HY4:=aa (HF4.out.call HF.out.1);have HALL:Hid (∀i,i<n->ids i≠b):=aa HF.out.2;have k7:=qzn HY2.out H7.out;go_wp2_with (refine bp rfl 31 (.tmp 3) rfl g3 rfl 31 ms (0,0) _ HY3.out bz rfl HSM.out ?_);refine(q2p (c:=c) (zh HW.out HBr.out).1 (HI.out.hist (zk HW.out HBr.out)) (by have:=HN.out;omega) HOM.out H1.out).mono ?_;rintro e w4 ⟨⟨d,rfl,hd⟩,hb4⟩;have HDD:=aa hd;have HBw:=aa (qg HBr.out hb4.out);have HV2:=aa (HY2.out.call hb4.out);have HV3:=aa (HY3.out.call hb4.out);have HV4:=aa (HY4.out.call hb4.out);have HCw:Hid (qzv cx W0 T w g4 82 T w4 zB):=aa ⟨(zh HW.out HBw.out).1,zk HW.out HBw.out,HNT.out _ HGL.out.1,HV4.out,HGL.out.1,HGE.out⟩;clear k7 hd hb4 HBr HY2 HY3 HY4 HF;cases d with
   | true=>
     have qlf:Hid (yh T w4 w.heap.size 82 es):=aa ⟨HNT.out _ (af _),HV2.out⟩;have HZxw:Hid (yh T w4 g3 31 ms):=aa ⟨HNT.out _ HGL.out.2,HV3.out⟩;go_upto_region 16 with(fail);clear HBw HV2 HV3 HV4;refine Reg9D.region 8 (StRy W0 T w w.heap.size g3 g4 es ms) mixed ki (qx.qqq (n:=81) ki rfl) ?_ ?_ ?_
     .exact⟨T,⟨_,HCw.out.drew,⟨qlf.out.nt,qlf.out.bk⟩,⟨HZxw.out.nt,HZxw.out.bk⟩,HQE.out,λh=>by cases h⟩,λk _ h=>by cases h⟩
     .intro idx o hj ho L vals a' W hLi hS hw' qh hdn;obtain⟨T',⟨cur,hC,hZ2,hZx,hc1⟩,qi⟩:=hS;have HPS:=λ(i:Nat) {v:ny} {T2:Nat->Prop} {w2:nu} hm h=>yt (i:=i) (L:=L) (vals:=vals) (v:=v) (Ψ:=λk v=>qxq W0 T w w.heap.size g3 g4 es ms k v T' W) (Ψ':=λk v=>qxq W0 T w w.heap.size g3 g4 es ms k v T2 w2) qi hm h
      have HQ:=λ(i:Nat) {v:ny} h=>yt (i:=i) (L:=L) (vals:=vals) (v:=v) (Ψ:=λk v=>qxq W0 T w w.heap.size g3 g4 es ms k v T' W) (Ψ':=λk v=>qxq W0 T w w.heap.size g3 g4 es ms k v T' W) qi (λ_ _ h=>h) h
      have hj':idx=0\/idx=1\/idx=2\/idx=3\/idx=4\/idx=5\/idx=6\/idx=7:=kg;clear hj;rcases hj' with rfl|rfl|rfl|rfl|rfl|rfl|rfl|rfl
      .cases oi ho;have h2:=qx.gdt (qh 2 nd);refine uw (qzm rfl h2 hZ2.bk dt rfl HSE.out) ?_;exact⟨T',⟨cur,hC,hZ2,hZx,hc1⟩,HPS 0 (v:=.agg es) (λ_ _ h=>h) rfl⟩
      .cases oi ho;have h3:=qx.gdt (qh 3 nd);refine uw (qzm rfl h3 hZx.bk bz rfl HSM.out) ?_;exact⟨T',⟨cur,hC,hZ2,hZx,hc1⟩,HPS 1 (v:=.agg ms) (λ_ _ h=>h) rfl⟩
      .cases oi ho;have qji:=qx.gpk (qh 77 nd) (qi 1 kg);have hrT:=zx hC.hi.ext HM.out;obtain⟨j1,j2,j3,j4⟩:=qcn hC.wt (e:=31) (f:=FM) ki kj ki ki hrT 1 (af _);refine uw (qdh (cx:=cx) (e:=31) (td:=(yx cx 31).getD ⟨.oth,0,0,[],ns⟩) cxOk rfl qji ki ki (zf HM.out) ko ko) ?_;exact⟨_,⟨cur,hC.call j1 j2,hZ2.call j2,hZx.call j2,hc1⟩,yt (i:=2) (L:=L) (vals:=vals) (v:=ng (I ⟨W.heap.size,0,V⟩) 1 1) (Ψ:=λk v=>qxq W0 T w w.heap.size g3 g4 es ms k v T' W) (Ψ':=λk v=>qxq W0 T w w.heap.size g3 g4 es ms k v (add T' W.heap.size) (W.alloc (.cells ms 31))) qi (λ_ _ h=>qiv hC.wt j2 h) ⟨W.heap.size,rfl,j3.mono (xq.refl _ _) (cr _),j4⟩⟩
      .cases oi ho;obtain⟨lo78,eo78⟩:=qh 78 nd;have p78:=qi 2 kg lo78;obtain⟨q,hq,hcv,hsr⟩:=p78;have h78:a'.tmps[78]?.getD mc=ng (I ⟨q,0,V⟩) 1 1:=gdq (eo78.trans hq);clear eo78;refine qx.qc.mono (R:=λv W'=>∃(T2:Nat->Prop),WTc W0 T2 W'/\zg T' W nr T2 W'/\One W0 T2 W' ms v) ?_ (λv W' h=>?_)
       .go_simp;refine(qx1 (lb:=1) hC.wt hcv kj).mono ?_;rintro e w5 ⟨⟨r,T2,rfl,hw2,hh2,hr2,he2⟩,A0,n0,hnr0⟩;obtain rfl:=jz hnr0;obtain rfl:n0=1:=jl (he2 0);obtain⟨ys,hx⟩:=jr (f:=FM) hw2 ki hr2 (j:=0) kg;exact⟨_,rfl,T2,hw2,hh2,A0,1,rfl,hr2.mono (xq.refl _ _) (cr _),ys,hx,λdp=>qyp (f:=FM) ki (he2 dp) kg (hsr.hist hh2) hx⟩
       .obtain⟨T2,hw2,hh2,hcp⟩:=h;exact⟨T2,⟨cur,hC.call hw2 hh2,hZ2.call hh2,hZx.call hh2,hc1⟩,HPS 3 (λ_ _ h=>qiv hC.wt hh2 h) hcp⟩
      .cases oi ho;have h4:=qx.gdt (qh 4 nd);have qkr:=qx.gpk (qh 76 nd) (qi 0 kg);obtain⟨b1,b2,x⟩:=hC.row es;have hs:W.heap.size<=(W.setRow g4 es).heap.size:=by rw[dr];exact af _
       refine qzw rfl h4 qkr hC.bk HSE.out hc1.1 HOE.out ?_;exact⟨T',⟨es,b1,hZ2.row es HG2.out,hZx.row es HG3.out,rfl,λ_=>rfl⟩,HPS 4 (v:=mc) (λ_ _ h=>qt4 x hs b2 h) trivial⟩
      .cases oi ho;refine qx.qc.eq ?_ ⟨T',⟨cur,hC,hZ2,hZx,hc1⟩,HQ 5 rfl⟩;go_simp
       all_goals(try exact⟨rfl,rfl⟩)
      .cases oi ho;obtain⟨lo79,eo79⟩:=qh 79 nd;have p79:=qi 3 kg lo79;obtain⟨B,c,hq,h3⟩:=p79;have h79:a'.tmps[79]?.getD mc=ng B 1 c:=gdq (eo79.trans hq);clear eo79;refine qx.qc.mono (R:=λv W'=>(v=ng B 1 c)/\W'=W) ?_ (λv W' h=>?_)
       .go_simp
        all_goals(first|exact⟨rfl,rfl⟩|skip)
       .obtain⟨hv,rfl⟩:=h;exact⟨T',⟨cur,hC,hZ2,hZx,hc1⟩,yt (i:=6) (L:=L) (vals:=vals) (v:=v) (Ψ:=λk v=>qxq W0 T w w.heap.size g3 g4 es ms k v T' W') (Ψ':=λk v=>qxq W0 T w w.heap.size g3 g4 es ms k v T' W') qi (λ_ _ h=>h) ⟨B,c,hv,h3⟩⟩
      .cases oi ho;refine qx.qc.eq ?_ ⟨T',⟨cur,hC,hZ2,hZx,hc1⟩,HQ 7 rfl⟩;go_simp
       all_goals(try exact⟨rfl,rfl⟩)
     .intro L vals W zl hS;obtain⟨T',⟨cur,hC,hZ2,hZx,hc1⟩,qi⟩:=hS;have hv0:vals 0=_:=qi 0 kg (zl 0 kg);have hv1:vals 1=_:=qi 1 kg (zl 1 kg);have hv5:vals 5=_:=qi 5 kg (zl 5 kg);have hv7:vals 7=_:=qi 7 kg (zl 7 kg);have hp2:=aa (qi 2 kg (zl 2 kg));have hp3:=aa (qi 3 kg (zl 3 kg));have hp6:=aa (qi 6 kg (zl 6 kg));obtain⟨hcs,hcur⟩:=hc1;rw[hcur (zl 4 kg)] at hC;obtain⟨B,c0,hB,hone⟩:=hp6.out;have HX:=aa (⟨_,_,rfl,hone⟩:One W0 T' W ms (ng B 1 c0));have HCB:=aa hC;clear hC hZ2 hZx hcs hcur hone qi zl hp2 hp3 hp6;simp only[hB,qx.puts,qx.zi,ay,dc,if_true,cq,df,hv0,hv1,hv5,hv7];clear hv0 hv1 hv5 hv7;simp[ez];go_wp2_with fail;refine du (qct rfl _ _ g4 82 es (0,0) _ rfl HCB.out.bk dt rfl HSE.out) rfl ?_;exact⟨T',ng B 1 c0,zL,rfl,HCB.out.wt,HCB.out.hi,.inr (.inl ⟨rfl,HDD.out.1 (by trivial),HX.out⟩)⟩
   | false=>
     have HX:=aa (HCw.out.row es);go_wp2_with (first|(refine bp rfl 82 (.tmp 2) rfl w.heap.size rfl 82 es (0,0) _ HV2.out dt rfl HSE.out ?_)|(refine br rfl 82 (.tmp 4) (.tmp 80) rfl rfl g4 es rfl rfl 82 zB HV4.out HSE.out HQE.out HOE.out ?_));refine du (qct rfl _ _ g4 82 es (0,0) _ rfl HX.out.1.bk dt rfl HSE.out) rfl ?_;exact⟨T,zL,zL,rfl,HX.out.1.wt,HX.out.1.hi,.inr (.inr ⟨rfl,rfl,HALL.out,λh=>by have:=HDD.out.2 h;cases this⟩)⟩
end
open Go.RowKit Go.Great
section
variable {W0:nu}{T T':Nat->Prop}{w w':nu}{base:Nat}
noncomputable abbrev FC:List CT:=((cx.tb.flat 51).getD [])
noncomputable abbrev FK:List CT:=((cx.tb.flat 84).getD [])
def qkn(W0:nu)(T:Nat->Prop)(w:nu)(A:Option Addr)(n:Nat)(f:Nat->ByteArray):Prop:=∀j,j<n->∃xs,zo cx W0 T w FK A j xs/\xs[0]? = I (nh (f j))
theorem nms_of(hw:WTc W0 T w)(h:CVc W0 T w base (.sl m 84 lb) (ng A n c)):∃f,qkn W0 T w A n f:=by
 have:∀j,∃s:ByteArray,j<n->∃xs,zo cx W0 T w FK A j xs/\xs[0]? = I (nh s):=λj=>by
  by_cases hj:j<n
  .obtain⟨xs,hx⟩:=jr (f:=FK) hw ki h hj;obtain⟨b,off,-,-,-,-,-,hty⟩:=id hx;obtain⟨u,hu,⟨s,rfl,-⟩⟩:=jd hty (k:=0) (ct:=.kp .str) ki;exact⟨s,λ_=>⟨xs,hx,hu⟩⟩
  .exact⟨⟨#[]⟩,λh=>absurd h hj⟩
 exact⟨λj=>Classical.choose (this j),λj hj=>Classical.choose_spec (this j) hj⟩
theorem qkn.hist{T2:Nat->Prop}{w2:nu}{A:Option Addr}{n:Nat}{f:Nat->ByteArray}(h:qkn W0 T w A n f)(hh:zg T w nr T2 w2):qkn W0 T2 w2 A n f:=λj hj=>by
 obtain⟨xs,h1,h2⟩:=h j hj;exact⟨xs,h1.hist hh,h2⟩
theorem qkn.same{A:Option Addr}{n:Nat}{f:Nat->ByteArray}(h:qkn W0 T w A n f)(x:xq T w T' w')(hs:w.heap.size<=w'.heap.size)(hk:∀b,Bk W0 T b->w'.heap[b]? = w.heap[b]?):qkn W0 T' w' A n f:=λj hj=>by
 obtain⟨xs,h1,h2⟩:=h j hj;exact⟨xs,h1.same x hs hk,h2⟩
theorem nms_eq{d:Nat}{f:Nat->ByteArray}(hw:WTc W0 T w)(h:xn cx.tb W0 T w (d+1) (.sl m 84 lb) (ng A n c) (ng B n' c'))(hc:CVc W0 T w base (.sl m2 84 lb2) (ng B n' c'))(hi:qkn W0 T w A n f):qkn W0 T w B n' f:=λj hj=>by
 have hn:=jl h;subst hn;obtain⟨xs,h1,h2⟩:=hi j hj;obtain⟨ys,h3⟩:=jr (f:=FK) hw ki hc hj;have he:=qyp (f:=FK) ki h hj h1 h3;obtain⟨b,off,-,-,-,hz,-,hty⟩:=id h3;refine⟨ys,h3,?_⟩;have hy:ys[0]? = I (ys[0]'(by rw[hz];decide)):=ak _;have:=(he.2.2 0 (.kp .str) _ _ ki h2 hy).eq rfl;rw[hy,<-this]
def IxP(n:Nat)(f:Nat->ByteArray)(s:ByteArray)(E:Ending):Prop:=(∃j:Nat,E=np (U O (j:Int))/\j<n/\f j=s/\∀i,i<j->f i≠s)\/(E=np (U O (-1))/\∀i,i<n->f i≠s)
theorem index_(hw:WTc W0 T w)(hone:cs.all (·.oneCell')=nr){f:Nat->ByteArray}(h1:cs[1]? = I (ng A n c))(hi:qkn W0 T w A n f)(hn:n<=1048576)(s:ByteArray) :
  Calls ab 18 #[.agg cs,nh s] w λe w'=>IxP n f s e/\Hid (Below w.heap.size w w'):=by
 have HB:=aa (zy w (.cells cs 51));have HI:=aa hi;have k1:(w.alloc (.cells cs 51)).cell? ⟨w.heap.size,1,V⟩=I (ng A n c):=by rw[(mg.new w 51 cs).cell];exact h1
 have K1:=aa k1;clear hi h1 k1;go_enter Tryz.func18,Tryz.ntmps18;go_upto_region 1 with(fail);have k1:=K1.out;clear hone K1;generalize w.alloc (.cells cs 51)=w1 at *;go_wp2_with fail;go_loopg [10] n (λgg s10 wr=>∃j:Nat,j+gg=n/\s10=U O j/\Hid (Below w.heap.size w wr/\∀i,i<j->f i≠s))
 case atStart=>exact⟨0,kg,rfl,aa ⟨HB.out,λi hi=>kg⟩⟩
 case round=>
  obtain⟨j,hj,rfl,HF⟩:=hrel;clear k1;by_cases hjn:j<n
  .obtain⟨xs,hx,hx1⟩:=HI.out j hjn;obtain⟨bb,off,rfl,-,-,hxs,-,hxt⟩:=id hx;have HXS:Hid ((ab.info? 84).map (·.size)=I xs.toList.length):=aa (by rw[aw,hxs];kernel_rfl);have HXQ:Hid ((zE:Array ny).size=xs.size):=aa (by rw[hxs];kernel_rfl);have HXO:=aa (xx hxt);have HXR:Hid (wr.rangeAt bb (off+j*13) xs.toList):=aa (hx.range (λb hb=>HF.out.1.block b hb));have HZ:=aa (mg.new wr 84 zE);have HX1:=aa hx1;have hltz:(j:Int)<(n:Int):=kg;have hj0:(0:Int)<=(j:Int):=kg;have e4:IntKind.i64.wrap ((j:Int)+1)=((j+1:Nat):Int):=by simp[di,dj,cz];omega
   clear hx hxs hxt hx1;go_upto_region 4 with(first|(refine gd rfl 84 (.tmp 13) rfl bb (off+j*13) rfl xs.toList _ HXR.out Tryz.underlying84 rfl HXS.out ?_)|(refine br rfl 84 (.tmp 6) (.tmp 14) rfl rfl wr.heap.size xs rfl rfl 84 _ HZ.out HXS.out HXQ.out HXO.out ?_));rw[fx];have HBy:=aa (qg HF.out.1 (zy wr (.cells xs 84)));have kx:=qzn (mg.new wr 84 xs) HX1.out;clear HZ HXR;generalize wr.alloc (.cells xs 84)=wy at *;generalize wr.heap.size=gx at *;by_cases hjb:f j=s
   .have HJB:=aa hjb;rw[hjb] at kx;clear hjb;go_wp2_with fail;go_ret;exact⟨.inl ⟨j,rfl,hjn,HJB.out,HF.out.2⟩,HBy⟩
   .have hjb':((f j).toList == s.toList)=ns:=by rw[beq_eq_false_iff_ne,zz,zz];exact λe=>hjb (ByteArray.ext (Array.toList_inj.1 e))
    have HJB:=aa hjb;go_wp2_with fail;go_roundg (n-(j+1))
    case measure=>omega
    case rel=>exact⟨j+1,kg,kq,aa ⟨HBy.out,λi hi=>(gr.1 hi).elim (HF.out.2 i) (λe=>e ▸ HJB.out)⟩⟩
  .have xm:n=j:=kg;subst xm;go_wp2_with fail;go_ret;exact⟨.inr ⟨rfl,HF.out.2⟩,aa HF.out.1⟩
end
open Go.RowKit
def qdq(E:List nz):CT->Bool
 | .sl _ e _=>E.contains e
 | .cs _ e _=>E.contains e
 | .kp (.sl e _)=>E.contains e
 | .pt _ _=>ns
 | .fn _ _ _=>ns
 | .mp _ _=>ns
 | _=>nr
def qw3(E:List nz):PT->Bool
 | .one ct=>qdq E ct
 | .agg l=>l.all (qdq E)
 | .con _=>nr
def qak(tb:yg)(E:List nz):Bool:=E.all λe=>match tb.flat e with
 | some l=>l.all (qdq E)
 | none=>nr
def qxc(w:nu)(T:Nat->Prop)(E:List nz):Nat->Prop:=λb=>T b/\∃cs e fr,w.heap[b]? = I (.cells cs e fr)/\E.contains e=nr
section
variable {P:ma}{cx:Cx}{tb:yg}{W0:nu}{T T':Nat->Prop}{w w':nu}{E:List nz}{base:Nat}
theorem q09(hl:E.contains e=nr)(h:quv tb W0 T w base m e lb v):quv tb W0 (qxc w T E) w base m e lb v:=by
 rcases h with h|h|⟨b,off,n,c,h1,h2,h3,h4,h5,h6,h7,h8,h9⟩
 .exact .inl h
 .exact .inr (.inl h)
 .obtain⟨cs,fr,r1,r2⟩:=id h9;exact .inr (.inr ⟨b,off,n,c,h1,h2,h3,h4,⟨h5,cs,e,fr,r1,hl⟩,h6,h7,h8,h9⟩)
theorem qey(hl:qdq E ct=nr)(h:CV tb W0 T w base ct v):CV tb W0 (qxc w T E) w base ct v:=by
 cases ct with
 | int k lo hi=>exact h
 | bool=>exact h
 | str lb=>exact h
 | sl m e lb=>
   exact q09 hl h
 | pt m t=>cases hl
 | fn fs l m=>cases hl
 | idx d=>exact h
 | fz b=>cases b<;>exact h
 | cs q e lb=>
   rcases h with h|⟨b,off,n,c,cs,fr,h1,h2,h3,h4,h5,h6,h7,h8,h9,h10⟩
   .exact .inl h
   .exact .inr ⟨b,off,n,c,cs,fr,h1,h2,h3,h4,⟨h5,cs,e,fr,h9,hl⟩,h6,h7,h8,h9,h10⟩
 | mp k v=>cases hl
 | tf b=>exact h
 | sq=>exact h
 | kp k=>cases k with
   | sl e lb=>exact q09 hl h
   | int k lo hi=>exact h
   | str=>exact h
 | any=>exact h
theorem q26(hw:WT tb W0 T w)(hE:qak tb E=nr):WT tb W0 (qxc w T E) w:=by
 refine⟨hw.size,hw.alien,λb hb=>hw.home b hb.1,λb hb=>?_,λb hb=>hw.ix b hb.1⟩;obtain⟨hT,cs,e,fr,h1,h2⟩:=hb;obtain⟨cs',e',fr',l,q1,q2,q3,q4,q5⟩:=hw.typed b hT;rw[h1] at q1;injection q1 with q1;injection q1 with r1 r2 r3;subst r1;subst r2;subst r3;refine⟨cs,e,fr,l,h1,q2,q3,q4,λi v hv=>?_⟩;obtain⟨ct,p1,p2⟩:=q5 i v hv;refine⟨ct,p1,qey ?_ p2⟩;have he:=ao.1 hE e (by simpa using h2);rw[q3] at he;exact ao.1 he ct (cm p1)
theorem q1k{p:PT}(hl:qw3 E p=nr)(h:zq tb W0 T w base p v):zq tb W0 (qxc w T E) w base p v:=by
 cases p with
 | one ct=>exact qey hl h
 | agg l=>
   obtain⟨cs,h1,h2,h3⟩:=h;exact⟨cs,h1,h2,λi ct u hi hu=>qey (ao.1 hl ct (cm hi)) (h3 i ct u hi hu)⟩
 | con c=>exact h
theorem qlt:∀{ps:List PT} {vs:List ny},ps.all (qw3 E)=nr->qqk tb W0 T w base ps vs->qqk tb W0 (qxc w T E) w base ps vs
 | [],[],_,_=>trivial
 | p::ps,v::vs,hl,h=>by
   rw[List.all_cons,ag] at hl;exact⟨q1k hl.1 h.1,qlt hl.2 h.2⟩
 | [],_::_,_,h=>h.elim
 | _::_,[],_,h=>h.elim
theorem qql{p:PT}(x:xq T w T' w')(h:zq tb W0 T w base p v):zq tb W0 T' w' base p v:=by
 cases p with
 | one ct=>exact CV.mono (ct:=ct) h x (af _)
 | agg l=>
   obtain⟨cs,h1,h2,h3⟩:=h;exact⟨cs,h1,h2,λi ct u hi hu=>(h3 i ct u hi hu).mono x (af _)⟩
 | con c=>exact h
theorem qh1(x:xq T w T' w'):∀{ps:List PT} {vs:List ny},qqk tb W0 T w base ps vs->qqk tb W0 T' w' base ps vs
 | [],[],_=>trivial
 | p::ps,v::vs,h=>⟨qql x h.1,qh1 x h.2⟩
 | [],_::_,h=>h.elim
 | _::_,[],h=>h.elim
theorem qpk(hw:WT tb W0 T w)(h1:zg (qxc w T E) w pu T1 w')(hw1:WT tb W0 T1 w') :
  WT tb W0 (λb=>T b\/T1 b) w'/\zg T w pu (λb=>T b\/T1 b) w'/\xq T1 w' (λb=>T b\/T1 b) w'/\∀b,b<w.heap.size->¬qxc w T E b->w'.heap[b]? = w.heap[b]?:=by
 have hlt:∀b,T b->b<w.heap.size:=λb hb=>hw.lt hb
 have hfr:∀b,b<w.heap.size->¬qxc w T E b->w'.heap[b]? = w.heap[b]?:=λb hb hn=>h1.keep b hb (.inr hn)
 have x1:xq T1 w' (λb=>T b\/T1 b) w':=⟨λb h=>.inr h,λ_ _ _ _ h=>h,λ_ _ _ _ _ _ h=>h,λ_ _ _ h=>h⟩
 have x0:xq T w (λb=>T b\/T1 b) w':=by
  refine⟨λb h=>.inl h,λb e n hb hr=>?_,λb cs e fr hb he hc=>?_,h1.ext.mp⟩
  .by_cases hf:qxc w T E b
   .exact h1.ext.row b e n hf hr
   .obtain⟨cs,fr,r1,r2⟩:=hr;exact⟨cs,fr,by rw[hfr b (hlt b hb) hf];exact r1,r2⟩
  .by_cases hf:qxc w T E b
   .exact h1.ext.fz b cs e fr hf he hc
   .rw[hfr b (hlt b hb) hf];exact hc
 refine⟨⟨hw1.size,hw1.alien,λb hb=>?_,λb hb=>?_,λb hb=>?_⟩,⟨x0,λb hb=>?_,h1.size,h1.os,h1.tape,h1.output,λb hb hk=>?_,λhp b hb hT=>?_⟩,x1,hfr⟩
 .rcases hb with hb|hb
  .exact hw.home b hb
  .exact hw1.home b hb
 .by_cases ht:T1 b
  .obtain⟨cs,e,fr,l,q1,q2,q3,q4,q5⟩:=hw1.typed b ht;exact⟨cs,e,fr,l,q1,q2,q3,q4,λi v hv=>by obtain⟨ct,p1,p2⟩:=q5 i v hv;exact⟨ct,p1,p2.mono x1 (af _)⟩⟩
  .have hT:T b:=hb.resolve_right ht;have hf:¬qxc w T E b:=λh=>ht (h1.ext.sub b h)
   obtain⟨cs,e,fr,l,q1,q2,q3,q4,q5⟩:=hw.typed b hT;exact⟨cs,e,fr,l,by rw[hfr b (hlt b hT) hf];exact q1,q2,q3,q4,λi v hv=>by obtain⟨ct,p1,p2⟩:=q5 i v hv;exact⟨ct,p1,p2.mono x0 (af _)⟩⟩
 .by_cases ht:T1 b
  .exact hw1.ix b ht
  .have hT:T b:=hb.resolve_right ht;have hf:¬qxc w T E b:=λh=>ht (h1.ext.sub b h)
   intro cs e fr l hc;rw[hfr b (hlt b hT) hf] at hc;exact hw.ix b hT cs e fr l hc
 .rcases hb with hb|hb
  .exact .inl hb
  .rcases h1.new b hb with h|h
   .exact .inl h.1
   .exact .inr h
 .exact h1.keep b hb (hk.imp id λh hf=>h hf.1)
 .by_cases hf:qxc w T E b
  .exact h1.kpt hp b hb hf
  .exact .same (hfr b hb hf)
theorem qoi{f:mb}{C:zu}(hC:qm P cx W0 f C)(hE:qak cx.tb E=nr)(hp:C.ps.all (qw3 E)=nr)(hw:WT cx.tb W0 T w){args:Array ny}(hty:qqk cx.tb W0 T w w.heap.size C.ps args.toList)
  (hpre:∀l∈C.pre,0<=l.eval (valOf (zt C.ps args.toList))) :
  Calls P f args w λe w'=>∃v vs T',e=np v/\qu6 C.rs v vs/\qqk cx.tb W0 T' w' w.heap.size C.rs vs/\(∀l∈C.post,0<=l.eval (valOf (zt C.ps args.toList++zt C.rs vs)))/\qt5 C args.toList vs/\zg T w C.pu T' w'/\WT cx.tb W0 T' w' /\
   ∀b,b<w.heap.size->¬qxc w T E b->w'.heap[b]? = w.heap[b]?:=by
 refine(hC.2 (qxc w T E) w args (q26 hw hE) (qlt hp hty) hpre).mono ?_;rintro e w' ⟨v,vs,T1,h1,h2,h3,h4,h5,h6,h7⟩;obtain⟨j1,j2,j3,j4⟩:=qpk hw h6 h7;exact⟨v,vs,_,h1,h2,qh1 j3 h3,h4,h5,j2,j1,j4⟩
end
open Go.RowKit
section
variable {W0:nu}{T T' T'':Nat->Prop}{w W W':nu}{b off:Nat}
abbrev qtt:List nz:=[95,156]
theorem qeb:qak cx.tb qtt=nr:=ki
theorem zg.weak(h:zg T w pu T' W)(hp:Lv.le .kp pu=nr):zg T w .kp T' W:=
 ⟨h.ext,h.new,h.size,h.os,h.tape,h.output,λg hg hk=>h.keep g hg (hk.elim (λh=>by cases h) .inr),λ_ g hg hT=>by
   cases pu with
   | no=>cases hp
   | kp=>exact h.kpt rfl g hg hT
   | pure=>exact .same (h.keep g hg (.inl rfl))⟩
theorem zg.comp{pu':Lv}(h:zg T w pu T' W)(k:zg T' W pu' T'' W')(hp:Lv.le .kp pu=nr:=by rfl)(hq:Lv.le .kp pu'=nr:=by rfl):zg T w .kp T'' W':=(h.weak hp).trans (k.weak hq)
structure Kp(W0:World)(T:Nat->Prop)(w:World)(b:Nat)(T':Nat->Prop)(W:World):Prop where
 wt:WTc W0 T' W
 hist:zg T w .kp T' W
 blk:W.heap[b]? = w.heap[b]?
theorem Kp.refl(hw:WTc W0 T w):Kp W0 T w b T w:=⟨hw,zg.refl _ _ _,rfl⟩
theorem Kp.below(h:Kp W0 T w b T' W)(hb:b<w.heap.size)(hB:Below W.heap.size W W'):Kp W0 T w b T' W':=by
 obtain⟨h1,h2⟩:=zh h.wt hB;exact⟨h1,h.hist.comp (zk (PU:=nr) h.wt hB),(hB.block b (bf hb h.hist.size)).trans h.blk⟩
theorem Kp.call(h:Kp W0 T w b T' W)(hb:b<w.heap.size)(hne:¬qxc W T' qtt b)(hk:zg T' W pu T'' W')(hp:Lv.le .kp pu=nr)(hw:WTc W0 T'' W')(hfr:∀g,g<W.heap.size->¬qxc W T' qtt g->W'.heap[g]? = W.heap[g]?):Kp W0 T w b T'' W':=
 ⟨hw,h.hist.comp hk rfl hp,(hfr b (bf hb h.hist.size) hne).trans h.blk⟩
theorem qzc(hw:WTc W0 T w){base:Nat}(hp:CVc W0 T w base (.pt 1 80) (nj (I ⟨b,off,V⟩))):T b/\b<w.heap.size/\¬qxc w T qtt b:=by
 obtain⟨b',off',e,⟨h0,-⟩|⟨hT,-,te,hrow,hct⟩⟩:=hp
 .cases h0
 injection e with e;injection e with e;injection e with e1 e2 e3;subst e1 e2;refine⟨hT,hw.lt hT,λhf=>?_⟩;obtain⟨-,cs,te',fr,h1,h2⟩:=hf;obtain⟨cs',fr',h3,-⟩:=hrow;rw[h1] at h3;injection h3 with h3;injection h3 with r1 r2 r3;subst r2;have h4:=hct 1 (.sl 1 84 63) rfl
 have hmem:∀l:List CT,cx.tb.flat te'=I l->(CT.sl 1 84 63)∈l:=by
  intro l hl;simp only[yg.qym,hl] at h4;exact cm (by simpa using h4)
 have h5:te'=95\/te'=156:=by simpa[qtt] using h2
 rcases h5 with rfl|rfl
 .exact absurd (hmem [.str mf,.str mf,qy O,qy O,qy O,qy O,.str mf,.bool,qy O,.sl 0 156 1024] rfl) kj
 .exact absurd (hmem [qy O,qy O] rfl) kj
theorem evA_of(h:TyValc W0 T w w.heap.size (.agg [.str mf,.str mf,qy O,qy O,qy O,qy O,.str mf,.bool,qy O,.sl 0 156 1024]) (.agg cs)):∃s0 s1 n2 n3 n4 n5 s6 b7 n8 B m c,cs=qqc s0 s1 n2 n3 n4 n5 s6 b7 n8 (ng B m c):=by
 obtain⟨cs',e,hs,ha⟩:=h;cases e;obtain⟨l⟩:=cs;have hs:l.length=10:=hs;rcases l with _|⟨a0,_|⟨a1,_|⟨a2,_|⟨a3,_|⟨a4,_|⟨a5,_|⟨a6,_|⟨a7,_|⟨a8,_|⟨a9,_|⟨a10,l⟩⟩⟩⟩⟩⟩⟩⟩⟩⟩⟩<;>first|(simp at hs;done)|skip
 obtain⟨s0,rfl,-⟩:=ha 0 _ _ rfl rfl;obtain⟨s1,rfl,-⟩:=ha 1 _ _ rfl rfl;obtain⟨n2,rfl,-⟩:=ha 2 _ _ rfl rfl;obtain⟨n3,rfl,-⟩:=ha 3 _ _ rfl rfl;obtain⟨n4,rfl,-⟩:=ha 4 _ _ rfl rfl;obtain⟨n5,rfl,-⟩:=ha 5 _ _ rfl rfl;obtain⟨s6,rfl,-⟩:=ha 6 _ _ rfl rfl;obtain⟨b7,rfl⟩:=ha 7 _ _ rfl rfl;obtain⟨n8,rfl,-⟩:=ha 8 _ _ rfl rfl;obtain⟨B,m,c,rfl,-⟩:=yc (ha 9 _ _ rfl rfl);exact⟨s0,s1,n2,n3,n4,n5,s6,b7,n8,B,m,c,rfl⟩
def E25(n:Int):Prop:=0<=n/\n<=25
def qdd(n:Int):Prop:=-9223372036854775808<=n/\n<=9223372036854775807
theorem qyi{base:Nat}(h:CVc W0 T w base (.sl 1 e lb) v)(base':Nat):CVc W0 T w base' (.sl 1 e lb) v:=by
 rcases h with h|⟨h0,h⟩|⟨b,off,n,c,h1,h2,h3,h4,h5,h6,h7⟩
 .exact .inl h
 .cases h0
 .exact .inr (.inr ⟨b,off,n,c,h1,h2,h3,h4,h5,λh=>kg,h7⟩)
theorem qgi{base:Nat}(h:CVc W0 T w base (.pt 1 t) v)(base':Nat):CVc W0 T w base' (.pt 1 t) v:=by
 obtain⟨b,off,e,⟨h0,-⟩|⟨h1,h2,h3⟩⟩:=h
 .cases h0
 .exact⟨b,off,e,.inr ⟨h1,λh=>kg,h3⟩⟩
def CR(W0:nu)(T:Nat->Prop)(w:nu)(b:Nat)(v:ny)(W:nu):Prop:=∃T2 l k,Kp W0 T w b T2 W/\v=nq #[l,U O k]/\CVc W0 T2 W 0 (.sl 1 95 8192) l/\E25 k
def CL(W0:nu)(T:Nat->Prop)(w:nu)(b:Nat)(v:ny)(W:nu):Prop:=∃T2,Kp W0 T w b T2 W/\CVc W0 T2 W 0 (.sl 1 95 8192) v
def CE(v:ny):Prop:=∃k,v=U O k/\E25 k
abbrev evT:PT:=.agg [.str mf,.str mf,qy O,qy O,qy O,qy O,.str mf,.bool,qy O,.sl 0 156 1024]
theorem q6k{base:Nat}(h:TyValc W0 T w base evT v)(base':Nat):TyValc W0 T w base' evT v:=by
 obtain⟨cs,e,h1,h2⟩:=h;refine⟨cs,e,h1,λi ct u hi hu=>?_⟩;have h3:=h2 i ct u hi hu
 match i,hi with
 | 0,hi=>cases hi;exact h3
 | 1,hi=>cases hi;exact h3
 | 2,hi=>cases hi;exact h3
 | 3,hi=>cases hi;exact h3
 | 4,hi=>cases hi;exact h3
 | 5,hi=>cases hi;exact h3
 | 6,hi=>cases hi;exact h3
 | 7,hi=>cases hi;exact h3
 | 8,hi=>cases hi;exact h3
 | 9,hi=>cases hi;exact qv4 h3 kg _
theorem q5k(qgl:qm ab cx W0 134 qly)(hk:Kp W0 T w b T' W)(hw:WTc W0 T w)(hp:CVc W0 T w 0 (.pt 1 80) (nj (I ⟨b,off,V⟩)))(hl:CVc W0 T' W 0 (.sl 1 95 8192) l)
  (hev:TyValc W0 T w 0 (.agg [.str mf,.str mf,qy O,qy O,qy O,qy O,.str mf,.bool,qy O,.sl 0 156 1024]) (.agg cs)) :
  Calls ab 134 #[l,.agg cs] W λe W'=>∃v,e=np v/\CR W0 T w b v W':=by
 have hcn:=qzc hk.wt (hp.mono hk.hist.ext (af _));have hbl:=(qzc hw hp).2.1
 have hty:qqk cx.tb W0 T' W W.heap.size qly.ps [l,.agg cs]:=by
  refine⟨qyi hl _,?_,trivial⟩;obtain⟨cs',e,h1,h2⟩:=qql hk.hist.ext hev;refine⟨cs',e,h1,λi ct u hi hu=>?_⟩;have h3:=h2 i ct u hi hu
  match i,hi with
  | 0,hi=>cases hi;exact h3
  | 1,hi=>cases hi;exact h3
  | 2,hi=>cases hi;exact h3
  | 3,hi=>cases hi;exact h3
  | 4,hi=>cases hi;exact h3
  | 5,hi=>cases hi;exact h3
  | 6,hi=>cases hi;exact h3
  | 7,hi=>cases hi;exact h3
  | 8,hi=>cases hi;exact h3
  | 9,hi=>cases hi;exact qv4 h3 kg _
 refine(qoi qgl qeb ki hk.wt (args:=#[l,.agg cs]) hty (λl hl=>by cases hl)).mono ?_;rintro e W' ⟨v,vs,T2,rfl,hr,hrt,-,-,hh,hw2,hfr⟩;have hl2:=uk hrt
 obtain⟨x,y,rfl⟩:∃x y,vs=[x,y]:=by
  rcases vs with _|⟨a,_|⟨b,_|⟨c,l⟩⟩⟩<;>first|(simp[qly] at hl2;done)|exact⟨_,_,rfl⟩
 have hr:v=nq #[x,y]:=hr;subst hr;obtain⟨hx,⟨k,rfl,k1,k2⟩,-⟩:=hrt;exact⟨_,rfl,T2,x,k,hk.call hbl hcn.2.2 hh rfl hw2 hfr,rfl,qyi (base:=W.heap.size) hx 0,k1,k2⟩
theorem qvg{o:Nat}(hw:WTc W0 T w)(hT:T b)(hc:w.cell? ⟨b,o,V⟩=I v):w.frozen? ⟨b,o,V⟩=ns:=by
 obtain⟨cs,e,fr,l,h1,h2,-⟩:=hw.typed b hT
 have ho:o<cs.size:=by
  simp only[World.cell?,h1] at hc;exact(cl.1 hc).1
 simp only[World.frozen?,h1];rcases h2 with rfl|h2
 .simp
 .have:¬fr.1<=o:=kg;simp[this]
theorem kb_of(hw:WTc W0 T w)(hT:T b)(hrow:qbf w b te n)(hct:∀k ct,((cx.tb.flat 80).getD [])[k]? = I ct->cx.tb.qym te (off+k)=I ct):qia te=ns:=by
 obtain⟨cs,e,fr,l,h1,h2,h3,h4,h5⟩:=hw.typed b hT;obtain⟨cs',fr',q1,-⟩:=hrow;rw[h1] at q1;injection q1 with q1;injection q1 with r1 r2 r3;subst r2;exact ql6 (u:=80) ki h3 hct
theorem q0l{o:Nat}(hw:WTc W0 T w)(hT:T b)(hr:∃n,qbf w b te n)(hct:cx.tb.qym te o=I ct)(hnf:ct.frozen=ns)(hkf:ct.kept=ns)(hkb:qia te=ns)(hne:qum te=ns)(hu:w.cell? ⟨b,o,V⟩=I u)(hv:CVc W0 T w 0 ct v) :
  WTc W0 T (w.setCell ⟨b,o,V⟩ v)/\xq T w T (w.setCell ⟨b,o,V⟩ v)/\zg T w .kp T (w.setCell ⟨b,o,V⟩ v):=by
 obtain⟨cs,e,fr,l,h1,h2,h3,h4,h5⟩:=hw.typed b hT;obtain⟨n,cs',fr',q1,-⟩:=hr;rw[h1] at q1;injection q1 with q1;injection q1 with r1 r2 r3;subst r1;subst r2;subst r3;have hct':l[o%l.length]? = I ct:=by simpa[yg.qym,h3] using hct
 have hse:=aat w b o cs e fr v h1;have hh:(w.setCell ⟨b,o,V⟩ v).heap[b]? = I (.cells (cs.setIfInBounds o v) e fr):=by rw[hse];exact gh w b cs _ e fr h1
 have ho:∀k,k≠b->(w.setCell ⟨b,o,V⟩ v).heap[k]? = w.heap[k]?:=λk hk=>by rw[hse];exact cw w b k _ hk
 have hz:(w.setCell ⟨b,o,V⟩ v).heap.size=w.heap.size:=kq
 have hget:∀(i:Nat) (x:ny),(cs.setIfInBounds o v)[i]? = I x->cs[i]? = I x\/(i=o/\x=v):=by
  intro i x hx;rw[bt] at hx;split at hx
  .rename_i e1;split at hx
   .cases hx;exact .inr ⟨e1.symm,rfl⟩
   .cases hx
  .exact .inl hx
 obtain⟨j1,j2⟩:=hw.write hne hT h1 h3 kq hh (by rcases h2 with h2|h2;exact .inl h2;exact .inr (by simpa using h2)) ho hz
  (λi x hx=>by
    rcases hget i x hx with h|⟨rfl,rfl⟩
    .exact .inl h
    .exact .inr ⟨ct,hct',hv⟩)
  (.inr λi x hx=>by
    rcases hget i x hx with h|⟨rfl,rfl⟩
    .exact .inl h
    .exact .inr ⟨ct,hct',hnf⟩)
 exact⟨j1,j2,j2,λg h=>.inl h,su hz.symm,rfl,rfl,rfl,λg hg hk=>ho g (λe=>by subst e;exact(hk.resolve_left kj) hT),λ_ g hg hT'=>by
  by_cases hgb:g=b
  .subst hgb;intro cs0 e0 fr0 hc0;rw[h1] at hc0;cases hc0;refine⟨_,_,hh,λi hi=>?_⟩;rw[bt,if_neg (λhoi=>?_)];subst hoi;have:=cxOk.kept h3 hi hkb hct';rw[hkf] at this;cases this
  .exact .same (ho g hgb)⟩
def Cs(W0:nu)(T:Nat->Prop)(w:nu)(b off:Nat)(A6:Option Addr)(n6 c6:Nat)(W:nu):Prop:=∃T3,WTc W0 T3 W/\zg T w .kp T3 W/\W.cell? ⟨b,off+7,V⟩=I (ng A6 n6 c6)
theorem Cs.store{A6:Option Addr}{n6 c6 c7:Nat}(hk:Kp W0 T w b T' W)(hp:CVc W0 T w 0 (.pt 1 80) (nj (I ⟨b,off,V⟩)))(h6:W.cell? ⟨b,off+7,V⟩=I (ng A6 n6 c6))(h5:W.cell? ⟨b,off+6,V⟩=I u)(hl:CVc W0 T' W 0 (.sl 1 95 8192) (ng A7 n7 c7)) :
  Cs W0 T w b off A6 n6 c6 (W.setCell ⟨b,off+6,V⟩ (ng A7 n7 c7)):=by
 obtain⟨b',off',e,⟨h0,-⟩|⟨hT,-,te,hrow,hct⟩⟩:=hp.mono hk.hist.ext (af _)
 .cases h0
 injection e with e;injection e with e;injection e with e1 e2 e3;subst e1 e2
 have hne:qum te=ns:=by
  have h4:=hct 1 (.sl 1 84 63) rfl;by_cases ht2:te=34
  .subst ht2;exfalso;simp only[yg.qym,show cx.tb.flat 34=I [.fz .str,.fz .str,.fz .str,.fz (.int O),.fz (.int O),.fz (.int O)] from rfl] at h4;exact absurd (cm (by simpa using h4)) (show(CT.sl 1 84 63) ∉ ([.fz .str,.fz .str,.fz .str,.fz (.int O),.fz (.int O),.fz (.int O)]:List CT) by decide)
  .simp[qum,ht2]
 obtain⟨j1,j2,j3⟩:=q0l (o:=off+6) (ct:=.sl 1 95 8192) (v:=ng A7 n7 c7) hk.wt hT ⟨_,hrow⟩ (hct 6 (.sl 1 95 8192) rfl) kj kj (kb_of hk.wt hT hrow hct) hne h5 hl;refine⟨T',j1,hk.hist.comp j3,?_⟩;obtain⟨cs,fr,q1,-⟩:=hrow;have hse:=aat W b (off+6) cs te fr (ng A7 n7 c7) q1;have hh:(W.setCell ⟨b,off+6,V⟩ (ng A7 n7 c7)).heap[b]? = I (.cells (cs.setIfInBounds (off+6) (ng A7 n7 c7)) te fr):=by rw[hse];exact gh W b cs _ te fr q1
 rw[dx W b _ cs te fr q1] at h6;rw[dx _ b _ _ te fr hh,bt,if_neg (show ¬off+6=off+7 by omega)];exact h6
theorem q7i(qgg:qm ab cx W0 136 qri)(hk:Kp W0 T w b T' W)(hw:WTc W0 T w)(hp:CVc W0 T w 0 (.pt 1 80) (nj (I ⟨b,off,V⟩))){s0 s1:ByteArray}(hl:CVc W0 T' W 0 (.sl 1 95 8192) l)(z0:s0.size<=mf)(z1:s1.size<=mf) :
  Calls ab 136 #[l,nh s0,nh s1] W λe W'=>∃v,e=np v/\CL W0 T w b v W':=by
 have hcn:=qzc hk.wt (hp.mono hk.hist.ext (af _));have hbl:=(qzc hw hp).2.1;have hty:qqk cx.tb W0 T' W W.heap.size qri.ps [l,nh s0,nh s1]:=⟨qv4 (qyi hl W.heap.size) kg _,⟨s0,rfl,z0⟩,⟨s1,rfl,z1⟩,trivial⟩;refine(qoi qgg qeb ki hk.wt (args:=#[l,nh s0,nh s1]) hty (λl hl=>by cases hl)).mono ?_;rintro e W' ⟨v,vs,T2,rfl,hr,hrt,-,-,hh,hw2,hfr⟩;have hr:vs=[v]:=hr;subst hr;exact⟨v,rfl,T2,hk.call hbl hcn.2.2 hh rfl hw2 hfr,qyi (base:=W.heap.size) hrt.1 0⟩
abbrev que:PT:=.agg [.str mf,.str mf,qy O,.str mf,qy O,qy O,.sl 0 156 1024,qy O,qy O,.bool,.bool]
theorem qte{base:Nat}(h:TyValc W0 T w base que v)(base':Nat):TyValc W0 T w base' que v:=by
 obtain⟨cs,e,h1,h2⟩:=h;refine⟨cs,e,h1,λi ct u hi hu=>?_⟩;have h3:=h2 i ct u hi hu
 match i,hi with
 | 0,hi=>cases hi;exact h3
 | 1,hi=>cases hi;exact h3
 | 2,hi=>cases hi;exact h3
 | 3,hi=>cases hi;exact h3
 | 4,hi=>cases hi;exact h3
 | 5,hi=>cases hi;exact h3
 | 6,hi=>cases hi;exact qv4 h3 kg _
 | 7,hi=>cases hi;exact h3
 | 8,hi=>cases hi;exact h3
 | 9,hi=>cases hi;exact h3
 | 10,hi=>cases hi;exact h3
def CM(W0:nu)(T:Nat->Prop)(w:nu)(b:Nat)(v:ny)(W:nu):Prop:=∃T2 cs k,Kp W0 T w b T2 W/\v=nq #[.agg cs,U O k]/\TyValc W0 T2 W 0 que (.agg cs)/\qdd k
theorem q03(qgb:qm ab cx W0 135 qlq)(hk:Kp W0 T w b T' W)(hw:WTc W0 T w)(hp:CVc W0 T w 0 (.pt 1 80) (nj (I ⟨b,off,V⟩))){m:Int}(hl:CVc W0 T' W 0 (.sl 1 95 8192) l)(hm:qdd m) :
  Calls ab 135 #[l,U O m] W λe W'=>∃v,e=np v/\CM W0 T w b v W':=by
 have hcn:=qzc hk.wt (hp.mono hk.hist.ext (af _));have hbl:=(qzc hw hp).2.1;have hty:qqk cx.tb W0 T' W W.heap.size qlq.ps [l,U O m]:=⟨qv4 (qyi hl W.heap.size) kg _,⟨m,rfl,hm.1,hm.2⟩,trivial⟩;refine(qoi qgb qeb ki hk.wt (args:=#[l,U O m]) hty (λl hl=>by cases hl)).mono ?_;rintro e W' ⟨v,vs,T2,rfl,hr,hrt,-,-,hh,hw2,hfr⟩;have hl2:=uk hrt
 obtain⟨x,y,rfl⟩:∃x y,vs=[x,y]:=by
  rcases vs with _|⟨a,_|⟨b,_|⟨c,l⟩⟩⟩<;>first|(simp[qlq] at hl2;done)|exact⟨_,_,rfl⟩
 have hr:v=nq #[x,y]:=hr;subst hr;obtain⟨hx,⟨k,rfl,k1,k2⟩,-⟩:=hrt;have hx:TyValc W0 T2 W' W.heap.size que x:=hx;obtain⟨cs,rfl,-⟩:=id hx;exact⟨_,rfl,T2,cs,k,hk.call hbl hcn.2.2 hh rfl hw2 hfr,rfl,qte hx 0,k1,k2⟩
def CoPost(W0:nu)(T:Nat->Prop)(w:nu)(e:Ending)(w':nu):Prop:=∃k:Int,e=np (U O k)/\0<=k/\k<=25/\∃T',WTc W0 T' w'/\zg T w .kp T' w'
end
open Go.RowKit Go.Great
section
variable {W0:nu}{T T':Nat->Prop}{w w':nu}{base:Nat}
theorem qj1{b e:Nat}(hh:zg T w pu T' w')(hp:Lv.le .kp pu=nr)(hT:T b)(hb:b<w.heap.size)(hr:qbf w b e n)(hi:qig e i=nr):w'.cell? ⟨b,i,V⟩=w.cell? ⟨b,i,V⟩:=by
 obtain⟨cs,fr,h1,-⟩:=hr;obtain⟨cs',fr',h2,h3⟩:=(hh.weak hp).kpt rfl b hb hT cs e fr h1;rw[dx w b i cs e fr h1,dx w' b i cs' e fr' h2];exact h3 i hi
theorem qrc{tb:yg}{e b off:Nat}(h:CV tb W0 T w base (.sl m e lb) (ng (I ⟨b,off,V⟩) n c))(hn:0<n):b<W0.heap.size\/(T b/\∃k,qbf w b e k):=by
 rcases h with h|⟨-,h⟩|⟨b',off',k,c',e1,-,-,-,e5,-,-,-,e9⟩
 .cases h
 .cases h with
  | emp a=>omega
  | sl g hb hn hl hc hs hf ht=>exact .inl hb
 .injection e1 with e1;injection e1 with e1;injection e1 with e1;subst e1;exact .inr ⟨e5,_,e9⟩
theorem qyx.kept(hi:qyx W0 T w A n ids)(hw:WTc W0 T w)(hw':WTc W0 T' w')(hc:CVc W0 T w base (.sl m 31 lb) (ng A n c))(hh:zg T w pu T' w')(hp:Lv.le .kp pu=nr):qyx W0 T' w' A n ids:=λj hj=>by
 obtain⟨xs,⟨b,off,rfl,hbk,hlt,hsz,hcl,hty⟩,hx⟩:=hi j hj;refine⟨xs,⟨b,off,rfl,hbk.imp (hh.ext.sub b) id,bf hlt hh.size,hsz,λk hk=>?_,zx hh.ext hty⟩,hx⟩;rw[<-hcl k hk];rcases qrc hc kg with hb|⟨hT,n,hr⟩
 .exact cg ((hw'.alien b hb).trans (hw.alien b hb).symm)
 .exact qj1 hh hp hT hlt hr (by unfold qig;rw[show qia 31=nr from by kernel_rfl];rfl)
theorem xn.filt{tb:yg}{E:List nz}(hE:qak tb E=nr)(hw:WT tb W0 T w):∀{d:Nat} {ct:CT} {v v':ny} {b1 b2:Nat},xn tb W0 T w d ct v v'->CV tb W0 T w b1 ct v->CV tb W0 T w b2 ct v'->qdq E ct=nr->xn tb W0 (qxc w T E) w d ct v v'
 | 0,ct,v,v',b1,b2,h,_,_,_=>h
 | d+1,ct,v,v',b1,b2,h,h1,h2,hl=>by
   unfold xn at h ⊢;cases hq:ct.elt with
   | none=>rw[hq] at h;exact h
   | some e=>
     rw[hq] at h
     have hm:E.contains e=nr/\∃m lb,CV tb W0 T w b1 (.sl m e lb) v/\∃m lb,CV tb W0 T w b2 (.sl m e lb) v':=by
      cases ct with
      | sl m e' lb=>cases hq;exact⟨hl,m,lb,h1,m,lb,h2⟩
      | cs q e' lb=>cases hq;exact⟨hl,0,lb,h1.qxy,0,lb,h2.qxy⟩
      | kp k=>cases k with
        | sl e' lb=>cases hq;exact⟨hl,1,lb,h1,1,lb,h2⟩
        | int k lo hi=>cases hq
        | str=>cases hq
      | _=>cases hq
     obtain⟨hEe,m,lb,c1,m',lb',c2⟩:=hm;obtain⟨A,n,c,A',c',rfl,rfl,hr⟩:=h;refine⟨A,n,c,A',c',rfl,rfl,λj hj=>?_⟩;obtain⟨b,off,b',off',rfl,rfl,k1,k2,hc⟩:=hr j hj
     have hfil:∀{b off m lb c base:Nat},CV tb W0 T w base (.sl m e lb) (ng (I ⟨b,off,V⟩) n c)->Bk W0 (qxc w T E) b:=λ{b off m lb c base} hc=>by
      rcases qrc hc kg with hb|⟨hT,k,cs,fr,hr,-⟩
      .exact .inr hb
      .exact .inl ⟨hT,cs,e,fr,hr,hEe⟩
     refine⟨b,off,b',off',rfl,rfl,hfil c1,hfil c2,λk ct hk=>?_⟩;obtain⟨u,u',g1,g2,g3⟩:=hc k ct hk;have hsz:tb.sz e=((tb.flat e).getD []).length:=by unfold yg.sz;cases tb.flat e<;>rfl
     obtain⟨x,x1,x2⟩:=hw.load (c1.elem hj) hk;obtain⟨y,y1,y2⟩:=hw.load (c2.elem hj) hk;rw[hsz] at x1 y1;rw[x1] at g1;rw[y1] at g2;cases g1;cases g2
     have hlow:qdq E ct=nr:=by
      have h3:=ao.1 hE e (by simpa using hEe);cases hf:tb.flat e with
      | none=>rw[hf] at hk;simp at hk
      | some l=>
        rw[hf] at h3 hk;exact ao.1 h3 ct (cm hk)
     exact⟨_,_,x1,y1,xn.filt hE hw g3 x2 y2 hlow⟩
abbrev q3t:List nz:=[31,156,181,34]
theorem q3f:qak cx.tb q3t=nr:=ki
theorem jw.filt{d:Nat}{xs ys:Array ny}{b1 b2:Nat}(hw:WTc W0 T w)(h:jw cx.tb W0 T w d FM xs ys)(h1:TyValc W0 T w b1 (.agg FM) (.agg xs))(h2:TyValc W0 T w b2 (.agg FM) (.agg ys)):jw cx.tb W0 (qxc w T q3t) w d FM xs ys:=by
 obtain⟨xs',e,-,a1⟩:=h1;cases e;obtain⟨ys',e,-,a2⟩:=h2;cases e;exact⟨h.1,h.2.1,λk ct u u' g1 g2 g3=>xn.filt q3f hw (h.2.2 k ct u u' g1 g2 g3) (a1 k ct u g1 g2) (a2 k ct u' g1 g3) (ao.1 (show FM.all (qdq q3t)=nr by kernel_rfl) ct (cm g1))⟩
structure Fo(W0:World)(T:Nat->Prop)(w:World)(T':Nat->Prop)(w':World):Prop where
 ext:xq T w T' w'
 size:w.heap.size<=w'.heap.size
 keep:∀b,Bk W0 (qxc w T q3t) b->w'.heap[b]? = w.heap[b]?
theorem Fo.eqr{d:Nat}{ys:Array ny}(f:Fo W0 T w T' w')(hw:WTc W0 T w)(h:jw cx.tb W0 T w d FM xs ys)(h1:TyValc W0 T w b1 (.agg FM) (.agg xs))(h2:TyValc W0 T w b2 (.agg FM) (.agg ys)):jw cx.tb W0 T' w' d FM xs ys:=
 (h.filt hw h1 h2).same (λb hb=>f.ext.sub b hb.1) f.keep
theorem Fo.src(f:Fo W0 T w T' w')(hw:WTc W0 T w)(hc:CVc W0 T w base (.sl m 31 lb) (ng A n c))(hj:j<n)(h:zo cx W0 T w FM A j xs):zo cx W0 T' w' FM A j xs:=by
 obtain⟨b,off,rfl,hbk,hlt,hsz,hcl,hty⟩:=h;refine⟨b,off,rfl,hbk.imp (f.ext.sub b) id,bf hlt f.size,hsz,λk hk=>?_,zx f.ext hty⟩;rw[<-hcl k hk];refine cg (f.keep b ?_);rcases qrc hc kg with hb|⟨hT,k,cs,fr,hr,-⟩
 .exact .inr hb
 .exact .inl ⟨hT,cs,31,fr,hr,kj⟩
theorem Fo.has{b:Int}(f:Fo W0 T w T' w')(hw:WTc W0 T w)(hc:CVc W0 T w base (.sl m 31 lb) (ng A n c))(hr:TyValc W0 T w b1 (.agg FM) (.agg rs))(h:qxo W0 T w A n rs b):qxo W0 T' w' A n rs b:=by
 obtain⟨ids,j,xs,h1,h2,h3,h4,h5,h6⟩:=h;obtain⟨b',off,e,-,-,-,-,hty⟩:=id h5;exact⟨ids,j,xs,λi hi=>by obtain⟨ys,q1,q2⟩:=h1 i hi;exact⟨ys,f.src hw hc hi q1,q2⟩,h2,h3,h4,f.src hw hc h2 h5,λdp=>f.eqr hw (h6 dp) hr hty⟩
theorem q4g{b e:Nat}(hx:xq T w T' w')(hs:w.heap.size<=w'.heap.size)(ho:∀q,q≠b->q<w.heap.size->w'.heap[q]? = w.heap[q]?)(hlo:W0.heap.size<=b)(hr:qbf w b e k)(he:q3t.contains e=ns)(hw:WTc W0 T w):Fo W0 T w T' w':=by
 refine⟨hx,hs,λq hq=>?_⟩;rcases hq with⟨hT,cs,e',fr,h1,h2⟩|hq
 .refine ho q (λhqb=>?_) (hw.lt hT);subst hqb;obtain⟨cs',fr',h3,-⟩:=hr;rw[h1] at h3;injection h3 with h3;injection h3 with r1 r2 r3;rw[r2,he] at h2;cases h2
 .exact ho q kg (bf hq hw.size)
theorem qma{b o:Nat}{vs:List ny}(hw:WTc W0 T w)(hT:T b)(hr:qbf w b 84 (o+13))(ho:o%13=0)(hp:p+vs.length<=13)(hv:∀q v,vs[q]? = I v->∃ct,FK[p+q]? = I ct/\CVc W0 T w 0 ct v) :
  WTc W0 T (w.setCells b (o+p) vs)/\Fo W0 T w T (w.setCells b (o+p) vs)/\(∀i,(w.setCells b (o+p) vs).cell? ⟨b,i,V⟩=if o+p<=i/\i<o+p+vs.length then vs[i-(o+p)]? else w.cell? ⟨b,i,V⟩)/\(∀q,q≠b->(w.setCells b (o+p) vs).heap[q]? = w.heap[q]?) /\
   (w.setCells b (o+p) vs).heap.size=w.heap.size/\(w.setCells b (o+p) vs).os=w.os/\(w.setCells b (o+p) vs).tape=w.tape/\(w.setCells b (o+p) vs).output=w.output/\∃cs,(w.setCells b (o+p) vs).heap[b]? = I cs:=by
 obtain⟨cs,fr,h1,h2⟩:=hr;obtain⟨cs',b1,b2,b3⟩:=jh b 84 fr vs (o+p) w cs h1;obtain⟨r1,r2,r3,r4⟩:=ve b vs (o+p) w;have hother:=λk (hk:k≠b)=>xk b vs (o+p) w k hk
 obtain⟨cs1,e,fr1,lt,q1,q2,q3,q4,q5⟩:=hw.typed b hT;rw[h1] at q1;injection q1 with q1;injection q1 with q1 q6 q7;subst q1;subst q6;subst q7;have hlt:lt=FK:=by rw[show FK=((cx.tb.flat 84).getD []) from rfl,q3];rfl
 have hl13:lt.length=13:=by rw[hlt];kernel_rfl
 obtain⟨f1,f2⟩:=hw.write (w':=w.setCells b (o+p) vs) ki hT h1 q3 b2 b1 (by rcases q2 with h|h;exact .inl h;exact .inr kg) hother r1 (λi v hi=>by
  rw[b3 i] at hi;split at hi
  .rename_i hc;obtain⟨ct,g1,g2⟩:=hv _ v hi;refine .inr ⟨ct,?_,g2⟩;rw[hl13,hlt,<-g1];congr 1;have:i=(p+(i-(o+p)))+o:=kg
   conv=>lhs;rw[this]
   rw[Nat.add_mod,ho,Nat.add_zero,Nat.mod_mod,Nat.mod_eq_of_lt kg]
  .exact .inl hi) (.inl (by rw[hlt];kernel_rfl))
 refine⟨f1,q4g f2 (su r1.symm) (λq hq _=>hother q hq) (hw.home b hT) ⟨cs,fr,h1,h2⟩ ki hw,λi=>?_,hother,r1,r2,r3,r4,_,b1⟩;rw[dx _ b i _ 84 fr b1,dx w b i cs 84 fr h1,b3 i];by_cases hi:o+p<=i/\i<o+p+vs.length
 .rw[if_pos ⟨hi.1,hi.2,kg⟩,if_pos hi]
 .rw[if_neg (λh=>hi ⟨h.1,h.2.1⟩),if_neg hi]
theorem q2c(h:TyValc W0 T w b1 (.agg FE) (.agg es)):es.toList.length=8/\∀q v,es.toList[q]? = I v->∃ct,FK[5+q]? = I ct/\CVc W0 T w 0 ct v:=by
 have h:=qzz h ki 0;obtain⟨cs,e,hs,ha⟩:=h;cases e;have h8:FE.length=8:=ki;refine⟨by rw[aw,hs,h8],λq v hq=>?_⟩;have hq8:q<8:=by have:=(al.1 hq).1;rw[aw,hs,h8] at this;exact this
 rw[ax] at hq;have hm:=qx5 (l:=FK) (m:=FE) (o:=5) ki q (by rw[h8];exact hq8);have hl:q<FE.length:=by rw[h8];exact hq8
 rw[ah hl] at hm;obtain⟨ct,g1,g2⟩:=ea.1 hm;exact⟨ct,g1,CV.unk.1 (by rw[g2];exact ha q _ v (ah hl) hq)⟩
end
open Go.RowKit
section
variable {W0:nu}{T:Nat->Prop}{w:nu}
theorem qpi{b off:Nat}{base:Nat}(hw:WT cx.tb W0 T w)(hp:PV cx.tb W0 T w base 1 80 (nj (I ⟨b,off,V⟩))) :
  ∃(b2 off2 m c:Nat) (n:Int),w.cell? ⟨b,off+1,V⟩=I (ng (I ⟨b2,off2,V⟩) m c)/\w.cell? ⟨b,off+13,V⟩=I (U O n)/\0<=n/\n<m/\m<=63/\CV cx.tb W0 T w 0 (.sl 1 84 63) (ng (I ⟨b2,off2,V⟩) m c):=by
 have hfl:cx.tb.flat 80=I [.kp (.int O 0 268435456),.sl 1 84 63,.cs 1 34 128,.sl 0 123 0,.sl 0 3 0,qy O,.sl 1 95 8192,.sl 1 98 1024,.sl 1 69 8192,.sl 1 133 0,.sl 0 138 0,qy O,.int O 0 60,.idx 12]:=rfl;have h0:=hp;obtain⟨b',o',e,hp⟩:=hp;injection e with e;injection e with e;injection e with e1 e2 e3;subst e1;subst e2;rcases hp with⟨h,-⟩|⟨hT,-,te,⟨cs,fr,hr,hsz⟩,hct⟩
 .omega
 .have hsz':off+14<=cs.size:=by simpa[yg.sz,hfl] using hsz
  have hk:∀k ct,([.kp (.int O 0 268435456),.sl 1 84 63,.cs 1 34 128,.sl 0 123 0,.sl 0 3 0,qy O,.sl 1 95 8192,.sl 1 98 1024,.sl 1 69 8192,.sl 1 133 0,.sl 0 138 0,qy O,.int O 0 60,.idx 12]:List CT)[k]? = I ct->cx.tb.qym te (off+k)=I ct:=λk ct h=>hct k ct (by rw[hfl];exact h)
  obtain⟨cs2,e2,fr2,l,q1,q2,q3,q4,q5⟩:=hw.typed b hT;rw[hr] at q1;injection q1 with q1;injection q1 with r1 r2 r3;subst r1;subst r2;subst r3;have hl:∀i,cx.tb.qym te i=l[i%l.length]?:=λi=>by simp[yg.qym,q3]
  have k13:=hk 13 _ rfl;have k1:=hk 1 _ rfl;rw[hl] at k13 k1;obtain⟨-,-,n,A,m,c,x1,x2,x3,x4⟩:=hw.ix b hT cs te fr l hr q3 (off+13) 12 kg k13;rw[show off+13-12=off+1 by omega] at x3;obtain⟨ct,y1,y2⟩:=q5 (off+1) _ x3;rw[k1] at y1;cases y1;have hcell:∀i,w.cell? ⟨b,i,V⟩=cs[i]?:=λi=>dx w b i cs te fr hr
  have hA:∃b2 off2,A=I ⟨b2,off2,V⟩/\m<=63:=by
   rcases y2 with h|⟨h,-⟩|⟨b2,off2,n',c',h,-,hlb,-⟩
   .injection h with h1 h2 h3;omega
   .omega
   .injection h with h1 h2 h3;exact⟨b2,off2,h1,kg⟩
  obtain⟨b2,off2,rfl,hm⟩:=hA;exact⟨b2,off2,m,c,n,by rw[hcell];exact x3,by rw[hcell];exact x1,x2,x4,hm,y2⟩
theorem qhm{b off off2:Nat}{n:Int}(h1:w.cell? ⟨b,off+1,V⟩=I (ng (I ⟨b2,off2,V⟩) m c))(h2:w.cell? ⟨b,off+13,V⟩=I (U O n))(h3:0<=n)(h4:n<m)(h5:m<=63) :
  Calls ab 21 #[nj (I ⟨b,off,V⟩)] w λe w'=>e=np (nj (I ⟨b2,off2+n.toNat*13,V⟩))/\∃k,w'=w.drewN k:=by
 have c1:∀k,(w.drewN k).cell? ⟨b,off+1,V⟩=I (ng (I ⟨b2,off2,V⟩) m c):=λk=>h1
 have c2:∀k,(w.drewN k).cell? ⟨b,off+13,V⟩=I (U O n):=λk=>h2
 go_enter aed,Tryz.ntmps21;have g1:ab.underlying 38=I (.slice 84):=ki;obtain⟨k,rfl⟩:∃k:Nat,n=k:=⟨n.toNat,kg⟩;have h4':k<m:=kg;go_wp2
 go_quiet (fail)
 go_wp2;go_ret;exact⟨rfl,_,rfl⟩
def c21':zu:=⟨[.one (.pt 1 80)],[],[.one (.pt 1 84)],[],nr,V⟩
theorem q5u(h:WT cx.tb W0 T w)(k:Nat):WT cx.tb W0 T (w.drewN k)/\xq T w T (w.drewN k):=
 h.frame (af _) (λ_ _=>rfl) (λ_ _=>rfl) (λ_ _ _ h=>h)
theorem qr9:qm ab cx W0 21 c21':=by
 refine⟨⟨_,aed,ki,ki⟩,λT w args hw hty _=>?_⟩
 obtain⟨v,rfl⟩:∃v,args=#[v]:=by
  have:=uk hty;obtain⟨l⟩:=args;rcases l with _|⟨v,_|⟨u,l⟩⟩
  .cases this
  .exact⟨v,rfl⟩
  .simp[c21'] at this
 have hp:PV cx.tb W0 T w w.heap.size 1 80 v:=hty.1;obtain⟨b,off,rfl,-⟩:=id hp;obtain⟨b2,off2,m,c,n,h1,h2,h3,h4,h5,h6⟩:=qpi hw hp;refine(qhm h1 h2 h3 h4 h5).mono ?_;rintro e w' ⟨rfl,k,rfl⟩;obtain⟨d1,d2⟩:=q5u hw k;have hel:=(h6.elem (i:=n.toNat) kg).mono d2 (af _);have hsz:cx.tb.sz 84=13:=rfl;rw[hsz] at hel;refine⟨_,[_],T,rfl,rfl,⟨CV.qzg hel rfl w.heap.size,trivial⟩,(λl hl=>by cases hl),(λe he=>by cases he),⟨d2,λ_ h=>.inl h,af _,rfl,rfl,rfl,λ_ _ _=>rfl,λ_ _ _ _=>.same rfl⟩,d1⟩
theorem hand21:qm ab cx W0 21 c21:=by
 have e:c21=c21':=ki;rw[e];exact qr9
end
open Go.RowKit Go.Great
section
variable {W0:nu}{T T':Nat->Prop}{w w':nu}{base:Nat}
def qi9(ms rs:Array ny):Prop:=∃k id act st tm val txt A1 A2 A3 c1 c2 c3,rs=rsA k id act st tm val txt A1 A2 A3 c1 c2 c3/\ms[1]? = I (U O id)/\ms[2]? = I (U O act)/\(k=2\/k=3)/\(0<=st/\st<=100)/\(0<=tm/\tm<=268435456)/\(0<=val/\val<=2147483647) /\
 (txt.size<=mf/\Sq txt)/\(k=3->1<=st/\st<=25/\tm=0/\val=0/\txt.size=0)
def wid:CT->CT->Bool
 | .int k lo hi,.kp (.int k' lo' hi')=>decide (k=k'/\lo'<=lo/\hi<=hi')
 | .tf _,.bool=>nr
 | .sq,.str lb=>decide (mf<=lb)
 | a,b=>a.le b && qkj b
theorem wid_ok{a b:CT}(h:wid a b=nr)(hc:CVc W0 T w base a v):CVc W0 T w 0 b v:=by
 unfold wid at h;split at h
 .obtain⟨rfl,h1,h2⟩:=of_decide_eq_true h;obtain⟨n,rfl,h3,h4⟩:=hc;exact⟨n,rfl,kg,kg⟩
 .exact⟨_,hc⟩
 .obtain⟨s,rfl,h1,-⟩:=hc;exact⟨s,rfl,Nat.le_trans h1 (of_decide_eq_true h)⟩
 .simp only[ag] at h;exact qzt (hc.le h.1) h.2 0
theorem q1j{l m:List CT}(h:TyValc W0 T w base (.agg l) v)(hl:(decide (l.length=m.length) && (l.zip m).all λp=>wid p.1 p.2)=nr):TyValc W0 T w 0 (.agg m) v:=by
 simp only[ag,decide_eq_true_eq] at hl;obtain⟨cs,rfl,hs,ha⟩:=h;refine⟨cs,rfl,hs.trans hl.1,λi ct u hi hu=>?_⟩;have hi':i<l.length:=by rw[hl.1];exact(al.1 hi).1
 have h1:=ah hi';exact wid_ok (ao.1 hl.2 (l[i],ct) (List.mem_iff_getElem?.2 ⟨i,by rw[List.getElem?_zip_eq_some];exact⟨h1,hi⟩⟩)) (ha i _ u h1 hu)
theorem P31:P 31=.agg (FM.map CT.thaw):=ki
theorem q1w(h:TyValc W0 T w base (.agg FM) (.agg ms))(b:Nat):TyValc W0 T w b (P 31) (.agg ms):=by
 rw[P31];have h:=qzz h ki b;obtain⟨cs,e,hs,ha⟩:=h;cases e;refine⟨ms,rfl,by rw[List.length_map];exact hs,λi ct u hi hu=>?_⟩;rw[List.getElem?_map,ea] at hi;obtain⟨ct',h1,rfl⟩:=hi;exact(ha i ct' u h1 hu).thaw
theorem qav(h:TyValc W0 T w base (.agg FM) (.agg ms)):ms.size=25/\∃id act,ms[1]? = I (U O id)/\ms[2]? = I (U O act):=by
 obtain⟨u1,h1,⟨n1,rfl,-⟩⟩:=jd h (k:=1) (ct:=vw) ki;obtain⟨u2,h2,⟨n2,rfl,-⟩⟩:=jd h (k:=2) (ct:=vw) ki;exact⟨(zf h).trans ki,n1,n2,h1,h2⟩
theorem qol{k0:Int}(hr:TyValc W0 T w b1 (qkt k0 3) (.agg rs))(hk0:2<=k0)(hm:TyValc W0 T' w' b2 (.agg FM) (.agg ms))
  (h1:∀a b:Int,ms[1]? = I (U O a)->rs[1]? = I (U O b)->a=b) (h2:∀a b:Int,ms[2]? = I (U O a)->rs[2]? = I (U O b)->a=b)
  (h3:∀k st tm val txt,rs[0]? = I (U O k)->rs[4]? = I (U O st)->rs[6]? = I (U O tm)->rs[7]? = I (U O val)->rs[10]? = I (nh txt)->k=3->1<=st/\st<=25/\tm<=0/\val<=0/\txt.size=0):qi9 ms rs:=by
 obtain⟨k,id,act,st,tm,val,txt,A1,A2,A3,c1,c2,c3,rfl,q1,q2,q3,q4,q5,q6,q7,q8,q9,q10⟩:=rsp_of hr;obtain⟨-,id',act',m1,m2⟩:=qav hm;obtain rfl:=h1 _ _ m1 rfl;obtain rfl:=h2 _ _ m2 rfl;refine⟨k,id',act',st,tm,val,txt,A1,A2,A3,c1,c2,c3,rfl,m1,m2,kg,⟨q3,q4⟩,⟨q5,q6⟩,⟨q7,q8⟩,⟨q9,q10⟩,λh=>?_⟩;obtain⟨g1,g2,g3,g4,g5⟩:=h3 k st tm val txt rfl rfl rfl rfl rfl h;exact⟨g1,g2,kg,kg,g5⟩
theorem qeu{l:List ny}(h:l[i]? = I v):valOf l i=v:=by unfold valOf;rw[List.getD_eq_getElem?_getD,h];rfl
theorem hand_{f:mb}(hC:qm ab cx W0 f quk)(hw:WTc W0 T w){p:ny}(hp:CVc W0 T w base (.pt 1 80) p)(hm:TyValc W0 T w base (.agg FM) (.agg ms)) :
  Calls ab f #[p,.agg ms] w λe w'=>∃rs T',e=np (.agg rs)/\WTc W0 T' w'/\zg T w .kp T' w'/\TyValc W0 T' w' 0 (.agg FM) (.agg rs)/\qi9 ms rs:=by
 refine(hC.2 T w #[p,.agg ms] hw ⟨qgi hp _,q1w hm _,trivial⟩ (λl hl=>by cases hl)).mono ?_;rintro e w' ⟨v,vs,T',rfl,hr,hty,hpo,-,hh,hw'⟩;obtain rfl:vs=[v]:=hr;have hty:TyValc W0 T' w' w.heap.size (qkt 2 3) v:=hty.1;obtain⟨rs,rfl,hrs,-⟩:=id hty;refine⟨rs,T',rfl,hw',hh,q1j hty ki,?_⟩;have hmz:=(qav hm).1;have hrz:rs.size=25:=hrs
 have hL:zt quk.ps (#[p,.agg ms]:Array ny).toList++zt quk.rs [.agg rs]=p::(ms.toList++rs.toList):=by
  show [p]++((P 31).cells (.agg ms)++[])++((Value.agg rs).cells.toList++[])=_;rw[P31];simp[PT.cells,mw]
 rw[hL] at hpo;have am:∀i u,i<25->ms[i]? = I u->valOf (p::(ms.toList++rs.toList)) (i+1)=u:=λi u hi hu=>qeu (by rw[fq,cd (by simpa[hmz] using hi),ax];exact hu)
 have ar:∀i u,rs[i]? = I u->valOf (p::(ms.toList++rs.toList)) (i+26)=u:=λi u hu=>qeu (by rw[show i+26=(i+25)+1 by omega,fq,bq (by simp[hmz])];simpa[hmz] using hu)
 have hev:∀c ts,(⟨c,ts⟩:qf)∈quk.post->0<=c+jk (valOf (p::(ms.toList++rs.toList))) ts:=λc ts h=>hpo _ h
 refine qol hty kj hm (λa b g1 g2=>?_) (λa b g1 g2=>?_) (λk st tm val txt g0 g4 g6 g7 g10 h3=>?_)
 .have e1:=hev 0 [(-1,2),(1,27)] (by simp[quk]);have e2:=hev 0 [(1,2),(-1,27)] (by simp[quk]);simp only[jk,am 1 _ kg g1,ar 1 _ g2,meas] at e1 e2;omega
 .have e1:=hev 0 [(-1,3),(1,28)] (by simp[quk]);have e2:=hev 0 [(1,3),(-1,28)] (by simp[quk]);simp only[jk,am 2 _ kg g1,ar 2 _ g2,meas] at e1 e2;omega
 .have e1:=hev 250 [(-75,26),(-1,30)] (by simp[quk]);have e2:=hev 2 [(-1,26),(1,30)] (by simp[quk]);have e3:=hev 805306368 [(-268435456,26),(-1,32)] (by simp[quk]);have e4:=hev 6442450941 [(-2147483647,26),(-1,33)] (by simp[quk]);have e5:=hev 27670116110564327421 [(-9223372036854775807,26),(-1,36)] (by simp[quk]);simp only[jk,ar 0 _ g0,ar 4 _ g4,ar 6 _ g6,ar 7 _ g7,ar 10 _ g10,meas] at e1 e2 e3 e4 e5;subst h3;exact⟨kg,kg,kg,kg,kg⟩
theorem fail_(hC:qm ab cx W0 62 quf)(hw:WTc W0 T w)(hm:TyValc W0 T w base (.agg FM) (.agg ms)){er:Int}(her:1<=er/\er<=25) :
  Calls ab 62 #[.agg ms,U O er] w λe w'=>∃rs T',e=np (.agg rs)/\WTc W0 T' w'/\zg T w .pure T' w'/\TyValc W0 T' w' 0 (.agg FM) (.agg rs)/\qi9 ms rs:=by
 refine(hC.2 T w #[.agg ms,U O er] hw ⟨q1w hm _,⟨er,rfl,her.1,her.2⟩,trivial⟩ (λl hl=>by cases hl)).mono ?_;rintro e w' ⟨v,vs,T',rfl,hr,hty,hpo,-,hh,hw'⟩;obtain rfl:vs=[v]:=hr;have hty:TyValc W0 T' w' w.heap.size (qkt 3 3) v:=hty.1;obtain⟨rs,rfl,hrs,-⟩:=id hty;refine⟨rs,T',rfl,hw',hh,q1j hty ki,?_⟩;have hmz:=(qav hm).1;have hrz:rs.size=25:=hrs
 have hL:zt quf.ps (#[.agg ms,U O er]:Array ny).toList++zt quf.rs [.agg rs]=ms.toList++(.int O er::rs.toList):=by
  show((P 31).cells (.agg ms)++([U O er]++[]))++((Value.agg rs).cells.toList++[])=_;rw[P31];simp[PT.cells,mw]
 rw[hL] at hpo;have am:∀i u,i<25->ms[i]? = I u->valOf (ms.toList++(.int O er::rs.toList)) i=u:=λi u hi hu=>qeu (by rw[cd (by simpa[hmz] using hi),ax];exact hu)
 have ae:valOf (ms.toList++(.int O er::rs.toList)) 25=.int O er:=qeu (by rw[bq (by simp[hmz])];simp[hmz]);have ar:∀i u,rs[i]? = I u->valOf (ms.toList++(.int O er::rs.toList)) (i+26)=u:=λi u hu=>qeu (by rw[bq (by simp[hmz])];simp only[aw,hmz,show i+26-25=i+1 by omega,fq];simpa using hu)
 have hev:∀c ts,(⟨c,ts⟩:qf)∈quf.post->0<=c+jk (valOf (ms.toList++(.int O er::rs.toList))) ts:=λc ts h=>hpo _ h
 refine qol hty kj hm (λa b g1 g2=>?_) (λa b g1 g2=>?_) (λk st tm val txt g0 g4 g6 g7 g10 h3=>?_)
 .have e1:=hev 0 [(-1,1),(1,27)] (by simp[quf]);have e2:=hev 0 [(1,1),(-1,27)] (by simp[quf]);simp only[jk,am 1 _ kg g1,ar 1 _ g2,meas] at e1 e2;omega
 .have e1:=hev 0 [(-1,2),(1,28)] (by simp[quf]);have e2:=hev 0 [(1,2),(-1,28)] (by simp[quf]);simp only[jk,am 2 _ kg g1,ar 2 _ g2,meas] at e1 e2;omega
 .have e1:=hev 0 [(-1,25),(1,30)] (by simp[quf]);have e2:=hev 0 [(1,25),(-1,30)] (by simp[quf]);have e3:=hev 0 [(-1,32)] (by simp[quf]);have e4:=hev 0 [(-1,33)] (by simp[quf]);have e5:=hev 0 [(-1,36)] (by simp[quf]);simp only[jk,ae,ar 4 _ g4,ar 6 _ g6,ar 7 _ g7,ar 10 _ g10,meas] at e1 e2 e3 e4 e5;exact⟨kg,kg,kg,kg,kg⟩
def HdP(p:ny)(E:Ending):Prop:=∃f,f∈[91,92,93,94,95,96,97]/\E=np (.func (.func f) #[p] #[])
theorem q5q(b:Addr)(act:Int)(w:nu):Calls ab 63 #[nj (I b),U O act] w λe w'=>HdP (nj (I b)) e/\Hid (Below w.heap.size w w'):=by
 have hmf:∀(fn:Fn) (first cap:Array ny) (w:nu),(Instr.makeFunc fn first cap).run ab w=.ok (.func fn first cap) w:=λ_ _ _ _=>rfl
 go_enter Tryz.func63,Tryz.ntmps63;go_wp2_with fail
 all_goals(go_ret;exact⟨⟨_,kj,rfl⟩,aa (aj _ _)⟩)
end
end Sy
end Go.Proofs.YtmadfhgiaonnlaaGreatDoor
