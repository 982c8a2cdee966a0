import Derived.Test.YtmadfhgiaonnlaaGreatDoorPk10
open Array renaming getElem?_toList->ax,length_toList->aw,ext_getElem?->aal,getElem?_eq_some_iff->cl,getElem?_append_left->dz,getElem?_append_right->fh,ofFn->aek
open Go renaming setRow_other->cw,size_setRow->dr,setRow_heap->gh,wpList_load_row->bp,wpList_store_rowTo->br,cell_of_row->dx,heap_alloc_new->gy
open Go.Act renaming put->ez
open Go.Ending.returned renaming inj->jz
open Go.Lib renaming hid->aa
open Go.Proofs.Tryz renaming prog->ab,underlying31->bz,underlying82->dt
open Go.RowKit.Below renaming refl->aj
open Go.World renaming cell?_of_block->cg
open List renaming getElem?_eq_some_iff->al,getElem?_eq_getElem->ah,range->ay,drop_succ_cons->cq,drop_zero->df
open List.range renaming loop->dc
open Nat renaming le_refl->af,zero_add->bu,mod_eq_of_lt->iw,lt_of_lt_of_le->bf,add_assoc->gi,lt_trichotomy->pf,le_trans->cy
open Option renaming map_eq_some_iff->ea
open Bool renaming false->ns,true->nr
open Go renaming Program->ma,TypeId->nz,Value->ny,World->nu,undef->mc
open Go.Ending renaming returned->np
open Go.IntKind renaming i64->O
open Go.Value renaming bool->ni,int->U,pointer->nj,slice->ng,tuple->nq
open Option renaming none->V,some->I
open Go.Proofs.YtmadfhgiaonnlaaGreatDoor renaming Blk->mg
set_option maxRecDepth 100000
set_option maxHeartbeats 4000000
set_option linter.unusedVariables false
set_option linter.unusedSimpArgs false
namespace Go.Proofs.YtmadfhgiaonnlaaGreatDoor
namespace Sy
open Go.RowKit Go.Great
variable {a:Act}{cs cs1 es ms rs xs:Array ny}{s:ByteArray}{act ct:Int}{pu:Lv}{b c7 ca g4 g5 j k n n7 o off:Nat}{ids:Nat->Int}{T1:Nat->Prop}{A A7:Option Addr}{P:ma}{v:ny}{w1 w2:nu}
section
variable {W0:nu}{T T':Nat->Prop}{w w':nu}{base:Nat}
structure Ck(W0:World)(T:Nat->Prop)(w:World)(bx b2 off2 m c kk o2:Nat):Prop where
 tx:T bx
 rx:qbf w bx 80 14
 c1:w.cell? ⟨bx,1,V⟩=I (ng (I ⟨b2,off2,V⟩) m c)
 c13:w.cell? ⟨bx,13,V⟩=I (U O kk)
 lt:kk<m
 m63:m<=63
 o:off2+kk*13=o2
 kn:CVc W0 T w 0 (.sl 1 84 63) (ng (I ⟨b2,off2,V⟩) m c)
variable {bx b2 off2 m c kk o2:Nat}
theorem Ck.row(h:Ck W0 T w bx b2 off2 m c kk o2):T b2/\(∀j,j<m->qbf w b2 84 (off2+j*13+13))/\off2%13=0:=by
 have hz:cx.tb.sz 84=13:=ki;rcases h.kn with h1|⟨h0,-⟩|⟨b,off,n,c',h1,h2,h3,h4,h5,h6,h7,h8,h9⟩
 .cases h1
 .cases h0
 .injection h1 with e1 e2 e3;injection e1 with e1;injection e1 with e1 e4;subst e1;subst e2;subst e3;subst e4;rw[hz] at h8 h9;refine⟨h5,λj hj=>?_,h8⟩;obtain⟨cs,fr,q1,q2⟩:=h9;exact⟨cs,fr,q1,by have:=Nat.mul_le_mul_right 13 (show j+1<=c by omega);rw[Nat.add_mul] at this;omega⟩
theorem kp84{i:Nat}(ho:o%13=0)(hi:([0,2,5,6,7,8,9,10,11,12]:List Nat).contains i=nr)(h13:i<13):qig 84 (o+i)=nr:=by
 unfold qig;have h1:qti 84=I (13,[0,2,5,6,7,8,9,10,11,12]):=ki;have h2:(o+i)%13=i:=kg;rw[h1];simp only[h2,hi,Bool.or_true]
theorem Ck.mod(h:Ck W0 T w bx b2 off2 m c kk o2):o2%13=0:=by
 have:=h.row.2.2;have:=h.o;omega
theorem Ck.kept(h:Ck W0 T w bx b2 off2 m c kk o2)(hw:WTc W0 T w)(hh:zg T w pu T' w')(hp:Lv.le .kp pu=nr):Ck W0 T' w' bx b2 off2 m c kk o2/\w'.cell? ⟨bx,0,V⟩=w.cell? ⟨bx,0,V⟩ /\
  ∀j i,j<m->i<13->([0,2,5,6,7,8,9,10,11,12]:List Nat).contains i=nr->w'.cell? ⟨b2,off2+j*13+i,V⟩=w.cell? ⟨b2,off2+j*13+i,V⟩:=by
 obtain⟨r1,r2,r3⟩:=h.row;have hbx:=hw.lt h.tx;refine⟨⟨hh.ext.sub _ h.tx,hh.ext.row _ _ _ h.tx h.rx,?_,?_,h.lt,h.m63,h.o,h.kn.mono hh.ext (af _)⟩,qj1 hh hp h.tx hbx h.rx ki,λj i hj hi hc=>qj1 hh hp r1 (hw.lt r1) (r2 j hj) (kp84 kg hc hi)⟩
 .rw[qj1 hh hp h.tx hbx h.rx ki];exact h.c1
 .rw[qj1 hh hp h.tx hbx h.rx ki];exact h.c13
theorem Ck.ptr(h:Ck W0 T w bx b2 off2 m c kk o2)(base:Nat):CVc W0 T w base (.pt 1 80) (nj (I ⟨bx,0,V⟩)):=by
 refine⟨bx,0,rfl,.inr ⟨h.tx,λh=>kg,80,?_,λk ct hk=>?_⟩⟩
 .have:=h.rx;rwa [show(0:Nat)+cx.tb.sz 80=14 by kernel_rfl]
 .unfold yg.qym;have hl:=(al.1 hk).1;cases hf:cx.tb.flat 80 with
  | none=>rw[hf] at hk;simp at hk
  | some l=>
    rw[hf] at hk hl;simp only[Option.getD_some] at hk hl;simp only[Option.bind_some,bu,iw hl];exact hk
theorem Ck.known(h:Ck W0 T w bx b2 off2 m c kk o2)(W:nu)(h1:W.cell? ⟨bx,1,V⟩=w.cell? ⟨bx,1,V⟩)(h13:W.cell? ⟨bx,13,V⟩=w.cell? ⟨bx,13,V⟩) :
  Calls ab 21 #[nj (I ⟨bx,0,V⟩)] W λe w'=>e=np (nj (I ⟨b2,o2,V⟩))/\∃q,w'=W.drewN q:=by
 have:=h.lt;have e:off2+((kk:Nat):Int).toNat*13=o2:=h.o;rw[<-e];exact qhm (off:=0) (h1.trans h.c1) (h13.trans h.c13) kg kg h.m63
structure qf9(W0:World)(T:Nat->Prop)(w:World)(g3 g4 g5:Nat)(ms rs:Array Value)(T':Nat->Prop)(W:World):Prop where
 wt:WTc W0 T' W
 hi:zg T w .kp T' W
 z3:yh T' W g3 31 ms
 z4:yh T' W g4 31 zA
 z5:yh T' W g5 31 rs
theorem qf9.call{g3 g4 g5:Nat}{ms rs:Array ny}{W W2:nu}{T2:Nat->Prop}{pu:Lv}(h:qf9 W0 T w g3 g4 g5 ms rs T' W)(hw:WTc W0 T2 W2)(hh:zg T' W pu T2 W2)(hp:Lv.le .kp pu=nr:=by rfl):qf9 W0 T w g3 g4 g5 ms rs T2 W2:=
 ⟨hw,h.hi.comp hh rfl hp,h.z3.call hh,h.z4.call hh,h.z5.call hh⟩
theorem qf9.row{g3 g4 g5:Nat}{ms rs:Array ny}{W:nu}(ds:Array ny)(h:qf9 W0 T w g3 g4 g5 ms rs T' W)(hlo:W0.heap.size<=g5)(hg:w.heap.size<=g5)(h3:g3≠g5)(h4:g4≠g5):qf9 W0 T w g3 g4 g5 ms ds T' (W.setRow g5 ds)/\xq T' W T' (W.setRow g5 ds):=by
 have hm:∀(b:Nat) es c,W.heap[b]? = I (.map es c)->(W.setRow g5 ds).heap[b]? = I (.map es c):=λb es c hc=>by
  have:b≠g5:=λe=>by subst e;have hb:=h.z5.bk;unfold mg at hb;rw[hb] at hc;cases hc
  rw[cw W g5 b _ this];exact hc
 have hs:∀b,Bk W0 T' b->(W.setRow g5 ds).heap[b]? = W.heap[b]?:=λb hb=>cw W g5 b _ (λe=>by subst e;rcases hb with hb|hb;exact h.z5.nt hb;omega)
 have x:=qq6 h.wt hs hm;obtain⟨k1,-⟩:=h.wt.frame (w':=W.setRow g5 ds) (by rw[dr];exact af _) (λk hk=>hs k (.inr hk)) (λk hk=>hs k (.inl hk)) hm
 exact⟨⟨k1,⟨h.hi.ext.trans x,h.hi.new,by rw[dr];exact h.hi.size,h.hi.os,h.hi.tape,h.hi.output,λb hb hp=>(cw W g5 b _ kg).trans (h.hi.keep b hb hp),λhp b hb hT=>(h.hi.kpt hp b hb hT).trans (.same (cw W g5 b _ kg))⟩,
  h.z3.row ds h3,h.z4.row ds h4,⟨h.z5.nt,gh W g5 _ ds 31 (0,0) h.z5.bk⟩⟩,x⟩
def HdV(p v:ny):Prop:=∃f,f∈[91,92,93,94,95,96,97]/\v=.func (.func f) #[p] #[]
def qin(W0:nu)(ms:Array ny)(T':Nat->Prop)(W:nu)(v:ny):Prop:=∃rs,v=.agg rs/\TyValc W0 T' W 0 (.agg FM) (.agg rs)/\qi9 ms rs
theorem qin.mono{T2:Nat->Prop}(h:qin W0 ms T1 w1 v)(x:xq T1 w1 T2 w2):qin W0 ms T2 w2 v:=by
 obtain⟨rs,h1,h2,h3⟩:=h;exact⟨rs,h1,zx x h2,h3⟩
def qv9(W0:nu)(T:Nat->Prop)(w:nu)(bx g3 g4 g5:Nat)(act:Int)(ms:Array ny)(k:Nat)(v:ny)(T':Nat->Prop)(W:nu):Prop:=match k with
 | 0=>v=.pointer (I ⟨bx,0,V⟩)
 | 1=>v=.pointer (I ⟨g3,2,V⟩)
 | 2=>v=.int O act
 | 3=>HdV (.pointer (I ⟨bx,0,V⟩)) v
 | 4=>v=.agg ms
 | 5=>qin W0 ms T' W v
 | _=>True
def StRs4(W0:nu)(T:Nat->Prop)(w:nu)(bx g3 g4 g5:Nat)(act:Int)(ms:Array ny)(L:Nat->Bool)(vals:Nat->ny)(W:nu):Prop:=∃(T':Nat->Prop),(∃cur:Array ny,qf9 W0 T w g3 g4 g5 ms cur T' W/\cur.size=25/\(L 6=nr->qin W0 ms T' W (.agg cur)))/\∀k,k<7->L k=nr->qv9 W0 T w bx g3 g4 g5 act ms k (vals k) T' W
theorem qcg{bx g3:Nat}{T2:Nat->Prop}(x:xq T1 w1 T2 w2)(h:qv9 W0 T w bx g3 g4 g5 act ms k v T1 w1):qv9 W0 T w bx g3 g4 g5 act ms k v T2 w2:=by
 unfold qv9 at h ⊢
 split at h<;>first
  | exact h
  | exact h.mono x
  | trivial
def RspP(W0:nu)(T:Nat->Prop)(w:nu)(bx b2 off2 m c kk o2:Nat)(b:Int)(E:Ending)(w':nu):Prop:=∃(T':Nat->Prop) (rs:Array ny) (A:Option Addr) (n cc:Nat),E=np (.agg rs)/\WTc W0 T' w'/\zg T w .no T' w'/\Ck W0 T' w' bx b2 off2 m c kk o2/\w'.cell? ⟨bx,0,V⟩=w.cell? ⟨bx,0,V⟩ /\
 (∀j i,j<m->i=0\/i=2->w'.cell? ⟨b2,off2+j*13+i,V⟩=w.cell? ⟨b2,off2+j*13+i,V⟩)/\w'.cell? ⟨b2,o2+12,V⟩=I (ng A n cc)/\TyValc W0 T' w' 0 (.agg FM) (.agg rs)/\qxo W0 T' w' A n rs b
def qgk(W0:nu)(rs:Array ny)(id:Int)(T':Nat->Prop)(W:nu)(v:ny):Prop:=∃(cs:Array ny) (A:Option Addr) (n cc:Nat),v=.agg cs/\TyValc W0 T' W 0 (.agg FE) (.agg cs)/\cs[7]? = I (ng A n cc)/\qxo W0 T' W A n rs id
def qtf(W0:nu)(rs:Array ny)(id:Int)(T':Nat->Prop)(W:nu)(v:ny):Prop:=∃e,v=nq #[e,zI]/\qgk W0 rs id T' W e
theorem qgk.same{rs:Array ny}{id:Int}{v:ny}{T1 T2:Nat->Prop}{w1 w2:nu}(h:qgk W0 rs id T1 w1 v)(x:xq T1 w1 T2 w2)(hs:w1.heap.size<=w2.heap.size)(hk:∀b,Bk W0 T1 b->w2.heap[b]? = w1.heap[b]?):qgk W0 rs id T2 w2 v:=by
 obtain⟨cs,A,n,cc,h1,h2,h3,h4⟩:=h;exact⟨cs,A,n,cc,h1,zx x h2,h3,h4.same x hs hk⟩
theorem qtf.same{rs:Array ny}{id:Int}{v:ny}{T1 T2:Nat->Prop}{w1 w2:nu}(h:qtf W0 rs id T1 w1 v)(x:xq T1 w1 T2 w2)(hs:w1.heap.size<=w2.heap.size)(hk:∀b,Bk W0 T1 b->w2.heap[b]? = w1.heap[b]?):qtf W0 rs id T2 w2 v:=by
 obtain⟨e,h1,h2⟩:=h;exact⟨e,h1,h2.same x hs hk⟩
theorem qzq{T2:Nat->Prop}(hw:WTc W0 T1 w1)(hh:zg T1 w1 .pure T2 w2):∀b,Bk W0 T1 b->w2.heap[b]? = w1.heap[b]?:=λb hb=>hh.keep b (by rcases hb with hb|hb;exact hw.lt hb;exact bf hb hw.size) (.inl rfl)
theorem qdw{o:Oper}{ty:nz}{x y:Tmp}(ho:o.op=.store ty (.tmp x) (.tmp y)){cells:Array ny}(hx:a.tmps[x]?.getD mc=nj (I ⟨b,off,V⟩))(hy:a.tmps[y]?.getD mc=.agg cells)(ht:w.there b off cells.size)
  (hi:(P.info? ty).map (·.size)=I cells.size) (h1:cells.all (·.oneCell')=nr) {R:ny->nu->Prop} (h:R mc (w.setCells b off cells.toList)):qx.qc P R ((execOp a.eval o).run P w):=by
 have e1:=qx3 hx;have e2:=qx3 hy;unfold execOp;simp only[ho,e1,e2,Instr.storeAt,Instr.sureAddr,Sem.run_bind,Sem.run_pure,Result.andThen_ok,run_storeVar_mid w b off ty cells ht hi h1];exact h
theorem qjm{o:Oper}{ty:nz}{d:Tmp}(ho:o.op=.load ty (.tmp d))(hx:a.tmps[d]?.getD mc=nj (I ⟨b,off,V⟩)){ds:TypeDesc}(hg:w.rangeAt b off cs.toList)
  (hu:P.underlying ty=I ds) (hd:ds.isRow=nr) (hi:(P.info? ty).map (·.size)=I cs.toList.length):(execOp a.eval o).run P w=.ok (.value (.agg cs)) w:=by
 have:=qop ho hx hg hu hd hi
 rwa [Array.toArray_toList] at this
theorem Ck.there(h:Ck W0 T w bx b2 off2 m c kk o2)(hw:WTc W0 T w):w.there b2 (o2+5) 8:=λj hj=>by
 have hr:=h.kn.elem h.lt;obtain⟨ct,hct⟩:∃ct,FK[5+j]? = I ct:=⟨_,ah (by rw[show FK.length=13 from by kernel_rfl];omega)⟩;obtain⟨v,q1,-⟩:=hw.load hr hct;rw[show cx.tb.sz 84=13 from by kernel_rfl,h.o,<-gi] at q1;exact⟨by rw[q1];rfl,qvg hw h.row.1 q1⟩
structure FinR(W0:World)(T:Nat->Prop)(w:World)(bx b2 off2 m c kk o2 g4 g5:Nat)(id:Int)(rs:Array Value)(T':Nat->Prop)(W:World):Prop where
 wt:WTc W0 T' W
 hi:zg T w .no T' W
 ck:Ck W0 T' W bx b2 off2 m c kk o2
 c0:W.cell? ⟨bx,0,V⟩=w.cell? ⟨bx,0,V⟩
 nm:∀j i,j<m->i=0\/i=2->W.cell? ⟨b2,off2+j*13+i,V⟩=w.cell? ⟨b2,off2+j*13+i,V⟩
 en:∃A n cc,W.cell? ⟨b2,o2+12,V⟩=I (ng A n cc)/\qxo W0 T' W A n rs id
 ty:TyValc W0 T' W 0 (.agg FM) (.agg rs)
 z4:yh T' W g4 31 zA
 z5:yh T' W g5 31 rs
theorem fin_{W:nu}{id:Int}{cc:Nat}(hw0:WTc W0 T w)(hw:WTc W0 T' W)(hh:zg T w .kp T' W)(K:Ck W0 T w bx b2 off2 m c kk o2)(hz4:yh T' W g4 31 zA)(hz5:yh T' W g5 31 rs)
  (hty:TyValc W0 T' W 0 (.agg FE) (.agg cs)) (h7:cs[7]? = I (ng A n cc)) (hhas:qxo W0 T' W A n rs id) (hr:TyValc W0 T' W 0 (.agg FM) (.agg rs)):FinR W0 T w bx b2 off2 m c kk o2 g4 g5 id rs T' (W.setCells b2 (o2+5) cs.toList):=by
 obtain⟨k1,k2,k3⟩:=K.kept hw0 hh rfl;obtain⟨r1,r2,r3⟩:=k1.row;obtain⟨e1,e2⟩:=q2c hty;obtain⟨f1,f2,f3,f4,f5,f6,f7,f8,f9⟩:=qma (p:=5) (vs:=cs.toList) hw r1 (by rw[<-k1.o];exact r2 kk k1.lt) k1.mod kg e2
 have hne:bx≠b2:=λe=>by
  subst e;obtain⟨c1,fr1,q1,-⟩:=k1.rx;obtain⟨c2,fr2,q2,-⟩:=r2 kk k1.lt;rw[q1] at q2;injection q2 with q2;injection q2 with q2 q3;cases q3
 have hbc:∀i,(W.setCells b2 (o2+5) cs.toList).cell? ⟨bx,i,V⟩=W.cell? ⟨bx,i,V⟩:=λi=>cg (f4 bx hne)
 have ho:=k1.o;have hT:=K.row.1;have hbox:∀{g:Nat} {cells:Array ny},yh T' W g 31 cells->yh T' (W.setCells b2 (o2+5) cs.toList) g 31 cells:=λ{g cells} h=>⟨h.nt,(f4 g (λe=>h.nt (by rw[e];exact r1))).trans h.bk⟩
 have ht7:CVc W0 T' W 0 (.sl 1 31 1024) (ng A n cc):=by
  obtain⟨u,q1,q2⟩:=jd hty (k:=7) (ct:=.sl 1 31 1024) ki;rw[h7] at q1;cases q1;exact q2
 refine⟨f1,⟨hh.ext.trans f2.ext,hh.new,by rw[f5];exact hh.size,f6.trans hh.os,f7.trans hh.tape,f8.trans hh.output,λb hb hp=>(f4 b (λe=>(hp.resolve_left kj) (by rw[e];exact hT))).trans (hh.keep b hb (.inr (hp.resolve_left kj))),λh=>by cases h⟩,
  ⟨k1.tx,f2.ext.row _ _ _ k1.tx k1.rx,by rw[hbc];exact k1.c1,by rw[hbc];exact k1.c13,k1.lt,k1.m63,ho,k1.kn.mono f2.ext (af _)⟩,by rw[hbc];exact k2,λj i hj hi=>?_,⟨A,n,cc,?_,f2.has hw ht7 hr hhas⟩,zx f2.ext hr,hbox hz4,hbox hz5⟩
 .rw[f3,if_neg,k3 j i hj kg (by rcases hi with rfl|rfl<;>rfl)];rw[e1];omega
 .rw[f3,if_pos (by rw[e1];omega),show o2+12-(o2+5)=7 by omega,ax];exact h7
theorem FinR.out{W:nu}{id:Int}(h:FinR W0 T w bx b2 off2 m c kk o2 g4 g5 id rs T' W)(hlo:W0.heap.size<=g4)(hg:w.heap.size<=g4)(hw0:W0.heap.size<=w.heap.size):RspP W0 T w bx b2 off2 m c kk o2 id (np (.agg rs)) (W.setRow g4 rs):=by
 have hs:∀b,Bk W0 T' b->(W.setRow g4 rs).heap[b]? = W.heap[b]?:=λb hb=>cw W g4 b _ (λe=>by subst e;rcases hb with hb|hb;exact h.z4.nt hb;omega)
 have hm:∀(b:Nat) es c,W.heap[b]? = I (.map es c)->(W.setRow g4 rs).heap[b]? = I (.map es c):=λb es c hc=>by
  have:b≠g4:=λe=>by subst e;have hb:=h.z4.bk;unfold mg at hb;rw[hb] at hc;cases hc
  rw[cw W g4 b _ this];exact hc
 have x:=qq6 h.wt hs hm;obtain⟨k1,-⟩:=h.wt.frame (w':=W.setRow g4 rs) (by rw[dr];exact af _) (λk hk=>hs k (.inr hk)) (λk hk=>hs k (.inl hk)) hm;have cx_:∀i,(W.setRow g4 rs).cell? ⟨bx,i,V⟩=W.cell? ⟨bx,i,V⟩:=λi=>cg (hs bx (.inl h.ck.tx))
 have cb:∀i,(W.setRow g4 rs).cell? ⟨b2,i,V⟩=W.cell? ⟨b2,i,V⟩:=λi=>cg (hs b2 (.inl h.ck.row.1))
 obtain⟨A,n,cc,e1,e2⟩:=h.en
 exact⟨T',rs,A,n,cc,rfl,k1,⟨h.hi.ext.trans x,h.hi.new,by rw[dr];exact h.hi.size,h.hi.os,h.hi.tape,h.hi.output,λb hb hp=>(cw W g4 b _ kg).trans (h.hi.keep b hb hp),λh=>by cases h⟩,
  ⟨h.ck.tx,x.row _ _ _ h.ck.tx h.ck.rx,by rw[cx_];exact h.ck.c1,by rw[cx_];exact h.ck.c13,h.ck.lt,h.ck.m63,h.ck.o,h.ck.kn.mono x (af _)⟩,by rw[cx_];exact h.c0,λj i hj hi=>by rw[cb];exact h.nm j i hj hi,by rw[cb];exact e1,zx x h.ty,e2.same x (by rw[dr];exact af _) hs⟩
theorem qt3{es:List ny}(h:w.rangeAt b2 (o+5) es)(hl:es.length=8)(ho:o%13=0)(hT:T b2)(hb:b2<w.heap.size)(hr:qbf w b2 84 (o+13))(hh:zg T w pu T' w')(hp:Lv.le .kp pu=nr):w'.rangeAt b2 (o+5) es:=λk v hv=>by
 have hk:k<8:=by rw[<-hl];exact(al.1 hv).1
 rw[<-h k v hv,gi];refine qj1 hh hp hT hb hr (kp84 ho ?_ kg);have:k=0\/k=1\/k=2\/k=3\/k=4\/k=5\/k=6\/k=7:=kg;rcases this with rfl|rfl|rfl|rfl|rfl|rfl|rfl|rfl<;>rfl
def qyc(W0:nu)(T5:Nat->Prop)(w5:nu)(bx b2 o2 g4 g5:Nat)(id:Int)(es rs:Array ny)(k:Nat)(v:ny)(T':Nat->Prop)(W:nu):Prop:=match k with
 | 0=>v=.pointer (I ⟨bx,0,V⟩)
 | 1=>v=.pointer (I ⟨b2,o2,V⟩)
 | 2=>v=.pointer (I ⟨b2,o2,V⟩)
 | 3=>v=.pointer (I ⟨b2,o2+5,V⟩)
 | 4=>v=.agg es
 | 5=>v=.agg rs
 | 6=>qtf W0 rs id T' W v
 | 7=>qtf W0 rs id T' W v
 | 8=>qgk W0 rs id T' W v
 | 9=>v=.int O 0
 | 12=>v=.int O 0
 | _=>True
def StRs5(W0:nu)(T5:Nat->Prop)(w5:nu)(bx b2 o2 g4 g5:Nat)(id:Int)(es rs:Array ny)(L:Nat->Bool)(vals:Nat->ny)(W:nu):Prop:=∃(T':Nat->Prop),(WTc W0 T' W/\zg T5 w5 .pure T' W/\yh T' W g4 31 zA/\yh T' W g5 31 rs/\(L 10=nr->∃g6 cur,vals 10=nj (I ⟨g6,0,V⟩)/\yh T' W g6 82 cur/\cur.size=8/\w5.heap.size<=g6/\(L 11=nr->qgk W0 rs id T' W (.agg cur))))/\∀k,k<13->L k=nr->qyc W0 T5 w5 bx b2 o2 g4 g5 id es rs k (vals k) T' W
theorem qvd{bx b2 o2:Nat}{id:Int}{T5:Nat->Prop}{w5:nu}{T2:Nat->Prop}(x:xq T1 w1 T2 w2)(hs:w1.heap.size<=w2.heap.size)(hk:∀b,Bk W0 T1 b->w2.heap[b]? = w1.heap[b]?)(h:qyc W0 T5 w5 bx b2 o2 g4 g5 id es rs k v T1 w1):qyc W0 T5 w5 bx b2 o2 g4 g5 id es rs k v T2 w2:=by
 unfold qyc at h ⊢
 split at h<;>first
  | exact h
  | exact h.same x hs hk
  | trivial
def qea(W0:nu)(T:Nat->Prop)(w:nu)(bx b2 off2 m c kk o2 g4 g5 g6:Nat)(id:Int)(cs rs:Array ny)(T6:Nat->Prop)(w6:nu)(k:Nat)(v:ny)(T':Nat->Prop)(W:nu):Prop:=match k with
 | 0=>v=.pointer (I ⟨bx,0,V⟩)
 | 1=>v=.pointer (I ⟨b2,o2,V⟩)
 | 2=>v=.agg cs
 | 3=>v=.pointer (I ⟨b2,o2,V⟩)
 | 4=>v=.pointer (I ⟨b2,o2+5,V⟩)
 | _=>True
def StRs7(W0:nu)(T:Nat->Prop)(w:nu)(bx b2 off2 m c kk o2 g4 g5 g6:Nat)(id:Int)(cs rs:Array ny)(T6:Nat->Prop)(w6:nu)(L:Nat->Bool)(vals:Nat->ny)(W:nu):Prop:=∃(T':Nat->Prop),((L 5=ns->WTc W0 T' W/\zg T6 w6 .pure T' W/\yh T' W g4 31 zA/\yh T' W g5 31 rs/\yh T' W g6 82 cs)/\(L 5=nr->FinR W0 T w bx b2 off2 m c kk o2 g4 g5 id rs T' W))/\∀k,k<6->L k=nr->qea W0 T w bx b2 off2 m c kk o2 g4 g5 g6 id cs rs T6 w6 k (vals k) T' W
theorem q50(qd4:qm ab cx W0 62 quf)(hH:∀f∈[91,92,93,94,95,96,97],qm ab cx W0 f quk)(hw:WTc W0 T w)(K:Ck W0 T w bx b2 off2 m c kk o2)(hm:TyValc W0 T w base (.agg FM) (.agg ms)){id:Int}(h1:ms[1]? = I (U O id))(h2:ms[2]? = I (U O act))
  (hid:1<=id/\id<=2147483647) (hact:(Mv.qjr act).2=nr) (he:TyValc W0 T w 0 (.agg FE) (.agg es)) (hes:w.rangeAt b2 (o2+5) es.toList)   (h7:es[7]? = I (ng A7 n7 c7))  (hi:qyx W0 T w A7 n7 ids) (hlt:∀j,j<n7->ids j<id) :
  Calls ab 24 #[nj (I ⟨bx,0,V⟩),.agg ms] w (RspP W0 T w bx b2 off2 m c kk o2 id):=by
 have HB:=aa (qp (qp (zy w (.cells ms 31)) (.cells zA 31)) (.cells zA 31));have HE3:Hid (mg (((w.alloc (.cells ms 31)).alloc (.cells zA 31)).alloc (.cells zA 31)) w.heap.size 31 ms):=aa (((mg.new w 31 ms).alloc _).alloc _)
 have HE4:Hid (mg (((w.alloc (.cells ms 31)).alloc (.cells zA 31)).alloc (.cells zA 31)) (w.heap.size+1) 31 zA):=aa (by
  have:=(mg.new (w.alloc (.cells ms 31)) 31 zA).alloc (.cells zA 31)
  rwa [show(w.alloc (.cells ms 31)).heap.size=w.heap.size+1 by simp] at this)
 have HE5:Hid (mg (((w.alloc (.cells ms 31)).alloc (.cells zA 31)).alloc (.cells zA 31)) (w.heap.size+1+1) 31 zA):=aa (by
  have:=mg.new ((w.alloc (.cells ms 31)).alloc (.cells zA 31)) 31 zA
  rwa [show((w.alloc (.cells ms 31)).alloc (.cells zA 31)).heap.size=w.heap.size+1+1 by simp] at this)
 have HSM:Hid ((ab.info? 31).map (·.size)=I ms.size):=aa (by rw[zf hm];kernel_rfl);have hoM:=xx hm;have HOM:=aa hoM;have hbx:=hw.lt K.tx;have hb2:=hw.lt K.row.1;have HLO:=aa hw.size;have HW:=aa hw;have HM:=aa hm;have HK:=aa K;have H1:=aa h1;have H2:=aa h2;have HID:=aa hid;have HACT:=aa hact;have HE:=aa he;have HES:=aa hes;have H7:=aa h7;have HI:=aa hi;have HLT:=aa hlt;have HBX:=aa hbx;have HB2:=aa hb2;have HH62:=aa qd4;have HHH:=aa hH;clear hw hm K h1 h2 hid hact he hes h7 hi hlt hbx hb2 qd4 hH;go_enter Tryz.func24,Tryz.ntmps24;go_upto_region 2 with(fail);clear hoM;generalize ((w.alloc (.cells ms 31)).alloc (.cells zA 31)).alloc (.cells zA 31)=w1 at *;have HX1:Hid (w1.cell? ⟨bx,1,V⟩=w.cell? ⟨bx,1,V⟩/\w1.cell? ⟨bx,13,V⟩=w.cell? ⟨bx,13,V⟩):=aa ⟨cg (HB.out.block bx HBX.out),cg (HB.out.block bx HBX.out)⟩
 obtain⟨bb,hbb⟩:∃bb,w.cell? ⟨b2,o2+1,V⟩=I (ni bb):=by
  have hr:=HK.out.kn.elem HK.out.lt;obtain⟨v,q1,⟨bb,rfl⟩⟩:=HW.out.load hr (k:=1) (ct:=.bool) ki;rw[show cx.tb.sz 84=13 from by kernel_rfl,HK.out.o] at q1;exact⟨bb,q1⟩
 have HBB:=aa hbb;clear hbb;go_cut [18] (λs18 wd=>∃q,s18=ni q/\∃n,wd=w1.drewN n)
 case first=>
  go_wp2_with fail;refine(HK.out.known w1 HX1.out.1 HX1.out.2).mono ?_;rintro e w2 ⟨rfl,q,rfl⟩;have kb:(w1.drewN q).cell? ⟨b2,o2+1,V⟩=I (ni bb):=(cg (HB.out.block b2 HB2.out)).trans HBB.out
  have ka:(w1.drewN q).cell? ⟨w.heap.size,2,V⟩=I (U O act):=by
   exact qzn (W:=w1.drewN q) HE3.out H2.out
  cases bb<;>(go_wp2_with fail;all_goals(go_meet;exact⟨_,rfl,_,rfl⟩))
 case rest=>
  obtain⟨q,rfl,n,rfl⟩:=hcut;have HBn:=aa (yf HB.out n);have HF3:Hid (mg (w1.drewN n) w.heap.size 31 ms):=aa HE3.out;have HF4:Hid (mg (w1.drewN n) (w.heap.size+1) 31 zA):=aa HE4.out;have HF5:Hid (mg (w1.drewN n) (w.heap.size+1+1) 31 zA):=aa HE5.out;clear HX1 HE3 HE4 HE5 HB HBB;generalize w1.drewN n=w2 at *
  have HS:Hid (qf9 W0 T w w.heap.size (w.heap.size+1) (w.heap.size+1+1) ms zA T w2):=aa (by
   have hn:∀g,w.heap.size<=g->¬T g:=λg hg h=>by have:=HW.out.lt h;omega
   exact⟨(zh HW.out HBn.out).1,zk HW.out HBn.out,⟨hn _ (af _),HF3.out⟩,⟨hn _ kg,HF4.out⟩,⟨hn _ kg,HF5.out⟩⟩)
  have HL5:Hid (W0.heap.size<=w.heap.size+1+1/\w.heap.size<=w.heap.size+1+1/\w.heap.size≠w.heap.size+1+1/\w.heap.size+1≠w.heap.size+1+1):=aa ⟨by have:=HLO.out;omega,kg,kg,kg⟩;clear HF3 HF4 HF5 HBn;have HLW:Hid (w.heap.size<=w.heap.size+1+1):=aa kg;have HL4:Hid (W0.heap.size<=w.heap.size+1/\w.heap.size<=w.heap.size+1):=aa ⟨by have:=HLO.out;omega,kg⟩;generalize hg5:w.heap.size+1+1=g5 at *;generalize hg4:w.heap.size+1=g4 at *;generalize hg3:w.heap.size=g3 at HS HL5 ⊢
  go_upto_if 18 with(fail)
  go_cut [] (λwd=>Hid (∃T5 rs,qf9 W0 T w g3 g4 g5 ms rs T5 wd/\TyValc W0 T5 wd 0 (.agg FM) (.agg rs)/\qi9 ms rs))
  case first=>
   cases q with
   | true=>
     go_wp2_with (refine bp rfl 31 (.tmp 3) rfl g3 rfl 31 ms (0,0) _ HS.out.z3.bk bz rfl HSM.out ?_);refine(fail_ HH62.out HS.out.wt (qzz (zx HS.out.hi.ext HM.out) ki 0) kj).mono ?_;rintro e w3 ⟨rs,T5,rfl,q1,q2,q3,q4⟩;have HS3:=aa (HS.out.call q1 q2);have HRI:Hid ((ab.info? 31).map (·.size)=I rs.size):=aa (by rw[zf q3];kernel_rfl);have HRZ:Hid ((zA:Array ny).size=rs.size):=aa (qav q3).1.symm;have HRO:=aa (xx q3);have HQ3:=aa q3;have HQ4:=aa q4;clear q1 q2 q3 q4;go_wp2_with (refine br rfl 31 (.tmp 5) (.tmp 20) rfl rfl g5 rs rfl rfl 31 zA HS3.out.z5.bk HRI.out HRZ.out HRO.out ?_);go_meet;obtain⟨k1,x⟩:=HS3.out.row rs HL5.out.1 HLW.out HL5.out.2.2.1 HL5.out.2.2.2;exact aa ⟨T5,rs,k1,zx x HQ3.out,HQ4.out⟩
   | false=>
     go_upto_region 4 with(fail);refine Reg9D.region 7 (StRs4 W0 T w bx g3 g4 g5 act ms) mixed ki (qx.qqq (n:=45) ki rfl) ?_ ?_ ?_
     .exact⟨_,⟨_,HS.out.call (zh HS.out.wt (aj _ _).drew).1 (zk (PU:=.pure) HS.out.wt (aj _ _).drew),rfl,λh=>by cases h⟩,λk _ h=>by cases h⟩
     .intro idx o hj ho L vals a' W hLi hS hw' qh hdn;obtain⟨T',⟨cur,hS5,hcs,hc1⟩,qi⟩:=hS;have HPS:=λ(i:Nat) {v:ny} {T2:Nat->Prop} {w2:nu} hm h=>yt (i:=i) (L:=L) (vals:=vals) (v:=v) (Ψ:=λk v=>qv9 W0 T w bx g3 g4 g5 act ms k v T' W) (Ψ':=λk v=>qv9 W0 T w bx g3 g4 g5 act ms k v T2 w2) qi hm h
      have HQ:=λ(i:Nat) {v:ny} h=>yt (i:=i) (L:=L) (vals:=vals) (v:=v) (Ψ:=λk v=>qv9 W0 T w bx g3 g4 g5 act ms k v T' W) (Ψ':=λk v=>qv9 W0 T w bx g3 g4 g5 act ms k v T' W) qi (λ_ _ h=>h) h
      have hj':idx=0\/idx=1\/idx=2\/idx=3\/idx=4\/idx=5\/idx=6:=kg;clear hj;rcases hj' with rfl|rfl|rfl|rfl|rfl|rfl|rfl
      .cases oi ho;have h0:=qx.gdt (qh 0 nd);refine qx.qc.eq ?_ ⟨T',⟨cur,hS5,hcs,hc1⟩,HQ 0 rfl⟩;go_simp
       all_goals(try exact⟨rfl,rfl⟩)
      .cases oi ho;have h3:=qx.gdt (qh 3 nd);refine qx.qc.eq ?_ ⟨T',⟨cur,hS5,hcs,hc1⟩,HQ 1 rfl⟩;go_simp
       all_goals(try exact⟨rfl,rfl⟩)
      .cases oi ho;have qmm:=qx.gpk (qh 22 nd) (qi 1 kg);have kc:=qzn hS5.z3.bk H2.out;refine qx.qc.eq ?_ ⟨T',⟨cur,hS5,hcs,hc1⟩,HQ 2 rfl⟩;go_simp
       all_goals(try exact⟨rfl,rfl⟩)
      .cases oi ho;have qcd:=qx.gpk (qh 21 nd) (qi 0 kg);have qrg:=qx.gpk (qh 23 nd) (qi 2 kg);refine qx.qc.mono (R:=λv W'=>HdV (nj (I ⟨bx,0,V⟩)) v/\Below W.heap.size W W') ?_ (λv W' h=>?_)
       .go_simp;refine(q5q ⟨bx,0,V⟩ act W).mono ?_;rintro e w5 ⟨⟨f,hf,rfl⟩,hb⟩;exact⟨_,rfl,⟨f,hf,rfl⟩,hb.out⟩
       .obtain⟨hv,hb⟩:=h;have hh:=zk (PU:=.pure) hS5.wt hb;exact⟨T',⟨cur,hS5.call (zh hS5.wt hb).1 hh,hcs,λh=>(hc1 h).mono hh.ext⟩,HPS 3 (λ_ _ h=>qcg hh.ext h) hv⟩
      .cases oi ho;have h3:=qx.gdt (qh 3 nd);refine uw (qzm rfl h3 hS5.z3.bk bz rfl HSM.out) ?_;exact⟨T',⟨cur,hS5,hcs,hc1⟩,HPS 4 (v:=.agg ms) (λ_ _ h=>h) rfl⟩
      .cases oi ho;obtain⟨lo24,eo24⟩:=qh 24 nd;have p24:=qi 3 kg lo24;have q3r:=qx.gpk (qh 25 nd) (qi 4 kg);obtain⟨f,hf,hq⟩:=p24;have qts:a'.tmps[24]?.getD mc=.func (.func f) #[nj (I ⟨bx,0,V⟩)] #[]:=gdq (eo24.trans hq);clear eo24;have hcp:=(HK.out.kept HW.out hS5.hi rfl).1;refine qx.qc.mono (R:=λv W'=>∃(T2:Nat->Prop),WTc W0 T2 W'/\zg T' W .kp T2 W'/\qin W0 ms T2 W' v) ?_ (λv W' h=>?_)
       .simp only[List.mem_cons,List.not_mem_nil,or_false] at hf;rcases hf with rfl|rfl|rfl|rfl|rfl|rfl|rfl
        all_goals
         go_simp;refine(hand_ (HHH.out _ kj) hS5.wt (hcp.ptr 0) (qzz (zx hS5.hi.ext HM.out) ki 0)).mono ?_;rintro e w5 ⟨rs,T2,rfl,q1,q2,q3,q4⟩;exact⟨_,rfl,T2,q1,q2,rs,rfl,q3,q4⟩
       .obtain⟨T2,q1,q2,q3⟩:=h;exact⟨T2,⟨cur,hS5.call q1 q2,hcs,λh=>(hc1 h).mono q2.ext⟩,HPS 5 (λ_ _ h=>qcg q2.ext h) q3⟩
      .cases oi ho;have h5:=qx.gdt (qh 5 nd);obtain⟨lo26,eo26⟩:=qh 26 nd;have p26:=qi 5 kg lo26;obtain⟨rs,hq,hty,hrs⟩:=p26;have qmh:a'.tmps[26]?.getD mc=.agg rs:=gdq (eo26.trans hq);clear eo26;obtain⟨k1,x⟩:=hS5.row rs HL5.out.1 HLW.out HL5.out.2.2.1 HL5.out.2.2.2;have hz:=(qav hty).1;refine qzw rfl h5 qmh hS5.z5.bk (by rw[zf hty];kernel_rfl) (hcs.trans hz.symm) (xx hty) ?_;exact⟨T',⟨rs,k1,hz,λ_=>⟨rs,rfl,zx x hty,hrs⟩⟩,HPS 6 (v:=mc) (λ_ _ h=>qcg x h) trivial⟩
     .intro L vals W zl hS;obtain⟨T',⟨cur,hS5,hcs,hc1⟩,qi⟩:=hS;have hv0:vals 0=_:=qi 0 kg (zl 0 kg);have hv1:vals 1=_:=qi 1 kg (zl 1 kg);have hv2:vals 2=_:=qi 2 kg (zl 2 kg);have hv4:vals 4=_:=qi 4 kg (zl 4 kg);have hp3:=aa (qi 3 kg (zl 3 kg));have hp5:=aa (qi 5 kg (zl 5 kg));obtain⟨rs,hq,hty,hrs⟩:=hc1 (zl 6 kg);cases hq;have HX:Hid (∃T5 rs,qf9 W0 T w g3 g4 g5 ms rs T5 W/\TyValc W0 T5 W 0 (.agg FM) (.agg rs)/\qi9 ms rs):=aa ⟨T',_,hS5,hty,hrs⟩;clear hS5 hcs hc1 hty hrs qi zl hp3 hp5;simp only[qx.puts,qx.zi,ay,dc,if_true,cq,df,hv0,hv1,hv2,hv4];clear hv0 hv1 hv2 hv4;simp[ez];go_wp2_with fail;go_meet;exact HX
  case rest=>
   obtain⟨T5,rs,hS5,hty,hrs⟩:=hcut.out;clear hcut HS HHH HH62 HOM HSM HM;obtain⟨k,id',act',st,tm,val,txt,A1,A2,A3,c1,c2,c3,hrl,m1,m2,r1,r2,r3,r4,r5,r6⟩:=hrs;rw[H1.out] at m1;rw[H2.out] at m2;cases m1;cases m2;have HV:Hid (∀W:nu,Calls ab 19 #[.agg rs] W λe w'=>e=np (U O 0)/\Hid (Below W.heap.size W w')):=aa (λW=>by rw[hrl];exact q64 r1 HID.out HACT.out r2 r3 r4 r5 r6 W);have HR0:Hid (rs[0]? = I (U O k)):=aa (by rw[hrl];rfl);have HR1:Hid (rs[1]? = I (U O id)):=aa (by rw[hrl];rfl);have HRK:Hid (decide (k=2\/k=3)=nr):=aa (decide_eq_true r1);clear hrl r1 r2 r3 r4 r5 r6;have hkp:=HK.out.kept HW.out hS5.hi rfl;have HKP:=aa hkp.2;have HK5:=aa hkp.1;have HW5:=aa hS5.wt;have HH5:=aa hS5.hi;have HZ4:=aa hS5.z4;have HZ5:=aa hS5.z5;have hrow:=HK.out.row;have HES5:Hid (wc.rangeAt b2 (o2+5) es.toList):=aa (qt3 HES.out (by rw[aw,zf HE.out];kernel_rfl) HK.out.mod hrow.1 HB2.out (by rw[<-HK.out.o];exact hrow.2.1 kk HK.out.lt) hS5.hi rfl);have HE5:=aa (zx hS5.hi.ext HE.out)
   have ht7:CVc W0 T w 0 (.sl 1 31 1024) (ng A7 n7 c7):=by
    obtain⟨u,q1,q2⟩:=jd HE.out (k:=7) (ct:=.sl 1 31 1024) ki;rw[H7.out] at q1;cases q1;exact q2
   have HI5:=aa (HI.out.kept HW.out hS5.wt ht7 hS5.hi rfl);have HR5:=aa hty;have HSR:Hid ((ab.info? 31).map (·.size)=I rs.size):=aa (by rw[zf hty];kernel_rfl);have HB5:Hid (b2<wc.heap.size):=aa (bf HB2.out hS5.hi.size);have HG5:Hid (g4<wc.heap.size/\g5<wc.heap.size):=aa ⟨hS5.z4.bk.lt,hS5.z5.bk.lt⟩;clear hkp hrow ht7 hS5 hty H1 H2 HID HACT HES HE HI;generalize wc=w5 at *;go_upto_region 5 with(fail);refine Reg9D.region 13 (StRs5 W0 T5 w5 bx b2 o2 g4 g5 id es rs) mixed ki (qx.qqq (n:=45) ki rfl) ?_ ?_ ?_
   .exact⟨T5,⟨(zh HW5.out (aj _ _).drew).1,zk HW5.out (aj _ _).drew,⟨HZ4.out.nt,HZ4.out.bk⟩,⟨HZ5.out.nt,HZ5.out.bk⟩,λh=>by cases h⟩,λk _ h=>by cases h⟩
   .intro idx o hj ho L vals a' W hLi hS hw' qh hdn;obtain⟨T',⟨hwt,hhi,hz4,hz5,hal⟩,qi⟩:=hS;have HPS:=λ(i:Nat) {v:ny} {T2:Nat->Prop} {w2:nu} hm h=>yt (i:=i) (L:=L) (vals:=vals) (v:=v) (Ψ:=λk v=>qyc W0 T5 w5 bx b2 o2 g4 g5 id es rs k v T' W) (Ψ':=λk v=>qyc W0 T5 w5 bx b2 o2 g4 g5 id es rs k v T2 w2) qi hm h
    have HQ:=λ(i:Nat) {v:ny} h=>yt (i:=i) (L:=L) (vals:=vals) (v:=v) (Ψ:=λk v=>qyc W0 T5 w5 bx b2 o2 g4 g5 id es rs k v T' W) (Ψ':=λk v=>qyc W0 T5 w5 bx b2 o2 g4 g5 id es rs k v T' W) qi (λ_ _ h=>h) h
    have hj':idx=0\/idx=1\/idx=2\/idx=3\/idx=4\/idx=5\/idx=6\/idx=7\/idx=8\/idx=9\/idx=10\/idx=11\/idx=12:=kg;clear hj;rcases hj' with rfl|rfl|rfl|rfl|rfl|rfl|rfl|rfl|rfl|rfl|rfl|rfl|rfl
    .cases oi ho;have h0:=qx.gdt (qh 0 nd);refine qx.qc.eq ?_ ⟨T',⟨hwt,hhi,hz4,hz5,(λh=>by simp only[if_neg (show ¬(10:Nat)=0 by omega),if_neg (show ¬(11:Nat)=0 by omega)] at h ⊢;exact hal h)⟩,HQ 0 rfl⟩;go_simp
     all_goals(try exact⟨rfl,rfl⟩)
    .cases oi ho;have q4j:=qx.gpk (qh 28 nd) (qi 0 kg);have hck:=(HK5.out.kept HW5.out hhi rfl).1;refine qx.qc.mono (R:=λv W'=>v=nj (I ⟨b2,o2,V⟩)/\∃q,W'=W.drewN q) ?_ (λv W' h=>?_)
     .go_simp;refine(hck.known W rfl rfl).mono ?_;rintro e w6 ⟨rfl,q,rfl⟩;exact⟨_,rfl,rfl,q,rfl⟩
     .obtain⟨hv,q,rfl⟩:=h;have hb:Below W.heap.size W (W.drewN q):=yf (aj _ _) q;have hh:=zk (PU:=.pure) hwt hb;exact⟨T',⟨(zh hwt hb).1,hhi.trans hh,hz4.call hh,hz5.call hh,(λh=>by simp only[if_neg (show ¬(10:Nat)=1 by omega),if_neg (show ¬(11:Nat)=1 by omega)] at h ⊢;obtain⟨g6,cur,q1,q2,q3,q4,q5⟩:=hal h;exact⟨g6,cur,q1,q2.call hh,q3,q4,λh=>(q5 h).same hh.ext hh.size (qzq hwt hh)⟩)⟩,HPS 1 (λ_ _ h=>qvd hh.ext hh.size (qzq hwt hh) h) hv⟩
    .cases oi ho;have qbe:=qx.gpk (qh 29 nd) (qi 1 kg);refine qx.qc.eq ?_ ⟨T',⟨hwt,hhi,hz4,hz5,(λh=>by simp only[if_neg (show ¬(10:Nat)=2 by omega),if_neg (show ¬(11:Nat)=2 by omega)] at h ⊢;exact hal h)⟩,HQ 2 rfl⟩;go_simp
     all_goals(try exact⟨rfl,rfl⟩)
    .cases oi ho;have qmn:=qx.gpk (qh 30 nd) (qi 2 kg);refine qx.qc.eq ?_ ⟨T',⟨hwt,hhi,hz4,hz5,(λh=>by simp only[if_neg (show ¬(10:Nat)=3 by omega),if_neg (show ¬(11:Nat)=3 by omega)] at h ⊢;exact hal h)⟩,HQ 3 rfl⟩;go_simp
     all_goals(try exact⟨rfl,rfl⟩)
    .cases oi ho;have qif:=qx.gpk (qh 31 nd) (qi 3 kg);have hrg:W.rangeAt b2 (o2+5) es.toList:=λk v hv=>by rw[cg (hhi.keep b2 HB5.out (.inl rfl))];exact HES5.out k v hv
     refine uw (qjm rfl qif hrg dt rfl (by rw[aw,zf HE5.out];kernel_rfl)) ?_;exact⟨T',⟨hwt,hhi,hz4,hz5,(λh=>by simp only[if_neg (show ¬(10:Nat)=4 by omega),if_neg (show ¬(11:Nat)=4 by omega)] at h ⊢;exact hal h)⟩,HPS 4 (v:=.agg es) (λ_ _ h=>h) rfl⟩
    .cases oi ho;have h5:=qx.gdt (qh 5 nd);refine uw (qzm rfl h5 hz5.bk bz rfl HSR.out) ?_;exact⟨T',⟨hwt,hhi,hz4,hz5,(λh=>by simp only[if_neg (show ¬(10:Nat)=5 by omega),if_neg (show ¬(11:Nat)=5 by omega)] at h ⊢;exact hal h)⟩,HPS 5 (v:=.agg rs) (λ_ _ h=>h) rfl⟩
    .cases oi ho;have qtp:=qx.gpk (qh 32 nd) (qi 4 kg);have h33:=qx.gpk (qh 33 nd) (qi 5 kg);refine qx.qc.mono (R:=λv W'=>∃(T2:Nat->Prop),WTc W0 T2 W'/\zg T' W .pure T2 W'/\qtf W0 rs id T2 W' v) ?_ (λv W' h=>?_)
     .go_simp;refine(q6e hwt (zx hhi.ext HE5.out) (zx hhi.ext HR5.out) H7.out HR0.out HRK.out HR1.out (HI5.out.hist hhi) HLT.out (λW' _=>HV.out W')).mono ?_;rintro e w6 ⟨cs,T2,A',n,cc,rfl,q1,q2,q3,q4,q5⟩;exact⟨_,rfl,T2,q1,q2,_,rfl,cs,A',n,cc,rfl,q3,q4,q5⟩
     .obtain⟨T2,q1,hh,q3⟩:=h;exact⟨T2,⟨q1,hhi.trans hh,hz4.call hh,hz5.call hh,(λh=>by simp only[if_neg (show ¬(10:Nat)=6 by omega),if_neg (show ¬(11:Nat)=6 by omega)] at h ⊢;obtain⟨g6,cur,q1,q2,q3,q4,q5⟩:=hal h;exact⟨g6,cur,q1,q2.call hh,q3,q4,λh=>(q5 h).same hh.ext hh.size (qzq hwt hh)⟩)⟩,HPS 6 (λ_ _ h=>qvd hh.ext hh.size (qzq hwt hh) h) q3⟩
    .cases oi ho;obtain⟨lo34,eo34⟩:=qh 34 nd;have p34:=qi 6 kg lo34;obtain⟨e,hq,hev⟩:=p34;have h34:a'.tmps[34]?.getD mc=nq #[e,zI]:=gdq (eo34.trans hq);clear eo34;refine qx.qc.mono (R:=λv W'=>(v=nq #[e,zI])/\W'=W) ?_ (λv W' h=>?_)
     .go_simp
      all_goals(first|exact⟨rfl,rfl⟩|skip)
     .obtain⟨hv,rfl⟩:=h;exact⟨T',⟨hwt,hhi,hz4,hz5,(λh=>by simp only[if_neg (show ¬(10:Nat)=7 by omega),if_neg (show ¬(11:Nat)=7 by omega)] at h ⊢;exact hal h)⟩,yt (i:=7) (L:=L) (vals:=vals) (v:=v) (Ψ:=λk v=>qyc W0 T5 w5 bx b2 o2 g4 g5 id es rs k v T' W') (Ψ':=λk v=>qyc W0 T5 w5 bx b2 o2 g4 g5 id es rs k v T' W') qi (λ_ _ h=>h) ⟨e,hv,hev⟩⟩
    .cases oi ho;obtain⟨lo27,eo27⟩:=qh 27 nd;have p27:=qi 7 kg lo27;obtain⟨e,hq,hev⟩:=p27;have qmi:a'.tmps[27]?.getD mc=nq #[e,zI]:=gdq (eo27.trans hq);clear eo27;refine qx.qc.mono (R:=λv W'=>(v=e)/\W'=W) ?_ (λv W' h=>?_)
     .go_simp
      all_goals(first|exact⟨rfl,rfl⟩|skip)
     .obtain⟨hv,rfl⟩:=h;exact⟨T',⟨hwt,hhi,hz4,hz5,(λh=>by simp only[if_neg (show ¬(10:Nat)=8 by omega),if_neg (show ¬(11:Nat)=8 by omega)] at h ⊢;exact hal h)⟩,yt (i:=8) (L:=L) (vals:=vals) (v:=v) (Ψ:=λk v=>qyc W0 T5 w5 bx b2 o2 g4 g5 id es rs k v T' W') (Ψ':=λk v=>qyc W0 T5 w5 bx b2 o2 g4 g5 id es rs k v T' W') qi (λ_ _ h=>h) (by rw[hv];exact hev)⟩
    .cases oi ho;obtain⟨lo27,eo27⟩:=qh 27 nd;have p27:=qi 7 kg lo27;obtain⟨e,hq,hev⟩:=p27;have qmi:a'.tmps[27]?.getD mc=nq #[e,zI]:=gdq (eo27.trans hq);clear eo27;refine qx.qc.mono (R:=λv W'=>(v=U O 0)/\W'=W) ?_ (λv W' h=>?_)
     .go_simp
      all_goals(first|exact⟨rfl,rfl⟩|skip)
     .obtain⟨hv,rfl⟩:=h;exact⟨T',⟨hwt,hhi,hz4,hz5,(λh=>by simp only[if_neg (show ¬(10:Nat)=9 by omega),if_neg (show ¬(11:Nat)=9 by omega)] at h ⊢;exact hal h)⟩,yt (i:=9) (L:=L) (vals:=vals) (v:=v) (Ψ:=λk v=>qyc W0 T5 w5 bx b2 o2 g4 g5 id es rs k v T' W') (Ψ':=λk v=>qyc W0 T5 w5 bx b2 o2 g4 g5 id es rs k v T' W') qi (λ_ _ h=>h) hv⟩
    .cases oi ho;refine qx.qc.mono (R:=λv W'=>v=nj (I ⟨W.heap.size,0,V⟩)/\W'=W.alloc (.cells zB 82)) ?_ (λv W' h=>?_)
     .go_simp
      all_goals(first|exact⟨rfl,rfl⟩|skip)
     .obtain⟨hv,rfl⟩:=h;have hb:=zy W (.cells zB 82);have hh:=zk (PU:=.pure) hwt hb
      have nl11:L 11=ns:=by
       cases h:L 11
       .rfl
       .exact absurd (hdn 11 10 _ rfl h ki) (by rw[hLi];decide)
      exact⟨T',⟨(zh hwt hb).1,hhi.trans hh,hz4.call hh,hz5.call hh,(λ_=>⟨W.heap.size,zB,(if_pos rfl).trans hv,⟨λh=>by have:=hwt.lt h;omega,mg.new W 82 zB⟩,rfl,hhi.size,λh=>by simp only[if_neg (show ¬(11:Nat)=10 by omega)] at h;rw[nl11] at h;cases h⟩)⟩,HPS 10 (λ_ _ h=>qvd hh.ext hh.size (qzq hwt hh) h) trivial⟩
    .cases oi ho;obtain⟨lo6,eo6⟩:=qh 6 nd;obtain⟨lo35,eo35⟩:=qh 35 nd;have p35:=qi 8 kg lo35;obtain⟨cs,A',n,cc,hq,hty,hc7,hhas⟩:=p35;have qr2:a'.tmps[35]?.getD mc=.agg cs:=gdq (eo35.trans hq);clear eo35;obtain⟨g6,cur,hq6,hz6,hcs,hlo6,-⟩:=hal lo6;have h6:a'.tmps[6]?.getD mc=nj (I ⟨g6,0,V⟩):=gdq (eo6.trans hq6);clear eo6;have hz:cs.size=8:=(zf hty).trans ki;obtain⟨k1,x,k2⟩:=qx8 cs hwt hz6 (by have:=HW5.out.size;omega) hhi hlo6;have hs:W.heap.size<=(W.setRow g6 cs).heap.size:=by rw[dr];exact af _
     have hbs:∀b,Bk W0 T' b->(W.setRow g6 cs).heap[b]? = W.heap[b]?:=λb hb=>cw W g6 b _ (λe=>by subst e;rcases hb with hb|hb;exact hz6.nt hb;(have:=HW5.out.size;omega))
     have hn4:g4≠g6:=λe=>by have:=HG5.out.1;omega
     have hn5:g5≠g6:=λe=>by have:=HG5.out.2;omega
     refine qzw rfl h6 qr2 hz6.bk (by rw[hz];kernel_rfl) (hcs.trans hz.symm) (xx hty) ?_;exact⟨T',⟨k1,k2.1,hz4.row _ hn4,hz5.row _ hn5,(λ_=>⟨g6,cs,hq6,⟨hz6.nt,gh W g6 _ cs 82 (0,0) hz6.bk⟩,hz,hlo6,λ_=>(qgk.same ⟨cs,A',n,cc,rfl,hty,hc7,hhas⟩ x hs hbs)⟩)⟩,HPS 11 (v:=mc) (λ_ _ h=>qvd x hs hbs h) trivial⟩
    .cases oi ho;have h36:=qx.gpk (qh 36 nd) (qi 9 kg);refine qx.qc.eq ?_ ⟨T',⟨hwt,hhi,hz4,hz5,(λh=>by simp only[if_neg (show ¬(10:Nat)=12 by omega),if_neg (show ¬(11:Nat)=12 by omega)] at h ⊢;exact hal h)⟩,HQ 12 rfl⟩;go_simp
     all_goals(try exact⟨rfl,rfl⟩)
   .intro L vals W zl hS;obtain⟨T',⟨hwt,hhi,hz4,hz5,hal⟩,qi⟩:=hS;have hv0:vals 0=_:=qi 0 kg (zl 0 kg);have hv1:vals 1=_:=qi 1 kg (zl 1 kg);have hv2:vals 2=_:=qi 2 kg (zl 2 kg);have hv3:vals 3=_:=qi 3 kg (zl 3 kg);have hv4:vals 4=_:=qi 4 kg (zl 4 kg);have hv5:vals 5=_:=qi 5 kg (zl 5 kg);have hv9:vals 9=_:=qi 9 kg (zl 9 kg);have qkv:vals 12=_:=qi 12 kg (zl 12 kg);have hp6:=aa (qi 6 kg (zl 6 kg));have hp7:=aa (qi 7 kg (zl 7 kg));have hp8:=aa (qi 8 kg (zl 8 kg));obtain⟨g6,cur,hq6,hz6,hcs,hlo6,hev⟩:=hal (zl 10 kg);obtain⟨cs,A',n,cc,hq,hty,hc7,hhas⟩:=hev (zl 11 kg);cases hq;have HZ6:=aa hz6;have HC6:=aa hty;have HC7:=aa hc7;have HHS:=aa hhas;have HLO6:=aa hlo6;have HW6:=aa hwt;have HH6:=aa hhi;have HY4:=aa hz4;have HY5:=aa hz5;have HCS:=aa hcs;clear hz6 hty hc7 hhas hev hlo6 hwt hhi hz4 hz5 hal qi zl hp6 hp7 hp8 hcs;simp only[hq6,qx.puts,qx.zi,ay,dc,if_true,cq,df,hv0,hv1,hv2,hv3,hv4,hv5,hv9,qkv];clear hv0 hv1 hv2 hv3 hv4 hv5 hv9 qkv;simp[ez];clear HES5 HE5 HI5 H7 HLT HV HR0 HR1 HRK HZ4 HZ5 HB5 HKP;obtain⟨T6,hT6⟩:∃T6,T6=T':=⟨_,rfl⟩;subst hT6;obtain⟨cs,hcs⟩:∃cs,cs=cur:=⟨_,rfl⟩;subst hcs;generalize W=w6 at *;go_upto_region 7 with(fail);refine Reg9D.region 6 (StRs7 W0 T w bx b2 off2 m c kk o2 g4 g5 g6 id cs rs T6 w6) mixed ki (qx.qqq (n:=45) ki rfl) ?_ ?_ ?_
    .exact⟨T6,⟨λ_=>⟨(zh HW6.out (aj _ _).drew).1,zk HW6.out (aj _ _).drew,⟨HY4.out.nt,HY4.out.bk⟩,⟨HY5.out.nt,HY5.out.bk⟩,⟨HZ6.out.nt,HZ6.out.bk⟩⟩,λh=>by cases h⟩,λk _ h=>by cases h⟩
    .intro idx o hj ho L vals a' W hLi hS hw' qh hdn;obtain⟨T',⟨hb0,hb1⟩,qi⟩:=hS;have HPS:=λ(i:Nat) {v:ny} {T2:Nat->Prop} {w2:nu} hm h=>yt (i:=i) (L:=L) (vals:=vals) (v:=v) (Ψ:=λk v=>qea W0 T w bx b2 off2 m c kk o2 g4 g5 g6 id cs rs T6 w6 k v T' W) (Ψ':=λk v=>qea W0 T w bx b2 off2 m c kk o2 g4 g5 g6 id cs rs T6 w6 k v T2 w2) qi hm h
     have HQ:=λ(i:Nat) {v:ny} h=>yt (i:=i) (L:=L) (vals:=vals) (v:=v) (Ψ:=λk v=>qea W0 T w bx b2 off2 m c kk o2 g4 g5 g6 id cs rs T6 w6 k v T' W) (Ψ':=λk v=>qea W0 T w bx b2 off2 m c kk o2 g4 g5 g6 id cs rs T6 w6 k v T' W) qi (λ_ _ h=>h) h
     have hj':idx=0\/idx=1\/idx=2\/idx=3\/idx=4\/idx=5:=kg;clear hj;rcases hj' with rfl|rfl|rfl|rfl|rfl|rfl
     .cases oi ho;have h0:=qx.gdt (qh 0 nd)
      have nl5:L 5=ns:=by
       cases h:L 5
       .rfl
       .exact absurd (hdn 5 0 _ rfl h ki) (by rw[hLi];decide)
      refine qx.qc.eq ?_ ⟨T',⟨λ_=>hb0 nl5,(λh=>by simp only[if_neg (show ¬(5:Nat)=0 by omega)] at h;rw[nl5] at h;cases h)⟩,HQ 0 rfl⟩;go_simp
      all_goals(try exact⟨rfl,rfl⟩)
     .cases oi ho;have h39:=qx.gpk (qh 39 nd) (qi 0 kg)
      have nl5:L 5=ns:=by
       cases h:L 5
       .rfl
       .exact absurd (hdn 5 1 _ rfl h ki) (by rw[hLi];decide)
      obtain⟨hwt,hhi,hz4,hz5,hz6⟩:=hb0 nl5;have hck:=(HK5.out.kept HW5.out (HH6.out.trans hhi) rfl).1;refine qx.qc.mono (R:=λv W'=>v=nj (I ⟨b2,o2,V⟩)/\∃q,W'=W.drewN q) ?_ (λv W' h=>?_)
      .go_simp;refine(hck.known W rfl rfl).mono ?_;rintro e w6 ⟨rfl,q,rfl⟩;exact⟨_,rfl,rfl,q,rfl⟩
      .obtain⟨hv,q,rfl⟩:=h;have hb:Below W.heap.size W (W.drewN q):=yf (aj _ _) q;have hh:=zk (PU:=.pure) hwt hb;exact⟨T',⟨λ_=>⟨(zh hwt hb).1,hhi.trans hh,hz4.call hh,hz5.call hh,hz6.call hh⟩,(λh=>by simp only[if_neg (show ¬(5:Nat)=1 by omega)] at h;rw[nl5] at h;cases h)⟩,HPS 1 (λ_ _ h=>h) hv⟩
     .cases oi ho;have h6:=qx.gdt (qh 6 nd)
      have nl5:L 5=ns:=by
       cases h:L 5
       .rfl
       .exact absurd (hdn 5 2 _ rfl h ki) (by rw[hLi];decide)
      refine uw (qzm rfl h6 (hb0 nl5).2.2.2.2.bk dt rfl (by rw[HCS.out];kernel_rfl)) ?_;exact⟨T',⟨λ_=>hb0 nl5,(λh=>by simp only[if_neg (show ¬(5:Nat)=2 by omega)] at h;rw[nl5] at h;cases h)⟩,HPS 2 (v:=.agg cs) (λ_ _ h=>h) rfl⟩
     .cases oi ho;have h40:=qx.gpk (qh 40 nd) (qi 1 kg)
      have nl5:L 5=ns:=by
       cases h:L 5
       .rfl
       .exact absurd (hdn 5 3 _ rfl h ki) (by rw[hLi];decide)
      refine qx.qc.eq ?_ ⟨T',⟨λ_=>hb0 nl5,(λh=>by simp only[if_neg (show ¬(5:Nat)=3 by omega)] at h;rw[nl5] at h;cases h)⟩,HQ 3 rfl⟩;go_simp
      all_goals(try exact⟨rfl,rfl⟩)
     .cases oi ho;have q4a:=qx.gpk (qh 42 nd) (qi 3 kg)
      have nl5:L 5=ns:=by
       cases h:L 5
       .rfl
       .exact absurd (hdn 5 4 _ rfl h ki) (by rw[hLi];decide)
      refine qx.qc.eq ?_ ⟨T',⟨λ_=>hb0 nl5,(λh=>by simp only[if_neg (show ¬(5:Nat)=4 by omega)] at h;rw[nl5] at h;cases h)⟩,HQ 4 rfl⟩;go_simp
      all_goals(try exact⟨rfl,rfl⟩)
     .cases oi ho;have qic:=qx.gpk (qh 41 nd) (qi 2 kg);have q3m:=qx.gpk (qh 43 nd) (qi 4 kg);obtain⟨hwt,hhi,hz4,hz5,hz6⟩:=hb0 hLi;have hck:=(HK5.out.kept HW5.out (HH6.out.trans hhi) rfl).1;have hty:=zx hhi.ext HC6.out;refine qdw rfl q3m qic (by rw[HCS.out];exact hck.there hwt) (by rw[HCS.out];kernel_rfl) (xx hty) ?_;refine⟨T',⟨λh=>by simp at h,λ_=>fin_ HW.out hwt (HH5.out.comp (HH6.out.trans hhi)) HK.out hz4 hz5 hty HC7.out (HHS.out.same hhi.ext hhi.size (qzq HW6.out hhi)) (zx (HH6.out.trans hhi).ext HR5.out)⟩,HPS 5 (v:=mc) (λ_ _ h=>h) trivial⟩
    .intro L vals W zl hS;obtain⟨T',⟨hb0,hb1⟩,qi⟩:=hS;have hv0:vals 0=_:=qi 0 kg (zl 0 kg);have hv1:vals 1=_:=qi 1 kg (zl 1 kg);have hv2:vals 2=_:=qi 2 kg (zl 2 kg);have hv3:vals 3=_:=qi 3 kg (zl 3 kg);have hv4:vals 4=_:=qi 4 kg (zl 4 kg);have HF:=aa (hb1 (zl 5 kg));clear hb0 hb1 qi zl HK5 HW5 HH5 HH6 HW6 HY4 HY5 HZ6 HC6 HC7 HHS HR5 HK HCS;simp only[qx.puts,qx.zi,ay,dc,if_true,cq,df,hv0,hv1,hv2,hv3,hv4];clear hv0 hv1 hv2 hv3 hv4;simp[ez];go_wp2_with (first|(refine bp rfl 31 (.tmp 5) rfl g5 rfl 31 rs (0,0) _ HF.out.z5.bk bz rfl HSR.out ?_)|(refine br rfl 31 (.tmp 4) (.tmp 44) rfl rfl g4 rs rfl rfl 31 zA HF.out.z4.bk HSR.out (qav HF.out.ty).1.symm (xx HF.out.ty) ?_));refine bodyPost_ret (results_cell_row rfl _ _ g4 31 rs (0,0) _ rfl (gh _ g4 _ rs 31 (0,0) HF.out.z4.bk) bz rfl HSR.out) rfl ?_;exact HF.out.out HL4.out.1 HL4.out.2 HLO.out
end
open Go.RowKit Go.Great
section
variable {W0:nu}{T T':Nat->Prop}{w w':nu}{base:Nat}{bx b2 off2 m c kk o2:Nat}
theorem qe3(h:w.cell? ⟨b,o,V⟩=I v):w.setCell ⟨b,o,V⟩ v=w:=by
 have hh:(w.setCell ⟨b,o,V⟩ v).heap=w.heap:=by
  refine aal (λi=>?_);by_cases hi:i=b
  .subst hi;simp only[World.setCell,Array.getElem?_modify,if_true];cases hq:w.heap[i]? with
   | none=>rfl
   | some ob=>
     cases ob with
     | cells cs e fr=>
       have hc:cs[o]? = I v:=by rw[<-dx w i o cs e fr hq];exact h
       have:cs.setIfInBounds o v=cs:=by
        refine aal (λk=>?_);rw[Array.getElem?_setIfInBounds];split
        .rename_i e;subst e;split
         .exact hc.symm
         .rename_i hn;rw[Array.getElem?_eq_none kg] at hc;cases hc
        .rfl
       simp[this]
     | _=>rfl
  .exact Below.heap_setCell _ _ _ _ hi
 show({ w with heap:=(w.setCell ⟨b,o,V⟩ v).heap }:nu)=w;rw[hh]
theorem qd1{b:Nat}:∀{vs:List ny} {o:Nat},w.rangeAt b o vs->w.setCells b o vs=w
 | [],o,_=>rfl
 | v::r,o,h=>by
   rw[World.setCells,qe3 (by simpa using h 0 v rfl)];exact qd1 (λk u hk=>by have:=h (k+1) u (by simpa using hk);rwa [show o+(k+1)=o+1+k by omega] at this)
def qaw(W0:nu)(o:Option (Array ny))(T:Nat->Prop)(w:nu)(v:ny):Prop:=match o with
 | none=>v=.slice V 0 0
 | some xs=>One W0 T w xs v
theorem qaw.same{o:Option (Array ny)}{v:ny}(h:qaw W0 o T w v)(x:xq T w T' w')(hs:w.heap.size<=w'.heap.size)(hk:∀b,Bk W0 T b->w'.heap[b]? = w.heap[b]?):qaw W0 o T' w' v:=by
 cases o with
 | none=>exact h
 | some xs=>exact One.same h x hs hk
theorem q5y{kk b2 off2 m c:Nat}(hw:WTc W0 T w)(hc:TyValc W0 T w base (.agg FC) (.agg cs1))(h1:cs1[1]? = I (ng (I ⟨b2,off2,V⟩) m c))(hk:kk<m)(hs:cs1.size=13) :
  WTc W0 (add T w.heap.size) (w.alloc (.cells (cs1++#[U O (kk:Int)]) 80))/\zg T w .pure (add T w.heap.size) (w.alloc (.cells (cs1++#[U O (kk:Int)]) 80)) /\
   Ck W0 (add T w.heap.size) (w.alloc (.cells (cs1++#[U O (kk:Int)]) 80)) w.heap.size b2 off2 m c kk (off2+kk*13):=by
 have hb:=zy w (.cells (cs1++#[U O (kk:Int)]) 80);have hw1:=zh hw hb;have hh1:=zk (PU:=.pure) hw hb;have hnew:(w.alloc (.cells (cs1++#[U O (kk:Int)]) 80)).heap[w.heap.size]? = I (.cells (cs1++#[U O (kk:Int)]) 80 (0,0)):=gy w _;have hfl:cx.tb.flat 80=I ((cx.tb.flat 80).getD []):=ki;have hlen:((cx.tb.flat 80).getD []).length=14:=ki;have hc0:=qzz hc ki 0;obtain⟨cs',e,hz,ha⟩:=hc0;cases e;have hF:FC.length=13:=ki
 have hft:∀i,i<13->∃ct,FC[i]? = I ct/\∃cb,((cx.tb.flat 80).getD [])[i]? = I cb/\cb.unk=ct:=λi hi=>by
  have hp:=qx5 (l:=(cx.tb.flat 80).getD []) (m:=FC) (o:=0) ki i (by rw[hF];exact hi);rw[bu] at hp;have hl:i<FC.length:=by rw[hF];exact hi
  rw[ah hl] at hp;obtain⟨cb,q1,q2⟩:=ea.1 hp;exact⟨_,ah hl,cb,q1,q2⟩
 have hsz:(cs1++#[U O (kk:Int)]:Array ny).size=14:=by simp[hs]
 obtain⟨j1,j2⟩:=hw1.1.join (g:=w.heap.size) hw.size hnew (.inl rfl) hfl (by rw[hlen];omega) (λi v hv=>by
  have hi14:i<14:=by rw[<-hsz];exact(cl.1 hv).1
  rw[hlen,iw hi14];by_cases hi:i<13
  .obtain⟨ct,q1,cb,q2,q3⟩:=hft i hi;rw[dz kg] at hv;exact⟨cb,q2,CV.unk.1 (by rw[q3];exact(ha i ct v q1 hv).mono hw1.2 (af _))⟩
  .obtain rfl:i=13:=kg;rw[fh kg,hs] at hv;cases hv
   exact⟨.idx 12,ki,_,rfl,kg⟩) (λi d hi hd=>by
  have hi14:i<14:=by rw[<-hsz];exact hi
  rw[hlen,iw hi14] at hd
  have h13:i=13/\d=12:=by
   have key:∀k:Fin 14,((cx.tb.flat 80).getD [])[k.1]? = I (.idx d)->k.1=13/\d=12:=by
    intro k hk;have hall:((ay 14).all λq=>match((cx.tb.flat 80).getD [])[q]? with|some (.idx x)=>decide (q=13/\x=12)|_=>nr)=nr:=ki;have:=List.all_eq_true.1 hall k.1 (List.mem_range.2 k.2);rw[hk] at this;exact of_decide_eq_true this
   exact key ⟨i,hi14⟩ hd
  obtain⟨rfl,rfl⟩:=h13;refine⟨kg,⟨.sl 1 84 63,by rw[hlen];kernel_rfl,kj⟩,kk,I ⟨b2,off2,V⟩,m,c,?_,kg,?_,kg⟩
  .rw[fh kg,hs];rfl
  .rw[dz kg];exact h1)
 have hkn:CVc W0 T w 0 (.sl 1 84 63) (ng (I ⟨b2,off2,V⟩) m c):=ha 1 _ _ ki h1;have hhj:zg T w .pure (add T w.heap.size) (w.alloc (.cells (cs1++#[U O (kk:Int)]) 80)):=⟨hh1.ext.trans j2,λb hb=>hb.elim .inl (λe=>.inr (by rw[e];exact af _)),hh1.size,hh1.os,hh1.tape,hh1.output,hh1.keep,λh=>by cases h⟩;refine⟨j1,hhj,⟨.inr rfl,⟨_,_,hnew,kg⟩,?_,?_,hk,?_,rfl,hkn.mono hhj.ext (af _)⟩⟩
 .rw[dx _ w.heap.size 1 _ 80 (0,0) hnew,dz kg];exact h1
 .rw[dx _ w.heap.size 13 _ 80 (0,0) hnew,fh kg,hs];rfl
 .have:=(CV.rng hkn rfl).2;simp only[meas] at this;omega
structure Done(W0:World)(T:Nat->Prop)(w:World)(cs:Array Value)(s:ByteArray)(id:Int)(rs:Array Value)(b2 off2 m c kk:Nat)(f:Nat->ByteArray)(now:Int)(A:Option Addr)(n cc:Nat):Prop where
 k1:cs[1]? = I (ng (I ⟨b2,off2,V⟩) m c)
 lt:kk<m
 nm:qkn W0 T w (I ⟨b2,off2,V⟩) m f
 eq:f kk=s
 ne:∀i,i<kk->f i≠s
 k0:cs[0]? = I (U O now)
 co:w.cell? ⟨b2,off2+kk*13+2,V⟩=I (U O now)
 se:w.cell? ⟨b2,off2+kk*13+12,V⟩=I (ng A n cc)
 has:qxo W0 T w A n rs id
 rt:TyValc W0 T w 0 (.agg FM) (.agg rs)
end
open Go.RowKit Go.Great
section
variable {W0:nu}{T T':Nat->Prop}{w w':nu}{base:Nat}{bx b2 off2 m c kk o2:Nat}
theorem zo.self{f:List CT}(h:zo cx W0 T w f A j xs):zo cx W0 T w f A j xs:=h
theorem qxo.copy{c' n':Nat}{B:Option Addr}{b:Int}{m2 lb2:Nat}(hw:WTc W0 T w)(h:qxo W0 T w A n rs b)(he:∀dp,xn cx.tb W0 T w (dp+2) (.sl 1 31 1024) (ng A n ca) (ng B n' c'))(hc:CVc W0 T w base (.sl m2 31 lb2) (ng B n' c')):qxo W0 T w B n' rs b:=by
 obtain⟨ids,j,xs,h1,h2,h3,h4,h5,h6⟩:=h;have hn:=jl (he 0);obtain⟨ys,hy⟩:=jr (f:=FM) hw ki hc (j:=j) kg;exact⟨ids,j,ys,qp8 hw (he 0) hc h1,kg,h3,h4,hy,λdp=>(h6 dp).trans (qyp (f:=FM) ki (he dp) h2 h5 hy)⟩
theorem One.of(h:One W0 T w xs v)(he:∀dp,jw cx.tb W0 T w (dp+1) FM rs xs):One W0 T w rs v:=by
 obtain⟨B,c,h1,h2,ys,h3,h4⟩:=h;exact⟨B,c,h1,h2,ys,h3,λdp=>(he dp).trans (h4 dp)⟩
def DI(W0:nu)(T:Nat->Prop)(w:nu)(cs:Array ny)(s:ByteArray)(id:Int)(f:Nat->ByteArray)(rs:Array ny):Prop:=∃b2 off2 m c kk now A n cc,Done W0 T w cs s id rs b2 off2 m c kk f now A n cc
def RcvP(W0:nu)(T:Nat->Prop)(w:nu)(cs:Array ny)(s:ByteArray)(id:Int)(f:Nat->ByteArray)(Q:Prop)(E:Ending)(w':nu):Prop:=∃(T':Nat->Prop) (cs':Array ny) (v:ny),E=np (nq #[.agg cs',v])/\WTc W0 T' w'/\TyValc W0 T' w' 0 (.agg FC) (.agg cs')/\zg T w .no T' w' /\
 (v=ng V 0 0\/(Q/\∃rs f',One W0 T' w' rs v/\DI W0 T' w' cs' s id f' rs))/\(∀rs,Q->DI W0 T w cs s id f rs->zg T w .pure T' w'/\One W0 T' w' rs v/\∀dp,jw cx.tb W0 T' w' (dp+3) FC cs cs')
theorem id_{id:Int}{f:Nat->ByteArray}(h:DI W0 T w cs s id f rs):DI W0 T w cs s id f rs:=h
structure qbh(W0:World)(T:Nat->Prop)(w:World)(cs cs1 es:Array Value)(s:ByteArray)(id:Int)(f:Nat->ByteArray)(bx b2 off2 m c kk o2:Nat)(now ct:Int)(A7:Option Addr)(n7 c7:Nat)(T':Nat->Prop)(W:World):Prop where
 wt:WTc W0 T' W
 no:zg T w .no T' W
 pu:ct=now->zg T w .pure T' W/\∀dp,jw cx.tb W0 T' W (dp+3) FC cs cs1
 ck:Ck W0 T' W bx b2 off2 m c kk o2
 ge:w.heap.size<=bx
 xb:W.heap[bx]? = I (.cells (cs1++#[U O (kk:Int)]) 80 (0,0))
 ty:TyValc W0 T' W 0 (.agg FC) (.agg cs1)
 k0:cs1[0]? = I (U O now)
 k1:cs1[1]? = I (ng (I ⟨b2,off2,V⟩) m c)
 nm:qkn W0 T' W (I ⟨b2,off2,V⟩) m f
 eq:f kk=s
 ne:∀i,i<kk->f i≠s
 ra:W.rangeAt b2 (o2+5) es.toList
 te:TyValc W0 T' W 0 (.agg FE) (.agg es)
 e7:es[7]? = I (ng A7 n7 c7)
 sc:∀rs,DI W0 T w cs s id f rs->ct=now/\qxo W0 T' W A7 n7 rs id
theorem r4_{id:Int}{f:Nat->ByteArray}{kk:Nat}(hw:WTc W0 T w)(hc:TyValc W0 T w base (.agg FC) (.agg cs))(hk1:cs[1]? = I (ng A n ca))(hnm:qkn W0 T w A n f)(hlt:kk<n)(heq:f kk=s)(hne:∀i,i<kk->f i≠s)
  (hw1:WTc W0 T1 w1) (hh1:zg T w nr T1 w1) (hc1:TyValc W0 T1 w1 w.heap.size (.agg FC) (.agg cs1)) (he1:∀dp,jw cx.tb W0 T1 w1 (dp+3) FC cs cs1) :
  ∃es b2 off2 c now ct A7 n7 c7,qbh W0 T w cs cs1 es s id f w1.heap.size b2 off2 n c kk (off2+kk*13) now ct A7 n7 c7 (add T1 w1.heap.size) (w1.alloc (.cells (cs1++#[U O (kk:Int)]) 80))/\(w1.alloc (.cells (cs1++#[U O (kk:Int)]) 80)).cell? ⟨b2,off2+kk*13+2,V⟩=I (U O ct):=by
 have hF:FC.length=13:=ki;have hs1:cs1.size=13:=(zf hc1).trans hF;have hs:cs.size=13:=(zf hc).trans hF;obtain⟨v1,k1,t1⟩:=jd hc1 (k:=1) (ct:=.sl 1 84 63) ki;have ev1:∀dp,xn cx.tb W0 T1 w1 (dp+3) (.sl 1 84 63) (ng A n ca) v1:=λdp=>(he1 dp).2.2 1 (.sl 1 84 63) _ _ ki hk1 k1
 obtain⟨B,n',c,rfl,-⟩:=t1.slc;obtain rfl:n=n':=(jl (ev1 0)).symm
 obtain⟨b2,off2,rfl⟩:∃b2 off2,B=I ⟨b2,off2,V⟩:=by
  rcases t1 with h|⟨h0,-⟩|⟨b,off,k,c',e,-⟩
  .cases h;omega
  .cases h0
  .cases e;exact⟨b,off,rfl⟩
 obtain⟨v0,k0,⟨now,rfl,n0,n1⟩⟩:=jd hc1 (k:=0) (ct:=.int O 0 268435456) ki;obtain⟨j1,j2,j3⟩:=q5y (kk:=kk) hw1 hc1 k1 hlt hs1;obtain⟨r1,r2,r3⟩:=j3.row;generalize hW:w1.alloc (.cells (cs1++#[U O (kk:Int)]) 80)=W at *;have hhW:=hh1.trans j2;obtain⟨ks,hks⟩:=jr (f:=FK) j1 ki j3.kn hlt;obtain⟨b',off',e',-,-,hz,hcl,hty⟩:=hks.self;cases e';have hFK:FK.length=13:=ki;rw[hFK] at hcl hz;obtain⟨u2,q2,⟨ct,rfl,-⟩⟩:=jd hty (k:=2) (ct:=vw) ki;obtain⟨es,hpe,hte⟩:=qwp hty (o:=5) (m:=FE) (qx5 ki) kj;obtain⟨u7,q7,t7⟩:=jd hte (k:=7) (ct:=.sl 1 31 1024) ki;obtain⟨A7,n7,c7,rfl,-⟩:=t7.slc;have q12:ks[12]? = I (ng A7 n7 c7):=(hpe.2 7 (by rw[show FE.length=8 from by kernel_rfl];omega)).trans q7;have hxb:W.heap[w1.heap.size]? = I (.cells (cs1++#[U O (kk:Int)]) 80 (0,0)):=by rw[<-hW];exact gy w1 _
 have heW:∀dp,jw cx.tb W0 (add T1 w1.heap.size) W (dp+3) FC cs cs1:=λdp=>(he1 dp).hist hw1 j2
 refine⟨es,b2,off2,c,now,ct,A7,n7,c7,⟨j1,⟨hhW.ext,hhW.new,hhW.size,hhW.os,hhW.tape,hhW.output,λb hb hp=>hhW.keep b hb (.inl rfl),λh=>by cases h⟩,λ_=>⟨hhW,heW⟩,j3,hh1.size,hxb,qzz (zx j2.ext hc1) ki 0,k0,k1,?_,heq,hne,λk v hv=>?_,qzz hte ki 0,q7,λrs hD=>?_⟩,?_⟩
 .exact nms_eq j1 ((heW 0).2.2 1 (.sl 1 84 63) _ _ ki hk1 k1) j3.kn (hnm.hist hhW)
 .have hk:k<8:=by
   have:=(al.1 hv).1
   rwa [aw,zf hte,show FE.length=8 from by kernel_rfl] at this
  rw[show off2+kk*13+5+k=off2+kk*13+(5+k) by omega,hcl (5+k) kg,hpe.2 k (by rw[show FE.length=8 from by kernel_rfl];exact hk),<-ax];exact hv
 .obtain⟨b3,off3,m3,c3,kk3,now3,A3,n3,cc3,D⟩:=hD;have e1:=D.k1;rw[hk1] at e1;cases e1
  have ekk:kk3=kk:=by
   rcases pf kk3 kk with h|h|h
   .exact absurd D.eq (hne kk3 h)
   .exact h
   .exact absurd heq (D.ne kk h)
  subst ekk;have hcW:=zx hhW.ext hc
  obtain⟨xs,hxs⟩:=jr (f:=FK) hw ki (show CVc W0 T w base (.sl 1 84 63) (ng (I ⟨b3,off3,V⟩) n ca) by
   obtain⟨u,g1,g2⟩:=jd hc (k:=1) (ct:=.sl 1 84 63) ki
   rw[hk1] at g1;cases g1;exact g2) hlt
  obtain⟨b4,off4,e4,-,-,hz4,hcl4,hty4⟩:=hxs.self;cases e4;rw[hFK] at hcl4 hz4;have her:∀dp,jw cx.tb W0 (add T1 w1.heap.size) W (dp+2) FK xs ks:=λdp=>qyp (f:=FK) ki ((heW dp).2.2 1 (.sl 1 84 63) _ _ ki hk1 k1) hlt (hxs.hist hhW) hks
  have x2:xs[2]? = I (U O now3):=by rw[<-hcl4 2 kg];exact D.co
  have x12:xs[12]? = I (ng A3 n3 cc3):=by rw[<-hcl4 12 kg];exact D.se
  have h2:=((her 0).2.2 2 (vw) _ _ ki x2 q2).eq rfl;have h00:=((heW 0).2.2 0 (.int O 0 268435456) _ _ ki D.k0 k0).eq rfl;cases h2;cases h00;refine⟨rfl,qxo.copy (ca:=cc3) (c':=c7) j1 (D.has.same hhW.ext hhW.size (qzq hw hhW)) (λdp=>?_) t7⟩;exact(xn.unk (ct:=.kp (.sl 31 1024))).2 ((her dp).2.2 12 (.kp (.sl 31 1024)) _ _ ki x12 q12)
 .rw[hcl 2 kg];exact q2
theorem qbh.pure{id:Int}{f:Nat->ByteArray}{now:Int}{W:nu}{T2:Nat->Prop}{W2:nu}(h:qbh W0 T w cs cs1 es s id f bx b2 off2 m c kk o2 now ct A7 n7 c7 T' W)(hw:WTc W0 T2 W2)(hh:zg T' W .pure T2 W2):qbh W0 T w cs cs1 es s id f bx b2 off2 m c kk o2 now ct A7 n7 c7 T2 W2:=by
 have hlt:∀b,T' b->W2.heap[b]? = W.heap[b]?:=λb hb=>hh.keep b (h.wt.lt hb) (.inl rfl)
 refine⟨hw,⟨h.no.ext.trans hh.ext,λb hb=>?_,cy h.no.size hh.size,hh.os.trans h.no.os,hh.tape.trans h.no.tape,hh.output.trans h.no.output,λb hb hp=>(hh.keep b (bf hb h.no.size) (.inl rfl)).trans (h.no.keep b hb hp),λh=>by cases h⟩,
  λe=>⟨(h.pu e).1.trans hh,λdp=>((h.pu e).2 dp).hist h.wt hh⟩,(h.ck.kept h.wt hh rfl).1,h.ge,(hlt bx h.ck.tx).trans h.xb,zx hh.ext h.ty,h.k0,h.k1,h.nm.hist hh,h.eq,h.ne,λk v hv=>by rw[cg (hlt b2 h.ck.row.1)];exact h.ra k v hv,zx hh.ext h.te,h.e7,λrs hD=>⟨(h.sc rs hD).1,(h.sc rs hD).2.same hh.ext hh.size (qzq h.wt hh)⟩⟩
 rcases hh.new b hb with h1|h1
 .exact h.no.new b h1
 .exact .inr (cy h.no.size h1)
theorem qbh.store{id:Int}{f:Nat->ByteArray}{now:Int}{W:nu}(h:qbh W0 T w cs cs1 es s id f bx b2 off2 m c kk o2 now ct A7 n7 c7 T' W)(hc:W.cell? ⟨b2,o2+2,V⟩=I (U O ct))(hn:-9223372036854775808<=now/\now<=9223372036854775807) :
  qbh W0 T w cs cs1 es s id f bx b2 off2 m c kk o2 now ct A7 n7 c7 T' (W.setCell ⟨b2,o2+2,V⟩ (U O now))/\(W.setCell ⟨b2,o2+2,V⟩ (U O now)).cell? ⟨b2,o2+2,V⟩=I (U O now)/\Fo W0 T' W T' (W.setCell ⟨b2,o2+2,V⟩ (U O now))/\∀q,q≠b2->(W.setCell ⟨b2,o2+2,V⟩ (U O now)).heap[q]? = W.heap[q]?:=by
 obtain⟨r1,r2,r3⟩:=h.ck.row;have ho:=h.ck.o
 obtain⟨f1,f2,f3,f4,f5,f6,f7,f8,f9⟩:=qma (p:=2) (vs:=[U O now]) h.wt r1 (by rw[<-ho];exact r2 kk h.ck.lt) h.ck.mod kq (λq v hv=>by
  have hq:q=0:=by
   cases q with
   | zero=>rfl
   | succ q=>simp at hv
  subst hq;cases hv
  exact⟨vw,ki,now,rfl,hn.1,hn.2⟩)
 have hW:W.setCells b2 (o2+2) [U O now]=W.setCell ⟨b2,o2+2,V⟩ (U O now):=rfl;rw[hW] at f1 f2 f3 f4 f5 f6 f7 f8 f9
 have hne:bx≠b2:=λe=>by
  subst e;obtain⟨c2,fr2,q2,-⟩:=r2 kk h.ck.lt;rw[h.xb] at q2;injection q2 with q2;injection q2 with q2 q3;cases q3
 have hbc:∀i,(W.setCell ⟨b2,o2+2,V⟩ (U O now)).cell? ⟨bx,i,V⟩=W.cell? ⟨bx,i,V⟩:=λi=>cg (f4 bx hne)
 have hcl:∀i,i≠o2+2->(W.setCell ⟨b2,o2+2,V⟩ (U O now)).cell? ⟨b2,i,V⟩=W.cell? ⟨b2,i,V⟩:=λi hi=>by rw[f3,if_neg (by simp only[List.length_cons,List.length_nil];omega)]
 have ht7:CVc W0 T' W 0 (.sl 1 31 1024) (ng A7 n7 c7):=by
  obtain⟨u,q1,q2⟩:=jd h.te (k:=7) (ct:=.sl 1 31 1024) ki;rw[h.e7] at q1;cases q1;exact q2
 have hkn:=h.ck.kn.mono f2.ext (af _)
 refine⟨⟨f1,⟨h.no.ext.trans f2.ext,h.no.new,by rw[f5];exact h.no.size,f6.trans h.no.os,f7.trans h.no.tape,f8.trans h.no.output,λb hb hp=>(f4 b (λe=>?_)).trans (h.no.keep b hb hp),λh=>by cases h⟩,
  λe=>?_,⟨h.ck.tx,f2.ext.row _ _ _ h.ck.tx h.ck.rx,by rw[hbc];exact h.ck.c1,by rw[hbc];exact h.ck.c13,h.ck.lt,h.ck.m63,ho,hkn⟩,h.ge,(f4 bx hne).trans h.xb,zx f2.ext h.ty,h.k0,h.k1,λj hj=>?_,h.eq,h.ne,λk v hv=>?_,zx f2.ext h.te,h.e7,λrs hD=>⟨(h.sc rs hD).1,?_⟩⟩,?_,f2,f4⟩
 .subst e;rcases h.no.new b r1 with h1|h1
  .exact(hp.resolve_left kj) h1
  .omega
 .rw[qe3 (by rw[hc,e])];exact h.pu e
 .obtain⟨xs,q1,q2⟩:=h.nm j hj;obtain⟨ys,q3⟩:=jr (f:=FK) f1 ki hkn hj;refine⟨ys,q3,?_⟩;obtain⟨b',off',e',-,-,-,g1,-⟩:=q1;cases e';obtain⟨b',off',e',-,-,-,g2,-⟩:=q3;cases e';have hF:FK.length=13:=ki;rw[hF] at g1 g2;rw[<-g2 0 kg,hcl _ kg,g1 0 kg];exact q2
 .have hk:k<8:=by
   have:=(al.1 hv).1
   rwa [aw,zf h.te,show FE.length=8 from by kernel_rfl] at this
  rw[hcl _ kg];exact h.ra k v hv
 .obtain⟨b3,off3,m3,c3,kk3,now3,A3,n3,cc3,D⟩:=id_ hD;exact f2.has h.wt ht7 (zx h.no.ext D.rt) (h.sc rs hD).2
 .rw[f3,if_pos kq];simp
end
open Go.RowKit Go.Great
section
variable {W0:nu}{T T':Nat->Prop}{w w':nu}{base:Nat}{bx b2 off2 m c kk o2:Nat}
theorem zo.ty{f:List CT}(h:zo cx W0 T w f A j xs):TyValc W0 T w 0 (.agg f) (.agg xs):=by
 obtain⟨-,-,-,-,-,-,-,h⟩:=h;exact h
theorem qbh.out{id:Int}{f:Nat->ByteArray}{now:Int}{W:nu}(h:qbh W0 T w cs cs1 es s id f bx b2 off2 m c kk o2 now ct A7 n7 c7 T' W){g:Nat}{t:nz}{z:Array ny}(xs:Array ny)(hz:yh T' W g t z)(hlo:W0.heap.size<=g)(hg:w.heap.size<=g) :
  qbh W0 T w cs cs1 es s id f bx b2 off2 m c kk o2 now ct A7 n7 c7 T' (W.setRow g xs)/\xq T' W T' (W.setRow g xs)/\W.heap.size<=(W.setRow g xs).heap.size/\∀b,Bk W0 T' b->(W.setRow g xs).heap[b]? = W.heap[b]?:=by
 have hs:∀b,Bk W0 T' b->(W.setRow g xs).heap[b]? = W.heap[b]?:=λb hb=>cw W g b _ (λe=>by subst e;rcases hb with hb|hb;exact hz.nt hb;omega)
 have hm:∀(b:Nat) es c,W.heap[b]? = I (.map es c)->(W.setRow g xs).heap[b]? = I (.map es c):=λb es c hc=>by
  have:b≠g:=λe=>by subst e;have hb:=hz.bk;unfold mg at hb;rw[hb] at hc;cases hc
  rw[cw W g b _ this];exact hc
 have x:=qq6 h.wt hs hm;obtain⟨k1,-⟩:=h.wt.frame (w':=W.setRow g xs) (by rw[dr];exact af _) (λk hk=>hs k (.inr hk)) (λk hk=>hs k (.inl hk)) hm;have hz':W.heap.size<=(W.setRow g xs).heap.size:=by rw[dr];exact af _
 have cx_:∀i,(W.setRow g xs).cell? ⟨bx,i,V⟩=W.cell? ⟨bx,i,V⟩:=λi=>cg (hs bx (.inl h.ck.tx))
 have cb:∀i,(W.setRow g xs).cell? ⟨b2,i,V⟩=W.cell? ⟨b2,i,V⟩:=λi=>cg (hs b2 (.inl h.ck.row.1))
 exact⟨⟨k1,⟨h.no.ext.trans x,h.no.new,by rw[dr];exact h.no.size,h.no.os,h.no.tape,h.no.output,λb hb hp=>(cw W g b _ kg).trans (h.no.keep b hb hp),λh=>by cases h⟩,
  λe=>⟨(qx8 xs h.wt hz hlo (h.pu e).1 hg).2.2.1,λdp=>((h.pu e).2 dp).same x.sub hs⟩,
  ⟨h.ck.tx,x.row _ _ _ h.ck.tx h.ck.rx,by rw[cx_];exact h.ck.c1,by rw[cx_];exact h.ck.c13,h.ck.lt,h.ck.m63,h.ck.o,h.ck.kn.mono x (af _)⟩,h.ge,(hs bx (.inl h.ck.tx)).trans h.xb,zx x h.ty,h.k0,h.k1,h.nm.same x hz' hs,h.eq,h.ne,λk v hv=>by rw[cb];exact h.ra k v hv,zx x h.te,h.e7,λrs hD=>⟨(h.sc rs hD).1,(h.sc rs hD).2.same x hz' hs⟩⟩,x,hz',hs⟩
theorem qbh.done{id:Int}{f:Nat->ByteArray}{now:Int}{W:nu}(h:qbh W0 T w cs cs1 es s id f bx b2 off2 m c kk o2 now ct A7 n7 c7 T' W)(hco:W.cell? ⟨b2,o2+2,V⟩=I (U O now))(hh:qxo W0 T' W A7 n7 rs id)(rt:TyValc W0 T' W 0 (.agg FM) (.agg rs)):DI W0 T' W cs1 s id f rs:=
 ⟨b2,off2,m,c,kk,now,A7,n7,c7,⟨h.k1,h.ck.lt,h.nm,h.eq,h.ne,h.k0,by rw[h.ck.o];exact hco,by
   rw[h.ck.o]
   exact h.ra 7 _ (by rw[ax];exact h.e7),hh,rt⟩⟩
theorem qyx.uniq{A:Option Addr}{n:Nat}{ids ids':Nat->Int}(h:qyx W0 T w A n ids)(h':qyx W0 T w A n ids'):∀j,j<n->ids j=ids' j:=λj hj=>by
 obtain⟨xs,q1,q2⟩:=h j hj;obtain⟨ys,p1,p2⟩:=h' j hj;obtain rfl:=zo.uniq q1 p1;rw[q2] at p2;exact Value.int.inj (oi p2) |>.2
theorem qxo.row{id:Int}(h:qxo W0 T w A n rs id)(hi:qyx W0 T w A n ids)(hj:j<n)(hne:∀i,i<j->ids i≠id)(he:ids j=id)(hx:zo cx W0 T w FM A j xs):∀dp,jw cx.tb W0 T w (dp+1) FM rs xs:=by
 obtain⟨ids',j',ys,k1,k2,k3,k4,k5,k6⟩:=h;have hu:=qyx.uniq hi k1
 obtain rfl:j'=j:=by
  rcases pf j' j with h|h|h
  .exact absurd ((hu j' k2).trans k4) (hne j' h)
  .exact h
  .exact absurd ((hu j hj).symm.trans he) (k3 j h)
 obtain rfl:=zo.uniq k5 hx;exact k6
theorem qxo.no{id:Int}(h:qxo W0 T w A n rs id)(hi:qyx W0 T w A n ids)(hne:∀i,i<n->ids i≠id):False:=by
 obtain⟨ids',j',ys,k1,k2,k3,k4,-⟩:=h;exact hne j' k2 ((qyx.uniq hi k1 j' k2).trans k4)
theorem q1q{f:Nat->ByteArray}(hw:WTc W0 T' w')(kn:CVc W0 T' w' 0 (.sl 1 84 63) (ng (I ⟨b2,off2,V⟩) m c))(h:qkn W0 T w (I ⟨b2,off2,V⟩) m f)(hk:∀j,j<m->w'.cell? ⟨b2,off2+j*13+0,V⟩=w.cell? ⟨b2,off2+j*13+0,V⟩):qkn W0 T' w' (I ⟨b2,off2,V⟩) m f:=λj hj=>by
 have hF:FK.length=13:=ki;obtain⟨xs,h1,h2⟩:=h j hj;obtain⟨ys,p1⟩:=jr (f:=FK) hw ki kn hj;obtain⟨b,off,e,-,-,q1,q2,-⟩:=id h1;cases e;obtain⟨b',off',e',-,-,q1',q2',-⟩:=id p1;cases e';rw[hF] at q2 q2';refine⟨ys,p1,?_⟩;rw[<-q2' 0 kg,hk j hj,q2 0 kg];exact h2
def qr4(W0:nu)(b2 off2 m c:Nat)(now:Int)(T':Nat->Prop)(W:nu)(v:ny):Prop:=∃xs,v=.agg xs/\TyValc W0 T' W 0 (.agg FC) (.agg xs)/\xs[0]? = I (U O now)/\xs[1]? = I (ng (I ⟨b2,off2,V⟩) m c)
theorem qr4.mono{b2 off2 m c:Nat}{now:Int}{T2:Nat->Prop}(h:qr4 W0 b2 off2 m c now T1 w1 v)(x:xq T1 w1 T2 w2):qr4 W0 b2 off2 m c now T2 w2 v:=by
 obtain⟨xs,h1,h2,h3⟩:=h;exact⟨xs,h1,zx x h2,h3⟩
theorem q45{W:nu}{now:Int}(hw:WTc W0 T' W)(hck:Ck W0 T' W bx b2 off2 m c kk o2)(h0:W.cell? ⟨bx,0,V⟩=I (U O now)):∃xs,W.rangeAt bx 0 xs.toList/\xs.size=13/\qr4 W0 b2 off2 m c now T' W (.agg xs):=by
 have hF:FC.length=13:=ki
 have hcell:∀i,i<13->∃v,W.cell? ⟨bx,i,V⟩=I v/\∀ct,FC[i]? = I ct->CVc W0 T' W 0 ct v:=λi hi=>by
  have hp:=qx5 (l:=(cx.tb.flat 80).getD []) (m:=FC) (o:=0) ki i (by rw[hF];exact hi);rw[bu] at hp;have hl:i<FC.length:=by rw[hF];exact hi
  have hp':=hp;rw[ah hl] at hp;obtain⟨cb,q1,q2⟩:=ea.1 hp;obtain⟨v,p1,p2⟩:=hw.load (hck.ptr 0) q1;rw[bu] at p1;refine⟨v,p1,λct hct=>?_⟩;rw[ah hl] at hct;cases hct;rw[<-q2];exact CV.unk.2 p2
 have hof:∀i,i<13->(aek λi:Fin 13=>(W.cell? ⟨bx,i.1,V⟩).getD mc)[i]? = W.cell? ⟨bx,i,V⟩:=λi hi=>by
  obtain⟨v,p1,-⟩:=hcell i hi;rw[p1];simp[hi,p1]
 generalize hxs:(aek λi:Fin 13=>(W.cell? ⟨bx,i.1,V⟩).getD mc)=xs at hof;have hz:xs.size=13:=by rw[<-hxs];simp
 refine⟨xs,λk v hv=>?_,hz,xs,rfl,⟨xs,rfl,by rw[hz,hF],λi ct v hi hv=>?_⟩,by rw[hof 0 kg];exact h0,by rw[hof 1 kg];exact hck.c1⟩
 .rw[ax] at hv;have:k<13:=by rw[<-hz];exact(cl.1 hv).1
  rw[bu,<-hof k this];exact hv
 .have hi':i<13:=by rw[<-hz];exact(cl.1 hv).1
  obtain⟨u,p1,p2⟩:=hcell i hi';rw[hof i hi',p1] at hv;cases hv;exact p2 ct hi
theorem zg.qg7{W:nu}(h:zg T w pu T' W):zg T w .no T' W:=⟨h.ext,h.new,h.size,h.os,h.tape,h.output,λb hb hp=>h.keep b hb (hp.elim (λh=>by cases h) .inr),λh=>by cases h⟩
def RsB(W0:nu)(b2 o2:Nat)(id:Int)(v:ny)(T':Nat->Prop)(W:nu):Prop:=∃rs A n cc,v=.agg rs/\W.cell? ⟨b2,o2+12,V⟩=I (ng A n cc)/\TyValc W0 T' W 0 (.agg FM) (.agg rs)/\qxo W0 T' W A n rs id
def q39(W0:nu)(u v:ny)(T':Nat->Prop)(W:nu):Prop:=∃rs,u=.agg rs/\One W0 T' W rs v
theorem q39.same{u v:ny}{T1 T2:Nat->Prop}{w1 w2:nu}(h:q39 W0 u v T1 w1)(x:xq T1 w1 T2 w2)(hs:w1.heap.size<=w2.heap.size)(hk:∀b,Bk W0 T1 b->w2.heap[b]? = w1.heap[b]?):q39 W0 u v T2 w2:=by
 obtain⟨rs,h1,h2⟩:=h;exact⟨rs,h1,h2.same x hs hk⟩
structure RB(W0:World)(T:Nat->Prop)(w:World)(T8:Nat->Prop)(w8:World)(bx b2 off2 m c kk o2 g6:Nat)(id now:Int)(f:Nat->ByteArray)(l1 l5 l6 l7 l8:Bool)(v1 v5 v6 v8:Value)(T':Nat->Prop)(W:World):Prop where
 wt:WTc W0 T' W
 hi:zg T w .no T' W
 ck:Ck W0 T' W bx b2 off2 m c kk o2
 c0:W.cell? ⟨bx,0,V⟩=I (U O now)
 nm:qkn W0 T' W (I ⟨b2,off2,V⟩) m f
 co:W.cell? ⟨b2,o2+2,V⟩=I (U O now)
 pu:l7=ns->l5=ns->zg T8 w8 .pure T' W
 rs:l5=nr->RsB W0 b2 o2 id v5 T' W
 on:l6=nr->q39 W0 v5 v6 T' W
 o8:l8=nr->q39 W0 v5 v8 T' W
 cn:l1=nr->qr4 W0 b2 off2 m c now T' W v1
 bx:∃c6,yh T' W g6 51 c6/\c6.size=13/\(l7=nr->v1=.agg c6)
section
variable {T8:Nat->Prop}{w8:nu}{g6:Nat}{id now:Int}{f:Nat->ByteArray}{l1 l5 l6 l7 l8:Bool}{v1 v5 v6 v8:ny}{W W2:nu}{T2:Nat->Prop}
theorem RB.same(h:RB W0 T w T8 w8 bx b2 off2 m c kk o2 g6 id now f l1 l5 l6 l7 l8 v1 v5 v6 v8 T' W)(hw:WTc W0 T2 W2)(x:xq T' W T2 W2)(hs:W.heap.size<=W2.heap.size)(hk:∀b,Bk W0 T' b->W2.heap[b]? = W.heap[b]?)(hi:zg T w .no T2 W2){m7:Bool}(hp:m7=ns->l5=ns->zg T8 w8 .pure T2 W2)(hb:∃c6,yh T2 W2 g6 51 c6/\c6.size=13/\(m7=nr->v1=.agg c6)) :
  RB W0 T w T8 w8 bx b2 off2 m c kk o2 g6 id now f l1 l5 l6 m7 l8 v1 v5 v6 v8 T2 W2:=by
 have c1:∀i,W2.cell? ⟨bx,i,V⟩=W.cell? ⟨bx,i,V⟩:=λi=>cg (hk bx (.inl h.ck.tx))
 have cb:∀i,W2.cell? ⟨b2,i,V⟩=W.cell? ⟨b2,i,V⟩:=λi=>cg (hk b2 (.inl h.ck.row.1))
 refine⟨hw,hi,⟨x.sub _ h.ck.tx,x.row _ _ _ h.ck.tx h.ck.rx,by rw[c1];exact h.ck.c1,by rw[c1];exact h.ck.c13,h.ck.lt,h.ck.m63,h.ck.o,h.ck.kn.mono x (af _)⟩,by rw[c1];exact h.c0,h.nm.same x hs hk,by rw[cb];exact h.co,hp,λe=>?_,λe=>(h.on e).same x hs hk,λe=>(h.o8 e).same x hs hk,λe=>(h.cn e).mono x,hb⟩;obtain⟨rs,A,n,cc,q1,q2,q3,q4⟩:=h.rs e;exact⟨rs,A,n,cc,q1,by rw[cb];exact q2,zx x q3,q4.same x hs hk⟩
theorem RB.call(h:RB W0 T w T8 w8 bx b2 off2 m c kk o2 g6 id now f l1 l5 l6 l7 l8 v1 v5 v6 v8 T' W)(hw:WTc W0 T2 W2)(hh:zg T' W .pure T2 W2):RB W0 T w T8 w8 bx b2 off2 m c kk o2 g6 id now f l1 l5 l6 l7 l8 v1 v5 v6 v8 T2 W2:=by
 obtain⟨c6,k1,k2,k3⟩:=h.bx;exact h.same hw hh.ext hh.size (qzq h.wt hh) (h.hi.trans hh.qg7) (λe e'=>(h.pu e e').trans hh) ⟨c6,k1.call hh,k2,k3⟩
theorem RB.row(h:RB W0 T w T8 w8 bx b2 off2 m c kk o2 g6 id now f l1 l5 l6 l7 l8 v1 v5 v6 v8 T' W)(hv:v1=.agg xs)(hz:xs.size=13)(hlo:W0.heap.size<=g6)(hg:w.heap.size<=g6):∃c6,yh T' W g6 51 c6/\c6.size=13/\RB W0 T w T8 w8 bx b2 off2 m c kk o2 g6 id now f l1 l5 l6 nr l8 v1 v5 v6 v8 T' (W.setRow g6 xs):=by
 obtain⟨c6,k1,k2,k3⟩:=h.bx;refine⟨c6,k1,k2,?_⟩;have hs:∀b,Bk W0 T' b->(W.setRow g6 xs).heap[b]? = W.heap[b]?:=λb hb=>cw W g6 b _ (λe=>by subst e;rcases hb with hb|hb;exact k1.nt hb;omega)
 have hm:∀(b:Nat) es c,W.heap[b]? = I (.map es c)->(W.setRow g6 xs).heap[b]? = I (.map es c):=λb es c hc=>by
  have:b≠g6:=λe=>by subst e;have hb:=k1.bk;unfold mg at hb;rw[hb] at hc;cases hc
  rw[cw W g6 b _ this];exact hc
 have x:=qq6 h.wt hs hm;obtain⟨w1,-⟩:=h.wt.frame (w':=W.setRow g6 xs) (by rw[dr];exact af _) (λk hk=>hs k (.inr hk)) (λk hk=>hs k (.inl hk)) hm
 exact h.same w1 x (by rw[dr];exact af _) hs
  ⟨h.hi.ext.trans x,h.hi.new,by rw[dr];exact h.hi.size,h.hi.os,h.hi.tape,h.hi.output,λb hb hp=>(cw W g6 b _ kg).trans (h.hi.keep b hb hp),λh=>by cases h⟩
  (λe=>by cases e)
  ⟨xs,⟨k1.nt,gh W g6 _ xs 51 (0,0) k1.bk⟩,hz,λ_=>hv⟩
theorem RB.resp(h:RB W0 T w T8 w8 bx b2 off2 m c kk o2 g6 id now f l1 l5 l6 l7 l8 v1 v5 v6 v8 T' W)(h6:l6=ns)(h8:l8=ns)(hr:RspP W0 T' W bx b2 off2 m c kk o2 id (np v) W2):∃T2,RB W0 T w T8 w8 bx b2 off2 m c kk o2 g6 id now f l1 nr l6 l7 l8 v1 v v6 v8 T2 W2:=by
 obtain⟨T2,rs,A,n,cc,e,q1,q2,q3,q4,q5,q6,q7,q8⟩:=hr;obtain rfl:=jz e;obtain⟨c6,k1,k2,k3⟩:=h.bx;refine⟨T2,q1,h.hi.trans q2,q3,q4.trans h.c0,q1q q1 q3.kn h.nm (λj hj=>q5 j 0 hj (.inl rfl)),?_,(λ_ e=>by cases e),λ_=>⟨rs,A,n,cc,rfl,q6,q7,q8⟩,(λe=>by rw[h6] at e;cases e),(λe=>by rw[h8] at e;cases e),λe=>(h.cn e).mono q2.ext,⟨c6,k1.call q2,k2,k3⟩⟩;rw[<-h.ck.o,q5 kk 2 h.ck.lt (.inr rfl),h.ck.o];exact h.co
theorem RB.wrap(h:RB W0 T w T8 w8 bx b2 off2 m c kk o2 g6 id now f l1 l5 l6 l7 l8 v1 v5 v6 v8 T' W)(h5:l5=nr):∃rs,v5=.agg rs/\rs.size=FM.length/\RB W0 T w T8 w8 bx b2 off2 m c kk o2 g6 id now f l1 l5 nr l7 l8 v1 v5 (ng (I ⟨W.heap.size,0,V⟩) 1 1) v8 (add T' W.heap.size) (W.alloc (.cells rs 31)):=by
 obtain⟨rs,A,n,cc,q1,q2,q3,q4⟩:=h.rs h5;obtain⟨j1,j2,j3,j4⟩:=qcn h.wt (e:=31) (f:=FM) ki kj ki ki q3 1 (af _);have hc:=h.call j1 j2;exact⟨rs,q1,zf q3,hc.wt,hc.hi,hc.ck,hc.c0,hc.nm,hc.co,hc.pu,hc.rs,λ_=>⟨rs,q1,_,_,rfl,j3.mono (xq.refl _ _) (Nat.zero_le _),rs,j4,λdp=>jw.refl j1 _ (zx j2.ext q3)⟩,hc.o8,hc.cn,hc.bx⟩
end
end
end Sy
end Go.Proofs.YtmadfhgiaonnlaaGreatDoor
