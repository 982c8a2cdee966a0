import Derived.Test.YtmadfhgiaonnlaaGreatDoorPk11
open Array renaming getElem?_append_left->dz,length_toList->aw,getElem?_toList->ax,getElem?_eq_some_iff->cl,getElem?_eq_getElem->ak,getD_eq_getD_getElem?->au
open Go renaming wpList_load_row->bp,wpList_store_rowTo->br,bodyPost_ret->du,setRow_heap->gh,cell_of_row->dx,size_setRow->dr,setRow_other->cw,wpList_load_mid->gd
open Go.Act renaming put->ez
open Go.Lib renaming hid->aa
open Go.Proofs.Tryz renaming prog->ab,underlying51->ej,underlying31->bz,underlying82->dt,func116->ade
open Go.Region renaming binds->dy
open Go.RowKit.Below renaming refl->aj,heap_alloc->iy,drew->tg
open Go.World renaming cell?_of_block->cg,cell?->lg
open List renaming range->ay,drop_succ_cons->cq,drop_zero->df,getElem?_eq_getElem->ah,mem_cons_self->ff,mem_of_getElem?->cm,getElem?_eq_none->dn,getElem?_eq_some_iff->al
open List.range renaming loop->dc
open Nat renaming lt_of_lt_of_le->bf,le_refl->af,zero_add->bu,add_zero->ir
open Bool renaming false->ns,true->nr
open Go renaming Program->ma,TypeId->nz,Value->ny,World->nu,maxLen->mf,undef->mc
open Go.Ending renaming returned->np
open Go.IntKind renaming i64->O
open Go.Value renaming bool->ni,int->U,pointer->nj,slice->ng,string->nh,tuple->nq
open Option renaming none->V,some->I
open Go.Proofs.YtmadfhgiaonnlaaGreatDoor renaming Blk->mg
set_option maxRecDepth 100000
set_option maxHeartbeats 4000000
set_option linter.unusedVariables false
set_option linter.unusedSimpArgs false
namespace Go.Proofs.YtmadfhgiaonnlaaGreatDoor
namespace Sy
open Go.RowKit Go.Great
variable {a:Act}{es ms:Array ny}{id:Int}{pu:Lv}{e i k t:Nat}{o:Oper}{A:Option Addr}{v:ny}
section
variable {W0:nu}{T T':Nat->Prop}{w w':nu}{base:Nat}{bx b2 off2 m c kk o2:Nat}
def CutQ(Q:Prop)(ix:Int)(w2 wd:nu)(v:ny):Prop:=∃q:Bool,v=ni q/\(q=ns↔Q/\0<=ix)/\Below w2.heap.size w2 wd
theorem lit13{cs1:Array ny}(h:cs1.size=13):∃u0 u1 u2 u3 u4 u5 u6 u7 u8 u9 u10 u11 u12,cs1=#[u0,u1,u2,u3,u4,u5,u6,u7,u8,u9,u10,u11,u12]:=by
 obtain⟨l⟩:=cs1;have h:l.length=13:=h;rcases l with _|⟨u0,_|⟨u1,_|⟨u2,_|⟨u3,_|⟨u4,_|⟨u5,_|⟨u6,_|⟨u7,_|⟨u8,_|⟨u9,_|⟨u10,_|⟨u11,_|⟨u12,_|⟨u13,l⟩⟩⟩⟩⟩⟩⟩⟩⟩⟩⟩⟩⟩⟩<;>first|(simp at h;done)|exact⟨_,_,_,_,_,_,_,_,_,_,_,_,_,rfl⟩
def qpm(W0:nu)(T:Nat->Prop)(w:nu)(cs cs1 es:Array ny)(s:ByteArray)(id:Int)(f:Nat->ByteArray)(bx b2 off2 m c kk o2:Nat)(now ct:Int)(A7:Option Addr)(n7 c7:Nat)(g3 g5 g6:Nat)(ms:Array ny)(k:Nat)(v:ny)(T':Nat->Prop)(W:nu):Prop:=match k with
 | 0=>v=.pointer (I ⟨b2,o2,V⟩)
 | 1=>v=.pointer (I ⟨bx,0,V⟩)
 | 2=>v=.pointer (I ⟨bx,0,V⟩)
 | 3=>v=.int O now
 | 4=>v=.pointer (I ⟨b2,o2,V⟩)
 | 5=>v=.pointer (I ⟨b2,o2+2,V⟩)
 | _=>True
def StRt5(W0:nu)(T:Nat->Prop)(w:nu)(cs cs1 es:Array ny)(s:ByteArray)(id:Int)(f:Nat->ByteArray)(bx b2 off2 m c kk o2:Nat)(now ct:Int)(A7:Option Addr)(n7 c7:Nat)(g3 g5 g6:Nat)(ms:Array ny)(L:Nat->Bool)(vals:Nat->ny)(W:nu):Prop:=∃(T':Nat->Prop),((L 6=ns->qbh W0 T w cs cs1 es s id f bx b2 off2 m c kk o2 now ct A7 n7 c7 T' W/\W.cell? ⟨b2,o2+2,V⟩=I (U O ct)/\yh T' W g3 51 cs/\yh T' W g5 31 ms/\yh T' W g6 51 zC)/\(L 6=nr->qbh W0 T w cs cs1 es s id f bx b2 off2 m c kk o2 now ct A7 n7 c7 T' W/\W.cell? ⟨b2,o2+2,V⟩=I (U O now)/\yh T' W g3 51 cs/\yh T' W g5 31 ms/\yh T' W g6 51 zC))/\∀k,k<7->L k=nr->qpm W0 T w cs cs1 es s id f bx b2 off2 m c kk o2 now ct A7 n7 c7 g3 g5 g6 ms k (vals k) T' W
def qg3(W0:nu)(ou ov:Option (Array ny))(es:Array ny)(T':Nat->Prop)(W:nu)(v:ny):Prop:=∃u x,v=nq #[.agg es,zL,u,x]/\qaw W0 ou T' W u/\qaw W0 ov T' W x
theorem qg3.same{ou ov:Option (Array ny)}{es:Array ny}{v:ny}{T1 T2:Nat->Prop}{w1 w2:nu}(h:qg3 W0 ou ov es T1 w1 v)(x:xq T1 w1 T2 w2)(hs:w1.heap.size<=w2.heap.size)(hk:∀b,Bk W0 T1 b->w2.heap[b]? = w1.heap[b]?):qg3 W0 ou ov es T2 w2 v:=by
 obtain⟨u,y,h1,h2,h3⟩:=h;exact⟨u,y,h1,h2.same x hs hk,h3.same x hs hk⟩
def RecC(W0:nu)(T:Nat->Prop)(w:nu)(A7:Option Addr)(n7:Nat)(id:Int)(ms:Array ny)(ou ov:Option (Array ny)):Prop:=∃ids,qyx W0 T w A7 n7 ids /\
 ((ou=V/\∃xs j,ov=I xs/\j<n7/\(∀i,i<j->ids i≠id)/\ids j=id/\zo cx W0 T w FM A7 j xs)\/(ou=I ms/\ov=V/\∀i,i<n7->ids i<id)\/(ou=V/\ov=V/\∀i,i<n7->ids i≠id))
theorem rec_(hw:WTc W0 T w)(te:TyValc W0 T w 0 (.agg FE) (.agg es)){A7:Option Addr}{n7 c7:Nat}(e7:es[7]? = I (ng A7 n7 c7))(hm:TyValc W0 T w 0 (.agg FM) (.agg ms))(h0:ms[0]? = I (U O 1))(h1:ms[1]? = I (U O id)) :
  ∃ou ov,RecC W0 T w A7 n7 id ms ou ov/\∀(T':Nat->Prop) (W:nu),WTc W0 T' W->zg T w .pure T' W->Calls ab 22 #[.agg es,.agg ms] W λe w'=>∃v T2,e=np v/\WTc W0 T2 w'/\zg T' W .pure T2 w'/\qg3 W0 ou ov es T2 w' v:=by
 have ht7:CVc W0 T w 0 (.sl 1 31 1024) (ng A7 n7 c7):=by
  obtain⟨u,q1,q2⟩:=jd te (k:=7) (ct:=.sl 1 31 1024) ki;rw[e7] at q1;cases q1;exact q2
 obtain⟨ids,hids⟩:=ids_of hw ht7;have key:∀(T':Nat->Prop) (W:nu),WTc W0 T' W->zg T w .pure T' W->Calls ab 22 #[.agg es,.agg ms] W (RecP W0 T' W es ms A7 n7 ids id):=λT' W hw' hh=>q58 hw' (zx hh.ext te) (zx hh.ext hm) e7 h0 h1 (hids.hist hh)
 by_cases hA:∃j,j<n7/\ids j=id
 .obtain⟨j,hj,hj2,hj3⟩:∃j,j<n7/\ids j=id/\∀i,i<j->ids i≠id:=by
   obtain⟨j,h1,h2⟩:=hA
   induction j using Nat.strongRecOn with
   | _ j ih=>
     by_cases hi:∃i,i<j/\ids i=id
     .obtain⟨i,q1,q2⟩:=hi;exact ih i q1 kg q2
     .exact⟨j,h1,h2,λi q1 q2=>hi ⟨i,q1,q2⟩⟩
  obtain⟨xs,hxs⟩:=jr (f:=FM) hw ki ht7 hj;refine⟨V,I xs,⟨ids,hids,.inl ⟨rfl,xs,j,rfl,hj,hj3,hj2,hxs⟩⟩,λT' W hw' hh=>(key T' W hw' hh).mono ?_⟩;rintro e w' ⟨T2,u,v,rfl,g1,g2,h|⟨-,h,-⟩|⟨-,-,h,-⟩⟩
  .obtain⟨rfl,j',xs',k1,k2,k3,k4,k5⟩:=h
   obtain rfl:j'=j:=by
    rcases Nat.lt_trichotomy j' j with h|h|h
    .exact absurd k2 (hj3 j' h)
    .exact h
    .exact absurd hj2 (k3 j h)
   obtain rfl:=zo.uniq k4 (hxs.hist hh);exact⟨_,T2,rfl,g1,g2,_,_,rfl,rfl,k5⟩
  .exact absurd (h j hj) kg
  .exact absurd hj2 (h j hj)
 .have hne:∀i,i<n7->ids i≠id:=λi h1 h2=>hA ⟨i,h1,h2⟩
  by_cases hB:∀i,i<n7->ids i<id
  .refine⟨I ms,V,⟨ids,hids,.inr (.inl ⟨rfl,rfl,hB⟩)⟩,λT' W hw' hh=>(key T' W hw' hh).mono ?_⟩;rintro e w' ⟨T2,u,v,rfl,g1,g2,⟨-,j,xs,k1,k2,-⟩|⟨rfl,-,k⟩|⟨-,-,-,h⟩⟩
   .exact absurd k2 (hne j k1)
   .exact⟨_,T2,rfl,g1,g2,_,_,rfl,k,rfl⟩
   .exact absurd hB h
  .refine⟨V,V,⟨ids,hids,.inr (.inr ⟨rfl,rfl,hne⟩)⟩,λT' W hw' hh=>(key T' W hw' hh).mono ?_⟩;rintro e w' ⟨T2,u,v,rfl,g1,g2,⟨-,j,xs,k1,k2,-⟩|⟨-,h,-⟩|⟨rfl,rfl,-,-⟩⟩
   .exact absurd k2 (hne j k1)
   .exact absurd h hB
   .exact⟨_,T2,rfl,g1,g2,_,_,rfl,rfl,rfl⟩
def qqo(W0:nu)(T6:Nat->Prop)(w6:nu)(cs es:Array ny)(bx b2 o2 g3 g5 g6:Nat)(ms:Array ny)(ou ov:Option (Array ny))(k:Nat)(v:ny)(T':Nat->Prop)(W:nu):Prop:=match k with
 | 0=>v=.pointer (I ⟨b2,o2,V⟩)
 | 1=>v=.pointer (I ⟨b2,o2,V⟩)
 | 2=>v=.pointer (I ⟨b2,o2+5,V⟩)
 | 3=>v=.agg es
 | 4=>v=.agg ms
 | 5=>qg3 W0 ou ov es T' W v
 | 6=>qg3 W0 ou ov es T' W v
 | 7=>v=.agg es
 | 8=>v=.slice V 0 0
 | 9=>qaw W0 ou T' W v
 | 10=>qaw W0 ov T' W v
 | 13=>v=.slice V 0 0
 | 14=>qaw W0 ou T' W v
 | 15=>qaw W0 ov T' W v
 | _=>True
def StRt6(W0:nu)(T6:Nat->Prop)(w6:nu)(cs es:Array ny)(bx b2 o2 g3 g5 g6:Nat)(ms:Array ny)(ou ov:Option (Array ny))(L:Nat->Bool)(vals:Nat->ny)(W:nu):Prop:=∃(T':Nat->Prop),(WTc W0 T' W/\zg T6 w6 .pure T' W/\yh T' W g3 51 cs/\yh T' W g5 31 ms/\yh T' W g6 51 zC/\(L 11=nr->∃g10 cur,vals 11=nj (I ⟨g10,0,V⟩)/\yh T' W g10 82 cur/\cur.size=8/\w6.heap.size<=g10/\(L 12=nr->cur=es)))/\∀k,k<16->L k=nr->qqo W0 T6 w6 cs es bx b2 o2 g3 g5 g6 ms ou ov k (vals k) T' W
theorem qvu{cs:Array ny}{bx b2 o2 g3 g5 g6:Nat}{ou ov:Option (Array ny)}{T6:Nat->Prop}{w6:nu}{T1 T2:Nat->Prop}{w1 w2:nu}(x:xq T1 w1 T2 w2)(hs:w1.heap.size<=w2.heap.size)(hk:∀b,Bk W0 T1 b->w2.heap[b]? = w1.heap[b]?)(h:qqo W0 T6 w6 cs es bx b2 o2 g3 g5 g6 ms ou ov k v T1 w1):qqo W0 T6 w6 cs es bx b2 o2 g3 g5 g6 ms ou ov k v T2 w2:=by
 unfold qqo at h ⊢
 split at h<;>first
  | exact h
  | exact h.same x hs hk
  | trivial
def qpt(W0:nu)(T7:Nat->Prop)(w7:nu)(cur:Array ny)(b2 o2 g6 g10:Nat)(k:Nat)(v:ny)(T':Nat->Prop)(W:nu):Prop:=match k with
 | 0=>v=.pointer (I ⟨b2,o2,V⟩)
 | 1=>v=.agg cur
 | 2=>v=.pointer (I ⟨b2,o2,V⟩)
 | 3=>v=.pointer (I ⟨b2,o2+5,V⟩)
 | _=>True
def StRt7(W0:nu)(T7:Nat->Prop)(w7:nu)(cur:Array ny)(b2 o2 g6 g10:Nat)(L:Nat->Bool)(vals:Nat->ny)(W:nu):Prop:=∃(T':Nat->Prop),(WTc W0 T' W/\zg T7 w7 .pure T' W/\yh T' W g6 51 zC/\yh T' W g10 82 cur)/\∀k,k<5->L k=nr->qpt W0 T7 w7 cur b2 o2 g6 g10 k (vals k) T' W
def qk2(W0:nu)(T:Nat->Prop)(w:nu)(T8:Nat->Prop)(w8:nu)(bx b2 off2 m c kk o2 g6:Nat)(id now:Int)(f:Nat->ByteArray)(bb ob c8:Nat)(ys:Array ny)(k:Nat)(v:ny)(T':Nat->Prop)(W:nu):Prop:=match k with
 | 0=>v=.pointer (I ⟨bx,0,V⟩)
 | 2=>v=.slice (I ⟨bb,ob,V⟩) 1 c8
 | 3=>v=.pointer (I ⟨bb,ob,V⟩)
 | 4=>v=.agg ys
 | _=>True
def StRt11(W0:nu)(T:Nat->Prop)(w:nu)(T8:Nat->Prop)(w8:nu)(bx b2 off2 m c kk o2 g6:Nat)(id now:Int)(f:Nat->ByteArray)(bb ob c8:Nat)(ys:Array ny)(L:Nat->Bool)(vals:Nat->ny)(W:nu):Prop:=∃(T':Nat->Prop),(RB W0 T w T8 w8 bx b2 off2 m c kk o2 g6 id now f (L 1) (L 5) (L 6) (L 7) (L 8) (vals 1) (vals 5) (vals 6) (vals 8) T' W)/\∀k,k<9->L k=nr->qk2 W0 T w T8 w8 bx b2 off2 m c kk o2 g6 id now f bb ob c8 ys k (vals k) T' W
theorem recv_(qd4:qm ab cx W0 62 quf)(hH:∀f∈[91,92,93,94,95,96,97],qm ab cx W0 f quk)(hw:WTc W0 T w){cs:Array ny}(hc:TyValc W0 T w base (.agg FC) (.agg cs))(hm:TyValc W0 T w base (.agg FM) (.agg ms)){act:Int}(h0:ms[0]? = I (U O 1))(h1:ms[1]? = I (U O id))(h2:ms[2]? = I (U O act))
  {Q:Prop} (hQ:Q->(1<=id/\id<=2147483647)/\(Mv.qjr act).2=nr) (hval:∀W:nu,(∀b,b<W0.heap.size->W.heap[b]? = W0.heap[b]?)->W0.heap.size<=W.heap.size->Calls ab 19 #[.agg ms] W λe w'=>Mv.II Q e/\Hid (Below W.heap.size W w'))
  {A1:Option Addr} {m ca:Nat} {f:Nat->ByteArray} (hk1:cs[1]? = I (ng A1 m ca)) (hnm:qkn W0 T w A1 m f) (hn:m<=63) (s:ByteArray) :
  Calls ab 9 #[.agg cs,nh s,.agg ms] w (RcvP W0 T w cs s id f Q):=by
 have HB:=aa (qp (qp (zy w (.cells cs 51)) (.cells ms 31)) (.cells zC 51));have HE3:Hid (mg (((w.alloc (.cells cs 51)).alloc (.cells ms 31)).alloc (.cells zC 51)) w.heap.size 51 cs):=aa (((mg.new w 51 cs).alloc _).alloc _)
 have HE5:Hid (mg (((w.alloc (.cells cs 51)).alloc (.cells ms 31)).alloc (.cells zC 51)) (w.heap.size+1) 31 ms):=aa (by
  have:=(mg.new (w.alloc (.cells cs 51)) 31 ms).alloc (.cells zC 51)
  rwa [show(w.alloc (.cells cs 51)).heap.size=w.heap.size+1 by simp] at this)
 have HE6:Hid (mg (((w.alloc (.cells cs 51)).alloc (.cells ms 31)).alloc (.cells zC 51)) (w.heap.size+1+1) 51 zC):=aa (by
  have:=mg.new ((w.alloc (.cells cs 51)).alloc (.cells ms 31)) 51 zC
  rwa [show((w.alloc (.cells cs 51)).alloc (.cells ms 31)).heap.size=w.heap.size+1+1 by simp] at this)
 have HSC:Hid ((ab.info? 51).map (·.size)=I cs.size):=aa (by rw[zf hc];kernel_rfl);have HSM:Hid ((ab.info? 31).map (·.size)=I ms.size):=aa (by rw[zf hm];kernel_rfl);have hoC:=xx hc;have hoM:=xx hm;have HOC:=aa hoC;have HOM:=aa hoM;have HLO:=aa hw.size;have HW:=aa hw;have HC:=aa hc;have HM:=aa hm;have H0:=aa h0;have H1:=aa h1;have H2:=aa h2;have HQ:=aa hQ;have HVAL:=aa hval;have HK1:=aa hk1;have HNM:=aa hnm;have HN:=aa hn;have HH62:=aa qd4;have HHH:=aa hH;clear hw hc hm h0 h1 h2 hQ hval hk1 hnm hn qd4 hH;go_enter Tryz.func9,Tryz.ntmps9;go_upto_region 1 with(fail);clear hoC hoM;generalize ((w.alloc (.cells cs 51)).alloc (.cells ms 31)).alloc (.cells zC 51)=w1 at *;go_wp2_with (refine bp rfl 51 (.tmp 3) rfl w.heap.size rfl 51 cs (0,0) _ HE3.out ej rfl HSC.out ?_);have hw1:=zh HW.out HB.out;have hh1:=zk (PU:=.pure) HW.out HB.out;refine(index_ hw1.1 HOC.out HK1.out (HNM.out.hist hh1) (by have:=HN.out;omega) s).mono ?_;rintro e w2 ⟨hix,hb2⟩;have HB2:=aa (qg HB.out hb2.out);have HF3:=aa (HE3.out.call hb2.out);have HF5:=aa (HE5.out.call hb2.out);have HF6:=aa (HE6.out.call hb2.out);clear hw1 hh1 hb2 HB HE3 HE5 HE6
 obtain⟨ix,rfl,hjx⟩:∃ix:Int,e=np (U O ix)/\((∃j:Nat,ix=j/\j<m/\f j=s/\∀i,i<j->f i≠s)\/(ix=-1/\∀i,i<m->f i≠s)):=by
  rcases hix with⟨j,rfl,h⟩|⟨rfl,h⟩
  .exact⟨_,rfl,.inl ⟨j,rfl,h⟩⟩
  .exact⟨_,rfl,.inr ⟨rfl,h⟩⟩
 have HIX:=aa hjx;have hix0:decide (ix<0)=decide (ix<0):=rfl;clear hix hix0 hjx;go_upto_region 2 with(fail);go_cut [23] (λs23 wd=>CutQ Q ix w2 wd s23)
 case first=>
  go_wp2_with (refine bp rfl 31 (.tmp 5) rfl (w.heap.size+1) rfl 31 ms (0,0) _ HF5.out bz rfl HSM.out ?_);refine(HVAL.out w2 (λb hb=>(HB2.out.block b (bf hb HLO.out)).trans (HW.out.alien b hb)) (Nat.le_trans HLO.out HB2.out.size)).mono ?_;rintro e w3 ⟨⟨k,rfl,hk⟩,hb3⟩;have HKQ:=aa hk;have HB3:=aa hb3.out;clear hk hb3;by_cases hk0:k=0
  .subst hk0;have hq:=HKQ.out.1 rfl;rcases Int.lt_or_le ix 0 with hlt|hle
   .have hd:decide (ix<0)=nr:=decide_eq_true hlt;go_wp2_with fail;go_meet;exact⟨nr,by simp[hd],⟨λh=>(by cases h),λh=>kg⟩,HB3.out⟩
   .have hd:decide (ix<0)=ns:=nc;go_wp2_with fail;go_meet;exact⟨ns,by simp[hd],⟨λ_=>⟨hq,hle⟩,λ_=>rfl⟩,HB3.out⟩
  .have hd:(k != 0)=nr:=by simpa using hk0
   go_wp2_with fail;go_meet;exact⟨nr,kq,⟨λh=>(by cases h),λh=>absurd (HKQ.out.2 h.1) hk0⟩,HB3.out⟩
 case rest=>
  obtain⟨q,rfl,hq,hb3⟩:=hcut;have HB3:=aa (qg HB2.out hb3);have HG3:=aa (HF3.out.call hb3);have HG5:=aa (HF5.out.call hb3);have HG6:=aa (HF6.out.call hb3);have HQQ:=aa hq;clear hq hb3 HF3 HF5 HF6 HB2;generalize wc=w3 at *;cases q with
  | true=>
    have HQC:Hid ((zC:Array ny).size=cs.size):=aa (by rw[zf HC.out];kernel_rfl);go_wp2_with (first|(refine bp rfl 51 (.tmp 3) rfl w.heap.size rfl 51 cs (0,0) _ HG3.out ej rfl HSC.out ?_)|(refine br rfl 51 (.tmp 6) (.tmp 24) rfl rfl (w.heap.size+1+1) cs rfl rfl 51 zC HG6.out HSC.out HQC.out HOC.out ?_));refine du (qze rfl _ _ (w.heap.size+1+1) 51 cs (0,0) _ rfl (gh _ _ _ cs 51 (0,0) HG6.out) ej rfl HSC.out) rfl ?_;have hw3:=zh HW.out HB3.out;have hh3:=zk (PU:=.pure) HW.out HB3.out;obtain⟨k1,x,k2,-⟩:=qx8 cs hw3.1 (⟨λh=>by have:=HW.out.lt h;omega,HG6.out⟩:yh T w3 (w.heap.size+1+1) 51 zC) (by have:=HLO.out;omega) hh3 kg;refine⟨T,cs,zL,rfl,k1,qzz (zx k2.ext HC.out) ki 0,⟨k2.ext,k2.new,k2.size,k2.os,k2.tape,k2.output,λb hb hp=>k2.keep b hb (.inl rfl),λh=>by cases h⟩,.inl rfl,λrs hq hD=>?_⟩;exfalso;obtain⟨b3,off3,m3,c3,kk3,now3,A3,n3,cc3,D⟩:=hD;have e1:=D.k1;rw[HK1.out] at e1;cases e1;rcases HIX.out with⟨j,hj,-⟩|⟨-,hno⟩
    .have:=HQQ.out.2 ⟨hq,kg⟩;cases this
    .exact hno kk3 D.lt D.eq
  | false=>
    obtain⟨hq,hix0⟩:=HQQ.out.1 rfl
    obtain⟨kk,rfl,hj1,hj2,hj3⟩:∃j:Nat,ix=j/\j<m/\f j=s/\∀i,i<j->f i≠s:=by
     rcases HIX.out with h|⟨h,-⟩
     .exact h
     .omega
    have HQ1:=aa hq;have HJ:=aa (And.intro hj1 (And.intro hj2 hj3));clear hq hix0 hj1 hj2 hj3 HIX HQQ;go_wp2_with (refine bp rfl 51 (.tmp 3) rfl w.heap.size rfl 51 cs (0,0) _ HG3.out ej rfl HSC.out ?_);have hw3:=zh HW.out HB3.out;have hh3:=zk (PU:=.pure) HW.out HB3.out;refine(copy20 hw3.1 (zx hh3.ext HC.out)).mono ?_;rintro e w4 ⟨cs1,T1,rfl,hw4,hh4,hc4,he4⟩;have hz1:cs1.size=13:=(zf hc4).trans ki;have HZN:Hid ((zJ:Array ny).size=(cs1++#[Value.int O (kk:Int)]).size):=aa (by simp[hz1]);have HZI:Hid ((ab.info? 80).map (·.size)=I (cs1++#[Value.int O (kk:Int)]).size):=aa (by rw[Array.size_append,hz1];kernel_rfl);have HZO:Hid ((cs1++#[Value.int O (kk:Int)]).all (·.oneCell')=nr):=aa (by rw[Array.all_append,xx hc4];simp[Value.oneCell']);obtain⟨es,b2,off2,c,now,ct,A7,n7,c7,hR,hco⟩:=r4_ (id:=id) (T1:=T1) (w1:=w4) HW.out HC.out HK1.out HNM.out HJ.out.1 HJ.out.2.1 HJ.out.2.2 hw4 (hh3.trans hh4) (qzz hc4 ki _) he4
    have HNOW:Hid (-9223372036854775808<=now/\now<=9223372036854775807):=aa (by
     obtain⟨v0,k0,⟨x,rfl,n0,n1⟩⟩:=jd hc4 (k:=0) (ct:=.int O 0 268435456) ki;rw[hR.k0] at k0;cases k0
     omega)
    have hT:∀g,w.heap.size<=g->¬T g:=λg hg h=>by have:=HW.out.lt h;omega
    have hz3:=(⟨hT _ (af _),HG3.out⟩:yh T w3 w.heap.size 51 cs).call hh4;have hz5:=(⟨hT _ kg,HG5.out⟩:yh T w3 (w.heap.size+1) 31 ms).call hh4;have hz6:=(⟨hT _ kg,HG6.out⟩:yh T w3 (w.heap.size+1+1) 51 zC).call hh4;have HZ3:Hid (yh (add T1 w4.heap.size) (w4.alloc (.cells (cs1++#[Value.int O (kk:Int)]) 80)) w.heap.size 51 cs):=aa ⟨λh=>h.elim hz3.nt (λe=>by have:=hz3.bk.lt;omega),hz3.bk.alloc _⟩;have HZ5:Hid (yh (add T1 w4.heap.size) (w4.alloc (.cells (cs1++#[Value.int O (kk:Int)]) 80)) (w.heap.size+1) 31 ms):=aa ⟨λh=>h.elim hz5.nt (λe=>by have:=hz5.bk.lt;omega),hz5.bk.alloc _⟩;have HZ6:Hid (yh (add T1 w4.heap.size) (w4.alloc (.cells (cs1++#[Value.int O (kk:Int)]) 80)) (w.heap.size+1+1) 51 zC):=aa ⟨λh=>h.elim hz6.nt (λe=>by have:=hz6.bk.lt;omega),hz6.bk.alloc _⟩;have HS:=aa hR;have HCO:=aa hco;have HB4:Hid (mg (w4.alloc (.cells zJ 80)) w4.heap.size 80 zJ):=aa (mg.new w4 80 zJ);clear hw3 hh3 hw4 hh4 hc4 he4 hR hco hT hz3 hz5 hz6 HG3 HG5 HG6 HB3;have HXE:Hid (w4.alloc (.cells (cs1++#[Value.int O (kk:Int)]) 80)=w4.alloc (.cells (cs1++#[Value.int O (kk:Int)]) 80)):=aa rfl;generalize hw5:w4.alloc (.cells (cs1++#[Value.int O (kk:Int)]) 80)=w5 at HZ3 HZ5 HZ6 HS HCO;have HW5:=aa hw5;clear hw5 HXE;have HCS:Hid (∀l:Array ny,cs1=l->w4.alloc (.cells (l++#[Value.int O (kk:Int)]) 80)=w5):=aa (λl h=>by rw[<-h];exact HW5.out);obtain⟨u0,u1,u2,u3,u4,u5,u6,u7,u8,u9,u10,u11,u12,hlit⟩:=lit13 hz1;rw[hlit];go_upto_region 5 with(refine br rfl 80 (.tmp 9) (.tmp 28) rfl rfl w4.heap.size #[u0,u1,u2,u3,u4,u5,u6,u7,u8,u9,u10,u11,u12,Value.int O (kk:Int)] rfl rfl 80 zJ HB4.out ki rfl (by rw[hlit] at HZO;exact HZO.out) ?_);rw[World.setRow_alloc_new,show w4.alloc (.cells #[u0,u1,u2,u3,u4,u5,u6,u7,u8,u9,u10,u11,u12,Value.int O (kk:Int)] 80)=w5 from HCS.out _ hlit,<-hlit];clear HZN HZI HZO HB4 HCS HW5 hlit hz1;generalize hbx:w4.heap.size=bx at *;generalize hT5:add T1 bx=T5 at *;generalize ho2:off2+kk*13=o2 at *;have HG:Hid (w.heap.size<=w.heap.size+1+1/\W0.heap.size<=w.heap.size+1+1):=aa ⟨kg,by have:=HLO.out;omega⟩;generalize hg6:w.heap.size+1+1=g6 at *;generalize hg5:w.heap.size+1=g5 at *;generalize hg3:w.heap.size=g3 at HZ3 ⊢;refine Reg9D.region 7 (StRt5 W0 T w cs cs1 es s id f bx b2 off2 m c kk o2 now ct A7 n7 c7 g3 g5 g6 ms) mixed ki (qx.qqq (n:=73) ki rfl) ?_ ?_ ?_
    .exact⟨_,⟨λ_=>⟨HS.out.pure (zh HS.out.wt (aj _ _).drew).1 (zk (PU:=.pure) HS.out.wt (aj _ _).drew),HCO.out,⟨HZ3.out.nt,HZ3.out.bk⟩,⟨HZ5.out.nt,HZ5.out.bk⟩,⟨HZ6.out.nt,HZ6.out.bk⟩⟩,λh=>by cases h⟩,λk _ h=>by cases h⟩
    .intro idx o hj ho L vals a' W hLi hS hw' qh hdn;obtain⟨T',⟨hb0,hb1⟩,qi⟩:=hS;have HPS:=λ(i:Nat) {v:ny} {T2:Nat->Prop} {w2:nu} hm h=>yt (i:=i) (L:=L) (vals:=vals) (v:=v) (Ψ:=λk v=>qpm W0 T w cs cs1 es s id f bx b2 off2 m c kk o2 now ct A7 n7 c7 g3 g5 g6 ms k v T' W) (Ψ':=λk v=>qpm W0 T w cs cs1 es s id f bx b2 off2 m c kk o2 now ct A7 n7 c7 g3 g5 g6 ms k v T2 w2) qi hm h
     have HPQ:=λ(i:Nat) {v:ny} h=>HPS i (v:=v) (T2:=T') (w2:=W) (λ_ _ h=>h) h
     have hj':idx=0\/idx=1\/idx=2\/idx=3\/idx=4\/idx=5\/idx=6:=kg;clear hj;rcases hj' with rfl|rfl|rfl|rfl|rfl|rfl|rfl
     .cases oi ho;have h9:=qx.gdt (qh 9 nd)
      have nl6:L 6=ns:=by
       cases h:L 6
       .rfl
       .exact absurd (hdn 6 0 _ rfl h ki) (by rw[hLi];decide)
      obtain⟨hS,hco,hz3,hz5,hz6⟩:=hb0 nl6;refine qx.qc.mono (R:=λv W'=>v=nj (I ⟨b2,o2,V⟩)/\∃q,W'=W.drewN q) ?_ (λv W' h=>?_)
      .go_simp;refine(hS.ck.known W rfl rfl).mono ?_;rintro e w6 ⟨rfl,q,rfl⟩;exact⟨_,rfl,rfl,q,rfl⟩
      .obtain⟨hv,q,rfl⟩:=h;have hb:Below W.heap.size W (W.drewN q):=yf (aj _ _) q;have hh:=zk (PU:=.pure) hS.wt hb;exact⟨T',⟨λ_=>⟨hS.pure (zh hS.wt hb).1 hh,hco,hz3.call hh,hz5.call hh,hz6.call hh⟩,(λh=>by simp only[if_neg (show ¬(6:Nat)=0 by omega)] at h;rw[nl6] at h;cases h)⟩,HPS 0 (λ_ _ h=>h) hv⟩
     .cases oi ho;have h9:=qx.gdt (qh 9 nd)
      have nl6:L 6=ns:=by
       cases h:L 6
       .rfl
       .exact absurd (hdn 6 1 _ rfl h ki) (by rw[hLi];decide)
      refine qx.qc.eq ?_ ⟨T',⟨λ_=>hb0 nl6,(λh=>by simp only[if_neg (show ¬(6:Nat)=1 by omega)] at h;rw[nl6] at h;cases h)⟩,HPQ 1 rfl⟩;go_simp
      all_goals(try exact⟨rfl,rfl⟩)
     .cases oi ho;have qmn:=qx.gpk (qh 30 nd) (qi 1 kg)
      have nl6:L 6=ns:=by
       cases h:L 6
       .rfl
       .exact absurd (hdn 6 2 _ rfl h ki) (by rw[hLi];decide)
      refine qx.qc.eq ?_ ⟨T',⟨λ_=>hb0 nl6,(λh=>by simp only[if_neg (show ¬(6:Nat)=2 by omega)] at h;rw[nl6] at h;cases h)⟩,HPQ 2 rfl⟩;go_simp
      all_goals(try exact⟨rfl,rfl⟩)
     .cases oi ho;have qif:=qx.gpk (qh 31 nd) (qi 2 kg)
      have nl6:L 6=ns:=by
       cases h:L 6
       .rfl
       .exact absurd (hdn 6 3 _ rfl h ki) (by rw[hLi];decide)
      have kc:W.cell? ⟨bx,0,V⟩=I (U O now):=by
       have hq:=(hb0 nl6).1;rw[dx W bx 0 _ 80 (0,0) hq.xb,dz (by rw[zf hq.ty];decide)];exact hq.k0
      refine qx.qc.eq ?_ ⟨T',⟨λ_=>hb0 nl6,(λh=>by simp only[if_neg (show ¬(6:Nat)=3 by omega)] at h;rw[nl6] at h;cases h)⟩,HPQ 3 rfl⟩;go_simp
      all_goals(try exact⟨rfl,rfl⟩)
     .cases oi ho;have qbe:=qx.gpk (qh 29 nd) (qi 0 kg)
      have nl6:L 6=ns:=by
       cases h:L 6
       .rfl
       .exact absurd (hdn 6 4 _ rfl h ki) (by rw[hLi];decide)
      refine qx.qc.eq ?_ ⟨T',⟨λ_=>hb0 nl6,(λh=>by simp only[if_neg (show ¬(6:Nat)=4 by omega)] at h;rw[nl6] at h;cases h)⟩,HPQ 4 rfl⟩;go_simp
      all_goals(try exact⟨rfl,rfl⟩)
     .cases oi ho;have h33:=qx.gpk (qh 33 nd) (qi 4 kg)
      have nl6:L 6=ns:=by
       cases h:L 6
       .rfl
       .exact absurd (hdn 6 5 _ rfl h ki) (by rw[hLi];decide)
      refine qx.qc.eq ?_ ⟨T',⟨λ_=>hb0 nl6,(λh=>by simp only[if_neg (show ¬(6:Nat)=5 by omega)] at h;rw[nl6] at h;cases h)⟩,HPQ 5 rfl⟩;go_simp
      all_goals(try exact⟨rfl,rfl⟩)
     .cases oi ho;have qtp:=qx.gpk (qh 32 nd) (qi 3 kg);have h34:=qx.gpk (qh 34 nd) (qi 5 kg);obtain⟨hS,hco,hz3,hz5,hz6⟩:=hb0 hLi;obtain⟨k1,k2,k3,k4⟩:=hS.store hco HNOW.out;have hfz:=qvg hS.wt hS.ck.row.1 hco;have hn3:g3≠b2:=λe=>hz3.nt (by rw[e];exact hS.ck.row.1)
      have hn5:g5≠b2:=λe=>hz5.nt (by rw[e];exact hS.ck.row.1)
      have hn6:g6≠b2:=λe=>hz6.nt (by rw[e];exact hS.ck.row.1)
      refine qx.qc.mono (R:=λv W'=>W'=W.setCell ⟨b2,o2+2,V⟩ (U O now)) ?_ (λv W' h=>?_)
      .go_simp
       all_goals(try simp only[qx.qc])
      .subst h;exact⟨T',⟨λh=>by simp at h,λ_=>⟨k1,k2,hz3.set hn3,hz5.set hn5,hz6.set hn6⟩⟩,HPS 6 (λ_ _ h=>h) trivial⟩
    .intro L vals W zl hS;obtain⟨T',⟨hb0,hb1⟩,qi⟩:=hS;have hv0:vals 0=_:=qi 0 kg (zl 0 kg);have hv1:vals 1=_:=qi 1 kg (zl 1 kg);have hv2:vals 2=_:=qi 2 kg (zl 2 kg);have hv3:vals 3=_:=qi 3 kg (zl 3 kg);have hv4:vals 4=_:=qi 4 kg (zl 4 kg);have hv5:vals 5=_:=qi 5 kg (zl 5 kg);obtain⟨hS,hco,hz3,hz5,hz6⟩:=hb1 (zl 6 kg);have HS5:=aa hS;have HCO5:=aa hco;have HY3:=aa hz3;have HY5:=aa hz5;have HY6:=aa hz6;clear hS hco hz3 hz5 hz6 hb0 hb1 qi zl HS HCO HZ3 HZ5 HZ6;simp only[qx.puts,qx.zi,ay,dc,if_true,cq,df,hv0,hv1,hv2,hv3,hv4,hv5];clear hv0 hv1 hv2 hv3 hv4 hv5;simp[ez];have hm6:=qzz (zx HS5.out.no.ext HM.out) ki 0;obtain⟨ou,ov,hrc,hrec⟩:=rec_ HS5.out.wt HS5.out.te HS5.out.e7 hm6 H0.out H1.out;have HRC:=aa hrc;have HREC:=aa hrec;have HGL:Hid (g3<W.heap.size/\g5<W.heap.size/\g6<W.heap.size):=aa ⟨HY3.out.bk.lt,HY5.out.bk.lt,HY6.out.bk.lt⟩;obtain⟨T6,hT6⟩:∃T6,T6=T':=⟨_,rfl⟩;subst hT6;have HS6:=aa HS5.out;clear hrc hrec hm6 HS5;generalize W=w6 at *;go_upto_region 6 with(fail);refine Reg9D.region 16 (StRt6 W0 T6 w6 cs es bx b2 o2 g3 g5 g6 ms ou ov) mixed ki (qx.qqq (n:=73) ki rfl) ?_ ?_ ?_
     .exact⟨_,⟨(zh HS6.out.wt (aj _ _).drew).1,zk HS6.out.wt (aj _ _).drew,⟨HY3.out.nt,HY3.out.bk⟩,⟨HY5.out.nt,HY5.out.bk⟩,⟨HY6.out.nt,HY6.out.bk⟩,λh=>by cases h⟩,λk _ h=>by cases h⟩
     .intro idx o hj ho L vals a' W hLi hS hw' qh hdn;obtain⟨T',⟨hwt,hhi,hz3,hz5,hz6,hal⟩,qi⟩:=hS;have HPS:=λ(i:Nat) {v:ny} {T2:Nat->Prop} {w2:nu} hm h=>yt (i:=i) (L:=L) (vals:=vals) (v:=v) (Ψ:=λk v=>qqo W0 T6 w6 cs es bx b2 o2 g3 g5 g6 ms ou ov k v T' W) (Ψ':=λk v=>qqo W0 T6 w6 cs es bx b2 o2 g3 g5 g6 ms ou ov k v T2 w2) qi hm h
      have HPQ:=λ(i:Nat) {v:ny} h=>HPS i (v:=v) (T2:=T') (w2:=W) (λ_ _ h=>h) h
      have hj':idx=0\/idx=1\/idx=2\/idx=3\/idx=4\/idx=5\/idx=6\/idx=7\/idx=8\/idx=9\/idx=10\/idx=11\/idx=12\/idx=13\/idx=14\/idx=15:=kg;clear hj;rcases hj' with rfl|rfl|rfl|rfl|rfl|rfl|rfl|rfl|rfl|rfl|rfl|rfl|rfl|rfl|rfl|rfl
      .cases oi ho;have h9:=qx.gdt (qh 9 nd);have hck:=(HS6.out.pure hwt hhi).ck;refine qx.qc.mono (R:=λv W'=>v=nj (I ⟨b2,o2,V⟩)/\∃q,W'=W.drewN q) ?_ (λv W' h=>?_)
       .go_simp;refine(hck.known W rfl rfl).mono ?_;rintro e w7 ⟨rfl,q,rfl⟩;exact⟨_,rfl,rfl,q,rfl⟩
       .obtain⟨hv,q,rfl⟩:=h;have hb:Below W.heap.size W (W.drewN q):=yf (aj _ _) q;have hh:=zk (PU:=.pure) hwt hb;exact⟨T',⟨(zh hwt hb).1,hhi.trans hh,hz3.call hh,hz5.call hh,hz6.call hh,(λh=>by simp only[if_neg (show ¬(11:Nat)=0 by omega),if_neg (show ¬(12:Nat)=0 by omega)] at h ⊢;obtain⟨g10,cur,q1,q2,q3,q4,q5⟩:=hal h;exact⟨g10,cur,q1,q2.call hh,q3,q4,q5⟩)⟩,HPS 0 (λ_ _ h=>qvu hh.ext hh.size (qzq hwt hh) h) hv⟩
      .cases oi ho;have h36:=qx.gpk (qh 36 nd) (qi 0 kg);refine qx.qc.eq ?_ ⟨T',⟨hwt,hhi,hz3,hz5,hz6,(λh=>by simp only[if_neg (show ¬(11:Nat)=1 by omega),if_neg (show ¬(12:Nat)=1 by omega)] at h ⊢;exact hal h)⟩,HPQ 1 rfl⟩;go_simp
       all_goals(try exact⟨rfl,rfl⟩)
      .cases oi ho;have h37:=qx.gpk (qh 37 nd) (qi 1 kg);refine qx.qc.eq ?_ ⟨T',⟨hwt,hhi,hz3,hz5,hz6,(λh=>by simp only[if_neg (show ¬(11:Nat)=2 by omega),if_neg (show ¬(12:Nat)=2 by omega)] at h ⊢;exact hal h)⟩,HPQ 2 rfl⟩;go_simp
       all_goals(try exact⟨rfl,rfl⟩)
      .cases oi ho;have h38:=qx.gpk (qh 38 nd) (qi 2 kg);refine uw (qjm rfl h38 (HS6.out.pure hwt hhi).ra dt rfl (by rw[aw,zf HS6.out.te];kernel_rfl)) ?_;exact⟨T',⟨hwt,hhi,hz3,hz5,hz6,(λh=>by simp only[if_neg (show ¬(11:Nat)=3 by omega),if_neg (show ¬(12:Nat)=3 by omega)] at h ⊢;exact hal h)⟩,HPS 3 (v:=.agg es) (λ_ _ h=>h) rfl⟩
      .cases oi ho;have h5:=qx.gdt (qh 5 nd);refine uw (qzm rfl h5 hz5.bk bz rfl HSM.out) ?_;exact⟨T',⟨hwt,hhi,hz3,hz5,hz6,(λh=>by simp only[if_neg (show ¬(11:Nat)=4 by omega),if_neg (show ¬(12:Nat)=4 by omega)] at h ⊢;exact hal h)⟩,HPS 4 (v:=.agg ms) (λ_ _ h=>h) rfl⟩
      .cases oi ho;have h39:=qx.gpk (qh 39 nd) (qi 3 kg);have h40:=qx.gpk (qh 40 nd) (qi 4 kg);refine qx.qc.mono (R:=λv W'=>∃(T2:Nat->Prop),WTc W0 T2 W'/\zg T' W .pure T2 W'/\qg3 W0 ou ov es T2 W' v) ?_ (λv W' h=>?_)
       .go_simp;refine(HREC.out T' W hwt hhi).mono ?_;rintro e w7 ⟨v,T2,rfl,q1,q2,q3⟩;exact⟨_,rfl,T2,q1,q2,q3⟩
       .obtain⟨T2,q1,hh,q3⟩:=h;exact⟨T2,⟨q1,hhi.trans hh,hz3.call hh,hz5.call hh,hz6.call hh,(λh=>by simp only[if_neg (show ¬(11:Nat)=5 by omega),if_neg (show ¬(12:Nat)=5 by omega)] at h ⊢;obtain⟨g10,cur,q1,q2,q3,q4,q5⟩:=hal h;exact⟨g10,cur,q1,q2.call hh,q3,q4,q5⟩)⟩,HPS 5 (λ_ _ h=>qvu hh.ext hh.size (qzq hwt hh) h) q3⟩
      .cases oi ho;obtain⟨lo41,eo41⟩:=qh 41 nd;have p41:=qi 5 kg lo41;obtain⟨u,x,hq,hu,hx⟩:=p41;have qic:a'.tmps[41]?.getD mc=nq #[.agg es,zL,u,x]:=gdq (eo41.trans hq);clear eo41;refine qx.qc.mono (R:=λv W'=>(v=nq #[.agg es,zL,u,x])/\W'=W) ?_ (λv W' h=>?_)
       .go_simp
        all_goals(first|exact⟨rfl,rfl⟩|skip)
       .obtain⟨hv,rfl⟩:=h;exact⟨T',⟨hwt,hhi,hz3,hz5,hz6,(λh=>by simp only[if_neg (show ¬(11:Nat)=6 by omega),if_neg (show ¬(12:Nat)=6 by omega)] at h ⊢;exact hal h)⟩,yt (i:=6) (L:=L) (vals:=vals) (v:=v) (Ψ:=λk v=>qqo W0 T6 w6 cs es bx b2 o2 g3 g5 g6 ms ou ov k v T' W') (Ψ':=λk v=>qqo W0 T6 w6 cs es bx b2 o2 g3 g5 g6 ms ou ov k v T' W') qi (λ_ _ h=>h) ⟨u,x,hv,hu,hx⟩⟩
      .cases oi ho;obtain⟨lo35,eo35⟩:=qh 35 nd;have p35:=qi 6 kg lo35;obtain⟨u,x,hq,hu,hx⟩:=p35;have qr2:a'.tmps[35]?.getD mc=nq #[.agg es,zL,u,x]:=gdq (eo35.trans hq);clear eo35;refine qx.qc.mono (R:=λv W'=>(v=.agg es)/\W'=W) ?_ (λv W' h=>?_)
       .go_simp
        all_goals(first|exact⟨rfl,rfl⟩|skip)
       .obtain⟨hv,rfl⟩:=h;exact⟨T',⟨hwt,hhi,hz3,hz5,hz6,(λh=>by simp only[if_neg (show ¬(11:Nat)=7 by omega),if_neg (show ¬(12:Nat)=7 by omega)] at h ⊢;exact hal h)⟩,yt (i:=7) (L:=L) (vals:=vals) (v:=v) (Ψ:=λk v=>qqo W0 T6 w6 cs es bx b2 o2 g3 g5 g6 ms ou ov k v T' W') (Ψ':=λk v=>qqo W0 T6 w6 cs es bx b2 o2 g3 g5 g6 ms ou ov k v T' W') qi (λ_ _ h=>h) hv⟩
      .cases oi ho;obtain⟨lo35,eo35⟩:=qh 35 nd;have p35:=qi 6 kg lo35;obtain⟨u,x,hq,hu,hx⟩:=p35;have qr2:a'.tmps[35]?.getD mc=nq #[.agg es,zL,u,x]:=gdq (eo35.trans hq);clear eo35;refine qx.qc.mono (R:=λv W'=>(v=ng V 0 0)/\W'=W) ?_ (λv W' h=>?_)
       .go_simp
        all_goals(first|exact⟨rfl,rfl⟩|skip)
       .obtain⟨hv,rfl⟩:=h;exact⟨T',⟨hwt,hhi,hz3,hz5,hz6,(λh=>by simp only[if_neg (show ¬(11:Nat)=8 by omega),if_neg (show ¬(12:Nat)=8 by omega)] at h ⊢;exact hal h)⟩,yt (i:=8) (L:=L) (vals:=vals) (v:=v) (Ψ:=λk v=>qqo W0 T6 w6 cs es bx b2 o2 g3 g5 g6 ms ou ov k v T' W') (Ψ':=λk v=>qqo W0 T6 w6 cs es bx b2 o2 g3 g5 g6 ms ou ov k v T' W') qi (λ_ _ h=>h) hv⟩
      .cases oi ho;obtain⟨lo35,eo35⟩:=qh 35 nd;have p35:=qi 6 kg lo35;obtain⟨u,x,hq,hu,hx⟩:=p35;have qr2:a'.tmps[35]?.getD mc=nq #[.agg es,zL,u,x]:=gdq (eo35.trans hq);clear eo35;refine qx.qc.mono (R:=λv W'=>(v=u)/\W'=W) ?_ (λv W' h=>?_)
       .go_simp
        all_goals(first|exact⟨rfl,rfl⟩|skip)
       .obtain⟨hv,rfl⟩:=h;exact⟨T',⟨hwt,hhi,hz3,hz5,hz6,(λh=>by simp only[if_neg (show ¬(11:Nat)=9 by omega),if_neg (show ¬(12:Nat)=9 by omega)] at h ⊢;exact hal h)⟩,yt (i:=9) (L:=L) (vals:=vals) (v:=v) (Ψ:=λk v=>qqo W0 T6 w6 cs es bx b2 o2 g3 g5 g6 ms ou ov k v T' W') (Ψ':=λk v=>qqo W0 T6 w6 cs es bx b2 o2 g3 g5 g6 ms ou ov k v T' W') qi (λ_ _ h=>h) (by rw[hv];exact hu)⟩
      .cases oi ho;obtain⟨lo35,eo35⟩:=qh 35 nd;have p35:=qi 6 kg lo35;obtain⟨u,x,hq,hu,hx⟩:=p35;have qr2:a'.tmps[35]?.getD mc=nq #[.agg es,zL,u,x]:=gdq (eo35.trans hq);clear eo35;refine qx.qc.mono (R:=λv W'=>(v=x)/\W'=W) ?_ (λv W' h=>?_)
       .go_simp
        all_goals(first|exact⟨rfl,rfl⟩|skip)
       .obtain⟨hv,rfl⟩:=h;exact⟨T',⟨hwt,hhi,hz3,hz5,hz6,(λh=>by simp only[if_neg (show ¬(11:Nat)=10 by omega),if_neg (show ¬(12:Nat)=10 by omega)] at h ⊢;exact hal h)⟩,yt (i:=10) (L:=L) (vals:=vals) (v:=v) (Ψ:=λk v=>qqo W0 T6 w6 cs es bx b2 o2 g3 g5 g6 ms ou ov k v T' W') (Ψ':=λk v=>qqo W0 T6 w6 cs es bx b2 o2 g3 g5 g6 ms ou ov k v T' W') qi (λ_ _ h=>h) (by rw[hv];exact hx)⟩
      .cases oi ho;refine qx.qc.mono (R:=λv W'=>v=nj (I ⟨W.heap.size,0,V⟩)/\W'=W.alloc (.cells zB 82)) ?_ (λv W' h=>?_)
       .go_simp
        all_goals(first|exact⟨rfl,rfl⟩|skip)
       .obtain⟨hv,rfl⟩:=h;have hb:=zy W (.cells zB 82);have hh:=zk (PU:=.pure) hwt hb
        have nl12:L 12=ns:=by
         cases h:L 12
         .rfl
         .exact absurd (hdn 12 11 _ rfl h ki) (by rw[hLi];decide)
        exact⟨T',⟨(zh hwt hb).1,hhi.trans hh,hz3.call hh,hz5.call hh,hz6.call hh,(λ_=>⟨W.heap.size,zB,(if_pos rfl).trans hv,⟨λh=>by have:=hwt.lt h;omega,mg.new W 82 zB⟩,rfl,hhi.size,λh=>by simp only[if_neg (show ¬(12:Nat)=11 by omega)] at h;rw[nl12] at h;cases h⟩)⟩,HPS 11 (λ_ _ h=>qvu hh.ext hh.size (qzq hwt hh) h) trivial⟩
      .cases oi ho;obtain⟨lo10,eo10⟩:=qh 10 nd;have q4a:=qx.gpk (qh 42 nd) (qi 7 kg);obtain⟨g10,cur,hq10,hz10,hcs,hlo10,-⟩:=hal lo10;have h10:a'.tmps[10]?.getD mc=nj (I ⟨g10,0,V⟩):=gdq (eo10.trans hq10);clear eo10;have hz:es.size=8:=(zf HS6.out.te).trans ki;obtain⟨k1,x,k2⟩:=qx8 es hwt hz10 (by have:=HS6.out.wt.size;omega) hhi hlo10;have hs:W.heap.size<=(W.setRow g10 es).heap.size:=by rw[dr];exact af _
       have hbs:∀b,Bk W0 T' b->(W.setRow g10 es).heap[b]? = W.heap[b]?:=λb hb=>cw W g10 b _ (λe=>by subst e;rcases hb with hb|hb;exact hz10.nt hb;(have:=HS6.out.wt.size;omega))
       have hn3:g3≠g10:=λe=>by have:=HGL.out.1;omega
       have hn5:g5≠g10:=λe=>by have:=HGL.out.2.1;omega
       have hn6:g6≠g10:=λe=>by have:=HGL.out.2.2;omega
       refine qzw rfl h10 q4a hz10.bk (by rw[hz];kernel_rfl) (hcs.trans hz.symm) (xx HS6.out.te) ?_;exact⟨T',⟨k1,k2.1,hz3.row _ hn3,hz5.row _ hn5,hz6.row _ hn6,(λ_=>⟨g10,es,hq10,⟨hz10.nt,gh W g10 _ es 82 (0,0) hz10.bk⟩,hz,hlo10,λ_=>rfl⟩)⟩,HPS 12 (v:=mc) (λ_ _ h=>qvu x hs hbs h) trivial⟩
      .cases oi ho;have q3m:=qx.gpk (qh 43 nd) (qi 8 kg);refine qx.qc.eq ?_ ⟨T',⟨hwt,hhi,hz3,hz5,hz6,(λh=>by simp only[if_neg (show ¬(11:Nat)=13 by omega),if_neg (show ¬(12:Nat)=13 by omega)] at h ⊢;exact hal h)⟩,HPQ 13 rfl⟩;go_simp
       all_goals(try exact⟨rfl,rfl⟩)
      .cases oi ho;obtain⟨lo44,eo44⟩:=qh 44 nd;have p44:=qi 9 kg lo44;refine qx.qc.mono (R:=λv W'=>v=vals 9/\W'=W) ?_ (λv W' h=>?_)
       .go_simp
        all_goals(first|exact⟨rfl,rfl⟩|skip)
       .obtain⟨hv,rfl⟩:=h;exact⟨T',⟨hwt,hhi,hz3,hz5,hz6,(λh=>by simp only[if_neg (show ¬(11:Nat)=14 by omega),if_neg (show ¬(12:Nat)=14 by omega)] at h ⊢;exact hal h)⟩,yt (i:=14) (L:=L) (vals:=vals) (v:=v) (Ψ:=λk v=>qqo W0 T6 w6 cs es bx b2 o2 g3 g5 g6 ms ou ov k v T' W') (Ψ':=λk v=>qqo W0 T6 w6 cs es bx b2 o2 g3 g5 g6 ms ou ov k v T' W') qi (λ_ _ h=>h) (by rw[hv];exact p44)⟩
      .cases oi ho;obtain⟨lo45,eo45⟩:=qh 45 nd;have p45:=qi 10 kg lo45;refine qx.qc.mono (R:=λv W'=>v=vals 10/\W'=W) ?_ (λv W' h=>?_)
       .go_simp
        all_goals(first|exact⟨rfl,rfl⟩|skip)
       .obtain⟨hv,rfl⟩:=h;exact⟨T',⟨hwt,hhi,hz3,hz5,hz6,(λh=>by simp only[if_neg (show ¬(11:Nat)=15 by omega),if_neg (show ¬(12:Nat)=15 by omega)] at h ⊢;exact hal h)⟩,yt (i:=15) (L:=L) (vals:=vals) (v:=v) (Ψ:=λk v=>qqo W0 T6 w6 cs es bx b2 o2 g3 g5 g6 ms ou ov k v T' W') (Ψ':=λk v=>qqo W0 T6 w6 cs es bx b2 o2 g3 g5 g6 ms ou ov k v T' W') qi (λ_ _ h=>h) (by rw[hv];exact p45)⟩
     .intro L vals W zl hS;obtain⟨T',⟨hwt,hhi,hz3,hz5,hz6,hal⟩,qi⟩:=hS;have hv0:vals 0=_:=qi 0 kg (zl 0 kg);have hv1:vals 1=_:=qi 1 kg (zl 1 kg);have hv2:vals 2=_:=qi 2 kg (zl 2 kg);have hv3:vals 3=_:=qi 3 kg (zl 3 kg);have hv4:vals 4=_:=qi 4 kg (zl 4 kg);have hv7:vals 7=_:=qi 7 kg (zl 7 kg);have hv8:vals 8=_:=qi 8 kg (zl 8 kg);have qkg:vals 13=_:=qi 13 kg (zl 13 kg);have hp5:=aa (qi 5 kg (zl 5 kg));have hp6:=aa (qi 6 kg (zl 6 kg));have hp9:=aa (qi 9 kg (zl 9 kg));have hp10:=aa (qi 10 kg (zl 10 kg));have hp14:=aa (qi 14 kg (zl 14 kg));have hp15:=aa (qi 15 kg (zl 15 kg));obtain⟨g10,cur,hq10,hz10,hcs,hlo10,hev⟩:=hal (zl 11 kg);obtain rfl:=hev (zl 12 kg);have HV14:Hid (qaw W0 ou T' W (vals 14)):=hp14;have HV15:Hid (qaw W0 ov T' W (vals 15)):=hp15;have HZ10:=aa hz10;have HW7:=aa hwt;have HH7:=aa hhi;have HX3:=aa hz3;have HX5:=aa hz5;have HX6:=aa hz6;have HL10:=aa hlo10;clear hz10 hev hlo10 hwt hhi hz3 hz5 hz6 hal qi zl hp5 hp6 hp9 hp10 hcs hp14 hp15;simp only[hq10,qx.puts,qx.zi,ay,dc,if_true,cq,df,hv0,hv1,hv2,hv3,hv4,hv7,hv8,qkg];clear hv0 hv1 hv2 hv3 hv4 hv7 hv8 qkg;simp[ez];generalize vals 14=va at *;generalize vals 15=vb at *;obtain⟨T7,hT7⟩:∃T7,T7=T':=⟨_,rfl⟩;subst hT7;generalize W=w7 at *;have HZE:Hid (cur.size=8):=aa ((zf HS6.out.te).trans ki);have HSE:Hid ((ab.info? 82).map (·.size)=I cur.size):=aa (by rw[HZE.out];kernel_rfl);clear HREC HL10;go_upto_region 7 with(fail);refine Reg9D.region 5 (StRt7 W0 T7 w7 cur b2 o2 g6 g10) mixed ki (qx.qqq (n:=73) ki rfl) ?_ ?_ ?_
      .exact⟨_,⟨(zh HW7.out (aj _ _).drew).1,zk HW7.out (aj _ _).drew,⟨HX6.out.nt,HX6.out.bk⟩,⟨HZ10.out.nt,HZ10.out.bk⟩⟩,λk _ h=>by cases h⟩
      .intro idx o hj ho L vals a' W hLi hS hw' qh hdn;obtain⟨T',⟨hwt,hhi,hz6,hz10⟩,qi⟩:=hS;have HPS:=λ(i:Nat) {v:ny} {T2:Nat->Prop} {w2:nu} hm h=>yt (i:=i) (L:=L) (vals:=vals) (v:=v) (Ψ:=λk v=>qpt W0 T7 w7 cur b2 o2 g6 g10 k v T' W) (Ψ':=λk v=>qpt W0 T7 w7 cur b2 o2 g6 g10 k v T2 w2) qi hm h
       have HPQ:=λ(i:Nat) {v:ny} h=>HPS i (v:=v) (T2:=T') (w2:=W) (λ_ _ h=>h) h
       have hj':idx=0\/idx=1\/idx=2\/idx=3\/idx=4:=kg;clear hj;rcases hj' with rfl|rfl|rfl|rfl|rfl
       .cases oi ho;have h9:=qx.gdt (qh 9 nd);have hck:=(HS6.out.pure hwt (HH7.out.trans hhi)).ck;refine qx.qc.mono (R:=λv W'=>v=nj (I ⟨b2,o2,V⟩)/\∃q,W'=W.drewN q) ?_ (λv W' h=>?_)
        .go_simp;refine(hck.known W rfl rfl).mono ?_;rintro e w7 ⟨rfl,q,rfl⟩;exact⟨_,rfl,rfl,q,rfl⟩
        .obtain⟨hv,q,rfl⟩:=h;have hb:Below W.heap.size W (W.drewN q):=yf (aj _ _) q;have hh:=zk (PU:=.pure) hwt hb;exact⟨T',⟨(zh hwt hb).1,hhi.trans hh,hz6.call hh,hz10.call hh⟩,HPS 0 (λ_ _ h=>h) hv⟩
       .cases oi ho;have h10:=qx.gdt (qh 10 nd);refine uw (qzm rfl h10 hz10.bk dt rfl HSE.out) ?_;exact⟨T',⟨hwt,hhi,hz6,hz10⟩,HPS 1 (v:=.agg cur) (λ_ _ h=>h) rfl⟩
       .cases oi ho;have qr3:=qx.gpk (qh 46 nd) (qi 0 kg);refine qx.qc.eq ?_ ⟨T',⟨hwt,hhi,hz6,hz10⟩,HPQ 2 rfl⟩;go_simp
        all_goals(try exact⟨rfl,rfl⟩)
       .cases oi ho;have q4x:=qx.gpk (qh 48 nd) (qi 2 kg);refine qx.qc.eq ?_ ⟨T',⟨hwt,hhi,hz6,hz10⟩,HPQ 3 rfl⟩;go_simp
        all_goals(try exact⟨rfl,rfl⟩)
       .cases oi ho;have qth:=qx.gpk (qh 47 nd) (qi 1 kg);have qtr:=qx.gpk (qh 49 nd) (qi 3 kg);have hS:=HS6.out.pure hwt (HH7.out.trans hhi);refine qdw rfl qtr qth (by rw[HZE.out];exact hS.ck.there hwt) HSE.out (xx hS.te) ?_;rw[qd1 hS.ra];exact⟨T',⟨hwt,hhi,hz6,hz10⟩,HPS 4 (v:=mc) (λ_ _ h=>h) trivial⟩
      .intro L vals W zl hS;obtain⟨T',⟨hwt,hhi,hz6,hz10⟩,qi⟩:=hS;have hv0:vals 0=_:=qi 0 kg (zl 0 kg);have hv1:vals 1=_:=qi 1 kg (zl 1 kg);have hv2:vals 2=_:=qi 2 kg (zl 2 kg);have hv3:vals 3=_:=qi 3 kg (zl 3 kg);have HW8:=aa hwt;have HH8:=aa (HH7.out.trans hhi);have HY14:=aa (HV14.out.same hhi.ext hhi.size (qzq HW7.out hhi));have HY15:=aa (HV15.out.same hhi.ext hhi.size (qzq HW7.out hhi));have HX8:=aa hz6;clear hz6 hz10 hwt hhi qi zl HW7 HH7 HV14 HV15 HX6 HX3 HX5 HZ10;simp only[qx.puts,qx.zi,ay,dc,if_true,cq,df,hv0,hv1,hv2,hv3];clear hv0 hv1 hv2 hv3;simp[ez];obtain⟨T8,hT8⟩:∃T8,T8=T':=⟨_,rfl⟩;subst hT8;generalize W=w8 at *;have HS8:=aa (HS6.out.pure HW8.out HH8.out);have HCO8:Hid (w8.cell? ⟨b2,o2+2,V⟩=I (U O now)):=aa (by rw[cg (HH8.out.keep b2 (HS6.out.wt.lt HS6.out.ck.row.1) (.inl rfl))];exact HCO5.out);have HZ1:Hid (cs1.size=13):=aa ((zf HS6.out.ty).trans ki);have HXS:Hid ((ab.info? 51).map (·.size)=I cs1.toList.length):=aa (by rw[aw,HZ1.out];kernel_rfl);have HXT:Hid ((ab.info? 51).map (·.size)=I cs1.size):=aa (by rw[HZ1.out];kernel_rfl);have HXQ:Hid ((zC:Array ny).size=cs1.size):=aa (by rw[HZ1.out];kernel_rfl);have HXO:Hid (cs1.all (·.oneCell')=nr):=aa (xx HS6.out.ty)
       have HXR:Hid (w8.rangeAt bx 0 cs1.toList):=aa (λk v hv=>by
        rw[ax] at hv;have hk:k<13:=by rw[<-HZ1.out];exact(cl.1 hv).1
        rw[bu,dx w8 bx k _ 80 (0,0) HS8.out.xb,dz (by rw[HZ1.out];exact hk)]
        exact hv)
       obtain⟨ids,hids,hC⟩:=HRC.out;have qfe:=hids.same HH8.out.ext HH8.out.size (qzq HS6.out.wt HH8.out);rcases hC with⟨rfl,xs,j,rfl,hj,hj2,hj3,hsr⟩|⟨rfl,rfl,hlt⟩|⟨rfl,rfl,hne⟩
       .obtain rfl:va=ng V 0 0:=HY14.out;have qis:=aa qfe;have HJ8:=aa (And.intro hj (And.intro hj2 hj3));have HSR8:=aa (hsr.hist HH8.out);clear qfe hids hj hj2 hj3 hsr HRC;go_wp2_with (first|(refine gd rfl 51 (.tmp 70) rfl bx 0 rfl cs1.toList _ HXR.out ej rfl HXS.out ?_)|(refine br rfl 51 (.tmp 6) (.tmp 71) rfl rfl g6 cs1 rfl rfl 51 zC HX8.out.bk HXT.out HXQ.out HXO.out ?_));refine du (qze rfl _ _ g6 51 cs1 (0,0) _ rfl (gh _ _ _ cs1 51 (0,0) HX8.out.bk) ej rfl HXT.out) rfl ?_;obtain⟨k1,x,hz',hs⟩:=HS8.out.out cs1 HX8.out HG.out.2 HG.out.1;have hI:=qis.out.same x hz' hs;have hR:=HSR8.out.same x hz' hs;have hT:=hR.ty;have hco:(w8.setRow g6 cs1).cell? ⟨b2,o2+2,V⟩=I (U O now):=by rw[cg (hs b2 (.inl HS8.out.ck.row.1))];exact HCO8.out
        have hv:One W0 _ (w8.setRow g6 cs1) xs vb:=One.same HY15.out x hz' hs;refine⟨_,cs1,vb,rfl,k1.wt,k1.ty,k1.no,.inr ⟨HQ1.out,xs,f,hv,k1.done hco ⟨ids,j,xs,hI,HJ8.out.1,HJ8.out.2.1,HJ8.out.2.2,hR,λdp=>jw.refl k1.wt _ hT⟩ hT⟩,λrs _ hD=>?_⟩;obtain⟨hct,hhas⟩:=k1.sc rs hD;obtain⟨p1,p2⟩:=k1.pu hct;exact⟨p1,hv.of (hhas.row hI HJ8.out.1 HJ8.out.2.1 HJ8.out.2.2 hR),p2⟩
       .obtain rfl:vb=ng V 0 0:=HY15.out;obtain⟨B,c8,rfl,-,ys,hsy,hey⟩:One W0 T8 w8 ms va:=HY14.out;have HTY:=aa hsy.ty;obtain⟨bb,ob,rfl,-,hbl,hsz,hcl,-⟩:=hsy.self
        have HRG:Hid (∀(T':Nat->Prop) (W:nu),zg T8 w8 .pure T' W->W.rangeAt bb ob ys.toList):=aa (λT' W hh k v hv=>by
         rw[ax] at hv;have hk:k<FM.length:=by rw[<-hsz];exact(cl.1 hv).1
         have:=hcl k hk;rw[Nat.zero_mul,ir] at this;rw[cg (hh.keep bb hbl (.inl rfl)),this]
         exact hv)
        have HY1:=aa (q1b (hey 0) H1.out)
        have HY2:Hid (ys[2]? = I (U O act)):=aa (by
         have hy:ys[2]? = I (ys[2]'(by rw[hsz];decide)):=ak _;have:=((hey 0).2.2 2 (FM.getD 2 .any) _ _ ki H2.out hy).eq ki
         rw[hy,<-this])
        have qis:=aa qfe;have HLT:=aa hlt
        have HB0:Hid (RB W0 T w T8 w8 bx b2 off2 m c kk o2 g6 id now f ns ns ns ns ns mc mc mc mc T8 w8):=aa
         ⟨HS8.out.wt,HS8.out.no,HS8.out.ck,(by rw[dx w8 bx 0 _ 80 (0,0) HS8.out.xb,dz (by rw[HZ1.out];decide)];exact HS8.out.k0),HS8.out.nm,HCO8.out,λ_ _=>zg.refl _ _ _,(λh=>by cases h),(λh=>by cases h),(λh=>by cases h),(λh=>by cases h),⟨_,HX8.out,rfl,λh=>by cases h⟩⟩
        clear qfe hids hlt HRC hsy hey hbl hsz hcl;go_upto_region 11 with(fail);refine Reg9D.region 9 (StRt11 W0 T w T8 w8 bx b2 off2 m c kk o2 g6 id now f bb ob c8 ys) mixed ki (qx.qqq (n:=73) ki rfl) ?_ ?_ ?_
        .exact⟨_,HB0.out.call (zh HS8.out.wt (aj _ _).drew).1 (zk HS8.out.wt (aj _ _).drew),λk _ h=>by cases h⟩
        .intro idx o hj ho L vals a' W hLi hS hw' qh hdn;obtain⟨T',hb,qi⟩:=hS;have HPS:=λ(i:Nat) {v:ny} {T2:Nat->Prop} {w2:nu} hm h=>yt (i:=i) (L:=L) (vals:=vals) (v:=v) (Ψ:=λk v=>qk2 W0 T w T8 w8 bx b2 off2 m c kk o2 g6 id now f bb ob c8 ys k v T' W) (Ψ':=λk v=>qk2 W0 T w T8 w8 bx b2 off2 m c kk o2 g6 id now f bb ob c8 ys k v T2 w2) qi hm h
         have HPQ:=λ(i:Nat) {v:ny} h=>HPS i (v:=v) (T2:=T') (w2:=W) (λ_ _ h=>h) h
         have hj':idx=0\/idx=1\/idx=2\/idx=3\/idx=4\/idx=5\/idx=6\/idx=7\/idx=8:=kg;clear hj;rcases hj' with rfl|rfl|rfl|rfl|rfl|rfl|rfl|rfl|rfl
         .cases oi ho;have h9:=qx.gdt (qh 9 nd);refine qx.qc.eq ?_ ⟨T',hb,HPQ 0 rfl⟩;go_simp
          all_goals(try exact⟨rfl,rfl⟩)
         .cases oi ho;have h63:=qx.gpk (qh 63 nd) (qi 0 kg);obtain⟨xs,q1,q2,q3⟩:=q45 hb.wt hb.ck hb.c0;refine uw (qjm rfl h63 q1 ej rfl (by rw[aw,q2];kernel_rfl)) ?_
          have nl7:L 7=ns:=by
           cases h:L 7
           .rfl
           .exact absurd (hdn 7 1 _ rfl h ki) (by rw[hLi];decide)
          exact⟨T',⟨hb.wt,hb.hi,hb.ck,hb.c0,hb.nm,hb.co,hb.pu,hb.rs,hb.on,hb.o8,λ_=>q3,(by obtain⟨c6,k1,k2,k3⟩:=hb.bx;exact⟨c6,k1,k2,λh=>by have h':L 7=nr:=h;rw[nl7] at h';cases h'⟩)⟩,HPS 1 (v:=.agg xs) (λ_ _ h=>h) trivial⟩
         .cases oi ho;have qd8:=qx.gdt (qh 12 nd);refine qx.qc.eq ?_ ⟨T',hb,HPQ 2 rfl⟩;go_simp
          all_goals(try exact⟨rfl,rfl⟩)
         .cases oi ho;have h65:=qx.gpk (qh 65 nd) (qi 2 kg);refine qx.qc.eq ?_ ⟨T',hb,HPQ 3 rfl⟩;go_simp
          all_goals(try exact⟨rfl,rfl⟩)
         .cases oi ho;have h66:=qx.gpk (qh 66 nd) (qi 3 kg)
          have nl5:L 5=ns:=by
           cases h:L 5
           .rfl
           .exact absurd (hdn 5 4 _ rfl h ki) (by rw[hLi];decide)
          have nl7:L 7=ns:=by
           cases h:L 7
           .rfl
           .exact absurd (hdn 7 4 _ rfl h ki) (by rw[hLi];decide)
          have hp:=hb.pu nl7 nl5;refine uw (qjm rfl h66 (HRG.out T' W hp) bz rfl (by rw[aw,zf HTY.out];kernel_rfl)) ?_;exact⟨T',hb,HPS 4 (v:=.agg ys) (λ_ _ h=>h) rfl⟩
         .cases oi ho;have h9:=qx.gdt (qh 9 nd);have h67:=qx.gpk (qh 67 nd) (qi 4 kg)
          have nl7:L 7=ns:=by
           cases h:L 7
           .rfl
           .exact absurd (hdn 7 5 _ rfl h ki) (by rw[hLi];decide)
          have nl6:L 6=ns:=by
           cases h:L 6
           .rfl
           .exact absurd (hdn 6 5 _ rfl h ki) (by rw[hLi];decide)
          have nl8:L 8=ns:=by
           cases h:L 8
           .rfl
           .exact absurd (hdn 8 5 _ rfl h ki) (by rw[hLi];decide)
          have hp:=hb.pu nl7 hLi;have hS:=HS8.out.pure hb.wt hp;refine qx.qc.mono (R:=λv W'=>RspP W0 T' W bx b2 off2 m c kk o2 id (np v) W') ?_ (λv W' h=>?_)
          .go_simp;refine(q50 HH62.out HHH.out hb.wt hb.ck (zx hp.ext HTY.out) HY1.out HY2.out (HQ.out HQ1.out).1 (HQ.out HQ1.out).2 hS.te hS.ra hS.e7 (qis.out.same hp.ext hp.size (qzq HS8.out.wt hp)) HLT.out).mono ?_;rintro e w9 ⟨T2,rs,A,n,cc,rfl,q⟩;exact⟨_,rfl,T2,rs,A,n,cc,rfl,q⟩
          .have hs:W.heap.size<=W'.heap.size:=by
            obtain⟨T2,rs,A,n,cc,-,-,q,-⟩:=h;exact q.size
           obtain⟨T2,k⟩:=hb.resp nl6 nl8 h;exact⟨T2,k,HPS 5 (λ_ _ h=>h) trivial⟩
         .cases oi ho;obtain⟨lo68,eo68⟩:=qh 68 nd;obtain⟨rs,q1,q2,q3⟩:=hb.wrap lo68;have q36:a'.tmps[68]?.getD mc=.agg rs:=gdq (eo68.trans q1);clear eo68;refine uw (qdh (cx:=cx) (e:=31) (td:=(yx cx 31).getD ⟨.oth,0,0,[],ns⟩) cxOk rfl q36 ki ki q2 ko ko) ?_;exact⟨_,q3,yt (i:=6) (L:=L) (vals:=vals) (v:=ng (I ⟨W.heap.size,0,V⟩) 1 1) (Ψ:=λk v=>qk2 W0 T w T8 w8 bx b2 off2 m c kk o2 g6 id now f bb ob c8 ys k v T' W) (Ψ':=λk v=>qk2 W0 T w T8 w8 bx b2 off2 m c kk o2 g6 id now f bb ob c8 ys k v (add T' W.heap.size) (W.alloc (.cells rs 31))) qi (λ_ _ h=>h) trivial⟩
         .cases oi ho;have h6:=qx.gdt (qh 6 nd);obtain⟨lo64,eo64⟩:=qh 64 nd;obtain⟨xs,q1,q2,q3⟩:=hb.cn lo64;have h64:a'.tmps[64]?.getD mc=.agg xs:=gdq (eo64.trans q1);clear eo64;have hz:xs.size=13:=(zf q2).trans ki;obtain⟨c6,k1,k2,k3⟩:=hb.row q1 hz HG.out.2 HG.out.1;refine qzw rfl h6 h64 k1.bk (by rw[hz];kernel_rfl) (k2.trans hz.symm) (xx q2) ?_;exact⟨T',k3,HPS 7 (v:=mc) (λ_ _ h=>h) trivial⟩
         .cases oi ho;obtain⟨lo69,eo69⟩:=qh 69 nd;refine qx.qc.mono (R:=λv W'=>v=vals 6/\W'=W) ?_ (λv W' h=>?_)
          .go_simp
           all_goals(first|exact⟨rfl,rfl⟩|exact⟨eo69,rfl⟩|skip)
          .obtain⟨rfl,rfl⟩:=h;exact⟨T',⟨hb.wt,hb.hi,hb.ck,hb.c0,hb.nm,hb.co,hb.pu,hb.rs,hb.on,λ_=>hb.on lo69,hb.cn,hb.bx⟩,yt (i:=8) (L:=L) (vals:=vals) (v:=(vals 6)) (Ψ:=λk v=>qk2 W0 T w T8 w8 bx b2 off2 m c kk o2 g6 id now f bb ob c8 ys k v T' W') (Ψ':=λk v=>qk2 W0 T w T8 w8 bx b2 off2 m c kk o2 g6 id now f bb ob c8 ys k v T' W') qi (λ_ _ h=>h) trivial⟩
        .intro L vals W zl hS;obtain⟨T',hb,qi⟩:=hS;have hv0:vals 0=_:=qi 0 kg (zl 0 kg);have hv2:vals 2=_:=qi 2 kg (zl 2 kg);have hv3:vals 3=_:=qi 3 kg (zl 3 kg);have hv4:vals 4=_:=qi 4 kg (zl 4 kg)
         have HF:Hid (RB W0 T w T8 w8 bx b2 off2 m c kk o2 g6 id now f nr nr nr nr nr (vals 1) (vals 5) (vals 6) (vals 8) T' W):=aa (by
          have e1:=zl 1 kg;have e5:=zl 5 kg;have e6:=zl 6 kg;have e7:=zl 7 kg;have e8:=zl 8 kg;rw[e1,e5,e6,e7,e8] at hb
          exact hb)
         clear hb qi zl HB0;simp only[qx.puts,qx.zi,ay,dc,if_true,cq,df,hv0,hv2,hv3,hv4];clear hv0 hv2 hv3 hv4;simp[ez];generalize vals 1=v1 at *;generalize vals 5=v5 at *;generalize vals 6=v6 at *;generalize vals 8=v8 at *;obtain⟨c6,hz6,hc6,he6⟩:=HF.out.bx;obtain⟨xs,q1,q2,q3,q4⟩:=HF.out.cn rfl;rw[he6 rfl] at q1;cases q1;obtain⟨rs,A,n,cc,p1,p2,p3,p4⟩:=HF.out.rs rfl;obtain⟨rs',p5,p6⟩:=HF.out.o8 rfl;rw[p1] at p5;cases p5;go_wp2_with fail;refine du (qze rfl _ _ g6 51 c6 (0,0) _ rfl hz6.bk ej rfl (by rw[hc6];kernel_rfl)) rfl ?_;have hS:=HS8.out;refine⟨T',c6,v8,rfl,HF.out.wt,q2,HF.out.hi,.inr ⟨HQ1.out,rs,f,p6,b2,off2,m,c,kk,now,A,n,cc,⟨q4,hS.ck.lt,HF.out.nm,hS.eq,hS.ne,q3,(by rw[hS.ck.o];exact HF.out.co),(by rw[hS.ck.o];exact p2),p4,p3⟩⟩,λrs _ hD=>((hS.sc rs hD).2.no qis.out (λi hi=>by have:=HLT.out i hi;omega)).elim⟩
       .obtain rfl:va=ng V 0 0:=HY14.out;obtain rfl:vb=ng V 0 0:=HY15.out;have qis:=aa qfe;have HNE:=aa hne;clear qfe hids hne HRC;go_wp2_with (first|(refine gd rfl 51 (.tmp 70) rfl bx 0 rfl cs1.toList _ HXR.out ej rfl HXS.out ?_)|(refine br rfl 51 (.tmp 6) (.tmp 71) rfl rfl g6 cs1 rfl rfl 51 zC HX8.out.bk HXT.out HXQ.out HXO.out ?_));refine du (qze rfl _ _ g6 51 cs1 (0,0) _ rfl (gh _ _ _ cs1 51 (0,0) HX8.out.bk) ej rfl HXT.out) rfl ?_;obtain⟨k1,x,hz',hs⟩:=HS8.out.out cs1 HX8.out HG.out.2 HG.out.1;have hI:=qis.out.same x hz' hs;exact⟨_,cs1,zL,rfl,k1.wt,k1.ty,k1.no,.inl rfl,λrs _ hD=>((k1.sc rs hD).2.no hI HNE.out).elim⟩
end
open Go.RowKit
section
variable {W0:nu}{T T' T'' T3 T2:Nat->Prop}{w W W' W3:nu}{b off:Nat}{K:Nat->Option ny}{L:Nat->Bool}{vals:Nat->ny}
theorem Kp.trans(h:Kp W0 T w b T' W)(k:Kp W0 T' W b T'' W'):Kp W0 T w b T'' W':=⟨k.wt,h.hist.comp k.hist,k.blk.trans h.blk⟩
theorem q3g{P:ma}{R:ny->nu->Prop}{r r':Result Next}(h:r=r')(k:qx.qc P R r'):qx.qc P R r:=h ▸ k
structure qun(W0:World)(K:Nat->Option Value)(T3:Nat->Prop)(W3:World)(b:Nat)(T':Nat->Prop)(L:Nat->Bool)(vals:Nat->Value)(W:World):Prop where
 kp:Kp W0 T3 W3 b T' W
 kn:∀k x,K k=I x->L k=nr->vals k=x
 ls:L 9=nr->CVc W0 T' W 0 (.sl 1 95 8192) (vals 9)
 tu:∀k,k=15\/k=16->L k=nr->∃cs n,vals k=nq #[.agg cs,U O n]/\TyValc W0 T' W 0 que (.agg cs)/\qdd n
 rc:L 17=nr->∃cs,vals 17=.agg cs/\TyValc W0 T' W 0 que (.agg cs)
 er:∀k,k=18\/k=21->L k=nr->∃n,vals k=U O n/\qdd n
 bx:L 19=nr->∃g cs,vals 19=nj (I ⟨g,0,V⟩)/\¬T' g/\W3.heap.size<=g/\mg W g 98 cs/\cs.size=11/\(L 20=nr->TyValc W0 T' W 0 que (.agg cs))
abbrev qui (L:Nat->Bool) (i:Nat):Nat->Bool:=λk=>if k=i then nr else L k
abbrev qxa (vals:Nat->ny) (i:Nat) (v:ny):Nat->ny:=λk=>if k=i then v else vals k
theorem qun.put(h:qun W0 K T3 W3 b T' L vals W)(hLi:L i=ns)(h0:∀x,K i=I x->v=x)(h9:i=9->CVc W0 T' W 0 (.sl 1 95 8192) v)
  (h1:i=15\/i=16->∃cs n,v=nq #[.agg cs,U O n]/\TyValc W0 T' W 0 que (.agg cs)/\qdd n) (qmg:i=17->∃cs,v=.agg cs/\TyValc W0 T' W 0 que (.agg cs))
  (he:i=18\/i=21->∃n,v=U O n/\qdd n) (qbg:i=19->L 20=ns/\∃g cs,v=nj (I ⟨g,0,V⟩)/\¬T' g/\W3.heap.size<=g/\mg W g 98 cs/\cs.size=11)
  (qko:i=20->∃g cs,vals 19=nj (I ⟨g,0,V⟩)/\¬T' g/\W3.heap.size<=g/\mg W g 98 cs/\cs.size=11/\TyValc W0 T' W 0 que (.agg cs)) :
  qun W0 K T3 W3 b T' (qui L i) (qxa vals i v) W:=by
 refine⟨h.kp,λk x hk hl=>?_,λhl=>?_,λk hk hl=>?_,λhl=>?_,λk hk hl=>?_,λhl=>?_⟩
 .by_cases e:k=i
  .subst e;simp only[qxa,if_true];exact h0 x hk
  .simp only[qui,qxa,if_neg e] at hl ⊢;exact h.kn k x hk hl
 .by_cases e:9=i
  .simp only[qxa,if_pos e];exact h9 e.symm
  .simp only[qui,qxa,if_neg e] at hl ⊢;exact h.ls hl
 .by_cases e:k=i
  .subst e;simp only[qxa,if_true];exact h1 hk
  .simp only[qui,qxa,if_neg e] at hl ⊢;exact h.tu k hk hl
 .by_cases e:17=i
  .simp only[qxa,if_pos e];exact qmg e.symm
  .simp only[qui,qxa,if_neg e] at hl ⊢;exact h.rc hl
 .by_cases e:k=i
  .subst e;simp only[qxa,if_true];exact he hk
  .simp only[qui,qxa,if_neg e] at hl ⊢;exact h.er k hk hl
 .by_cases e:19=i
  .obtain⟨n20,g,cs,q1,q2,q3,q4,q5⟩:=qbg e.symm;simp only[qxa,if_pos e];refine⟨g,cs,q1,q2,q3,q4,q5,λh=>?_⟩;simp only[qui,if_neg (show ¬20=i by omega)] at h;rw[n20] at h;cases h
  .by_cases e2:i=20
   .obtain⟨g,cs,q1,q2,q3,q4,q5,q6⟩:=qko e2;simp only[qxa,if_neg e];exact⟨g,cs,q1,q2,q3,q4,q5,λ_=>q6⟩
   .simp only[qui,qxa,if_neg e,if_neg (Ne.symm e2)] at hl ⊢;exact h.bx hl
theorem qun.grow(h:qun W0 K T3 W3 b T' L vals W)(k:Kp W0 T' W b T2 W'):qun W0 K T3 W3 b T2 L vals W':=by
 have hx:=k.hist.ext;refine⟨h.kp.trans k,h.kn,λhl=>(h.ls hl).mono hx (af _),λi hi hl=>?_,λhl=>?_,h.er,λhl=>?_⟩
 .obtain⟨cs,n,q1,q2,q3⟩:=h.tu i hi hl;exact⟨cs,n,q1,qql hx q2,q3⟩
 .obtain⟨cs,q1,q2⟩:=h.rc hl;exact⟨cs,q1,qql hx q2⟩
 .obtain⟨g,cs,q1,q2,q3,q4,q5,q6⟩:=h.bx hl;have hg:=q4.lt;refine⟨g,cs,q1,λht=>?_,q3,(k.hist.keep g hg (.inr q2)).trans q4,q5,λqko=>qql hx (q6 qko)⟩;rcases k.hist.new g ht with ht|ht
  .exact q2 ht
  .omega
theorem kp_box{g:Nat}{cs cs':Array ny}{t:nz}(hw:WTc W0 T' W)(hb:T' b)(hg:¬T' g)(hg0:W0.heap.size<=g)(hk:mg W g t cs):WTc W0 T' (W.setRow g cs')/\xq T' W T' (W.setRow g cs')/\(W.setRow g cs').heap[b]? = W.heap[b]?:=by
 obtain⟨h1,h2⟩:=hw.frame (w':=W.setRow g cs') (by rw[dr];exact af _) (λk h=>cw W g k _ kg) (λk h=>cw W g k _ (λe=>hg (e ▸ h))) (λk es c h=>by
  have:k≠g:=λe=>by subst e;rw[hk] at h;cases h
  rw[cw W g k _ this];exact h)
 exact⟨h1,h2,cw W g b _ (λe=>hg (e ▸ hb))⟩
theorem qun.store{g:Nat}{old cs:Array ny}(h:qun W0 K T3 W3 b T' L vals W)(qbg:vals 19=nj (I ⟨g,0,V⟩))(hL:L 20=ns)(hL19:L 19=nr)(hg:¬T' g)(hg3:W3.heap.size<=g)(hk:mg W g 98 old)(hb:T' b)(hs:cs.size=11)
  (hc:TyValc W0 T' W 0 que (.agg cs)) (hw0:W0.heap.size<=W3.heap.size) (hK:K 20=V):qun W0 K T3 W3 b T' (qui L 20) (qxa vals 20 mc) (W.setRow g cs):=by
 obtain⟨k1,k2,k3⟩:=kp_box (cs':=cs) h.kp.wt hb hg kg hk;have h3T:∀x,x<W3.heap.size->x≠g:=λx hx=>kg
 have hH:zg T3 W3 .kp T' (W.setRow g cs):=⟨h.kp.hist.ext.trans k2,h.kp.hist.new,by rw[dr];exact h.kp.hist.size,h.kp.hist.os,h.kp.hist.tape,h.kp.hist.output,λx hx hn=>(cw W g x _ (h3T x hx)).trans (h.kp.hist.keep x hx hn),λhq x hx hT=>(h.kp.hist.kpt hq x hx hT).trans (.same (cw W g x _ (h3T x hx)))⟩
 have h':qun W0 K T3 W3 b T' L vals (W.setRow g cs):=by
  refine⟨⟨k1,hH,k3.trans h.kp.blk⟩,h.kn,λhl=>(h.ls hl).mono k2 (af _),λi hi hl=>?_,λhl=>?_,h.er,λhl=>?_⟩
  .obtain⟨cs,n,q1,q2,q3⟩:=h.tu i hi hl;exact⟨cs,n,q1,qql k2 q2,q3⟩
  .obtain⟨cs,q1,q2⟩:=h.rc hl;exact⟨cs,q1,qql k2 q2⟩
  .exact⟨g,cs,qbg,hg,hg3,gh W g old cs 98 (0,0) hk,hs,λqko=>by rw[hL] at qko;cases qko⟩
 exact h'.put hL (λx hx=>by rw[hK] at hx;cases hx) kg kg kg kg kg (λ_=>⟨g,cs,qbg,hg,hg3,gh W g old cs 98 (0,0) hk,hs,qql k2 hc⟩)
theorem qun.alloc{z:Array ny}(h:qun W0 K T3 W3 b T' L vals W)(hL:L 19=ns)(hL20:L 20=ns)(hb:b<W.heap.size)(hz:z.size=11)(hK:K 19=V) :
  qun W0 K T3 W3 b T' (qui L 19) (qxa vals 19 (nj (I ⟨W.heap.size,0,V⟩))) (W.alloc (.cells z 98)):=by
 have hk:Kp W0 T' W b T' (W.alloc (.cells z 98)):=(Kp.refl h.kp.wt).below hb (zy W _)
 exact(h.grow hk).put hL (λx hx=>by rw[hK] at hx;cases hx) kg kg kg kg
  (λ_=>⟨hL20,_,z,rfl,λht=>by have:=h.kp.wt.lt ht;omega,h.kp.hist.size,mg.new W 98 z,hz⟩) kg
structure C8(W0:World)(T3:Nat->Prop)(W3:World)(b g:Nat)(cs:Array Value)(T':Nat->Prop)(W:World):Prop where
 kp:Kp W0 T3 W3 b T' W
 no:¬T' g
 blk:mg W g 98 cs
 ty:TyValc W0 T' W 0 que (.agg cs)
theorem C8.below{g:Nat}{cs:Array ny}(h:C8 W0 T3 W3 b g cs T' W)(hb:b<W.heap.size)(hB:Below W.heap.size W W'):C8 W0 T3 W3 b g cs T' W':=by
 obtain⟨h1,h2⟩:=zh h.kp.wt hB;exact⟨h.kp.trans ((Kp.refl h.kp.wt).below hb hB),h.no,h.blk.call hB,qql h2 h.ty⟩
theorem qun.fin(h:qun W0 K T3 W3 b T' L vals W)(hL:∀k,k<22->L k=nr):∃g cs n,vals 19=nj (I ⟨g,0,V⟩)/\vals 21=U O n/\qdd n/\C8 W0 T3 W3 b g cs T' W:=by
 obtain⟨g,cs,q1,q2,q3,q4,q5,q6⟩:=h.bx (hL 19 kg);obtain⟨n,r1,r2⟩:=h.er 21 (.inr rfl) (hL 21 kg);exact⟨g,cs,n,q1,r1,r2,h.kp,q2,q4,q6 (hL 20 kg)⟩
theorem rc_of{cs:Array ny}{base:Nat}(h:TyValc W0 T w base que (.agg cs)):cs.size=11/\cs.all (·.oneCell')=nr:=by
 obtain⟨cs',e,hs,ha⟩:=h;cases e;refine⟨hs,?_⟩;rw[Array.all_eq_true];intro i hi;have hl:i<[CT.str mf,.str mf,qy O,.str mf,qy O,qy O,.sl 0 156 1024,qy O,qy O,.bool,.bool].length:=by rw[<-hs];exact hi
 exact(ha i _ cs[i] (ah hl) (ak hi)).one
end
open Go.RowKit
section
variable {W0:nu}{T T' T'' T3 T2:Nat->Prop}{w W W' W3:nu}{b off:Nat}{K:Nat->Option ny}{L:Nat->Bool}{vals:Nat->ny}
theorem qyv.hist{ex:Option Nat}(h:qyv cx.tb W0 T W T' W' W.heap.size pu ex):zg T W pu T' W':=
 (zg.refl T W pu).step h (by cases pu<;>rfl)
theorem qlr{S:St}{base:Nat}{Ω:yu->Prop}{ct:CT}{fs:List qf}(h:jc ab cx W0 S base Ω T W a o ⟨qzy S ct fs,.no,pu⟩)(Z:yu)(hρ:∀v,Ω (λn=>if n=S.nv then v else Z n)) :
  qx.qc ab (λv W'=>∃T',qyv cx.tb W0 T W T' W' base pu V/\CVc W0 T' W' base ct v/\∀f∈fs,0<=f.eval (λn=>if n=S.nv then v else Z n)) ((execOp a.eval o).run ab W):=by
 refine qx.qc.mono h ?_;rintro v W' ⟨T',ex,h1,h2⟩
 have hb:Blk (λn=>if n=S.nv then(qzs v).getD 0 mc else Z n) S.nv 1 (qzs v):=by
  intro i hi;obtain rfl:i=0:=kg;simp
 obtain⟨h3,h4⟩:=h2 _ (hρ ((qzs v).getD 0 mc)) hb;have h4:ex=V:=h4;subst h4;obtain⟨h5,h6,h7⟩:=h3 hb;have h5:v=(qzs v).getD 0 mc:=by simpa[qzy,XV.den,TV.den,SV.den] using h5
 have h6:=h6 0 ct rfl;simp only[ir,if_true] at h6;have h7:∀f∈fs,0<=f.eval (λn=>if n=S.nv then(qzs v).getD 0 mc else Z n):=h7;rw[<-h5] at h6 h7;exact⟨T',h1,h6,h7⟩
theorem CV.lb{m lb lb' n c base:Nat}{e:nz}(h:CVc W0 T w base (.sl m e lb) (ng A n c))(hm:1<=m)(hn:n<=lb'):CVc W0 T w base (.sl m e lb') (ng A n c):=by
 rcases h with h|⟨h0,h⟩|⟨b,off,n',c',h1,h2,h3,h4⟩
 .exact .inl h
 .omega
 .injection h1 with e1 e2 e3;subst e2;subst e3;exact .inr (.inr ⟨b,off,n,c,by rw[e1],h2,hn,h4⟩)
def qd6(d1 d2 e lb1 lb2:Nat):St:=⟨2,[(d1,.v (.one (.var 0))),(d2,.v (.one (.var 1)))],[(0,.sl 1 e lb1),(1,.sl 0 e lb2)],[],[]⟩
theorem qsb{d1 d2 lb1 lb2 n c c':Nat}{B:Option Addr}(hne:d1≠d2)(ho:o.op=.call { callee:=.builtin .append,args:=#[.tmp d1,.tmp d2],argTypes:=#[t,t] })(hw:WTc W0 T W)
  (h1:a.tmps.getD d1 mc=ng A n c) (h2:a.tmps.getD d2 mc=ng B k c') (hc1:CVc W0 T W 0 (.sl 1 e lb1) (ng A n c)) (hc2:CVc W0 T W 0 (.sl 0 e lb2) (ng B k c'))
  (hr:appA cx (qd6 d1 d2 e lb1 lb2) t (.var 0) (.var 1)=I ⟨qzy (qd6 d1 d2 e lb1 lb2) (.sl 1 e LM) [(qf.at 2).sub ((qf.at 0).add (qf.at 1)),((qf.at 0).add (qf.at 1)).sub (qf.at 2)],.no,.kp⟩) :
  qx.qc ab (λv W'=>∃T' A' c'',v=ng A' (n+k) c''/\CVc W0 T' W' 0 (.sl 1 e LM) v/\zg T W .kp T' W'/\WTc W0 T' W') ((execOp a.eval o).run ab W):=by
 have hH:qqu cx W0 (qd6 d1 d2 e lb1 lb2) W.heap.size (λZ=>Z 0=ng A n c/\Z 1=ng B k c') T W a:=by
  refine⟨⟨λi=>if i=0 then .slice A n c else ng B k c',kq⟩,λZ hρ=>⟨hw,hw.size,af _,?_,by simp[qd6],by simp[qd6],by simp[qd6]⟩,λZ hρ=>?_⟩
  .intro m ct hm;simp only[qd6,List.mem_cons,Prod.mk.injEq,List.not_mem_nil,or_false] at hm;rcases hm with⟨rfl,rfl⟩|⟨rfl,rfl⟩
   .rw[hρ.1];exact qyi hc1 _
   .rw[hρ.2];exact qv4 hc2 kg _
  .intro x y hxy;unfold qd6 at hxy;simp only[look] at hxy;split at hxy
   .rename_i e1;subst e1;cases hxy;rw[h1];exact hρ.1.symm
   .split at hxy
    .rename_i e1;subst e1;cases hxy;rw[h2];exact hρ.2.symm
    .cases hxy
 have hs:=qs6 cxOk ho (ss:=.var 0) (sx:=.var 1) (by simp[St.one,St.op,qd6,look]) (by simp[St.one,St.op,qd6,look,hne]) hr hH;refine qx.qc.mono (qlr hs (λi=>if i=0 then .slice A n c else ng B k c') (λv=>by simp[qd6])) ?_;rintro v W' ⟨T',q1,q2,q3⟩;have q2':=qyi q2 0;obtain⟨A',n',c'',rfl,-⟩:=yc q2';have q4:=q3 _ (ff ..);have q5:=q3 _ (List.mem_cons_of_mem _ (ff ..));rw[qf.sub_eval,qf.add_eval] at q4 q5;have a0:∀Z:yu,(qf.at 0).eval Z=meas (Z 0):=λZ=>by simp[qf.at,qf.eval,jk]
 have a1:∀Z:yu,(qf.at 1).eval Z=meas (Z 1):=λZ=>by simp[qf.at,qf.eval,jk]
 have a2:∀Z:yu,(qf.at 2).eval Z=meas (Z 2):=λZ=>by simp[qf.at,qf.eval,jk]
 rw[a0,a1,a2] at q4 q5;simp[qd6,meas] at q4 q5;obtain rfl:n'=n+k:=kg;exact⟨T',A',c'',rfl,q2',q1.hist,q1.wt⟩
abbrev RcT:List nz:=[98,156]
theorem q2o:qak cx.tb RcT=nr:=ki
theorem qwi(hw:WTc W0 T w){base:Nat}(hp:CVc W0 T w base (.pt 1 80) (nj (I ⟨b,off,V⟩))):¬qxc w T RcT b:=by
 obtain⟨b',off',e,⟨h0,-⟩|⟨hT,-,te,hrow,hct⟩⟩:=hp
 .cases h0
 injection e with e;injection e with e;injection e with e1 e2 e3;subst e1 e2;intro hf;obtain⟨-,cs,te',fr,h1,h2⟩:=hf;obtain⟨cs',fr',h3,-⟩:=hrow;rw[h1] at h3;injection h3 with h3;injection h3 with r1 r2 r3;subst r2;have h4:=hct 1 (.sl 1 84 63) rfl
 have hmem:∀l:List CT,cx.tb.flat te'=I l->(CT.sl 1 84 63)∈l:=by
  intro l hl;simp only[yg.qym,hl] at h4;exact cm (by simpa using h4)
 have h5:te'=98\/te'=156:=by simpa[RcT] using h2
 rcases h5 with rfl|rfl
 .exact absurd (hmem [.str mf,.str mf,qy O,.str mf,qy O,qy O,.sl 0 156 1024,qy O,qy O,.bool,.bool] rfl) kj
 .exact absurd (hmem [qy O,qy O] rfl) kj
theorem C8.grow{g:Nat}{cs:Array ny}(h:C8 W0 T3 W3 b g cs T' W)(k:Kp W0 T' W b T2 W'):C8 W0 T3 W3 b g cs T2 W':=by
 have hg:=h.blk.lt;refine⟨h.kp.trans k,λht=>?_,(k.hist.keep g hg (.inr h.no)).trans h.blk,qql k.hist.ext h.ty⟩;rcases k.hist.new g ht with ht|ht
 .exact h.no ht
 .omega
structure qa5(W0:World)(K:Nat->Option Value)(T4:Nat->Prop)(W4:World)(b g n:Nat)(cs:Array Value)(T':Nat->Prop)(L:Nat->Bool)(vals:Nat->Value)(W:World):Prop where
 c8:C8 W0 T4 W4 b g cs T' W
 kn:∀k x,K k=I x->L k=nr->vals k=x
 bs:L 7=nr->∃A c,vals 7=ng A 1 c/\CVc W0 T' W 0 (.sl 1 98 64) (ng A 1 c)
 ap:L 8=nr->∃A c,vals 8=ng A (n+1) c/\CVc W0 T' W 0 (.sl 1 98 1024) (ng A (n+1) c)
variable {T4:Nat->Prop}{W4:nu}{g n:Nat}{cs:Array ny}
theorem qa5.put(h:qa5 W0 K T4 W4 b g n cs T' L vals W)(h0:∀x,K i=I x->v=x)(h7:i=7->∃A c,v=ng A 1 c/\CVc W0 T' W 0 (.sl 1 98 64) (ng A 1 c))
  (h8:i=8->∃A c,v=ng A (n+1) c/\CVc W0 T' W 0 (.sl 1 98 1024) (ng A (n+1) c)):qa5 W0 K T4 W4 b g n cs T' (qui L i) (qxa vals i v) W:=by
 refine⟨h.c8,λk x hk hl=>?_,λhl=>?_,λhl=>?_⟩
 .by_cases e:k=i
  .subst e;simp only[qxa,if_true];exact h0 x hk
  .simp only[qui,qxa,if_neg e] at hl ⊢;exact h.kn k x hk hl
 .by_cases e:7=i
  .simp only[qxa,if_pos e];exact h7 e.symm
  .simp only[qui,qxa,if_neg e] at hl ⊢;exact h.bs hl
 .by_cases e:8=i
  .simp only[qxa,if_pos e];exact h8 e.symm
  .simp only[qui,qxa,if_neg e] at hl ⊢;exact h.ap hl
theorem qa5.grow(h:qa5 W0 K T4 W4 b g n cs T' L vals W)(k:Kp W0 T' W b T2 W'):qa5 W0 K T4 W4 b g n cs T2 L vals W':=by
 have hx:=k.hist.ext;refine⟨h.c8.grow k,h.kn,λhl=>?_,λhl=>?_⟩
 .obtain⟨A,c,q1,q2⟩:=h.bs hl;exact⟨A,c,q1,q2.mono hx (af _)⟩
 .obtain⟨A,c,q1,q2⟩:=h.ap hl;exact⟨A,c,q1,q2.mono hx (af _)⟩
theorem qa5.append{Ab:Option Addr}{c cb:Nat}(ho:o.op=.call { callee:=.builtin .append,args:=#[.tmp 95,.tmp 97],argTypes:=#[44,44] })(h:qa5 W0 K T4 W4 b g n cs T' L vals W)(hp:CVc W0 T' W 0 (.pt 1 80) (nj (I ⟨b,off,V⟩)))
  (h1:a.tmps.getD 95 mc=ng A n c) (h2:a.tmps.getD 97 mc=ng Ab 1 cb) (hc1:CVc W0 T' W 0 (.sl 1 98 1024) (ng A n c)) (hc2:CVc W0 T' W 0 (.sl 1 98 64) (ng Ab 1 cb)) (hn:n<=1000) (hK:K 8=V) :
  qx.qc ab (λv W'=>∃T2,qa5 W0 K T4 W4 b g n cs T2 (qui L 8) (qxa vals 8 v) W') ((execOp a.eval o).run ab W):=by
 have hwt:=h.c8.kp.wt;refine qx.qc.mono (qsb (T:=qxc W T' RcT) (lb1:=1024) (lb2:=64) (e:=98) kj ho (q26 hwt q2o) h1 h2 (qey kj hc1) (qey kj (qv4 hc2 kg 0)) ki) ?_;rintro v W' ⟨T1,A',c'',rfl,q2,q3,q4⟩;obtain⟨j1,j2,j3,j4⟩:=qpk hwt q3 q4;have hb:=(qzc hwt hp).2.1;have hk:Kp W0 T' W b _ W':=⟨j1,⟨j2.ext,j2.new,j2.size,j2.os,j2.tape,j2.output,j2.keep,j2.kpt⟩,j4 b hb (qwi hwt hp)⟩;exact⟨_,(h.grow hk).put (λx hx=>by rw[hK] at hx;cases hx) kg (λ_=>⟨A',c'',rfl,(q2.mono j3 (af _)).lb kg kg⟩)⟩
def qie(d:Nat)(f:List CT):St:=⟨f.length,[(d,.v (.agg (vars 0 f.length)))],qa4 0 f,[],[]⟩
theorem q3b(Z:yu)(l:List ny)(h:∀i v,l[i]? = I v->Z i=v):qw Z (vars 0 l.length)=l:=by
 refine List.ext_getElem? (λi=>?_);unfold qw;rw[List.getElem?_map];by_cases hi:i<l.length
 .rw[qac _ _ _ hi,ah hi];simp only[Option.map_some,SV.den,bu];rw[h i _ (ah hi)]
 .rw[dn (by rw[qal];omega),dn kg];rfl
theorem qsq{d:Nat}{f:List CT}{cs:Array ny}(ho:o.op=.buildSlice t 1 #[(0,.tmp d)])(hw:WTc W0 T W)(h1:a.tmps.getD d mc=.agg cs)(hc:TyValc W0 T W W.heap.size (.agg f) (.agg cs))
  (hr:qfs cx (qie d f) t 1 [(0,.tmp d)]=I ⟨qzy (qie d f) (.sl 2 e 1) [(qf.at f.length).pl (-1),(qf.k 1).sub (qf.at f.length)],.no,.pure⟩) :
  qx.qc ab (λv W'=>∃T' A' c'',v=ng A' 1 c''/\CVc W0 T' W' 0 (.sl 1 e 1) v/\zg T W .pure T' W'/\WTc W0 T' W') ((execOp a.eval o).run ab W):=by
 obtain⟨cs',e0,hs,hct⟩:=hc;cases e0
 have hH:qqu cx W0 (qie d f) W.heap.size (λZ=>∀i,i<f.length->Z i=cs.getD i mc) T W a:=by
  refine⟨⟨λi=>cs.getD i mc,λ_ _=>rfl⟩,λZ hρ=>⟨hw,hw.size,af _,?_,by simp[qie],by simp[qie],by simp[qie]⟩,λZ hρ=>?_⟩
  .intro m ct hm;obtain⟨i,rfl,hi⟩:=qkl hm;have hil:=(al.1 hi).1;rw[bu,hρ i hil];exact hct i ct _ hi (by rw[au,ak kg];rfl)
  .intro x y hxy;unfold qie at hxy;simp only[look] at hxy;split at hxy
   .rename_i e1;subst e1;cases hxy;rw[h1];simp only[XV.den,TV.den]
    have:=q3b Z cs.toList (λi v hv=>by
     have hi:i<cs.size:=by simpa using(al.1 hv).1
     rw[hρ i kg,au,<-ax,hv];rfl)
    rw[aw,hs] at this;rw[this]
   .cases hxy
 have hs:=qhs cxOk ho hr hH;refine qx.qc.mono (qlr hs (λi=>cs.getD i mc) (λv i hi=>by simp[qie,show i≠f.length by omega])) ?_;rintro v W' ⟨T',q1,q2,q3⟩;have q2':=q2.le (b:=.sl 1 e 1) (by simp[CT.le]);have q2':=qyi q2' 0;obtain⟨A',n',c'',rfl,hn'⟩:=yc q2';have q4:=q3 _ (ff ..);rw[qf.xh] at q4;have a0:∀Z:yu,(qf.at f.length).eval Z=meas (Z f.length):=λZ=>by simp[qf.at,qf.eval,jk]
 rw[a0] at q4;simp[qie,meas] at q4;obtain rfl:n'=1:=kg;exact⟨T',A',c'',rfl,q2',q1.hist,q1.wt⟩
theorem qa5.build(ho:o.op=.buildSlice 44 1 #[(0,.tmp 96)])(h:qa5 W0 K T4 W4 b g n cs T' L vals W)(hp:CVc W0 T' W 0 (.pt 1 80) (nj (I ⟨b,off,V⟩)))
  (h1:a.tmps.getD 96 mc=.agg cs) (hK:K 7=V) :
  qx.qc ab (λv W'=>∃T2,qa5 W0 K T4 W4 b g n cs T2 (qui L 7) (qxa vals 7 v) W') ((execOp a.eval o).run ab W):=by
 have hwt:=h.c8.kp.wt;refine qx.qc.mono (qsq (e:=98) (f:=[.str mf,.str mf,qy O,.str mf,qy O,qy O,.sl 0 156 1024,qy O,qy O,.bool,.bool]) ho hwt h1 (qte h.c8.ty _) ki) ?_;rintro v W' ⟨T1,A',c'',rfl,q2,q3,q4⟩;have hb:=(qzc hwt hp).2.1;have hk:Kp W0 T' W b _ W':=⟨q4,⟨q3.ext,q3.new,q3.size,q3.os,q3.tape,q3.output,λx hx hn=>q3.keep x hx (.inl rfl),λ_ x hx hT=>.same (q3.keep x hx (.inl rfl))⟩,q3.keep b hb (.inl rfl)⟩;exact⟨_,(h.grow hk).put (λx hx=>by rw[hK] at hx;cases hx) (λ_=>⟨A',c'',rfl,q2.lb kg kg⟩) kg⟩
theorem rc_lit{base:Nat}{cs:Array ny}(h:TyValc W0 T w base que (.agg cs)) :
  ∃(s0 s1:ByteArray) (n2:Int) (s3:ByteArray) (n4 n5:Int) (B:Option Addr) (m c:Nat) (n7 n8:Int) (b9 b10:Bool),cs=#[nh s0,nh s1,U O n2,nh s3,U O n4,U O n5,ng B m c,U O n7,U O n8,ni b9,ni b10]:=by
 obtain⟨cs',e,hs,ha⟩:=h;cases e;obtain⟨l⟩:=cs;obtain⟨s0,s1,n2,s3,n4,n5,B,m,c,n7,n8,b9,b10,rfl⟩:=q2d (r:=l) hs (λk ct u hk hu=>ha k ct u hk (by simpa using hu));exact⟨s0,s1,n2,s3,n4,n5,B,m,c,n7,n8,b9,b10,rfl⟩
theorem q0p{base:Nat}{n c:Nat}{u:ny}(hw:WTc W0 T w)(hp:CVc W0 T w base (.pt 1 80) (nj (I ⟨b,off,V⟩)))(h5:w.cell? ⟨b,off+7,V⟩=I u)(hl:CVc W0 T w 0 (.sl 1 98 1024) (ng A n c)) :
  WTc W0 T (w.setCell ⟨b,off+7,V⟩ (ng A n c))/\xq T w T (w.setCell ⟨b,off+7,V⟩ (ng A n c))/\zg T w .kp T (w.setCell ⟨b,off+7,V⟩ (ng A n c)):=by
 obtain⟨b',off',e,⟨h0,-⟩|⟨hT,-,te,hrow,hct⟩⟩:=hp
 .cases h0
 injection e with e;injection e with e;injection e with e1 e2 e3;subst e1 e2
 have hne:qum te=ns:=by
  have h4:=hct 1 (.sl 1 84 63) rfl;by_cases ht2:te=34
  .subst ht2;exfalso;simp only[yg.qym,show cx.tb.flat 34=I [.fz .str,.fz .str,.fz .str,.fz (.int O),.fz (.int O),.fz (.int O)] from rfl] at h4;exact absurd (cm (by simpa using h4)) (show(CT.sl 1 84 63) ∉ ([.fz .str,.fz .str,.fz .str,.fz (.int O),.fz (.int O),.fz (.int O)]:List CT) by decide)
  .simp[qum,ht2]
 exact q0l (o:=off+7) (ct:=.sl 1 98 1024) (v:=ng A n c) hw hT ⟨_,hrow⟩ (hct 7 (.sl 1 98 1024) rfl) kj kj (kb_of hw hT hrow hct) hne h5 hl
end
open Go.RowKit
section
variable {W0:nu}{T T' T'':Nat->Prop}{w W W':nu}{b off:Nat}
theorem qo1(qgl:qm ab cx W0 134 qly)(qgb:qm ab cx W0 135 qlq)(qgg:qm ab cx W0 136 qri)(hw:WTc W0 T w)(hp:CVc W0 T w w.heap.size (.pt 1 80) (nj (I ⟨b,off,V⟩)))
  (s0 s1:ByteArray) (n2 n3 n4 n5:Int) (s6:ByteArray) (b7:Bool) (n8:Int) (B:Option Addr) (m c:Nat)
  (hev:TyValc W0 T w w.heap.size (.agg [.str mf,.str mf,qy O,qy O,qy O,qy O,.str mf,.bool,qy O,.sl 0 156 1024]) (.agg (qqc s0 s1 n2 n3 n4 n5 s6 b7 n8 (ng B m c)))) :
  Calls ab 116 #[nj (I ⟨b,off,V⟩),.agg (qqc s0 s1 n2 n3 n4 n5 s6 b7 n8 (ng B m c))] w (CoPost W0 T w):=by
 obtain⟨u5,hc5,hu5⟩:=hw.load hp (k:=6) (ct:=.sl 1 95 8192) rfl;obtain⟨A5,n5',c5',rfl,hn5⟩:=yc hu5;obtain⟨u6,hc6,hu6⟩:=hw.load hp (k:=7) (ct:=.sl 1 98 1024) rfl;obtain⟨A6,n6',c6',rfl,hn6⟩:=yc hu6;have hb0:=(qzc hw hp).2.1;have hB:=zy w (.cells (qqc s0 s1 n2 n3 n4 n5 s6 b7 n8 (ng B m c)) 95);obtain⟨hw1,hx1⟩:=zh hw hB;have HW1:=aa hw1;have HH1:Hid (zg T w .kp T _):=zk (PU:=.kp) hw hB;have HP1:=aa (qgi (hp.mono hx1 (af _)) 0);have HEV:=aa (q6k (qql hx1 hev) 0);have HU5:=aa (qyi (CV.mono hu5 hx1 (af _)) 0);have HC5:Hid (∀W:nu,W.heap[b]? = (w.alloc (.cells (qqc s0 s1 n2 n3 n4 n5 s6 b7 n8 (ng B m c)) 95)).heap[b]?->W.cell? ⟨b,off+6,V⟩=I (ng A5 n5' c5')):=λW h=>by rw[iy w _ _ hb0] at h;unfold lg at hc5 ⊢;rw[h];exact hc5
 have HC6:Hid (∀W:nu,W.heap[b]? = (w.alloc (.cells (qqc s0 s1 n2 n3 n4 n5 s6 b7 n8 (ng B m c)) 95)).heap[b]?->W.cell? ⟨b,off+7,V⟩=I (ng A6 n6' c6')):=λW h=>by rw[iy w _ _ hb0] at h;unfold lg at hc6 ⊢;rw[h];exact hc6
 have HBE:=aa (mg.new w 95 (qqc s0 s1 n2 n3 n4 n5 s6 b7 n8 (ng B m c)));have HG3:Hid (¬T w.heap.size):=λh=>by have:=hw.lt h;omega
 have l5:=HC5.out _ rfl;have l6:=HC6.out _ rfl;clear hc5 hc6 hu5 hw hp hev hw1 hx1 hB hu6;go_enter ade,Tryz.ntmps116;by_cases z5:4096<=n5'
 .have z5z:(4096:Int)<=(n5':Int):=kg;go_wp2_with fail;go_ret;exact⟨3,rfl,kj,kj,T,HW1.out,HH1.out⟩
 have z5z:¬(4096:Int)<=(n5':Int):=kg;have z5d:decide ((4096:Int)<=(n5':Int))=ns:=nc;by_cases z6:256<=n6'
 .have z6z:(256:Int)<=(n6':Int):=kg;go_wp2_with fail;go_ret;exact⟨3,rfl,kj,kj,T,HW1.out,HH1.out⟩
 have z6z:¬(256:Int)<=(n6':Int):=kg;go_wp2_with fail;clear l5 l6;have hgl:=HBE.out.lt;generalize w.alloc (.cells (qqc s0 s1 n2 n3 n4 n5 s6 b7 n8 (ng B m c)) 95)=w1 at *;generalize hg3:w.heap.size=g3 at *;refine qx.region 12 (λW=>∃T',Kp W0 T w1 b T' W) (λk v W=>match k with|0=>v=nj (I ⟨b,off,V⟩)|1=>v=nj (I ⟨b,off,V⟩)|2=>v=nj (I ⟨b,off,V⟩)|3=>v=nj (I ⟨b,off+6,V⟩)|4=>v=ng A5 n5' c5' | 5=>v=.agg (qqc s0 s1 n2 n3 n4 n5 s6 b7 n8 (ng B m c))|6=>CR W0 T w1 b v W|7=>CR W0 T w1 b v W|8=>CL W0 T w1 b v W|9=>CE v|10=>CL W0 T w1 b v W|11=>CE v|_=>True) ki ki (qx.qqq (n:=102) ki rfl) ⟨T,(Kp.refl HW1.out).below (qzc HW1.out HP1.out).2.1 (tg (aj _ _))⟩ ?_ ?_
 .intro j o hj ho a W hG qh;have hj':j=0\/j=1\/j=2\/j=3\/j=4\/j=5\/j=6\/j=7\/j=8\/j=9\/j=10\/j=11:=kg;clear hj;rcases hj' with rfl|rfl|rfl|rfl|rfl|rfl|rfl|rfl|rfl|rfl|rfl|rfl
  .cases oi ho;clear ho;have h0:a.tmps[0]?.getD mc=nj (I ⟨b,off,V⟩):=qx.gdt (qh 0 nd);refine qx.qc.eq ?_ ⟨hG,rfl,λ_ _ _ _ _ h=>h⟩;go_simp
   all_goals(try exact⟨rfl,rfl⟩)
  .cases oi ho;clear ho;have qmi:a.tmps[27]?.getD mc=nj (I ⟨b,off,V⟩):=qx.gdt (qh 27 nd);refine qx.qc.eq ?_ ⟨hG,rfl,λ_ _ _ _ _ h=>h⟩;go_simp
   all_goals(try exact⟨rfl,rfl⟩)
  .cases oi ho;clear ho;have q4j:a.tmps[28]?.getD mc=nj (I ⟨b,off,V⟩):=qx.gdt (qh 28 nd);refine qx.qc.eq ?_ ⟨hG,rfl,λ_ _ _ _ _ h=>h⟩;go_simp
   all_goals(try exact⟨rfl,rfl⟩)
  .cases oi ho;clear ho;have qbe:a.tmps[29]?.getD mc=nj (I ⟨b,off,V⟩):=qx.gdt (qh 29 nd);refine qx.qc.eq ?_ ⟨hG,rfl,λ_ _ _ _ _ h=>h⟩;go_simp
   all_goals(try exact⟨rfl,rfl⟩)
  .cases oi ho;clear ho;have qmn:a.tmps[30]?.getD mc=nj (I ⟨b,off+6,V⟩):=qx.gdt (qh 30 nd);obtain⟨T',hK⟩:=id hG;have l5:=HC5.out W hK.blk;refine qx.qc.eq ?_ ⟨hG,rfl,λ_ _ _ _ _ h=>h⟩;go_simp
   all_goals(try exact⟨rfl,rfl⟩)
  .cases oi ho;clear ho;have h3:a.tmps[3]?.getD mc=nj (I ⟨g3,0,V⟩):=qx.gdt (qh 3 nd);obtain⟨T',hK⟩:=id hG;have kb:mg W g3 95 (qqc s0 s1 n2 n3 n4 n5 s6 b7 n8 (ng B m c)):=(hK.hist.keep g3 hgl (.inr HG3.out)).trans HBE.out;have kc:=kb.cell;unfold qqc at kc;refine qx.qc.mono (R:=λv W2=>v=.agg (qqc s0 s1 n2 n3 n4 n5 s6 b7 n8 (ng B m c))/\W2=W) ?_ (λv W2 h=>?_)
   .unfold qqc;go_simp
    all_goals(try exact⟨rfl,rfl⟩)
   .obtain⟨rfl,rfl⟩:=h;exact⟨hG,rfl,λ_ _ _ _ _ h=>h⟩
  .cases oi ho;clear ho;have qif:a.tmps[31]?.getD mc=ng A5 n5' c5':=qx.gdt (qh 31 nd);have qtp:a.tmps[32]?.getD mc=.agg (qqc s0 s1 n2 n3 n4 n5 s6 b7 n8 (ng B m c)):=qx.gdt (qh 32 nd);obtain⟨T',hK⟩:=id hG;have HCL:=aa (q5k qgl hK HW1.out HP1.out (CV.mono HU5.out hK.hist.ext (af _)) HEV.out);refine qx.qc.mono (R:=λv W2=>CR W0 T w1 b v W2) ?_ (λv W2 h=>?_)
   .go_simp;refine HCL.out.mono ?_;rintro e W2 ⟨v,rfl,h⟩;exact⟨_,rfl,h⟩
   .obtain⟨T2,l,k,h1,h2⟩:=id h;refine⟨⟨T2,h1⟩,h,λk u hk hne hr hu=>?_⟩
    match k,hk,hne,hr,hu with
    | 0,_,_,_,hu=>exact hu
    | 1,_,_,_,hu=>exact hu
    | 2,_,_,_,hu=>exact hu
    | 3,_,_,_,hu=>exact hu
    | 4,_,_,_,hu=>exact hu
    | 5,_,_,_,hu=>exact hu
    | 6,_,hne,_,_=>exact absurd rfl hne
    | 7,_,_,hr,_=>exact absurd hr (by simp[qx.reaches,qx.waits,dy])
    | 8,_,_,hr,_=>exact absurd hr (by simp[qx.reaches,qx.waits,dy])
    | 9,_,_,hr,_=>exact absurd hr (by simp[qx.reaches,qx.waits,dy])
    | 10,_,_,hr,_=>exact absurd hr (by simp[qx.reaches,qx.waits,dy])
    | 11,_,_,hr,_=>exact absurd hr (by simp[qx.reaches,qx.waits,dy])
    | k+12,hk,_,_,_=>omega
  .cases oi ho;clear ho;have hk:CR W0 T w1 b (a.tmps.getD 33 mc) W:=qh 33 nd;refine qx.qc.eq (v:=a.tmps.getD 33 mc) ?_ ⟨hG,hk,λ_ _ _ _ _ h=>h⟩;go_simp
   all_goals(try exact⟨rfl,rfl⟩)
  .cases oi ho;clear ho;obtain⟨T2,l,k,h1,e1,h2,h3⟩:CR W0 T w1 b (a.tmps.getD 26 mc) W:=qh 26 nd;have qmh:a.tmps[26]?.getD mc=nq #[l,U O k]:=gdq e1;refine qx.qc.eq (v:=l) ?_ ⟨hG,⟨T2,h1,h2⟩,λ_ _ _ _ _ h=>h⟩;go_simp
   all_goals(try exact⟨rfl,rfl⟩)
  .cases oi ho;clear ho;obtain⟨T2,l,k,h1,e1,h2,h3⟩:CR W0 T w1 b (a.tmps.getD 26 mc) W:=qh 26 nd;have qmh:a.tmps[26]?.getD mc=nq #[l,U O k]:=gdq e1;refine qx.qc.eq ?_ ⟨hG,⟨k,rfl,h3⟩,λ_ _ _ _ _ h=>h⟩;go_simp
   all_goals(try exact⟨rfl,rfl⟩)
  .cases oi ho;clear ho;have hk:CL W0 T w1 b (a.tmps.getD 34 mc) W:=qh 34 nd;refine qx.qc.eq (v:=a.tmps.getD 34 mc) ?_ ⟨hG,hk,λ_ _ _ _ _ h=>h⟩;go_simp
   all_goals(try exact⟨rfl,rfl⟩)
  .cases oi ho;clear ho;have hk:CE (a.tmps.getD 35 mc):=qh 35 nd;refine qx.qc.eq (v:=a.tmps.getD 35 mc) ?_ ⟨hG,hk,λ_ _ _ _ _ h=>h⟩;go_simp
   all_goals(try exact⟨rfl,rfl⟩)
 .intro vals W hG hv;obtain⟨T2,hK,hL⟩:CL W0 T w1 b (vals 10) W:=hv 10 kg;obtain⟨k,e9,hk⟩:CE (vals 11):=hv 11 kg;clear hv hG;simp only[qx.puts,qx.zi,ay,dc,if_true,cq,df,e9];clear e9;generalize vals 10=lv at *;generalize vals 0=v0;generalize vals 1=v1;generalize vals 2=v2;generalize vals 3=v3;generalize vals 4=v4;generalize vals 5=v5;generalize vals 6=v6;generalize vals 7=v7;generalize vals 8=v8;generalize vals 9=v9;simp[ez];obtain⟨A7,n7,c7,rfl,hn7⟩:=yc hL;have HK:=aa hK;have HL:=aa hL;clear hK hL;have hT2:T2 b/\b<W.heap.size/\¬qxc W T2 qtt b:=qzc HK.out.wt (HP1.out.mono HK.out.hist.ext (af _));have l5:=HC5.out W HK.out.blk;have l6:=HC6.out W HK.out.blk;have f5:=qvg HK.out.wt hT2.1 l5
  go_upto_if 37 with(fail)
  go_cut [6] (λs6 wd=>Cs W0 T w1 b off A6 n6' c6' wd)
  case first=>
   by_cases k0:k=0
   .subst k0;go_wp2_with fail;go_meet;exact Cs.store HK.out HP1.out l6 l5 HL.out
   .have k0z:(k == 0)=ns:=by simpa using k0
    by_cases k9:k=9
    .subst k9;go_wp2_with fail;go_meet;exact⟨T2,HK.out.wt,HK.out.hist,l6⟩
    .have k9z:(k != 9)=nr:=by simpa using k9
     go_wp2_with fail;go_ret;exact⟨k,rfl,hk.1,hk.2,T2,HK.out.wt,HH1.out.comp HK.out.hist⟩
  case rest=>
  clear l5 l6 f5;obtain⟨T3,w3,h3,l7⟩:=hcut;have HW3:=aa w3;have HH3:=aa h3;have HP3:=aa (qgi (HP1.out.mono h3.ext (af _)) 0);have hb3:=(qzc w3 HP3.out).2.1;have HE3:Hid (mg wc g3 95 (qqc s0 s1 n2 n3 n4 n5 s6 b7 n8 (ng B m c))):=(h3.keep g3 hgl (.inr HG3.out)).trans HBE.out;have hg3l:=HE3.out.lt;have HG3':Hid (¬T3 g3):=λh=>(h3.new g3 h).elim HG3.out (λh=>kg)
  have hz0:W0.heap.size<=wc.heap.size:=w3.size;obtain⟨u5,hc5,hu5⟩:=w3.load HP3.out (k:=6) (ct:=.sl 1 95 8192) rfl;obtain⟨A8,n8',c8',rfl,hn8'⟩:=yc hu5;obtain⟨u11,hc11,nm,rfl,hm0,hm1⟩:=w3.load HP3.out (k:=11) (ct:=qy O) rfl;have HU8:=aa (qyi hu5 0);have HC8:Hid (∀W:nu,W.heap[b]? = wc.heap[b]?->W.cell? ⟨b,off+6,V⟩=I (ng A8 n8' c8')):=λW h=>by unfold lg at hc5 ⊢;rw[h];exact hc5
  have HCm:Hid (∀W:nu,W.heap[b]? = wc.heap[b]?->W.cell? ⟨b,off+11,V⟩=I (U O nm)):=λW h=>by unfold lg at hc11 ⊢;rw[h];exact hc11
  have HCr:Hid (∀W:nu,W.heap[b]? = wc.heap[b]?->W.cell? ⟨b,off+7,V⟩=I (ng A6 n6' c6')):=λW h=>by unfold lg at l7 ⊢;rw[h];exact l7
  have hs01:s0.size<=mf/\s1.size<=mf:=by
   obtain⟨cs',e,-,ha⟩:=HEV.out;cases e;obtain⟨_,q,q0⟩:=ha 0 _ _ rfl rfl;cases q;obtain⟨_,q,q1⟩:=ha 1 _ _ rfl rfl;cases q;exact⟨q0,q1⟩
  have HR6:Hid (CVc W0 T3 wc 0 (.sl 1 98 1024) (ng A6 n6' c6')):=by
   obtain⟨u,q1,q2⟩:=w3.load HP3.out (k:=7) (ct:=.sl 1 98 1024) rfl;rw[l7] at q1;cases q1;exact q2
  clear l7 hu5 hc5 hc11 h3 w3;go_wp2_with fail;refine Reg9D.region 22 (λL vals W=>∃T',qun W0 (λkz=>match kz with|0=>I (nj (I ⟨b,off,V⟩))|1=>I (nj (I ⟨b,off,V⟩))|2=>I (nj (I ⟨b,off,V⟩))|3=>I (nj (I ⟨b,off+6,V⟩))|4=>I (ng A8 n8' c8')|5=>I (nj (I ⟨g3,0,V⟩))|6=>I (nh s0)|7=>I (nj (I ⟨g3,1,V⟩))|8=>I (nh s1)|10=>I (nj (I ⟨b,off,V⟩))|11=>I (nj (I ⟨b,off,V⟩))|12=>I (nj (I ⟨b,off,V⟩))|13=>I (nj (I ⟨b,off+11,V⟩))|14=>I (U O nm)|_=>V) T3 wc b T' L vals W) ki ki (qx.qqq (n:=102) ki rfl) ⟨T3,(Kp.refl HW3.out).below hb3 (tg (aj _ _)),λ_ _ _ h=>(by cases h),λh=>(by cases h),λ_ _ h=>(by cases h),λh=>(by cases h),λ_ _ h=>(by cases h),λh=>(by cases h)⟩ ?_ ?_
  .intro j o hj ho L vals a W hLi hS0 hed qh hdn;obtain⟨T4,hS⟩:=hS0;have hj':j=0\/j=1\/j=2\/j=3\/j=4\/j=5\/j=6\/j=7\/j=8\/j=9\/j=10\/j=11\/j=12\/j=13\/j=14\/j=15\/j=16\/j=17\/j=18\/j=19\/j=20\/j=21:=kg;clear hj;rcases hj' with rfl|rfl|rfl|rfl|rfl|rfl|rfl|rfl|rfl|rfl|rfl|rfl|rfl|rfl|rfl|rfl|rfl|rfl|rfl|rfl|rfl|rfl
   .cases oi ho;clear ho;have h0:a.tmps[0]?.getD mc=nj (I ⟨b,off,V⟩):=qx.gdt (qh 0 nd);refine qx.qc.eq (v:=nj (I ⟨b,off,V⟩)) ?_ ⟨T4,hS.put hLi (λx hx=>oi hx) kg kg kg kg kg kg⟩;go_simp
    all_goals(try exact⟨rfl,rfl⟩)
   .cases oi ho;clear ho;obtain⟨lo47,eo47⟩:=qh 47 nd;have qth:a.tmps[47]?.getD mc=nj (I ⟨b,off,V⟩):=gdq (eo47.trans (hS.kn 0 _ rfl lo47));clear eo47;refine qx.qc.eq (v:=nj (I ⟨b,off,V⟩)) ?_ ⟨T4,hS.put hLi (λx hx=>oi hx) kg kg kg kg kg kg⟩;go_simp
    all_goals(try exact⟨rfl,rfl⟩)
   .cases oi ho;clear ho;obtain⟨lo48,eo48⟩:=qh 48 nd;have q4x:a.tmps[48]?.getD mc=nj (I ⟨b,off,V⟩):=gdq (eo48.trans (hS.kn 1 _ rfl lo48));clear eo48;refine qx.qc.eq (v:=nj (I ⟨b,off,V⟩)) ?_ ⟨T4,hS.put hLi (λx hx=>oi hx) kg kg kg kg kg kg⟩;go_simp
    all_goals(try exact⟨rfl,rfl⟩)
   .cases oi ho;clear ho;obtain⟨lo49,eo49⟩:=qh 49 nd;have qtr:a.tmps[49]?.getD mc=nj (I ⟨b,off,V⟩):=gdq (eo49.trans (hS.kn 2 _ rfl lo49));clear eo49;refine qx.qc.eq (v:=nj (I ⟨b,off+6,V⟩)) ?_ ⟨T4,hS.put hLi (λx hx=>oi hx) kg kg kg kg kg kg⟩;go_simp
    all_goals(try exact⟨rfl,rfl⟩)
   .cases oi ho;clear ho;obtain⟨lo50,eo50⟩:=qh 50 nd;have h50:a.tmps[50]?.getD mc=nj (I ⟨b,off+6,V⟩):=gdq (eo50.trans (hS.kn 3 _ rfl lo50));clear eo50;have l5:=HC8.out W hS.kp.blk;refine qx.qc.eq (v:=ng A8 n8' c8') ?_ ⟨T4,hS.put hLi (λx hx=>oi hx) kg kg kg kg kg kg⟩;go_simp
    all_goals(try exact⟨rfl,rfl⟩)
   .cases oi ho;clear ho;have h3:a.tmps[3]?.getD mc=nj (I ⟨g3,0,V⟩):=qx.gdt (qh 3 nd);refine qx.qc.eq (v:=nj (I ⟨g3,0,V⟩)) ?_ ⟨T4,hS.put hLi (λx hx=>oi hx) kg kg kg kg kg kg⟩;go_simp
    all_goals(try exact⟨rfl,rfl⟩)
   .cases oi ho;clear ho;obtain⟨lo52,eo52⟩:=qh 52 nd;have h52:a.tmps[52]?.getD mc=nj (I ⟨g3,0,V⟩):=gdq (eo52.trans (hS.kn 5 _ rfl lo52));clear eo52;have kb:mg W g3 95 (qqc s0 s1 n2 n3 n4 n5 s6 b7 n8 (ng B m c)):=(hS.kp.hist.keep g3 hg3l (.inr HG3'.out)).trans HE3.out;have kc:=kb.cell;unfold qqc at kc;refine qx.qc.eq (v:=nh s0) ?_ ⟨T4,hS.put hLi (λx hx=>oi hx) kg kg kg kg kg kg⟩;go_simp
    all_goals(try exact⟨rfl,rfl⟩)
   .cases oi ho;clear ho;have h3:a.tmps[3]?.getD mc=nj (I ⟨g3,0,V⟩):=qx.gdt (qh 3 nd);refine qx.qc.eq (v:=nj (I ⟨g3,1,V⟩)) ?_ ⟨T4,hS.put hLi (λx hx=>oi hx) kg kg kg kg kg kg⟩;go_simp
    all_goals(try exact⟨rfl,rfl⟩)
   .cases oi ho;clear ho;obtain⟨lo54,eo54⟩:=qh 54 nd;have h54:a.tmps[54]?.getD mc=nj (I ⟨g3,1,V⟩):=gdq (eo54.trans (hS.kn 7 _ rfl lo54));clear eo54;have kb:mg W g3 95 (qqc s0 s1 n2 n3 n4 n5 s6 b7 n8 (ng B m c)):=(hS.kp.hist.keep g3 hg3l (.inr HG3'.out)).trans HE3.out;have kc:=kb.cell;unfold qqc at kc;refine qx.qc.eq (v:=nh s1) ?_ ⟨T4,hS.put hLi (λx hx=>oi hx) kg kg kg kg kg kg⟩;go_simp
    all_goals(try exact⟨rfl,rfl⟩)
   .cases oi ho;clear ho;obtain⟨lo51,eo51⟩:=qh 51 nd;have h51:a.tmps[51]?.getD mc=ng A8 n8' c8':=gdq (eo51.trans (hS.kn 4 _ rfl lo51));clear eo51;obtain⟨lo53,eo53⟩:=qh 53 nd;have h53:a.tmps[53]?.getD mc=nh s0:=gdq (eo53.trans (hS.kn 6 _ rfl lo53));clear eo53;obtain⟨lo55,eo55⟩:=qh 55 nd;have h55:a.tmps[55]?.getD mc=nh s1:=gdq (eo55.trans (hS.kn 8 _ rfl lo55));clear eo55;have HCL:=aa (q7i qgg (Kp.refl (b:=b) hS.kp.wt) hS.kp.wt (HP3.out.mono hS.kp.hist.ext (af _)) (CV.mono HU8.out hS.kp.hist.ext (af _)) hs01.1 hs01.2);refine qx.qc.mono (R:=λv W2=>CL W0 T4 W b v W2) ?_ (λv W2 h=>?_)
    .go_simp;refine HCL.out.mono ?_;rintro e W2 ⟨v,rfl,h⟩;exact⟨_,rfl,h⟩
    .obtain⟨T2,hk,hc⟩:=id h;exact⟨T2,(hS.grow hk).put hLi (λx hx=>by cases hx) (λ_=>hc) kg kg kg kg kg⟩
   .cases oi ho;clear ho;have h0:a.tmps[0]?.getD mc=nj (I ⟨b,off,V⟩):=qx.gdt (qh 0 nd);refine qx.qc.eq (v:=nj (I ⟨b,off,V⟩)) ?_ ⟨T4,hS.put hLi (λx hx=>oi hx) kg kg kg kg kg kg⟩;go_simp
    all_goals(try exact⟨rfl,rfl⟩)
   .cases oi ho;clear ho;obtain⟨lo57,eo57⟩:=qh 57 nd;have h57:a.tmps[57]?.getD mc=nj (I ⟨b,off,V⟩):=gdq (eo57.trans (hS.kn 10 _ rfl lo57));clear eo57;refine qx.qc.eq (v:=nj (I ⟨b,off,V⟩)) ?_ ⟨T4,hS.put hLi (λx hx=>oi hx) kg kg kg kg kg kg⟩;go_simp
    all_goals(try exact⟨rfl,rfl⟩)
   .cases oi ho;clear ho;obtain⟨lo58,eo58⟩:=qh 58 nd;have h58:a.tmps[58]?.getD mc=nj (I ⟨b,off,V⟩):=gdq (eo58.trans (hS.kn 11 _ rfl lo58));clear eo58;refine qx.qc.eq (v:=nj (I ⟨b,off,V⟩)) ?_ ⟨T4,hS.put hLi (λx hx=>oi hx) kg kg kg kg kg kg⟩;go_simp
    all_goals(try exact⟨rfl,rfl⟩)
   .cases oi ho;clear ho;obtain⟨lo59,eo59⟩:=qh 59 nd;have q3p:a.tmps[59]?.getD mc=nj (I ⟨b,off,V⟩):=gdq (eo59.trans (hS.kn 12 _ rfl lo59));clear eo59;refine qx.qc.eq (v:=nj (I ⟨b,off+11,V⟩)) ?_ ⟨T4,hS.put hLi (λx hx=>oi hx) kg kg kg kg kg kg⟩;go_simp
    all_goals(try exact⟨rfl,rfl⟩)
   .cases oi ho;clear ho;obtain⟨lo60,eo60⟩:=qh 60 nd;have qml:a.tmps[60]?.getD mc=nj (I ⟨b,off+11,V⟩):=gdq (eo60.trans (hS.kn 13 _ rfl lo60));clear eo60;have l5:=HCm.out W hS.kp.blk;refine qx.qc.eq (v:=U O nm) ?_ ⟨T4,hS.put hLi (λx hx=>oi hx) kg kg kg kg kg kg⟩;go_simp
    all_goals(try exact⟨rfl,rfl⟩)
   .cases oi ho;clear ho;obtain⟨lo56,eo56⟩:=qh 56 nd;have h56:a.tmps[56]?.getD mc=vals 9:=gdq eo56;clear eo56;obtain⟨lo61,eo61⟩:=qh 61 nd;have h61:a.tmps[61]?.getD mc=.int O nm:=gdq (eo61.trans (hS.kn 14 _ rfl lo61));clear eo61;have HCL:=aa (q03 qgb (Kp.refl (b:=b) hS.kp.wt) hS.kp.wt (HP3.out.mono hS.kp.hist.ext (af _)) (hS.ls lo56) ⟨hm0,hm1⟩);refine qx.qc.mono (R:=λv W2=>CM W0 T4 W b v W2) ?_ (λv W2 h=>?_)
    .go_simp;refine HCL.out.mono ?_;rintro e W2 ⟨v,rfl,h⟩;exact⟨_,rfl,h⟩
    .obtain⟨T2,cs,nk,hk,hv,hc,hn⟩:=id h;exact⟨T2,(hS.grow hk).put hLi (λx hx=>by cases hx) kg (λ_=>⟨cs,nk,hv,hc,hn⟩) kg kg kg kg⟩
   .cases oi ho;clear ho;obtain⟨lo62,eo62⟩:=qh 62 nd;have qd4:a.tmps[62]?.getD mc=vals 15:=gdq eo62;clear eo62;refine qx.qc.eq (v:=vals 15) ?_ ⟨T4,hS.put hLi (λx hx=>by cases hx) kg (λ_=>hS.tu 15 (.inl rfl) lo62) kg kg kg kg⟩;go_simp
    all_goals(try exact⟨rfl,rfl⟩)
   .cases oi ho;clear ho;obtain⟨lo46,eo46⟩:=qh 46 nd;have qr3:a.tmps[46]?.getD mc=vals 16:=gdq eo46;clear eo46;refine qx.qc.mono (R:=λv W2=>∃cs nk,vals 16=nq #[.agg cs,U O nk]/\TyValc W0 T4 W 0 que (.agg cs)/\qdd nk/\v=.agg cs/\W2=W) ?_ (λv W2 h=>?_)
    .obtain⟨cs,nk,q1,q2,q3⟩:=hS.tu 16 (.inr rfl) lo46;have HQ1:=aa q1;have HQ2:=aa q2;have HQ3:=aa q3;rw[q1] at qr3;clear q1 q2 q3;go_simp;exact⟨cs,nk,HQ1.out,HQ2.out,HQ3.out,rfl,rfl⟩
    .obtain⟨cs,nk,q1,q2,q3,rfl,rfl⟩:=h;exact⟨T4,hS.put hLi (λx hx=>by cases hx) kg kg (λ_=>⟨cs,rfl,q2⟩) kg kg kg⟩
   .cases oi ho;clear ho;obtain⟨lo46,eo46⟩:=qh 46 nd;have qr3:a.tmps[46]?.getD mc=vals 16:=gdq eo46;clear eo46;refine qx.qc.mono (R:=λv W2=>∃cs nk,vals 16=nq #[.agg cs,U O nk]/\TyValc W0 T4 W 0 que (.agg cs)/\qdd nk/\v=U O nk/\W2=W) ?_ (λv W2 h=>?_)
    .obtain⟨cs,nk,q1,q2,q3⟩:=hS.tu 16 (.inr rfl) lo46;have HQ1:=aa q1;have HQ2:=aa q2;have HQ3:=aa q3;rw[q1] at qr3;clear q1 q2 q3;go_simp;exact⟨cs,nk,HQ1.out,HQ2.out,HQ3.out,rfl,rfl⟩
    .obtain⟨cs,nk,q1,q2,q3,rfl,rfl⟩:=h;exact⟨T4,hS.put hLi (λx hx=>by cases hx) kg kg kg (λ_=>⟨nk,rfl,q3⟩) kg kg⟩
   .cases oi ho;clear ho
    have n20:L 20=ns:=by
     cases hq:L 20 with
     | false=>rfl
     | true=>have:=hdn 20 19 _ rfl hq ki;rw[hLi] at this;cases this
    refine q3g (r':=.ok (.value (nj (I ⟨W.heap.size,0,V⟩))) (W.alloc (.cells zF 98))) ki ?_;exact⟨T4,hS.alloc hLi n20 (bf hb3 hS.kp.hist.size) rfl rfl⟩
   .cases oi ho;clear ho;obtain⟨lo7,eo7⟩:=qh 7 nd;have h7:a.tmps[7]?.getD mc=vals 19:=gdq eo7;obtain⟨lo63,eo63⟩:=qh 63 nd;have h63:a.tmps[63]?.getD mc=vals 17:=gdq eo63;obtain⟨gb,old,q1,q2,q3,q4,q5,-⟩:=hS.bx lo7;obtain⟨cs,r1,r2⟩:=hS.rc lo63;obtain⟨r3,r4⟩:=rc_of r2;have hTb:=(qzc hS.kp.wt (HP3.out.mono hS.kp.hist.ext (af _))).1;exact RegA.qpq 98 (.tmp 7) (.tmp 63) rfl gb (eo7.trans q1) cs old (eo63.trans r1) q4 (by rw[r3];kernel_rfl) kg r4 ⟨T4,hS.store q1 hLi lo7 q2 q3 q4 hTb r3 r2 hz0 rfl⟩
   .cases oi ho;clear ho;obtain⟨lo64,eo64⟩:=qh 64 nd;have h64:a.tmps[64]?.getD mc=vals 18:=gdq eo64;clear eo64;refine qx.qc.eq (v:=vals 18) ?_ ⟨T4,hS.put hLi (λx hx=>by cases hx) kg kg kg (λ_=>hS.er 18 (.inl rfl) lo64) kg kg⟩;go_simp
    all_goals(try exact⟨rfl,rfl⟩)
  .intro L vals W hall hS0;obtain⟨T4,hS⟩:=hS0;obtain⟨g8,rcs,n21,e19,e21,hn21,hC⟩:=hS.fin hall;clear hS hall;simp only[qx.puts,qx.zi,ay,dc,if_true,cq,df,e19,e21];clear e19 e21;generalize vals 0=v0;generalize vals 1=v1;generalize vals 2=v2;generalize vals 3=v3;generalize vals 4=v4;generalize vals 5=v5;generalize vals 6=v6;generalize vals 7=v7;generalize vals 8=v8;generalize vals 9=v9;generalize vals 10=v10;generalize vals 11=v11;generalize vals 12=v12;generalize vals 13=v13;generalize vals 14=v14;generalize vals 15=v15;generalize vals 16=v16;generalize vals 17=v17;generalize vals 18=v18;generalize vals 20=v20;simp[ez];have HC:=aa hC;clear hC;by_cases z21:n21=0
   .subst z21;have l6:=HCr.out W HC.out.kp.blk;have HD:Hid (∀W2:nu,Below W.heap.size W W2->W2.cell? ⟨b,off+7,V⟩=I (ng A6 n6' c6')):=λW2 h=>HCr.out W2 ((h.block b (bf hb3 HC.out.kp.hist.size)).trans HC.out.kp.blk)
    go_upto_region 11 with(fail);go_wp2_with fail;clear l6;generalize hWg:W=w8 at *;clear hWg;go_loopg [73] n6' (λgg s73 wr=>∃j:Nat,j+gg=n6'/\s73=U O j/\Hid (Below w8.heap.size w8 wr))
    case atStart=>exact⟨0,kg,rfl,aa (aj _ _)⟩
    case round=>
     obtain⟨j,hj,rfl,HB⟩:=hrel;by_cases hjn:j<n6'
     .obtain⟨b6,o6,r,rfl,hrl,hrt,hcl⟩:=qtb HC.out.kp.wt rfl (CV.mono HR6.out HC.out.kp.hist.ext (af _)) hjn;obtain⟨t0,t1,m2,t3,m4,m5,B6,mm,cc,m7,m8,b9,b10,rfl⟩:=q2d hrl hrt;have hcw:=hcl wr HB.out;have kb:mg wr g3 95 (qqc s0 s1 n2 n3 n4 n5 s6 b7 n8 (ng B m c)):=mg.call ((HC.out.kp.hist.keep g3 hg3l (.inr HG3'.out)).trans HE3.out) HB.out;have e0:∀ob,(wr.alloc ob).cell? ⟨g3,0,V⟩=I (nh s0):=λob=>(kb.alloc ob).cell 0
      have e1:∀ob,(wr.alloc ob).cell? ⟨g3,1,V⟩=I (nh s1):=λob=>(kb.alloc ob).cell 1
      have k0:wr.cell? ⟨b6,o6+j*11,V⟩=I (nh t0):=by simpa using hcw 0 _ rfl
      have k1:wr.cell? ⟨b6,o6+j*11+1,V⟩=_:=hcw 1 _ rfl;have k2:wr.cell? ⟨b6,o6+j*11+2,V⟩=_:=hcw 2 _ rfl;have k3:wr.cell? ⟨b6,o6+j*11+3,V⟩=_:=hcw 3 _ rfl;have k4:wr.cell? ⟨b6,o6+j*11+4,V⟩=_:=hcw 4 _ rfl;have k5:wr.cell? ⟨b6,o6+j*11+5,V⟩=_:=hcw 5 _ rfl;have k6:wr.cell? ⟨b6,o6+j*11+6,V⟩=_:=hcw 6 _ rfl;have k7:wr.cell? ⟨b6,o6+j*11+7,V⟩=_:=hcw 7 _ rfl;have k8:wr.cell? ⟨b6,o6+j*11+8,V⟩=_:=hcw 8 _ rfl;have k9:wr.cell? ⟨b6,o6+j*11+9,V⟩=_:=hcw 9 _ rfl;have k10:wr.cell? ⟨b6,o6+j*11+10,V⟩=_:=hcw 10 _ rfl;clear hcw hcl hrt hrl kb;have hltz:(j:Int)<(n6':Int):=kg;have hj0:(0:Int)<=(j:Int):=kg;have e4:IntKind.i64.wrap ((j:Int)+1)=((j+1:Nat):Int):=by simp[IntKind.wrap,IntKind.bits,IntKind.signed];omega
      go_wp2_with fail
      all_goals first
       | (go_roundg (n6'-(j+1))<;>first
           | omega
           | exact⟨j+1,kg,kq,aa (qp HB.out _)⟩)
       | (go_ret
          have hC2:=HC.out.below (bf hb3 HC.out.kp.hist.size) (qp HB.out (.cells #[nh t0,nh t1,U O m2,nh t3,U O m4,U O m5,ng B6 mm cc,U O m7,U O m8,ni b9,ni b10] 98))
          exact⟨0,rfl,kj,kj,T4,hC2.kp.wt,(HH1.out.comp HH3.out).comp hC2.kp.hist⟩)
     .have xm:n6'=j:=kg;subst xm;go_wp2_with fail;have HC9:=aa (HC.out.below (bf hb3 HC.out.kp.hist.size) HB.out);have HP9:=aa (HP3.out.mono HC9.out.kp.hist.ext (af _));have HR9:=aa (CV.mono HR6.out HC9.out.kp.hist.ext (af _));have hb9:=(qzc HC9.out.kp.wt HP9.out).2.1;have HD9:Hid (∀W:nu,W.heap[b]? = wr.heap[b]?->W.cell? ⟨b,off+7,V⟩=I (ng A6 n6' c6')):=λW h=>HCr.out W (h.trans HC9.out.kp.blk)
      have hn6z:n6'<=1000:=kg;refine Reg9D.region 12 (λL vals W=>∃T',qa5 W0 (λkz=>match kz with|0=>I (nj (I ⟨b,off,V⟩))|1=>I (nj (I ⟨b,off,V⟩))|2=>I (nj (I ⟨b,off,V⟩))|3=>I (nj (I ⟨b,off,V⟩))|4=>I (nj (I ⟨b,off+7,V⟩))|5=>I (ng A6 n6' c6')|6=>I (.agg rcs)|9=>I (nj (I ⟨b,off,V⟩))|10=>I (nj (I ⟨b,off,V⟩))|11=>I (nj (I ⟨b,off+7,V⟩))|_=>V) T4 wr b g8 n6' rcs T' L vals W) ki ki (qx.qqq (n:=102) ki rfl) ⟨T4,⟨(Kp.refl HC9.out.kp.wt).below hb9 (tg (aj _ _)),HC9.out.no,HC9.out.blk,qql (zh HC9.out.kp.wt (tg (aj _ _))).2 HC9.out.ty⟩,λ_ _ _ h=>(by cases h),λh=>(by cases h),λh=>(by cases h)⟩ ?_ ?_
      .intro j o hj ho L vals a W hLi hS0 hed qh hdn;obtain⟨T5,hS⟩:=hS0;have hj':j=0\/j=1\/j=2\/j=3\/j=4\/j=5\/j=6\/j=7\/j=8\/j=9\/j=10\/j=11:=kg;clear hj;rcases hj' with rfl|rfl|rfl|rfl|rfl|rfl|rfl|rfl|rfl|rfl|rfl|rfl
       .cases oi ho;clear ho;have h0:a.tmps[0]?.getD mc=nj (I ⟨b,off,V⟩):=qx.gdt (qh 0 nd);refine qx.qc.eq (v:=nj (I ⟨b,off,V⟩)) ?_ ⟨T5,hS.put (λx hx=>oi hx) kg kg⟩;go_simp
        all_goals(try exact⟨rfl,rfl⟩)
       .cases oi ho;clear ho;have h0:a.tmps[0]?.getD mc=nj (I ⟨b,off,V⟩):=qx.gdt (qh 0 nd);refine qx.qc.eq (v:=nj (I ⟨b,off,V⟩)) ?_ ⟨T5,hS.put (λx hx=>oi hx) kg kg⟩;go_simp
        all_goals(try exact⟨rfl,rfl⟩)
       .cases oi ho;clear ho;obtain⟨lo91,eo91⟩:=qh 91 nd;have h91:a.tmps[91]?.getD mc=nj (I ⟨b,off,V⟩):=gdq (eo91.trans (hS.kn 1 _ rfl lo91));clear eo91;refine qx.qc.eq (v:=nj (I ⟨b,off,V⟩)) ?_ ⟨T5,hS.put (λx hx=>oi hx) kg kg⟩;go_simp
        all_goals(try exact⟨rfl,rfl⟩)
       .cases oi ho;clear ho;obtain⟨lo92,eo92⟩:=qh 92 nd;have h92:a.tmps[92]?.getD mc=nj (I ⟨b,off,V⟩):=gdq (eo92.trans (hS.kn 2 _ rfl lo92));clear eo92;refine qx.qc.eq (v:=nj (I ⟨b,off,V⟩)) ?_ ⟨T5,hS.put (λx hx=>oi hx) kg kg⟩;go_simp
        all_goals(try exact⟨rfl,rfl⟩)
       .cases oi ho;clear ho;obtain⟨lo93,eo93⟩:=qh 93 nd;have h93:a.tmps[93]?.getD mc=nj (I ⟨b,off,V⟩):=gdq (eo93.trans (hS.kn 3 _ rfl lo93));clear eo93;refine qx.qc.eq (v:=nj (I ⟨b,off+7,V⟩)) ?_ ⟨T5,hS.put (λx hx=>oi hx) kg kg⟩;go_simp
        all_goals(try exact⟨rfl,rfl⟩)
       .cases oi ho;clear ho;obtain⟨lo94,eo94⟩:=qh 94 nd;have h94:a.tmps[94]?.getD mc=nj (I ⟨b,off+7,V⟩):=gdq (eo94.trans (hS.kn 4 _ rfl lo94));clear eo94;have l5:=HD9.out W hS.c8.kp.blk;refine qx.qc.eq (v:=ng A6 n6' c6') ?_ ⟨T5,hS.put (λx hx=>oi hx) kg kg⟩;go_simp
        all_goals(try exact⟨rfl,rfl⟩)
       .cases oi ho;clear ho;have h7:a.tmps[7]?.getD mc=nj (I ⟨g8,0,V⟩):=qx.gdt (qh 7 nd);obtain⟨t0,t1,m2,t3,m4,m5,B6,mm,cc,m7,m8,b9,b10,er⟩:=rc_lit hS.c8.ty;have kb:=hS.c8.blk;rw[er] at kb;have kc:=kb.cell;clear kb;have ER:=aa er;clear er;refine qx.qc.eq (v:=.agg #[nh t0,nh t1,U O m2,nh t3,U O m4,U O m5,ng B6 mm cc,U O m7,U O m8,ni b9,ni b10]) ?_ ⟨T5,hS.put (λx hx=>by rw[<-ER.out];exact oi hx) kg kg⟩;go_simp
        all_goals(try exact⟨rfl,rfl⟩)
       .cases oi ho;clear ho;obtain⟨lo96,eo96⟩:=qh 96 nd;have h96:a.tmps[96]?.getD mc=.agg rcs:=gdq (eo96.trans (hS.kn 6 _ rfl lo96));exact qa5.build rfl hS (HP9.out.mono hS.c8.kp.hist.ext (af _)) (eo96.trans (hS.kn 6 _ rfl lo96)) rfl
       .cases oi ho;clear ho;obtain⟨lo95,eo95⟩:=qh 95 nd;have h95:a.tmps[95]?.getD mc=ng A6 n6' c6':=gdq (eo95.trans (hS.kn 5 _ rfl lo95));obtain⟨lo97,eo97⟩:=qh 97 nd;obtain⟨Ab,cb,q1,q2⟩:=hS.bs lo97;exact qa5.append rfl hS (HP9.out.mono hS.c8.kp.hist.ext (af _)) (eo95.trans (hS.kn 5 _ rfl lo95)) (eo97.trans q1) (CV.mono HR9.out hS.c8.kp.hist.ext (af _)) q2 hn6z rfl
       .cases oi ho;clear ho;obtain⟨lo90,eo90⟩:=qh 90 nd;have h90:a.tmps[90]?.getD mc=nj (I ⟨b,off,V⟩):=gdq (eo90.trans (hS.kn 0 _ rfl lo90));clear eo90;refine qx.qc.eq (v:=nj (I ⟨b,off,V⟩)) ?_ ⟨T5,hS.put (λx hx=>oi hx) kg kg⟩;go_simp
        all_goals(try exact⟨rfl,rfl⟩)
       .cases oi ho;clear ho;obtain⟨lo99,eo99⟩:=qh 99 nd;have h99:a.tmps[99]?.getD mc=nj (I ⟨b,off,V⟩):=gdq (eo99.trans (hS.kn 9 _ rfl lo99));clear eo99;refine qx.qc.eq (v:=nj (I ⟨b,off,V⟩)) ?_ ⟨T5,hS.put (λx hx=>oi hx) kg kg⟩;go_simp
        all_goals(try exact⟨rfl,rfl⟩)
       .cases oi ho;clear ho;obtain⟨lo100,eo100⟩:=qh 100 nd;have h100:a.tmps[100]?.getD mc=nj (I ⟨b,off,V⟩):=gdq (eo100.trans (hS.kn 10 _ rfl lo100));clear eo100;refine qx.qc.eq (v:=nj (I ⟨b,off+7,V⟩)) ?_ ⟨T5,hS.put (λx hx=>oi hx) kg kg⟩;go_simp
        all_goals(try exact⟨rfl,rfl⟩)
      .intro L vals W hall hS0;obtain⟨T5,hS⟩:=hS0;obtain⟨A9,c9,e8,hc9⟩:=hS.ap (hall 8 kg);have e11:vals 11=nj (I ⟨b,off+7,V⟩):=hS.kn 11 _ rfl (hall 11 kg);have HK9:=aa hS.c8.kp;have HC10:=aa hc9;clear hS hall hc9;simp only[qx.puts,qx.zi,ay,dc,if_true,cq,df,e8,e11];clear e8 e11;generalize vals 0=v0;generalize vals 1=v1;generalize vals 2=v2;generalize vals 3=v3;generalize vals 4=v4;generalize vals 5=v5;generalize vals 6=v6;generalize vals 7=v7;generalize vals 9=v9;generalize vals 10=v10;simp[ez];have l7:=HD9.out W HK9.out.blk;have f7:=qvg HK9.out.wt (qzc HK9.out.wt (HP9.out.mono HK9.out.hist.ext (af _))).1 l7;go_wp2_with fail;go_ret;obtain⟨j1,j2,j3⟩:=q0p HK9.out.wt (HP9.out.mono HK9.out.hist.ext (af _)) l7 HC10.out;exact⟨0,rfl,kj,kj,T5,j1,(((HH1.out.comp HH3.out).comp HC9.out.kp.hist).comp HK9.out.hist).comp j3⟩
   .have z21z:(n21 != 0)=nr:=by simpa using z21
    go_wp2_with fail;go_ret;exact⟨0,rfl,kj,kj,T4,HC.out.kp.wt,(HH1.out.comp HH3.out).comp HC.out.kp.hist⟩
end
open Go.RowKit
section
variable {W0:nu}
def qwf:zu:=⟨[.one (.pt 1 80),evT],[],[.one (.int O 0 25)],[],.kp,V⟩
theorem qmp(qgl:qm ab cx W0 134 qly)(qgb:qm ab cx W0 135 qlq)(qgg:qm ab cx W0 136 qri):qm ab cx W0 116 qwf:=by
 refine⟨⟨_,ade,ki,ki⟩,λT w args hw hty hpre=>?_⟩;obtain⟨l⟩:=args;have hl:=uk hty
 obtain⟨p,e,rfl⟩:∃p e,l=[p,e]:=by
  rcases l with _|⟨a,_|⟨b,_|⟨c,l⟩⟩⟩<;>first|(simp[qwf] at hl;done)|exact⟨_,_,rfl⟩
 obtain⟨hp,he,-⟩:=hty;obtain⟨cs,rfl,-⟩:=id he;obtain⟨s0,s1,n2,n3,n4,n5,s6,b7,n8,B,m,c,rfl⟩:=evA_of he;obtain⟨b,off,rfl,-⟩:=id hp;refine(qo1 qgl qgb qgg hw hp s0 s1 n2 n3 n4 n5 s6 b7 n8 B m c he).mono ?_;rintro e w' ⟨k,rfl,k1,k2,T',h1,h2⟩;exact⟨U O k,[U O k],T',rfl,rfl,⟨⟨k,rfl,k1,k2⟩,trivial⟩,(λl hl=>by cases hl),(λe he=>by cases he),h2,h1⟩
end
end Sy
end Go.Proofs.YtmadfhgiaonnlaaGreatDoor
